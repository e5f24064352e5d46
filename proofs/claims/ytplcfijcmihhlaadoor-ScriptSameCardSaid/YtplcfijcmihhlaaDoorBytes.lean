/-
  A slice of integers of any kind that is read.
-/
import Derived.Test.YtplcfijcmihhlaaDoorCommon
import Derived.WalkKit
import Derived.Below
namespace Go.Proofs.YtplcfijcmihhlaaDoor
open Go.RowKit
set_option linter.unusedVariables false

/-- The value v is a slice that reads as the integers l of kind q, in a block below B; empty and nil ones let in. -/
def IntsK (q : IntKind) (W : World) (B : Nat) (v : Value) (l : List Int) : Prop :=
  ∃ A cap, v = .slice A l.length cap ∧ l.length ≤ cap ∧ cap ≤ maxLen ∧
    (l ≠ [] → ∃ b off, A = some ⟨b, off, none⟩ ∧ b < B ∧ ∀ j, j < l.length → W.cell? ⟨b, off + j, none⟩ = some (.int q (l[j]?.getD 0)))
theorem IntsK.below {q : IntKind} {W W' : World} {B : Nat} {v : Value} {l : List Int} (h : IntsK q W B v l) (hb : Below B W W') : IntsK q W' B v l := by
  obtain ⟨A, cap, e, h1, h2, h3⟩ := h
  refine ⟨A, cap, e, h1, h2, fun hn => ?_⟩
  obtain ⟨b, off, e', hlt, hc⟩ := h3 hn
  exact ⟨b, off, e', hlt, fun j hj => (hb.cell (p := ⟨b, off + j, none⟩) hlt).trans (hc j hj)⟩

end Go.Proofs.YtplcfijcmihhlaaDoor
