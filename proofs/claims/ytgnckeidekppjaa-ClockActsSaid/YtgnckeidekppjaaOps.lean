/-
  A slice of calls (layer 15's Op: three cells an element) that is read.
-/
import Derived.Test.YtgnckeidekppjaaCommon
import Derived.Test.YtgnckeidekppjaaProg
import Derived.WalkKit
import Derived.Below
namespace Go.Proofs.Ytgnckeidekppjaa
open Go.RowKit
set_option linter.unusedVariables false

structure OpV where
  kind : Int
  id : Int
  n : Int
instance : Inhabited OpV := ⟨⟨0, 0, 0⟩⟩
def OpV.ok (o : OpV) : Prop := (Lit.int .u8 o.kind).wf = true ∧ (Lit.int .i64 o.id).wf = true ∧ (Lit.int .i64 o.n).wf = true

def OpsAt (W : World) (B : Nat) (v : Value) (l : List OpV) : Prop :=
  ∃ A cap, v = .slice A l.length cap ∧ l.length ≤ cap ∧ cap ≤ maxLen ∧ (∀ o ∈ l, o.ok) ∧
    (l ≠ [] → ∃ b off, A = some ⟨b, off, none⟩ ∧ b < B ∧ ∀ j, j < l.length →
      W.cell? ⟨b, off + j * 3, none⟩ = some (.int .u8 (l[j]?.getD default).kind) ∧ W.cell? ⟨b, off + j * 3 + 1, none⟩ = some (.int .i64 (l[j]?.getD default).id) ∧ W.cell? ⟨b, off + j * 3 + 2, none⟩ = some (.int .i64 (l[j]?.getD default).n))

end Go.Proofs.Ytgnckeidekppjaa
