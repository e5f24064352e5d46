/-
  An argument that is a slice of bytes: opened as a list, and read again behind the call.
-/
import Derived.Test.YtplcfijcmihhlaaDoorKit
import Derived.Test.YtplcfijcmihhlaaDoorBytes
import Derived.Carry
import Derived.ChangeSlices
import Derived.OpenShut
namespace Go.Proofs.YtplcfijcmihhlaaDoor
open Go.ChangeShapes Go.WideShapes Go.ChangeAt Go.RowKit
set_option linter.unusedVariables false
set_option linter.unusedSimpArgs false

theorem Tryd.laidOut : laidOutB Tryd.prog = true := by kernel_rfl

section
variable {H : Type} {enc : TypeId × Value → H} {P : Program} {W : World} {base : Nat} {sp : Nat → Bool} {held : Bool}
theorem open_bytesV {r : Reach} {b0 : Nat} {t e : TypeId} {v : Value} {d : DataW H} {ps : List MemPlace} (ht : P.underlying t = some (.slice e)) (he : P.underlying e = some (.int .u8)) (hc : P.cellsOf e = 1)
    (hval : Value.okWide P W r b0 t v) (hd : DataW.Trod enc P W base sp held t v d ps) : ∃ l, IntsK .u8 W W.heap.size v l ∧ ∀ x ∈ l, 0 ≤ x ∧ x ≤ 255 := by
  obtain ⟨a0, len, cap, rfl⟩ := okWide_slice ht hval
  obtain ⟨fuel, hf⟩ := hd
  rcases open_ints ht he hc hf with ⟨hcs, hx⟩ | ⟨a, len', cap', xs, hcs, _, hle, hmax, hall, hx, hcell, hwf⟩
  · simp [Value.cells] at hcs
    obtain ⟨rfl, rfl, rfl⟩ := hcs
    exact ⟨[], ⟨none, 0, rfl, Nat.le_refl _, by unfold maxLen; omega, fun h => absurd rfl h⟩, fun x hx => by simp at hx⟩
  · simp [Value.cells] at hcs
    obtain ⟨rfl, rfl, rfl⟩ := hcs
    have hlx : len ≤ xs.length := by rw [hall]; split <;> omega
    have hll : (xs.take len).length = len := by rw [List.length_take]; omega
    refine ⟨xs.take len, ⟨some a, cap, by rw [hll], by omega, by omega, fun hn => ?_⟩, fun x hx => bounds_u8 (hwf x (List.mem_of_mem_take hx))⟩
    have hpos : 0 < len := by
      rcases Nat.eq_zero_or_pos len with h | h
      · subst h; simp at hn
      · exact h
    obtain ⟨b, off, rfl, hc⟩ := ints_at hcell (by omega)
    refine ⟨b, off, rfl, ?_, fun j hj => ?_⟩
    · have := hc 0 (by omega)
      apply Classical.byContradiction
      intro hge
      have he : W.heap[b]? = none := by simp; omega
      simp [World.cell?, he] at this
    · rw [hll] at hj
      rw [hc j (by omega)]
      simp [List.getElem?_take, hj]
end
end Go.Proofs.YtplcfijcmihhlaaDoor
