/-
  An argument that is a slice of layer 15's Op, opened.
-/
import Derived.Test.YtgnckeidekppjaaKit
import Derived.Test.YtgnckeidekppjaaOps
import Derived.Carry
import Derived.Deep.Slices
import Derived.OpenShut
namespace Go.Proofs.Ytgnckeidekppjaa
open Go.ChangeShapes Go.WideShapes Go.ChangeAt Go.RowKit
set_option linter.unusedVariables false
set_option linter.unusedSimpArgs false

section
variable {H : Type} {enc : TypeId × Value → H} {W : World} {base : Nat} {sp : Nat → Bool} {held : Bool}
set_option maxRecDepth 100000 in
theorem open_opsV {r : Reach} {b0 : Nat} {v : Value} {d : DataW H} {ps : List MemPlace}
    (hval : Value.okWide Try.prog W r b0 46 v) (hd : DataW.Trod enc Try.prog W base sp held 46 v d ps) : ∃ l, OpsAt W W.heap.size v l := by
  obtain ⟨a0, len, cap, rfl⟩ := okWide_slice Try.underlying46 hval
  obtain ⟨fuel, hf⟩ := hd
  have hc3 : Try.prog.cellsOf 53 = 3 := by kernel_rfl
  rcases Deep.open_slice Try.underlying46 hf with ⟨hcs, hx⟩ | ⟨a, len', cap', m, n, D, Pl, hcs, _, hle, hmax, hm, hx, hel⟩
  · simp [Value.cells] at hcs
    obtain ⟨rfl, rfl, rfl⟩ := hcs
    exact ⟨[], none, 0, rfl, Nat.le_refl _, by unfold maxLen; omega, fun o ho => by simp at ho, fun h => absurd rfl h⟩
  · simp [Value.cells] at hcs
    obtain ⟨rfl, rfl, rfl⟩ := hcs
    have hlm : len ≤ m := by rw [hm]; split <;> omega
    have each : ∀ i, i < len → ∃ o : OpV, o.ok ∧ W.cell? (a.add (i * 3)) = some (.int .u8 o.kind) ∧ W.cell? ((a.add (i * 3)).add 1) = some (.int .i64 o.id) ∧ W.cell? ((a.add (i * 3)).add 2) = some (.int .i64 o.n) := by
      intro i hi
      obtain ⟨cs', hcells, htr⟩ := hel i (by omega)
      rw [hc3] at hcells
      obtain ⟨ys, mm, _, hy, hyl, hyn, hf⟩ := DataW.trod_struct Try.underlying53 htr
      rw [hc3] at hyl
      obtain ⟨u0, u1, u2, rfl⟩ : ∃ u0 u1 u2, cs' = [u0, u1, u2] := by
        match cs', hyl with
        | [u0, u1, u2], _ => exact ⟨u0, u1, u2, rfl⟩
      obtain ⟨y0, y1, y2, rfl⟩ : ∃ y0 y1 y2, ys = [y0, y1, y2] := by
        match ys, hyn with
        | [y0, y1, y2], _ => exact ⟨y0, y1, y2, rfl⟩
      have c5 : Try.prog.cellsOf 5 = 1 := by kernel_rfl
      have c3 : Try.prog.cellsOf 3 = 1 := by kernel_rfl
      have f0 := hf 0 _ rfl
      have f1 := hf 1 _ rfl
      have f2 := hf 2 _ rfl
      simp [c5, c3] at f0 f1 f2
      obtain ⟨k, e0, _, wk⟩ := DataW.trod_int Try.underlying5 f0
      obtain ⟨x, e1, _, wx⟩ := DataW.trod_int Try.underlying3 f1
      obtain ⟨z, e2, _, wz⟩ := DataW.trod_int Try.underlying3 f2
      simp at e0 e1 e2
      subst e0 e1 e2
      have hcl := (World.cells?_some hcells).2.2
      refine ⟨⟨k, x, z⟩, ⟨wk, wx, wz⟩, ?_, ?_, ?_⟩
      · simpa [Addr.add] using hcl 0 (by omega)
      · simpa using hcl 1 (by omega)
      · simpa using hcl 2 (by omega)
    obtain ⟨O, hO⟩ := Deep.choose_lt each
    have hll : ((List.range len).map O).length = len := by simp
    have hget : ∀ j, j < len → ((List.range len).map O)[j]?.getD default = O j := fun j hj => by simp [hj]
    refine ⟨(List.range len).map O, some a, cap, by rw [hll], by omega, hmax, fun o ho => ?_, fun hn => ?_⟩
    · obtain ⟨j, hj, rfl⟩ := List.mem_map.1 ho
      exact (hO j (List.mem_range.1 hj)).1
    · have hpos : 0 < len := by
        rcases Nat.eq_zero_or_pos len with h | h
        · subst h; simp at hn
        · exact h
      obtain ⟨b, off, spot⟩ := a
      have hspot : spot = none := by simpa [Addr.add] using World.cell?_spot (hO 0 hpos).2.1
      subst hspot
      refine ⟨b, off, rfl, ?_, fun j hj => ?_⟩
      · have h0 := (hO 0 hpos).2.1
        rw [add_plain] at h0
        apply Classical.byContradiction
        intro hge
        have he : W.heap[b]? = none := by simp; omega
        simp [World.cell?, he] at h0
      · rw [hll] at hj
        rw [hget j hj]
        have h0 := (hO j hj).2
        rw [add_plain, add_plain, add_plain] at h0
        exact h0
end
end Go.Proofs.Ytgnckeidekppjaa
