/-
  An argument that is a slice of layer 22's events, opened.
-/
import Derived.Test.YtplcfijcmihhlaaDoorKit
import Derived.Test.YtplcfijcmihhlaaDoorEvents
import Derived.Carry
import Derived.Deep.Slices
import Derived.OpenShut
namespace Go.Proofs.YtplcfijcmihhlaaDoor
open Go.ChangeShapes Go.WideShapes Go.ChangeAt Go.RowKit
set_option linter.unusedVariables false
set_option linter.unusedSimpArgs false

section
variable {H : Type} {enc : TypeId × Value → H} {W : World} {base : Nat} {sp : Nat → Bool} {held : Bool}
set_option maxRecDepth 100000 in
theorem open_evsV {r : Reach} {b0 : Nat} {v : Value} {d : DataW H} {ps : List MemPlace}
    (hval : Value.okWide Tryd.prog W r b0 28 v) (hd : DataW.Trod enc Tryd.prog W base sp held 28 v d ps) : ∃ l, EventsAt W W.heap.size v l := by
  obtain ⟨a0, len, cap, rfl⟩ := okWide_slice Tryd.underlying28 hval
  obtain ⟨fuel, hf⟩ := hd
  have hc3 : Tryd.prog.cellsOf 32 = 7 := by kernel_rfl
  rcases Deep.open_slice Tryd.underlying28 hf with ⟨hcs, hx⟩ | ⟨a, len', cap', m, n, D, Pl, hcs, _, hle, hmax, hm, hx, hel⟩
  · simp [Value.cells] at hcs
    obtain ⟨rfl, rfl, rfl⟩ := hcs
    exact ⟨[], none, 0, rfl, Nat.le_refl _, by unfold maxLen; omega, fun h => absurd rfl h⟩
  · simp [Value.cells] at hcs
    obtain ⟨rfl, rfl, rfl⟩ := hcs
    have hlm : len ≤ m := by rw [hm]; split <;> omega
    have each : ∀ i, i < len → ∃ o : EvV, W.cell? ((a.add (i * 7)).add 0) = some (.int .i64 o.a) ∧ W.cell? ((a.add (i * 7)).add 1) = some (.int .i64 o.b) ∧ W.cell? ((a.add (i * 7)).add 2) = some (.int .i64 o.c) ∧ W.cell? ((a.add (i * 7)).add 3) = some (.int .i64 o.d) ∧ W.cell? ((a.add (i * 7)).add 4) = some (.int .i64 o.e) ∧ W.cell? ((a.add (i * 7)).add 5) = some (.int .i64 o.f) ∧ W.cell? ((a.add (i * 7)).add 6) = some (.int .i64 o.g) := by
      intro i hi
      obtain ⟨cs', hcells, htr⟩ := hel i (by omega)
      rw [hc3] at hcells
      obtain ⟨ys, mm, _, hy, hyl, hyn, hf⟩ := DataW.trod_struct Tryd.underlying32 htr
      rw [hc3] at hyl
      obtain ⟨u0, u1, u2, u3, u4, u5, u6, rfl⟩ : ∃ u0 u1 u2 u3 u4 u5 u6, cs' = [u0, u1, u2, u3, u4, u5, u6] := by
        match cs', hyl with
        | [u0, u1, u2, u3, u4, u5, u6], _ => exact ⟨u0, u1, u2, u3, u4, u5, u6, rfl⟩
      obtain ⟨y0, y1, y2, y3, y4, y5, y6, rfl⟩ : ∃ y0 y1 y2 y3 y4 y5 y6, ys = [y0, y1, y2, y3, y4, y5, y6] := by
        match ys, hyn with
        | [y0, y1, y2, y3, y4, y5, y6], _ => exact ⟨y0, y1, y2, y3, y4, y5, y6, rfl⟩
      have c3 : Tryd.prog.cellsOf 3 = 1 := by kernel_rfl
      have f0 := hf 0 _ rfl
      have f1 := hf 1 _ rfl
      have f2 := hf 2 _ rfl
      have f3 := hf 3 _ rfl
      have f4 := hf 4 _ rfl
      have f5 := hf 5 _ rfl
      have f6 := hf 6 _ rfl
      simp [c3] at f0 f1 f2 f3 f4 f5 f6
      obtain ⟨k0, e0, _, _⟩ := DataW.trod_int Tryd.underlying3 f0
      obtain ⟨k1, e1, _, _⟩ := DataW.trod_int Tryd.underlying3 f1
      obtain ⟨k2, e2, _, _⟩ := DataW.trod_int Tryd.underlying3 f2
      obtain ⟨k3, e3, _, _⟩ := DataW.trod_int Tryd.underlying3 f3
      obtain ⟨k4, e4, _, _⟩ := DataW.trod_int Tryd.underlying3 f4
      obtain ⟨k5, e5, _, _⟩ := DataW.trod_int Tryd.underlying3 f5
      obtain ⟨k6, e6, _, _⟩ := DataW.trod_int Tryd.underlying3 f6
      simp at e0 e1 e2 e3 e4 e5 e6
      subst e0 e1 e2 e3 e4 e5 e6
      have hcl := (World.cells?_some hcells).2.2
      refine ⟨⟨k0, k1, k2, k3, k4, k5, k6⟩, ?_, ?_, ?_, ?_, ?_, ?_, ?_⟩
      · simpa [Addr.add] using hcl 0 (by omega)
      · simpa using hcl 1 (by omega)
      · simpa using hcl 2 (by omega)
      · simpa using hcl 3 (by omega)
      · simpa using hcl 4 (by omega)
      · simpa using hcl 5 (by omega)
      · simpa using hcl 6 (by omega)
    obtain ⟨O, hO⟩ := Deep.choose_lt each
    have hll : ((List.range len).map O).length = len := by simp
    have hget : ∀ j, j < len → ((List.range len).map O)[j]?.getD default = O j := fun j hj => by simp [hj]
    refine ⟨(List.range len).map O, some a, cap, by rw [hll], by omega, hmax, fun hn => ?_⟩
    have hpos : 0 < len := by
      rcases Nat.eq_zero_or_pos len with h | h
      · subst h; simp at hn
      · exact h
    obtain ⟨b, off, spot⟩ := a
    have hspot : spot = none := by simpa [Addr.add] using World.cell?_spot (hO 0 hpos).1
    subst hspot
    refine ⟨b, off, rfl, ?_, fun j hj => ?_⟩
    · have h0 := (hO 0 hpos).1
      rw [add_plain, add_plain] at h0
      apply Classical.byContradiction
      intro hge
      have he : W.heap[b]? = none := by simp; omega
      simp [World.cell?, he] at h0
    · rw [hll] at hj
      rw [hget j hj]
      obtain ⟨h0, h1, h2, h3, h4, h5, h6⟩ := hO j hj
      simp only [add_plain] at h0 h1 h2 h3 h4 h5 h6
      exact ⟨h0, h1, h2, h3, h4, h5, h6⟩
end
end Go.Proofs.YtplcfijcmihhlaaDoor
