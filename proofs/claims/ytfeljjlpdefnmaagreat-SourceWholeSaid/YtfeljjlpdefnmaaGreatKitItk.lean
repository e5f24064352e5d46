/-
  The rows of layer 12: the arguments opened; the tables of the world.
-/
import Derived.Test.YtfeljjlpdefnmaaGreatKit
import Derived.Test.YtfeljjlpdefnmaaGreatInw
import Derived.Carry
import Derived.ChangeSlices
import Derived.OpenShut
import Derived.HandedShaped
import Derived.Deep.Slices
import Derived.Deep.Strs
import Derived.ChangeSame
namespace Go.Proofs.YtfeljjlpdefnmaaGreat
open Go.ChangeShapes Go.WideShapes Go.ChangeAt Go.RowKit
set_option linter.unusedVariables false
set_option linter.unusedSimpArgs false

theorem Tryz.laidOut : laidOutB Tryz.prog = true := by kernel_rfl

theorem cellJ_of_shapedOpen {P : Program} {w : World} {g : Nat} {t u : TypeId} {zero : Array Value} {ts0 : List TypeId} {k : IntKind} {j : Nat}
    (h : w.ShapedOpen P) (hg : g < P.globals.size)
    (h0 : ((begin P (fun _ _ => 0) default).world.heap[g]?).bind Obj.row? = some (zero, t))
    (hb : P.buildable t = true) (hc : P.cellTypes P.depth t = some ts0) (hj : j < zero.size) (hu0 : ts0[j % ts0.length]? = some u) (hu : P.underlying u = some (.int k)) :
    ∃ m, w.cell? ⟨g, j, none⟩ = some (.int k m) ∧ g < w.heap.size := by
  obtain ⟨cs, hh, hs, hr⟩ := h.1 g zero t hg h0
  obtain ⟨ts, hts, _, hall⟩ := hr hb
  rw [hc] at hts
  cases hts
  have h1 : j < cs.size := by omega
  obtain ⟨u', hu', hok⟩ := hall j cs[j] (by simp [h1])
  have : u' = u := by rw [hu0] at hu'; exact (Option.some.inj hu').symm
  subst this
  have hcell : w.cell? ⟨g, j, none⟩ = some cs[j] := by simp [World.cell?, hh, h1]
  rw [hcell]
  unfold Cell.ok at hok
  rw [hu] at hok
  cases hv : cs[j] <;> rw [hv] at hok <;> simp at hok
  case int k' n => exact ⟨n, by rw [hok.1], lt_of_heap hh⟩
theorem ends_of_shaped {W : World} (hs : W.ShapedOpen Tryz.prog) : ∃ e0 e1 e2 e3 e4 e5, TabR W W.heap.size e0 e1 e2 e3 e4 e5 := by
  have hJ := fun (j : Nat) (hj : j < 6) => cellJ_of_shapedOpen (g := 0) (t := 142) (u := 5) (zero := Array.replicate 6 (.int .u8 0)) (k := .u8) (ts0 := [5, 5, 5, 5, 5, 5]) (j := j) hs (of_decide_eq_true (by kernel_rfl)) (by kernel_rfl) (by kernel_rfl) (by kernel_rfl) (by simpa using hj)
    (by have : j = 0 ∨ j = 1 ∨ j = 2 ∨ j = 3 ∨ j = 4 ∨ j = 5 := by omega
        rcases this with rfl | rfl | rfl | rfl | rfl | rfl <;> rfl) Tryz.underlying5
  obtain ⟨e0, h0, hl⟩ := hJ 0 (by omega)
  obtain ⟨e1, h1, -⟩ := hJ 1 (by omega)
  obtain ⟨e2, h2, -⟩ := hJ 2 (by omega)
  obtain ⟨e3, h3, -⟩ := hJ 3 (by omega)
  obtain ⟨e4, h4, -⟩ := hJ 4 (by omega)
  obtain ⟨e5, h5, -⟩ := hJ 5 (by omega)
  obtain ⟨m, hm, hl2⟩ := cellJ_of_shapedOpen (g := 1) (t := 3) (u := 3) (zero := #[.int .i64 0]) (k := .i64) (ts0 := [3]) (j := 0) hs (of_decide_eq_true (by kernel_rfl)) (by kernel_rfl) (by kernel_rfl) (by kernel_rfl) (by simp) rfl Tryz.underlying3
  exact ⟨e0, e1, e2, e3, e4, e5, ⟨h0, h1, h2, h3, h4, h5, hl, Nat.le_refl _⟩, ⟨m, hm⟩, hl2⟩

def toB (l : List Int) : List UInt8 := l.map fun x => UInt8.ofNat x.toNat
theorem rdB_of {W : World} {v : Value} {l : List Int} (h : IntsK .u8 W W.heap.size v l) (hb : ∀ x ∈ l, 0 ≤ x ∧ x ≤ 255) : ∃ A cap, v = .slice A (toB l).length cap ∧ (toB l).length ≤ cap ∧ cap ≤ maxLen ∧ RdB W W.heap.size A (toB l) := by
  obtain ⟨A, cap, rfl, h1, h2, h3⟩ := h
  have hl : (toB l).length = l.length := by simp [toB]
  refine ⟨A, cap, by rw [hl], by rw [hl]; exact h1, h2, fun hne => ?_⟩
  obtain ⟨b, off, e, hlt, hc⟩ := h3 (by rintro rfl; exact hne rfl)
  refine ⟨b, off, e, hlt, fun j hj => ?_⟩
  rw [hl] at hj
  have hx := hb (l[j]) (List.getElem_mem hj)
  rw [hc j hj, List.getElem?_eq_getElem hj, List.getElem?_eq_getElem (by rw [hl]; exact hj)]
  simp only [Option.getD_some, toB, List.getElem_map, encU]
  congr 3
  have hn : (l[j]).toNat < 256 := by omega
  have h2 : (UInt8.ofNat (l[j]).toNat).toNat = (l[j]).toNat := UInt8.toNat_ofNat_of_lt' hn
  rw [h2]
  omega

section
variable {H : Type} {enc : TypeId × Value → H} {W : World} {base : Nat} {sp : Nat → Bool} {held : Bool}
theorem open_bytesR {r : Reach} {b0 : Nat} {t e : TypeId} {P : Program} {v : Value} {d : DataW H} {ps : List MemPlace} (ht : P.underlying t = some (.slice e)) (he : P.underlying e = some (.int .u8)) (hc : P.cellsOf e = 1)
    (hval : Value.okWide P W r b0 t v) (hd : DataW.Trod enc P W base sp held t v d ps) : ∃ l, IntsK .u8 W W.heap.size v l ∧ ∀ x ∈ l, 0 ≤ x ∧ x ≤ 255 := by
  obtain ⟨a0, len, cap, rfl⟩ := okWide_slice ht hval
  obtain ⟨fuel, hf⟩ := hd
  rcases open_ints ht he hc hf with ⟨hcs, hx⟩ | ⟨a, len', cap', xs, hcs, _, hle, hmax, hall, hx, hcell, hwf⟩
  · simp [Value.cells] at hcs
    obtain ⟨rfl, rfl, rfl⟩ := hcs
    exact ⟨[], ⟨none, 0, rfl, Nat.le_refl _, by unfold maxLen; omega, fun h => absurd rfl h⟩, fun x hx => by simp at hx⟩
  · simp [Value.cells] at hcs
    obtain ⟨rfl, rfl, rfl⟩ := hcs
    have hlx : len ≤ xs.length := by rw [hall]; split <;> omega
    have hll : (xs.take len).length = len := by rw [List.length_take]; omega
    refine ⟨xs.take len, ⟨some a, cap, by rw [hll], by omega, by omega, fun hn => ?_⟩, fun x hx => bounds_u8 (hwf x (List.mem_of_mem_take hx))⟩
    have hpos : 0 < len := by
      rcases Nat.eq_zero_or_pos len with h | h
      · subst h; simp at hn
      · exact h
    obtain ⟨b, off, rfl, hc⟩ := ints_at hcell (by omega)
    refine ⟨b, off, rfl, ?_, fun j hj => ?_⟩
    · have := hc 0 (by omega)
      apply Classical.byContradiction
      intro hge
      have he : W.heap[b]? = none := by simp; omega
      simp [World.cell?, he] at this
    · rw [hll] at hj
      rw [hc j (by omega)]
      simp [List.getElem?_take, hj]
set_option maxRecDepth 100000 in
theorem open_framing {r : Reach} {b0 : Nat} {v : Value} {d : DataW H} {ps : List MemPlace} (hval : Value.okWide Tryz.prog W r b0 25 v) (hd : DataW.Trod enc Tryz.prog W base sp held 25 v d ps) :
    ∃ k s, v = .agg #[.int .i64 k, .int .u64 s] ∧ 0 ≤ s ∧ (Lit.int .i64 k).wf = true := by
  unfold Value.okWide at hval
  rw [Tryz.underlying25] at hval
  obtain ⟨cs, rfl, hsz, _⟩ := hval
  obtain ⟨fuel, hf⟩ := hd
  obtain ⟨y0, y1, n, -, hl, f0, f1⟩ := trod_struct2 Tryz.underlying25 hf
  have k0 : Tryz.prog.cellsOf 25 = 2 := by kernel_rfl
  have k1 : Tryz.prog.cellsOf 3 = 1 := by kernel_rfl
  have k2 : Tryz.prog.cellsOf 23 = 1 := by kernel_rfl
  have hl2 : (Value.agg cs).cells.toList.length = 2 := hl.trans k0
  have hcc : (Value.agg cs).cells = cs := by simp [Value.cells]
  rw [hcc] at hl2 f0 f1
  obtain ⟨u0, u1, hcs⟩ : ∃ u0 u1, cs.toList = [u0, u1] := by
    match h : cs.toList, hl2 with
    | [u0, u1], _ => exact ⟨u0, u1, rfl⟩
  rw [hcs] at f0 f1
  simp [k1, k2] at f0 f1
  obtain ⟨a, h0, _, wa⟩ := DataW.trod_int Tryz.underlying3 f0
  obtain ⟨b, h1, _, wb⟩ := DataW.trod_int Tryz.underlying23 f1
  simp at h0 h1
  subst h0 h1
  have hcs2 : cs = #[.int .i64 a, .int .u64 b] := Array.toList_inj.1 hcs
  subst hcs2
  refine ⟨a, b, rfl, ?_, wa⟩
  simp [Lit.wf, IntKind.min, IntKind.max, IntKind.signed, IntKind.bits] at wb
  exact wb.1
set_option maxRecDepth 100000 in
theorem open_limits {r : Reach} {b0 : Nat} {v : Value} {d : DataW H} {ps : List MemPlace} (hval : Value.okWide Tryz.prog W r b0 27 v) (hd : DataW.Trod enc Tryz.prog W base sp held 27 v d ps) :
    ∃ a b c, v = .agg #[.int .i64 a, .int .i64 b, .int .i64 c] := by
  unfold Value.okWide at hval
  rw [Tryz.underlying27] at hval
  obtain ⟨cs, rfl, hsz, _⟩ := hval
  obtain ⟨fuel, hf⟩ := hd
  obtain ⟨y0, y1, y2, n, -, hl, f0, f1, f2⟩ := Deep.trod_struct3 Tryz.underlying27 hf
  have k0 : Tryz.prog.cellsOf 27 = 3 := by kernel_rfl
  have k1 : Tryz.prog.cellsOf 3 = 1 := by kernel_rfl
  have hl2 : (Value.agg cs).cells.toList.length = 3 := hl.trans k0
  have hcc : (Value.agg cs).cells = cs := by simp [Value.cells]
  rw [hcc] at hl2 f0 f1 f2
  obtain ⟨u0, u1, u2, hcs⟩ : ∃ u0 u1 u2, cs.toList = [u0, u1, u2] := by
    match h : cs.toList, hl2 with
    | [u0, u1, u2], _ => exact ⟨u0, u1, u2, rfl⟩
  rw [hcs] at f0 f1 f2
  simp [k1] at f0 f1 f2
  obtain ⟨a, h0, _, wa⟩ := DataW.trod_int Tryz.underlying3 f0
  obtain ⟨b, h1, _, wb⟩ := DataW.trod_int Tryz.underlying3 f1
  obtain ⟨c, h2, _, wc⟩ := DataW.trod_int Tryz.underlying3 f2
  simp at h0 h1 h2
  subst h0 h1 h2
  have hcs2 : cs = #[.int .i64 a, .int .i64 b, .int .i64 c] := Array.toList_inj.1 hcs
  subst hcs2
  exact ⟨a, b, c, rfl⟩
end
end Go.Proofs.YtfeljjlpdefnmaaGreat
