/-
  The walks of trace's Fits over the example of layer 22, and of the example.
-/
import Derived.Test.YtplcfijcmihhlaaDoorPayload
import Derived.Laws.BytesArg
import Derived.Lib.SlBytesConst
namespace Go.Proofs.YtplcfijcmihhlaaDoor
open Go.RowKit
set_option linter.unusedVariables false
set_option linter.unusedSimpArgs false

set_option maxRecDepth 100000 in
theorem Equal_c (w : World) (g1 c1 g2 d c2 : Nat) (xs ys : List Int) (bl : Bool) (hxl : xs.length = d) (hyl : ys.length = d)
    (hx : ∀ i, i < d → w.cell? ⟨g1, 0 + i, none⟩ = some (.int .u8 (xs.getD i 0))) (hy : ∀ i, i < d → w.cell? ⟨g2, 0 + i, none⟩ = some (.int .u8 (ys.getD i 0))) (hE : ((strOfNums xs).toList == (strOfNums ys).toList) = bl) :
    Calls Tryd.prog 49 #[.slice (some ⟨g1, 0, none⟩) d c1, .slice (some ⟨g2, 0, none⟩) d c2] w fun e w' => e = .returned (.bool bl) ∧ w = w' := by
  have h1 := run_convert_bytes_arg (P := Tryd.prog) w 25 5 Tryd.underlying25 Tryd.underlying5 g1 0 d c1 xs hxl hx 9 Tryd.underlying9
  have h2 := run_convert_bytes_arg (P := Tryd.prog) w 25 5 Tryd.underlying25 Tryd.underlying5 g2 0 d c2 ys hyl hy 9 Tryd.underlying9
  clear hx hy
  go_enter Tryd.func49, Tryd.ntmps49
  go_wp2_with fail
  go_ret
  exact ⟨rfl, rfl⟩

set_option maxRecDepth 100000 in
theorem HasPrefix_c (w : World) (g1 n1 c1 g2 d c2 : Nat) (xs ys : List Int) (bl : Bool) (hd : d ≤ n1) (hn : n1 ≤ c1) (hc : c1 ≤ 1000000) (hxl : xs.length = d) (hyl : ys.length = d)
    (hx : ∀ i, i < d → w.cell? ⟨g1, 0 + i, none⟩ = some (.int .u8 (xs.getD i 0))) (hy : ∀ i, i < d → w.cell? ⟨g2, 0 + i, none⟩ = some (.int .u8 (ys.getD i 0))) (hE : ((strOfNums xs).toList == (strOfNums ys).toList) = bl) :
    Calls Tryd.prog 36 #[.slice (some ⟨g1, 0, none⟩) n1 c1, .slice (some ⟨g2, 0, none⟩) d c2] w fun e w' => e = .returned (.bool bl) ∧ w = w' := by
  have hd1 : (d : Int) ≤ (n1 : Int) := by omega
  have hd2 : (d : Int) ≤ (c1 : Int) := by omega
  have hd0 : (0 : Int) ≤ (d : Int) := Int.natCast_nonneg _
  have hd3 : d ≤ c1 := by omega
  go_enter Tryd.func36, Tryd.ntmps36
  go_wp2_with fail
  refine (Equal_c _ g1 c1 g2 d c2 xs ys bl hxl hyl hx hy hE).mono ?_
  rintro e w1 ⟨rfl, rfl⟩
  dsimp only
  go_wp2_with fail
  go_ret
  exact ⟨rfl, rfl⟩

theorem RightK_any (w : World) :
    Calls Tryd.prog 34 #[.agg #[.int .i64 2, .int .u64 0]] w fun e w' => e = .returned (.bool true) ∧ Below w.heap.size w w' := by
  go_enter Tryd.func34, Tryd.ntmps34
  go_wp2_with fail
  go_ret
  exact ⟨rfl, (Below.refl _ w).alloc (Nat.le_refl _) _⟩

set_option maxHeartbeats 1000000 in
set_option maxRecDepth 100000 in
theorem Fits_stop {w : World} {g1 n1 c1 g o d cap : Nat} {xs l : List Int} (bl : Bool) (hn1 : d ≤ n1) (hn : n1 ≤ c1) (hc1 : c1 ≤ 1000000) (hxl : xs.length = d) (hg1 : g1 < w.heap.size)
    (hx : ∀ i, i < d → w.cell? ⟨g1, 0 + i, none⟩ = some (.int .u8 (xs.getD i 0)))
    (hd0 : 1 ≤ d) (hd1 : d ≤ 9) (hcap : d + 3 ≤ cap) (hcm : cap ≤ maxLen) (hgl : g < w.heap.size)
    (hl : l.length = d + 3) (h0 : l[0]?.getD (0 : Int) = (48 + (d : Int) : Int)) (h1 : l[1]?.getD (0 : Int) = 13) (h2 : l[2]?.getD (0 : Int) = 10) (hc : ∀ j, j < d + 3 → w.cell? ⟨g, o + j, none⟩ = some (enc8 (l[j]?.getD 0)))
    (hE : ((strOfNums xs).toList == (strOfNums (l.drop 3)).toList) = bl) :
    Calls Tryd.prog 11 #[.agg #[.int .i64 2, .int .u64 0], .slice (some ⟨g1, 0, none⟩) n1 c1, .slice (some ⟨g, o, none⟩) (d + 3) cap] w fun e w' => e = .returned (.bool bl) ∧ Below w.heap.size w w' := by
  obtain ⟨W1, e1, hz1, b1, t1⟩ : ∃ W1, w.alloc (.cells #[.int .i64 2, .int .u64 0] 24) = W1 ∧ W1.heap.size = w.heap.size + 1 ∧
      W1.heap[w.heap.size]? = some (.cells #[.int .i64 2, .int .u64 0] 24) ∧ Touch (fun _ => False) w W1 :=
    ⟨_, rfl, by simp, heap_alloc_new w _, (Touch.refl _ w).alloc _⟩
  have v0 := cell_of_row W1 w.heap.size 0 _ _ _ b1
  have v1 := cell_of_row W1 w.heap.size 1 _ _ _ b1
  simp only [List.getElem?_toArray, List.getElem?_cons_zero, List.getElem?_cons_succ] at v0 v1
  go_enter Tryd.func11, Tryd.ntmps11
  go_wp2_with fail
  refine (RightK_any W1).mono ?_; rintro e w2 ⟨rfl, hb2⟩; dsimp only
  clear e1
  have hz2 := hb2.size
  have t2 := t1.trans (Touch.of_new hb2)
  have B1 := (hb2.block w.heap.size (by omega)).trans b1
  have x0 := cell_of_row w2 w.heap.size 0 _ _ _ B1
  have x1 := cell_of_row w2 w.heap.size 1 _ _ _ B1
  simp only [List.getElem?_toArray, List.getElem?_cons_zero, List.getElem?_cons_succ] at x0 x1
  clear b1 t1 v0 v1 hb2 B1
  go_wp2_with fail
  obtain ⟨W3, e3, hz3, b3, t3⟩ : ∃ W3, w2.alloc (.cells #[.int .i64 65536, .int .i64 65536, .int .i64 65536] 73) = W3 ∧ W3.heap.size = w2.heap.size + 1 ∧
      W3.heap[w2.heap.size]? = some (.cells #[.int .i64 65536, .int .i64 65536, .int .i64 65536] 73) ∧ Touch (fun _ => False) w2 W3 :=
    ⟨_, rfl, by simp, heap_alloc_new w2 _, (Touch.refl _ w2).alloc _⟩
  have T3 := t2.trans t3
  have hc3 : ∀ j, j < d + 3 → W3.cell? ⟨g, o + j, none⟩ = some (enc8 (l[j]?.getD 0)) := fun j hj => (T3.cell (p := ⟨g, o + j, none⟩) hgl (fun h => h)).trans (hc j hj)
  have y0 := cell_of_row W3 w2.heap.size 0 _ _ _ b3
  have y1 := cell_of_row W3 w2.heap.size 1 _ _ _ b3
  have y2 := cell_of_row W3 w2.heap.size 2 _ _ _ b3
  simp only [List.getElem?_toArray, List.getElem?_cons_zero, List.getElem?_cons_succ] at y0 y1 y2
  rw [e3]
  clear e3
  refine (Scan_stop (W := W3) (l := l) hd0 hd1 hcap hcm (by omega) hl h0 h1 h2 hc3).mono ?_; rintro e w4 ⟨rfl, hb4⟩; dsimp only
  have hz4 := hb4.size
  have B3 := (hb4.block w2.heap.size (by omega)).trans b3
  have z0 := cell_of_row w4 w2.heap.size 0 _ _ _ B3
  have z1 := cell_of_row w4 w2.heap.size 1 _ _ _ B3
  have z2 := cell_of_row w4 w2.heap.size 2 _ _ _ B3
  simp only [List.getElem?_toArray, List.getElem?_cons_zero, List.getElem?_cons_succ] at z0 z1 z2
  have T4 := T3.trans (Touch.of_new hb4)
  have f5 : Touch (fun _ => False) w4 (w4.alloc (.cells #[.slice none 0 0, .slice none 0 0, .int .i64 0] 76)) := (Touch.refl _ w4).alloc _
  have q0 := (f5.cell (p := ⟨w2.heap.size, 0, none⟩) (by show w2.heap.size < w4.heap.size; omega) (fun h => h)).trans z0
  have q1 := (f5.cell (p := ⟨w2.heap.size, 1, none⟩) (by show w2.heap.size < w4.heap.size; omega) (fun h => h)).trans z1
  have q2 := (f5.cell (p := ⟨w2.heap.size, 2, none⟩) (by show w2.heap.size < w4.heap.size; omega) (fun h => h)).trans z2
  have T5 := T4.trans f5
  have hc5 : ∀ j, j < d + 3 → (w4.alloc (.cells #[.slice none 0 0, .slice none 0 0, .int .i64 0] 76)).cell? ⟨g, o + j, none⟩ = some (enc8 (l[j]?.getD 0)) := fun j hj => (T5.cell (p := ⟨g, o + j, none⟩) hgl (fun h => h)).trans (hc j hj)
  have hP := Lib.hid (Payload_stop (W := w4.alloc (.cells #[.slice none 0 0, .slice none 0 0, .int .i64 0] 76)) (l := l) hd0 hd1 hcap hcm (by rw [World.size_alloc]; omega) hl h0 h1 h2 hc5)
  have HT := Lib.hid T5
  clear b3 hb4 B3 y0 y1 y2 T3 t2 t3 x0 x1 hc3 z0 z1 z2 T4 f5 T5 hc5
  go_wp2_with fail
  refine hP.out.mono ?_; rintro e w6 ⟨v, rfl, hv, hb6⟩; dsimp only
  have hF : ∃ g2 cap2, v = .slice (some ⟨g2, 0, none⟩) d cap2 ∧ ∀ i, i < d → w6.cell? ⟨g2, 0 + i, none⟩ = some (.int .u8 ((l.drop 3).getD i 0)) := by
    rcases hv.2 with ⟨rfl, hz⟩ | ⟨g2, cap2, cur, rfl, _⟩
    · omega
    · refine ⟨g2, cap2, rfl, fun i hi => ?_⟩
      have := hv.cells (g := g2) rfl i (.int .u8 ((l.drop 3).getD i 0)) (by rw [List.getElem?_map, List.getD_eq_getElem?_getD, List.getElem?_eq_getElem (show i < (l.drop 3).length by rw [List.length_drop, hl]; omega)]; rfl)
      rw [WideShapes.add_plain] at this
      rw [Nat.zero_add]
      simpa using this
  obtain ⟨g2, cap2, rfl, hy⟩ := hF
  have hx6 : ∀ i, i < d → w6.cell? ⟨g1, 0 + i, none⟩ = some (.int .u8 (xs.getD i 0)) := fun i hi => (hb6.cell (p := ⟨g1, 0 + i, none⟩) (by show g1 < (w4.alloc _).heap.size; rw [World.size_alloc]; omega)).trans ((HT.out.cell (p := ⟨g1, 0 + i, none⟩) hg1 (fun h => h)).trans (hx i hi))
  have hH := Lib.hid (HasPrefix_c w6 g1 n1 c1 g2 d cap2 xs (l.drop 3) bl hn1 hn hc1 hxl (by simp [hl]) hx6 hy hE)
  have HB := Lib.hid ((HT.out.below (n := w.heap.size) (Nat.le_refl _) (fun _ h => h.elim)).trans (hb6.mono (by rw [World.size_alloc]; omega)))
  clear hP hy hx6 hv hb6 HT q0 q1 q2
  go_wp2_with fail
  refine hH.out.mono ?_; rintro e w7 ⟨rfl, rfl⟩; dsimp only
  go_wp2_with fail
  go_ret
  exact ⟨rfl, HB.out⟩

end Go.Proofs.YtplcfijcmihhlaaDoor
