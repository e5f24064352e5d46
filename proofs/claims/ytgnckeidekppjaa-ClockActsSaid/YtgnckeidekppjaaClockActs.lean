/-
  The law ClockActs: whatever is called, one call behind the other.
-/
import Derived.Test.YtgnckeidekppjaaClockAdv
import Derived.Test.YtgnckeidekppjaaTell
import Derived.Deep.CutBlock
import Derived.BigQuiet
namespace Go.Proofs.Ytgnckeidekppjaa
open Go.RowKit Go.Maps Go.Sort Go.Shelf
set_option linter.unusedVariables false
set_option linter.unusedSimpArgs false

/-- How things stand behind j calls: the clock, the reference's clock (block s + 2), its list. -/
structure ActSt (W3 : World) (s j : Nat) (now : Int) (F : Int → Option Int) (L : List Tm) (sx : Value) (W : World) : Prop where
  clk : ClockAt W (s + 1) s j now F
  box : BoxC W (s + 2) now sx
  row : ownsL W (s + 3) sx L
  rep : Rep F L
  len : L.length ≤ j
  now0 : 0 ≤ now
  now1 : now ≤ j * 1073741824
  due : ∀ t ∈ L, 0 ≤ t.due ∧ t.due ≤ j * 1073741824
  t : Touch (fun k => s ≤ k) W3 W
  size : s + 3 ≤ W.heap.size

theorem ActSt.keep {W3 : World} {s j : Nat} {now : Int} {F : Int → Option Int} {L : List Tm} {sx : Value} {W W' : World} (h : ActSt W3 s j now F L sx W) (t : Touch (fun _ => False) W W') : ActSt W3 s j now F L sx W' :=
  ⟨h.clk.keep t (fun h => h) (fun h => h), (t.block (s + 2) (by have := h.size; omega) (fun h => h)).trans h.box, own_touchL h.row t (fun _ _ h => h), h.rep, h.len, h.now0, h.now1, h.due,
    h.t.trans (t.mono (fun _ _ h => h.elim)), Nat.le_trans h.size t.size⟩

abbrev OpBox (W : World) (P : Nat) (k i n : Int) : Prop := W.heap[P]? = some (.cells #[.int .u8 k, .int .i64 i, .int .i64 n] 53 (0, 0))
theorem OpBox.c1 {W : World} {P : Nat} {k i n : Int} (h : OpBox W P k i n) : W.cell? ⟨P, 1, none⟩ = some (.int .i64 i) := by simp [World.cell?, show W.heap[P]? = _ from h]
theorem OpBox.c2 {W : World} {P : Nat} {k i n : Int} (h : OpBox W P k i n) : W.cell? ⟨P, 2, none⟩ = some (.int .i64 n) := by simp [World.cell?, show W.heap[P]? = _ from h]

/-- 'x = v' for the reference's clock x in block B: what the walk of that store wants, and what it leaves. -/
theorem box_store {W : World} {B base : Nat} {now now' : Int} {sx : Value} {A : Option Addr} {cap : Nat} {L : List Tm} (hB : BoxC W B now sx) (hlt : B < base) (hr : ownsL W base (.slice A L.length cap) L) :
    W.cell? ⟨B, 0, none⟩ = some (.int .i64 now) ∧ W.cell? ⟨B, 1, none⟩ = some sx ∧ W.frozen? ⟨B, 0, none⟩ = false ∧ W.frozen? ⟨B, 1, none⟩ = false ∧
    (W.setCell ⟨B, 0, none⟩ (.int .i64 now')).cell? ⟨B, 1, none⟩ = some sx ∧ (W.setCell ⟨B, 0, none⟩ (.int .i64 now')).frozen? ⟨B, 1, none⟩ = false ∧
    BoxC ((W.setCell ⟨B, 0, none⟩ (.int .i64 now')).setCell ⟨B, 1, none⟩ (.slice A L.length cap)) B now' (.slice A L.length cap) ∧
    ownsL ((W.setCell ⟨B, 0, none⟩ (.int .i64 now')).setCell ⟨B, 1, none⟩ (.slice A L.length cap)) base (.slice A L.length cap) L ∧
    Touch (fun k => k = B) W ((W.setCell ⟨B, 0, none⟩ (.int .i64 now')).setCell ⟨B, 1, none⟩ (.slice A L.length cap)) := by
  have y6 := set2_0 (.int .i64 now') hB
  have hT : Touch (fun k => k = B) W ((W.setCell ⟨B, 0, none⟩ (.int .i64 now')).setCell ⟨B, 1, none⟩ (.slice A L.length cap)) :=
    ((Touch.refl (fun k => k = B) W).setCell (p := ⟨B, 0, none⟩) (.inl rfl) _).setCell (p := ⟨B, 1, none⟩) (.inl rfl) _
  exact ⟨cell2_0 hB, cell2_1 hB, frozen2 (i := 0) hB, frozen2 (i := 1) hB, cell2_1 y6, frozen2 (i := 1) y6, set2_1 _ y6, own_touchL hr hT (fun k hk e => own_ge hr hlt (by rw [hk]; exact congrArg some e.symm)), hT⟩

set_option maxHeartbeats 4000000 in
set_option maxRecDepth 100000 in
theorem ClockActs_any (v : Value) (l : List OpV) (w : World) (hv : OpsAt w w.heap.size v l) :
    Calls Try.prog 11 #[v] w fun e w' => e = .returned (.bool true) ∧ Below w.heap.size w w' := by
  obtain ⟨A, cap, rfl, h1, h2, hok, h3⟩ := hv
  unfold maxLen at h2
  by_cases hlen : 30 < l.length
  · go_enter Try.func11, Try.ntmps11
    go_wp2_with fail
    refine (wakes15_any _).mono ?_; rintro e w1 ⟨rfl, hb1⟩; dsimp only
    go_wp2_with fail
    go_ret
    exact ⟨rfl, hb1⟩
  have hlen' : l.length ≤ 30 := by omega
  go_enter Try.func11, Try.ntmps11
  go_wp2_with fail
  refine (wakes15_any _).mono ?_; rintro e w1 ⟨rfl, hb1⟩; dsimp only
  go_wp2_with fail
  refine (New_any _).mono ?_; rintro e w2 ⟨rfl, k1, hb2, hs2⟩; dsimp only
  have t2 := (Touch.of_new (X := fun _ => False) hb1).trans (Touch.of_new (X := fun _ => False) hb2)
  have hz1 := hb1.size
  clear hb1 hb2
  generalize w1.heap.size = s at *
  obtain ⟨W3, e3⟩ : ∃ W, w2.alloc (.cells #[.int .i64 0, .slice none 0 0] 51) = W := ⟨_, rfl⟩
  have f2 : Touch (fun _ => False) w2 (w2.alloc (.cells #[.int .i64 0, .slice none 0 0] 51)) := (Touch.refl _ w2).alloc _
  have hX := heap_alloc_new w2 (.cells #[.int .i64 0, .slice none 0 0] 51)
  have hz3 := World.size_alloc w2 (.cells #[.int .i64 0, .slice none 0 0] 51)
  rw [e3] at f2 hX hz3
  rw [hs2] at hX hz3
  have K1 := k1.keep f2 (fun h => h) (fun h => h)
  have T3 := Lib.hid (t2.trans f2)
  have S0 := Lib.hid (show ActSt W3 s 0 0 (fun _ => none) [] (.slice none 0 0) W3 from ⟨K1, hX, ⟨rfl, .inl ⟨rfl, rfl⟩⟩, Rep.nil, Nat.le_refl _, by decide, by decide, by simp, Touch.refl _ _, by omega⟩)
  clear k1 t2 f2 K1 hX
  go_wp2_with fail
  go_loopw [30] (fun i wr => ∃ j : Nat, j ≤ l.length ∧ i = .int .i64 j ∧ ∃ now F L sx, Hid (ActSt W3 s j now F L sx wr)) (fun i _ => l.length - (intOf i).toNat)
  case atStart => exact ⟨0, Nat.zero_le _, rfl, _, _, _, _, S0⟩
  case round =>
    obtain ⟨j, hj, rfl, now, F, L, sx, hS⟩ := hrel
    by_cases hlt : j < l.length
    · obtain ⟨g, o, rfl, hg, hc⟩ := h3 (by rintro rfl; simp at hlt)
      obtain ⟨q0, q1, q2⟩ := hc j hlt
      have r0 := (hS.out.t.cell (p := ⟨g, o + j * 3, none⟩) (by show g < W3.heap.size; omega) (by show ¬ s ≤ g; omega)).trans ((T3.out.cell (p := ⟨g, o + j * 3, none⟩) hg (fun h => h)).trans q0)
      have r1 := (hS.out.t.cell (p := ⟨g, o + j * 3 + 1, none⟩) (by show g < W3.heap.size; omega) (by show ¬ s ≤ g; omega)).trans ((T3.out.cell (p := ⟨g, o + j * 3 + 1, none⟩) hg (fun h => h)).trans q1)
      have r2 := (hS.out.t.cell (p := ⟨g, o + j * 3 + 2, none⟩) (by show g < W3.heap.size; omega) (by show ¬ s ≤ g; omega)).trans ((T3.out.cell (p := ⟨g, o + j * 3 + 2, none⟩) hg (fun h => h)).trans q2)
      obtain ⟨hkd, hid, _⟩ := hok (l[j]?.getD default) (by rw [List.getElem?_eq_getElem hlt]; exact List.getElem_mem hlt)
      clear hc h3 hok q0 q1 q2
      generalize l[j]?.getD default = op at *
      obtain ⟨ok, oi, on⟩ := op
      dsimp only at r0 r1 r2 hid hkd
      have hk0 : 0 ≤ ok ∧ ok ≤ 255 := by simpa [Lit.wf, IntKind.min, IntKind.max, IntKind.signed, IntKind.bits] using hkd
      obtain ⟨k0, k1⟩ := hk0
      have hm0 : 0 ≤ ok % 4 := by omega
      have hm1 : ok % 4 < 4 := by omega
      go_upto_block 2 with fail
      obtain ⟨WA, eWA, hOw, hTA⟩ : ∃ W, wr.alloc (.cells #[.int .u8 ok, .int .i64 oi, .int .i64 on] 53) = W ∧ OpBox W wr.heap.size ok oi on ∧ Touch (fun _ => False) wr W := ⟨_, rfl, heap_alloc_new wr _, (Touch.refl _ wr).alloc _⟩
      have hPl : wr.heap.size < WA.heap.size := lt_of_heap hOw
      have hPs : s + 3 ≤ wr.heap.size := hS.out.size
      have hSA := Lib.hid (hS.out.keep hTA)
      rw [eWA]
      clear eWA hTA hS r0 r1 r2 hkd
      have hS := hSA
      clear hSA
      generalize wr.heap.size = P at *
      have hO := hOw
      clear hOw
      go_cut [7, 8] from 31 to 124 (fun s7 s8 wx => ∃ E now' F' L' sx', s7 = .int .i64 E ∧ s8 = .int .i64 E ∧ Hid (ActSt W3 s (j + 1) now' F' L' sx' wx) ∧ Hid (OpBox wx P ok oi on))
      case first =>
        have hc1 := hO.c1
        have hc2 := hO.c2
        have HO := Lib.hid hO
        generalize ok % 4 = m at *
        have hm : m = 0 ∨ m = 1 ∨ m = 2 ∨ m = 3 := by omega
        rcases hm with rfl | rfl | rfl | rfl
        · have hC := hS.out.clk
          go_wp2_with fail
          refine (Set_any hC oi on hid hS.out.now0 (by have := hS.out.now1; omega) (by unfold maxLen; omega)).mono ?_; rintro e w4 ⟨rfl, kk1, ht4⟩; dsimp only
          have hz4 := ht4.size
          have HO4 : OpBox w4 P ok oi on := (ht4.block P hPl (by show ¬ P = s; omega)).trans HO.out
          have z1 := HO4.c1
          have z2 := HO4.c2
          have x1 : BoxC w4 (s + 2) now sx := (ht4.block (s + 2) (by omega) (by show ¬ s + 2 = s; omega)).trans hS.out.box
          have x2 := cell2_0 x1
          have x3 := cell2_1 x1
          have HR4 := Lib.hid (own_touchL hS.out.row ht4 (fun k hk e => own_ge hS.out.row (k := s) (by omega) (by rw [hk]; exact congrArg some e.symm)))
          have KK := Lib.hid kk1
          have HX1 := Lib.hid x1
          have HT4 := Lib.hid ht4
          clear kk1 ht4 x1 hC
          go_wp2_with fail
          refine (RefSet_any (w := w4) (base := s + 3) (now := now) (l := L) ⟨sx, rfl, HR4.out⟩ (by have := hS.out.len; omega) (by omega) oi on hS.out.now0 (by have := hS.out.now1; omega)).mono ?_; rintro e w5 ⟨v5, rfl, ⟨s5, rfl, hr5⟩, hb5⟩; dsimp only
          obtain ⟨A5, cap5, rfl, _, _, _⟩ := ownsL_form hr5
          have hz5 := hb5.size
          obtain ⟨y1, y2, y3, y4, y5, y6, y7, y8, y9⟩ := box_store (now' := now) (show BoxC w5 (s + 2) now sx from (hb5.block (s + 2) (by omega)).trans HX1.out) (by omega : s + 2 < s + 3) hr5
          have HT5 : Touch (fun _ => False) w4 w5 := Touch.of_new hb5
          have hO6 : OpBox ((w5.setCell ⟨s + 2, 0, none⟩ (.int .i64 now)).setCell ⟨s + 2, 1, none⟩ (.slice A5 (setL now L oi on).length cap5)) P ok oi on := (y9.block P (by omega) (by show ¬ P = s + 2; omega)).trans ((hb5.block P (by omega)).trans HO4)
          have HO6 := Lib.hid hO6
          have HS6 := Lib.hid (show ActSt W3 s (j + 1) now (setF now F oi on) (setL now L oi on) (.slice A5 (setL now L oi on).length cap5) ((w5.setCell ⟨s + 2, 0, none⟩ (.int .i64 now)).setCell ⟨s + 2, 1, none⟩ (.slice A5 (setL now L oi on).length cap5)) from
            ⟨(KK.out.keep HT5 (fun h => h) (fun h => h)).keep y9 (by omega) (by omega), y7, y8, hS.out.rep.setF now oi on hid, by have := setL_len now L oi on; have := hS.out.len; omega, hS.out.now0, by have := hS.out.now1; omega,
              fun t ht => by
                rcases setL_mem ht with h | ⟨h, h1, h2⟩
                · have := hS.out.due t h; omega
                · have := hS.out.now0; have := hS.out.now1; omega,
              ((hS.out.t.trans (HT4.out.mono (fun k _ e => by have e' : k = s := e; omega))).trans (HT5.mono (fun _ _ h => h.elim))).trans (y9.mono (fun k _ e => by have e' : k = s + 2 := e; omega)), by have := y9.size; omega⟩)
          clear y7 y8 y9 hO6 hb5 hr5 HT5 z1 z2 x2 x3 HO4
          go_wp2_with fail
          go_meet
          case rel => exact ⟨_, _, _, _, _, rfl, rfl, HS6, HO6⟩
        · have hC := hS.out.clk
          go_wp2_with fail
          refine (Set_any hC oi on hid hS.out.now0 (by have := hS.out.now1; omega) (by unfold maxLen; omega)).mono ?_; rintro e w4 ⟨rfl, kk1, ht4⟩; dsimp only
          have hz4 := ht4.size
          have HO4 : OpBox w4 P ok oi on := (ht4.block P hPl (by show ¬ P = s; omega)).trans HO.out
          have z1 := HO4.c1
          have z2 := HO4.c2
          have x1 : BoxC w4 (s + 2) now sx := (ht4.block (s + 2) (by omega) (by show ¬ s + 2 = s; omega)).trans hS.out.box
          have x2 := cell2_0 x1
          have x3 := cell2_1 x1
          have HR4 := Lib.hid (own_touchL hS.out.row ht4 (fun k hk e => own_ge hS.out.row (k := s) (by omega) (by rw [hk]; exact congrArg some e.symm)))
          have KK := Lib.hid kk1
          have HX1 := Lib.hid x1
          have HT4 := Lib.hid ht4
          clear kk1 ht4 x1 hC
          go_wp2_with fail
          refine (RefSet_any (w := w4) (base := s + 3) (now := now) (l := L) ⟨sx, rfl, HR4.out⟩ (by have := hS.out.len; omega) (by omega) oi on hS.out.now0 (by have := hS.out.now1; omega)).mono ?_; rintro e w5 ⟨v5, rfl, ⟨s5, rfl, hr5⟩, hb5⟩; dsimp only
          obtain ⟨A5, cap5, rfl, _, _, _⟩ := ownsL_form hr5
          have hz5 := hb5.size
          obtain ⟨y1, y2, y3, y4, y5, y6, y7, y8, y9⟩ := box_store (now' := now) (show BoxC w5 (s + 2) now sx from (hb5.block (s + 2) (by omega)).trans HX1.out) (by omega : s + 2 < s + 3) hr5
          have HT5 : Touch (fun _ => False) w4 w5 := Touch.of_new hb5
          have hO6 : OpBox ((w5.setCell ⟨s + 2, 0, none⟩ (.int .i64 now)).setCell ⟨s + 2, 1, none⟩ (.slice A5 (setL now L oi on).length cap5)) P ok oi on := (y9.block P (by omega) (by show ¬ P = s + 2; omega)).trans ((hb5.block P (by omega)).trans HO4)
          have HO6 := Lib.hid hO6
          have HS6 := Lib.hid (show ActSt W3 s (j + 1) now (setF now F oi on) (setL now L oi on) (.slice A5 (setL now L oi on).length cap5) ((w5.setCell ⟨s + 2, 0, none⟩ (.int .i64 now)).setCell ⟨s + 2, 1, none⟩ (.slice A5 (setL now L oi on).length cap5)) from
            ⟨(KK.out.keep HT5 (fun h => h) (fun h => h)).keep y9 (by omega) (by omega), y7, y8, hS.out.rep.setF now oi on hid, by have := setL_len now L oi on; have := hS.out.len; omega, hS.out.now0, by have := hS.out.now1; omega,
              fun t ht => by
                rcases setL_mem ht with h | ⟨h, h1, h2⟩
                · have := hS.out.due t h; omega
                · have := hS.out.now0; have := hS.out.now1; omega,
              ((hS.out.t.trans (HT4.out.mono (fun k _ e => by have e' : k = s := e; omega))).trans (HT5.mono (fun _ _ h => h.elim))).trans (y9.mono (fun k _ e => by have e' : k = s + 2 := e; omega)), by have := y9.size; omega⟩)
          clear y7 y8 y9 hO6 hb5 hr5 HT5 z1 z2 x2 x3 HO4
          go_wp2_with fail
          go_meet
          case rel => exact ⟨_, _, _, _, _, rfl, rfl, HS6, HO6⟩
        · have hC := hS.out.clk
          go_wp2_with fail
          refine (Clear_ex hC hS.out.rep oi hid).mono ?_; rintro e w4 ⟨rfl, kk1, ht4⟩; dsimp only
          have hz4 := ht4.size
          have HO4 : OpBox w4 P ok oi on := (ht4.block P hPl (by show ¬ P = s; omega)).trans HO.out
          have z1 := HO4.c1
          have z2 := HO4.c2
          have x1 : BoxC w4 (s + 2) now sx := (ht4.block (s + 2) (by omega) (by show ¬ s + 2 = s; omega)).trans hS.out.box
          have x2 := cell2_0 x1
          have x3 := cell2_1 x1
          have HR4 := Lib.hid (own_touchL hS.out.row ht4 (fun k hk e => own_ge hS.out.row (k := s) (by omega) (by rw [hk]; exact congrArg some e.symm)))
          have KK := Lib.hid kk1
          have HX1 := Lib.hid x1
          have HT4 := Lib.hid ht4
          clear kk1 ht4 x1 hC
          go_wp2_with fail
          generalize hcE : clearE (L.any fun t => decide (t.id = oi)) = E at *
          have hrc := RefClear_any (w := w4) (base := s + 3) (now := now) (l := L) ⟨sx, rfl, HR4.out⟩ (by have := hS.out.len; omega) (by omega) oi
          rw [hcE] at hrc
          clear hcE
          refine hrc.mono ?_; rintro e w5 ⟨v5, rfl, ⟨s5, rfl, hr5⟩, hb5⟩; dsimp only
          obtain ⟨A5, cap5, rfl, _, _, _⟩ := ownsL_form hr5
          have hz5 := hb5.size
          obtain ⟨y1, y2, y3, y4, y5, y6, y7, y8, y9⟩ := box_store (now' := now) (show BoxC w5 (s + 2) now sx from (hb5.block (s + 2) (by omega)).trans HX1.out) (by omega : s + 2 < s + 3) hr5
          have HT5 : Touch (fun _ => False) w4 w5 := Touch.of_new hb5
          have hO6 : OpBox ((w5.setCell ⟨s + 2, 0, none⟩ (.int .i64 now)).setCell ⟨s + 2, 1, none⟩ (.slice A5 (L.filter fun t => !decide (t.id = oi)).length cap5)) P ok oi on := (y9.block P (by omega) (by show ¬ P = s + 2; omega)).trans ((hb5.block P (by omega)).trans HO4)
          have HO6 := Lib.hid hO6
          have HS6 := Lib.hid (show ActSt W3 s (j + 1) now (del F oi) (L.filter fun t => !decide (t.id = oi)) (.slice A5 (L.filter fun t => !decide (t.id = oi)).length cap5) ((w5.setCell ⟨s + 2, 0, none⟩ (.int .i64 now)).setCell ⟨s + 2, 1, none⟩ (.slice A5 (L.filter fun t => !decide (t.id = oi)).length cap5)) from
            ⟨((KK.out.mono (Nat.le_succ j)).keep HT5 (fun h => h) (fun h => h)).keep y9 (by omega) (by omega), y7, y8, hS.out.rep.del oi, by have := List.length_filter_le (fun t : Tm => !decide (t.id = oi)) L; have := hS.out.len; omega, hS.out.now0, by have := hS.out.now1; omega,
              fun t ht => by
                have := hS.out.due t (List.mem_filter.1 ht).1; omega,
              ((hS.out.t.trans (HT4.out.mono (fun k _ e => by have e' : k = s := e; omega))).trans (HT5.mono (fun _ _ h => h.elim))).trans (y9.mono (fun k _ e => by have e' : k = s + 2 := e; omega)), by have := y9.size; omega⟩)
          clear y7 y8 y9 hO6 hb5 hr5 HT5 z1 z2 x2 x3 HO4
          go_wp2_with fail
          go_meet
          case rel => exact ⟨_, _, _, _, _, rfl, rfl, HS6, HO6⟩
        · have hC := hS.out.clk
          generalize hae : advE on = E at *
          have ha1 := Advance_any hC hS.out.rep on hS.out.now0 (by have := hS.out.now1; omega) (by omega)
          rw [hae] at ha1
          go_wp2_with fail
          refine ha1.mono ?_; rintro e w4 ⟨vf, rfl, hf, kk1, ht4⟩; dsimp only
          have hz4 := ht4.size
          have HO4 : OpBox w4 P ok oi on := (ht4.block P hPl (by show ¬ (P = s + 1 ∨ P = s); omega)).trans HO.out
          have z1 := HO4.c1
          have z2 := HO4.c2
          have x1 : BoxC w4 (s + 2) now sx := (ht4.block (s + 2) (by omega) (by show ¬ (s + 2 = s + 1 ∨ s + 2 = s); omega)).trans hS.out.box
          have x2 := cell2_0 x1
          have x3 := cell2_1 x1
          have HR4 := Lib.hid (own_touchL hS.out.row ht4 (fun k hk e => by rcases e with e | e <;> exact own_ge hS.out.row (k := k) (by omega) (by rw [hk])))
          have KK := Lib.hid kk1
          have HX1 := Lib.hid x1
          have HT4 := Lib.hid ht4
          have HF := Lib.hid hf
          clear kk1 ht4 x1 hC ha1 hf
          have ha2 := RefAdvance_any (w := w4) (base := s + 3) (now := now) (l := L) ⟨sx, rfl, HR4.out⟩ (by have := hS.out.len; omega) (by omega) on hS.out.now0 (by have := hS.out.now1; omega)
          rw [hae] at ha2
          clear hae
          go_wp2_with fail
          refine ha2.mono ?_; rintro e w5 ⟨v5, vg, rfl, ⟨s5, rfl, hr5⟩, hg5, hb5⟩; dsimp only
          clear ha2
          obtain ⟨A5, cap5, rfl, _, _, _⟩ := ownsL_form hr5
          have hz5 := hb5.size
          obtain ⟨W6, e6, hY, hT6⟩ : ∃ W, w5.alloc (.cells #[.int .i64 (advNow now on), .slice A5 (advL L now on).length cap5] 51) = W ∧ BoxC W w5.heap.size (advNow now on) (.slice A5 (advL L now on).length cap5) ∧ Touch (fun _ => False) w5 W := ⟨_, rfl, heap_alloc_new w5 _, (Touch.refl _ w5).alloc _⟩
          have hz6 : W6.heap.size = w5.heap.size + 1 := by rw [← e6, World.size_alloc]
          have HT5 : Touch (fun _ => False) w4 w5 := Touch.of_new hb5
          have hfl := advFired_len L now on
          have HI1 := Lib.hid (Ints.of_own (own_touchL (own_touchL HF.out HT5 (fun _ _ h => h)) hT6 (fun _ _ h => h)))
          have HI2 := Lib.hid (Ints.of_own (own_touchL hg5 hT6 (fun _ _ h => h)))
          have HT6 := Lib.hid (HT5.trans hT6)
          have HR5 := Lib.hid (own_touchL hr5 hT6 (fun _ _ h => h))
          have HYB := Lib.hid hY
          have hLl := hS.out.len
          clear hb5 hr5 hg5 HT5 hT6 hY z1 z2 x2 x3
          go_wp2_with fail
          refine (numbers_any _ _ _ _ W6 HI1.out HI2.out (by omega) (by omega)).mono ?_
          rintro e w9 ⟨rfl, q, rfl⟩; dsimp only
          have htrue : decide (advFired L now on = advFired L now on) = true := by simp
          rw [htrue]
          clear htrue
          have HTq : Touch (fun _ => False) W6 (W6.drewN q) := (Touch.refl _ W6).drewN q
          have HT7 := Lib.hid (HT6.out.trans HTq)
          have hY7 : BoxC (W6.drewN q) w5.heap.size (advNow now on) (.slice A5 (advL L now on).length cap5) := HYB.out
          have hR7 : ownsL (W6.drewN q) (s + 3) (.slice A5 (advL L now on).length cap5) (advL L now on) := own_touchL HR5.out HTq (fun _ _ h => h)
          have hz7 : (W6.drewN q).heap.size = w5.heap.size + 1 := hz6
          generalize W6.drewN q = W7 at *
          have u0 := cell2_0 hY7
          have u1 := cell2_1 hY7
          obtain ⟨y1, y2, y3, y4, y5, y6, y7, y8, y9⟩ := box_store (now' := advNow now on) (show BoxC W7 (s + 2) now sx from (HT7.out.block (s + 2) (by omega) (fun h => h)).trans HX1.out) (by omega : s + 2 < s + 3) hR7
          have hO6 : OpBox ((W7.setCell ⟨s + 2, 0, none⟩ (.int .i64 (advNow now on))).setCell ⟨s + 2, 1, none⟩ (.slice A5 (advL L now on).length cap5)) P ok oi on := (y9.block P (by omega) (by show ¬ P = s + 2; omega)).trans ((HT7.out.block P (by omega) (fun h => h)).trans HO4)
          have HO6 := Lib.hid hO6
          have HS6 := Lib.hid (show ActSt W3 s (j + 1) (advNow now on) (advF F now on) (advL L now on) (.slice A5 (advL L now on).length cap5) ((W7.setCell ⟨s + 2, 0, none⟩ (.int .i64 (advNow now on))).setCell ⟨s + 2, 1, none⟩ (.slice A5 (advL L now on).length cap5)) from
            ⟨((KK.out.mono (Nat.le_succ j)).keep HT7.out (fun h => h) (fun h => h)).keep y9 (by omega) (by omega), y7, y8, hS.out.rep.adv now on, by have := advL_len L now on; have := hS.out.len; omega, by have := hS.out.now0; have := @advNow_bound now on; omega, by have := hS.out.now1; have := @advNow_bound now on; omega,
              fun t ht => by
                have := hS.out.due t (advL_mem ht); omega,
              ((hS.out.t.trans (HT4.out.mono (fun k _ e => by rcases e with e | e <;> omega))).trans (HT7.out.mono (fun _ _ h => h.elim))).trans (y9.mono (fun k _ e => by have e' : k = s + 2 := e; omega)), by have := y9.size; omega⟩)
          clear y7 y8 y9 hO6 HO4 hY7 hR7 HTq e6 HI1 HI2
          go_wp2_with fail
          go_meet
          case rel => exact ⟨_, _, _, _, _, rfl, rfl, HS6, HO6⟩
      case rest =>
        obtain ⟨E, now', F', L', sx', rfl, rfl, hS', hO'⟩ := hcut
        clear hS hO
        have hc1 := hO'.out.c1
        have hl := Left_any hS'.out.clk oi hid (fun a ha => by
          have h1 := hS'.out.due ⟨oi, a⟩ ((hS'.out.rep.mem ⟨oi, a⟩).2 ha)
          have h2 := hS'.out.now0
          have h3 := hS'.out.now1
          dsimp only at h1
          omega)
        have hrl := RefLeft_any (w := wc) (base := s + 3) (now := now') (l := L') ⟨sx', rfl, hS'.out.row⟩ (by have := hS'.out.len; omega) oi hS'.out.now0 (by have := hS'.out.now1; omega) (fun t ht => by have := hS'.out.due t ht; omega)
        rw [hS'.out.rep.left, hS'.out.rep.find] at hrl
        have HL := Lib.hid hl
        have HRL := Lib.hid hrl
        clear hl hrl
        generalize leftV now' F' oi = lv at *
        generalize (F' oi).isSome = li at *
        go_wp2_with fail
        refine HL.out.mono ?_; rintro e w5 ⟨rfl, rfl⟩; dsimp only
        have x1 := cell2_0 hS'.out.box
        have x2 := cell2_1 hS'.out.box
        go_wp2_with fail
        refine HRL.out.mono ?_; rintro e w6 ⟨rfl, hb6⟩; dsimp only
        have hS6 := Lib.hid (hS'.out.keep (Touch.of_new hb6))
        clear x1 x2 hb6 hc1 HL HRL hS' hO'
        have hN : ∀ k : Nat, Hid (Calls Try.prog 35 #[.pointer (some ⟨s + 1, 0, none⟩)] (w6.drewN k) fun e w' => e = .returned (.int .i64 now') ∧ w' = w6.drewN k) :=
          fun k => Lib.hid ((Now_any (hS6.out.keep ((Touch.refl (fun _ => False) w6).drewN k)).clk).mono fun e w' h => ⟨h.1, h.2.symm⟩)
        have n0 : ∀ k, (w6.drewN k).cell? ⟨s + 2, 0, none⟩ = some (.int .i64 now') := fun k => cell2_0 (hS6.out.keep ((Touch.refl (fun _ => False) w6).drewN k)).box
        go_wp2_with fail
        go_quiet ((go_at_call 35; exact Calls.quiet_of_same (hN _).out))
        go_wp2_with fail
        refine ⟨⟨j + 1, by omega, by go_num, now', F', L', sx', Lib.hid (hS6.out.keep ((Touch.refl (fun _ => False) w6).drewN nq))⟩, ?_⟩
        simp [intOf]; omega
    · have hend : l.length ≤ j := by omega
      clear hlt h3 hok
      have ht5 := timers_any hS.out.clk hS.out.rep (by omega : j ≤ 1000)
      go_wp2_with fail
      refine ht5.mono ?_; rintro e w5 ⟨v5, rfl, hv5, hb5⟩; dsimp only
      have hS5 := Lib.hid (hS.out.keep (Touch.of_new hb5))
      have HBB := Lib.hid (((T3.out.mono (Y := fun k => s ≤ k) (fun _ _ h => h.elim)).trans hS5.out.t).below (n := w.heap.size) (Nat.le_refl _) (fun k hk => by omega))
      have hr5 := hS5.out.row
      obtain ⟨A5, cap5, rfl, c0, cm, hcell⟩ := ownsL_form hv5
      obtain ⟨A6, cap6, rfl, d0, dm, hdell⟩ := ownsL_form hr5
      have hL := hS.out.len
      unfold maxLen at cm dm
      have x2 := cell2_1 hS5.out.box
      clear ht5 hb5 hv5 hr5 hS
      go_wp2_with fail
      go_loopw [135] (fun i wr => ∃ j' : Nat, j' ≤ L.length ∧ i = .int .i64 j' ∧ ∃ q, wr = w5.drewN q) (fun i _ => L.length - (intOf i).toNat)
      case atStart => exact ⟨0, Nat.zero_le _, rfl, 0, rfl⟩
      case round =>
        obtain ⟨j', hj', rfl, q, rfl⟩ := hrel
        by_cases hlt : j' < L.length
        · obtain ⟨g, rfl, hob, hbg, hgl, q0, q1⟩ := hcell j' hlt
          obtain ⟨g', rfl, hob', hbg', hgl', p0, p1⟩ := hdell j' hlt
          have n0 : ∀ k, (w5.drewN k).cell? ⟨g, j' * 2, none⟩ = some (.int .i64 L[j'].id) := fun _ => q0
          have n1 : ∀ k, (w5.drewN k).cell? ⟨g, j' * 2 + 1, none⟩ = some (.int .i64 L[j'].due) := fun _ => q1
          have n2 : ∀ k, (w5.drewN k).cell? ⟨g', j' * 2, none⟩ = some (.int .i64 L[j'].id) := fun _ => p0
          have n3 : ∀ k, (w5.drewN k).cell? ⟨g', j' * 2 + 1, none⟩ = some (.int .i64 L[j'].due) := fun _ => p1
          have n4 : ∀ k, (w5.drewN k).cell? ⟨s + 2, 1, none⟩ = some (Value.slice (some ⟨g', 0, none⟩) L.length cap6) := fun _ => x2
          have hi0 : (0 : Int) ≤ (j' : Int) := Int.natCast_nonneg _
          have hi1 : (j' : Int) < (L.length : Int) := by omega
          clear hcell hdell q0 q1 p0 p1
          generalize L[j'] = t at *
          go_wp2_with fail
          go_quiet (fail)
          go_wp2_with fail
          refine ⟨⟨j' + 1, by omega, by go_num, _, rfl⟩, ?_⟩
          simp [intOf]; omega
        · have hend' : L.length ≤ j' := by omega
          clear hlt hcell hdell
          go_wp2_with fail
          go_ret
          exact ⟨rfl, HBB.out.trans (((Touch.refl (fun _ => False) w5).drewN q).below (n := w.heap.size) HBB.out.size (fun _ h => h.elim))⟩

theorem ClockActs_of (v : Value) (l : List OpV) (w : World) (h : OpsAt w w.heap.size v l) :
    Calls Try.prog 11 #[v] w fun e w' => e = .returned (.bool true) ∧ Below w.heap.size w w' := ClockActs_any v l w h

end Go.Proofs.Ytgnckeidekppjaa
