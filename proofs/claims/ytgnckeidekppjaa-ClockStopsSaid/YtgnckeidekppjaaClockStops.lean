/-
  The law ClockStops: timers are told one by one up to where one stops; all stay.
-/
import Derived.Test.YtgnckeidekppjaaLaw15
import Derived.Test.YtgnckeidekppjaaOps
import Derived.Test.YtgnckeidekppjaaClockSets
import Derived.Test.YtgnckeidekppjaaRefLaw
namespace Go.Proofs.Ytgnckeidekppjaa
open Go.RowKit Go.Maps Go.Sort Go.Shelf
set_option linter.unusedVariables false
set_option linter.unusedSimpArgs false
attribute [local go_sem] Oper.semAt_some

theorem results_c1 {P : Program} {fn : Func} {p : Tmp} {ty : TypeId} (h : fn.results = #[.cell p ty]) (tmps : Array Value) (w : World) (g : Nat) (v : Value) (d : TypeDesc)
    (hp : tmps.getD p undef = .pointer (some ⟨g, 0, none⟩)) (hc : w.cell? ⟨g, 0, none⟩ = some v) (hu : P.underlying ty = some d) (hd : (match d with | .struct _ | .array _ _ => true | _ => false) = false) :
    (results fn tmps).run P w = .ok v w := by
  have hp' : tmps[p]?.getD undef = .pointer (some ⟨g, 0, none⟩) := by simpa using hp
  have hagg : (isAgg ty).run P w = .ok false w := by
    unfold isAgg
    rw [Sem.run_bind, run_underlying hu w]
    cases d <;> simp_all
  simp [results, h, hp', asAddr, loadVar, Sem.run_bind, hagg, hc]

/-- What holds in the loop over a clock's timers: as many have come as n says, each the reference's. -/
def StI (ids : List Int) (stop : Int) (N : Nat) (w : World) (pre : List Int) (W : World) : Prop :=
  pre <+: ids ∧ (pre.length : Int) ≤ stop ∧ Boxed W N 3 (.int .i64 pre.length) ∧ Touch (fun k => k = N) w W

theorem StI.own {ids : List Int} {stop : Int} {N : Nat} {w : World} (hN : N < w.heap.size) : OwnFrom w.heap.size (StI ids stop N w) := by
  intro pre W W' row ⟨h1, h2, h3, h4⟩ hg hr
  have hlow : ∀ k, k < w.heap.size → k < W.heap.size → W'.heap[k]? = W.heap[k]? := fun k hk hk2 => hg.block k hk2 (fun e => by have := (hr k e.symm).1; omega)
  exact ⟨h1, h2, (hlow N hN h3.lt).trans h3, ⟨hg.os.trans h4.os, hg.tape.trans h4.tape, hg.output.trans h4.output, Nat.le_trans h4.size hg.size, fun k hk hx => (hlow k hk (by have := h4.size; omega)).trans (h4.block k hk hx)⟩⟩

theorem keepsFrom_set (B : Nat) (W : World) {p : Addr} (hp : p.block < B) (u : Value) : KeepsFrom B W (W.setCell p u) :=
  ⟨by show W.heap.size ≤ (W.heap.modify _ _).size; rw [Array.size_modify]; exact Nat.le_refl _, fun i o hB hi ho => (Below.heap_setCell W p u i (by omega)).trans hi⟩

theorem prefix_at {ids pre : List Int} {x : Int} (h : pre ++ [x] <+: ids) : ∃ hl : pre.length < ids.length, ids[pre.length] = x := by
  obtain ⟨tl, rfl⟩ := h
  exact ⟨by simp, by simp⟩
theorem prefix_not {ids pre : List Int} {x : Int} (h : pre <+: ids) (hl : pre.length < ids.length) (he : ids[pre.length] = x) : pre ++ [x] <+: ids := by
  obtain ⟨tl, rfl⟩ := h
  cases tl with
  | nil => simp at hl
  | cons y tl => simp at he; subst he; exact ⟨tl, by simp⟩

theorem Try.neq_nilFunc (fn : Fn) (xs ys : Array Value) (w : World) : (binOp .neq 58 (.func fn xs ys) .nilFunc).run Try.prog w = .ok (.bool true) w := by kernel_rfl

set_option maxHeartbeats 4000000 in
set_option maxRecDepth 100000 in
theorem ClockStops_any (v : Value) (l : List OpV) (stop : Int) (hs0 : 0 ≤ stop) (hs1 : stop ≤ 255) (w : World) (hv : OpsAt w w.heap.size v l) :
    Calls Try.prog 8 #[v, .int .u8 stop] w fun e w' => e = .returned (.bool true) ∧ Below w.heap.size w w' := by
  obtain ⟨A, cap, rfl, h1, h2, hok, h3⟩ := hv
  unfold maxLen at h2
  obtain ⟨w0, e0, hz0, b0, b1, t0⟩ := alloc2 w (.cells #[.int .u8 stop] 5) (.cells #[.bool false] 4)
  refine calls_of_wp_marks Try.func8 rfl ?_
  simp only [Try.ntmps8, List.size_toArray, List.length_cons, List.length_nil, Nat.reduceAdd, Nat.reduceSub, Array.replicate_succ, Array.replicate_zero, List.push_toArray, List.append_toArray, List.nil_append, List.cons_append]
  by_cases hlen : 20 < l.length
  · go_wp2_with fail
    refine (wakes15_any _).mono ?_; rintro e w1 ⟨rfl, hb1⟩; dsimp only
    have d1 : Boxed w1 (w.heap.size + 1) 4 (.bool false) := (hb1.block (w.heap.size + 1) (by omega)).trans b1
    have c0 := d1.cell
    have c1 := d1.frozen
    have D2 := Lib.hid (d1.set (.bool true))
    have HB := Lib.hid (((t0.trans (Touch.of_new hb1)).below (n := w.heap.size) (Nat.le_refl _) (fun _ h => h.elim)).trans (Touch.below (X := fun k => k = w.heap.size + 1) (Touch.setCell (X := fun k => k = w.heap.size + 1) (Touch.refl _ w1) (p := ⟨w.heap.size + 1, 0, none⟩) (.inl rfl) (.bool true)) (n := w.heap.size) (by have := hb1.size; omega) (fun k hk => by omega)))
    clear e0 d1
    go_wp2_with fail
    exact post_nomark rfl (results_c1 rfl _ _ _ _ _ rfl D2.out.cell Try.underlying4 rfl) ⟨rfl, HB.out⟩
  have hlen' : l.length ≤ 20 := by omega
  go_wp2_with fail
  refine (wakes15_any _).mono ?_; rintro e w1 ⟨rfl, hb1⟩; dsimp only
  clear e0
  go_wp2_with fail
  refine (New_any _).mono ?_; rintro e w2 ⟨rfl, k1, hb2, hs2⟩; dsimp only
  have t2 := (t0.trans (Touch.of_new (X := fun _ => False) hb1)).trans (Touch.of_new (X := fun _ => False) hb2)
  have hz1 := hb1.size
  have g0 := (hb2.block w.heap.size (by omega)).trans ((hb1.block w.heap.size (by omega)).trans b0)
  have g1 := (hb2.block (w.heap.size + 1) (by omega)).trans ((hb1.block (w.heap.size + 1) (by omega)).trans b1)
  clear b0 b1 t0 hb1 hb2
  generalize w1.heap.size = s at *
  obtain ⟨W3, e3⟩ : ∃ W, w2.alloc (.cells #[.int .i64 0, .slice none 0 0] 51) = W := ⟨_, rfl⟩
  have f2 : Touch (fun _ => False) w2 (w2.alloc (.cells #[.int .i64 0, .slice none 0 0] 51)) := (Touch.refl _ w2).alloc _
  have hX := heap_alloc_new w2 (.cells #[.int .i64 0, .slice none 0 0] 51)
  have hz3 := World.size_alloc w2 (.cells #[.int .i64 0, .slice none 0 0] 51)
  rw [e3] at f2 hX hz3
  rw [hs2] at hX hz3
  have G0 := (f2.block w.heap.size (by omega) (fun h => h)).trans g0
  have G1 := (f2.block (w.heap.size + 1) (by omega) (fun h => h)).trans g1
  have K1 := Lib.hid (k1.keep f2 (fun h => h) (fun h => h))
  have T3 := Lib.hid (t2.trans f2)
  clear g0 g1 k1 t2 f2
  go_wp2_with fail
  go_loopw [23] (fun i wr => ∃ j : Nat, j ≤ l.length ∧ i = .int .i64 j ∧ ∃ L sx, Hid (ClockAt wr (s + 1) s j 0 (setAll 0 (l.take j))) ∧ Hid (BoxC wr (s + 2) 0 sx) ∧ Hid (ownsL wr (s + 3) sx L) ∧ Hid (Rep (setAll 0 (l.take j)) L) ∧ L.length ≤ j ∧ Hid (Touch (fun k => s ≤ k) W3 wr) ∧ s + 3 ≤ wr.heap.size) (fun i _ => l.length - (intOf i).toNat)
  case atStart => exact ⟨0, Nat.zero_le _, rfl, [], _, K1, Lib.hid hX, Lib.hid ⟨rfl, .inl ⟨rfl, rfl⟩⟩, Lib.hid Rep.nil, Nat.le_refl _, Lib.hid (Touch.refl _ _), by omega⟩
  case round =>
    obtain ⟨j, hj, rfl, L, sx, hC, hB, hR, hP, hL, hT, hsz⟩ := hrel
    by_cases hlt : j < l.length
    · obtain ⟨g, o, rfl, hg, hc⟩ := h3 (by rintro rfl; simp at hlt)
      obtain ⟨q0, q1, q2⟩ := hc j hlt
      have r0 := (hT.out.cell (p := ⟨g, o + j * 3, none⟩) (by show g < W3.heap.size; omega) (by show ¬ s ≤ g; omega)).trans ((T3.out.cell (p := ⟨g, o + j * 3, none⟩) hg (fun h => h)).trans q0)
      have r1 := (hT.out.cell (p := ⟨g, o + j * 3 + 1, none⟩) (by show g < W3.heap.size; omega) (by show ¬ s ≤ g; omega)).trans ((T3.out.cell (p := ⟨g, o + j * 3 + 1, none⟩) hg (fun h => h)).trans q1)
      have r2 := (hT.out.cell (p := ⟨g, o + j * 3 + 2, none⟩) (by show g < W3.heap.size; omega) (by show ¬ s ≤ g; omega)).trans ((T3.out.cell (p := ⟨g, o + j * 3 + 2, none⟩) hg (fun h => h)).trans q2)
      obtain ⟨_, hid, _⟩ := hok (l[j]?.getD default) (by rw [List.getElem?_eq_getElem hlt]; exact List.getElem_mem hlt)
      have Ht := Lib.hid (show l.take (j + 1) = l.take j ++ [l[j]?.getD default] by rw [List.take_add_one, List.getElem?_eq_getElem hlt]; rfl)
      clear hc h3 hok q0 q1 q2
      generalize l[j]?.getD default = op at *
      obtain ⟨ok, oi, on⟩ := op
      dsimp only at r0 r1 r2 hid
      have hw1 : Touch (fun _ => False) wr (wr.alloc (.cells #[.int .u8 ok, .int .i64 oi, .int .i64 on] 53)) := (Touch.refl _ wr).alloc _
      have Y1 := Lib.hid (World.cell?_alloc_new wr #[.int .u8 ok, .int .i64 oi, .int .i64 on] 53 1)
      have Y2 := Lib.hid (World.cell?_alloc_new wr #[.int .u8 ok, .int .i64 oi, .int .i64 on] 53 2)
      have HW := Lib.hid hw1
      have HRS := Lib.hid (hP.out.setF 0 oi on hid)
      clear hw1
      go_wp2_with fail
      refine (Set_any (hC.out.keep HW.out (fun h => h) (fun h => h)) oi on hid (by decide) (by decide) (by unfold maxLen; omega)).mono ?_; rintro e w4 ⟨rfl, kk1, ht4⟩; dsimp only
      have z1 := (ht4.cell (p := ⟨wr.heap.size, 1, none⟩) (by show wr.heap.size < _; rw [World.size_alloc]; omega) (by show ¬ wr.heap.size = s; omega)).trans Y1.out
      have z2 := (ht4.cell (p := ⟨wr.heap.size, 2, none⟩) (by show wr.heap.size < _; rw [World.size_alloc]; omega) (by show ¬ wr.heap.size = s; omega)).trans Y2.out
      change w4.cell? _ = some (Value.int .i64 oi) at z1
      change w4.cell? _ = some (Value.int .i64 on) at z2
      have hz4 := ht4.size
      rw [World.size_alloc] at hz4
      have KK := Lib.hid kk1
      have HT4 := Lib.hid ((HW.out.mono (Y := (· = s)) (fun _ _ h => h.elim)).trans ht4)
      have x1 : BoxC w4 (s + 2) 0 sx := (HT4.out.block (s + 2) (by omega) (by show ¬ s + 2 = s; omega)).trans hB.out
      have x2 := cell2_0 x1
      have x3 := cell2_1 x1
      have HX1 := Lib.hid x1
      have HR4 := Lib.hid (own_touchL hR.out HT4.out (fun k hk e => own_ge hR.out (k := s) (by omega) (by rw [hk]; exact congrArg some e.symm)))
      clear kk1 ht4 x1
      go_wp2_with fail
      refine (RefSet_any (w := w4) (base := s + 3) (now := 0) (l := L) ⟨sx, rfl, HR4.out⟩ (by omega) (by omega) oi on (by decide) (by decide)).mono ?_; rintro e w5 ⟨v5, rfl, ⟨s5, rfl, hr5⟩, hb5⟩; dsimp only
      obtain ⟨A5, cap5, rfl, _, _, _⟩ := ownsL_form hr5
      have hz5 := hb5.size
      have y1 : BoxC w5 (s + 2) 0 sx := (hb5.block (s + 2) (by omega)).trans HX1.out
      have y2 := cell2_0 y1
      have y3 := cell2_1 y1
      have y4 := frozen2 (i := 0) y1
      have y5 := frozen2 (i := 1) y1
      have y6 := set2_0 (.int .i64 0) y1
      have y7 := cell2_1 y6
      have y8 := frozen2 (i := 1) y6
      have Z9 := Lib.hid (set2_1 (.slice A5 (setL 0 L oi on).length cap5) y6)
      have hT6 : Touch (fun k => k = s + 2) w5 ((w5.setCell ⟨s + 2, 0, none⟩ (.int .i64 0)).setCell ⟨s + 2, 1, none⟩ (.slice A5 (setL 0 L oi on).length cap5)) :=
        ((Touch.refl (fun k => k = s + 2) w5).setCell (p := ⟨s + 2, 0, none⟩) (.inl rfl) _).setCell (p := ⟨s + 2, 1, none⟩) (.inl rfl) _
      have HT5 := Lib.hid (Touch.of_new (X := fun _ => False) hb5)
      have HT6 := Lib.hid hT6
      have HR6 := Lib.hid (own_touchL hr5 hT6 (fun k hk e => own_ge hr5 (k := s + 2) (by omega) (by rw [hk]; exact congrArg some e.symm)))
      have HK6 := Lib.hid ((KK.out.keep HT5.out (fun h => h) (fun h => h)).keep hT6 (by omega) (by omega))
      have HTT := Lib.hid (((hT.out.trans (HT4.out.mono (Y := fun k => s ≤ k) (fun k _ e => by have e' : k = s := e; omega))).trans (HT5.out.mono (fun _ _ h => h.elim))).trans (hT6.mono (fun k _ e => by have e' : k = s + 2 := e; omega)))
      have hL5 := setL_len 0 L oi on
      clear y1 y6 hT6 hr5 hb5 z1 z2 x2 x3
      go_wp2_with fail
      go_roundw
      case rel =>
        refine ⟨j + 1, by omega, by go_num, setL 0 L oi on, _, ?_, Z9, HR6, ?_, by omega, HTT, ?_⟩
        · rw [Ht.out, setAll_snoc]; exact HK6
        · rw [Ht.out, setAll_snoc]; exact HRS
        · have := HTT.out.size; omega
      case measure => simp [intOf]; omega
    · have Hj := Lib.hid (show j = l.length by omega)
      have hend : l.length ≤ j := by omega
      have hjl : j ≤ 20 := by omega
      clear hlt h3 hok
      generalize setAll 0 (l.take j) = F at *
      have hneq := Try.neq_nilFunc
      have NB := Boxed.new wr 3 (.int .i64 0)
      go_wp2_with fail
      refine (TimersC_any _ (s + 1)).mono ?_; rintro e w' ⟨rfl, rfl⟩; dsimp only
      go_wp2_with fail
      rw [World.size_alloc]
      obtain ⟨N, eN⟩ : ∃ n, wr.heap.size = n := ⟨_, rfl⟩
      obtain ⟨W4, e4, hz4, nb, pb, t4⟩ := alloc2 wr (.cells #[.int .i64 0] 3) (.cells #[.pointer (some ⟨s + 1, 0, none⟩)] 47)
      rw [e4]
      rw [eN] at nb pb hz4 hsz ⊢
      have hC4 := hC.out.keep t4 (fun h => h) (fun h => h)
      have hB4 : BoxC W4 (s + 2) 0 sx := (t4.block (s + 2) (by omega) (fun h => h)).trans hB.out
      have hR4 := own_touchL hR.out t4 (fun _ _ h => h)
      have hT4 := (hT.out.trans (t4.mono (Y := fun k => s ≤ k) (fun _ _ h => h.elim)))
      have sb : Boxed W4 w.heap.size 5 (.int .u8 stop) := (hT4.block w.heap.size (by omega) (by omega)).trans G0
      have rb : Boxed W4 (w.heap.size + 1) 4 (.bool false) := (hT4.block (w.heap.size + 1) (by omega) (by omega)).trans G1
      have hTw := Lib.hid ((T3.out.mono (Y := fun k => s ≤ k) (fun _ _ h => h.elim)).trans hT4)
      have hids := hP.out.ids
      have HO := Lib.hid (show ∀ k, sx.ownBlock = some k → k < N from fun k hk => by have := own_lt hR.out hk; omega)
      clear hT4 t4 e4 hB hR hT hC NB e3 hX
      have hI0 : StI (L.map Tm.id) stop N W4 [] W4 := ⟨by simp, by simpa using hs0, nb, Touch.refl _ _⟩
      have hput := KeepC.put (X := fun k => k = N) (fb := w.heap.size) (w := W4) (by omega)
      refine wp_rangeK (w := W4) (Kp := KeepC (fun k => k = N) w.heap.size) (encs := fun x : Int => #[.int .i64 x, .int .i64 (dueV F x)]) (fun h k => KeepC.trans h k) hput (gf := 49) rfl (enters_of Try.func49 (by kernel_rfl) rfl)
        (timers_stops (p := N + 1) (fun k => k = N) w.heap.size W4 (by omega) (by omega) (by omega) (by omega : j ≤ 1000000) (by intro k hk; omega) (by omega) (by
          rintro k ⟨v, t', fr, e1, e2⟩
          rw [show W4.heap[w.heap.size]? = _ from sb] at e1
          cases e1; cases e2) (by omega) (Boxed.cell pb) hC4)
        (Below.refl _ _) (fun _ => rfl) (StI (L.map Tm.id) stop N W4) (fun cd pre W => (cd = .exit 2 ∧ ∃ ini x, pre = ini ++ [x] ∧ stop ≤ ini.length ∧ StI (L.map Tm.id) stop N W4 ini W) ∨ ¬ pre <+: L.map Tm.id)
        ?hI ?hIx hI0 ?a1 ?assign ?body ?done ?stop
      case assign =>
        intro l' x W K hK
        gi_wp2
        exact hK
      case hI => exact StI.own (by omega)
      case hIx =>
        intro cd pre W W' row h hg hr
        rcases h with ⟨h1, ini, x, h2, h3, h4⟩ | h
        · exact .inl ⟨h1, ini, x, h2, h3, StI.own (by omega) ini W W' row h4 hg hr⟩
        · exact .inr h
      case body =>
        rintro l' pre x W ⟨hpre, hle, nbW, htW⟩ hlen'
        have n0 := nbW.cell
        have n1 := nbW.frozen
        have u0 := (htW.cell (p := ⟨w.heap.size, 0, none⟩) (by show w.heap.size < W4.heap.size; omega) (by show ¬ w.heap.size = N; omega)).trans sb.cell
        have rb' : Boxed W (w.heap.size + 1) 4 (.bool false) := (htW.block (w.heap.size + 1) (by omega) (by show ¬ w.heap.size + 1 = N; omega)).trans rb
        have r0 := rb'.cell
        have r1 := rb'.frozen
        obtain ⟨A', cap', rfl, c0, cm, hcell⟩ := ownsL_form hR4
        unfold maxLen at cm
        have x1 := (htW.cell (p := ⟨s + 2, 1, none⟩) (by show s + 2 < W4.heap.size; omega) (by show ¬ s + 2 = N; omega)).trans (cell2_1 hB4)
        have HI := Lib.hid (show StI (L.map Tm.id) stop N W4 pre W from ⟨hpre, hle, nbW, htW⟩)
        obtain ⟨dx, hdx⟩ : ∃ dx, dueV F x = dx := ⟨_, rfl⟩
        rw [hdx]
        have Hdx := Lib.hid hdx
        clear hdx
        by_cases hst : stop ≤ (pre.length : Int)
        · clear hcell hpre nbW htW
          gi_wp2_with fail
          exact ⟨KeepsFrom.refl _ _, .inl ⟨rfl, pre, x, rfl, by first | exact hst | assumption, HI.out⟩⟩
        · have hst' : (pre.length : Int) < stop := by omega
          by_cases hge : L.length ≤ pre.length
          · have HN := Lib.hid (show ¬ pre ++ [x] <+: L.map Tm.id from fun h => by obtain ⟨hl, _⟩ := prefix_at h; rw [List.length_map] at hl; omega)
            have hge' : (L.length : Int) ≤ (pre.length : Int) := by omega
            clear hcell hpre nbW htW hst
            gi_wp2_with fail
            exact ⟨keepsFrom_set _ _ (by show w.heap.size + 1 < _; omega) _, .inr HN.out⟩
          · have hlt : pre.length < L.length := by omega
            obtain ⟨g, rfl, hob, hbg, hgl, q0, q1⟩ := hcell pre.length hlt
            have hgN := HO.out g hob
            have y0 := (htW.cell (p := ⟨g, pre.length * 2, none⟩) (by show g < W4.heap.size; omega) (by show ¬ g = N; omega)).trans q0
            have y1 := (htW.cell (p := ⟨g, pre.length * 2 + 1, none⟩) (by show g < W4.heap.size; omega) (by show ¬ g = N; omega)).trans q1
            have hgt : ¬ (L.length : Int) ≤ (pre.length : Int) := by omega
            have hi0 : (0 : Int) ≤ (pre.length : Int) := Int.natCast_nonneg _
            have hi1 : (pre.length : Int) < (L.length : Int) := by omega
            have hidat : (L.map Tm.id)[pre.length]'(by rw [List.length_map]; exact hlt) = L[pre.length].id := by simp
            by_cases hx : x = L[pre.length].id
            · have hd : dx = L[pre.length].due := by rw [← Hdx.out, hx]; exact hP.out.due (List.getElem_mem hlt)
              have HN := Lib.hid (prefix_not hpre (x := x) (by rw [List.length_map]; exact hlt) (by rw [hidat, hx]))
              have HB := Lib.hid (nbW.set (.int .i64 ((pre.length : Int) + 1)))
              have HT := Lib.hid (htW.setCell (p := ⟨N, 0, none⟩) (.inl rfl) (.int .i64 ((pre.length : Int) + 1)))
              have hfb : (W.setCell ⟨N, 0, none⟩ (.int .i64 ((pre.length : Int) + 1))).heap[w.heap.size]? = W.heap[w.heap.size]? := Below.heap_setCell W ⟨N, 0, none⟩ _ w.heap.size (by show ¬ w.heap.size = N; omega)
              have hKp := KeepC.of_touch (X := fun k => k = N) ((Touch.refl (fun k => k = N) W).setCell (p := ⟨N, 0, none⟩) (.inl rfl) (.int .i64 ((pre.length : Int) + 1))) hfb
              have HKp := Lib.hid hKp
              have Hst := Lib.hid hst'
              clear hcell hpre nbW htW hst q0 q1 hidat hKp hfb HO Hdx HI
              subst hd
              subst hx
              generalize L[pre.length] = t at *
              gi_wp2_with fail
              refine ⟨keepsFrom_set _ _ (by show N < _; omega) _, HKp.out, HN.out, ?_, ?_, HT.out⟩
              · rw [List.length_append, List.length_singleton]; have := Hst.out; omega
              · rw [List.length_append, List.length_singleton]; exact HB.out
            · have HN := Lib.hid (show ¬ pre ++ [x] <+: L.map Tm.id from fun h => by obtain ⟨hl, he⟩ := prefix_at h; rw [hidat] at he; exact hx he.symm)
              have g1 : (x == L[pre.length].id) = false := by simpa using hx
              clear hcell hpre nbW htW hst hx q0 q1 hidat
              generalize L[pre.length] = t at *
              gi_wp2_with fail
              exact ⟨keepsFrom_set _ _ (by show w.heap.size + 1 < _; omega) _, .inr HN.out⟩
      case done =>
        rintro D xs W hD hS ⟨hpre, hle, nbW, htW⟩ hK
        obtain rfl : xs = L.map Tm.id := hS.unique hids
        rw [List.length_map] at hle nbW
        have n0 := nbW.cell
        have u0 := (htW.cell (p := ⟨w.heap.size, 0, none⟩) (by show w.heap.size < W4.heap.size; omega) (by show ¬ w.heap.size = N; omega)).trans sb.cell
        have rb' : Boxed W (w.heap.size + 1) 4 (.bool false) := (htW.block (w.heap.size + 1) (by omega) (by show ¬ w.heap.size + 1 = N; omega)).trans rb
        have r0 := rb'.cell
        have r1 := rb'.frozen
        obtain ⟨A', cap', rfl, c0, cm, _⟩ := ownsL_form hR4
        unfold maxLen at cm
        have x1 := (htW.cell (p := ⟨s + 2, 1, none⟩) (by show s + 2 < W4.heap.size; omega) (by show ¬ s + 2 = N; omega)).trans (cell2_1 hB4)
        have RT := Lib.hid (rb'.set (.bool true))
        have HT := Lib.hid htW
        have HM := Lib.hid (show ((L.length : Int) == min stop (L.length : Int)) = true by rw [beq_iff_eq]; omega)
        clear rb' hpre htW
        go_wp2_with fail
        rw [HM.out]
        have hKr : (W.setCell ⟨w.heap.size + 1, 0, none⟩ (.bool true)).heap[D]? = some (.deferred (some [])) := (Below.heap_setCell W ⟨w.heap.size + 1, 0, none⟩ _ D (by show ¬ D = w.heap.size + 1; omega)).trans hK
        have hRb : Boxed ((W.setCell ⟨w.heap.size + 1, 0, none⟩ (.bool true)).putObj D (.deferred none)) (w.heap.size + 1) 4 (.bool true) := (World.putObj_heap_other (by omega)).trans RT.out
        refine post_mark rfl hKr (results_c1 rfl _ _ _ _ _ rfl hRb.cell Try.underlying4 rfl) ⟨rfl, ?_⟩
        have hTd : Touch (fun k => w.heap.size ≤ k) (W.setCell ⟨w.heap.size + 1, 0, none⟩ (.bool true)) ((W.setCell ⟨w.heap.size + 1, 0, none⟩ (.bool true)).putObj D (.deferred none)) := ⟨rfl, rfl, rfl, by simp, fun k _ hx => World.putObj_heap_other (fun e => hx (by omega))⟩
        have hTr := ((hTw.out.mono (Y := fun k => w.heap.size ≤ k) (fun k _ hk => by omega)).trans (HT.out.mono (fun k _ hk => by have e : k = N := hk; omega))).trans ((Touch.refl (fun k => w.heap.size ≤ k) W).setCell (p := ⟨w.heap.size + 1, 0, none⟩) (.inl (by show w.heap.size ≤ w.heap.size + 1; omega)) (.bool true))
        exact (hTr.trans hTd).below (Nat.le_refl _) (fun _ h => h)
      case stop =>
        rintro D cd pre W hD ⟨ys, hys, hpy⟩ hIx hK
        obtain rfl : ys = L.map Tm.id := hys.unique hids
        rcases hIx with ⟨rfl, ini, x, rfl, hst, hpre, hle, nbW, htW⟩ | hno
        · have n0 := nbW.cell
          have u0 := (htW.cell (p := ⟨w.heap.size, 0, none⟩) (by show w.heap.size < W4.heap.size; omega) (by show ¬ w.heap.size = N; omega)).trans sb.cell
          have rb' : Boxed W (w.heap.size + 1) 4 (.bool false) := (htW.block (w.heap.size + 1) (by omega) (by show ¬ w.heap.size + 1 = N; omega)).trans rb
          have r0 := rb'.cell
          have r1 := rb'.frozen
          obtain ⟨A', cap', rfl, c0, cm, _⟩ := ownsL_form hR4
          unfold maxLen at cm
          have x1 := (htW.cell (p := ⟨s + 2, 1, none⟩) (by show s + 2 < W4.heap.size; omega) (by show ¬ s + 2 = N; omega)).trans (cell2_1 hB4)
          have RT := Lib.hid (rb'.set (.bool true))
          have HT := Lib.hid htW
          obtain ⟨hlx, _⟩ := prefix_at hpy
          rw [List.length_map] at hlx
          have HM := Lib.hid (show ((ini.length : Int) == min stop (L.length : Int)) = true by rw [beq_iff_eq]; omega)
          clear rb' hpre htW hst hlx
          go_wp2_with fail
          rw [HM.out]
          have hKr : (W.setCell ⟨w.heap.size + 1, 0, none⟩ (.bool true)).heap[D]? = some (.deferred (some [])) := (Below.heap_setCell W ⟨w.heap.size + 1, 0, none⟩ _ D (by show ¬ D = w.heap.size + 1; omega)).trans hK
          have hRb : Boxed ((W.setCell ⟨w.heap.size + 1, 0, none⟩ (.bool true)).putObj D (.deferred none)) (w.heap.size + 1) 4 (.bool true) := (World.putObj_heap_other (by omega)).trans RT.out
          refine post_mark rfl hKr (results_c1 rfl _ _ _ _ _ rfl hRb.cell Try.underlying4 rfl) ⟨rfl, ?_⟩
          have hTd : Touch (fun k => w.heap.size ≤ k) (W.setCell ⟨w.heap.size + 1, 0, none⟩ (.bool true)) ((W.setCell ⟨w.heap.size + 1, 0, none⟩ (.bool true)).putObj D (.deferred none)) := ⟨rfl, rfl, rfl, by simp, fun k _ hx => World.putObj_heap_other (fun e => hx (by omega))⟩
          have hTr := ((hTw.out.mono (Y := fun k => w.heap.size ≤ k) (fun k _ hk => by omega)).trans (HT.out.mono (fun k _ hk => by have e : k = N := hk; omega))).trans ((Touch.refl (fun k => w.heap.size ≤ k) W).setCell (p := ⟨w.heap.size + 1, 0, none⟩) (.inl (by show w.heap.size ≤ w.heap.size + 1; omega)) (.bool true))
          exact (hTr.trans hTd).below (Nat.le_refl _) (fun _ h => h)
        · exact absurd hpy hno

theorem ClockStops_of (v : Value) (l : List OpV) (w : World) (h : OpsAt w w.heap.size v l) (a : Int) (wa : (Lit.int .u8 a).wf = true) :
    Calls Try.prog 8 #[v, .int .u8 a] w fun e w' => e = .returned (.bool true) ∧ Below w.heap.size w w' := by
  simp [Lit.wf, IntKind.min, IntKind.max, IntKind.signed, IntKind.bits] at wa
  exact ClockStops_any v l a wa.1 wa.2 w h

end Go.Proofs.Ytgnckeidekppjaa
