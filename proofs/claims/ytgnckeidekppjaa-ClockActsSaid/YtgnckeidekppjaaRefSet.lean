/-
  The walk of the reference's Set (layer 15).
-/
import Derived.Test.YtgnckeidekppjaaRefClock
import Derived.BigQuiet
namespace Go.Proofs.Ytgnckeidekppjaa
open Go.RowKit Go.Maps
set_option linter.unusedVariables false
set_option linter.unusedSimpArgs false
attribute [local go_sem ↓] Go.wp_at_zero Go.wp_at_succ

/-- t stands before a. -/
def befT (t a : Tm) : Bool := decide (t.due < a.due) || (decide (a.due = t.due) && decide (t.id < a.id))
def insT (t : Tm) : List Tm → List Tm
  | [] => [t]
  | a :: l => if befT t a then t :: a :: l else a :: insT t l

theorem insT_snoc_put (t a : Tm) : ∀ p : List Tm, p.any (befT t) = true → insT t (p ++ [a]) = insT t p ++ [a]
  | [], h => by simp at h
  | b :: p, h => by
    by_cases hb : befT t b = true
    · simp [insT, hb]
    · simp only [List.any_cons, hb, Bool.false_or] at h
      simp only [List.cons_append, insT, hb, if_false, Bool.false_eq_true, insT_snoc_put t a p h]
theorem insT_none (t : Tm) : ∀ p : List Tm, p.any (befT t) = false → insT t p = p ++ [t]
  | [], _ => rfl
  | b :: p, h => by
    simp only [List.any_cons, Bool.or_eq_false_iff] at h
    simp only [List.cons_append, insT, h.1, if_false, Bool.false_eq_true, insT_none t p h.2]
theorem insT_snoc_now (t a : Tm) (ha : befT t a = true) : ∀ p : List Tm, p.any (befT t) = false → insT t (p ++ [a]) = p ++ [t, a]
  | [], _ => by simp [insT, ha]
  | b :: p, h => by
    simp only [List.any_cons, Bool.or_eq_false_iff] at h
    simp only [List.cons_append, insT, h.1, if_false, Bool.false_eq_true, insT_snoc_now t a ha p h.2]

/-- What lies in out behind some timers. -/
def midT (t : Tm) (p : List Tm) : List Tm := if p.any (befT t) then insT t p else p
theorem midT_len (t : Tm) (p : List Tm) : (midT t p).length ≤ p.length + 1 := by
  unfold midT
  have h : ∀ p : List Tm, (insT t p).length ≤ p.length + 1 := by
    intro p
    induction p with
    | nil => simp [insT]
    | cons a l ih => unfold insT; split <;> simp <;> omega
  split
  · exact h p
  · omega
theorem midT_put {t a : Tm} {p : List Tm} (h : p.any (befT t) = true) : midT t (p ++ [a]) = midT t p ++ [a] := by
  unfold midT; simp [h, insT_snoc_put]
theorem midT_now {t a : Tm} {p : List Tm} (h : p.any (befT t) = false) (ha : befT t a = true) : midT t (p ++ [a]) = (midT t p ++ [t]) ++ [a] := by
  unfold midT; simp [h, ha, insT_snoc_now]
theorem midT_not {t a : Tm} {p : List Tm} (h : p.any (befT t) = false) (ha : befT t a = false) : midT t (p ++ [a]) = midT t p ++ [a] := by
  unfold midT; simp [h, ha]
theorem midT_end {t : Tm} {p : List Tm} (h : p.any (befT t) = false) : insT t p = midT t p ++ [t] := by
  unfold midT; simp [h, insT_none]
theorem midT_end' {t : Tm} {p : List Tm} (h : p.any (befT t) = true) : insT t p = midT t p := by
  unfold midT; simp [h]

def refSetOk (after : Int) : Bool := decide (1 ≤ after ∧ after ≤ 1073741824)

theorem ref_ret2 {w : World} (o1 : Obj) (cs : Array Value) : ((w.alloc o1).alloc (.cells cs 51)).heap[w.heap.size + 1]? = some (.cells cs 51 (0, 0)) := heap_alloc2_new w _ _

theorem RefSet_no {w : World} {base : Nat} {v : Value} {now : Int} {l : List Tm} (h : RefV w base v now l) (id after : Int) (ha : refSetOk after = false) :
    Calls Try.prog 31 #[v, .int .i64 id, .int .i64 after] w fun e w' => e = .returned (.tuple #[v, .int .i64 1]) ∧ Below w.heap.size w w' := by
  obtain ⟨s, rfl, hrow⟩ := h
  obtain ⟨A, cap, rfl, _, _, _⟩ := ownsL_form hrow
  unfold refSetOk at ha
  rw [decide_eq_false_iff_not] at ha
  by_cases h1 : after < 1
  · clear ha
    go_enter Try.func31, Try.ntmps31
    go_wp2_with fail
    refine bodyPost_ret (results_ct rfl _ _ _ _ _ _ _ rfl (ref_ret2 _ _) Try.underlying51 rfl Try.size_clock) rfl ?_
    exact ⟨rfl, ((Below.refl _ w).alloc (Nat.le_refl _) _).alloc (by simp) _⟩
  · have h2 : 1073741824 < after := by omega
    clear ha
    go_enter Try.func31, Try.ntmps31
    go_wp2_with fail
    refine bodyPost_ret (results_ct rfl _ _ _ _ _ _ _ rfl (ref_ret2 _ _) Try.underlying51 rfl Try.size_clock) rfl ?_
    exact ⟨rfl, ((Below.refl _ w).alloc (Nat.le_refl _) _).alloc (by simp) _⟩

/-- Three variables made behind a letter's world. -/
theorem alloc2 (w : World) (o1 o2 : Obj) : ∃ W, (w.alloc o1).alloc o2 = W ∧ W.heap.size = w.heap.size + 2 ∧ W.heap[w.heap.size]? = some o1 ∧ W.heap[w.heap.size + 1]? = some o2 ∧ Touch (fun _ => False) w W := by
  refine ⟨_, rfl, by simp, ?_, ?_, ((Touch.refl _ w).alloc _).alloc _⟩
  · rw [Below.heap_alloc _ _ _ (by simp), World.alloc_heap_new]
  · have := World.alloc_heap_new (w.alloc o1) o2
    rw [World.size_alloc] at this
    exact this

theorem ownsL.own_touch0 {W W' : World} {base : Nat} {s : Value} {l : List Tm} (h : ownsL W base s l) (t : Touch (fun _ => False) W W') : ownsL W' base s l := own_touchL h t (fun _ _ h => h)

set_option maxHeartbeats 2000000 in
set_option maxRecDepth 100000 in
theorem RefSet_yes {w : World} {base : Nat} {v : Value} {now : Int} {l : List Tm} (h : RefV w base v now l) (hl : l.length ≤ 900) (id after : Int) (ha : refSetOk after = true) (hn0 : 0 ≤ now) (hn1 : now ≤ 4611686018427387904) :
    Calls Try.prog 31 #[v, .int .i64 id, .int .i64 after] w fun e w' => ∃ v', e = .returned (.tuple #[v', .int .i64 0]) ∧
      RefV w' w.heap.size v' now (insT ⟨id, now + after⟩ (l.filter fun t => !decide (t.id = id))) ∧ Below w.heap.size w w' := by
  obtain ⟨s, rfl, hrow⟩ := h
  obtain ⟨A, cap, rfl, _, _, _⟩ := ownsL_form hrow
  obtain ⟨i0, hi, hz0, hz1, hz2⟩ := Try.info_timer
  unfold refSetOk at ha
  rw [decide_eq_true_eq] at ha
  obtain ⟨a1, a2⟩ := ha
  go_enter Try.func31, Try.ntmps31
  go_wp2_with fail
  obtain ⟨W0, e0, hs0, b0, b1, t0⟩ := alloc2 w (.cells #[.int .i64 now, .slice A l.length cap] 51) (.cells #[.int .i64 0, .slice none 0 0] 51)
  rw [e0]
  clear e0
  refine (without_any (w := W0) ⟨_, rfl, hrow.own_touch0 t0⟩ (by omega) id).mono ?_; rintro e w2 ⟨v2, rfl, ⟨s2, rfl, hrow2⟩, hb2⟩; dsimp only
  have hfl := List.length_filter_le (fun t : Tm => !decide (t.id = id)) l
  obtain ⟨x, ex⟩ : ∃ x, l.filter (fun t : Tm => !decide (t.id = id)) = x := ⟨_, rfl⟩
  rw [ex] at hrow2 hfl
  have EX := Lib.hid ex
  clear ex
  obtain ⟨A2, cap2, rfl, hc0, hcm, hcell⟩ := ownsL_form hrow2
  have c0 := (hb2.block w.heap.size (by omega)).trans b0
  have c1 := (hb2.block (w.heap.size + 1) (by omega)).trans b1
  have c00 := cell2_0 c0
  have hwt := (t0.trans (Touch.of_new hb2))
  have hsz2 := hwt.size
  have h21 := hb2.size
  clear hrow
  unfold maxLen at hcm
  have b0' : IntKind.i64.wrap (now + after) = now + after := IntWalk.i64_in _ (by omega)
  have f0 : Touch (fun _ => False) w2 (w2.alloc (.cells #[.int .i64 now, .slice A2 x.length cap2] 51)) := (Touch.refl _ w2).alloc _
  have f1 := (f0.cell (p := ⟨w.heap.size, 0, none⟩) (by show w.heap.size < w2.heap.size; omega) (fun h => h)).trans c00
  have f2 := ((f0.alloc (.cells #[.int .i64 id, .int .i64 (now + after)] 61)).cell (p := ⟨w.heap.size, 0, none⟩) (by show w.heap.size < w2.heap.size; omega) (fun h => h)).trans c00
  go_wp2_with fail
  obtain ⟨W3, e0, hs3, d0, d1, d2, t3⟩ := alloc3 w2 (.cells #[.int .i64 now, .slice A2 x.length cap2] 51) (.cells #[.int .i64 id, .int .i64 (now + after)] 61) (.cells #[.int .i64 now, .slice none 0 0] 51)
  rw [e0]
  clear e0 f1 f2 f0 c00
  have c1' := (t3.block (w.heap.size + 1) (by omega) (fun h => h)).trans c1
  have hwt3 := hwt.trans t3
  clear c0 c1 b0 b1 t0 hwt
  generalize hS : w2.heap.size = S at *
  have hH : w.heap.size + 2 ≤ S := by omega
  obtain ⟨due, edue⟩ : ∃ d, now + after = d := ⟨_, rfl⟩
  rw [edue] at b0' d1 ⊢
  have EDue := Lib.hid edue
  clear edue
  go_loopw [12, 13] (fun pb i wr => ∃ j : Nat, j ≤ x.length ∧ i = .int .i64 j ∧ pb = .bool ((x.take j).any (befT ⟨id, due⟩)) ∧ ∃ s', Hid (BoxC wr (S + 1 + 1) now s') ∧
      Hid (ownsL wr (S + 3) s' (midT ⟨id, due⟩ (x.take j))) ∧ Hid (Touch (fun k => k = S + 1 + 1 ∨ S + 3 ≤ k) W3 wr)) (fun _ i _ => x.length - (intOf i).toNat)
  case atStart => exact ⟨0, Nat.zero_le _, rfl, rfl, _, Lib.hid d2, Lib.hid ⟨rfl, .inl ⟨rfl, rfl⟩⟩, Lib.hid (Touch.refl _ _)⟩
  case round =>
    obtain ⟨j, hj, rfl, rfl, s', hb, hr, ht⟩ := hrel
    have hsz := ht.out.size
    rw [hs3] at hsz
    have hmid := midT_len ⟨id, due⟩ (x.take j)
    rw [List.length_take] at hmid
    have x0 := (ht.out.cell (p := ⟨S, 1, none⟩) (by show S < W3.heap.size; omega) (by show ¬ (S = S + 1 + 1 ∨ S + 3 ≤ S); omega)).trans (cell2_1 d0)
    have x5 := (ht.out.block (S + 1) (by omega) (by omega)).trans d1
    have x6 := cell2_0 x5
    have x7 := cell2_1 x5
    have x2 := cell2_1 hb.out
    have x3 : wr.frozen? ⟨S + 1 + 1, 1, none⟩ = false := frozen2 hb.out
    by_cases hlt : j < x.length
    · obtain ⟨g, rfl, hob, hbg, hgl, q0, q1⟩ := hcell j hlt
      have y0 := (ht.out.cell (p := ⟨g, j * 2, none⟩) (by show g < W3.heap.size; omega) (by show ¬ (g = S + 1 + 1 ∨ S + 3 ≤ g); omega)).trans ((t3.cell (p := ⟨g, j * 2, none⟩) (by show g < w2.heap.size; omega) (fun h => h)).trans q0)
      have y1 := (ht.out.cell (p := ⟨g, j * 2 + 1, none⟩) (by show g < W3.heap.size; omega) (by show ¬ (g = S + 1 + 1 ∨ S + 3 ≤ g); omega)).trans ((t3.cell (p := ⟨g, j * 2 + 1, none⟩) (by show g < w2.heap.size; omega) (fun h => h)).trans q1)
      have Ht := Lib.hid (show x.take (j + 1) = x.take j ++ [x[j]] by rw [List.take_add_one, List.getElem?_eq_getElem hlt]; rfl)
      replace q0 := (t3.cell (p := ⟨g, j * 2, none⟩) (by show g < w2.heap.size; omega) (fun h => h)).trans q0
      replace q1 := (t3.cell (p := ⟨g, j * 2 + 1, none⟩) (by show g < w2.heap.size; omega) (fun h => h)).trans q1
      clear hcell
      generalize x[j] = t at *
      generalize x.take j = X at *
      obtain ⟨tid, tdue⟩ := t
      dsimp only at y0 y1 q0 q1
      have n0 : ∀ k, (wr.drewN k).cell? ⟨S, 1, none⟩ = some (Value.slice (some ⟨g, 0, none⟩) x.length cap2) := fun _ => x0
      have n1 : ∀ k, (wr.drewN k).cell? ⟨S + 1, 1, none⟩ = some (.int .i64 due) := fun _ => x7
      have n2 : ∀ k, (wr.drewN k).cell? ⟨g, j * 2, none⟩ = some (.int .i64 tid) := fun _ => y0
      have n3 : ∀ k, (wr.drewN k).cell? ⟨g, j * 2 + 1, none⟩ = some (.int .i64 tdue) := fun _ => y1
      cases hp : X.any (befT ⟨id, due⟩) with
      | true =>
        have HA : Hid ((X ++ [(⟨tid, tdue⟩ : Tm)]).any (befT ⟨id, due⟩) = true) := Lib.hid (by simp [hp])
        have HM0 := Lib.hid (midT_put (a := ⟨tid, tdue⟩) hp)
        go_wp2_with fail
        go_quiet (fail)
        have hB0 : BoxC (wr.drewN nq) (S + 1 + 1) now s' := hb.out
        have hR0 : ownsL (wr.drewN nq) (S + 3) s' (midT ⟨id, due⟩ X) := own_touchL hr.out ((Touch.refl (fun _ => False) wr).drewN nq) (fun _ _ h => h)
        have hT0 : Touch (fun k => k = S + 1 + 1 ∨ S + 3 ≤ k) W3 (wr.drewN nq) := ht.out.drewN nq
        obtain ⟨wq, ewq⟩ : ∃ W, wr.drewN nq = W := ⟨_, rfl⟩
        rw [ewq] at hB0 hR0 hT0 ⊢
        obtain ⟨sq, esq⟩ : ∃ z, s' = z := ⟨_, rfl⟩
        rw [esq] at hB0 hR0
        obtain ⟨L, eL⟩ : ∃ L, midT ⟨id, due⟩ X = L := ⟨_, rfl⟩
        rw [eL] at hR0 hmid
        have EL := Lib.hid eL
        have hB := Lib.hid hB0
        have hR := Lib.hid hR0
        have hT := Lib.hid hT0
        have hszq := hT0.size
        rw [hs3] at hszq
        clear hB0 hR0 hT0 n0 n1 n2 n3 x0 x2 x3 x5 x6 x7 y0 y1 ewq esq eL hb hr ht hsz
        have HM := HM0
        rw [EL.out] at HM
        have x0 := (hT.out.cell (p := ⟨S, 1, none⟩) (by show S < W3.heap.size; omega) (by show ¬ (S = S + 1 + 1 ∨ S + 3 ≤ S); omega)).trans (cell2_1 d0)
        have x2 := cell2_1 hB.out
        have x3 : wq.frozen? ⟨S + 1 + 1, 1, none⟩ = false := frozen2 hB.out
        have y0 := (hT.out.cell (p := ⟨g, j * 2, none⟩) (by show g < W3.heap.size; omega) (by show ¬ (g = S + 1 + 1 ∨ S + 3 ≤ g); omega)).trans q0
        have y1 := (hT.out.cell (p := ⟨g, j * 2 + 1, none⟩) (by show g < W3.heap.size; omega) (by show ¬ (g = S + 1 + 1 ∨ S + 3 ≤ g); omega)).trans q1
        have hXX : Touch (fun _ => False) wq (wq.alloc (.cells #[.int .i64 tid, .int .i64 tdue] 61)).drew := ((Touch.refl _ wq).alloc _).drew
        have x4 := (hXX.cell (p := ⟨S + 1 + 1, 1, none⟩) (by show S + 1 + 1 < wq.heap.size; omega) (fun h => h)).trans x2
        change (wq.alloc (.cells #[.int .i64 tid, .int .i64 tdue] 61)).cell? _ = _ at x4
        have HXX := Lib.hid hXX
        clear hXX
        go_wp2_with fail
        go_region_law ((refine step_append_lies _ (by rfl) _ _ _ (by rfl) (S + 3) 61 i0 _ 2 16 Try.underlying49 hi hz0 hz1 hz2 rfl (by omega) sq _ _ (by rfl) ((hR.out.alloc _).drew) ⟨wq.heap.size, 0, none⟩ 1 1 [.int .i64 tid, .int .i64 tdue] (by rfl) (by rfl) (World.news_of_block (cs := #[.int .i64 tid, .int .i64 tdue]) (t := 61) (fr := (0, 0)) (heap_alloc_new wq _)) (by simp [Value.oneCell']) (by omega) (by unfold maxLen; omega) (by omega) (by simp; omega) (wq.heap.size + 1) (by simp) ?_; intro gg cap' w1 hown1 hgrow hat hglt; have hk1 := put_kept (by omega) hB.out hR.out HXX.out hgrow; have k1 := cell2_1 hk1; have k2 := frozen2 (i := 1) hk1; have HP := Lib.hid (put_appended (by omega) hB.out hR.out HXX.out hgrow hown1); clear hown1 hgrow hat hk1))
        go_wp2_with fail
        all_goals
          refine ⟨⟨j + 1, by omega, by go_num, by rw [Ht.out, HA.out], _, Lib.hid HP.out.1, by rw [Ht.out, HM.out]; exact Lib.hid HP.out.2.1, Lib.hid (hT.out.trans HP.out.2.2)⟩, ?_⟩
          simp [intOf]; omega
      | false =>
        by_cases h1 : due < tdue
        · have g1 : decide (due < tdue) = true := by simpa using h1
          have hbf : befT ⟨id, due⟩ ⟨tid, tdue⟩ = true := by unfold befT; simp; omega
          have HA : Hid ((X ++ [(⟨tid, tdue⟩ : Tm)]).any (befT ⟨id, due⟩) = true) := Lib.hid (by rw [List.any_append, hp]; simp [hbf])
          have HM0 := Lib.hid (midT_now hp hbf)
          clear hbf
          go_wp2_with fail
          go_quiet (fail)
          have hB0 : BoxC (wr.drewN nq) (S + 1 + 1) now s' := hb.out
          have hR0 : ownsL (wr.drewN nq) (S + 3) s' (midT ⟨id, due⟩ X) := own_touchL hr.out ((Touch.refl (fun _ => False) wr).drewN nq) (fun _ _ h => h)
          have hT0 : Touch (fun k => k = S + 1 + 1 ∨ S + 3 ≤ k) W3 (wr.drewN nq) := ht.out.drewN nq
          obtain ⟨wq, ewq⟩ : ∃ W, wr.drewN nq = W := ⟨_, rfl⟩
          rw [ewq] at hB0 hR0 hT0 ⊢
          obtain ⟨sq, esq⟩ : ∃ z, s' = z := ⟨_, rfl⟩
          rw [esq] at hB0 hR0
          obtain ⟨L, eL⟩ : ∃ L, midT ⟨id, due⟩ X = L := ⟨_, rfl⟩
          rw [eL] at hR0 hmid
          have EL := Lib.hid eL
          have hB := Lib.hid hB0
          have hR := Lib.hid hR0
          have hT := Lib.hid hT0
          have hszq := hT0.size
          rw [hs3] at hszq
          clear hB0 hR0 hT0 n0 n1 n2 n3 x0 x2 x3 x5 x6 x7 y0 y1 ewq esq eL hb hr ht hsz
          have HM := HM0
          rw [EL.out] at HM
          have x5 := (hT.out.block (S + 1) (by omega) (by omega)).trans d1
          have x6 := cell2_0 x5
          have x7 := cell2_1 x5
          have x2 := cell2_1 hB.out
          have x3 : wq.frozen? ⟨S + 1 + 1, 1, none⟩ = false := frozen2 hB.out
          have hXX : Touch (fun _ => False) wq (wq.alloc (.cells #[.int .i64 id, .int .i64 due] 61)) := (Touch.refl _ wq).alloc _
          have HXX := Lib.hid hXX
          clear hXX x5
          go_wp2_with (at_builtin; refine wpList_append_lies _ rfl _ _ 49 rfl (S + 3) 61 i0 _ 2 16 Try.underlying49 hi hz0 hz1 hz2 rfl (by omega) sq _ _ rfl (hR.out.alloc _) ⟨wq.heap.size, 0, none⟩ 1 1 [.int .i64 id, .int .i64 due] rfl rfl (World.news_of_block (cs := #[.int .i64 id, .int .i64 due]) (t := 61) (fr := (0, 0)) (heap_alloc_new wq _)) (by simp [Value.oneCell']) (by omega) (by unfold maxLen; omega) (by omega) (by rw [World.size_alloc]; omega) (wq.heap.size + 1) (by simp) ?_; intro gg cap' w1 hown1 hgrow hat hglt; have hk1 := put_kept (by omega) hB.out hR.out HXX.out hgrow; have k1 := cell2_1 hk1; have k2 := frozen2 (i := 1) hk1; have HP := Lib.hid (put_appended (by omega) hB.out hR.out HXX.out hgrow hown1); clear hown1 hgrow hat hk1)
          have hp1 := HP.out
          obtain ⟨s6, es6⟩ : ∃ z, Value.slice (some ⟨gg, 0, none⟩) (L.length + 1) cap' = z := ⟨_, rfl⟩
          obtain ⟨w6, ew6⟩ : ∃ W, w1.setCell ⟨S + 1 + 1, 1, none⟩ (Value.slice (some ⟨gg, 0, none⟩) (L.length + 1) cap') = W := ⟨_, rfl⟩
          rw [ew6, es6] at hp1
          rw [ew6]
          have hT6 := Lib.hid (hT.out.trans hp1.2.2)
          clear HP k1 k2 hglt x2 x3 x6 x7 HXX
          obtain ⟨hb6, hr6, _⟩ := hp1
          clear hB hR hT hszq ew6 es6
          have hB := Lib.hid hb6
          have hR := Lib.hid hr6
          have hT := hT6
          have hszq := hT.out.size
          rw [hs3] at hszq
          have hmid6 : (L ++ [(⟨id, due⟩ : Tm)]).length ≤ min j x.length + 1 + 1 := by rw [List.length_append]; simpa using hmid
          clear hb6 hr6 hT6 hmid
          obtain ⟨L6, eL6⟩ : ∃ z, L ++ [(⟨id, due⟩ : Tm)] = z := ⟨_, rfl⟩
          rw [eL6] at hR hmid6 HM
          have hmid := hmid6
          clear eL6 hmid6
          have x0 := (hT.out.cell (p := ⟨S, 1, none⟩) (by show S < W3.heap.size; omega) (by show ¬ (S = S + 1 + 1 ∨ S + 3 ≤ S); omega)).trans (cell2_1 d0)
          have x2 := cell2_1 hB.out
          have x3 : w6.frozen? ⟨S + 1 + 1, 1, none⟩ = false := frozen2 hB.out
          have y0 := (hT.out.cell (p := ⟨g, j * 2, none⟩) (by show g < W3.heap.size; omega) (by show ¬ (g = S + 1 + 1 ∨ S + 3 ≤ g); omega)).trans q0
          have y1 := (hT.out.cell (p := ⟨g, j * 2 + 1, none⟩) (by show g < W3.heap.size; omega) (by show ¬ (g = S + 1 + 1 ∨ S + 3 ≤ g); omega)).trans q1
          have hXX : Touch (fun _ => False) w6 (w6.alloc (.cells #[.int .i64 tid, .int .i64 tdue] 61)).drew := ((Touch.refl _ w6).alloc _).drew
          have x4 := (hXX.cell (p := ⟨S + 1 + 1, 1, none⟩) (by show S + 1 + 1 < w6.heap.size; omega) (fun h => h)).trans x2
          change (w6.alloc (.cells #[.int .i64 tid, .int .i64 tdue] 61)).cell? _ = _ at x4
          have HXX := Lib.hid hXX
          clear hXX
          go_wp2_with fail
          go_region_law ((refine step_append_lies _ (by rfl) _ _ _ (by rfl) (S + 3) 61 i0 _ 2 16 Try.underlying49 hi hz0 hz1 hz2 rfl (by omega) s6 _ _ (by rfl) ((hR.out.alloc _).drew) ⟨w6.heap.size, 0, none⟩ 1 1 [.int .i64 tid, .int .i64 tdue] (by rfl) (by rfl) (World.news_of_block (cs := #[.int .i64 tid, .int .i64 tdue]) (t := 61) (fr := (0, 0)) (heap_alloc_new w6 _)) (by simp [Value.oneCell']) (by omega) (by unfold maxLen; omega) (by omega) (by simp; omega) (w6.heap.size + 1) (by simp) ?_; intro gg cap' w1 hown1 hgrow hat hglt; have hk1 := put_kept (by omega) hB.out hR.out HXX.out hgrow; have k1 := cell2_1 hk1; have k2 := frozen2 (i := 1) hk1; have HP := Lib.hid (put_appended (by omega) hB.out hR.out HXX.out hgrow hown1); clear hown1 hgrow hat hk1))
          go_wp2_with fail
          all_goals
            refine ⟨⟨j + 1, by omega, by go_num, by rw [Ht.out, HA.out], _, Lib.hid HP.out.1, by rw [Ht.out, HM.out]; exact Lib.hid HP.out.2.1, Lib.hid (hT.out.trans HP.out.2.2)⟩, ?_⟩
            simp [intOf]; omega
        · have g1 : decide (due < tdue) = false := by simpa using h1
          by_cases h2 : tdue = due
          · have g2 : (tdue == due) = true := by simp [h2]
            by_cases h3 : id < tid
            · have g3 : decide (id < tid) = true := by simpa using h3
              have hbf : befT ⟨id, due⟩ ⟨tid, tdue⟩ = true := by unfold befT; simp; omega
              have HA : Hid ((X ++ [(⟨tid, tdue⟩ : Tm)]).any (befT ⟨id, due⟩) = true) := Lib.hid (by rw [List.any_append, hp]; simp [hbf])
              have HM0 := Lib.hid (midT_now hp hbf)
              clear hbf
              clear h2
              go_wp2_with fail
              go_quiet (fail)
              have hB0 : BoxC (wr.drewN nq) (S + 1 + 1) now s' := hb.out
              have hR0 : ownsL (wr.drewN nq) (S + 3) s' (midT ⟨id, due⟩ X) := own_touchL hr.out ((Touch.refl (fun _ => False) wr).drewN nq) (fun _ _ h => h)
              have hT0 : Touch (fun k => k = S + 1 + 1 ∨ S + 3 ≤ k) W3 (wr.drewN nq) := ht.out.drewN nq
              obtain ⟨wq, ewq⟩ : ∃ W, wr.drewN nq = W := ⟨_, rfl⟩
              rw [ewq] at hB0 hR0 hT0 ⊢
              obtain ⟨sq, esq⟩ : ∃ z, s' = z := ⟨_, rfl⟩
              rw [esq] at hB0 hR0
              obtain ⟨L, eL⟩ : ∃ L, midT ⟨id, due⟩ X = L := ⟨_, rfl⟩
              rw [eL] at hR0 hmid
              have EL := Lib.hid eL
              have hB := Lib.hid hB0
              have hR := Lib.hid hR0
              have hT := Lib.hid hT0
              have hszq := hT0.size
              rw [hs3] at hszq
              clear hB0 hR0 hT0 n0 n1 n2 n3 x0 x2 x3 x5 x6 x7 y0 y1 ewq esq eL hb hr ht hsz
              have HM := HM0
              rw [EL.out] at HM
              have x5 := (hT.out.block (S + 1) (by omega) (by omega)).trans d1
              have x6 := cell2_0 x5
              have x7 := cell2_1 x5
              have x2 := cell2_1 hB.out
              have x3 : wq.frozen? ⟨S + 1 + 1, 1, none⟩ = false := frozen2 hB.out
              have hXX : Touch (fun _ => False) wq (wq.alloc (.cells #[.int .i64 id, .int .i64 due] 61)) := (Touch.refl _ wq).alloc _
              have HXX := Lib.hid hXX
              clear hXX x5
              go_wp2_with (at_builtin; refine wpList_append_lies _ rfl _ _ 49 rfl (S + 3) 61 i0 _ 2 16 Try.underlying49 hi hz0 hz1 hz2 rfl (by omega) sq _ _ rfl (hR.out.alloc _) ⟨wq.heap.size, 0, none⟩ 1 1 [.int .i64 id, .int .i64 due] rfl rfl (World.news_of_block (cs := #[.int .i64 id, .int .i64 due]) (t := 61) (fr := (0, 0)) (heap_alloc_new wq _)) (by simp [Value.oneCell']) (by omega) (by unfold maxLen; omega) (by omega) (by rw [World.size_alloc]; omega) (wq.heap.size + 1) (by simp) ?_; intro gg cap' w1 hown1 hgrow hat hglt; have hk1 := put_kept (by omega) hB.out hR.out HXX.out hgrow; have k1 := cell2_1 hk1; have k2 := frozen2 (i := 1) hk1; have HP := Lib.hid (put_appended (by omega) hB.out hR.out HXX.out hgrow hown1); clear hown1 hgrow hat hk1)
              have hp1 := HP.out
              obtain ⟨s6, es6⟩ : ∃ z, Value.slice (some ⟨gg, 0, none⟩) (L.length + 1) cap' = z := ⟨_, rfl⟩
              obtain ⟨w6, ew6⟩ : ∃ W, w1.setCell ⟨S + 1 + 1, 1, none⟩ (Value.slice (some ⟨gg, 0, none⟩) (L.length + 1) cap') = W := ⟨_, rfl⟩
              rw [ew6, es6] at hp1
              rw [ew6]
              have hT6 := Lib.hid (hT.out.trans hp1.2.2)
              clear HP k1 k2 hglt x2 x3 x6 x7 HXX
              obtain ⟨hb6, hr6, _⟩ := hp1
              clear hB hR hT hszq ew6 es6
              have hB := Lib.hid hb6
              have hR := Lib.hid hr6
              have hT := hT6
              have hszq := hT.out.size
              rw [hs3] at hszq
              have hmid6 : (L ++ [(⟨id, due⟩ : Tm)]).length ≤ min j x.length + 1 + 1 := by rw [List.length_append]; simpa using hmid
              clear hb6 hr6 hT6 hmid
              obtain ⟨L6, eL6⟩ : ∃ z, L ++ [(⟨id, due⟩ : Tm)] = z := ⟨_, rfl⟩
              rw [eL6] at hR hmid6 HM
              have hmid := hmid6
              clear eL6 hmid6
              have x0 := (hT.out.cell (p := ⟨S, 1, none⟩) (by show S < W3.heap.size; omega) (by show ¬ (S = S + 1 + 1 ∨ S + 3 ≤ S); omega)).trans (cell2_1 d0)
              have x2 := cell2_1 hB.out
              have x3 : w6.frozen? ⟨S + 1 + 1, 1, none⟩ = false := frozen2 hB.out
              have y0 := (hT.out.cell (p := ⟨g, j * 2, none⟩) (by show g < W3.heap.size; omega) (by show ¬ (g = S + 1 + 1 ∨ S + 3 ≤ g); omega)).trans q0
              have y1 := (hT.out.cell (p := ⟨g, j * 2 + 1, none⟩) (by show g < W3.heap.size; omega) (by show ¬ (g = S + 1 + 1 ∨ S + 3 ≤ g); omega)).trans q1
              have hXX : Touch (fun _ => False) w6 (w6.alloc (.cells #[.int .i64 tid, .int .i64 tdue] 61)).drew := ((Touch.refl _ w6).alloc _).drew
              have x4 := (hXX.cell (p := ⟨S + 1 + 1, 1, none⟩) (by show S + 1 + 1 < w6.heap.size; omega) (fun h => h)).trans x2
              change (w6.alloc (.cells #[.int .i64 tid, .int .i64 tdue] 61)).cell? _ = _ at x4
              have HXX := Lib.hid hXX
              clear hXX
              go_wp2_with fail
              go_region_law ((refine step_append_lies _ (by rfl) _ _ _ (by rfl) (S + 3) 61 i0 _ 2 16 Try.underlying49 hi hz0 hz1 hz2 rfl (by omega) s6 _ _ (by rfl) ((hR.out.alloc _).drew) ⟨w6.heap.size, 0, none⟩ 1 1 [.int .i64 tid, .int .i64 tdue] (by rfl) (by rfl) (World.news_of_block (cs := #[.int .i64 tid, .int .i64 tdue]) (t := 61) (fr := (0, 0)) (heap_alloc_new w6 _)) (by simp [Value.oneCell']) (by omega) (by unfold maxLen; omega) (by omega) (by simp; omega) (w6.heap.size + 1) (by simp) ?_; intro gg cap' w1 hown1 hgrow hat hglt; have hk1 := put_kept (by omega) hB.out hR.out HXX.out hgrow; have k1 := cell2_1 hk1; have k2 := frozen2 (i := 1) hk1; have HP := Lib.hid (put_appended (by omega) hB.out hR.out HXX.out hgrow hown1); clear hown1 hgrow hat hk1))
              go_wp2_with fail
              all_goals
                refine ⟨⟨j + 1, by omega, by go_num, by rw [Ht.out, HA.out], _, Lib.hid HP.out.1, by rw [Ht.out, HM.out]; exact Lib.hid HP.out.2.1, Lib.hid (hT.out.trans HP.out.2.2)⟩, ?_⟩
                simp [intOf]; omega
            · have g3 : decide (id < tid) = false := by simpa using h3
              have hbf : befT ⟨id, due⟩ ⟨tid, tdue⟩ = false := by unfold befT; simp; omega
              have HA : Hid ((X ++ [(⟨tid, tdue⟩ : Tm)]).any (befT ⟨id, due⟩) = false) := Lib.hid (by rw [List.any_append, hp]; simp [hbf])
              have HM0 := Lib.hid (midT_not hp hbf)
              clear hbf
              clear h2
              go_wp2_with fail
              go_quiet (fail)
              have hB0 : BoxC (wr.drewN nq) (S + 1 + 1) now s' := hb.out
              have hR0 : ownsL (wr.drewN nq) (S + 3) s' (midT ⟨id, due⟩ X) := own_touchL hr.out ((Touch.refl (fun _ => False) wr).drewN nq) (fun _ _ h => h)
              have hT0 : Touch (fun k => k = S + 1 + 1 ∨ S + 3 ≤ k) W3 (wr.drewN nq) := ht.out.drewN nq
              obtain ⟨wq, ewq⟩ : ∃ W, wr.drewN nq = W := ⟨_, rfl⟩
              rw [ewq] at hB0 hR0 hT0 ⊢
              obtain ⟨sq, esq⟩ : ∃ z, s' = z := ⟨_, rfl⟩
              rw [esq] at hB0 hR0
              obtain ⟨L, eL⟩ : ∃ L, midT ⟨id, due⟩ X = L := ⟨_, rfl⟩
              rw [eL] at hR0 hmid
              have EL := Lib.hid eL
              have hB := Lib.hid hB0
              have hR := Lib.hid hR0
              have hT := Lib.hid hT0
              have hszq := hT0.size
              rw [hs3] at hszq
              clear hB0 hR0 hT0 n0 n1 n2 n3 x0 x2 x3 x5 x6 x7 y0 y1 ewq esq eL hb hr ht hsz
              have HM := HM0
              rw [EL.out] at HM
              have x0 := (hT.out.cell (p := ⟨S, 1, none⟩) (by show S < W3.heap.size; omega) (by show ¬ (S = S + 1 + 1 ∨ S + 3 ≤ S); omega)).trans (cell2_1 d0)
              have x2 := cell2_1 hB.out
              have x3 : wq.frozen? ⟨S + 1 + 1, 1, none⟩ = false := frozen2 hB.out
              have y0 := (hT.out.cell (p := ⟨g, j * 2, none⟩) (by show g < W3.heap.size; omega) (by show ¬ (g = S + 1 + 1 ∨ S + 3 ≤ g); omega)).trans q0
              have y1 := (hT.out.cell (p := ⟨g, j * 2 + 1, none⟩) (by show g < W3.heap.size; omega) (by show ¬ (g = S + 1 + 1 ∨ S + 3 ≤ g); omega)).trans q1
              have hXX : Touch (fun _ => False) wq (wq.alloc (.cells #[.int .i64 tid, .int .i64 tdue] 61)).drew := ((Touch.refl _ wq).alloc _).drew
              have x4 := (hXX.cell (p := ⟨S + 1 + 1, 1, none⟩) (by show S + 1 + 1 < wq.heap.size; omega) (fun h => h)).trans x2
              change (wq.alloc (.cells #[.int .i64 tid, .int .i64 tdue] 61)).cell? _ = _ at x4
              have HXX := Lib.hid hXX
              clear hXX
              go_wp2_with fail
              go_region_law ((refine step_append_lies _ (by rfl) _ _ _ (by rfl) (S + 3) 61 i0 _ 2 16 Try.underlying49 hi hz0 hz1 hz2 rfl (by omega) sq _ _ (by rfl) ((hR.out.alloc _).drew) ⟨wq.heap.size, 0, none⟩ 1 1 [.int .i64 tid, .int .i64 tdue] (by rfl) (by rfl) (World.news_of_block (cs := #[.int .i64 tid, .int .i64 tdue]) (t := 61) (fr := (0, 0)) (heap_alloc_new wq _)) (by simp [Value.oneCell']) (by omega) (by unfold maxLen; omega) (by omega) (by simp; omega) (wq.heap.size + 1) (by simp) ?_; intro gg cap' w1 hown1 hgrow hat hglt; have hk1 := put_kept (by omega) hB.out hR.out HXX.out hgrow; have k1 := cell2_1 hk1; have k2 := frozen2 (i := 1) hk1; have HP := Lib.hid (put_appended (by omega) hB.out hR.out HXX.out hgrow hown1); clear hown1 hgrow hat hk1))
              go_wp2_with fail
              all_goals
                refine ⟨⟨j + 1, by omega, by go_num, by rw [Ht.out, HA.out], _, Lib.hid HP.out.1, by rw [Ht.out, HM.out]; exact Lib.hid HP.out.2.1, Lib.hid (hT.out.trans HP.out.2.2)⟩, ?_⟩
                simp [intOf]; omega
          · have g2 : (tdue == due) = false := by simpa using h2
            have hbf : befT ⟨id, due⟩ ⟨tid, tdue⟩ = false := by unfold befT; simp; omega
            have HA : Hid ((X ++ [(⟨tid, tdue⟩ : Tm)]).any (befT ⟨id, due⟩) = false) := Lib.hid (by rw [List.any_append, hp]; simp [hbf])
            have HM0 := Lib.hid (midT_not hp hbf)
            clear hbf
            go_wp2_with fail
            go_quiet (fail)
            have hB0 : BoxC (wr.drewN nq) (S + 1 + 1) now s' := hb.out
            have hR0 : ownsL (wr.drewN nq) (S + 3) s' (midT ⟨id, due⟩ X) := own_touchL hr.out ((Touch.refl (fun _ => False) wr).drewN nq) (fun _ _ h => h)
            have hT0 : Touch (fun k => k = S + 1 + 1 ∨ S + 3 ≤ k) W3 (wr.drewN nq) := ht.out.drewN nq
            obtain ⟨wq, ewq⟩ : ∃ W, wr.drewN nq = W := ⟨_, rfl⟩
            rw [ewq] at hB0 hR0 hT0 ⊢
            obtain ⟨sq, esq⟩ : ∃ z, s' = z := ⟨_, rfl⟩
            rw [esq] at hB0 hR0
            obtain ⟨L, eL⟩ : ∃ L, midT ⟨id, due⟩ X = L := ⟨_, rfl⟩
            rw [eL] at hR0 hmid
            have EL := Lib.hid eL
            have hB := Lib.hid hB0
            have hR := Lib.hid hR0
            have hT := Lib.hid hT0
            have hszq := hT0.size
            rw [hs3] at hszq
            clear hB0 hR0 hT0 n0 n1 n2 n3 x0 x2 x3 x5 x6 x7 y0 y1 ewq esq eL hb hr ht hsz
            have HM := HM0
            rw [EL.out] at HM
            have x0 := (hT.out.cell (p := ⟨S, 1, none⟩) (by show S < W3.heap.size; omega) (by show ¬ (S = S + 1 + 1 ∨ S + 3 ≤ S); omega)).trans (cell2_1 d0)
            have x2 := cell2_1 hB.out
            have x3 : wq.frozen? ⟨S + 1 + 1, 1, none⟩ = false := frozen2 hB.out
            have y0 := (hT.out.cell (p := ⟨g, j * 2, none⟩) (by show g < W3.heap.size; omega) (by show ¬ (g = S + 1 + 1 ∨ S + 3 ≤ g); omega)).trans q0
            have y1 := (hT.out.cell (p := ⟨g, j * 2 + 1, none⟩) (by show g < W3.heap.size; omega) (by show ¬ (g = S + 1 + 1 ∨ S + 3 ≤ g); omega)).trans q1
            have hXX : Touch (fun _ => False) wq (wq.alloc (.cells #[.int .i64 tid, .int .i64 tdue] 61)).drew := ((Touch.refl _ wq).alloc _).drew
            have x4 := (hXX.cell (p := ⟨S + 1 + 1, 1, none⟩) (by show S + 1 + 1 < wq.heap.size; omega) (fun h => h)).trans x2
            change (wq.alloc (.cells #[.int .i64 tid, .int .i64 tdue] 61)).cell? _ = _ at x4
            have HXX := Lib.hid hXX
            clear hXX
            go_wp2_with fail
            go_region_law ((refine step_append_lies _ (by rfl) _ _ _ (by rfl) (S + 3) 61 i0 _ 2 16 Try.underlying49 hi hz0 hz1 hz2 rfl (by omega) sq _ _ (by rfl) ((hR.out.alloc _).drew) ⟨wq.heap.size, 0, none⟩ 1 1 [.int .i64 tid, .int .i64 tdue] (by rfl) (by rfl) (World.news_of_block (cs := #[.int .i64 tid, .int .i64 tdue]) (t := 61) (fr := (0, 0)) (heap_alloc_new wq _)) (by simp [Value.oneCell']) (by omega) (by unfold maxLen; omega) (by omega) (by simp; omega) (wq.heap.size + 1) (by simp) ?_; intro gg cap' w1 hown1 hgrow hat hglt; have hk1 := put_kept (by omega) hB.out hR.out HXX.out hgrow; have k1 := cell2_1 hk1; have k2 := frozen2 (i := 1) hk1; have HP := Lib.hid (put_appended (by omega) hB.out hR.out HXX.out hgrow hown1); clear hown1 hgrow hat hk1))
            go_wp2_with fail
            all_goals
              refine ⟨⟨j + 1, by omega, by go_num, by rw [Ht.out, HA.out], _, Lib.hid HP.out.1, by rw [Ht.out, HM.out]; exact Lib.hid HP.out.2.1, Lib.hid (hT.out.trans HP.out.2.2)⟩, ?_⟩
              simp [intOf]; omega
    · have Hj := Lib.hid (show j = x.length by omega)
      have hend : x.length ≤ j := by omega
      clear hlt hcell x0 x2 x3 x5 x6 x7
      rw [show x.take j = x by rw [Hj.out, List.take_length]] at *
      obtain ⟨sq, esq⟩ : ∃ z, s' = z := ⟨_, rfl⟩
      obtain ⟨wq, ewq⟩ : ∃ z, wr = z := ⟨_, rfl⟩
      rw [esq, ewq] at hb hr
      rw [ewq] at ht hsz ⊢
      have hB := hb
      have hR := hr
      have hT := ht
      have hszq := hsz
      have x0 := (hT.out.cell (p := ⟨S, 1, none⟩) (by show S < W3.heap.size; omega) (by show ¬ (S = S + 1 + 1 ∨ S + 3 ≤ S); omega)).trans (cell2_1 d0)
      clear esq ewq hb hr ht hsz wr
      cases hp : x.any (befT ⟨id, due⟩) with
      | true =>
        have HE := Lib.hid (midT_end' hp)
        obtain ⟨L, eL⟩ : ∃ L, midT ⟨id, due⟩ x = L := ⟨_, rfl⟩
        rw [eL] at hR hmid HE
        clear eL
        obtain ⟨A', cap', rfl, _, _, _⟩ := ownsL_form hR.out
        have v0 := cell2_0 hB.out
        have v1 := cell2_1 hB.out
        have z1 := (hT.out.block (w.heap.size + 1) (by omega) (by omega)).trans c1'
        have z2 := cell2_0 z1
        have z3 := cell2_1 z1
        have z4 := frozen2 (i := 0) z1
        have z5 := frozen2 (i := 1) z1
        have z6 := set2_0 (.int .i64 now) z1
        have z7 := cell2_1 z6
        have z8 := frozen2 (i := 1) z6
        have Z9 := Lib.hid (set2_1 (.slice A' L.length cap') z6)
        have HT2 : Touch (fun k => w.heap.size ≤ k) w ((wq.setCell ⟨w.heap.size + 1, 0, none⟩ (.int .i64 now)).setCell ⟨w.heap.size + 1, 1, none⟩ (.slice A' L.length cap')) :=
          (((hwt3.mono (fun _ _ h => h.elim)).trans (hT.out.mono (fun k _ hk => by rcases hk with hk | hk <;> omega))).setCell (.inl (by show w.heap.size ≤ w.heap.size + 1; omega)) _).setCell (.inl (by show w.heap.size ≤ w.heap.size + 1; omega)) _
        have hR2 := own_touchL hR.out (((Touch.refl (fun k => k = w.heap.size + 1) wq).setCell (p := ⟨w.heap.size + 1, 0, none⟩) (.inl rfl) (.int .i64 now)).setCell (p := ⟨w.heap.size + 1, 1, none⟩) (.inl rfl) (.slice A' L.length cap')) (fun k hk e => own_ge hR.out (k := w.heap.size + 1) (by omega) (by rw [hk, e]))
        clear z6 z1
        go_wp2_with fail
        refine bodyPost_ret (results_ct rfl _ _ _ _ _ _ _ rfl Z9.out Try.underlying51 rfl Try.size_clock) rfl ?_
        exact ⟨_, rfl, ⟨_, rfl, by rw [EX.out, EDue.out, HE.out]; exact own_lower hR2 (by omega)⟩, HT2.below (Nat.le_refl _) (fun k hk => hk)⟩
      | false =>
        have HE := Lib.hid (midT_end hp)
        obtain ⟨L, eL⟩ : ∃ L, midT ⟨id, due⟩ x = L := ⟨_, rfl⟩
        rw [eL] at hR hmid HE
        have HM := HE
        clear eL
        have x5 := (hT.out.block (S + 1) (by omega) (by omega)).trans d1
        have x6 := cell2_0 x5
        have x7 := cell2_1 x5
        have x2 := cell2_1 hB.out
        have x3 : wq.frozen? ⟨S + 1 + 1, 1, none⟩ = false := frozen2 hB.out
        have hXX : Touch (fun _ => False) wq (wq.alloc (.cells #[.int .i64 id, .int .i64 due] 61)) := (Touch.refl _ wq).alloc _
        have HXX := Lib.hid hXX
        clear hXX x5
        go_wp2_with (at_builtin; refine wpList_append_lies _ rfl _ _ 49 rfl (S + 3) 61 i0 _ 2 16 Try.underlying49 hi hz0 hz1 hz2 rfl (by omega) sq _ _ rfl (hR.out.alloc _) ⟨wq.heap.size, 0, none⟩ 1 1 [.int .i64 id, .int .i64 due] rfl rfl (World.news_of_block (cs := #[.int .i64 id, .int .i64 due]) (t := 61) (fr := (0, 0)) (heap_alloc_new wq _)) (by simp [Value.oneCell']) (by omega) (by unfold maxLen; omega) (by omega) (by rw [World.size_alloc]; omega) (wq.heap.size + 1) (by simp) ?_; intro gg cap' w1 hown1 hgrow hat hglt; have hk1 := put_kept (by omega) hB.out hR.out HXX.out hgrow; have k1 := cell2_1 hk1; have k2 := frozen2 (i := 1) hk1; have HP := Lib.hid (put_appended (by omega) hB.out hR.out HXX.out hgrow hown1); clear hown1 hgrow hat hk1; have v0 := cell2_0 HP.out.1; have v1 := cell2_1 HP.out.1; have hT6 := Lib.hid (hT.out.trans HP.out.2.2); have z1 := (hT6.out.block (w.heap.size + 1) (by omega) (by omega)).trans c1'; have z2 := cell2_0 z1; have z3 := cell2_1 z1; have z4 := frozen2 (i := 0) z1; have z5 := frozen2 (i := 1) z1; have z6 := set2_0 (.int .i64 now) z1; have z7 := cell2_1 z6; have z8 := frozen2 (i := 1) z6; have Z9 := Lib.hid (set2_1 (.slice (some ⟨gg, 0, none⟩) (L.length + 1) cap') z6); clear z6 z1)
        have HT2 : Touch (fun k => w.heap.size ≤ k) w (((w1.setCell ⟨S + 1 + 1, 1, none⟩ (Value.slice (some ⟨gg, 0, none⟩) (L.length + 1) cap')).setCell ⟨w.heap.size + 1, 0, none⟩ (.int .i64 now)).setCell ⟨w.heap.size + 1, 1, none⟩ (.slice (some ⟨gg, 0, none⟩) (L.length + 1) cap')) :=
          (((hwt3.mono (fun _ _ h => h.elim)).trans (hT6.out.mono (fun k _ hk => by rcases hk with hk | hk <;> omega))).setCell (.inl (by show w.heap.size ≤ w.heap.size + 1; omega)) _).setCell (.inl (by show w.heap.size ≤ w.heap.size + 1; omega)) _
        have hR2 := own_touchL HP.out.2.1 (((Touch.refl (fun k => k = w.heap.size + 1) (w1.setCell ⟨S + 1 + 1, 1, none⟩ (Value.slice (some ⟨gg, 0, none⟩) (L.length + 1) cap'))).setCell (p := ⟨w.heap.size + 1, 0, none⟩) (.inl rfl) (.int .i64 now)).setCell (p := ⟨w.heap.size + 1, 1, none⟩) (.inl rfl) (.slice (some ⟨gg, 0, none⟩) (L.length + 1) cap')) (fun k hk e => own_ge HP.out.2.1 (k := w.heap.size + 1) (by omega) (by rw [hk, e]))
        refine bodyPost_ret (results_ct rfl _ _ _ _ _ _ _ rfl Z9.out Try.underlying51 rfl Try.size_clock) rfl ?_
        exact ⟨_, rfl, ⟨_, rfl, by rw [EX.out, EDue.out, HE.out]; exact own_lower hR2 (by omega)⟩, HT2.below (Nat.le_refl _) (fun k hk => hk)⟩

end Go.Proofs.Ytgnckeidekppjaa
