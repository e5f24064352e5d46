/-
  The walks of the reference's Left, Clear and Advance (layer 15).
-/
import Derived.Test.YtgnckeidekppjaaRefClock
import Derived.Test.YtgnckeidekppjaaAdvance
import Derived.BigQuiet
namespace Go.Proofs.Ytgnckeidekppjaa
open Go.RowKit Go.Maps
set_option linter.unusedVariables false
set_option linter.unusedSimpArgs false
attribute [local go_sem ↓] Go.wp_at_zero Go.wp_at_succ

theorem ownsL.own_touch1 {W W' : World} {base : Nat} {s : Value} {l : List Tm} (h : ownsL W base s l) (t : Touch (fun _ => False) W W') : ownsL W' base s l := own_touchL h t (fun _ _ h => h)

/-- The first timer of a list that has an id. -/
def findT (id : Int) (l : List Tm) : Option Int := (l.find? fun t => decide (t.id = id)).map Tm.due

theorem heap2_0 (w : World) (o1 o2 : Obj) : ((w.alloc o1).alloc o2).heap[w.heap.size]? = some o1 := by
  rw [Below.heap_alloc _ _ _ (by simp), World.alloc_heap_new]

def clearE (b : Bool) : Int := if b then 0 else 7

set_option maxRecDepth 100000 in
theorem RefClear_any {w : World} {base : Nat} {v : Value} {now : Int} {l : List Tm} (h : RefV w base v now l) (hl : l.length ≤ 900) (hbase : base ≤ w.heap.size) (id : Int) :
    Calls Try.prog 38 #[v, .int .i64 id] w fun e w' => ∃ v', e = .returned (.tuple #[v', .int .i64 (clearE (l.any fun t => decide (t.id = id)))]) ∧
      RefV w' base v' now (l.filter fun t => !decide (t.id = id)) ∧ Below w.heap.size w w' := by
  obtain ⟨s, rfl, hrow⟩ := h
  obtain ⟨A, cap, rfl, _, _, _⟩ := ownsL_form hrow
  go_enter Try.func38, Try.ntmps38
  go_wp2_with fail
  obtain ⟨W0, e0, hs0, b0, b1, t0⟩ : ∃ W, (w.alloc (.cells #[.int .i64 now, .slice A l.length cap] 51)).alloc (.cells #[.int .i64 0, .slice none 0 0] 51) = W ∧ W.heap.size = w.heap.size + 2 ∧
      W.heap[w.heap.size]? = some (.cells #[.int .i64 now, .slice A l.length cap] 51) ∧ W.heap[w.heap.size + 1]? = some (.cells #[.int .i64 0, .slice none 0 0] 51) ∧ Touch (fun _ => False) w W :=
    ⟨_, rfl, by simp, heap2_0 _ _ _, heap_alloc2_new _ _ _, ((Touch.refl _ w).alloc _).alloc _⟩
  rw [e0]
  clear e0
  refine (without_any (w := W0) ⟨_, rfl, hrow.own_touch1 t0⟩ (by omega) id).mono ?_; rintro e w2 ⟨v2, rfl, ⟨s2, rfl, hrow2⟩, hb2⟩; dsimp only
  have hrow0 := Lib.hid ((hrow.own_touch1 t0).own_touch1 (Touch.of_new hb2))
  obtain ⟨A2, cap2, rfl, _, _, _⟩ := ownsL_form hrow2
  have HOB := Lib.hid (show ∀ k, (Value.slice A l.length cap).ownBlock = some k → ¬ k = w.heap.size + 1 from fun k hk e => by have := own_lt hrow hk; omega)
  have HF := Lib.hid (show (l.any fun t => decide (t.id = id)) = false → (l.filter fun t => !decide (t.id = id)) = l by
    intro h
    rw [List.filter_eq_self]
    intro t ht
    rw [List.any_eq_false] at h
    simpa using h t ht)
  have hrow2' := Lib.hid hrow2
  have c0 := (hb2.block w.heap.size (by omega)).trans b0
  have z1 := (hb2.block (w.heap.size + 1) (by omega)).trans b1
  have hsz2 := hb2.size
  have HW := Lib.hid (t0.trans (Touch.of_new hb2))
  have f0 : Touch (fun _ => False) w2 (w2.alloc (.cells #[.int .i64 now, .slice A2 (l.filter fun t => !decide (t.id = id)).length cap2] 51)) := (Touch.refl _ w2).alloc _
  have hnew := heap_alloc_new w2 (.cells #[.int .i64 now, .slice A2 (l.filter fun t => !decide (t.id = id)).length cap2] 51)
  have c0' := (f0.block w.heap.size (by omega) (fun h => h)).trans c0
  have z1' := (f0.block (w.heap.size + 1) (by omega) (fun h => h)).trans z1
  have F0 := Lib.hid f0
  clear c0 z1 f0 hrow hrow2 b0 b1 t0 hb2
  obtain ⟨x, ex⟩ : ∃ x, (l.filter fun t => !decide (t.id = id)) = x := ⟨_, rfl⟩
  rw [ex] at HF hrow2' hnew c0' z1' F0 ⊢
  have EX := Lib.hid ex
  clear ex
  cases hany : (l.any fun t => decide (t.id = id)) with
  | false =>
    have Hx := Lib.hid (HF.out hany)
    have HY := Lib.hid hany
    clear hany
    have z2 := cell2_0 z1'
    have z3 := cell2_1 z1'
    have z4 := frozen2 (i := 0) z1'
    have z5 := frozen2 (i := 1) z1'
    have z6 := set2_0 (.int .i64 now) z1'
    have z7 := cell2_1 z6
    have z8 := frozen2 (i := 1) z6
    have Z9 := Lib.hid (set2_1 (.slice A l.length cap) z6)
    have k0 := cell2_0 c0'
    have k1 := cell2_1 c0'
    have k2 := cell2_0 hnew
    have k3 := cell2_1 hnew
    clear z6 z1' c0' hnew
    go_wp2_with fail
    refine bodyPost_ret (results_ct rfl _ _ _ _ _ _ _ rfl Z9.out Try.underlying51 rfl Try.size_clock) rfl ?_
    have HT2 : Touch (fun k => k = w.heap.size + 1) (w2.alloc (.cells #[.int .i64 now, .slice A2 x.length cap2] 51)) (((w2.alloc (.cells #[.int .i64 now, .slice A2 x.length cap2] 51)).setCell ⟨w.heap.size + 1, 0, none⟩ (.int .i64 now)).setCell ⟨w.heap.size + 1, 1, none⟩ (.slice A l.length cap)) :=
      ((Touch.refl (fun k => k = w.heap.size + 1) _).setCell (p := ⟨w.heap.size + 1, 0, none⟩) (.inl rfl) _).setCell (p := ⟨w.heap.size + 1, 1, none⟩) (.inl rfl) _
    have HT3 := (HW.out.trans F0.out).below (n := w.heap.size) (Nat.le_refl _) (fun k h => h.elim)
    have HT4 := HT3.trans (HT2.below (n := w.heap.size) (by rw [World.size_alloc]; omega) (fun k hk => by have e : k = w.heap.size + 1 := hk; omega))
    refine ⟨_, by rw [HY.out]; rfl, ⟨_, rfl, ?_⟩, HT4⟩
    rw [show (l.filter fun t => !decide (t.id = id)) = l from EX.out.trans Hx.out]
    refine own_touchL (hrow0.out.own_touch1 F0.out) HT2 (fun k hk e => ?_)
    exact HOB.out k hk e
  | true =>
    have HY := Lib.hid hany
    clear hany
    have z2 := cell2_0 z1'
    have z3 := cell2_1 z1'
    have z4 := frozen2 (i := 0) z1'
    have z5 := frozen2 (i := 1) z1'
    have z6 := set2_0 (.int .i64 now) z1'
    have z7 := cell2_1 z6
    have z8 := frozen2 (i := 1) z6
    have Z9 := Lib.hid (set2_1 (.slice A2 x.length cap2) z6)
    have k0 := cell2_0 c0'
    have k1 := cell2_1 c0'
    have k2 := cell2_0 hnew
    have k3 := cell2_1 hnew
    clear z6 z1' c0' hnew
    go_wp2_with fail
    refine bodyPost_ret (results_ct rfl _ _ _ _ _ _ _ rfl Z9.out Try.underlying51 rfl Try.size_clock) rfl ?_
    have HT2 : Touch (fun k => k = w.heap.size + 1) (w2.alloc (.cells #[.int .i64 now, .slice A2 x.length cap2] 51)) (((w2.alloc (.cells #[.int .i64 now, .slice A2 x.length cap2] 51)).setCell ⟨w.heap.size + 1, 0, none⟩ (.int .i64 now)).setCell ⟨w.heap.size + 1, 1, none⟩ (.slice A2 x.length cap2)) :=
      ((Touch.refl (fun k => k = w.heap.size + 1) _).setCell (p := ⟨w.heap.size + 1, 0, none⟩) (.inl rfl) _).setCell (p := ⟨w.heap.size + 1, 1, none⟩) (.inl rfl) _
    have HT3 := (HW.out.trans F0.out).below (n := w.heap.size) (Nat.le_refl _) (fun k h => h.elim)
    have HT4 := HT3.trans (HT2.below (n := w.heap.size) (by rw [World.size_alloc]; omega) (fun k hk => by have e : k = w.heap.size + 1 := hk; omega))
    refine ⟨_, by rw [HY.out]; rfl, ⟨_, rfl, ?_⟩, HT4⟩
    rw [EX.out]
    refine own_lower (own_touchL (hrow2'.out.own_touch1 F0.out) HT2 (fun k hk e => ?_)) (by omega)
    exact own_ge hrow2'.out (k := w.heap.size + 1) (by omega) (by rw [hk]; exact congrArg some e.symm)

/-- What is left of a timer of a list. -/
def leftL (now : Int) (l : List Tm) (id : Int) : Int := match findT id l with | some d => d - now | none => 0

theorem findT_none {id : Int} {l : List Tm} (h : ∀ t ∈ l, t.id ≠ id) : findT id l = none := by
  unfold findT
  rw [List.find?_eq_none.2 (by simpa using h)]
  rfl
theorem findT_at {id : Int} {l : List Tm} {j : Nat} (hj : j < l.length) (h : ∀ t ∈ l.take j, t.id ≠ id) (he : l[j].id = id) : findT id l = some l[j].due := by
  unfold findT
  rw [List.find?_eq_some_iff_append.2 ⟨by simpa using he, l.take j, l.drop (j + 1), by simp, by simpa using h⟩]
  rfl

set_option maxRecDepth 100000 in
theorem RefLeft_any {w : World} {base : Nat} {v : Value} {now : Int} {l : List Tm} (h : RefV w base v now l) (hl : l.length ≤ 900) (id : Int) (hn0 : 0 ≤ now) (hn1 : now ≤ 4611686018427387904) (hd : ∀ t ∈ l, 0 ≤ t.due ∧ t.due ≤ 4611686018427387904) :
    Calls Try.prog 40 #[v, .int .i64 id] w fun e w' => e = .returned (.tuple #[.int .i64 (leftL now l id), .bool (findT id l).isSome]) ∧ Below w.heap.size w w' := by
  obtain ⟨s, rfl, hrow⟩ := h
  obtain ⟨A, cap, rfl, hc0, hcm, hcell⟩ := ownsL_form hrow
  unfold maxLen at hcm
  have t0 : Touch (fun _ => False) w (w.alloc (.cells #[.int .i64 now, .slice A l.length cap] 51)) := (Touch.refl _ w).alloc _
  have b0 := heap_alloc_new w (.cells #[.int .i64 now, .slice A l.length cap] 51)
  have T0 := Lib.hid t0
  go_enter Try.func40, Try.ntmps40
  go_wp2_with fail
  obtain ⟨W0, e0⟩ : ∃ W, w.alloc (.cells #[.int .i64 now, .slice A l.length cap] 51) = W := ⟨_, rfl⟩
  rw [e0] at b0 t0 T0 ⊢
  clear e0
  have x0 := cell2_0 b0
  have x1 := cell2_1 b0
  have z0 : ∀ k, (W0.drewN k).cell? ⟨w.heap.size, 0, none⟩ = some (.int .i64 now) := fun _ => x0
  have z1 : ∀ k, (W0.drewN k).cell? ⟨w.heap.size, 1, none⟩ = some (.slice A l.length cap) := fun _ => x1
  go_loopw [6] (fun i wr => ∃ j : Nat, j ≤ l.length ∧ i = .int .i64 j ∧ W0 = wr ∧ Hid (∀ t ∈ l.take j, t.id ≠ id)) (fun i _ => l.length - (intOf i).toNat)
  case atStart => exact ⟨0, Nat.zero_le _, rfl, rfl, Lib.hid (by simp)⟩
  case round =>
    obtain ⟨j, hj, rfl, rfl, hH⟩ := hrel
    by_cases hlt : j < l.length
    · obtain ⟨g, rfl, hob, hbg, hgl, q0, q1⟩ := hcell j hlt
      have y0 := (t0.cell (p := ⟨g, j * 2, none⟩) hgl (fun h => h)).trans q0
      have y1 := (t0.cell (p := ⟨g, j * 2 + 1, none⟩) hgl (fun h => h)).trans q1
      have HF := Lib.hid (fun he => findT_at hlt hH.out he)
      have Ht := Lib.hid (show l.take (j + 1) = l.take j ++ [l[j]] by rw [List.take_add_one, List.getElem?_eq_getElem hlt]; rfl)
      obtain ⟨u0, u1⟩ := hd l[j] (List.getElem_mem hlt)
      clear hcell q0 q1 hd
      generalize l[j] = t at *
      obtain ⟨tid, tdue⟩ := t
      dsimp only at y0 y1 u0 u1
      by_cases hid : tid = id
      · have he : (tid == id) = true := by simpa using hid
        have HL := Lib.hid (HF.out hid)
        have z2 : ∀ k, (W0.drewN k).cell? ⟨g, j * 2 + 1, none⟩ = some (.int .i64 tdue) := fun _ => y1
        have b1 : IntKind.i64.wrap (tdue - now) = tdue - now := IntWalk.i64_in _ (by omega)
        have hji0 : (0 : Int) ≤ (j : Int) := Int.natCast_nonneg _
        have hji1 : (j : Int) < (l.length : Int) := by omega
        clear hid
        go_wp2_with fail
        go_quiet (fail)
        go_wp2_with fail
        go_ret2
        refine ⟨by unfold leftL; rw [HL.out]; rfl, ?_⟩
        exact (T0.out.drewN _).below (Nat.le_refl _) (fun _ h => h.elim)
      · have hnid : ¬ (tid : Int) = id := hid
        have Hn := Lib.hid hnid
        go_wp2_with fail
        go_roundw
        case rel => exact ⟨j + 1, by omega, by go_num, trivial, Lib.hid (by
          rw [Ht.out]
          intro t ht
          rcases List.mem_append.1 ht with h | h
          · exact hH.out t h
          · obtain rfl := List.mem_singleton.1 h; exact Hn.out)⟩
        case measure => simp [intOf]; omega
    · have Hj := Lib.hid (show j = l.length by omega)
      have hend : l.length ≤ j := by omega
      clear hlt hcell hd
      go_wp2_with fail
      go_ret2
      have hN : findT id l = none := findT_none (by have := hH.out; rwa [Hj.out, List.take_length] at this)
      exact ⟨by unfold leftL; rw [hN]; rfl, T0.out.below (Nat.le_refl _) (fun _ h => h.elim)⟩

def advOk (n : Int) : Bool := decide (0 ≤ n ∧ n ≤ 1073741824)
def keptL (t : Int) (l : List Tm) : List Tm := l.filter fun x => !decide (x.due ≤ t)
def firedL (t : Int) (l : List Tm) : List Int := (l.filter fun x => decide (x.due ≤ t)).map Tm.id

theorem RefAdvance_no {w : World} {base : Nat} {v : Value} {now : Int} {l : List Tm} (h : RefV w base v now l) (n : Int) (ha : advOk n = false) :
    Calls Try.prog 39 #[v, .int .i64 n] w fun e w' => e = .returned (.tuple #[v, .slice none 0 0, .int .i64 1]) ∧ Below w.heap.size w w' := by
  obtain ⟨s, rfl, hrow⟩ := h
  obtain ⟨A, cap, rfl, _, _, _⟩ := ownsL_form hrow
  unfold advOk at ha
  rw [decide_eq_false_iff_not] at ha
  by_cases h1 : n < 0
  · clear ha
    go_enter Try.func39, Try.ntmps39
    go_wp2_with fail
    refine bodyPost_ret (results_ctt rfl _ _ _ _ _ _ _ rfl (heap_alloc2_new w _ _) Try.underlying51 rfl Try.size_clock) rfl ?_
    exact ⟨rfl, ((Below.refl _ w).alloc (Nat.le_refl _) _).alloc (by simp) _⟩
  · have h2 : 1073741824 < n := by omega
    clear ha
    go_enter Try.func39, Try.ntmps39
    go_wp2_with fail
    refine bodyPost_ret (results_ctt rfl _ _ _ _ _ _ _ rfl (heap_alloc2_new w _ _) Try.underlying51 rfl Try.size_clock) rfl ?_
    exact ⟨rfl, ((Below.refl _ w).alloc (Nat.le_refl _) _).alloc (by simp) _⟩

set_option maxHeartbeats 2000000 in
set_option maxRecDepth 100000 in
theorem RefAdvance_yes {w : World} {base : Nat} {v : Value} {now : Int} {l : List Tm} (h : RefV w base v now l) (hl : l.length ≤ 900) (n : Int) (ha : advOk n = true) (hn0 : 0 ≤ now) (hn1 : now ≤ 4611686018427387904) :
    Calls Try.prog 39 #[v, .int .i64 n] w fun e w' => ∃ v' vf, e = .returned (.tuple #[v', vf, .int .i64 0]) ∧
      RefV w' w.heap.size v' (now + n) (keptL (now + n) l) ∧ w'.ownsRow w.heap.size 3 1 vf (firedL (now + n) l).length ((firedL (now + n) l).map encZ) ∧ Below w.heap.size w w' := by
  obtain ⟨s, rfl, hrow⟩ := h
  obtain ⟨A, cap, rfl, hc0, hcm, hcell⟩ := ownsL_form hrow
  obtain ⟨i0, hi, hz0, hz1, hz2⟩ := Try.info_timer
  obtain ⟨i1, hi1, iz0, iz1, iz2⟩ := Try.info_int
  unfold advOk at ha
  rw [decide_eq_true_eq] at ha
  obtain ⟨a1, a2⟩ := ha
  unfold maxLen at hcm
  have bw : IntKind.i64.wrap (now + n) = now + n := IntWalk.i64_in _ (by omega)
  go_enter Try.func39, Try.ntmps39
  go_wp2_with fail
  obtain ⟨W0, e0, hs0, b0, b1, b2, t0⟩ := alloc3 w (.cells #[.int .i64 now, .slice A l.length cap] 51) (.cells #[.int .i64 0, .slice none 0 0] 51) (.cells #[.int .i64 (now + n), .slice none 0 0] 51)
  rw [e0]
  clear e0
  obtain ⟨T, eT⟩ : ∃ d, now + n = d := ⟨_, rfl⟩
  rw [eT] at b2 bw ⊢
  have ET := Lib.hid eT
  clear eT
  go_loopw [8, 9] (fun fv i wr => ∃ j : Nat, j ≤ l.length ∧ i = .int .i64 j ∧ ∃ s', Hid (BoxC wr (w.heap.size + 1 + 1) T s') ∧ Hid (ownsL wr (w.heap.size + 3) s' (keptL T (l.take j))) ∧
      Hid (wr.ownsRow (w.heap.size + 3) 3 1 fv (firedL T (l.take j)).length ((firedL T (l.take j)).map encZ)) ∧ Hid (Touch (fun k => k = w.heap.size + 1 + 1 ∨ w.heap.size + 3 ≤ k) W0 wr)) (fun _ i _ => l.length - (intOf i).toNat)
  case atStart => exact ⟨0, Nat.zero_le _, rfl, _, Lib.hid b2, Lib.hid ⟨rfl, .inl ⟨rfl, rfl⟩⟩, Lib.hid ⟨rfl, .inl ⟨rfl, rfl⟩⟩, Lib.hid (Touch.refl _ _)⟩
  case round =>
    obtain ⟨j, hj, rfl, s', hb, hr, hf, ht⟩ := hrel
    have hsz := ht.out.size
    rw [hs0] at hsz
    have x1 := (ht.out.cell (p := ⟨w.heap.size, 1, none⟩) (by show w.heap.size < W0.heap.size; omega) (by show ¬ (w.heap.size = w.heap.size + 1 + 1 ∨ w.heap.size + 3 ≤ w.heap.size); omega)).trans (cell2_1 b0)
    have x2 := cell2_0 hb.out
    by_cases hlt : j < l.length
    · obtain ⟨g, rfl, hob, hbg, hgl, q0, q1⟩ := hcell j hlt
      replace q0 := (t0.cell (p := ⟨g, j * 2, none⟩) hgl (fun h => h)).trans q0
      replace q1 := (t0.cell (p := ⟨g, j * 2 + 1, none⟩) hgl (fun h => h)).trans q1
      have y1 := (ht.out.cell (p := ⟨g, j * 2 + 1, none⟩) (by show g < W0.heap.size; omega) (by show ¬ (g = w.heap.size + 1 + 1 ∨ w.heap.size + 3 ≤ g); omega)).trans q1
      have Ht := Lib.hid (show l.take (j + 1) = l.take j ++ [l[j]] by rw [List.take_add_one, List.getElem?_eq_getElem hlt]; rfl)
      have hkl : (keptL T (l.take j)).length ≤ 900 := by
        have := List.length_filter_le (fun x : Tm => !decide (x.due ≤ T)) (l.take j)
        rw [List.length_take] at this; unfold keptL; omega
      have hfl : (firedL T (l.take j)).length ≤ 900 := by
        have := List.length_filter_le (fun x : Tm => decide (x.due ≤ T)) (l.take j)
        rw [List.length_take] at this; unfold firedL; rw [List.length_map]; omega
      clear hcell
      generalize l[j] = t at *
      obtain ⟨tid, tdue⟩ := t
      dsimp only at y1 q0 q1
      have HK := Lib.hid (show keptL T (l.take j ++ [⟨tid, tdue⟩]) = if tdue ≤ T then keptL T (l.take j) else keptL T (l.take j) ++ [⟨tid, tdue⟩] by
        unfold keptL; rw [List.filter_append]; by_cases h : tdue ≤ T <;> simp [h])
      have HFi := Lib.hid (show firedL T (l.take j ++ [⟨tid, tdue⟩]) = if tdue ≤ T then firedL T (l.take j) ++ [tid] else firedL T (l.take j) by
        unfold firedL; rw [List.filter_append]; by_cases h : tdue ≤ T <;> simp [h])
      have hji0 : (0 : Int) ≤ (j : Int) := Int.natCast_nonneg _
      have hji1 : (j : Int) < (l.length : Int) := by omega
      have n0 : ∀ k, (wr.drewN k).cell? ⟨w.heap.size, 1, none⟩ = some (Value.slice (some ⟨g, 0, none⟩) l.length cap) := fun _ => x1
      have n1 : ∀ k, (wr.drewN k).cell? ⟨w.heap.size + 1 + 1, 0, none⟩ = some (.int .i64 T) := fun _ => x2
      have n3 : ∀ k, (wr.drewN k).cell? ⟨g, j * 2 + 1, none⟩ = some (.int .i64 tdue) := fun _ => y1
      by_cases hle : tdue ≤ T
      · rw [if_pos hle] at HK HFi
        have g1 : decide (tdue ≤ T) = true := by simpa using hle
        go_wp2_with fail
        go_quiet (fail)
        have hB0 : BoxC (wr.drewN nq) (w.heap.size + 1 + 1) T s' := hb.out
        have hR0 : ownsL (wr.drewN nq) (w.heap.size + 3) s' (keptL T (l.take j)) := own_touchL hr.out ((Touch.refl (fun _ => False) wr).drewN nq) (fun _ _ h => h)
        have hF0 := own_touchL hf.out ((Touch.refl (fun _ => False) wr).drewN nq) (fun _ _ h => h)
        have hT0 : Touch (fun k => k = w.heap.size + 1 + 1 ∨ w.heap.size + 3 ≤ k) W0 (wr.drewN nq) := ht.out.drewN nq
        obtain ⟨wq, ewq⟩ : ∃ W, wr.drewN nq = W := ⟨_, rfl⟩
        rw [ewq] at hB0 hR0 hF0 hT0 ⊢
        have hB := Lib.hid hB0
        have hR := Lib.hid hR0
        have hT := Lib.hid hT0
        have hF := Lib.hid hF0
        have hszq := hT0.size
        rw [hs0] at hszq
        clear hB0 hR0 hT0 hF0 n0 n1 n3 x1 x2 y1 ewq hb hr hf ht hsz
        have y0 := (hT.out.cell (p := ⟨g, j * 2, none⟩) (by show g < W0.heap.size; omega) (by show ¬ (g = w.heap.size + 1 + 1 ∨ w.heap.size + 3 ≤ g); omega)).trans q0
        have x1 := (hT.out.cell (p := ⟨w.heap.size, 1, none⟩) (by show w.heap.size < W0.heap.size; omega) (by show ¬ (w.heap.size = w.heap.size + 1 + 1 ∨ w.heap.size + 3 ≤ w.heap.size); omega)).trans (cell2_1 b0)
        have hXX : Touch (fun _ => False) wq (wq.alloc (.cells #[.int .i64 tid] 3)) := (Touch.refl _ wq).alloc _
        have HXX := Lib.hid hXX
        clear hXX
        go_wp2_with (at_builtin; refine wpList_append_own_at _ rfl _ _ 41 rfl (w.heap.size + 3) 3 i1 (.int .i64 0) 1 8 Try.underlying41 hi1 iz0 iz1 iz2 rfl (by decide) _ _ _ rfl (hF.out.alloc _) ⟨wq.heap.size, 0, none⟩ 1 1 [encZ tid] rfl rfl (cell_one_new _ _ _) (by simp [Value.oneCell', encZ]) (by unfold maxLen; omega) (by omega) (by rw [World.size_alloc]; omega) ?_; intro v' w2 hown' hgrow hnil hat; have HO := Lib.hid hown'; have HG := Lib.hid hgrow; clear hown' hgrow hnil hat)
        have hap := own_apart hR.out hF.out (by decide)
        have hR2 : ownsL w2 (w.heap.size + 3) s' (keptL T (l.take j)) := (hR.out.own_touch1 HXX.out).kept HG.out (by rcases hap with h | h; exact .inl h; exact .inr h)
        have hT2 : Touch (fun k => k = w.heap.size + 1 + 1 ∨ w.heap.size + 3 ≤ k) wq w2 :=
          (HXX.out.mono (fun _ _ h => h.elim)).trans ⟨HG.out.os, HG.out.tape, HG.out.output, HG.out.size, fun k hk hx => HG.out.block k hk (own_ge hF.out (by omega))⟩
        have hB2 : BoxC w2 (w.heap.size + 1 + 1) T s' := (HG.out.block _ (by rw [World.size_alloc]; omega) (own_ge hF.out (by omega))).trans ((HXX.out.block _ (by omega) (fun h => h)).trans hB.out)
        go_roundw
        case rel =>
          refine ⟨j + 1, by omega, by go_num, s', Lib.hid hB2, ?_, ?_, Lib.hid (hT.out.trans hT2)⟩
          · rw [Ht.out, HK.out]; exact Lib.hid hR2
          · rw [Ht.out, HFi.out, List.length_append, List.map_append]; exact HO
        case measure => simp [intOf]; omega
      · rw [if_neg hle] at HK HFi
        have g1 : decide (tdue ≤ T) = false := by simpa using hle
        go_wp2_with fail
        go_quiet (fail)
        have hB0 : BoxC (wr.drewN nq) (w.heap.size + 1 + 1) T s' := hb.out
        have hR0 : ownsL (wr.drewN nq) (w.heap.size + 3) s' (keptL T (l.take j)) := own_touchL hr.out ((Touch.refl (fun _ => False) wr).drewN nq) (fun _ _ h => h)
        have hF0 := own_touchL hf.out ((Touch.refl (fun _ => False) wr).drewN nq) (fun _ _ h => h)
        have hT0 : Touch (fun k => k = w.heap.size + 1 + 1 ∨ w.heap.size + 3 ≤ k) W0 (wr.drewN nq) := ht.out.drewN nq
        obtain ⟨wq, ewq⟩ : ∃ W, wr.drewN nq = W := ⟨_, rfl⟩
        rw [ewq] at hB0 hR0 hF0 hT0 ⊢
        have hB := Lib.hid hB0
        have hR := Lib.hid hR0
        have hT := Lib.hid hT0
        have hF := Lib.hid hF0
        have hszq := hT0.size
        rw [hs0] at hszq
        clear hB0 hR0 hT0 hF0 n0 n1 n3 x1 x2 y1 ewq hb hr hf ht hsz
        have x1 := (hT.out.cell (p := ⟨w.heap.size, 1, none⟩) (by show w.heap.size < W0.heap.size; omega) (by show ¬ (w.heap.size = w.heap.size + 1 + 1 ∨ w.heap.size + 3 ≤ w.heap.size); omega)).trans (cell2_1 b0)
        have x2 := cell2_1 hB.out
        have x3 : wq.frozen? ⟨w.heap.size + 1 + 1, 1, none⟩ = false := frozen2 hB.out
        have y0 := (hT.out.cell (p := ⟨g, j * 2, none⟩) (by show g < W0.heap.size; omega) (by show ¬ (g = w.heap.size + 1 + 1 ∨ w.heap.size + 3 ≤ g); omega)).trans q0
        have y1 := (hT.out.cell (p := ⟨g, j * 2 + 1, none⟩) (by show g < W0.heap.size; omega) (by show ¬ (g = w.heap.size + 1 + 1 ∨ w.heap.size + 3 ≤ g); omega)).trans q1
        have hXX : Touch (fun _ => False) wq (wq.alloc (.cells #[.int .i64 tid, .int .i64 tdue] 61)).drew := ((Touch.refl _ wq).alloc _).drew
        have x4 := (hXX.cell (p := ⟨w.heap.size + 1 + 1, 1, none⟩) (by show w.heap.size + 1 + 1 < wq.heap.size; omega) (fun h => h)).trans x2
        change (wq.alloc (.cells #[.int .i64 tid, .int .i64 tdue] 61)).cell? _ = _ at x4
        have HXX := Lib.hid hXX
        have hap := Lib.hid (own_apart hF.out hR.out (by decide))
        clear hXX
        go_wp2_with fail
        go_region_law ((refine step_append_lies _ (by rfl) _ _ _ (by rfl) (w.heap.size + 3) 61 i0 _ 2 16 Try.underlying49 hi hz0 hz1 hz2 rfl (by omega) s' _ _ (by rfl) ((hR.out.alloc _).drew) ⟨wq.heap.size, 0, none⟩ 1 1 [.int .i64 tid, .int .i64 tdue] (by rfl) (by rfl) (World.news_of_block (cs := #[.int .i64 tid, .int .i64 tdue]) (t := 61) (fr := (0, 0)) (heap_alloc_new wq _)) (by simp [Value.oneCell']) (by omega) (by unfold maxLen; omega) (by omega) (by simp; omega) (wq.heap.size + 1) (by simp) ?_; intro gg cap' w1 hown1 hgrow hat hglt; have hk1 := put_kept (by omega) hB.out hR.out HXX.out hgrow; have k1 := cell2_1 hk1; have k2 := frozen2 (i := 1) hk1; have HP := Lib.hid (put_appended (by omega) hB.out hR.out HXX.out hgrow hown1); have HG := Lib.hid hgrow; clear hown1 hgrow hat hk1))
        go_wp2_with fail
        all_goals
          have hF2 : w1.ownsRow (w.heap.size + 3) 3 1 u8 (firedL T (l.take j)).length ((firedL T (l.take j)).map encZ) := (own_touchL hF.out HXX.out (fun _ _ h => h)).kept HG.out hap.out
          have hF3 := own_touchL hF2 ((Touch.refl (fun k => k = w.heap.size + 1 + 1) w1).setCell (p := ⟨w.heap.size + 1 + 1, 1, none⟩) (.inl rfl) (Value.slice (some ⟨gg, 0, none⟩) ((keptL T (l.take j)).length + 1) cap')) (fun k hk e => own_ge hF2 (k := w.heap.size + 1 + 1) (by omega) (by rw [hk, e]))
          refine ⟨⟨j + 1, by omega, by go_num, _, Lib.hid HP.out.1, by rw [Ht.out, HK.out]; exact Lib.hid HP.out.2.1, by rw [Ht.out, HFi.out]; exact Lib.hid hF3, Lib.hid (hT.out.trans HP.out.2.2)⟩, ?_⟩
          simp [intOf]; omega
    · have Hj := Lib.hid (show j = l.length by omega)
      have hend : l.length ≤ j := by omega
      clear hlt hcell x1 x2
      rw [show l.take j = l by rw [Hj.out, List.take_length]] at hr hf
      obtain ⟨L, eL⟩ : ∃ z, keptL T l = z := ⟨_, rfl⟩
      rw [eL] at hr
      have EL := Lib.hid eL
      obtain ⟨A', cap', rfl, _, _, _⟩ := ownsL_form hr.out
      have v0 := cell2_0 hb.out
      have v1 := cell2_1 hb.out
      have x1 := (ht.out.cell (p := ⟨w.heap.size, 1, none⟩) (by show w.heap.size < W0.heap.size; omega) (by show ¬ (w.heap.size = w.heap.size + 1 + 1 ∨ w.heap.size + 3 ≤ w.heap.size); omega)).trans (cell2_1 b0)
      have z1 := (ht.out.block (w.heap.size + 1) (by omega) (by omega)).trans b1
      have z2 := cell2_0 z1
      have z3 := cell2_1 z1
      have z4 := frozen2 (i := 0) z1
      have z5 := frozen2 (i := 1) z1
      have z6 := set2_0 (.int .i64 T) z1
      have z7 := cell2_1 z6
      have z8 := frozen2 (i := 1) z6
      have Z9 := Lib.hid (set2_1 (.slice A' L.length cap') z6)
      have hT4 : Touch (fun k => k = w.heap.size + 1) wr ((wr.setCell ⟨w.heap.size + 1, 0, none⟩ (.int .i64 T)).setCell ⟨w.heap.size + 1, 1, none⟩ (.slice A' L.length cap')) :=
        ((Touch.refl (fun k => k = w.heap.size + 1) wr).setCell (p := ⟨w.heap.size + 1, 0, none⟩) (.inl rfl) _).setCell (p := ⟨w.heap.size + 1, 1, none⟩) (.inl rfl) _
      have hB4 := (((t0.below (n := w.heap.size) (Nat.le_refl _) (fun _ h => h.elim)).trans (ht.out.below (n := w.heap.size) (by omega) (fun k hk => by rcases hk with hk | hk <;> omega))).trans (hT4.below (n := w.heap.size) (by omega) (fun k hk => by have e : k = w.heap.size + 1 := hk; omega)))
      have hR2 := own_touchL hr.out hT4 (fun k hk e => own_ge hr.out (k := w.heap.size + 1) (by omega) (by rw [hk]; exact congrArg some e.symm))
      have hF2 := own_touchL hf.out hT4 (fun k hk e => own_ge hf.out (k := w.heap.size + 1) (by omega) (by rw [hk]; exact congrArg some e.symm))
      have HB4 := Lib.hid hB4
      have HR2 := Lib.hid hR2
      have HF2 := Lib.hid hF2
      clear z6 z1 hB4 hR2 hF2 hT4 eL
      go_wp2_with fail
      refine bodyPost_ret (results_ctt rfl _ _ _ _ _ _ _ rfl Z9.out Try.underlying51 rfl Try.size_clock) rfl ?_
      refine ⟨_, _, rfl, ⟨_, by rw [ET.out], ?_⟩, ?_, HB4.out⟩
      · rw [ET.out, EL.out]; exact own_lower HR2.out (by omega)
      · rw [ET.out]; exact own_lower HF2.out (by omega)

end Go.Proofs.Ytgnckeidekppjaa
