/-
  The law TraceStill: the longest run of still events, and those that move, are the document's.
-/
import Derived.Test.YtplcfijcmihhlaaDoorStillRange
import Derived.Test.YtplcfijcmihhlaaDoorStillWakes
import Derived.Test.YtplcfijcmihhlaaDoorQuietRound
import Derived.Deep.RegionHeld3
import Derived.Deep.RegionLaw
import Derived.Deep.DrawnRows
import Derived.Deep.AppendLies
import Derived.Deep.Draws
import Derived.Deep.QuietTactic
import Derived.Sort.QuietIn
import Derived.BigQuiet
import Derived.RegionIn
import Derived.OwnWalk
import Derived.KernelRfl
import Derived.Laws.Rows
namespace Go.Proofs.YtplcfijcmihhlaaDoor
open Go.RowKit Go.Shelf
set_option linter.unusedVariables false
set_option linter.unusedSimpArgs false
attribute [local go_sem] Oper.semAt_some

theorem Tryd.info_event : ∃ i, Tryd.prog.info? 33 = some i ∧ i.zero = some (.agg #[.int .i64 0, .int .i64 0, .int .i64 0, .int .i64 0, .int .i64 0, .int .i64 0, .int .i64 0]) ∧ i.size = 7 ∧ i.bytes = 56 := by
  have h : (Tryd.prog.info? 33).map (fun i => (i.zero, i.size, i.bytes)) = some (some (.agg #[.int .i64 0, .int .i64 0, .int .i64 0, .int .i64 0, .int .i64 0, .int .i64 0, .int .i64 0]), 7, 56) := by kernel_rfl
  obtain ⟨i, hi, he⟩ := Option.map_eq_some_iff.1 h
  simp only [Prod.mk.injEq] at he
  exact ⟨i, hi, he.1, he.2.1, he.2.2⟩
theorem Tryd.info_intT : ∃ i, Tryd.prog.info? 3 = some i ∧ i.zero = some (.int .i64 0) ∧ i.size = 1 ∧ i.bytes = 8 := by
  have h : (Tryd.prog.info? 3).map (fun i => (i.zero, i.size, i.bytes)) = some (some (.int .i64 0), 1, 8) := by kernel_rfl
  obtain ⟨i, hi, he⟩ := Option.map_eq_some_iff.1 h
  simp only [Prod.mk.injEq] at he
  exact ⟨i, hi, he.1, he.2.1, he.2.2⟩

theorem alloc2 (w : World) (o1 o2 : Obj) : ∃ W, (w.alloc o1).alloc o2 = W ∧ W.heap.size = w.heap.size + 2 ∧ W.heap[w.heap.size]? = some o1 ∧ W.heap[w.heap.size + 1]? = some o2 ∧ Touch (fun _ => False) w W :=
  ⟨_, rfl, by simp, by rw [Below.heap_alloc _ _ _ (by simp), World.alloc_heap_new], heap_alloc2_new _ _ _, ((Touch.refl _ w).alloc _).alloc _⟩

theorem results_c1 {P : Program} {fn : Func} {p : Tmp} {ty : TypeId} (h : fn.results = #[.cell p ty]) (tmps : Array Value) (w : World) (g : Nat) (v : Value) (d : TypeDesc)
    (hp : tmps.getD p undef = .pointer (some ⟨g, 0, none⟩)) (hc : w.cell? ⟨g, 0, none⟩ = some v) (hu : P.underlying ty = some d) (hd : (match d with | .struct _ | .array _ _ => true | _ => false) = false) :
    (results fn tmps).run P w = .ok v w := by
  have hp' : tmps[p]?.getD undef = .pointer (some ⟨g, 0, none⟩) := by simpa using hp
  have hagg : (isAgg ty).run P w = .ok false w := by
    unfold isAgg
    rw [Sem.run_bind, run_underlying hu w]
    cases d <;> simp_all
  simp [results, h, hp', asAddr, loadVar, Sem.run_bind, hagg, hc]

theorem row_slice {W : World} {base size n : Nat} {e : TypeId} {v : Value} {xs : List Value} (h : W.ownsRow base e size v n xs) (hn : 0 < n) : ∃ g c, v = .slice (some ⟨g, 0, none⟩) n c := by
  rcases h.2 with ⟨rfl, hz⟩ | ⟨g, cap, cur, rfl, _⟩
  · omega
  · exact ⟨g, cap, rfl⟩

/-- A call of a function by its contract, as one step of a region that draws. -/
theorem step_call_to {P : Program} {ops : Array Oper} {o : Oper} {a : Act} {w : World} {K : Act → World → Prop} {Q : Exit → Act → World → Prop} {E : Prop} (hgd : o.guard = none)
    (f : FuncId) (args : Array Value) (hrun : (execOp a.eval o).run P w = .ok (.enter f args) w) (v : Value) (R : World → Prop)
    (hc : Calls P f args w fun e w'' => e = .returned v ∧ R w'') (h : ∀ w'', R w'' → K (a.put o.dst v) w'') :
    if Region.wanted o (yielded ops a.tmps) = true then Oper.wp P o a w K Q else E := by
  have hw : Region.wanted o (yielded ops a.tmps) = true := by simp [Region.wanted, hgd]
  rw [if_pos hw]
  unfold Oper.wp
  rw [hrun, Oper.upon_enter]
  refine hc.mono fun e w'' hh => ?_
  obtain ⟨rfl, hR⟩ := hh
  exact h _ hR

/-- What holds of the two lists while the events are taken in. -/
structure TwoRows (W : World) (s : Nat) (v5 v6 : Value) (l : List EvV) (ps : List Nat) : Prop where
  b5 : Boxed W s 29 v5
  b6 : Boxed W (s + 1) 30 v6
  r5 : ownsE W (s + 2) v5 l
  r6 : ownsP W (s + 2) v6 ps

theorem TwoRows.keep {W W' : World} {s : Nat} {v5 v6 : Value} {l : List EvV} {ps : List Nat} (h : TwoRows W s v5 v6 l ps) (t : Touch (fun _ => False) W W') : TwoRows W' s v5 v6 l ps :=
  ⟨(t.block s (lt_of_heap h.b5) (fun h => h)).trans h.b5, (t.block (s + 1) (lt_of_heap h.b6) (fun h => h)).trans h.b6, own_touchL h.r5 t (fun _ _ h => h), own_touchL h.r6 t (fun _ _ h => h)⟩

theorem ev_app {W w4 : World} {s : Nat} {v5 v6 v' : Value} {l : List EvV} {ps : List Nat} {x : EvV} (h : TwoRows W s v5 v6 l ps) (hg : W.grownBy w4 v5.ownBlock)
    (hown : w4.ownsRow (s + 2) 33 7 v' (l.length + 1) (encEs l ++ x.cs)) :
    w4.cell? ⟨s, 0, none⟩ = some v5 ∧ w4.frozen? ⟨s, 0, none⟩ = false ∧ TwoRows (w4.setCell ⟨s, 0, none⟩ v') s v' v6 (l ++ [x]) ps ∧ Touch (fun k => s ≤ k) W (w4.setCell ⟨s, 0, none⟩ v') ∧ (∀ k, k < W.heap.size → k ≠ s → some k ≠ v5.ownBlock → (w4.setCell ⟨s, 0, none⟩ v').heap[k]? = W.heap[k]?) := by
  have k5 : Boxed w4 s 29 v5 := h.b5.kept hg (own_ge h.r5 (by omega))
  have k6 : Boxed w4 (s + 1) 30 v6 := h.b6.kept hg (own_ge h.r5 (by omega))
  have hap := own_apart h.r6 h.r5 (by decide)
  have q6 : ownsP w4 (s + 2) v6 ps := h.r6.kept hg hap
  have tS : Touch (fun k => k = s) w4 (w4.setCell ⟨s, 0, none⟩ v') := (Touch.refl (fun k => k = s) w4).setCell (p := ⟨s, 0, none⟩) (.inl rfl) v'
  refine ⟨k5.cell, k5.frozen, ⟨k5.set v', boxed_other k6 (p := ⟨s, 0, none⟩) (by show ¬ s + 1 = s; omega) v', ?_, ?_⟩, ?_, fun k hk hs hx => (Below.heap_setCell w4 ⟨s, 0, none⟩ v' k hs).trans (hg.block k hk hx)⟩
  · have := own_touchL hown tS (fun k hk e => own_ge hown (k := s) (by omega) (by rw [hk]; exact congrArg some (show s = k from e.symm)))
    show World.ownsRow _ _ _ _ _ _ _
    rw [List.length_append, encEs_snoc]
    exact this
  · exact own_touchL q6 tS (fun k hk e => own_ge q6 (k := s) (by omega) (by rw [hk]; exact congrArg some (show s = k from e.symm)))
  · refine Touch.trans ⟨hg.os, hg.tape, hg.output, hg.size, fun k hk hx => hg.block k hk (own_ge h.r5 (by omega))⟩ (tS.mono (fun k _ e => by have e' : k = s := e; omega))

theorem pl_app {W w4 : World} {s : Nat} {v5 v6 v' : Value} {l : List EvV} {ps : List Nat} {x : Nat} (h : TwoRows W s v5 v6 l ps) (hg : W.grownBy w4 v6.ownBlock)
    (hown : w4.ownsRow (s + 2) 3 1 v' (ps.length + 1) ((ps.map fun i => Value.int .i64 (i : Nat)) ++ [.int .i64 x])) :
    w4.cell? ⟨s + 1, 0, none⟩ = some v6 ∧ w4.frozen? ⟨s + 1, 0, none⟩ = false ∧ TwoRows (w4.setCell ⟨s + 1, 0, none⟩ v') s v5 v' l (ps ++ [x]) ∧ Touch (fun k => s ≤ k) W (w4.setCell ⟨s + 1, 0, none⟩ v') := by
  have k5 : Boxed w4 s 29 v5 := h.b5.kept hg (own_ge h.r6 (by omega))
  have k6 : Boxed w4 (s + 1) 30 v6 := h.b6.kept hg (own_ge h.r6 (by omega))
  have hap := own_apart h.r5 h.r6 (by decide)
  have q5 : ownsE w4 (s + 2) v5 l := h.r5.kept hg hap
  have tS : Touch (fun k => k = s + 1) w4 (w4.setCell ⟨s + 1, 0, none⟩ v') := (Touch.refl (fun k => k = s + 1) w4).setCell (p := ⟨s + 1, 0, none⟩) (.inl rfl) v'
  refine ⟨k6.cell, k6.frozen, ⟨boxed_other k5 (p := ⟨s + 1, 0, none⟩) (by show ¬ s = s + 1; omega) v', k6.set v', ?_, ?_⟩, ?_⟩
  · exact own_touchL q5 tS (fun k hk e => own_ge q5 (k := s + 1) (by omega) (by rw [hk]; exact congrArg some (show s + 1 = k from e.symm)))
  · have := own_touchL hown tS (fun k hk e => own_ge hown (k := s + 1) (by omega) (by rw [hk]; exact congrArg some (show s + 1 = k from e.symm)))
    show World.ownsRow _ _ _ _ _ _ _
    rw [List.length_append, List.map_append]
    exact this
  · refine Touch.trans ⟨hg.os, hg.tape, hg.output, hg.size, fun k hk hx => hg.block k hk (own_ge h.r6 (by omega))⟩ (tS.mono (fun k _ e => by have e' : k = s + 1 := e; omega))

set_option maxHeartbeats 4000000 in
set_option maxRecDepth 100000 in
theorem TraceStill_any (stop : Int) (hst0 : 0 ≤ stop) (hst1 : stop ≤ 255) (v : Value) (l : List EvV) (w : World) (hv : EventsAt w w.heap.size v l) :
    Calls Tryd.prog 4 #[v, .int .u8 stop] w fun e w' => e = .returned (.bool true) ∧ Below w.heap.size w w' := by
  obtain ⟨A, cap, rfl, hc1, hc2, h3⟩ := hv
  have hcm := hc2
  unfold maxLen at hcm
  refine calls_of_wp_marks Tryd.func4 rfl ?_
  simp only [Tryd.ntmps4, List.size_toArray, List.length_cons, List.length_nil, Nat.reduceAdd, Nat.reduceSub, Array.replicate_succ, Array.replicate_zero, List.push_toArray, List.append_toArray, List.nil_append, List.cons_append]
  by_cases hlen : 100 < l.length
  · go_wp2_with fail
    refine (wakes22_any _).mono ?_; rintro e w1 ⟨rfl, hb1⟩; dsimp only
    have hz1 := hb1.size
    simp only [World.size_alloc] at hz1
    have d1 : Boxed w1 (w.heap.size + 1) 4 (.bool false) := by
      have k := hb1.block (w.heap.size + 1) (by simp)
      exact k.trans (heap_alloc2_new w _ _)
    have c0 := d1.cell
    have c1 := d1.frozen
    have D2 := Lib.hid (d1.set (.bool true))
    have HB := Lib.hid ((((Below.refl _ w).alloc (Nat.le_refl _) (.cells #[.int .u8 stop] 5)).alloc (by simp) (.cells #[.bool false] 4)).trans (hb1.mono (by simp; omega)) |>.setCell (p := ⟨w.heap.size + 1, 0, none⟩) (by show w.heap.size ≤ w.heap.size + 1; omega) (.bool true))
    clear d1 hb1
    go_wp2_with fail
    exact post_nomark rfl (results_c1 rfl _ _ _ _ _ rfl D2.out.cell Tryd.underlying4 rfl) ⟨rfl, HB.out⟩
  have hlen' : l.length ≤ 100 := by omega
  go_wp2_with fail
  refine (wakes22_any _).mono ?_; rintro e w1 ⟨rfl, hb1⟩; dsimp only
  have hz1 := hb1.size
  simp only [World.size_alloc] at hz1
  have d0 : Boxed w1 w.heap.size 5 (.int .u8 stop) := (hb1.block w.heap.size (by simp; omega)).trans ((Boxed.new w _ _).alloc _)
  have d1 : Boxed w1 (w.heap.size + 1) 4 (.bool false) := (hb1.block (w.heap.size + 1) (by simp)).trans (heap_alloc2_new w _ _)
  have HB1 := Lib.hid ((((Below.refl _ w).alloc (Nat.le_refl _) (.cells #[.int .u8 stop] 5)).alloc (by simp) (.cells #[.bool false] 4)).trans (hb1.mono (by simp; omega)))
  clear hb1
  go_wp2_with fail
  obtain ⟨i0, hi, hz0, hz1', hz2⟩ := Tryd.info_event
  obtain ⟨i1, hi1, iz0, iz1, iz2⟩ := Tryd.info_intT
  obtain ⟨W0, e0⟩ : ∃ W0, (w1.alloc (.cells #[.slice none 0 0] 29)).alloc (.cells #[.slice none 0 0] 30) = W0 := ⟨_, rfl⟩
  have hs0 : W0.heap.size = w1.heap.size + 2 := by rw [← e0]; simp
  have n5 : Boxed W0 w1.heap.size 29 (.slice none 0 0) := by rw [← e0]; exact (Boxed.new w1 _ _).alloc _
  have n6 : Boxed W0 (w1.heap.size + 1) 30 (.slice none 0 0) := by
    rw [← e0]
    have := Boxed.new (w1.alloc (.cells #[.slice none 0 0] 29)) 30 (.slice none 0 0)
    rwa [World.size_alloc] at this
  have T0 : Touch (fun _ => False) w1 W0 := by rw [← e0]; exact ((Touch.refl _ w1).alloc _).alloc _
  rw [e0]
  clear e0
  have hn : TwoRows W0 w1.heap.size (.slice none 0 0) (.slice none 0 0) [] [] := ⟨n5, n6, ⟨rfl, .inl ⟨rfl, rfl⟩⟩, ⟨rfl, .inl ⟨rfl, rfl⟩⟩⟩
  have HN := Lib.hid hn
  clear n5 n6 hn
  have hZ := Lib.hid hs0
  obtain ⟨s, es⟩ : ∃ s, w1.heap.size = s := ⟨_, rfl⟩
  rw [es] at HN hz1 hs0 hZ ⊢
  have hsW : w.heap.size + 2 ≤ s := by omega
  have EvC : ∀ j, j < l.length → ∃ b off, A = some ⟨b, off, none⟩ ∧ b < w.heap.size ∧ EvAt W0 b (off + j * 7) (evAt l j) := fun j hj => by
    obtain ⟨b, off, e, hb, hc⟩ := h3 (by rintro rfl; simp at hj)
    exact ⟨b, off, e, hb, (hc j hj).keep ((T0.block b (by omega) (fun h => h)).trans (HB1.out.block b hb))⟩
  clear h3
  go_loopw [20] (fun i wr => ∃ j : Nat, j ≤ l.length ∧ i = .int .i64 j ∧ ∃ v5 v6, Hid (TwoRows wr s v5 v6 (l.take j) (mvs l j)) ∧ Hid (Touch (fun k => s ≤ k) W0 wr) ∧ s + 2 ≤ wr.heap.size) (fun i _ => l.length - (intOf i).toNat)
  case atStart => exact ⟨0, Nat.zero_le _, rfl, _, _, HN, Lib.hid (Touch.refl _ _), by omega⟩
  case round =>
    obtain ⟨j, hj, rfl, v5, v6, hR, hT, hsz⟩ := hrel
    by_cases hlt : j < l.length
    · obtain ⟨b, off, rfl, hb, hx⟩ := EvC j hlt
      have hx' := hx.keep (hT.out.block b (by omega) (by omega))
      clear hx EvC
      obtain ⟨x0, x1, x2, x3, x4, x5, x6⟩ := hx'
      have hTk := Lib.hid (show l.take (j + 1) = l.take j ++ [evAt l j] by
        rw [List.take_add_one, List.getElem?_eq_getElem hlt]; unfold evAt; rw [List.getElem?_eq_getElem hlt]; rfl)
      have hMv := Lib.hid (mvs_succ l j)
      have hLt := Lib.hid (show (l.take j).length = j by simp; omega)
      generalize evAt l j = x at *
      go_wp2_with fail
      obtain ⟨wq, ewq⟩ : ∃ wq, wr.alloc (.cells #[.int .i64 x.a, .int .i64 x.b, .int .i64 x.c, .int .i64 x.d, .int .i64 x.e, .int .i64 x.f, .int .i64 x.g] 32) = wq := ⟨_, rfl⟩
      have bq : wq.heap[wr.heap.size]? = some (.cells #[.int .i64 x.a, .int .i64 x.b, .int .i64 x.c, .int .i64 x.d, .int .i64 x.e, .int .i64 x.f, .int .i64 x.g] 32) := by rw [← ewq]; exact heap_alloc_new wr _
      have zq : wq.heap.size = wr.heap.size + 1 := by rw [← ewq, World.size_alloc]
      have tq : Touch (fun _ => False) wr wq := by rw [← ewq]; exact (Touch.refl _ wr).alloc _
      rw [ewq]
      clear ewq x0 x1 x2 x3 x4 x5 x6
      have y0 := cell_of_row wq wr.heap.size 0 _ _ _ bq
      have y1 := cell_of_row wq wr.heap.size 1 _ _ _ bq
      have y2 := cell_of_row wq wr.heap.size 2 _ _ _ bq
      have y3 := cell_of_row wq wr.heap.size 3 _ _ _ bq
      have y4 := cell_of_row wq wr.heap.size 4 _ _ _ bq
      have y5 := cell_of_row wq wr.heap.size 5 _ _ _ bq
      have y6 := cell_of_row wq wr.heap.size 6 _ _ _ bq
      simp only [List.getElem?_toArray, List.getElem?_cons_zero, List.getElem?_cons_succ] at y0 y1 y2 y3 y4 y5 y6
      have HRq := Lib.hid (hR.out.keep tq)
      have mq := HRq.out.b5.cell
      have Hzq := Lib.hid zq
      have Htq := Lib.hid tq
      have hzq : wr.heap.size + 1 ≤ wq.heap.size := by omega
      have Hne := Lib.hid (show some wr.heap.size ≠ v5.ownBlock from fun e => by have := own_lt hR.out.r5 e.symm; omega)
      have Hbq := Lib.hid bq
      clear zq tq
      go_region_law (first | (refine step_call_to (by rfl) 13 #[.agg x.arr] (by kernel_rfl) (.agg x.arr) _ (of_any x _) ?_; intro w3 hb3; have t3 : Touch (fun _ => False) wq w3 := (by first | exact Touch.of_new hb3 | exact ((Touch.refl _ wq).drew).trans (Touch.of_new hb3) | exact ((Touch.refl _ wq).drew.drew).trans (Touch.of_new hb3)); have z3 : wq.heap.size ≤ w3.heap.size := t3.size; have R3 := HRq.out.keep t3; have t4 : Touch (fun _ => False) w3 (w3.alloc (.cells #[.int .i64 x.a, .int .i64 x.b, .int .i64 x.c, .int .i64 x.d, .int .i64 x.e, .int .i64 x.f, .int .i64 x.g] 33)) := (Touch.refl _ w3).alloc _; have R4 := R3.keep t4; have m3 := R3.b5.cell; have m4 := R4.b5.cell; have HR4 := Lib.hid R4; have T34 := Lib.hid (t3.trans t4); unfold EvV.arr; clear R3 R4 t3 t4 hb3) | (refine step_append_lies _ (by rfl) _ _ _ (by rfl) (s + 2) 33 i0 _ 7 56 Tryd.underlying29 hi hz0 hz1' hz2 rfl (by omega) v5 _ _ (by rfl) HR4.out.r5 ⟨w3.heap.size, 0, none⟩ 1 1 x.cs (by rfl) (by rfl) (World.news_of_block (cs := #[.int .i64 x.a, .int .i64 x.b, .int .i64 x.c, .int .i64 x.d, .int .i64 x.e, .int .i64 x.f, .int .i64 x.g]) (t := 33) (fr := (0, 0)) (heap_alloc_new w3 _)) (by simp [Value.oneCell', EvV.cs]) (by omega) (by rw [hLt.out]; unfold maxLen; omega) (by rw [hLt.out]; omega) (by show s + 2 ≤ (w3.alloc _).heap.size; rw [World.size_alloc]; omega) (w3.heap.size + 1) (by simp) ?_; intro gg cap' w4 hown1 hgrow hat hglt; have hp := ev_app HR4.out hgrow hown1; have k1 := hp.1; have k2 := hp.2.1; have HP := Lib.hid hp.2.2; clear hp hown1 hgrow hat hglt))
      all_goals
        obtain ⟨hTR, hTT, hbk⟩ := HP.out
        rw [hLt.out] at hTR hTT hbk
        have z34 := T34.out.size
        have b8 := (hbk wr.heap.size (by show wr.heap.size < (w3.alloc _).heap.size; rw [World.size_alloc]; omega) (by omega) Hne.out).trans ((T34.out.block wr.heap.size (by omega) (fun h => h)).trans Hbq.out)
        have HTR := Lib.hid hTR
        have HTT := Lib.hid (((hT.out.trans (Htq.out.mono (fun _ _ h => h.elim))).trans (T34.out.mono (fun _ _ h => h.elim))).trans hTT)
        have hzz := hTT.size
        rw [World.size_alloc] at hzz
        clear hTR hTT hbk HP T34 HR4 y0 y1 y2 y3 y4 y5 y6 k1 k2 m3 m4
        obtain ⟨w5, ew5⟩ : ∃ w5, w4.setCell ⟨s, 0, none⟩ (.slice (some ⟨gg, 0, none⟩) (j + 1) cap') = w5 := ⟨_, rfl⟩
        rw [ew5] at b8 HTR HTT hzz ⊢
        clear ew5
        have y0 := cell_of_row w5 wr.heap.size 0 _ _ _ b8
        have y1 := cell_of_row w5 wr.heap.size 1 _ _ _ b8
        have y2 := cell_of_row w5 wr.heap.size 2 _ _ _ b8
        have y3 := cell_of_row w5 wr.heap.size 3 _ _ _ b8
        have y4 := cell_of_row w5 wr.heap.size 4 _ _ _ b8
        have y5 := cell_of_row w5 wr.heap.size 5 _ _ _ b8
        have y6 := cell_of_row w5 wr.heap.size 6 _ _ _ b8
        simp only [List.getElem?_toArray, List.getElem?_cons_zero, List.getElem?_cons_succ] at y0 y1 y2 y3 y4 y5 y6
        have hs := Lib.hid (RStill_any x w5)
        unfold EvV.arr at hs
        clear b8
        cases hstill : x.isStill
        · rw [hstill] at hs hMv
          clear hstill
          go_wp2_with fail
          refine hs.out.mono ?_; rintro e w6 ⟨rfl, hb6⟩; dsimp only
          have R6 := HTR.out.keep (Touch.of_new hb6)
          have HR6 := Lib.hid R6
          have hz6 := hb6.size
          have m6 := R6.b6.cell
          have T6 := Lib.hid (HTT.out.trans (Touch.of_new hb6))
          have tt6 := Lib.hid ((Touch.refl (fun _ => False) w6).alloc (.cells #[.int .i64 j] 3))
          have hLm := Lib.hid (mvs_len l j)
          clear R6 hb6
          go_wp2_with (at_builtin; refine wpList_append_own_at _ rfl _ _ 30 rfl (s + 2) 3 i1 (.int .i64 0) 1 8 Tryd.underlying30 hi1 iz0 iz1 iz2 rfl (by decide) v6 _ _ rfl (HR6.out.r6.alloc _) ⟨w6.heap.size, 0, none⟩ 1 1 [.int .i64 j] rfl rfl (cell_one_new _ _ _) (by simp [Value.oneCell']) (by have := hLm.out; unfold maxLen; omega) (by have := hLm.out; omega) (by rw [World.size_alloc]; omega) ?_; intro v' w7 hown' hgrow hnil hat; obtain ⟨g7, c7, rfl⟩ := row_slice hown' (by omega); have hp := pl_app (HR6.out.keep tt6.out) hgrow hown'; have k1 := hp.1; have k2 := hp.2.1; have HP7 := Lib.hid hp.2.2; clear hp hown' hgrow hnil hat)
          obtain ⟨hTR7, hTT7⟩ := HP7.out
          have hT8 := Lib.hid ((T6.out.trans (tt6.out.mono (fun _ _ h => h.elim))).trans hTT7)
          have hz7 := hTT7.size
          rw [World.size_alloc] at hz7
          have HTR7 := Lib.hid hTR7
          clear hTR7 hTT7 HP7
          refine ⟨⟨j + 1, by omega, by go_num, _, _, Lib.hid (by rw [hTk.out, hMv.out]; exact HTR7.out), hT8, by omega⟩, ?_⟩
          simp [intOf]; omega
        · rw [hstill] at hs hMv
          clear hstill
          go_wp2_with fail
          refine hs.out.mono ?_; rintro e w6 ⟨rfl, hb6⟩; dsimp only
          have HR6 := Lib.hid (HTR.out.keep (Touch.of_new hb6))
          have hz6 := hb6.size
          have T6 := Lib.hid (HTT.out.trans (Touch.of_new hb6))
          clear hb6
          go_wp2_with fail
          refine ⟨⟨j + 1, by omega, by go_num, _, _, Lib.hid (by rw [hTk.out, hMv.out]; simpa using HR6.out), T6, by omega⟩, ?_⟩
          simp [intOf]; omega
    · have Hj := Lib.hid (show j = l.length by omega)
      have hend : l.length ≤ j := by omega
      obtain ⟨hTR, hLb⟩ : TwoRows wr s v5 v6 l (mvs l l.length) ∧ (mvs l l.length).length ≤ 100 := by
        have k := hR.out
        rw [Hj.out, List.take_length] at k
        exact ⟨k, by have := mvs_len l l.length; omega⟩
      obtain ⟨A5, cap5, rfl, c50, c5m, hcell5⟩ := ownsE_form hTR.r5
      obtain ⟨A6, cap6, rfl, c60, c6m, hcell6⟩ := ownsP_form hTR.r6
      have c5m' := c5m
      unfold maxLen at c5m c6m
      have HLE := Lib.hid EvC
      clear hlt EvC hR
      have m3 := (hTR.keep ((Touch.refl (fun _ => False) wr).alloc (.cells #[.int .i64 0] 3))).b5.cell
      have hnf := Tryd.neq_nilFunc
      go_wp2_with fail
      refine (Moves_any A5 l.length cap5 _).mono ?_; rintro e w' ⟨rfl, rfl⟩; dsimp only
      go_wp2_with fail
      rw [World.size_alloc]
      obtain ⟨N, eN⟩ : ∃ n, wr.heap.size = n := ⟨_, rfl⟩
      obtain ⟨W4, e4, hz4, nb, pb, t4⟩ := alloc2 wr (.cells #[.int .i64 0] 3) (.cells #[.slice A5 l.length cap5] 29)
      rw [e4]
      rw [eN] at nb pb hz4 hsz ⊢
      clear e4 m3
      have R4 := Lib.hid (hTR.keep t4)
      have hTw := Lib.hid (((((HB1.out : Below w.heap.size w w1) |> Touch.of_below).trans (T0.mono (Y := fun k => w.heap.size ≤ k) (fun _ _ h => h.elim))).trans (hT.out.mono (Y := fun k => w.heap.size ≤ k) (fun k _ hk => by have e : s ≤ k := hk; omega))).trans (t4.mono (Y := fun k => w.heap.size ≤ k) (fun _ _ h => h.elim)))
      have sb : Boxed W4 w.heap.size 5 (.int .u8 stop) := (t4.block w.heap.size (by omega) (fun h => h)).trans ((hT.out.block w.heap.size (by omega) (by omega)).trans ((T0.block w.heap.size (by omega) (fun h => h)).trans d0))
      have rb : Boxed W4 (w.heap.size + 1) 4 (.bool false) := (t4.block (w.heap.size + 1) (by omega) (fun h => h)).trans ((hT.out.block (w.heap.size + 1) (by omega) (by omega)).trans ((T0.block (w.heap.size + 1) (by omega) (fun h => h)).trans d1))
      have hrow4 : EvRow W4 (N + 2) (fun k => k = N) A5 l := fun hne => by
        obtain ⟨g, e, he, hg1, hg2, hev⟩ := hcell5 0 (by cases l with | nil => exact absurd rfl hne | cons => simp)
        refine ⟨g, 0, e, by omega, by omega, fun j' hj' => ?_⟩
        obtain ⟨g', e', _, _, _, hev'⟩ := hcell5 j' hj'
        obtain rfl : g' = g := by rw [e] at e'; cases e'; rfl
        exact hev'.keep (t4.block g' (by omega) (fun h => h))
      have hP : ∀ x ∈ mvs l l.length, x < l.length := fun x hx => mvs_mem l l.length x hx
      have hSp : ∀ j', j' < l.length → mvs l (j' + 1) <+: mvs l l.length := fun j' hj' => by
        have := mvs_prefix l (l.length - (j' + 1)) (j' + 1)
        rwa [show j' + 1 + (l.length - (j' + 1)) = l.length by omega] at this
      have hst := moves_stops (N + 1) (N + 2) (fun k => k = N) A5 cap5 l c50 c5m' W4 (by omega) (by omega) (by omega) (Boxed.cell pb) hrow4
      clear hrow4 hTR T0 d0 d1
      obtain ⟨P, eP⟩ : ∃ P, mvs l l.length = P := ⟨_, rfl⟩
      rw [eP] at R4 c60 hLb hcell6 hP hSp hst
      have hI0 : StE P stop N W4 [] W4 := ⟨by simp, by simpa using hst0, nb, Touch.refl _ _⟩
      refine wp_rangeH (w := W4) (Kp := KeepS (N + 2) (fun k => k = N)) (encs := encE l) (fun h k => KeepS.trans h k) (KeepS.put (w := W4) (n₀ := N + 2) (X := fun k => k = N) (by omega)) (gf := 41) rfl (enters_of Tryd.func41 (by kernel_rfl) rfl)
        hst (Below.refl _ _) (fun _ => rfl) (StE P stop N W4) (fun cd pre W => (cd = .exit 2 ∧ ∃ ini x, pre = ini ++ [x] ∧ stop ≤ ini.length ∧ StE P stop N W4 ini W) ∨ ¬ pre <+: P)
        ?hI ?hIx hI0 (fun x a' W => ∃ B, N + 2 ≤ B ∧ a' = (?F : Nat → Nat → Act) x B ∧ W.heap[B]? = some (.cells (evAt l x).arr 33)) ?hAx ?assign ?body ?done ?stop
      case assign =>
        intro l' pre x W K hI hK
        have hWz := hI.2.2.2.size
        have Hk := Lib.hid hK
        clear hK
        unfold encE EvV.arr
        gi_wp2_with fail
        refine Hk.out _ _ ((KeepsOthers.alloc _ _).from _) ⟨by simp, KeepX.alloc (KeepX.refl _) (by omega) _⟩ ⟨hI.1, hI.2.1, hI.2.2.1.alloc _, hI.2.2.2.alloc _⟩ ⟨W.heap.size, by omega, ?_, heap_alloc_new W _⟩
        obtain ⟨B, eB⟩ : ∃ B, W.heap.size = B := ⟨_, rfl⟩
        rw [eB]
      case hAx =>
        rintro x a' u C C' row ⟨B, h1, h2, h3⟩ hg hr
        exact ⟨B, h1, h2, (hg.block B (lt_of_heap h3) (fun e => by obtain ⟨_, o, ho, hoc⟩ := hr _ e.symm; rw [h3] at ho; cases ho; simp [Obj.isCells] at hoc)).trans h3⟩
      case hI => exact StE.own (by omega)
      case hIx =>
        intro cd pre W W' row h hg hr
        rcases h with ⟨h1, ini, x, h2, h3, h4⟩ | h
        · exact .inl ⟨h1, ini, x, h2, h3, StE.own (by omega) ini W W' row h4 hg hr⟩
        · exact .inr h
      case body =>
        rintro l' pre x a' W ⟨hpre, hle, nbW, htW⟩ ⟨B, hB, rfl, hBx⟩ hlenN
        have n0 := nbW.cell
        have n1 := nbW.frozen
        have u0 := (htW.cell (p := ⟨w.heap.size, 0, none⟩) (by show w.heap.size < W4.heap.size; omega) (by show ¬ w.heap.size = N; omega)).trans sb.cell
        have rb' : Boxed W (w.heap.size + 1) 4 (.bool false) := (htW.block (w.heap.size + 1) (by omega) (by show ¬ w.heap.size + 1 = N; omega)).trans rb
        have r0 := rb'.cell
        have r1 := rb'.frozen
        have x5 := (htW.cell (p := ⟨s, 0, none⟩) (by show s < W4.heap.size; omega) (by show ¬ s = N; omega)).trans R4.out.b5.cell
        have x6 := (htW.cell (p := ⟨s + 1, 0, none⟩) (by show s + 1 < W4.heap.size; omega) (by show ¬ s + 1 = N; omega)).trans R4.out.b6.cell
        have n0' : ∀ k, (W.drewN k).cell? ⟨N, 0, none⟩ = some (.int .i64 pre.length) := fun _ => n0
        have n1' : ∀ k, (W.drewN k).frozen? ⟨N, 0, none⟩ = false := fun _ => n1
        have r0' : ∀ k, (W.drewN k).cell? ⟨w.heap.size + 1, 0, none⟩ = some (.bool false) := fun _ => r0
        have r1' : ∀ k, (W.drewN k).frozen? ⟨w.heap.size + 1, 0, none⟩ = false := fun _ => r1
        have x5' : ∀ k, (W.drewN k).cell? ⟨s, 0, none⟩ = some (.slice A5 l.length cap5) := fun _ => x5
        have x6' : ∀ k, (W.drewN k).cell? ⟨s + 1, 0, none⟩ = some (.slice A6 P.length cap6) := fun _ => x6
        have HtW := Lib.hid htW
        have HI := Lib.hid (show StE P stop N W4 pre W from ⟨hpre, hle, nbW, htW⟩)
        by_cases hst : stop ≤ (pre.length : Int)
        · clear hpre nbW htW hBx hcell5 hcell6
          gi_wp2_with fail
          exact ⟨KeepsFrom.refl _ _, .inl ⟨rfl, pre, x, rfl, by first | exact hst | assumption, HI.out⟩⟩
        · have hst' : (pre.length : Int) < stop := by omega
          by_cases hge : P.length ≤ pre.length
          · have HN := Lib.hid (show ¬ pre ++ [x] <+: P from fun h => by obtain ⟨hl, _⟩ := prefix_at h; omega)
            have hge' : (P.length : Int) ≤ (pre.length : Int) := by omega
            have dg : decide ((P.length : Int) ≤ (pre.length : Int)) = true := decide_eq_true hge'
            clear hpre nbW htW hst hBx hcell5 hcell6
            gi_wp2_with fail
            refine region_round_quiet (l0 := l') rfl (by kernel_rfl) (by kernel_rfl) (by kernel_rfl) ?_
            repeat (gi_big_quiet_step (fail))
            refine wpQuietIn_nil ?_
            intro _ hw'
            obtain ⟨nq, hw''⟩ := hw'
            subst hw''
            gi_wp2_with fail
            have k := keepsFrom_set W4.heap.size (W.drewN nq) (p := ⟨w.heap.size + 1, 0, none⟩) (by show w.heap.size + 1 < _; omega) (.bool false)
            exact ⟨⟨k.1, k.2⟩, .inr HN.out⟩
          · have hlt : pre.length < P.length := by omega
            obtain ⟨g, rfl, hob, hbg, hgl, q0⟩ := hcell6 pre.length hlt
            have y9 := (htW.cell (p := ⟨g, pre.length, none⟩) (by show g < W4.heap.size; omega) (by show ¬ g = N; omega)).trans ((t4.cell (p := ⟨g, pre.length, none⟩) (by show g < wr.heap.size; omega) (fun h => h)).trans q0)
            have hgt : ¬ (P.length : Int) ≤ (pre.length : Int) := by omega
            have hi0 : (0 : Int) ≤ (pre.length : Int) := Int.natCast_nonneg _
            have hi1 : (pre.length : Int) < (P.length : Int) := by omega
            have hat : P[pre.length]?.getD 0 = P[pre.length] := by rw [List.getElem?_eq_getElem hlt]; rfl
            rw [hat] at y9
            have dg : decide ((P.length : Int) ≤ (pre.length : Int)) = false := decide_eq_false hgt
            by_cases hx : x = P[pre.length]
            · have HN := Lib.hid (prefix_not hpre (x := x) hlt hx.symm)
              have HB := Lib.hid (nbW.set (.int .i64 ((pre.length : Int) + 1)))
              have HT := Lib.hid (htW.setCell (p := ⟨N, 0, none⟩) (.inl rfl) (.int .i64 ((pre.length : Int) + 1)))
              have HKp := Lib.hid (show KeepS (N + 2) (fun k => k = N) W (W.setCell ⟨N, 0, none⟩ (.int .i64 ((pre.length : Int) + 1))) from ⟨by simp, KeepX.setCell (X := fun k => k = N) (p := ⟨N, 0, none⟩) (KeepX.refl _) (.inl rfl) _⟩)
              have Hst := Lib.hid hst'
              have hxl := hP x (by rw [hx]; exact List.getElem_mem hlt)
              obtain ⟨g5, rfl, hob5, hbg5, hgl5, ev5⟩ := hcell5 x hxl
              have ev := ev5.keep ((htW.block g5 (by omega) (by omega)).trans (t4.block g5 (by omega) (fun h => h)))
              rw [← hx] at y9
              have y9' : ∀ k, (W.drewN k).cell? ⟨g, pre.length, none⟩ = some (.int .i64 (x : Nat)) := fun _ => y9
              have hxl' : (x : Int) < (l.length : Int) := by omega
              have hx0 : (0 : Int) ≤ (x : Int) := Int.natCast_nonneg _
              clear hpre nbW htW hst q0 hat HI hx ev5 hcell5 hcell6 hP
              generalize evAt l x = ex at *
              obtain ⟨z0, z1, z2, z3, z4, z5, z6⟩ := ev
              simp only [Nat.zero_add] at z0 z1 z2 z3 z4 z5 z6
              unfold EvV.arr at hBx
              have y0 := cell_of_row W B 0 _ _ _ hBx
              have y1 := cell_of_row W B 1 _ _ _ hBx
              have y2 := cell_of_row W B 2 _ _ _ hBx
              have y3 := cell_of_row W B 3 _ _ _ hBx
              have y4 := cell_of_row W B 4 _ _ _ hBx
              have y5 := cell_of_row W B 5 _ _ _ hBx
              have y6 := cell_of_row W B 6 _ _ _ hBx
              simp only [List.getElem?_toArray, List.getElem?_cons_zero, List.getElem?_cons_succ] at y0 y1 y2 y3 y4 y5 y6
              have z0' : ∀ k, (W.drewN k).cell? _ = _ := fun _ => z0
              have z1' : ∀ k, (W.drewN k).cell? _ = _ := fun _ => z1
              have z2' : ∀ k, (W.drewN k).cell? _ = _ := fun _ => z2
              have z3' : ∀ k, (W.drewN k).cell? _ = _ := fun _ => z3
              have z4' : ∀ k, (W.drewN k).cell? _ = _ := fun _ => z4
              have z5' : ∀ k, (W.drewN k).cell? _ = _ := fun _ => z5
              have z6' : ∀ k, (W.drewN k).cell? _ = _ := fun _ => z6
              have y0' : ∀ k, (W.drewN k).cell? _ = _ := fun _ => y0
              have y1' : ∀ k, (W.drewN k).cell? _ = _ := fun _ => y1
              have y2' : ∀ k, (W.drewN k).cell? _ = _ := fun _ => y2
              have y3' : ∀ k, (W.drewN k).cell? _ = _ := fun _ => y3
              have y4' : ∀ k, (W.drewN k).cell? _ = _ := fun _ => y4
              have y5' : ∀ k, (W.drewN k).cell? _ = _ := fun _ => y5
              have y6' : ∀ k, (W.drewN k).cell? _ = _ := fun _ => y6
              clear hBx
              gi_wp2_with fail
              refine region_round_quiet (l0 := l') rfl (by kernel_rfl) (by kernel_rfl) (by kernel_rfl) ?_
              repeat (gi_big_quiet_step (fail))
              refine wpQuietIn_nil ?_
              intro _ hw'
              obtain ⟨nq, hw''⟩ := hw'
              subst hw''
              gi_wp2_with fail
              have k := keepsFrom_set W4.heap.size (W.drewN nq) (p := ⟨N, 0, none⟩) (by show N < _; omega) (.int .i64 ((pre.length : Int) + 1))
              refine ⟨⟨k.1, k.2⟩, HKp.out, HN.out, ?_, ?_, (HtW.out.drewN nq).setCell (p := ⟨N, 0, none⟩) (.inl rfl) _⟩
              · rw [List.length_append, List.length_singleton]; have := Hst.out; omega
              · rw [List.length_append, List.length_singleton]; exact HB.out
            · have HN := Lib.hid (show ¬ pre ++ [x] <+: P from fun h => by obtain ⟨hl, he⟩ := prefix_at h; exact hx he.symm)
              have g1 : ((x : Int) == ((P[pre.length] : Nat) : Int)) = false := by simp; omega
              have g2 : (x == P[pre.length]) = false := by simpa using hx
              have g3 : decide (x = P[pre.length]) = false := by simpa using hx
              have g4 : ¬ x = P[pre.length] := hx
              have g5 : ((x : Int) != ((P[pre.length] : Nat) : Int)) = true := bne_iff_ne.2 (by omega)
              have g6 : (x != P[pre.length]) = true := by simpa using hx
              have g7 : ¬ (x : Int) = ((P[pre.length] : Nat) : Int) := by omega
              have g8 : decide ((x : Int) = ((P[pre.length] : Nat) : Int)) = false := decide_eq_false g7
              clear hpre nbW htW hst hx q0 hBx hat hcell5 hcell6
              generalize P[pre.length] = px at *
              have y9' : ∀ k, (W.drewN k).cell? ⟨g, pre.length, none⟩ = some (.int .i64 (px : Nat)) := fun _ => y9
              gi_wp2_with fail
              refine region_round_quiet (l0 := l') rfl (by kernel_rfl) (by kernel_rfl) (by kernel_rfl) ?_
              repeat (gi_big_quiet_step (fail))
              refine wpQuietIn_nil ?_
              intro _ hw'
              obtain ⟨nq, hw''⟩ := hw'
              subst hw''
              gi_wp2_with fail
              have k := keepsFrom_set W4.heap.size (W.drewN nq) (p := ⟨w.heap.size + 1, 0, none⟩) (by show w.heap.size + 1 < _; omega) (.bool false)
              exact ⟨⟨k.1, k.2⟩, .inr HN.out⟩
      case done =>
        rintro D xs W hD rfl ⟨hpre, hle, nbW, htW⟩ hK
        have hmn : min stop (xs.length : Int) = (xs.length : Int) := by omega
        rcases Int.lt_or_le (xs.length : Int) stop with hcs | hcs
        all_goals
          have hzW := htW.size
          have u0 := (htW.cell (p := ⟨w.heap.size, 0, none⟩) (by show w.heap.size < W4.heap.size; omega) (by show ¬ w.heap.size = N; omega)).trans sb.cell
          have rb' : Boxed W (w.heap.size + 1) 4 (.bool false) := (htW.block (w.heap.size + 1) (by omega) (by show ¬ w.heap.size + 1 = N; omega)).trans rb
          have n0 := nbW.cell
          have x5 := (htW.cell (p := ⟨s, 0, none⟩) (by show s < W4.heap.size; omega) (by show ¬ s = N; omega)).trans R4.out.b5.cell
          have x6 := (htW.cell (p := ⟨s + 1, 0, none⟩) (by show s + 1 < W4.heap.size; omega) (by show ¬ s + 1 = N; omega)).trans R4.out.b6.cell
          have hrW : EvRow W W.heap.size (fun _ => False) A5 l := fun hne => by
            obtain ⟨g, e, he, hg1, hg2, hev⟩ := hcell5 0 (by cases l with | nil => exact absurd rfl hne | cons => simp)
            refine ⟨g, 0, e, by omega, fun h => h, fun j' hj' => ?_⟩
            obtain ⟨g', e', _, _, _, hev'⟩ := hcell5 j' hj'
            obtain rfl : g' = g := by rw [e] at e'; cases e'; rfl
            exact hev'.keep ((htW.block g' (by omega) (by omega)).trans (t4.block g' (by omega) (fun h => h)))
          have hlW : EventsAt W W.heap.size (.slice A l.length cap) l := ⟨A, cap, rfl, hc1, hc2, fun hne => by
            obtain ⟨b, off, e, hb, hx⟩ := HLE.out 0 (by cases l with | nil => exact absurd rfl hne | cons => simp)
            refine ⟨b, off, e, by omega, fun j' hj' => ?_⟩
            obtain ⟨b', off', e', hb', hx'⟩ := HLE.out j' hj'
            obtain ⟨rfl, rfl⟩ : b' = b ∧ off' = off := by rw [e] at e'; cases e'; exact ⟨rfl, rfl⟩
            exact hx'.keep ((htW.block b' (by omega) (by omega)).trans ((t4.block b' (by omega) (fun h => h)).trans (hT.out.block b' (by omega) (by omega))))⟩
          have C1 := Lib.hid (TStill_any A5 cap5 l W c50 c5m' hlen' hrW)
          have C2 := Lib.hid (fun (W' : World) (hb : Below W.heap.size W W') => Longest_any (.slice A l.length cap) l W.heap.size W' (by
            obtain ⟨A', cap', e, h1, h2, h3⟩ := hlW
            exact ⟨A', cap', e, h1, h2, fun hne => by obtain ⟨b, off, e, hb', hx⟩ := h3 hne; exact ⟨b, off, e, hb', fun j' hj' => (hx j' hj').keep (hb.block b hb')⟩⟩) hb.size hlen')
          have HRB := Lib.hid rb'
          have HT := Lib.hid htW
          clear rb' hpre htW hrW hlW hcell5 hcell6
          go_wp2_with fail
          refine C1.out.mono ?_; rintro e w5 ⟨rfl, hb5⟩; dsimp only
          have HB5 := Lib.hid hb5
          clear hb5
          go_wp2_with fail
          refine (C2.out w5 HB5.out).mono ?_; rintro e w6 ⟨rfl, hb6⟩; dsimp only
          have HB6 := Lib.hid (HB5.out.trans (hb6.mono HB5.out.size))
          have rb6 : Boxed w6 (w.heap.size + 1) 4 (.bool false) := (HB6.out.block (w.heap.size + 1) (by omega)).trans HRB.out
          have r0 := rb6.cell
          have r1 := rb6.frozen
          have RT := Lib.hid (rb6.set (.bool true))
          clear rb6 hb6
          go_wp2_with fail
          have hKr : (w6.setCell ⟨w.heap.size + 1, 0, none⟩ (.bool true)).heap[D]? = some (.deferred (some [])) := (Below.heap_setCell w6 ⟨w.heap.size + 1, 0, none⟩ _ D (by show ¬ D = w.heap.size + 1; omega)).trans ((HB6.out.block D (lt_of_heap hK)).trans hK)
          have hRb : Boxed ((w6.setCell ⟨w.heap.size + 1, 0, none⟩ (.bool true)).putObj D (.deferred none)) (w.heap.size + 1) 4 (.bool true) := (World.putObj_heap_other (by omega)).trans RT.out
          refine post_mark rfl hKr (results_c1 rfl _ _ _ _ _ rfl hRb.cell Tryd.underlying4 rfl) ⟨rfl, ?_⟩
          have hTd : Touch (fun k => w.heap.size ≤ k) (w6.setCell ⟨w.heap.size + 1, 0, none⟩ (.bool true)) ((w6.setCell ⟨w.heap.size + 1, 0, none⟩ (.bool true)).putObj D (.deferred none)) := ⟨rfl, rfl, rfl, by simp, fun k _ hx => World.putObj_heap_other (fun e => hx (by omega))⟩
          have hTr := (hTw.out.trans (HT.out.mono (Y := fun k => w.heap.size ≤ k) (fun k _ hk => by have e : k = N := hk; omega))).trans (((Touch.of_new (X := fun k => w.heap.size ≤ k) HB6.out)).setCell (p := ⟨w.heap.size + 1, 0, none⟩) (.inl (by show w.heap.size ≤ w.heap.size + 1; omega)) (.bool true))
          exact (hTr.trans hTd).below (Nat.le_refl _) (fun _ h => h)
      case stop =>
        rintro D cd pre W hD ⟨jj, hjj, _, hpe⟩ hIx hK
        have hpy : pre <+: P := by rw [hpe]; exact hSp jj hjj
        rcases hIx with ⟨rfl, ini, x, rfl, hst, hpre, hle, nbW, htW⟩ | hno
        · obtain ⟨hlx, _⟩ := prefix_at hpy
          have hmn : min stop (P.length : Int) = (ini.length : Int) := by omega
          have hzW := htW.size
          have u0 := (htW.cell (p := ⟨w.heap.size, 0, none⟩) (by show w.heap.size < W4.heap.size; omega) (by show ¬ w.heap.size = N; omega)).trans sb.cell
          have rb' : Boxed W (w.heap.size + 1) 4 (.bool false) := (htW.block (w.heap.size + 1) (by omega) (by show ¬ w.heap.size + 1 = N; omega)).trans rb
          have n0 := nbW.cell
          have x5 := (htW.cell (p := ⟨s, 0, none⟩) (by show s < W4.heap.size; omega) (by show ¬ s = N; omega)).trans R4.out.b5.cell
          have x6 := (htW.cell (p := ⟨s + 1, 0, none⟩) (by show s + 1 < W4.heap.size; omega) (by show ¬ s + 1 = N; omega)).trans R4.out.b6.cell
          have hrW : EvRow W W.heap.size (fun _ => False) A5 l := fun hne => by
            obtain ⟨g, e, he, hg1, hg2, hev⟩ := hcell5 0 (by cases l with | nil => exact absurd rfl hne | cons => simp)
            refine ⟨g, 0, e, by omega, fun h => h, fun j' hj' => ?_⟩
            obtain ⟨g', e', _, _, _, hev'⟩ := hcell5 j' hj'
            obtain rfl : g' = g := by rw [e] at e'; cases e'; rfl
            exact hev'.keep ((htW.block g' (by omega) (by omega)).trans (t4.block g' (by omega) (fun h => h)))
          have hlW : EventsAt W W.heap.size (.slice A l.length cap) l := ⟨A, cap, rfl, hc1, hc2, fun hne => by
            obtain ⟨b, off, e, hb, hx⟩ := HLE.out 0 (by cases l with | nil => exact absurd rfl hne | cons => simp)
            refine ⟨b, off, e, by omega, fun j' hj' => ?_⟩
            obtain ⟨b', off', e', hb', hx'⟩ := HLE.out j' hj'
            obtain ⟨rfl, rfl⟩ : b' = b ∧ off' = off := by rw [e] at e'; cases e'; exact ⟨rfl, rfl⟩
            exact hx'.keep ((htW.block b' (by omega) (by omega)).trans ((t4.block b' (by omega) (fun h => h)).trans (hT.out.block b' (by omega) (by omega))))⟩
          have C1 := Lib.hid (TStill_any A5 cap5 l W c50 c5m' hlen' hrW)
          have C2 := Lib.hid (fun (W' : World) (hb : Below W.heap.size W W') => Longest_any (.slice A l.length cap) l W.heap.size W' (by
            obtain ⟨A', cap', e, h1, h2, h3⟩ := hlW
            exact ⟨A', cap', e, h1, h2, fun hne => by obtain ⟨b, off, e, hb', hx⟩ := h3 hne; exact ⟨b, off, e, hb', fun j' hj' => (hx j' hj').keep (hb.block b hb')⟩⟩) hb.size hlen')
          have HRB := Lib.hid rb'
          have HT := Lib.hid htW
          clear rb' htW hrW hlW hcell5 hcell6
          go_wp2_with fail
          refine C1.out.mono ?_; rintro e w5 ⟨rfl, hb5⟩; dsimp only
          have HB5 := Lib.hid hb5
          clear hb5
          go_wp2_with fail
          refine (C2.out w5 HB5.out).mono ?_; rintro e w6 ⟨rfl, hb6⟩; dsimp only
          have HB6 := Lib.hid (HB5.out.trans (hb6.mono HB5.out.size))
          have rb6 : Boxed w6 (w.heap.size + 1) 4 (.bool false) := (HB6.out.block (w.heap.size + 1) (by omega)).trans HRB.out
          have r0 := rb6.cell
          have r1 := rb6.frozen
          have RT := Lib.hid (rb6.set (.bool true))
          clear rb6 hb6
          go_wp2_with fail
          have hKr : (w6.setCell ⟨w.heap.size + 1, 0, none⟩ (.bool true)).heap[D]? = some (.deferred (some [])) := (Below.heap_setCell w6 ⟨w.heap.size + 1, 0, none⟩ _ D (by show ¬ D = w.heap.size + 1; omega)).trans ((HB6.out.block D (lt_of_heap hK)).trans hK)
          have hRb : Boxed ((w6.setCell ⟨w.heap.size + 1, 0, none⟩ (.bool true)).putObj D (.deferred none)) (w.heap.size + 1) 4 (.bool true) := (World.putObj_heap_other (by omega)).trans RT.out
          refine post_mark rfl hKr (results_c1 rfl _ _ _ _ _ rfl hRb.cell Tryd.underlying4 rfl) ⟨rfl, ?_⟩
          have hTd : Touch (fun k => w.heap.size ≤ k) (w6.setCell ⟨w.heap.size + 1, 0, none⟩ (.bool true)) ((w6.setCell ⟨w.heap.size + 1, 0, none⟩ (.bool true)).putObj D (.deferred none)) := ⟨rfl, rfl, rfl, by simp, fun k _ hx => World.putObj_heap_other (fun e => hx (by omega))⟩
          have hTr := (hTw.out.trans (HT.out.mono (Y := fun k => w.heap.size ≤ k) (fun k _ hk => by have e : k = N := hk; omega))).trans (((Touch.of_new (X := fun k => w.heap.size ≤ k) HB6.out)).setCell (p := ⟨w.heap.size + 1, 0, none⟩) (.inl (by show w.heap.size ≤ w.heap.size + 1; omega)) (.bool true))
          exact (hTr.trans hTd).below (Nat.le_refl _) (fun _ h => h)
        · exact absurd hpy hno

end Go.Proofs.YtplcfijcmihhlaaDoor
