/-
  The walks of the reference of layer 15: a list of timers in memory, two cells a timer; without.
-/
import Derived.Test.YtgnckeidekppjaaTouch
import Derived.Test.YtgnckeidekppjaaOwn
import Derived.Test.YtgnckeidekppjaaProg
import Derived.Test.YtgnckeidekppjaaCommon
import Derived.Deep.RegionHeld3
import Derived.Deep.RegionLaw
import Derived.Deep.DrawnRows
import Derived.Deep.AppendLies
import Derived.Deep.Draws
import Derived.Deep.QuietTactic
import Derived.OwnWalk
import Derived.Maps.OwnSet
import Derived.KernelRfl
import Derived.Laws.Rows
namespace Go.Proofs.Ytgnckeidekppjaa
open Go.RowKit Go.Maps
set_option linter.unusedVariables false
set_option linter.unusedSimpArgs false
attribute [local go_sem ↓] Go.wp_at_zero Go.wp_at_succ

structure Tm where
  id : Int
  due : Int

def encTs (l : List Tm) : List Value := l.flatMap fun t => [.int .i64 t.id, .int .i64 t.due]

theorem encTs_append (l m : List Tm) : encTs (l ++ m) = encTs l ++ encTs m := by simp [encTs]
theorem encTs_at0 : ∀ (l : List Tm) (j : Nat) (h : j < l.length), (encTs l)[j * 2]? = some (.int .i64 l[j].id)
  | t :: l, 0, _ => rfl
  | t :: l, j + 1, h => by
    have := encTs_at0 l j (by simpa using h)
    rw [show (j + 1) * 2 = j * 2 + 1 + 1 by omega]
    simpa [encTs] using this
theorem encTs_at1 : ∀ (l : List Tm) (j : Nat) (h : j < l.length), (encTs l)[j * 2 + 1]? = some (.int .i64 l[j].due)
  | t :: l, 0, _ => rfl
  | t :: l, j + 1, h => by
    have := encTs_at1 l j (by simpa using h)
    rw [show (j + 1) * 2 + 1 = j * 2 + 1 + 1 + 1 by omega]
    simpa [encTs] using this
theorem encTs_one (l : List Tm) : ∀ u ∈ encTs l, u.oneCell' = true := by
  intro u hu
  obtain ⟨t, _, h⟩ := List.mem_flatMap.1 hu
  simp at h
  rcases h with rfl | rfl <;> rfl

abbrev ownsL (W : World) (base : Nat) (s : Value) (l : List Tm) : Prop := W.ownsRow base 61 2 s l.length (encTs l)

/-- A clock of the reference, as a value. -/
def RefV (W : World) (base : Nat) (v : Value) (now : Int) (l : List Tm) : Prop := ∃ s, v = .agg #[.int .i64 now, s] ∧ ownsL W base s l

theorem Try.info_timer : ∃ i, Try.prog.info? 61 = some i ∧ i.zero = some (.agg #[.int .i64 0, .int .i64 0]) ∧ i.size = 2 ∧ i.bytes = 16 := by
  have h : (Try.prog.info? 61).map (fun i => (i.zero, i.size, i.bytes)) = some (some (.agg #[.int .i64 0, .int .i64 0]), 2, 16) := by kernel_rfl
  obtain ⟨i, hi, he⟩ := Option.map_eq_some_iff.1 h
  simp only [Prod.mk.injEq] at he
  exact ⟨i, hi, he.1, he.2.1, he.2.2⟩

/-- What a list in memory looks like: its form and its cells. -/
theorem ownsL_form {W : World} {base : Nat} {s : Value} {l : List Tm} (h : ownsL W base s l) :
    ∃ A cap, s = .slice A l.length cap ∧ l.length ≤ cap ∧ cap ≤ maxLen ∧ (∀ j (hj : j < l.length), ∃ g, A = some ⟨g, 0, none⟩ ∧ s.ownBlock = some g ∧ base ≤ g ∧ g < W.heap.size ∧ W.cell? ⟨g, j * 2, none⟩ = some (.int .i64 l[j].id) ∧ W.cell? ⟨g, j * 2 + 1, none⟩ = some (.int .i64 l[j].due)) := by
  rcases h.2 with ⟨rfl, hz⟩ | ⟨g, cap, cur, rfl, hbase, hgb, r1, r2, r3, r4⟩
  · exact ⟨none, 0, by rw [hz], by omega, by unfold maxLen; omega, fun j hj => by omega⟩
  · refine ⟨some ⟨g, 0, none⟩, cap, rfl, r1, r2, fun j hj => ⟨g, rfl, rfl, hbase, lt_of_heap hgb, ?_, ?_⟩⟩
    · have := h.cells (g := g) rfl (j * 2) _ (encTs_at0 l j hj)
      rw [WideShapes.add_plain, Nat.zero_add] at this
      exact this
    · have := h.cells (g := g) rfl (j * 2 + 1) _ (encTs_at1 l j hj)
      rw [WideShapes.add_plain, Nat.zero_add] at this
      exact this

/-- 'x.L = append(x.L, t)', x a variable in block B. -/
theorem put_kept {W X w1 : World} {B base : Nat} {now : Int} {s : Value} {l : List Tm} (hB : B < base) (hbox : W.heap[B]? = some (.cells #[.int .i64 now, s] 51 (0, 0))) (hrow : ownsL W base s l)
    (hX : Touch (fun _ => False) W X) (hgrow : X.grownBy w1 s.ownBlock) : w1.heap[B]? = some (.cells #[.int .i64 now, s] 51 (0, 0)) := by
  have hBl := lt_of_heap hbox
  have := hX.size
  exact (hgrow.block B (by omega) (own_ge hrow hB)).trans ((hX.block B hBl (fun h => h)).trans hbox)

theorem put_appended {W X w1 : World} {B base g cap : Nat} {now : Int} {s : Value} {l : List Tm} {ti td : Int} (hB : B < base) (hbox : W.heap[B]? = some (.cells #[.int .i64 now, s] 51 (0, 0))) (hrow : ownsL W base s l)
    (hX : Touch (fun _ => False) W X) (hgrow : X.grownBy w1 s.ownBlock) (hown : w1.ownsRow base 61 2 (.slice (some ⟨g, 0, none⟩) (l.length + 1) cap) (l.length + 1) (encTs l ++ [.int .i64 ti, .int .i64 td])) :
    (w1.setCell ⟨B, 1, none⟩ (.slice (some ⟨g, 0, none⟩) (l.length + 1) cap)).heap[B]? = some (.cells #[.int .i64 now, .slice (some ⟨g, 0, none⟩) (l.length + 1) cap] 51 (0, 0)) ∧
    ownsL (w1.setCell ⟨B, 1, none⟩ (.slice (some ⟨g, 0, none⟩) (l.length + 1) cap)) base (.slice (some ⟨g, 0, none⟩) (l.length + 1) cap) (l ++ [⟨ti, td⟩]) ∧
    Touch (fun k => k = B ∨ base ≤ k) W (w1.setCell ⟨B, 1, none⟩ (.slice (some ⟨g, 0, none⟩) (l.length + 1) cap)) := by
  have hb1 := put_kept hB hbox hrow hX hgrow
  have ht : Touch (fun k => k = B ∨ base ≤ k) w1 (w1.setCell ⟨B, 1, none⟩ (.slice (some ⟨g, 0, none⟩) (l.length + 1) cap)) := (Touch.refl _ _).setCell (.inl (.inl rfl)) _
  have hW1 : Touch (fun k => k = B ∨ base ≤ k) X w1 :=
    ⟨hgrow.os, hgrow.tape, hgrow.output, hgrow.size, fun k hk hx => hgrow.block k hk (own_ge hrow (by omega))⟩
  refine ⟨set2_1 _ hb1, ?_, ((hX.mono (fun _ _ h => h.elim)).trans hW1).trans ht⟩
  have ht1 : Touch (fun k => k = B) w1 (w1.setCell ⟨B, 1, none⟩ (.slice (some ⟨g, 0, none⟩) (l.length + 1) cap)) := Touch.setCell (X := fun k => k = B) (Touch.refl _ w1) (p := ⟨B, 1, none⟩) (.inl rfl) _
  have h := own_touchL hown ht1 (fun k hk e => own_ge hown hB (by rw [hk, e]))
  unfold ownsL
  rw [encTs_append, List.length_append]
  exact h

/-- Three variables made: where they lie. -/
theorem alloc3 (w : World) (o1 o2 o3 : Obj) : ∃ W, ((w.alloc o1).alloc o2).alloc o3 = W ∧ W.heap.size = w.heap.size + 3 ∧ W.heap[w.heap.size]? = some o1 ∧ W.heap[w.heap.size + 1]? = some o2 ∧ W.heap[w.heap.size + 1 + 1]? = some o3 ∧ Touch (fun _ => False) w W := by
  refine ⟨_, rfl, by simp, ?_, ?_, ?_, (((Touch.refl _ w).alloc _).alloc _).alloc _⟩
  · rw [Below.heap_alloc _ _ _ (by simp; omega), Below.heap_alloc _ _ _ (by simp), World.alloc_heap_new]
  · have := World.alloc_heap_new (w.alloc o1) o2
    rw [World.size_alloc] at this
    rw [Below.heap_alloc _ _ _ (by simp), this]
  · have := World.alloc_heap_new ((w.alloc o1).alloc o2) o3
    rw [World.size_alloc, World.size_alloc] at this
    exact this

abbrev BoxC (W : World) (B : Nat) (now : Int) (s : Value) : Prop := W.heap[B]? = some (.cells #[.int .i64 now, s] 51 (0, 0))

theorem results_ct {P : Program} {fn : Func} {p u : Tmp} {ty : TypeId} (h : fn.results = #[.cell p ty, .tmp u]) (tmps : Array Value) (w : World) (g : Nat) (t : TypeId) (cs : Array Value) (fr : Nat × Nat) (d : TypeDesc)
    (hp : tmps.getD p undef = .pointer (some ⟨g, 0, none⟩)) (hg : w.heap[g]? = some (.cells cs t fr))
    (hu : P.underlying ty = some d) (hd : (match d with | .struct _ | .array _ _ => true | _ => false) = true) (hi : (P.info? ty).map (·.size) = some cs.size) :
    (results fn tmps).run P w = .ok (.tuple #[.agg cs, tmps.getD u undef]) w := by
  have hp' : tmps[p]?.getD undef = .pointer (some ⟨g, 0, none⟩) := by simpa using hp
  simp [results, h, hp', asAddr, run_loadVar_row w g t ty cs fr d hg hu hd hi]
theorem results_ctt {P : Program} {fn : Func} {p u u2 : Tmp} {ty : TypeId} (h : fn.results = #[.cell p ty, .tmp u, .tmp u2]) (tmps : Array Value) (w : World) (g : Nat) (t : TypeId) (cs : Array Value) (fr : Nat × Nat) (d : TypeDesc)
    (hp : tmps.getD p undef = .pointer (some ⟨g, 0, none⟩)) (hg : w.heap[g]? = some (.cells cs t fr))
    (hu : P.underlying ty = some d) (hd : (match d with | .struct _ | .array _ _ => true | _ => false) = true) (hi : (P.info? ty).map (·.size) = some cs.size) :
    (results fn tmps).run P w = .ok (.tuple #[.agg cs, tmps.getD u undef, tmps.getD u2 undef]) w := by
  have hp' : tmps[p]?.getD undef = .pointer (some ⟨g, 0, none⟩) := by simpa using hp
  simp [results, h, hp', asAddr, run_loadVar_row w g t ty cs fr d hg hu hd hi]
theorem Try.size_clock : (Try.prog.info? 51).map (·.size) = some 2 := by kernel_rfl

set_option maxHeartbeats 1000000 in
set_option maxRecDepth 100000 in
theorem without_any {w : World} {base : Nat} {v : Value} {now : Int} {l : List Tm} (h : RefV w base v now l) (hl : l.length ≤ 1000) (id : Int) :
    Calls Try.prog 48 #[v, .int .i64 id] w fun e w' => ∃ v', e = .returned (.tuple #[v', .bool (l.any fun t => decide (t.id = id))]) ∧
      RefV w' w.heap.size v' now (l.filter fun t => !decide (t.id = id)) ∧ Below w.heap.size w w' := by
  obtain ⟨s, rfl, hrow⟩ := h
  obtain ⟨A, cap, rfl, hc0, hcm, hcell⟩ := ownsL_form hrow
  obtain ⟨i0, hi, hz0, hz1, hz2⟩ := Try.info_timer
  unfold maxLen at hcm
  go_enter Try.func48, Try.ntmps48
  go_wp2_with fail
  obtain ⟨W0, e0, hs0, b0, b1, b2, t0⟩ := alloc3 w (.cells #[.int .i64 now, .slice A l.length cap] 51) (.cells #[.int .i64 0, .slice none 0 0] 51) (.cells #[.int .i64 now, .slice none 0 0] 51)
  rw [e0]
  clear e0
  go_loopw [7, 8] (fun was i wr => ∃ j : Nat, j ≤ l.length ∧ i = .int .i64 j ∧ was = .bool ((l.take j).any fun t => decide (t.id = id)) ∧ ∃ s', Hid (BoxC wr (w.heap.size + 1 + 1) now s') ∧
      Hid (ownsL wr (w.heap.size + 3) s' ((l.take j).filter fun t => !decide (t.id = id))) ∧ Hid (Touch (fun k => k = w.heap.size + 1 + 1 ∨ w.heap.size + 3 ≤ k) W0 wr)) (fun _ i _ => l.length - (intOf i).toNat)
  case atStart => exact ⟨0, Nat.zero_le _, rfl, rfl, _, Lib.hid b2, Lib.hid ⟨rfl, .inl ⟨rfl, rfl⟩⟩, Lib.hid (Touch.refl _ _)⟩
  case round =>
    obtain ⟨j, hj, rfl, rfl, s', hb, hr, ht⟩ := hrel
    have x1 := (ht.out.cell (p := ⟨w.heap.size, 1, none⟩) (by show w.heap.size < W0.heap.size; omega) (by show ¬ (w.heap.size = w.heap.size + 1 + 1 ∨ w.heap.size + 3 ≤ w.heap.size); omega)).trans (cell2_1 b0)
    have x2 := cell2_1 hb.out
    have x3 : wr.frozen? ⟨w.heap.size + 1 + 1, 1, none⟩ = false := frozen2 hb.out
    by_cases hlt : j < l.length
    · obtain ⟨g, rfl, hob, hbg, hgl, q0, q1⟩ := hcell j hlt
      have y0 := (ht.out.cell (p := ⟨g, j * 2, none⟩) (by show g < W0.heap.size; omega) (by show ¬ (g = w.heap.size + 1 + 1 ∨ w.heap.size + 3 ≤ g); omega)).trans ((t0.cell (p := ⟨g, j * 2, none⟩) hgl (fun h => h)).trans q0)
      have y1 := (ht.out.cell (p := ⟨g, j * 2 + 1, none⟩) (by show g < W0.heap.size; omega) (by show ¬ (g = w.heap.size + 1 + 1 ∨ w.heap.size + 3 ≤ g); omega)).trans ((t0.cell (p := ⟨g, j * 2 + 1, none⟩) hgl (fun h => h)).trans q1)
      have Ht := Lib.hid (show l.take (j + 1) = l.take j ++ [l[j]] by rw [List.take_add_one, List.getElem?_eq_getElem hlt]; rfl)
      clear hcell q0 q1
      generalize l[j] = t at *
      obtain ⟨tid, tdue⟩ := t
      dsimp only at y0 y1
      by_cases hid : tid = id
      · subst hid
        go_wp2_with fail
        go_roundw
        case rel =>
          refine ⟨j + 1, by omega, by go_num, by rw [Ht.out]; simp, s', hb, ?_, ht⟩
          rw [Ht.out, List.filter_append]
          simpa using hr
        case measure => simp [intOf]; omega
      · have hnid : ¬ (tid : Int) = id := hid
        have hlen : ((l.take j).filter fun t => !decide (t.id = id)).length ≤ 1000 := by
          have := List.length_filter_le (fun t : Tm => !decide (t.id = id)) (l.take j)
          rw [List.length_take] at this; omega
        have hft : [(⟨tid, tdue⟩ : Tm)].filter (fun t => !decide (t.id = id)) = [⟨tid, tdue⟩] := by simp [hnid]
        have hfa : [(⟨tid, tdue⟩ : Tm)].any (fun t => decide (t.id = id)) = false := by simp [hnid]
        have Hft := Lib.hid hft
        have Hfa := Lib.hid hfa
        clear hft hfa
        go_wp2_with fail
        have hsz := ht.out.size
        rw [hs0] at hsz
        have hXX : Touch (fun _ => False) wr (wr.alloc (.cells #[.int .i64 tid, .int .i64 tdue] 61)).drew := ((Touch.refl _ wr).alloc _).drew
        have x4 := (hXX.cell (p := ⟨w.heap.size + 1 + 1, 1, none⟩) (by show w.heap.size + 1 + 1 < wr.heap.size; omega) (fun h => h)).trans x2
        change (wr.alloc (.cells #[.int .i64 tid, .int .i64 tdue] 61)).cell? _ = _ at x4
        have HXX := Lib.hid hXX
        clear hXX
        go_region_law ((refine step_append_lies _ (by rfl) _ _ _ (by rfl) (w.heap.size + 3) 61 i0 _ 2 16 Try.underlying49 hi hz0 hz1 hz2 rfl (by omega) s' _ _ (by rfl) ((hr.out.alloc _).drew) ⟨wr.heap.size, 0, none⟩ 1 1 [.int .i64 tid, .int .i64 tdue] (by rfl) (by rfl) (World.news_of_block (cs := #[.int .i64 tid, .int .i64 tdue]) (t := 61) (fr := (0, 0)) (heap_alloc_new wr _)) (by simp [Value.oneCell']) (by omega) (by unfold maxLen; omega) (by omega) (by simp; omega) (wr.heap.size + 1) (by simp) ?_; intro gg cap' w1 hown1 hgrow hat hglt; have hk1 := put_kept (by omega) hb.out hr.out HXX.out hgrow; have k1 := cell2_1 hk1; have k2 := frozen2 (i := 1) hk1; have HP := Lib.hid (put_appended (by omega) hb.out hr.out HXX.out hgrow hown1); clear hown1 hgrow hat hk1))
        go_wp2_with fail
        all_goals
          refine ⟨⟨j + 1, by omega, by go_num, ?_, _, Lib.hid HP.out.1, ?_, Lib.hid (ht.out.trans HP.out.2.2)⟩, ?_⟩
          · rw [Ht.out, List.any_append, Hfa.out, Bool.or_false]
          · rw [Ht.out, List.filter_append, Hft.out]
            exact Lib.hid HP.out.2.1
          · simp [intOf]; omega
    · have Hj := Lib.hid (show j = l.length by omega)
      have hend : l.length ≤ j := by omega
      obtain ⟨A', cap', rfl, _, _, _⟩ := ownsL_form hr.out
      have z0 := cell2_0 hb.out
      have z1 := (ht.out.block (w.heap.size + 1) (by omega) (by omega)).trans b1
      have z2 := cell2_0 z1
      have z3 := cell2_1 z1
      have z4 := frozen2 (i := 0) z1
      have z5 := frozen2 (i := 1) z1
      have z6 := set2_0 (.int .i64 now) z1
      have z7 := cell2_1 z6
      have z8 := frozen2 (i := 1) z6
      have Z9 := Lib.hid (set2_1 (.slice A' ((l.take j).filter fun t => !decide (t.id = id)).length cap') z6)
      have y9 := cell2_0 Z9.out
      have y8 := cell2_1 Z9.out
      clear hlt z6
      go_wp2_with fail
      have HT2 : Touch (fun k => w.heap.size ≤ k) w ((wr.setCell ⟨w.heap.size + 1, 0, none⟩ (.int .i64 now)).setCell ⟨w.heap.size + 1, 1, none⟩ (.slice A' ((l.take j).filter fun t => !decide (t.id = id)).length cap')) :=
        (((t0.mono (fun _ _ h => h.elim)).trans (ht.out.mono (fun k _ hk => by rcases hk with hk | hk <;> omega))).setCell (.inl (by show w.heap.size ≤ w.heap.size + 1; omega)) _).setCell (.inl (by show w.heap.size ≤ w.heap.size + 1; omega)) _
      have hR2 := own_touchL hr.out (((Touch.refl (fun k => k = w.heap.size + 1) wr).setCell (p := ⟨w.heap.size + 1, 0, none⟩) (.inl rfl) (.int .i64 now)).setCell (p := ⟨w.heap.size + 1, 1, none⟩) (.inl rfl) (.slice A' ((l.take j).filter fun t => !decide (t.id = id)).length cap')) (fun k hk e => own_ge hr.out (k := w.heap.size + 1) (by omega) (by rw [hk, e]))
      refine bodyPost_ret (results_ct rfl _ _ _ _ _ _ _ rfl Z9.out Try.underlying51 rfl Try.size_clock) rfl ?_
      rw [Hj.out, List.take_length] at *
      exact ⟨_, rfl, ⟨_, rfl, own_lower hR2 (by omega)⟩, HT2.below (Nat.le_refl _) (fun k hk => hk)⟩

end Go.Proofs.Ytgnckeidekppjaa
