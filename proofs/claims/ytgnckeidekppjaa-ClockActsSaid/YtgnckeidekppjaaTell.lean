/-
  The walk of the law's own function timers: all timers of a clock, as the reference lists them.
-/
import Derived.Test.YtgnckeidekppjaaClockAdv
import Derived.Test.YtgnckeidekppjaaClockIter
import Derived.Test.YtgnckeidekppjaaAdvance
namespace Go.Proofs.Ytgnckeidekppjaa
open Go.RowKit Go.Maps Go.Sort Go.Shelf
set_option linter.unusedVariables false
set_option linter.unusedSimpArgs false
attribute [local go_sem] Oper.semAt_some

theorem Try.neq_nilFunc' (fn : Fn) (xs ys : Array Value) (w : World) : (binOp .neq 58 (.func fn xs ys) .nilFunc).run Try.prog w = .ok (.bool true) w := by kernel_rfl

def tmOf (f : Int → Option Int) (x : Int) : Tm := ⟨x, dueV f x⟩

/-- What holds in the loop over a clock's timers: what has been told, and all else as it was. -/
def TelI (f : Int → Option Int) (now : Int) (w : World) (c b n : Nat) (pre : List Int) (W : World) : Prop :=
  (∃ v, Boxed W w.heap.size 49 v ∧ W.ownsRow w.heap.size 61 2 v pre.length (encTs (pre.map (tmOf f)))) ∧
    Touch (fun _ => False) w W ∧ w.heap.size + 2 ≤ W.heap.size

theorem TelI.own {f : Int → Option Int} {now : Int} {w : World} {c b n : Nat} : OwnFrom (w.heap.size + 2) (TelI f now w c b n) := by
  intro pre W W' row ⟨⟨v, h2, h3⟩, h6, h7⟩ hg hr
  have hlow : ∀ k, k < w.heap.size + 2 → k < W.heap.size → W'.heap[k]? = W.heap[k]? := fun k hk hk2 => hg.block k hk2 (fun e => by have := (hr k e.symm).1; omega)
  refine ⟨⟨v, (hlow _ (by omega) (by omega)).trans h2, h3.kept hg ?_⟩,
    ⟨hg.os.trans h6.os, hg.tape.trans h6.tape, hg.output.trans h6.output, Nat.le_trans h6.size hg.size, fun k hk hx => (hlow k (by omega) (by omega)).trans (h6.block k hk hx)⟩, Nat.le_trans h7 hg.size⟩
  rcases h3.2 with ⟨rfl, _⟩ | ⟨g, cap, cur, rfl, _, hgb, _⟩
  · exact .inl rfl
  · refine .inr (fun e => ?_)
    obtain ⟨_, o, ho, hoc⟩ := hr g (by rw [← e]; rfl)
    rw [hgb] at ho; cases ho; cases hoc

set_option maxRecDepth 100000 in
set_option maxHeartbeats 4000000 in
theorem timers_any {w : World} {c b n : Nat} {now : Int} {f : Int → Option Int} {L : List Tm} (h : ClockAt w c b n now f) (hP : Rep f L) (hn : n ≤ 1000) :
    Calls Try.prog 41 #[.pointer (some ⟨c, 0, none⟩)] w fun e w' => ∃ v, e = .returned v ∧ ownsL w' w.heap.size v L ∧ Below w.heap.size w w' := by
  have hcl := lt_of_heap h.box
  have hbl := h.tm.lt
  have hneq := Try.neq_nilFunc'
  refine calls_of_wp_marks Try.func41 rfl ?_
  simp only [Try.ntmps41, List.size_toArray, List.length_cons, List.length_nil, Nat.reduceAdd, Nat.reduceSub, Array.replicate_succ, Array.replicate_zero, List.push_toArray, List.append_toArray, List.nil_append, List.cons_append]
  go_wp2_with fail
  refine (TimersC_any _ c).mono ?_; rintro e w' ⟨rfl, rfl⟩; dsimp only
  go_wp2_with fail
  rw [World.size_alloc]
  obtain ⟨W4, e4, hz4, nb, pb, t4⟩ : ∃ W, (w.alloc (.cells #[.slice none 0 0] 49)).alloc (.cells #[.pointer (some ⟨c, 0, none⟩)] 47) = W ∧ W.heap.size = w.heap.size + 2 ∧ Boxed W w.heap.size 49 (.slice none 0 0) ∧ Boxed W (w.heap.size + 1) 47 (.pointer (some ⟨c, 0, none⟩)) ∧ Touch (fun _ => False) w W :=
    ⟨_, rfl, by simp, heap2_0 _ _ _, heap_alloc2_new _ _ _, ((Touch.refl _ w).alloc _).alloc _⟩
  rw [e4]
  clear e4
  have h4 := h.keep t4 (fun h => h) (fun h => h)
  have hids := hP.ids
  have hI0 : TelI f now w c b n [] W4 := ⟨⟨_, nb, ⟨rfl, .inl ⟨rfl, rfl⟩⟩⟩, t4, by omega⟩
  have hput := KeepC.put (X := fun k => k = w.heap.size) (fb := w.heap.size) (w := W4) (by omega)
  refine wp_rangeK (w := W4) (Kp := KeepC (fun k => k = w.heap.size) w.heap.size) (encs := fun x : Int => #[.int .i64 x, .int .i64 (dueV f x)]) (fun h k => KeepC.trans h k) hput (gf := 49) rfl (enters_of Try.func49 (by kernel_rfl) rfl)
    (timers_stops (p := w.heap.size + 1) (fun k => k = w.heap.size) w.heap.size W4 (by omega) (by omega) (by omega) (by omega : n ≤ 1000000) (by intro k hk; omega) (by omega) (by
      rintro k ⟨v, t', fr, e1, e2⟩
      rw [show W4.heap[w.heap.size]? = _ from nb] at e1
      cases e1; cases e2) (by omega) (Boxed.cell pb) h4)
    (Below.refl _ _) (fun _ => rfl) (TelI f now w c b n) (fun cd pre W => False)
    ?hI ?hIx hI0 ?a1 ?assign ?body ?done ?stop
  case assign =>
    intro l' x W K hK
    gi_wp2
    exact hK
  case hI => rw [hz4]; exact TelI.own
  case hIx =>
    intro cd pre W W' row h hg hr
    exact h
  case body =>
    rintro l' pre x W ⟨⟨v, bfv, hrow⟩, htv, hsv⟩ hlen'
    obtain ⟨dx, hdx⟩ : ∃ dx, dueV f x = dx := ⟨_, rfl⟩
    have Hdx := Lib.hid (show tmOf f x = ⟨x, dx⟩ by unfold tmOf; rw [hdx])
    rw [hdx]
    clear hdx
    have hcap : pre.length + 1 ≤ 1000000 := by omega
    have f0 := bfv.cell
    have f1 := (bfv.alloc (.cells #[.int .i64 x, .int .i64 dx] 61)).cell
    have hne : 49 ≠ (61 : Nat) := by decide
    obtain ⟨i0, hi, hz0, hz1, hz2⟩ := Try.info_timer
    gi_wp2_with (gi_at_builtin; refine wpListIn_append_own_at _ rfl _ _ 49 rfl w.heap.size 61 i0 _ 2 16 Try.underlying49 hi hz0 hz1 hz2 rfl (by decide) _ _ _ rfl (hrow.alloc _) ⟨W.heap.size, 0, none⟩ 1 1 [.int .i64 x, .int .i64 dx] rfl rfl (World.news_of_block (cs := #[.int .i64 x, .int .i64 dx]) (t := 61) (fr := (0, 0)) (heap_alloc_new W _)) (by simp [Value.oneCell']) (by unfold maxLen; omega) (by omega) (by rw [World.size_alloc]; omega) ?_; intro v' w2 hown' hgrow hnil hat; obtain ⟨g', cap', rfl, hg1, hg2⟩ := hown'.form (by omega); have hA := Boxed.appended bfv hne hrow (by omega) (Nat.le_refl _) hown' hgrow; have hB := KeepC.appended bfv hA.2.1 hgrow hat; have hc2 := hA.1.cell; have hf2 := hA.1.frozen; have HA := Lib.hid hA; have HB := Lib.hid hB; clear hA hB hat hgrow hnil)
    obtain ⟨_, p2, p3, p4, p5⟩ := HA.out
    refine ⟨p4.from _, HB.out, ⟨_, p2, ?_⟩, htv.thenBelow p5 (by omega), ?_⟩
    · rw [List.map_append, encTs_append, List.map_singleton, Hdx.out]
      simpa [encTs] using p3
    · exact Nat.le_trans hsv p5.size
  case done =>
    rintro D xs W hD hS ⟨⟨v, bfv, hrow⟩, htv, hsv⟩ hK
    obtain rfl : xs = L.map Tm.id := hS.unique hids
    have hmap : (L.map Tm.id).map (tmOf f) = L := by
      rw [List.map_map]
      refine (List.map_congr_left (g := id) fun t ht => ?_).trans (List.map_id L)
      show (⟨t.id, dueV f t.id⟩ : Tm) = t
      rw [hP.due ht]
    rw [hmap, List.length_map] at hrow
    have f0 := bfv.cell
    have HR := Lib.hid hrow
    have HT := Lib.hid htv
    clear hrow htv
    go_wp2_with fail
    refine post_mark rfl hK (results_tmp rfl _ _ _) ⟨v, rfl, HR.out.kept (grownBy_putObj' W D (.deferred none)) (own_ne HR.out hK rfl), ?_⟩
    have hTd : Touch (fun k => w.heap.size ≤ k) W (W.putObj D (.deferred none)) := ⟨rfl, rfl, rfl, by simp, fun k _ hx => World.putObj_heap_other (fun e => hx (by omega))⟩
    exact ((HT.out.mono (fun _ _ h => h.elim)).trans hTd).below (Nat.le_refl _) (fun _ h => h)
  case stop =>
    rintro D cd pre W hD hS h hK
    exact h.elim

end Go.Proofs.Ytgnckeidekppjaa
