/-
  The walks of layer 15 (clock): New, Now, Set, Clear, Left.
-/
import Derived.Test.YtgnckeidekppjaaTimers
import Derived.Deep.Draws
import Derived.Deep.QuietTactic
import Derived.Deep.RegionWith
import Derived.Carry
import Derived.WalkSpells
namespace Go.Proofs.Ytgnckeidekppjaa
open Go.RowKit Go.Maps
set_option linter.unusedVariables false
set_option linter.unusedSimpArgs false

theorem New_any (w : World) :
    Calls Try.prog 29 #[] w fun e w' => e = .returned (.pointer (some ⟨w.heap.size + 1, 0, none⟩)) ∧
      ClockAt w' (w.heap.size + 1) w.heap.size 0 0 (fun _ => none) ∧ Below w.heap.size w w' ∧ w'.heap.size = w.heap.size + 2 := by
  have hmm := @run_makeMap Try.prog
  go_enter Try.func29, Try.ntmps29
  go_wp2_with fail
  go_ret
  refine ⟨by simp, ⟨?_, ?_⟩, ?_, by simp⟩
  · have := World.alloc_heap_new (w.alloc (.map #[] 0)) (.cells #[.int .i64 0, .map (some w.heap.size)] 87)
    rwa [World.size_alloc] at this
  · exact TM.of_block ⟨_, World.ownsMap_made w _ _ _, Reads.nil⟩ (Below.heap_alloc _ _ _ (by simp))
  · exact ((Below.refl _ w).alloc (Nat.le_refl _) _).alloc (by simp) _

section
variable {w : World} {c b n : Nat} {now : Int} {f : Int → Option Int}

theorem Now_any (h : ClockAt w c b n now f) :
    Calls Try.prog 35 #[.pointer (some ⟨c, 0, none⟩)] w fun e w' => e = .returned (.int .i64 now) ∧ w = w' := by
  have h0 := cell2_0 h.box
  go_enter Try.func35, Try.ntmps35
  go_wp2_with fail
  go_ret
  exact ⟨rfl, rfl⟩

/-- What is left of a timer. -/
def leftV (now : Int) (f : Int → Option Int) (id : Int) : Int := match f id with | some a => a - now | none => 0

theorem Left_any (h : ClockAt w c b n now f) (id : Int) (hid : (Lit.int .i64 id).wf = true) (hb : ∀ a, f id = some a → -9223372036854775808 ≤ a - now ∧ a - now ≤ 9223372036854775807) :
    Calls Try.prog 36 #[.pointer (some ⟨c, 0, none⟩), .int .i64 id] w fun e w' => e = .returned (.tuple #[.int .i64 (leftV now f id), .bool (f id).isSome]) ∧ w = w' := by
  have h0 := cell2_0 h.box
  have h1 := cell2_1 h.box
  have hl := h.tm.look_ok hid
  cases hf : f id with
  | none =>
    rw [hf] at hl
    simp only [Option.getD_none, Option.isSome_none] at hl
    have hv := Lib.hid (show leftV now f id = 0 by unfold leftV; rw [hf])
    go_enter Try.func36, Try.ntmps36
    go_wp2_with fail
    go_ret2
    exact ⟨by rw [hv.out]; rfl, rfl⟩
  | some a =>
    rw [hf] at hl
    simp only [Option.getD_some, Option.isSome_some] at hl
    have hv := Lib.hid (show leftV now f id = a - now by unfold leftV; rw [hf])
    obtain ⟨b1, b2⟩ := hb a hf
    go_enter Try.func36, Try.ntmps36
    go_wp2_with fail
    go_ret2
    exact ⟨by rw [hv.out]; rfl, rfl⟩

set_option maxRecDepth 100000 in
theorem Clear_any (h : ClockAt w c b n now f) (id : Int) (hid : (Lit.int .i64 id).wf = true) :
    Calls Try.prog 37 #[.pointer (some ⟨c, 0, none⟩), .int .i64 id] w fun e w' => e = .returned (.int .i64 (if (f id).isSome then 0 else 7)) ∧
      ClockAt w' c b n now (del f id) ∧ Touch (· = b) w w' := by
  have h0 := cell2_0 h.box
  have h1 := cell2_1 h.box
  have hl := h.tm.look_ok hid
  cases hf : f id with
  | none =>
    rw [hf] at hl
    simp only [Option.getD_none, Option.isSome_none] at hl
    have hd := Lib.hid (show del f id = f by
      funext x
      show (if x = id then none else f x) = f x
      by_cases e : x = id
      · rw [if_pos e, e, hf]
      · rw [if_neg e])
    have H := Lib.hid h
    clear h hf
    go_enter Try.func37, Try.ntmps37
    go_wp2_with fail
    go_ret
    exact ⟨rfl, by rw [hd.out]; exact H.out, Touch.refl _ _⟩
  | some a =>
    rw [hf] at hl
    simp only [Option.getD_some, Option.isSome_some] at hl
    have H := Lib.hid h
    obtain ⟨D, ho, hr⟩ := h.tm
    have Hr := Lib.hid hr
    clear h hf hr
    go_enter Try.func37, Try.ntmps37
    go_wp2_with (at_delete; refine wpList_delete_own _ rfl _ _ 85 3 rfl 2 Try.keyInt Try.underlying85 _ b n D rfl ho _ _ rfl (keyOf_int_mk Try.underlying3 hid) ?_; intro w1 hown1 hturn1)
    go_ret
    have hT : Touch (· = b) w w1 := Touch.of_grown hturn1.grown rfl
    exact ⟨rfl, ⟨(hT.block c (lt_of_heap H.out.box) H.out.ne).trans H.out.box, ⟨_, hown1, Hr.out.del id⟩⟩, hT⟩

/-- What Set tells, and the timers then. -/
def setOk (after : Int) : Bool := decide (1 ≤ after ∧ after ≤ 1073741824)

theorem Set_no (id after : Int) (ha : setOk after = false) (v : Value) :
    Calls Try.prog 30 #[v, .int .i64 id, .int .i64 after] w fun e w' => e = .returned (.int .i64 1) ∧ w = w' := by
  unfold setOk at ha
  rw [decide_eq_false_iff_not] at ha
  by_cases h1 : after < 1
  · clear ha
    go_enter Try.func30, Try.ntmps30
    go_wp2_with fail
    go_ret
    exact ⟨rfl, rfl⟩
  · have h2 : 1073741824 < after := by omega
    clear ha
    go_enter Try.func30, Try.ntmps30
    go_wp2_with fail
    go_ret
    exact ⟨rfl, rfl⟩

set_option maxRecDepth 100000 in
theorem Set_yes (h : ClockAt w c b n now f) (id after : Int) (hid : (Lit.int .i64 id).wf = true) (ha : setOk after = true) (h0n : 0 ≤ now) (h1n : now ≤ 4611686018427387904) (hn : n < maxLen) :
    Calls Try.prog 30 #[.pointer (some ⟨c, 0, none⟩), .int .i64 id, .int .i64 after] w fun e w' => e = .returned (.int .i64 0) ∧
      ClockAt w' c b (n + 1) now (upd f id (now + after)) ∧ Touch (· = b) w w' := by
  unfold setOk at ha
  rw [decide_eq_true_eq] at ha
  obtain ⟨a1, a2⟩ := ha
  have h0 := cell2_0 h.box
  have h1 := cell2_1 h.box
  have H := Lib.hid h
  obtain ⟨D, ho, hr⟩ := h.tm
  have Hr := Lib.hid hr
  have hval : plainElem (H := Unit) Try.prog 2 (.int .i64 (now + after)) = some (.lit (.int .i64 (now + after)), []) := plainElem_int Try.underlying2 (by simp [Lit.wf, IntKind.min, IntKind.max, IntKind.signed, IntKind.bits]; omega)
  clear h hr
  go_enter Try.func30, Try.ntmps30
  go_wp2_with fail
  obtain ⟨w1, hrun, hown1, hturn1⟩ := World.ownsMap.store (w := w.drew) (show ownsT w.drew b n D from ho) Try.keyInt Try.underlying85 hn (keyOf_int_mk Try.underlying3 hid) hval
  have b0 : IntKind.i64.wrap (now + after) = now + after := IntWalk.i64_in _ (by omega)
  go_region
  go_wp2_with fail
  go_ret
  have hT : Touch (· = b) w w1 := ((Touch.refl _ w).drew).trans (Touch.of_grown hturn1.grown rfl)
  exact ⟨rfl, ⟨(hT.block c (lt_of_heap H.out.box) H.out.ne).trans H.out.box, ⟨_, hown1, Hr.out.put id (now + after)⟩⟩, hT⟩
end

end Go.Proofs.Ytgnckeidekppjaa
