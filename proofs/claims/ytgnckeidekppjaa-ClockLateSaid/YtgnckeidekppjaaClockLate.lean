/-
  The law ClockLate: a timer fires as soon as its time has come, and not ahead of it, however the time goes on.
-/
import Derived.Test.YtgnckeidekppjaaLaw15
import Derived.Test.YtgnckeidekppjaaBytes
namespace Go.Proofs.Ytgnckeidekppjaa
open Go.RowKit Go.Maps Go.Sort
set_option linter.unusedVariables false
set_option linter.unusedSimpArgs false

/-- One timer, 5, due at a, while the time is below it. -/
def oneT (a G : Int) : Int → Option Int := fun k => if k = 5 ∧ G < a then some a else none

theorem oneT_start (a : Int) (h : 0 < a) : upd (fun _ => none) 5 (0 + a) = oneT a 0 := by
  funext k; unfold upd oneT; by_cases e : k = 5 <;> simp [e, h]
theorem oneT_rest (a G H : Int) (h : G ≤ H) : rest (oneT a G) H = oneT a H := by
  funext k
  unfold rest oneT
  by_cases e : k = 5
  · by_cases h1 : G < a
    · by_cases h2 : a ≤ H
      · simp [e, h1, h2]; try omega
      · simp [e, h1, h2]; try omega
    · have h2 : ¬ H < a := by omega
      simp [e, h1, h2]
  · simp [e]
theorem oneT_ids (a G : Int) {ys : List Int} (h : IsIds (oneT a G) ys) : ys = if G < a then [5] else [] := by
  refine h.unique ⟨fun x => ?_, ?_, ?_⟩
  · by_cases h1 : G < a
    · by_cases e : x = 5 <;> simp [oneT, h1, e]
    · simp [oneT, h1]
  · by_cases h1 : G < a <;> simp [h1]; decide
  · by_cases h1 : G < a <;> simp [h1]
theorem oneT_fired (a G H : Int) (h : G ≤ H) {ys : List Int} (hy : IsIds (oneT a G) ys) : firedOf (oneT a G) H ys = if G < a ∧ a ≤ H then [5] else [] := by
  rw [oneT_ids a G hy]
  by_cases h1 : G < a
  · by_cases h2 : a ≤ H <;> simp [firedOf, dueV, oneT, h1, h2]
  · simp [firedOf, h1]

set_option maxHeartbeats 2000000 in
set_option maxRecDepth 100000 in
theorem ClockLate_any (a : Int) (ha0 : 0 ≤ a) (ha1 : a ≤ 255) (v : Value) (l : List Int) (w : World) (hv : IntsK .u8 w w.heap.size v l) (hl : ∀ x ∈ l, 0 ≤ x ∧ x ≤ 255) :
    Calls Try.prog 10 #[.int .u8 a, v] w fun e w' => e = .returned (.bool true) ∧ Below w.heap.size w w' := by
  obtain ⟨A, cap, rfl, h1, h2, h3⟩ := hv
  unfold maxLen at h2
  by_cases hlen : 50 < l.length
  · go_enter Try.func10, Try.ntmps10
    go_wp2_with fail
    refine (wakes15_any _).mono ?_; rintro e w1 ⟨rfl, hb1⟩; dsimp only
    go_wp2_with fail
    go_ret
    exact ⟨rfl, hb1⟩
  have hlen' : l.length ≤ 50 := by omega
  go_enter Try.func10, Try.ntmps10
  go_wp2_with fail
  refine (wakes15_any _).mono ?_; rintro e w1 ⟨rfl, hb1⟩; dsimp only
  go_wp2_with fail
  refine (New_any _).mono ?_; rintro e w2 ⟨rfl, k2, hb2, hs2⟩; dsimp only
  have K2 := Lib.hid k2
  clear k2
  go_wp2_with fail
  refine (Set_yes K2.out 5 (a + 1) (by decide) (by unfold setOk; simp; omega) (by decide) (by decide) (by unfold maxLen; omega)).mono ?_; rintro e w3 ⟨rfl, k3, ht3⟩; dsimp only
  rw [oneT_start (a + 1) (by omega)] at k3
  have K3 := Lib.hid k3
  have hB3 := Lib.hid ((hb1.trans (hb2.mono hb1.size)).trans (ht3.below (n := w.heap.size) (by have := hb1.size; omega) (fun k hk => by have e : k = w1.heap.size := hk; have := hb1.size; omega)))
  have hc1 := hb1.size
  clear k3 ht3
  generalize w1.heap.size = b at *
  go_wp2_with fail
  go_loopw [6, 33] (fun g i wr => ∃ (j : Nat) (G : Int), j ≤ l.length ∧ i = .int .i64 j ∧ g = .int .i64 G ∧ 0 ≤ G ∧ G ≤ 255 * j ∧ Hid (ClockAt wr (b + 1) b (0 + 1) G (oneT (a + 1) G)) ∧ Hid (Below w.heap.size w wr)) (fun _ i _ => l.length - (intOf i).toNat)
  case atStart => exact ⟨0, 0, Nat.zero_le _, rfl, rfl, by decide, by decide, K3, hB3⟩
  case round =>
    obtain ⟨j, G, hj, rfl, rfl, hG0, hG1, hC, hB⟩ := hrel
    by_cases hlt : j < l.length
    · obtain ⟨g, o, rfl, hg, hc⟩ := h3 (by rintro rfl; simp at hlt)
      have hce := (hB.out.cell (p := ⟨g, o + j, none⟩) hg).trans (hc j hlt)
      obtain ⟨x0, x1⟩ : 0 ≤ l[j]?.getD 0 ∧ l[j]?.getD 0 ≤ 255 := by rw [List.getElem?_eq_getElem hlt]; exact hl _ (List.getElem_mem hlt)
      clear hc h3 hl
      generalize l[j]?.getD 0 = x at *
      have hadv := Lib.hid (Advance_yes wr hC.out x x0 (by omega) hG0 (by omega) (by decide))
      have hsb := hB.out.size
      go_wp2_with fail
      refine hadv.out.mono ?_; rintro e w4 ⟨v, ys, rfl, hids, hrow, hC4, ht4⟩; dsimp only
      rw [oneT_fired (a + 1) G (G + x) (by omega) hids] at hrow
      rw [oneT_rest (a + 1) G (G + x) (by omega)] at hC4
      have HC4 := Lib.hid hC4
      have HB4 := Lib.hid (hB.out.trans (ht4.below (n := w.heap.size) (by omega) (fun k hk => by rcases hk with hk | hk <;> omega)))
      obtain ⟨A', cap2, rfl, c1, c2, _⟩ := row_form hrow
      clear hids hrow hC4 ht4 hadv
      by_cases hf : G < a + 1 ∧ a + 1 ≤ G + x
      · obtain ⟨hf1, hf2⟩ := hf
        rw [if_pos ⟨hf1, hf2⟩] at c1 ⊢
        have hf3 : G ≤ a := by omega
        have hf4 : a < G + x := by omega
        simp only [List.length_cons, List.length_nil] at c1 ⊢
        go_wp2_with fail
        go_roundw
        case rel => exact ⟨j + 1, G + x, by omega, by go_num, by go_num, by omega, by omega, HC4, HB4⟩
        case measure => simp [intOf]; omega
      · rw [if_neg hf] at c1 ⊢
        simp only [List.length_nil] at c1 ⊢
        by_cases hf3 : G ≤ a
        · have hf4 : ¬ a < G + x := by omega
          clear hf
          go_wp2_with fail
          go_roundw
          case rel => exact ⟨j + 1, G + x, by omega, by go_num, by go_num, by omega, by omega, HC4, HB4⟩
          case measure => simp [intOf]; omega
        · clear hf
          go_wp2_with fail
          go_roundw
          case rel => exact ⟨j + 1, G + x, by omega, by go_num, by go_num, by omega, by omega, HC4, HB4⟩
          case measure => simp [intOf]; omega
    · have hend : l.length ≤ j := by omega
      have hlf := Lib.hid (Left_any hC.out 5 (by decide) (by intro y hy; unfold oneT at hy; split at hy <;> simp at hy; omega))
      have hsome := Lib.hid (show (oneT (a + 1) G 5).isSome = decide (G ≤ a) by unfold oneT; by_cases h : G < a + 1 <;> simp [h] <;> omega)
      rw [hsome.out] at hlf
      clear hlt h3 hl
      go_wp2_with fail
      refine hlf.out.mono ?_; rintro e w5 ⟨rfl, rfl⟩; dsimp only
      go_wp2_with fail
      go_ret
      exact ⟨ret_bool (by simp), hB.out⟩

theorem ClockLate_of (a : Int) (wa : (Lit.int .u8 a).wf = true) (v : Value) (l : List Int) (w : World) (h : IntsK .u8 w w.heap.size v l ∧ ∀ x ∈ l, 0 ≤ x ∧ x ≤ 255) :
    Calls Try.prog 10 #[.int .u8 a, v] w fun e w' => e = .returned (.bool true) ∧ Below w.heap.size w w' := by
  simp [Lit.wf, IntKind.min, IntKind.max, IntKind.signed, IntKind.bits] at wa
  exact ClockLate_any a wa.1 wa.2 v l w h.1 h.2

end Go.Proofs.Ytgnckeidekppjaa
