/-
  Layer 15's own words: numbers, wakes.
-/
import Derived.Test.YtgnckeidekppjaaAdvance
import Derived.Test.YtgnckeidekppjaaInts
import Derived.Deep.QuietTactic
namespace Go.Proofs.Ytgnckeidekppjaa
open Go.RowKit Go.Maps Go.Sort
set_option linter.unusedVariables false
set_option linter.unusedSimpArgs false

theorem Ints.of_own {W : World} {base : Nat} {v : Value} {L : List Int} (h : W.ownsRow base 3 1 v L.length (L.map encZ)) : Ints W W.heap.size v L := by
  obtain ⟨A, cap, rfl, h1, h2, h3⟩ := row_form h
  refine ⟨A, cap, rfl, h1, h2, fun hne => ?_⟩
  obtain ⟨g, rfl, _, hc0⟩ := h3 0 (List.length_pos_iff.2 hne)
  refine ⟨g, 0, rfl, cell_lt' hc0, fun j hj => ?_⟩
  obtain ⟨g', e, _, hc⟩ := h3 j hj
  cases e
  rw [Nat.zero_add]; exact hc

theorem numbers_any (va vb : Value) (la lb : List Int) (w : World) (ha : Ints w w.heap.size va la) (hb : Ints w w.heap.size vb lb) (hl : la.length ≤ 1000000) (hl2 : lb.length ≤ 1000000) :
    Calls Try.prog 34 #[va, vb] w fun e w' => e = .returned (.bool (decide (la = lb))) ∧ ∃ k, w' = w.drewN k := by
  obtain ⟨A, cap, rfl, a1, a2, a3⟩ := ha
  obtain ⟨B, cap', rfl, b1, b2, b3⟩ := hb
  unfold maxLen at a2 b2
  by_cases hne : la.length = lb.length
  · rw [← hne] at b1 ⊢
    have Hne := Lib.hid hne
    clear hne
    go_enter Try.func34, Try.ntmps34
    go_wp2_with fail
    go_loopw [13] (fun i wr => ∃ j : Nat, j ≤ la.length ∧ i = .int .i64 j ∧ Hid (∀ k, k < j → la[k]?.getD 0 = lb[k]?.getD 0) ∧ ∃ q, wr = w.drewN q) (fun i _ => la.length - (intOf i).toNat)
    case atStart => exact ⟨0, Nat.zero_le _, rfl, Lib.hid (fun k hk => by omega), 0, rfl⟩
    case round =>
      obtain ⟨j, hj, rfl, H, q, rfl⟩ := hrel
      by_cases hlt : j < la.length
      · obtain ⟨g, o, rfl, hg, hc⟩ := a3 (by rintro rfl; simp at hlt)
        obtain ⟨g', o', rfl, hg', hc'⟩ := b3 (fun e => by have h := Hne.out; rw [e, List.length_nil] at h; omega)
        have y0 : ∀ k, (w.drewN k).cell? ⟨g, o + j, none⟩ = some (.int .i64 (la[j]?.getD 0)) := fun _ => hc j hlt
        have y1 : ∀ k, (w.drewN k).cell? ⟨g', o' + j, none⟩ = some (.int .i64 (lb[j]?.getD 0)) := fun _ => hc' j (by have := Hne.out; omega)
        clear hc hc' a3 b3
        by_cases he : la[j]?.getD 0 = lb[j]?.getD 0
        · have Hj := Lib.hid he
          have Hn : Hid (∀ k, k < j + 1 → la[k]?.getD 0 = lb[k]?.getD 0) := Lib.hid (fun k hk => by
            rcases Nat.lt_or_ge k j with h | h
            · exact H.out k h
            · obtain rfl : k = j := by omega
              exact Hj.out)
          rw [he] at y0
          clear he
          generalize lb[j]?.getD 0 = x at *
          go_wp2_with fail
          go_quiet (fail)
          go_wp2_with fail
          go_roundw
          case rel => exact ⟨j + 1, by omega, by go_num, Hn, _, rfl⟩
          case measure => simp [intOf]; omega
        · have hf := Lib.hid (show decide (la = lb) = false by rw [decide_eq_false_iff_not]; rintro rfl; exact he rfl)
          have he' : (la[j]?.getD 0 == lb[j]?.getD 0) = false := by simpa using he
          generalize la[j]?.getD 0 = x at *
          generalize lb[j]?.getD 0 = y at *
          clear he
          go_wp2_with fail
          go_quiet (fail)
          go_wp2_with fail
          go_ret
          exact ⟨ret_bool hf.out.symm, _, World.drewN_drewN _ _ _⟩
      · have hf := Lib.hid (show decide (la = lb) = true by
          rw [decide_eq_true_eq]
          refine List.ext_getElem Hne.out (fun k h1 h2 => ?_)
          have := H.out k (by omega)
          rw [List.getElem?_eq_getElem h1, List.getElem?_eq_getElem h2] at this
          exact this)
        go_wp2_with fail
        go_ret
        exact ⟨ret_bool hf.out.symm, _, rfl⟩
  · have hf := Lib.hid (show decide (la = lb) = false by rw [decide_eq_false_iff_not]; rintro rfl; exact hne rfl)
    have h1 : ¬ (la.length : Int) = lb.length := by omega
    go_enter Try.func34, Try.ntmps34
    go_wp2_with fail
    go_ret
    exact ⟨ret_bool hf.out.symm, 0, rfl⟩

/-- The order of ids, where it is known. -/
theorem ids_of {f : Int → Option Int} {ys zs : List Int} (h : IsIds f ys) (hz : IsIds f zs) : ys = zs := h.unique hz

set_option maxRecDepth 100000 in
theorem wakes15_any (w : World) :
    Calls Try.prog 28 #[] w fun e w' => e = .returned (.bool true) ∧ Below w.heap.size w w' := by
  go_enter Try.func28, Try.ntmps28
  go_wp2_with fail
  refine (New_any _).mono ?_; rintro e w1 ⟨rfl, h1, hb1, hs1⟩; dsimp only
  have H1 := Lib.hid h1
  clear h1
  go_wp2_with fail
  refine (Set_yes H1.out 7 5 (by decide) (by decide) (by decide) (by decide) (by unfold maxLen; omega)).mono ?_; rintro e w2 ⟨rfl, h2, ht2⟩; dsimp only
  have H2 := Lib.hid h2
  clear h2
  go_wp2_with fail
  refine (Set_yes H2.out 3 5 (by decide) (by decide) (by decide) (by decide) (by unfold maxLen; omega)).mono ?_; rintro e w3 ⟨rfl, h3, ht3⟩; dsimp only
  have H3 := Lib.hid h3
  clear h3
  go_wp2_with fail
  refine (Advance_yes w3 H3.out 5 (by decide) (by decide) (by decide) (by decide) (by decide)).mono ?_; rintro e w4 ⟨v, ys, rfl, hids, hrow, h4, ht4⟩; dsimp only
  have hys : ys = [3, 7] := by
    refine hids.unique ⟨fun x => ?_, by decide, ?_⟩
    · by_cases e3 : x = 3
      · subst e3; simp [upd]
      · by_cases e7 : x = 7
        · subst e7; simp [upd]
        · simp [upd, e3, e7]
    · simp [firstT, dueV, upd]
  subst hys
  have hfi : firedOf (upd (upd (fun _ => none) 7 (0 + 5)) 3 (0 + 5)) (0 + 5) [3, 7] = [3, 7] := by decide
  rw [hfi] at hrow
  have hi := Lib.hid (Ints.of_own hrow)
  have hsz := ht4.size
  clear hids h4 hfi hrow
  go_wp2_with fail
  have hB := Lib.hid (hi.out.below ((Below.refl _ w4).alloc (Nat.le_refl _) (.cells #[.int .i64 3, .int .i64 7] 3)))
  refine (numbers_any v (.slice (some ⟨w4.heap.size, 0, none⟩) 2 2) [3, 7] [3, 7] _ (hB.out.more (by rw [World.size_alloc]; omega)) ?hi2 (by decide) (by decide)).mono ?_
  case hi2 =>
    refine ⟨some ⟨w4.heap.size, 0, none⟩, 2, rfl, by decide, by decide, fun _ => ⟨w4.heap.size, 0, rfl, by simp, fun j hj => ?_⟩⟩
    have : j < 2 := hj
    rcases (by omega : j = 0 ∨ j = 1) with rfl | rfl <;> exact World.cell?_alloc_new w4 _ _ _
  rintro e w5 ⟨rfl, k, rfl⟩; dsimp only
  go_wp2_with fail
  go_ret
  refine ⟨by simp, ?_⟩
  have b2 := ht2.below (n := w.heap.size) (by omega) (fun k hk => Nat.le_of_eq (Eq.symm hk))
  have b3 := ht3.below (n := w.heap.size) (by have := ht2.size; omega) (fun k hk => Nat.le_of_eq (Eq.symm hk))
  have b4 := ht4.below (n := w.heap.size) (by have := ht2.size; have := ht3.size; omega) (fun k hk => by rcases hk with hk | hk <;> omega)
  have b5 := ((hb1.trans b2).trans b3).trans b4
  exact below_drewN (b5.alloc b5.size _) _

end Go.Proofs.Ytgnckeidekppjaa
