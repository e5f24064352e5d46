/-
  The least fair number: bound.Least and the reference's.
-/
import Derived.Test.YtgnckeidekppjaaFairRef
namespace Go.Proofs.Ytgnckeidekppjaa
open Go.RowKit
set_option linter.unusedVariables false
set_option linter.unusedSimpArgs false

set_option maxHeartbeats 1000000 in
theorem Least_any (v : Value) (l : List Int) (w : World) (hv : Ints w w.heap.size v l) (hl : l.length ≤ 1000000) :
    Calls Try.prog 26 #[v] w fun e w' => e = .returned (.int .i64 (leastB l)) ∧ Below w.heap.size w w' := by
  have hv0 := hv
  obtain ⟨A, cap, rfl, h1, h2, h3⟩ := hv
  clear h3
  unfold maxLen at h2
  have hv1 := Lib.hid hv0
  clear hv0
  have hT1 : 2 ≤ topN l := by unfold topN; omega
  have hT2 : topN l ≤ 1000001 := by unfold topN; omega
  have hT := Lib.hid (show topN l = max 2 (l.length + 1) from rfl)
  have hB0 := Lib.hid (show leastB l = leastG (fun k => fairB k l) (topN l + 1 - 2) 2 from rfl)
  generalize topN l = T at *
  go_enter Try.func26, Try.ntmps26
  go_wp2_with fail
  go_loopw [3] (fun k wr => ∃ n : Nat, 2 ≤ n ∧ n ≤ T + 1 ∧ k = .int .i64 n ∧ Hid (leastB l = leastG (fun k => fairB k l) (T + 1 - n) n) ∧ Hid (Below w.heap.size w wr)) (fun k _ => T + 1 - (intOf k).toNat)
  case atStart => exact ⟨2, by omega, by omega, rfl, hB0, Lib.hid (Below.refl _ _)⟩
  case round =>
    obtain ⟨n, hn2, hn, rfl, H, hB⟩ := hrel
    have hmx := Lib.hid hT.out
    by_cases hlt : n ≤ T
    · have hm : (n : Int) ≤ 2 ∨ (n : Int) ≤ l.length + 1 := by have := hT.out; omega
      have cq := Lib.hid (Fair_any (n : Int) _ l wr ((hv1.out.below hB.out).more hB.out.size) (by omega))
      have hs := Lib.hid (show leastB l = if fairB n l then (n : Int) else leastG (fun k => fairB k l) (T + 1 - (n + 1)) (n + 1) by
        rw [H.out, show T + 1 - n = (T + 1 - (n + 1)) + 1 by omega]; rfl)
      rcases hf : fairB n l with _ | _
      · rw [hf] at hs cq
        clear hf
        by_cases hl2 : 2 < (l.length : Int) + 1
        · go_wp2_with fail
          refine cq.out.mono ?_; rintro e w2 ⟨rfl, hb⟩; dsimp only
          go_wp2_with fail
          go_roundw
          case rel => exact ⟨n + 1, by omega, by omega, by go_num, Lib.hid (by rw [hs.out]; rfl), Lib.hid (hB.out.trans (hb.mono hB.out.size))⟩
          case measure => simp [intOf]; omega
        · go_wp2_with fail
          refine cq.out.mono ?_; rintro e w2 ⟨rfl, hb⟩; dsimp only
          go_wp2_with fail
          go_roundw
          case rel => exact ⟨n + 1, by omega, by omega, by go_num, Lib.hid (by rw [hs.out]; rfl), Lib.hid (hB.out.trans (hb.mono hB.out.size))⟩
          case measure => simp [intOf]; omega
      · rw [hf] at hs cq
        clear hf
        by_cases hl2 : 2 < (l.length : Int) + 1
        · go_wp2_with fail
          refine cq.out.mono ?_; rintro e w2 ⟨rfl, hb⟩; dsimp only
          go_wp2_with fail
          go_ret
          exact ⟨ret_int (by rw [hs.out]; rfl), hB.out.trans (hb.mono hB.out.size)⟩
        · go_wp2_with fail
          refine cq.out.mono ?_; rintro e w2 ⟨rfl, hb⟩; dsimp only
          go_wp2_with fail
          go_ret
          exact ⟨ret_int (by rw [hs.out]; rfl), hB.out.trans (hb.mono hB.out.size)⟩
    · have hm1 : ¬ (n : Int) ≤ 2 := by omega
      have hm2 : ¬ (n : Int) ≤ l.length + 1 := by have := hT.out; omega
      have hs := Lib.hid (show leastB l = 0 by rw [H.out, show T + 1 - n = 0 by omega]; rfl)
      by_cases hl2 : 2 < (l.length : Int) + 1
      all_goals
        go_wp2_with fail
        go_ret
        exact ⟨ret_int (by rw [hs.out]), hB.out⟩

set_option maxHeartbeats 1000000 in
theorem RLeast_any (v : Value) (l : List Int) (w : World) (B : Nat) (hv : Ints w B v l) (hl : l.length ≤ 1000000) :
    Calls Try.prog 27 #[v] w fun e w' => e = .returned (.int .i64 (leastB l)) ∧ w = w' := by
  have hv0 := hv
  obtain ⟨A, cap, rfl, h1, h2, h3⟩ := hv
  clear h3
  unfold maxLen at h2
  have hv1 := Lib.hid hv0
  clear hv0
  have hT1 : 2 ≤ topN l := by unfold topN; omega
  have hT2 : topN l ≤ 1000001 := by unfold topN; omega
  have hT := Lib.hid (show topN l = max 2 (l.length + 1) from rfl)
  have hB0 := Lib.hid (show leastB l = leastG (fun k => fairB k l) (topN l + 1 - 2) 2 from rfl)
  generalize topN l = T at *
  go_enter Try.func27, Try.ntmps27
  go_wp2_with fail
  go_loop [3] (fun k => ∃ n : Nat, 2 ≤ n ∧ n ≤ T + 1 ∧ k = .int .i64 n ∧ Hid (leastB l = leastG (fun k => fairB k l) (T + 1 - n) n)) (fun k => T + 1 - (intOf k).toNat)
  case atStart => exact ⟨2, by omega, by omega, rfl, hB0⟩
  case round =>
    obtain ⟨n, hn2, hn, rfl, H⟩ := hrel
    by_cases hlt : n ≤ T
    · have cq := Lib.hid (RFair_any (n : Int) _ l w B hv1.out (by omega))
      have hs := Lib.hid (show leastB l = if fairB n l then (n : Int) else leastG (fun k => fairB k l) (T + 1 - (n + 1)) (n + 1) by
        rw [H.out, show T + 1 - n = (T + 1 - (n + 1)) + 1 by omega]; rfl)
      by_cases hn2' : n = 2
      · subst hn2'
        have hx : ((2 : Nat) : Int) = 2 := rfl
        rw [hx] at cq hs
        clear hx
        rcases hf : fairB 2 l with _ | _
        · rw [hf] at hs cq
          clear hf
          go_wp2_with fail
          refine cq.out.mono ?_; rintro e w2 ⟨rfl, rfl⟩; dsimp only
          go_wp2_with fail
          go_round
          case rel => exact ⟨3, by omega, by omega, by go_num, Lib.hid (by rw [hs.out]; rfl)⟩
          case measure => simp [intOf]; omega
        · rw [hf] at hs cq
          clear hf
          go_wp2_with fail
          refine cq.out.mono ?_; rintro e w2 ⟨rfl, rfl⟩; dsimp only
          go_wp2_with fail
          go_ret
          exact ⟨ret_int (by rw [hs.out]; rfl), rfl⟩
      · have hm2 : (n : Int) ≤ l.length + 1 := by have := hT.out; omega
        have hm3 : ¬ (n : Int) = 2 := by omega
        rcases hf : fairB n l with _ | _
        · rw [hf] at hs cq
          clear hf
          go_wp2_with fail
          refine cq.out.mono ?_; rintro e w2 ⟨rfl, rfl⟩; dsimp only
          go_wp2_with fail
          go_round
          case rel => exact ⟨n + 1, by omega, by omega, by go_num, Lib.hid (by rw [hs.out]; rfl)⟩
          case measure => simp [intOf]; omega
        · rw [hf] at hs cq
          clear hf
          go_wp2_with fail
          refine cq.out.mono ?_; rintro e w2 ⟨rfl, rfl⟩; dsimp only
          go_wp2_with fail
          go_ret
          exact ⟨ret_int (by rw [hs.out]; rfl), rfl⟩
    · have hm1 : ¬ (n : Int) = 2 := by omega
      have hm2 : ¬ (n : Int) ≤ l.length + 1 := by have := hT.out; omega
      have hs := Lib.hid (show leastB l = 0 by rw [H.out, show T + 1 - n = 0 by omega]; rfl)
      go_wp2_with fail
      go_ret
      exact ⟨ret_int (by rw [hs.out]), rfl⟩

end Go.Proofs.Ytgnckeidekppjaa
