/-
  The walks of layer 23 (bound) without its iterator: Need, Fair's question, the library's IndexFunc, ContainsFunc, Min, Max.
-/
import Derived.Test.YtgnckeidekppjaaInts
namespace Go.Proofs.Ytgnckeidekppjaa
open Go.RowKit
set_option linter.unusedVariables false
set_option linter.unusedSimpArgs false

def badPick (p : Int) : Bool := decide (p < 0 ∨ 2 < p)

set_option maxHeartbeats 400000 in
theorem FairQ_any (p : Int) (w : World) :
    Calls Try.prog 45 #[.int .i64 p] w fun e w' => e = .returned (.bool (badPick p)) ∧ w = w' := by
  by_cases a : p < 0
  · have hv := Lib.hid (show badPick p = true by unfold badPick; simp [a])
    go_enter Try.func45, Try.ntmps45
    go_wp2_with fail
    go_ret
    exact ⟨ret_bool hv.out.symm, rfl⟩
  · by_cases b : 2 < p
    · have hv := Lib.hid (show badPick p = true by unfold badPick; simp [b])
      go_enter Try.func45, Try.ntmps45
      go_wp2_with fail
      go_ret
      exact ⟨ret_bool hv.out.symm, rfl⟩
    · have hv := Lib.hid (show badPick p = false by unfold badPick; simp; omega)
      go_enter Try.func45, Try.ntmps45
      go_wp2_with fail
      go_ret
      exact ⟨ret_bool hv.out.symm, rfl⟩

set_option maxHeartbeats 400000 in
theorem SIndexFunc_any (v : Value) (l : List Int) (B : Nat) (w : World) (hv : Ints w B v l) (hl : l.length ≤ 281474976710656) :
    Calls Try.prog 56 #[v, .func (.func 45) #[] #[]] w fun e w' => e = .returned (.int .i64 (firstAt badPick l)) ∧ w = w' := by
  obtain ⟨A, cap, rfl, h1, h2, h3⟩ := hv
  unfold maxLen at h2
  go_enter Try.func56, Try.ntmps56
  go_wp2_with fail
  go_loop [8] (fun i => ∃ k : Nat, k ≤ l.length ∧ i = .int .i64 k ∧ Hid (∀ j, j < k → badPick (l[j]?.getD 0) = false)) (fun i => l.length - (intOf i).toNat)
  case atStart => exact ⟨0, by omega, rfl, Lib.hid (fun j hj => by omega)⟩
  case round =>
    obtain ⟨k, hk, rfl, H⟩ := hrel
    by_cases hlt : k < l.length
    · obtain ⟨b, off, rfl, hb, hc⟩ := h3 (by rintro rfl; simp at hlt)
      have hcell := hc k hlt
      clear hc h3
      by_cases he : badPick (l[k]?.getD 0) = true
      · have hv := Lib.hid (firstAt_found (p := badPick) hlt H.out he)
        generalize l[k]?.getD 0 = y at *
        have cq := fun W => Lib.hid (FairQ_any y W)
        simp only [he] at cq
        go_wp2_with fail
        refine (cq _).out.mono ?_; rintro e w' ⟨rfl, rfl⟩; dsimp only
        go_wp2_with fail
        go_ret
        exact ⟨ret_int (by rw [hv.out]), rfl⟩
      · have he' : badPick (l[k]?.getD 0) = false := by simpa using he
        clear he
        generalize hy : l[k]?.getD 0 = y at *
        have Hy := Lib.hid hy
        have he2 := Lib.hid he'
        have cq := fun W => Lib.hid (FairQ_any y W)
        simp only [he'] at cq
        clear hy
        go_wp2_with fail
        refine (cq _).out.mono ?_; rintro e w' ⟨rfl, rfl⟩; dsimp only
        go_wp2_with fail
        go_round
        case rel =>
          refine ⟨k + 1, by omega, by go_num, Lib.hid (fun j hj => ?_)⟩
          rcases Nat.lt_or_ge j k with h | h
          · exact H.out j h
          · obtain rfl : j = k := by omega
            rw [Hy.out]; exact he2.out
        case measure => simp [intOf]; omega
    · obtain rfl : k = l.length := by omega
      have hv := Lib.hid (firstAt_none (p := badPick) H.out)
      go_wp2_with fail
      go_ret
      exact ⟨ret_int (by rw [hv.out]), rfl⟩

set_option maxHeartbeats 400000 in
theorem SContainsFunc_any (v : Value) (l : List Int) (B : Nat) (w : World) (hv : Ints w B v l) (hl : l.length ≤ 281474976710656) :
    Calls Try.prog 44 #[v, .func (.func 45) #[] #[]] w fun e w' => e = .returned (.bool (l.any badPick)) ∧ w = w' := by
  have c1 := Lib.hid (SIndexFunc_any v l B w hv hl)
  have ha := Lib.hid (firstAt_any badPick l)
  generalize firstAt badPick l = q at *
  go_enter Try.func44, Try.ntmps44
  go_wp2_with fail
  refine c1.out.mono ?_; rintro e w' ⟨rfl, rfl⟩; dsimp only
  go_wp2_with fail
  go_ret
  exact ⟨ret_bool (by rw [← ha.out]), rfl⟩

def minV (a b c : Int) : Int := min (min a b) c
def maxV (a b c : Int) : Int := max (max a b) c

set_option maxHeartbeats 1000000 in
theorem SMin3_any (g : Nat) (a b c : Int) (w : World) (h0 : w.cell? ⟨g, 0, none⟩ = some (.int .i64 a)) (h1 : w.cell? ⟨g, 1, none⟩ = some (.int .i64 b)) (h2 : w.cell? ⟨g, 2, none⟩ = some (.int .i64 c)) :
    Calls Try.prog 42 #[.slice (some ⟨g, 0, none⟩) 3 3] w fun e w' => e = .returned (.int .i64 (minV a b c)) ∧ w = w' := by
  go_enter Try.func42, Try.ntmps42
  go_wp2_with fail
  refine wp_loop_rounds 3 ?_
  rw [rounds_succ]
  go_wp2_with fail
  all_goals (rw [rounds_succ]; go_wp2_with fail)
  all_goals (rw [rounds_succ]; go_wp2_with fail)
  all_goals (go_ret; exact ⟨ret_int (by unfold minV; omega), rfl⟩)

set_option maxHeartbeats 1000000 in
theorem SMax3_any (g : Nat) (a b c : Int) (w : World) (h0 : w.cell? ⟨g, 0, none⟩ = some (.int .i64 a)) (h1 : w.cell? ⟨g, 1, none⟩ = some (.int .i64 b)) (h2 : w.cell? ⟨g, 2, none⟩ = some (.int .i64 c)) :
    Calls Try.prog 43 #[.slice (some ⟨g, 0, none⟩) 3 3] w fun e w' => e = .returned (.int .i64 (maxV a b c)) ∧ w = w' := by
  go_enter Try.func43, Try.ntmps43
  go_wp2_with fail
  refine wp_loop_rounds 3 ?_
  rw [rounds_succ]
  go_wp2_with fail
  all_goals (rw [rounds_succ]; go_wp2_with fail)
  all_goals (rw [rounds_succ]; go_wp2_with fail)
  all_goals (go_ret; exact ⟨ret_int (by unfold maxV; omega), rfl⟩)

def needV (k u l : Int) : Int × Int :=
  if k < 2 ∨ 16777216 < k ∨ u < 0 ∨ 16777216 < u ∨ l < 0 ∨ 16777216 < l then (0, 1) else (k * (3 * u + 11 * l + 16), 0)

set_option maxHeartbeats 1000000 in
theorem Need_any (k u l : Int) (w : World) :
    Calls Try.prog 22 #[.int .i64 k, .int .i64 u, .int .i64 l] w fun e w' => e = .returned (.tuple #[.int .i64 (needV k u l).1, .int .i64 (needV k u l).2]) ∧ Below w.heap.size w w' := by
  have cmin := Lib.hid (SMin3_any w.heap.size k u l (w.alloc (.cells #[.int .i64 k, .int .i64 u, .int .i64 l] 3)) (World.cell?_alloc_new w _ _ _) (World.cell?_alloc_new w _ _ _) (World.cell?_alloc_new w _ _ _))
  have cmax := Lib.hid (SMax3_any w.heap.size k u l (w.alloc (.cells #[.int .i64 k, .int .i64 u, .int .i64 l] 3)) (World.cell?_alloc_new w _ _ _) (World.cell?_alloc_new w _ _ _) (World.cell?_alloc_new w _ _ _))
  obtain ⟨mn, hmn⟩ : ∃ mn, minV k u l = mn := ⟨_, rfl⟩
  obtain ⟨mx, hmx⟩ : ∃ mx, maxV k u l = mx := ⟨_, rfl⟩
  rw [hmn] at cmin
  rw [hmx] at cmax
  unfold minV at hmn
  unfold maxV at hmx
  have hbel : Below w.heap.size w (w.alloc (.cells #[.int .i64 k, .int .i64 u, .int .i64 l] 3)) := (Below.refl _ w).alloc (Nat.le_refl _) _
  by_cases hb : k < 2 ∨ 16777216 < k ∨ u < 0 ∨ 16777216 < u ∨ l < 0 ∨ 16777216 < l
  · have Hv := Lib.hid (show needV k u l = (0, 1) by unfold needV; rw [if_pos hb])
    by_cases m1 : mn < 0
    · clear hmn hmx hb
      go_enter Try.func22, Try.ntmps22
      go_wp2_with fail
      refine cmin.out.mono ?_; rintro e w' ⟨rfl, rfl⟩; dsimp only
      go_wp2_with fail
      go_ret2
      exact ⟨ret_two (by rw [Hv.out]) (by rw [Hv.out]), hbel⟩
    · by_cases m2 : 16777216 < mx
      · clear hmn hmx hb
        go_enter Try.func22, Try.ntmps22
        go_wp2_with fail
        refine cmin.out.mono ?_; rintro e w' ⟨rfl, rfl⟩; dsimp only
        go_wp2_with fail
        refine cmax.out.mono ?_; rintro e w' ⟨rfl, rfl⟩; dsimp only
        go_wp2_with fail
        go_ret2
        exact ⟨ret_two (by rw [Hv.out]) (by rw [Hv.out]), hbel⟩
      · have m3 : k < 2 := by omega
        clear hmn hmx hb
        go_enter Try.func22, Try.ntmps22
        go_wp2_with fail
        refine cmin.out.mono ?_; rintro e w' ⟨rfl, rfl⟩; dsimp only
        go_wp2_with fail
        refine cmax.out.mono ?_; rintro e w' ⟨rfl, rfl⟩; dsimp only
        go_wp2_with fail
        go_ret2
        exact ⟨ret_two (by rw [Hv.out]) (by rw [Hv.out]), hbel⟩
  · have hv : needV k u l = (k * (3 * u + 11 * l + 16), 0) := by unfold needV; rw [if_neg hb]
    have m1 : 0 ≤ mn := by omega
    have m2 : mx ≤ 16777216 := by omega
    have m3 : 2 ≤ k := by omega
    have m4 : k ≤ 16777216 := by omega
    have m5 : 0 ≤ u := by omega
    have m6 : u ≤ 16777216 := by omega
    have m7 : 0 ≤ l := by omega
    have m8 : l ≤ 16777216 := by omega
    have m9 : 0 ≤ k * (3 * u + 11 * l + 16) := Int.mul_nonneg (by omega) (by omega)
    have m10 : k * (3 * u + 11 * l + 16) ≤ 16777216 * (3 * 16777216 + 11 * 16777216 + 16) := Int.mul_le_mul m4 (by omega) (by omega) (by omega)
    have Hv := Lib.hid hv
    clear hmn hmx hb hv
    go_enter Try.func22, Try.ntmps22
    go_wp2_with fail
    refine cmin.out.mono ?_; rintro e w' ⟨rfl, rfl⟩; dsimp only
    go_wp2_with fail
    refine cmax.out.mono ?_; rintro e w' ⟨rfl, rfl⟩; dsimp only
    go_wp2_with fail
    go_ret2
    exact ⟨ret_two (by rw [Hv.out]) (by rw [Hv.out]), hbel⟩

set_option maxHeartbeats 1000000 in
theorem RNeed_any (k u l : Int) (w : World) :
    Calls Try.prog 23 #[.int .i64 k, .int .i64 u, .int .i64 l] w fun e w' => e = .returned (.tuple #[.int .i64 (needV k u l).1, .int .i64 (needV k u l).2]) ∧ w = w' := by
  by_cases hb : k < 2 ∨ 16777216 < k ∨ u < 0 ∨ 16777216 < u ∨ l < 0 ∨ 16777216 < l
  · have Hv := Lib.hid (show needV k u l = (0, 1) by unfold needV; rw [if_pos hb])
    have Hb := Lib.hid hb
    clear hb
    by_cases a1 : k < 2
    · go_enter Try.func23, Try.ntmps23
      go_wp2_with fail
      go_ret2
      exact ⟨ret_two (by rw [Hv.out]) (by rw [Hv.out]), rfl⟩
    by_cases a2 : 16777216 < k
    · go_enter Try.func23, Try.ntmps23
      go_wp2_with fail
      go_ret2
      exact ⟨ret_two (by rw [Hv.out]) (by rw [Hv.out]), rfl⟩
    by_cases a3 : u < 0
    · go_enter Try.func23, Try.ntmps23
      go_wp2_with fail
      go_ret2
      exact ⟨ret_two (by rw [Hv.out]) (by rw [Hv.out]), rfl⟩
    by_cases a4 : 16777216 < u
    · go_enter Try.func23, Try.ntmps23
      go_wp2_with fail
      go_ret2
      exact ⟨ret_two (by rw [Hv.out]) (by rw [Hv.out]), rfl⟩
    by_cases a5 : l < 0
    · go_enter Try.func23, Try.ntmps23
      go_wp2_with fail
      go_ret2
      exact ⟨ret_two (by rw [Hv.out]) (by rw [Hv.out]), rfl⟩
    have a6 : 16777216 < l := by have := Hb.out; omega
    go_enter Try.func23, Try.ntmps23
    go_wp2_with fail
    go_ret2
    exact ⟨ret_two (by rw [Hv.out]) (by rw [Hv.out]), rfl⟩
  · have hv : needV k u l = (k * (3 * u + 11 * l + 16), 0) := by unfold needV; rw [if_neg hb]
    have m3 : 2 ≤ k := by omega
    have m4 : k ≤ 16777216 := by omega
    have m5 : 0 ≤ u := by omega
    have m6 : u ≤ 16777216 := by omega
    have m7 : 0 ≤ l := by omega
    have m8 : l ≤ 16777216 := by omega
    have me : u + u + u + 11 * l + 16 = 3 * u + 11 * l + 16 := by omega
    have m9 : 0 ≤ k * (u + u + u + 11 * l + 16) := Int.mul_nonneg (by omega) (by omega)
    have m10 : k * (u + u + u + 11 * l + 16) ≤ 16777216 * (3 * 16777216 + 11 * 16777216 + 16) := Int.mul_le_mul m4 (by omega) (by omega) (by omega)
    have Hv := Lib.hid hv
    have Me := Lib.hid me
    clear hb hv me
    go_enter Try.func23, Try.ntmps23
    go_wp2_with fail
    go_ret2
    exact ⟨ret_two (by rw [Hv.out, ← Me.out]) (by rw [Hv.out]), rfl⟩

end Go.Proofs.Ytgnckeidekppjaa
