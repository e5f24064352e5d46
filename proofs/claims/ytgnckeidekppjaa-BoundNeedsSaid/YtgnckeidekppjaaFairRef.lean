/-
  The plain law of fair picks, and the reference's walk: catchpitref23.Fair; Least on both sides.
-/
import Derived.Test.YtgnckeidekppjaaFair
namespace Go.Proofs.Ytgnckeidekppjaa
open Go.RowKit
set_option linter.unusedVariables false
set_option linter.unusedSimpArgs false

/-- How many of the first n elements there are since the last a. -/
def since (l : List Int) (a : Int) : Nat → Nat
  | 0 => 0
  | n + 1 => if l[n]?.getD 0 = a then 0 else since l a n + 1

theorem since_le (l : List Int) (a : Int) : ∀ n, since l a n ≤ n
  | 0 => Nat.le_refl _
  | n + 1 => by have := since_le l a n; unfold since; split <;> omega

theorem le_since (l : List Int) (a : Int) : ∀ n m, m ≤ n → (m ≤ since l a n ↔ ∀ j, n - m ≤ j → j < n → l[j]?.getD 0 ≠ a)
  | 0, m, h => by
    obtain rfl : m = 0 := by omega
    simp [since]
  | n + 1, m, h => by
    unfold since
    split
    · rename_i he
      constructor
      · intro hm j h1 h2; omega
      · intro hj
        rcases Nat.eq_zero_or_pos m with rfl | hm
        · exact Nat.zero_le _
        · exact absurd he (hj n (by omega) (by omega))
    · rename_i he
      rcases Nat.eq_zero_or_pos m with rfl | hm
      · simp; intro j h1 h2; omega
      · have := le_since l a n (m - 1) (by omega)
        constructor
        · intro hm2 j h1 h2
          rcases Nat.lt_or_ge j n with h | h
          · exact (this.1 (by omega)) j (by omega) h
          · obtain rfl : j = n := by omega
            exact he
        · intro hj
          have := this.2 (fun j h1 h2 => hj j (by omega) (by omega))
          omega

/-- What the reference asks of each element. -/
def goodAt (k : Int) (l : List Int) (n : Nat) : Prop := badPick (l[n]?.getD 0) = false ∧ (since l 0 (n + 1) : Int) < k ∧ (since l 1 (n + 1) : Int) < k

theorem any_win (l : List Int) (a : Int) (k i : Nat) (h : i + k ≤ l.length) : (winAt l k i).any (fun y => a == y) = true ↔ ∃ j, i ≤ j ∧ j < i + k ∧ l[j]?.getD 0 = a := by
  rw [List.any_eq_true]
  constructor
  · rintro ⟨y, hy, he⟩
    obtain ⟨j, hj, rfl⟩ := List.getElem_of_mem hy
    have hjk : j < k := by simp [winAt] at hj; omega
    refine ⟨i + j, by omega, by omega, ?_⟩
    have : a = (winAt l k i)[j] := by simpa using he
    rw [this]
    simp [winAt, show i + j < l.length by omega]
  · rintro ⟨j, h1, h2, rfl⟩
    have hl : j - i < (winAt l k i).length := by simp [winAt]; omega
    refine ⟨(winAt l k i)[j - i], List.getElem_mem hl, ?_⟩
    simp [winAt, show i + (j - i) = j by omega, show j < l.length by omega]

theorem fair_iff (k : Int) (l : List Int) : fairB k l = true ↔ 2 ≤ k ∧ ∀ n, n < l.length → goodAt k l n := by
  unfold fairB
  split
  · rename_i h
    simp only [Bool.false_eq_true, false_iff, not_and]
    rcases h with h | h
    · intro h2; omega
    · intro _ hg
      obtain ⟨y, hy, hb⟩ := List.any_eq_true.1 h
      obtain ⟨j, hj, rfl⟩ := List.getElem_of_mem hy
      have := (hg j hj).1
      rw [List.getElem?_eq_getElem hj] at this
      simp only [Option.getD_some] at this
      rw [hb] at this; cases this
  rename_i h
  simp only [not_or] at h
  obtain ⟨hk, hbad⟩ := h
  have hnb : ∀ n, n < l.length → badPick (l[n]?.getD 0) = false := by
    intro n hn
    have : l.any badPick = false := by simpa using hbad
    rw [List.any_eq_false] at this
    rw [List.getElem?_eq_getElem hn]
    simpa using this _ (List.getElem_mem hn)
  split
  · rename_i h
    simp only [true_iff]
    refine ⟨by omega, fun n hn => ⟨hnb n hn, ?_, ?_⟩⟩
    · have := since_le l 0 (n + 1); omega
    · have := since_le l 1 (n + 1); omega
  rename_i h
  obtain ⟨k, rfl⟩ := Int.eq_ofNat_of_zero_le (show 0 ≤ k by omega)
  rw [Int.toNat_natCast, List.all_eq_true]
  have key : ∀ a i, i + k ≤ l.length → ((winAt l k i).any (fun y => a == y) = true ↔ ¬ k ≤ since l a (i + k)) := by
    intro a i hi
    rw [any_win l a k i hi, le_since l a (i + k) k (by omega)]
    constructor
    · rintro ⟨j, h1, h2, h3⟩ hh
      exact hh j (by omega) h2 h3
    · intro hh
      apply Classical.byContradiction
      intro hc
      exact hh fun j h1 h2 h3 => hc ⟨j, by omega, h2, h3⟩
  constructor
  · intro hall
    refine ⟨by omega, fun n hn => ⟨hnb n hn, ?_⟩⟩
    rcases Nat.lt_or_ge (n + 1) k with hlt | hge
    · have h0 := since_le l 0 (n + 1)
      have h1 := since_le l 1 (n + 1)
      exact ⟨by omega, by omega⟩
    · have := hall (n + 1 - k) (List.mem_range.2 (by omega))
      unfold winOk at this
      rw [Bool.and_eq_true] at this
      have h0 := (key 0 (n + 1 - k) (by omega)).1 this.1
      have h1 := (key 1 (n + 1 - k) (by omega)).1 this.2
      rw [show n + 1 - k + k = n + 1 by omega] at h0 h1
      exact ⟨by omega, by omega⟩
  · rintro ⟨_, hg⟩ i hi
    have hi' := List.mem_range.1 hi
    have := hg (i + k - 1) (by omega)
    obtain ⟨_, h0, h1⟩ := this
    rw [show i + k - 1 + 1 = i + k by omega] at h0 h1
    unfold winOk
    rw [Bool.and_eq_true]
    exact ⟨(key 0 i (by omega)).2 (by omega), (key 1 i (by omega)).2 (by omega)⟩

theorem fair_false_of (k : Int) (l : List Int) (n : Nat) (hn : n < l.length) (h : ¬ goodAt k l n) : fairB k l = false := by
  cases hf : fairB k l with
  | false => rfl
  | true => exact absurd (((fair_iff k l).1 hf).2 n hn) h

set_option maxHeartbeats 2000000 in
theorem RFair_any (k : Int) (v : Value) (l : List Int) (w : World) (B : Nat) (hv : Ints w B v l) (hl : l.length ≤ 281474976710656) :
    Calls Try.prog 25 #[.int .i64 k, v] w fun e w' => e = .returned (.bool (fairB k l)) ∧ w = w' := by
  obtain ⟨A, cap, rfl, h1, h2, h3⟩ := hv
  unfold maxLen at h2
  by_cases ha : k < 2
  · have hf := Lib.hid (show fairB k l = false by unfold fairB; rw [if_pos (.inl ha)])
    go_enter Try.func25, Try.ntmps25
    go_wp2_with fail
    go_ret
    exact ⟨ret_bool hf.out.symm, rfl⟩
  go_enter Try.func25, Try.ntmps25
  go_wp2_with fail
  go_loop [5, 6, 7] (fun a b i => ∃ n R S : Nat, n ≤ l.length ∧ i = .int .i64 n ∧ a = .int .i64 R ∧ b = .int .i64 S ∧ R ≤ n ∧ S ≤ n ∧ Hid (since l 0 n = R) ∧ Hid (since l 1 n = S) ∧ Hid (∀ j, j < n → goodAt k l j))
    (fun _ _ i => l.length - (intOf i).toNat)
  case atStart => exact ⟨0, 0, 0, by omega, rfl, rfl, rfl, by omega, by omega, Lib.hid rfl, Lib.hid rfl, Lib.hid (fun j hj => by omega)⟩
  case round =>
    obtain ⟨n, R, S, hn, rfl, rfl, rfl, hR, hS, hr0, hs0, H⟩ := hrel
    by_cases hlt : n < l.length
    · obtain ⟨b, off, rfl, hb, hc⟩ := h3 (by rintro rfl; simp at hlt)
      have hcell := hc n hlt
      clear hc h3
      have hr1 : Hid (since l 0 (n + 1) = if l[n]?.getD 0 = 0 then 0 else R + 1) := Lib.hid (by unfold since; rw [hr0.out])
      have hs1 : Hid (since l 1 (n + 1) = if l[n]?.getD 0 = 1 then 0 else S + 1) := Lib.hid (by unfold since; rw [hs0.out])
      have hff := Lib.hid (fair_false_of k l n hlt)
      have hgd : Hid (goodAt k l n ↔ badPick (l[n]?.getD 0) = false ∧ (since l 0 (n + 1) : Int) < k ∧ (since l 1 (n + 1) : Int) < k) := Lib.hid Iff.rfl
      generalize l[n]?.getD 0 = y at *
      by_cases y0 : y < 0
      · have hf := Lib.hid (hff.out (fun h => by have := (hgd.out.1 h).1; unfold badPick at this; simp at this; omega))
        go_wp2_with fail
        go_ret
        exact ⟨ret_bool hf.out.symm, rfl⟩
      by_cases y2 : 2 < y
      · have hf := Lib.hid (hff.out (fun h => by have := (hgd.out.1 h).1; unfold badPick at this; simp at this; omega))
        go_wp2_with fail
        go_ret
        exact ⟨ret_bool hf.out.symm, rfl⟩
      have hok := Lib.hid (show badPick y = false by unfold badPick; simp; omega)
      have hgo : ∀ R' S' : Nat, since l 0 (n + 1) = R' → since l 1 (n + 1) = S' → (R' : Int) < k → (S' : Int) < k → Hid (∀ j, j < n + 1 → goodAt k l j) := fun R' S' h1 h2 h3 h4 => Lib.hid (by
        intro j hj
        rcases Nat.lt_or_ge j n with h | h
        · exact H.out j h
        · obtain rfl : j = n := by omega
          exact hgd.out.2 ⟨hok.out, by rw [h1]; exact h3, by rw [h2]; exact h4⟩)
      have hno : ∀ R' S' : Nat, since l 0 (n + 1) = R' → since l 1 (n + 1) = S' → (k ≤ (R' : Int) ∨ k ≤ (S' : Int)) → fairB k l = false := fun R' S' h1 h2 h3 => hff.out (fun h => by
        have := hgd.out.1 h; rw [h1, h2] at this; omega)
      obtain rfl | rfl | rfl : y = 0 ∨ y = 1 ∨ y = 2 := by omega
      · have e0 : since l 0 (n + 1) = 0 := by rw [hr1.out, if_pos rfl]
        have e1 : since l 1 (n + 1) = S + 1 := by rw [hs1.out, if_neg (by omega)]
        have hgo := Lib.hid (hgo _ _ e0 e1)
        have hno := Lib.hid (hno _ _ e0 e1)
        have E0 := Lib.hid e0
        have E1 := Lib.hid e1
        clear e0 e1
        by_cases hk : k ≤ (S : Int) + 1
        · have hf := Lib.hid (hno.out (.inr (by omega)))
          go_wp2_with fail
          go_ret
          exact ⟨ret_bool hf.out.symm, rfl⟩
        · have hq := hgo.out (by omega) (by omega)
          go_wp2_with fail
          go_round
          case rel => exact ⟨n + 1, 0, S + 1, by omega, by go_num, by go_num, by go_num, by omega, by omega, E0, E1, hq⟩
          case measure => simp [intOf]; omega
      · have e0 : since l 0 (n + 1) = R + 1 := by rw [hr1.out, if_neg (by omega)]
        have e1 : since l 1 (n + 1) = 0 := by rw [hs1.out, if_pos rfl]
        have hgo := Lib.hid (hgo _ _ e0 e1)
        have hno := Lib.hid (hno _ _ e0 e1)
        have E0 := Lib.hid e0
        have E1 := Lib.hid e1
        clear e0 e1
        by_cases hk : k ≤ (R : Int) + 1
        · have hf := Lib.hid (hno.out (.inl (by omega)))
          go_wp2_with fail
          go_ret
          exact ⟨ret_bool hf.out.symm, rfl⟩
        · have hq := hgo.out (by omega) (by omega)
          go_wp2_with fail
          go_round
          case rel => exact ⟨n + 1, R + 1, 0, by omega, by go_num, by go_num, by go_num, by omega, by omega, E0, E1, hq⟩
          case measure => simp [intOf]; omega
      · have e0 : since l 0 (n + 1) = R + 1 := by rw [hr1.out, if_neg (by omega)]
        have e1 : since l 1 (n + 1) = S + 1 := by rw [hs1.out, if_neg (by omega)]
        have hgo := Lib.hid (hgo _ _ e0 e1)
        have hno := Lib.hid (hno _ _ e0 e1)
        have E0 := Lib.hid e0
        have E1 := Lib.hid e1
        clear e0 e1
        by_cases hk : k ≤ (R : Int) + 1
        · have hf := Lib.hid (hno.out (.inl (by omega)))
          go_wp2_with fail
          go_ret
          exact ⟨ret_bool hf.out.symm, rfl⟩
        by_cases hk2 : k ≤ (S : Int) + 1
        · have hf := Lib.hid (hno.out (.inr (by omega)))
          go_wp2_with fail
          go_ret
          exact ⟨ret_bool hf.out.symm, rfl⟩
        · have hq := hgo.out (by omega) (by omega)
          go_wp2_with fail
          go_round
          case rel => exact ⟨n + 1, R + 1, S + 1, by omega, by go_num, by go_num, by go_num, by omega, by omega, E0, E1, hq⟩
          case measure => simp [intOf]; omega
    · obtain rfl : n = l.length := by omega
      have hf := Lib.hid ((fair_iff k l).2 ⟨by omega, H.out⟩)
      clear hr0 hs0 H
      go_wp2_with fail
      go_ret
      exact ⟨ret_bool hf.out.symm, rfl⟩

/-- The least k from here on at which p holds; 0: there is none among so many. -/
def leastG (p : Int → Bool) : Nat → Int → Int
  | 0, _ => 0
  | n + 1, k => if p k then k else leastG p n (k + 1)
def topN (l : List Int) : Nat := max 2 (l.length + 1)
def leastB (l : List Int) : Int := leastG (fun k => fairB k l) (topN l - 1) 2

end Go.Proofs.Ytgnckeidekppjaa
