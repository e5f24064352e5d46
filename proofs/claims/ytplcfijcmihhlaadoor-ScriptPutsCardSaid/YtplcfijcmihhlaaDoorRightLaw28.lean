/-
  The plain law of layer 28's Right: the reference's, as printed.
-/
import Derived.Test.YtplcfijcmihhlaaDoorRight28
import Derived.Test.YtplcfijcmihhlaaDoorPRightx1
namespace Go.Proofs.YtplcfijcmihhlaaDoor
open Go.RowKit Go.Proofs.YtplcfijcmihhlaaDoorW.PrintWords
set_option linter.unusedVariables false
set_option linter.unusedSimpArgs false

theorem rd_at' {l : List Int} {i : Nat} (h : i < l.length) : rd l (i : Int) = l[i] := rd_get h
theorem right16_loop (l : List Int) (s : Int) (hl : l.length ≤ 1000000) : ∀ (n i k : Nat), l.length - i = n → i ≤ l.length → n + 1 ≤ k → PRight.catchpitref16_Right.l0 k l s (i : Int) = some ((l.drop i).all (fun x => decide (0 ≤ x)) && inTo 2 s) := by
  intro n
  induction n with
  | zero =>
    intro i k hn hi hk
    obtain ⟨k, rfl⟩ : ∃ k', k = k' + 1 := ⟨k - 1, by omega⟩
    unfold PRight.catchpitref16_Right.l0 inTo
    rw [if_neg (by omega), List.drop_of_length_le (by omega)]
    by_cases h : s ≥ 0
    · rw [if_pos h]; simp; omega
    · rw [if_neg h]; simp; omega
  | succ n ih =>
    intro i k hn hi hk
    obtain ⟨k, rfl⟩ : ∃ k', k = k' + 1 := ⟨k - 1, by omega⟩
    have h1 : i < l.length := by omega
    unfold PRight.catchpitref16_Right.l0
    rw [if_pos (by omega), if_pos (by omega), rd_at' h1]
    have d1 : l.drop i = l[i] :: l.drop (i + 1) := List.drop_eq_getElem_cons h1
    rw [d1]
    by_cases h : l[i] < 0
    · rw [if_pos h, List.all_cons, show decide (0 ≤ l[i]) = false from decide_eq_false (by omega), Bool.false_and, Bool.false_and]
    · rw [if_neg h, show wrap64 ((i : Int) + 1) = ((i + 1 : Nat) : Int) by rw [IntWalk.wrap64_in _ (by omega)]; rfl, ih (i + 1) k (by omega) (by omega) (by omega)]
      have : decide (0 ≤ l[i]) = true := decide_eq_true (by omega)
      rw [List.all_cons, this, Bool.true_and]
theorem right_l1 (p : List (List Int)) (e : Int) (t : List Int) (s : Int) (c : List Int) (ht : t.length ≤ 1000000) (hc : c.length ≤ 1000000) : ∀ (n i k : Nat), c.length - i = n → i ≤ c.length → n + t.length + 3 ≤ k →
    PRight.catchpitref28_Right.l1 k (i : Int) p e t s c = some ((c.drop i).all (inTo 2) && inTo 2 e && (t.all (fun x => decide (0 ≤ x)) && inTo 2 s)) := by
  intro n
  induction n with
  | zero =>
    intro i k hn hi hk
    obtain ⟨k, rfl⟩ : ∃ k', k = k' + 1 := ⟨k - 1, by omega⟩
    unfold PRight.catchpitref28_Right.l1
    rw [if_neg (by omega), List.drop_of_length_le (by omega)]
    have h16 := right16_loop t s ht t.length 0 k (by omega) (by omega) (by omega)
    rw [show ((0 : Nat) : Int) = 0 from rfl, List.drop_zero] at h16
    by_cases h : e ≥ 0
    · rw [if_pos h]
      by_cases h2 : e ≤ 2
      · rw [if_pos h2, PRight.catchpitref16_Right.f, h16, Option.bind_some]
        have : inTo 2 e = true := by unfold inTo; simp; omega
        simp [this]
      · rw [if_neg h2]
        have : inTo 2 e = false := by unfold inTo; simp; omega
        simp [this]
    · rw [if_neg h]
      have : inTo 2 e = false := by unfold inTo; simp; omega
      simp [this]
  | succ n ih =>
    intro i k hn hi hk
    obtain ⟨k, rfl⟩ : ∃ k', k = k' + 1 := ⟨k - 1, by omega⟩
    have h1 : i < c.length := by omega
    unfold PRight.catchpitref28_Right.l1
    rw [if_pos (by omega), if_pos (by omega), rd_at' h1]
    have d1 : c.drop i = c[i] :: c.drop (i + 1) := List.drop_eq_getElem_cons h1
    rw [d1, List.all_cons]
    by_cases h : c[i] < 0
    · rw [if_pos h]
      have : inTo 2 c[i] = false := by unfold inTo; simp; omega
      rw [this, Bool.false_and, Bool.false_and, Bool.false_and]
    · rw [if_neg h]
      by_cases h2 : c[i] > 2
      · rw [if_pos h2]
        have : inTo 2 c[i] = false := by unfold inTo; simp; omega
        rw [this, Bool.false_and, Bool.false_and, Bool.false_and]
      · rw [if_neg h2, show wrap64 ((i : Int) + 1) = ((i + 1 : Nat) : Int) by rw [IntWalk.wrap64_in _ (by omega)]; rfl, ih (i + 1) k (by omega) (by omega) (by omega)]
        have : inTo 2 c[i] = true := by unfold inTo; simp; omega
        rw [this, Bool.true_and]
theorem right_l0 (p : List (List Int)) (e : Int) (t : List Int) (s : Int) (c : List Int) (ht : t.length ≤ 1000000) (hc : c.length ≤ 1000000) : ∀ (n i k : Nat), t.length - i = n → i ≤ t.length → n + c.length + t.length + 5 ≤ k →
    PRight.catchpitref28_Right.l0 k (i : Int) p e t s c = some ((t.drop i).all (fun x => decide (x ≤ 1073741824)) && (c.all (inTo 2) && inTo 2 e && (t.all (fun x => decide (0 ≤ x)) && inTo 2 s))) := by
  intro n
  induction n with
  | zero =>
    intro i k hn hi hk
    obtain ⟨k, rfl⟩ : ∃ k', k = k' + 1 := ⟨k - 1, by omega⟩
    unfold PRight.catchpitref28_Right.l0
    rw [if_neg (by omega), List.drop_of_length_le (by omega)]
    have := right_l1 p e t s c ht hc c.length 0 k (by omega) (by omega) (by omega)
    rw [show ((0 : Nat) : Int) = 0 from rfl, List.drop_zero] at this
    rw [this]
    simp
  | succ n ih =>
    intro i k hn hi hk
    obtain ⟨k, rfl⟩ : ∃ k', k = k' + 1 := ⟨k - 1, by omega⟩
    have h1 : i < t.length := by omega
    unfold PRight.catchpitref28_Right.l0
    rw [if_pos (by omega), if_pos (by omega), rd_at' h1]
    have d1 : t.drop i = t[i] :: t.drop (i + 1) := List.drop_eq_getElem_cons h1
    rw [d1, List.all_cons]
    by_cases h : t[i] > 1073741824
    · rw [if_pos h]
      have : decide (t[i] ≤ 1073741824) = false := decide_eq_false (by omega)
      rw [this, Bool.false_and, Bool.false_and]
    · rw [if_neg h, show wrap64 ((i : Int) + 1) = ((i + 1 : Nat) : Int) by rw [IntWalk.wrap64_in _ (by omega)]; rfl, ih (i + 1) k (by omega) (by omega) (by omega)]
      have : decide (t[i] ≤ 1073741824) = true := decide_eq_true (by omega)
      rw [this, Bool.true_and]
theorem all_two (t : List Int) : t.all (inTo 1073741824) = (t.all (fun x => decide (x ≤ 1073741824)) && t.all (fun x => decide (0 ≤ x))) := by
  induction t with
  | nil => rfl
  | cons a t ih =>
    simp only [List.all_cons, ih]
    unfold inTo
    cases decide (0 ≤ a) <;> cases decide (a ≤ 1073741824) <;> cases t.all (fun x => decide (x ≤ 1073741824)) <;> cases t.all (fun x => decide (0 ≤ x)) <;> rfl
theorem refRight (p : List (List Int)) (e : Int) (t : List Int) (s : Int) (c : List Int) (ht : t.length ≤ 1000000) (hc : c.length ≤ 1000000) : PRight.catchpitref28_Right.f (2 * t.length + c.length + 5) p e t s c = some (rightB e s t c) := by
  unfold PRight.catchpitref28_Right.f
  have := right_l0 p e t s c ht hc t.length 0 (2 * t.length + c.length + 5) (by omega) (by omega) (by omega)
  rw [show ((0 : Nat) : Int) = 0 from rfl, List.drop_zero] at this
  rw [this]
  unfold rightB
  rw [all_two]
  congr 1
  generalize t.all (fun x => decide (x ≤ 1073741824)) = a1
  generalize t.all (fun x => decide (0 ≤ x)) = a2
  cases a1 <;> cases a2 <;> cases c.all (inTo 2) <;> cases inTo 2 e <;> cases inTo 2 s <;> rfl

end Go.Proofs.YtplcfijcmihhlaaDoor
