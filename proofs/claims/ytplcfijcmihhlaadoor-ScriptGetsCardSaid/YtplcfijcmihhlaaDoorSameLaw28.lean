/-
  The plain law of layer 28's comparing: the statements' same and long, as printed.
-/
import Derived.Test.YtplcfijcmihhlaaDoorRBytes28
import Derived.Test.YtplcfijcmihhlaaDoorPsamex2
import Derived.Test.YtplcfijcmihhlaaDoorPlongx1
namespace Go.Proofs.YtplcfijcmihhlaaDoor
open Go.RowKit Go.Proofs.YtplcfijcmihhlaaDoorW.PrintWords
set_option linter.unusedVariables false
set_option linter.unusedSimpArgs false

theorem rdL2_at {l : List (List Int)} {i : Nat} (h : i < l.length) : Psame.rd_L2 l (i : Int) = l[i] := by simp [Psame.rd_L2, List.getD_eq_getElem?_getD, h]
theorem rdL1_at {l : List (List Int)} {i : Nat} (h : i < l.length) : Plong.rd_L1 l (i : Int) = l[i] := by simp [Plong.rd_L1, List.getD_eq_getElem?_getD, h]

theorem numbers_loop (a b : List Int) (hl : a.length = b.length) (ha : a.length ≤ 1000000) : ∀ (n i k : Nat), a.length - i = n → i ≤ a.length → n + 1 ≤ k → Psame.catchpitlaw28_numbers.l0 k a b (a.length : Int) (i : Int) = some (decide (a.drop i = b.drop i)) := by
  intro n
  induction n with
  | zero =>
    intro i k hn hi hk
    obtain ⟨k, rfl⟩ : ∃ k', k = k' + 1 := ⟨k - 1, by omega⟩
    unfold Psame.catchpitlaw28_numbers.l0
    rw [if_neg (by omega), List.drop_of_length_le (by omega), List.drop_of_length_le (by omega)]
    simp
  | succ n ih =>
    intro i k hn hi hk
    obtain ⟨k, rfl⟩ : ∃ k', k = k' + 1 := ⟨k - 1, by omega⟩
    have h1 : i < a.length := by omega
    have h2 : i < b.length := by omega
    unfold Psame.catchpitlaw28_numbers.l0
    rw [if_pos (by omega), if_pos (by omega), if_pos (by omega), if_pos (by omega), rd_at h1, rd_at h2]
    have d1 : a.drop i = a[i] :: a.drop (i + 1) := List.drop_eq_getElem_cons h1
    have d2 : b.drop i = b[i] :: b.drop (i + 1) := List.drop_eq_getElem_cons h2
    rw [d1, d2]
    by_cases he : a[i] = b[i]
    · rw [if_pos he, show wrap64 ((i : Int) + 1) = ((i + 1 : Nat) : Int) by rw [IntWalk.wrap64_in _ (by omega)]; rfl, ih (i + 1) k (by omega) (by omega) (by omega)]
      exact congrArg some (decide_eq_decide.2 (by rw [List.cons.injEq]; simp [he]))
    · rw [if_neg he]
      exact congrArg some (decide_eq_false (by rw [List.cons.injEq]; simp [he])).symm
theorem refNumbers (a b : List Int) (ha : a.length ≤ 1000000) : Psame.catchpitlaw28_numbers.f (a.length + 1) a b = some (decide (a = b)) := by
  unfold Psame.catchpitlaw28_numbers.f
  by_cases hl : a.length = b.length
  · rw [if_pos (by omega)]
    have := numbers_loop a b hl ha a.length 0 (a.length + 1) (by omega) (by omega) (by omega)
    simpa using this
  · rw [if_neg (by omega)]
    have : a ≠ b := fun e => hl (by rw [e])
    simp [this]
theorem refSame_at (a b : List Int) (ha : a.length ≤ 1000000) {k : Nat} (hk : a.length + 1 ≤ k) : Psame.catchpitref03_Same.f k a b = some (decide (a = b)) :=
  at_rounds (g := fun k => Psame.catchpitref03_Same.f k a b) (fun k => Psame.catchpitref03_Same.mono a b k) hk (refSame a b ha)
theorem refNumbers_at (a b : List Int) (ha : a.length ≤ 1000000) {k : Nat} (hk : a.length + 1 ≤ k) : Psame.catchpitlaw28_numbers.f k a b = some (decide (a = b)) :=
  at_rounds (g := fun k => Psame.catchpitlaw28_numbers.f k a b) (fun k => Psame.catchpitlaw28_numbers.mono a b k) hk (refNumbers a b ha)

theorem same_l0 (p0 : List (List Int)) (e0 : Int) (t0 : List Int) (s0 : Int) (k0 : List Int) (p1 : List (List Int)) (e1 : Int) (t1 : List Int) (s1 : Int) (k1 : List Int)
    (hp : p0.length = p1.length) (hp1 : p0.length ≤ 1000000) (hq : ∀ x ∈ p0, x.length ≤ 1000000) (ht : t0.length ≤ 1000000) (hk0 : k0.length ≤ 1000000) :
    ∀ (n i k : Nat), p0.length - i = n → i ≤ p0.length → n + 1000002 ≤ k →
      Psame.catchpitlaw28_same.l0 k p0 (p0.length : Int) (i : Int) p0 e0 t0 s0 k0 p1 e1 t1 s1 k1 = some (decide (p0.drop i = p1.drop i ∧ t0 = t1 ∧ k0 = k1)) := by
  intro n
  induction n with
  | zero =>
    intro i k hn hi hk
    obtain ⟨k, rfl⟩ : ∃ k', k = k' + 1 := ⟨k - 1, by omega⟩
    unfold Psame.catchpitlaw28_same.l0
    rw [if_neg (by omega), List.drop_of_length_le (by omega), List.drop_of_length_le (by omega), refNumbers_at t0 t1 ht (by omega), Option.bind_some]
    by_cases h1 : t0 = t1
    · rw [if_pos (by simp [h1]), refNumbers_at k0 k1 hk0 (by omega), Option.bind_some]
      simp [h1]
    · rw [if_neg (by simp [h1])]
      simp [h1]
  | succ n ih =>
    intro i k hn hi hk
    obtain ⟨k, rfl⟩ : ∃ k', k = k' + 1 := ⟨k - 1, by omega⟩
    have h1 : i < p0.length := by omega
    have h2 : i < p1.length := by omega
    unfold Psame.catchpitlaw28_same.l0
    rw [if_pos (by omega), if_pos (by omega), if_pos (by omega), if_pos (by omega), rdL2_at h1, rdL2_at h2, refSame_at _ _ (hq _ (List.getElem_mem h1)) (by have := hq _ (List.getElem_mem h1); omega), Option.bind_some]
    have d1 : p0.drop i = p0[i] :: p0.drop (i + 1) := List.drop_eq_getElem_cons h1
    have d2 : p1.drop i = p1[i] :: p1.drop (i + 1) := List.drop_eq_getElem_cons h2
    rw [d1, d2]
    by_cases he : p0[i] = p1[i]
    · rw [if_pos (by simp [he]), show wrap64 ((i : Int) + 1) = ((i + 1 : Nat) : Int) by rw [IntWalk.wrap64_in _ (by omega)]; rfl, ih (i + 1) k (by omega) (by omega) (by omega)]
      exact congrArg some (decide_eq_decide.2 (by rw [List.cons.injEq]; simp [he]))
    · rw [if_neg (by simp [he])]
      exact congrArg some (decide_eq_false (by rw [List.cons.injEq]; simp [he])).symm
theorem same_j0 (k : Nat) (b : Bool) (p0 : List (List Int)) (e0 : Int) (t0 : List Int) (s0 : Int) (k0 : List Int) (p1 : List (List Int)) (e1 : Int) (t1 : List Int) (s1 : Int) (k1 : List Int) :
    Psame.catchpitlaw28_same.j0 (k + 1) b p0 e0 t0 s0 k0 p1 e1 t1 s1 k1 = if b = true then some false else Psame.catchpitlaw28_same.l0 k p0 (p0.length : Int) 0 p0 e0 t0 s0 k0 p1 e1 t1 s1 k1 := by
  rw [Psame.catchpitlaw28_same.j0]
def sameB (p0 : List (List Int)) (e0 : Int) (t0 : List Int) (s0 : Int) (k0 : List Int) (p1 : List (List Int)) (e1 : Int) (t1 : List Int) (s1 : Int) (k1 : List Int) : Bool := decide (p0 = p1 ∧ e0 = e1 ∧ t0 = t1 ∧ s0 = s1 ∧ k0 = k1)
theorem refSame28 (p0 : List (List Int)) (e0 : Int) (t0 : List Int) (s0 : Int) (k0 : List Int) (p1 : List (List Int)) (e1 : Int) (t1 : List Int) (s1 : Int) (k1 : List Int)
    (hp1 : p0.length ≤ 1000000) (hq : ∀ x ∈ p0, x.length ≤ 1000000) (ht : t0.length ≤ 1000000) (hk0 : k0.length ≤ 1000000) :
    Psame.catchpitlaw28_same.f (p0.length + 1000003) p0 e0 t0 s0 k0 p1 e1 t1 s1 k1 = some (sameB p0 e0 t0 s0 k0 p1 e1 t1 s1 k1) := by
  unfold Psame.catchpitlaw28_same.f sameB
  by_cases hp : p0.length = p1.length
  · rw [if_pos (by omega)]
    by_cases he : e0 = e1
    · rw [if_pos he, show p0.length + 1000003 = (p0.length + 1000002) + 1 from rfl, same_j0]
      by_cases hs : s0 = s1
      · rw [if_neg (by simp [hs])]
        have := same_l0 p0 e0 t0 s0 k0 p1 e1 t1 s1 k1 hp hp1 hq ht hk0 p0.length 0 (p0.length + 1000002) (by omega) (by omega) (by omega)
        rw [show ((0 : Nat) : Int) = 0 from rfl] at this
        rw [this]
        simp [he, hs]
      · rw [if_pos (by simp [hs])]
        simp [hs]
    · rw [if_neg he, show p0.length + 1000003 = (p0.length + 1000002) + 1 from rfl, same_j0, if_pos rfl]
      simp [he]
  · rw [if_neg (by omega), show p0.length + 1000003 = (p0.length + 1000002) + 1 from rfl, same_j0, if_pos rfl]
    have : p0 ≠ p1 := fun e => hp (by rw [e])
    simp [this]

def bulk (l : List (List Int)) : Nat := (l.map fun p => p.length + 1).sum
theorem great_loop (l : List (List Int)) (hl : l.length ≤ 1000000000000000) (hq : ∀ x ∈ l, x.length ≤ 1000000000000000) : ∀ (n i k : Nat) (x3 : Nat), l.length - i = n → i ≤ l.length → x3 ≤ 2000000000000000 → n + 1 ≤ k →
    ∃ r, Plong.catchpitref16_Great.l0 k l (x3 : Int) (i : Int) = some r ∧ (r = false → x3 + bulk (l.drop i) ≤ 600) := by
  intro n
  induction n with
  | zero =>
    intro i k x3 hn hi hx hk
    obtain ⟨k, rfl⟩ : ∃ k', k = k' + 1 := ⟨k - 1, by omega⟩
    unfold Plong.catchpitref16_Great.l0
    rw [if_neg (by omega), List.drop_of_length_le (by omega)]
    refine ⟨_, rfl, fun h => ?_⟩
    have := of_decide_eq_false h
    simp [bulk]; omega
  | succ n ih =>
    intro i k x3 hn hi hx hk
    obtain ⟨k, rfl⟩ : ∃ k', k = k' + 1 := ⟨k - 1, by omega⟩
    have h1 : i < l.length := by omega
    have hq1 := hq _ (List.getElem_mem h1)
    unfold Plong.catchpitref16_Great.l0
    rw [if_pos (by omega)]
    by_cases h3 : (x3 : Int) ≤ 600
    · rw [if_pos h3, if_pos (by omega), rdL1_at h1]
      have w1 : wrap64 (wrap64 ((x3 : Int) + (l[i].length : Int)) + 1) = ((x3 + (l[i].length + 1) : Nat) : Int) := by
        rw [IntWalk.wrap64_in ((x3 : Int) + (l[i].length : Int)) (by omega), IntWalk.wrap64_in _ (by omega)]; omega
      have w2 : wrap64 ((i : Int) + 1) = ((i + 1 : Nat) : Int) := by rw [IntWalk.wrap64_in _ (by omega)]; rfl
      rw [w1, w2]
      obtain ⟨r, e, hr⟩ := ih (i + 1) k (x3 + (l[i].length + 1)) (by omega) (by omega) (by omega) (by omega)
      refine ⟨r, e, fun h => ?_⟩
      have := hr h
      have d1 : l.drop i = l[i] :: l.drop (i + 1) := List.drop_eq_getElem_cons h1
      rw [d1]
      simp only [bulk, List.map_cons, List.sum_cons] at *
      omega
    · rw [if_neg h3]
      refine ⟨_, rfl, fun h => ?_⟩
      have := of_decide_eq_false h
      omega
theorem bulk_len : ∀ (l : List (List Int)), l.length ≤ bulk l ∧ ∀ x ∈ l, x.length ≤ bulk l
  | [] => ⟨by simp, fun x h => by cases h⟩
  | p :: l => by
    obtain ⟨h1, h2⟩ := bulk_len l
    have e : bulk (p :: l) = p.length + 1 + bulk l := rfl
    refine ⟨by rw [e, List.length_cons]; omega, fun x hx => ?_⟩
    rcases List.mem_cons.1 hx with rfl | hx
    · rw [e]; omega
    · have := h2 x hx; rw [e]; omega
def SmallS (p : List (List Int)) (t k : List Int) : Prop := bulk p ≤ 1500 ∧ t.length ≤ 1500 ∧ k.length ≤ 1500
theorem refLong (p : List (List Int)) (e : Int) (t : List Int) (s : Int) (k : List Int) (hl : p.length ≤ 1000000000000000) (hq : ∀ x ∈ p, x.length ≤ 1000000000000000) :
    ∃ r, Plong.catchpitlaw28_long.f (p.length + 1) p e t s k = some r ∧ (r = false → SmallS p t k) := by
  obtain ⟨r, er, hr⟩ := great_loop p hl hq p.length 0 (p.length + 1) 0 (by omega) (by omega) (by omega) (by omega)
  unfold Plong.catchpitlaw28_long.f Plong.catchpitref16_Great.f
  rw [show Plong.catchpitref16_Great.l0 (p.length + 1) p 0 0 = some r from er, Option.bind_some]
  by_cases h1 : r = true
  · rw [if_pos h1]; exact ⟨true, rfl, fun h => by cases h⟩
  · rw [if_neg h1]
    have h1' : r = false := by simpa using h1
    by_cases h2 : (t.length : Int) > 100
    · rw [if_pos h2]; exact ⟨true, rfl, fun h => by cases h⟩
    · rw [if_neg h2]
      refine ⟨_, rfl, fun h => ?_⟩
      have := of_decide_eq_false h
      have hb := hr h1'
      rw [List.drop_zero] at hb
      exact ⟨by omega, by omega, by omega⟩

end Go.Proofs.YtplcfijcmihhlaaDoor
