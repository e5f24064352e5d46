/-
  Plain words of layer 1 (hexa): digits, how many stand at a text's beginning, the number of a text. No program in sight.
-/
import Derived.WalkKit
import Derived.Laws.BitsAllLaws
namespace Go.Proofs.YtfeljjlpdefnmaaGreat
open Go.RowKit
set_option linter.unusedVariables false
set_option linter.unusedSimpArgs false

/-- A digit's value, as the code reckons it. -/
def digitV (c : Int) : Int :=
  if 48 ≤ c ∧ c ≤ 57 then c - 48 else if 97 ≤ Go.bits .or .u8 c 32 ∧ Go.bits .or .u8 c 32 ≤ 102 then Go.bits .or .u8 c 32 - 87 else -1

theorem or32_bd (c : Int) (h0 : 0 ≤ c) (h1 : c ≤ 255) : 0 ≤ Go.bits .or .u8 c 32 ∧ Go.bits .or .u8 c 32 ≤ 255 := by
  rw [u8_or c 32 h0 (by omega) (by omega) (by omega)]
  have : c.toNat ||| (32 : Int).toNat < 2 ^ 8 := Nat.or_lt_two_pow (by omega) (by decide)
  omega

theorem digitV_bd (c : Int) : -1 ≤ digitV c ∧ digitV c ≤ 15 := by
  unfold digitV
  split
  · omega
  · split <;> omega

def isDig (c : UInt8) : Bool := decide (0 ≤ digitV c.toNat)

def digs (l : List UInt8) : Nat := (l.takeWhile isDig).length

theorem digs_le (l : List UInt8) : digs l ≤ l.length := by
  unfold digs
  induction l with
  | nil => simp
  | cons a l ih => simp only [List.takeWhile_cons]; split <;> simp <;> omega

theorem digs_at : ∀ (l : List UInt8) (k : Nat) (_ : k ≤ digs l) (h : k < l.length), (k < digs l ↔ 0 ≤ digitV l[k].toNat)
  | [], k, _, h => by simp at h
  | a :: l, 0, _, _ => by
    simp only [digs, List.takeWhile_cons, List.getElem_cons_zero, isDig]
    by_cases ha : 0 ≤ digitV a.toNat <;> simp [ha]
  | a :: l, k + 1, hk, h => by
    simp only [digs, List.takeWhile_cons, List.getElem_cons_succ, isDig] at hk ⊢
    by_cases ha : 0 ≤ digitV a.toNat
    · simp only [ha, decide_true, if_true, List.length_cons, Nat.add_le_add_iff_right, Nat.add_lt_add_iff_right] at hk ⊢
      exact digs_at l k hk (by simpa using h)
    · simp [ha] at hk

/-- All of a text's bytes are digits. -/
theorem digs_all {l : List UInt8} (h : l.length ≤ digs l) (k : Nat) (hk : k < l.length) : 0 ≤ digitV l[k].toNat :=
  (digs_at l k (by omega) hk).1 (by omega)

/-- One digit more, refused where it is too great. -/
def moreV (n c : Int) : Int × Int :=
  if digitV c < 0 then (0, 2) else if 16 * n + digitV c ≤ 4611686018427387903 then (16 * n + digitV c, 0) else (0, 3)

/-- The number that a text says, however great. -/
def valL (l : List UInt8) : Int := l.foldl (fun n c => 16 * n + digitV c.toNat) 0

theorem valL_snoc (l : List UInt8) (c : UInt8) : valL (l ++ [c]) = 16 * valL l + digitV c.toNat := by simp [valL]

def parseV (l : List UInt8) : Int × Int :=
  if l = [] ∨ digs l < l.length then (0, 2) else if valL l ≤ 4611686018427387903 then (valL l, 0) else (0, 3)

theorem take_snoc (s : ByteArray) (k : Nat) (h : k < s.size) : s.data.toList.take (k + 1) = s.data.toList.take k ++ [s[k]] := by
  rw [List.take_succ_eq_append_getElem (by simpa using h)]; rfl

theorem valL_pos {l : List UInt8} (h : l.length ≤ digs l) : ∀ k, k ≤ l.length → 0 ≤ valL (l.take k) := by
  intro k
  induction k with
  | zero => intro _; simp [valL]
  | succ k ih =>
    intro hk
    rw [List.take_succ_eq_append_getElem (by omega), valL_snoc]
    have h1 := digs_all h k (by omega)
    have h2 := ih (by omega)
    omega

/-- What is too great stays so. -/
theorem valL_mono {l : List UInt8} (h : l.length ≤ digs l) (k : Nat) : ∀ j, k ≤ j → j ≤ l.length → valL (l.take k) ≤ valL (l.take j) := by
  intro j
  induction j with
  | zero => intro h1 _; rw [show k = 0 from by omega]; exact Int.le_refl _
  | succ j ih =>
    intro h1 h2
    by_cases e : k = j + 1
    · rw [e]; exact Int.le_refl _
    · have h3 := ih (by omega) (by omega)
      have h4 := digs_all h j (by omega)
      have h5 := valL_pos h j (by omega)
      rw [List.take_succ_eq_append_getElem (show j < l.length by omega), valL_snoc]
      omega

/-! the reference's digits -/
def tabS : List UInt8 := [48, 49, 50, 51, 52, 53, 54, 55, 56, 57, 97, 98, 99, 100, 101, 102]
def tabG : List UInt8 := [48, 49, 50, 51, 52, 53, 54, 55, 56, 57, 65, 66, 67, 68, 69, 70]

theorem tab_digit : ∀ j : Fin 16, digitV (tabS.getD j.val 0).toNat = j.val ∧ digitV (tabG.getD j.val 0).toNat = j.val := by decide +kernel

theorem tab_none_fin : ∀ c : Fin 256, (∀ j : Fin 16, ((tabS.getD j.val 0).toNat : Int) ≠ c.val ∧ ((tabG.getD j.val 0).toNat : Int) ≠ c.val) → digitV c.val = -1 := by decide +kernel

theorem tab_none (c : Int) (h0 : 0 ≤ c) (h1 : c ≤ 255) (h : ∀ j, j < 16 → ((tabS.getD j 0).toNat : Int) ≠ c ∧ ((tabG.getD j 0).toNat : Int) ≠ c) : digitV c = -1 := by
  obtain ⟨n, rfl⟩ := Int.eq_ofNat_of_zero_le h0
  exact tab_none_fin ⟨n, by omega⟩ (fun j => h j.val j.isLt)

/-- A number's shortest text, in small letters. -/
def hexT (n : Nat) : List UInt8 := if n < 16 then [tabS.getD n 0] else hexT (n / 16) ++ [tabS.getD (n % 16) 0]
decreasing_by omega

theorem digit_tab (d : Nat) (h : d < 16) : digitV (tabS.getD d 0).toNat = d := (tab_digit ⟨d, h⟩).1

theorem digs_snoc (l : List UInt8) (c : UInt8) : (l ++ [c]).length ≤ digs (l ++ [c]) ↔ l.length ≤ digs l ∧ 0 ≤ digitV c.toNat := by
  unfold digs
  induction l with
  | nil => by_cases h : 0 ≤ digitV c.toNat <;> simp [List.takeWhile_cons, isDig, h]
  | cons a l ih =>
    by_cases ha : 0 ≤ digitV a.toNat
    · simp only [List.cons_append, List.takeWhile_cons, isDig, ha, decide_true, if_true, List.length_cons, Nat.add_le_add_iff_right]
      exact ih
    · simp [List.takeWhile_cons, isDig, ha]

theorem hexT_ne (n : Nat) : hexT n ≠ [] := by
  unfold hexT
  split <;> simp

theorem hexT_len (k : Nat) : ∀ n, n < 16 ^ (k + 1) → (hexT n).length ≤ k + 1 := by
  induction k with
  | zero => intro n h; unfold hexT; rw [if_pos (by simpa using h)]; simp
  | succ k ih =>
    intro n h
    unfold hexT
    split
    · simp
    · have h2 : n / 16 < 16 ^ (k + 1) := by rw [Nat.pow_succ] at h; omega
      have := ih (n / 16) h2
      simp; omega

theorem hexT_digs (n : Nat) : (hexT n).length ≤ digs (hexT n) := by
  induction n using Nat.strongRecOn with
  | _ n ih =>
    unfold hexT
    split
    · rename_i h
      have := (digs_snoc [] (tabS.getD n 0)).2 ⟨by simp, by rw [digit_tab n h]; omega⟩
      simpa using this
    · rename_i h
      exact (digs_snoc _ _).2 ⟨ih (n / 16) (by omega), by rw [digit_tab _ (by omega)]; omega⟩

theorem hexT_val (n : Nat) : valL (hexT n) = n := by
  induction n using Nat.strongRecOn with
  | _ n ih =>
    unfold hexT
    split
    · rename_i h
      have h1 : valL [tabS.getD n 0] = 16 * 0 + digitV (tabS.getD n 0).toNat := rfl
      rw [h1, digit_tab n h]; omega
    · rename_i h
      rw [valL_snoc, ih (n / 16) (by omega), digit_tab _ (by omega)]
      omega

/-- What is parsed of a text all of whose bytes are digits. -/
theorem parseV_of {l : List UInt8} (h0 : l ≠ []) (h : l.length ≤ digs l) : parseV l = if valL l ≤ 4611686018427387903 then (valL l, 0) else (0, 3) := by
  unfold parseV
  rw [if_neg (by simp only [not_or]; exact ⟨h0, by omega⟩)]

theorem parseV_hexT (n : Nat) : parseV (hexT n) = if (n : Int) ≤ 4611686018427387903 then ((n : Int), 0) else (0, 3) := by
  rw [parseV_of (hexT_ne n) (hexT_digs n), hexT_val]

theorem parseV_more (n : Nat) (c : UInt8) (h : 0 ≤ digitV c.toNat) : parseV (hexT n ++ [c]) = moreV n c.toNat := by
  have hv : valL (hexT n ++ [c]) = 16 * n + digitV c.toNat := by rw [valL_snoc, hexT_val]
  rw [parseV_of (by simp) ((digs_snoc _ _).2 ⟨hexT_digs n, h⟩), hv]
  unfold moreV
  rw [if_neg (show ¬ digitV c.toNat < 0 by omega)]

end Go.Proofs.YtfeljjlpdefnmaaGreat
