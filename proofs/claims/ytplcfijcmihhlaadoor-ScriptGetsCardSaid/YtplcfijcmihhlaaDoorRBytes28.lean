/-
  The plain law of layer 28's words: the reference's Bytes and Same, as printed, beside the program's.
-/
import Derived.Test.YtplcfijcmihhlaaDoorWord28
import Derived.Test.YtplcfijcmihhlaaDoorPGetx1
import Derived.Test.YtplcfijcmihhlaaDoorPsamex1
namespace Go.Proofs.YtplcfijcmihhlaaDoor
open Go.RowKit Go.Proofs.YtplcfijcmihhlaaDoorW.PrintWords Go.Proofs.YtplcfijcmihhlaaDoor.PGet Go.Proofs.YtplcfijcmihhlaaDoor.Psame
set_option linter.unusedVariables false
set_option linter.unusedSimpArgs false

def refDig (c : UInt8) : Int := if 48 ≤ c.toNat ∧ c.toNat ≤ 57 then (c.toNat : Int) - 48 else if 97 ≤ c.toNat ∧ c.toNat ≤ 102 then (c.toNat : Int) - 87 else -1
theorem all_u8 {p : UInt8 → Prop} (h : ∀ k : Fin 256, p (UInt8.ofNat k.val)) (c : UInt8) : p c := by
  have := h ⟨c.toNat, c.toNat_lt⟩
  rwa [show UInt8.ofNat c.toNat = c from by simp] at this
theorem refDig_eq (c : UInt8) : refDig c = if 0 ≤ digitV c.toNat ∧ hexd (digitV c.toNat).toNat = c then digitV c.toNat else -1 := all_u8 (p := fun c => refDig c = if 0 ≤ digitV c.toNat ∧ hexd (digitV c.toNat).toNat = c then digitV c.toNat else -1) (by decide +kernel) c
theorem digit_f (k : Nat) (c : UInt8) : PGet.catchpitref28_digit.f (k + 1) (c.toNat : Int) = some (refDig c) := by
  show PGet.catchpitref28_digit.f 1 (c.toNat : Int) = some (refDig c)
  exact all_u8 (p := fun c => PGet.catchpitref28_digit.f 1 (c.toNat : Int) = some (refDig c)) (by decide +kernel) c

def allRef (l : List UInt8) : Bool := l.all fun c => decide (0 ≤ refDig c)
theorem refDig_pos {c : UInt8} (h : 0 ≤ refDig c) : refDig c = digitV c.toNat ∧ 0 ≤ digitV c.toNat ∧ hexd (digitV c.toNat).toNat = c := by
  have he := refDig_eq c
  by_cases hc : 0 ≤ digitV c.toNat ∧ hexd (digitV c.toNat).toNat = c
  · rw [if_pos hc] at he; exact ⟨he, hc⟩
  · rw [if_neg hc] at he; omega
theorem refDig_neg {c : UInt8} (h : refDig c < 0) : ¬ (0 ≤ digitV c.toNat ∧ hexd (digitV c.toNat).toNat = c) := by
  intro hc
  have he := refDig_eq c
  rw [if_pos hc] at he
  omega
theorem canon : ∀ (l : List UInt8), l.length % 2 = 0 → (allRef l = true ↔ (allDig l = true ∧ hexL (pairs l) = l))
  | [], _ => by simp [allRef, allDig, pairs, hexL]
  | [a], h => by simp at h
  | a :: b :: r, h => by
    have ih := canon r (by simp only [List.length_cons] at h; omega)
    have e1 : allRef (a :: b :: r) = (decide (0 ≤ refDig a) && (decide (0 ≤ refDig b) && allRef r)) := rfl
    have e2 : allDig (a :: b :: r) = (decide (0 ≤ digitV a.toNat) && (decide (0 ≤ digitV b.toNat) && allDig r)) := rfl
    have e3 : hexL (pairs (a :: b :: r)) = hexd ((pairV a b).toNat / 16) :: hexd ((pairV a b).toNat % 16) :: hexL (pairs r) := by simp [pairs, hexL]
    rw [e1, e2, e3]
    simp only [Bool.and_eq_true, decide_eq_true_eq, List.cons.injEq]
    have ha := digitV_bd a.toNat
    have hb := digitV_bd b.toNat
    constructor
    · rintro ⟨h1, h2, h3⟩
      obtain ⟨a1, a2, a3⟩ := refDig_pos h1
      obtain ⟨b1, b2, b3⟩ := refDig_pos h2
      obtain ⟨c1, c2⟩ := ih.1 h3
      have i1 : (pairV a b).toNat / 16 = (digitV a.toNat).toNat := by unfold pairV; omega
      have i2 : (pairV a b).toNat % 16 = (digitV b.toNat).toNat := by unfold pairV; omega
      exact ⟨⟨a2, b2, c1⟩, by rw [i1]; exact a3, by rw [i2]; exact b3, c2⟩
    · rintro ⟨⟨h1, h2, h3⟩, h4, h5, h6⟩
      have i1 : (pairV a b).toNat / 16 = (digitV a.toNat).toNat := by unfold pairV; omega
      have i2 : (pairV a b).toNat % 16 = (digitV b.toNat).toNat := by unfold pairV; omega
      rw [i1] at h4
      rw [i2] at h5
      refine ⟨?_, ?_, ih.2 ⟨h3, h6⟩⟩
      · rw [refDig_eq, if_pos ⟨h1, h4⟩]; exact h1
      · rw [refDig_eq, if_pos ⟨h2, h5⟩]; exact h2

theorem bt_get (s : ByteArray) (i : Nat) {c : UInt8} (h : s.data.toList[i]? = some c) : bt s (i : Int) = (c.toNat : Int) := by
  have hl : i < s.data.toList.length := (List.getElem?_eq_some_iff.1 h).1
  have hs : i < s.size := by simpa using hl
  unfold bt
  rw [dif_pos (by simpa using hs)]
  rw [List.getElem?_eq_getElem hl] at h
  have h := Option.some.inj h
  rw [← h]
  simp only [Int.toNat_natCast]
  rfl
theorem bytes_loop (s : ByteArray) (hs : s.size ≤ 100000) : ∀ (rest : List UInt8) (pre : List UInt8) (out : List Int) (k : Nat), s.data.toList = pre ++ rest → rest.length % 2 = 0 → out.length ≤ 100000 - rest.length → rest.length + 2 ≤ k →
    PGet.catchpitref28_Bytes.l0 k s out (pre.length : Int) = some (if allRef rest = true then (out ++ pairs rest, true) else ([], false))
  | [], pre, out, k, he, _, _, hk => by
    obtain ⟨k, rfl⟩ : ∃ k', k = k' + 1 := ⟨k - 1, by simp at hk; omega⟩
    have hl : s.size = pre.length := by
      have : s.data.toList.length = s.size := by simp
      rw [← this, he]; simp
    unfold PGet.catchpitref28_Bytes.l0
    rw [if_neg (by omega)]
    simp [allRef, pairs]
  | [a], pre, out, k, _, h, _, _ => by simp at h
  | a :: b :: r, pre, out, k, he, hm, ho, hk => by
    simp only [List.length_cons] at hm ho hk
    obtain ⟨k, rfl⟩ : ∃ k', k = k' + 2 := ⟨k - 2, by omega⟩
    have hsz : s.size = pre.length + (r.length + 2) := by
      have : s.data.toList.length = s.size := by simp
      rw [← this, he]; simp
    have ga : s.data.toList[pre.length]? = some a := by rw [he]; simp
    have gb : s.data.toList[pre.length + 1]? = some b := by rw [he, List.getElem?_append_right (by omega)]; simp
    have w1 : wrap64 ((pre.length : Int) + 1) = ((pre.length + 1 : Nat) : Int) := by rw [IntWalk.wrap64_in _ (by omega)]; rfl
    have w2 : wrap64 ((pre.length : Int) + 2) = ((pre.length + 2 : Nat) : Int) := by rw [IntWalk.wrap64_in _ (by omega)]; rfl
    unfold PGet.catchpitref28_Bytes.l0
    rw [if_pos (by omega), if_pos (by omega), bt_get s _ ga, digit_f, Option.bind_some, w1, if_pos (by omega), if_pos (by omega), bt_get s _ gb, digit_f, Option.bind_some, w2]
    by_cases h1 : refDig a < 0
    · rw [if_pos h1, if_neg]
      simp only [allRef, List.all_cons, Bool.and_eq_true, decide_eq_true_eq]
      omega
    · rw [if_neg h1]
      by_cases h2 : refDig b < 0
      · rw [if_pos h2, if_neg]
        simp only [allRef, List.all_cons, Bool.and_eq_true, decide_eq_true_eq]
        omega
      · rw [if_neg h2, if_pos (by omega)]
        obtain ⟨a1, a2, _⟩ := refDig_pos (c := a) (by omega)
        obtain ⟨b1, b2, _⟩ := refDig_pos (c := b) (by omega)
        have ha := digitV_bd a.toNat
        have hb := digitV_bd b.toNat
        have hv : (wrap64 ((wrap64 (16 * refDig a)) + refDig b)) % 256 = pairV a b := by
          rw [a1, b1, IntWalk.wrap64_in (16 * digitV a.toNat) (by omega), IntWalk.wrap64_in _ (by omega)]
          unfold pairV; omega
        rw [hv]
        have ih := bytes_loop s hs r (pre ++ [a, b]) (out ++ [pairV a b]) (k + 1) (by rw [he]; simp) (by omega) (by simp; omega) (by omega)
        rw [show (pre ++ [a, b]).length = pre.length + 2 by simp] at ih
        rw [ih]
        have e1 : allRef (a :: b :: r) = allRef r := by
          simp only [allRef, List.all_cons]
          rw [decide_eq_true (show 0 ≤ refDig a by omega), decide_eq_true (show 0 ≤ refDig b by omega)]; simp
        rw [e1]
        simp [pairs]

theorem bytes_j0 (k : Nat) (s : ByteArray) (b : Bool) : PGet.catchpitref28_Bytes.j0 (k + 1) s b = if b = true then some ([], false) else PGet.catchpitref28_Bytes.l0 k s [] 0 := by
  rw [PGet.catchpitref28_Bytes.j0]
theorem refBytes (s : ByteArray) (hs : s.size ≤ 100000) : PGet.catchpitref28_Bytes.f (s.size + 4) s = some ((bytesS s).getD [], (bytesS s).isSome) := by
  have hlen : s.data.toList.length = s.size := by simp
  unfold PGet.catchpitref28_Bytes.f bytesS
  rw [toList_eq]
  by_cases h1 : s.data.toList = [45]
  · rw [if_pos h1, if_pos h1]; rfl
  · rw [if_neg h1, if_neg h1]
    by_cases h0 : s.size = 0
    · have hnil : s.data.toList = [] := List.length_eq_zero_iff.1 (by omega)
      rw [if_pos (by omega), bytes_j0, if_pos rfl, if_neg]
      · rfl
      · rintro ⟨_, h2⟩
        rw [hnil] at h2
        have h3 := congrArg ByteArray.size h2
        rw [h0] at h3
        have h4 : (hexS (pairs [])).size = 1 := rfl
        omega
    · rw [if_neg (by omega), bytes_j0]
      by_cases hm : s.size % 2 = 0
      · have e0 : (((s.size : Int) % 2) != 0) = false := by
          have : (s.size : Int) % 2 = 0 := by omega
          rw [this]; rfl
        rw [e0, if_neg (show ¬ (false = true) by simp)]
        have hl := bytes_loop s hs s.data.toList [] [] (s.size + 3) (by simp) (by omega) (by simp) (by omega)
        rw [show (([] : List UInt8).length : Int) = 0 from rfl] at hl
        rw [hl]
        have hc := canon s.data.toList (by omega)
        have ht : s.data.toList.take (2 * (s.size / 2)) = s.data.toList := by rw [show 2 * (s.size / 2) = s.data.toList.length by omega, List.take_length]
        rw [ht]
        have hpn : pairs s.data.toList ≠ [] := by
          intro e
          have := pairs_len s.data.toList
          rw [e] at this
          simp only [List.length_nil] at this
          omega
        have hx : (hexS (pairs s.data.toList) = s) ↔ (hexL (pairs s.data.toList) = s.data.toList) := by
          unfold hexS
          rw [if_neg hpn]
          constructor
          · intro h; exact congrArg (fun b : ByteArray => b.data.toList) h
          · intro h; exact WideShapes.bytes_inj h
        by_cases hr : allRef s.data.toList = true
        · rw [if_pos hr]
          obtain ⟨c1, c2⟩ := hc.1 hr
          rw [if_pos ⟨c1, hx.2 c2⟩]
          rfl
        · rw [if_neg hr, if_neg (fun ⟨c1, c2⟩ => hr (hc.2 ⟨c1, hx.1 c2⟩))]
          rfl
      · have e0 : (((s.size : Int) % 2) != 0) = true := by
          have : (s.size : Int) % 2 = 1 := by omega
          rw [this]; rfl
        rw [e0, if_pos rfl, if_neg]
        · rfl
        · rintro ⟨_, h2⟩
          have h3 := congrArg ByteArray.size h2
          unfold hexS at h3
          split at h3
          · have h4 : (⟨#[45]⟩ : ByteArray).size = 1 := rfl
            have hp : pairs s.data.toList = [] := by assumption
            have h5 : s.size = 1 := by omega
            -- a single byte that is no '-'
            have h6 := congrArg (fun b : ByteArray => b.data.toList) h2
            unfold hexS at h6
            rw [if_pos hp] at h6
            exact h1 h6.symm
          · have h4 : (⟨(hexL (pairs s.data.toList)).toArray⟩ : ByteArray).size = 2 * (pairs s.data.toList).length := by
              show (hexL (pairs s.data.toList)).toArray.size = _
              rw [List.size_toArray, hexL_len]
            omega

theorem rd_at {l : List Int} {i : Nat} (h : i < l.length) : rd l (i : Int) = l[i] := rd_get h
theorem same_loop (a b : List Int) (hl : a.length = b.length) (ha : a.length ≤ 1000000) : ∀ (n i k : Nat), a.length - i = n → i ≤ a.length → n + 1 ≤ k → Psame.catchpitref03_Same.l0 k a b (i : Int) = some (decide (a.drop i = b.drop i)) := by
  intro n
  induction n with
  | zero =>
    intro i k hn hi hk
    obtain ⟨k, rfl⟩ : ∃ k', k = k' + 1 := ⟨k - 1, by omega⟩
    unfold Psame.catchpitref03_Same.l0
    rw [if_neg (by omega), List.drop_of_length_le (by omega), List.drop_of_length_le (by omega)]
    simp
  | succ n ih =>
    intro i k hn hi hk
    obtain ⟨k, rfl⟩ : ∃ k', k = k' + 1 := ⟨k - 1, by omega⟩
    have h1 : i < a.length := by omega
    have h2 : i < b.length := by omega
    unfold Psame.catchpitref03_Same.l0
    rw [if_pos (by omega), if_pos (by omega), if_pos (by omega), rd_at h1, rd_at h2]
    have d1 : a.drop i = a[i] :: a.drop (i + 1) := List.drop_eq_getElem_cons h1
    have d2 : b.drop i = b[i] :: b.drop (i + 1) := List.drop_eq_getElem_cons h2
    rw [d1, d2]
    by_cases he : a[i] = b[i]
    · rw [if_pos he, show wrap64 ((i : Int) + 1) = ((i + 1 : Nat) : Int) by rw [IntWalk.wrap64_in _ (by omega)]; rfl, ih (i + 1) k (by omega) (by omega) (by omega)]
      exact congrArg some (decide_eq_decide.2 (by rw [List.cons.injEq]; simp [he]))
    · rw [if_neg he]
      exact congrArg some (decide_eq_false (by rw [List.cons.injEq]; simp [he])).symm
theorem refSame (a b : List Int) (ha : a.length ≤ 1000000) : Psame.catchpitref03_Same.f (a.length + 1) a b = some (decide (a = b)) := by
  unfold Psame.catchpitref03_Same.f
  by_cases hl : a.length = b.length
  · rw [if_pos (by omega)]
    have := same_loop a b hl ha a.length 0 (a.length + 1) (by omega) (by omega) (by omega)
    simpa using this
  · rw [if_neg (by omega)]
    have : a ≠ b := fun e => hl (by rw [e])
    simp [this]

theorem Same_any (A0 : Option Addr) (c0 : Nat) (l0 : List Int) (A1 : Option Addr) (c1 : Nat) (l1 : List Int) (w : World) (hr0 : Kd.C (Kd.int .u8) w A0 l0.length l0) (hc0 : l0.length ≤ c0) (hr1 : Kd.C (Kd.int .u8) w A1 l1.length l1) (hc1 : l1.length ≤ c1) (hl : l0.length ≤ 1000000) :
    Calls Tryd.prog 23 #[.slice A0 l0.length c0, .slice A1 l1.length c1] w fun e w' => e = .returned (.bool (decide (l0 = l1))) ∧ Below w.heap.size w w' :=
  (Psame.catchpitref03_Same.calls _ A0 c0 l0 A1 c1 l1 _ w hr0 hc0 hr1 hc1 (refSame l0 l1 hl)).mono fun e w' h => ⟨h.1, h.2.below⟩
theorem RBytes_any (s : ByteArray) (hs : s.size ≤ 100000) (w : World) :
    Calls Tryd.prog 21 #[.string s] w fun e w' => ∃ v, e = .returned (.tuple #[v, .bool (bytesS s).isSome]) ∧ Kd.R (Kd.int .u8) 5 w' w.heap.size (fun _ => True) v ((bytesS s).getD []) ∧ Below w.heap.size w w' :=
  PGet.catchpitref28_Bytes.calls _ s _ _ w (refBytes s hs)

end Go.Proofs.YtplcfijcmihhlaaDoor
