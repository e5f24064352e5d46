/-
  Layer 28: the reference's Get: its words, its state, the code behind a region.
-/
import Derived.Test.YtplcfijcmihhlaaDoorPGB28
import Derived.Test.YtplcfijcmihhlaaDoorPGetx2
import Derived.Test.YtplcfijcmihhlaaDoorRBytes28
import Derived.Test.YtplcfijcmihhlaaDoorRead28
namespace Go.Proofs.YtplcfijcmihhlaaDoor
open Go.RowKit Go.Proofs.YtplcfijcmihhlaaDoorW.PrintWords
set_option linter.unusedVariables false
set_option linter.unusedSimpArgs false

/-! ### Words -/
theorem words_hit (t : ByteArray) (j : Nat) (h : Lib.indexB t ⟨#[32]⟩ = (j : Int)) : wordsS t = t.extract 0 j :: wordsS (t.extract (j + 1) t.size) := by
  unfold wordsS
  rw [Lib.countB_hit _ _ _ (by decide) h, Nat.add_comm 1, Lib.splitB_hit _ _ _ _ _ h]
  rfl
theorem words_miss (t : ByteArray) (h : Lib.indexB t ⟨#[32]⟩ = -1) : wordsS t = [t] := by
  unfold wordsS
  rw [Lib.countB_miss _ _ h]
  rfl
theorem dl_len (s : ByteArray) : s.data.toList.length = s.size := (Lib.size_eq s).symm
theorem ex_data (s : ByteArray) (a b : Nat) : (s.extract a b).data.toList = (s.data.toList.drop a).take (b - a) := by
  have := Lib.extract_toList s a b
  rwa [Lib.toList_data] at this
theorem refSplit_loop (s : ByteArray) (hs : s.size ≤ 1000000) : ∀ (n i k a : Nat) (acc : List ByteArray), s.size - i = n → i ≤ s.size → a ≤ i → acc.length ≤ i → n + 2 ≤ k → (∀ j, a ≤ j → j < i → s.data.toList[j]? ≠ some 32) →
    PGet.catchpitref27_Split.l0 k s acc (a : Int) (i : Int) = some (acc ++ wordsS (s.extract a s.size)) := by
  intro n
  induction n with
  | zero =>
    intro i k a acc hn hi ha hl hk hno
    obtain ⟨k, rfl⟩ : ∃ k', k = k' + 2 := ⟨k - 2, by omega⟩
    have hi' : i = s.size := by omega
    subst hi'
    have w1 : wrap64 ((s.size : Int) + 1) = (s.size : Int) + 1 := IntWalk.wrap64_in _ (by omega)
    rw [PGet.catchpitref27_Split.l0, if_pos (by omega), if_pos rfl, if_pos (by omega), if_pos (by omega), if_pos (by omega), PGet.catchpitref27_Split.l0, w1, if_neg (by omega)]
    have hm : Lib.indexB (s.extract a s.size) ⟨#[32]⟩ = -1 := by
      show Lib.index (s.extract a s.size).data.toList [32] = _
      rw [Lib.index_one]
      apply ib_miss
      intro hmem
      obtain ⟨j, hj⟩ := List.mem_iff_getElem?.1 hmem
      rw [ex_data, List.getElem?_take] at hj
      split at hj
      · rename_i hlt
        rw [List.getElem?_drop] at hj
        exact hno (a + j) (by omega) (by omega) hj
      · cases hj
    rw [words_miss _ hm]
    rfl
  | succ n ih =>
    intro i k a acc hn hi ha hl hk hno
    obtain ⟨k, rfl⟩ : ∃ k', k = k' + 1 := ⟨k - 1, by omega⟩
    have h1 : i < s.size := by omega
    have h1' : i < s.data.toList.length := by rw [dl_len]; exact h1
    have hg : s.data.toList[i]? = some s.data.toList[i] := List.getElem?_eq_getElem h1'
    have w1 : wrap64 ((i : Int) + 1) = ((i + 1 : Nat) : Int) := by rw [IntWalk.wrap64_in _ (by omega)]; rfl
    rw [PGet.catchpitref27_Split.l0, if_pos (by omega), if_neg (by omega), if_pos (by omega), if_pos (by omega), bt_get s i hg, w1]
    by_cases hc : s.data.toList[i] = 32
    · have hcn : ((s.data.toList[i]).toNat : Int) = 32 := by rw [hc]; rfl
      rw [if_pos hcn, if_pos (by omega), if_pos (by omega), if_pos (by omega), ih (i + 1) k (i + 1) _ (by omega) (by omega) (Nat.le_refl _) (by simp; omega) (by omega) (fun j h2 h3 => by omega)]
      have hi2 : Lib.indexB (s.extract a s.size) ⟨#[32]⟩ = ((i - a : Nat) : Int) := by
        show Lib.index (s.extract a s.size).data.toList [32] = _
        rw [Lib.index_one, ex_data]
        have e : (s.data.toList.drop a).take (s.size - a) = (s.data.toList.drop a).take (i - a) ++ 32 :: s.data.toList.drop (i + 1) := by
          rw [List.take_of_length_le (by rw [List.length_drop, dl_len]; omega)]
          have e1 : s.data.toList.drop i = 32 :: s.data.toList.drop (i + 1) := by rw [List.drop_eq_getElem_cons h1', hc]
          rw [← e1]
          have e2 : s.data.toList.drop i = (s.data.toList.drop a).drop (i - a) := by rw [List.drop_drop]; congr 1; omega
          rw [e2, List.take_append_drop]
        rw [e, ib_hit]
        · rw [List.length_take, List.length_drop, dl_len]; omega
        · intro hmem
          obtain ⟨j, hj⟩ := List.mem_iff_getElem?.1 hmem
          rw [List.getElem?_take] at hj
          split at hj
          · rename_i hlt
            rw [List.getElem?_drop] at hj
            exact hno (a + j) (by omega) (by omega) hj
          · cases hj
      rw [words_hit _ _ hi2, List.append_assoc]
      congr 1
      have e3 : (s.extract a s.size).extract 0 (i - a) = s.extract ((a : Int)).toNat ((i : Int)).toNat := by
        apply WideShapes.bytes_inj
        rw [Lib.extract_from_zero, ex_data, ex_data, List.take_take]
        congr 1
        show min (i - a) (s.size - a) = i - a
        omega
      have e4 : (s.extract a s.size).extract (i - a + 1) (s.extract a s.size).size = s.extract (i + 1) s.size := by
        apply WideShapes.bytes_inj
        rw [Lib.extract_to_end, ex_data, ex_data, List.drop_take, List.drop_drop]
        congr 1
        · omega
        · congr 1; omega
      rw [e3, e4]
      rfl
    · have hcn : ¬ ((s.data.toList[i]).toNat : Int) = 32 := fun e => hc (UInt8.toNat_inj.1 (by show _ = 32; omega))
      rw [if_neg hcn, ih (i + 1) k a acc (by omega) (by omega) (by omega) (by omega) (by omega) (fun j h2 h3 => by
        by_cases hj : j = i
        · subst hj; rw [hg]; intro e; exact hc (Option.some.inj e)
        · exact hno j h2 (by omega))]
theorem ex_all (s : ByteArray) : s.extract 0 s.size = s := by
  apply WideShapes.bytes_inj
  rw [Lib.extract_from_zero, List.take_of_length_le (by rw [dl_len]; omega)]
theorem refSplit (s : ByteArray) (hs : s.size ≤ 1000000) : PGet.catchpitref27_Split.f (s.size + 2) s = some (wordsS s) := by
  have := refSplit_loop s hs s.size 0 (s.size + 2) 0 [] (by omega) (by omega) (by omega) (by simp) (by omega) (fun j h1 h2 => by omega)
  rw [ex_all] at this
  exact this

/-! ### Ends -/
theorem refEnd (w a b : ByteArray) : PGet.catchpitref28_end.f w a b = some (idx3 a.data.toList b.data.toList wReset w.data.toList) := by
  unfold PGet.catchpitref28_end.f idx3 wReset
  rw [Lib.toList_data, Lib.toList_data, Lib.toList_data]
  by_cases h1 : w.data.toList = a.data.toList
  · rw [if_pos h1, if_pos h1]
  · rw [if_neg h1, if_neg h1]
    by_cases h2 : w.data.toList = b.data.toList
    · rw [if_pos h2, if_pos h2]
    · rw [if_neg h2, if_neg h2]
      split <;> rfl

/-! ### Numbers -/
def valD (l : List UInt8) : Int := l.foldl (fun n c => 10 * n + ((c.toNat : Int) - 48)) 0
theorem valD_snoc (l : List UInt8) (c : UInt8) : valD (l ++ [c]) = 10 * valD l + ((c.toNat : Int) - 48) := by simp [valD]
theorem isDec_bd {c : UInt8} (h : isDec c = true) : 48 ≤ (c.toNat : Int) ∧ (c.toNat : Int) ≤ 57 := of_decide_eq_true h
theorem allDec_mem {l : List UInt8} (h : allDec l = true) {c : UInt8} (hc : c ∈ l) : isDec c = true := List.all_eq_true.1 h c hc
theorem val_step (l : List UInt8) : ∀ (n : Nat), n ≤ l.length → allDec l = true → 0 ≤ valD (l.take n) ∧ numFold (l.take n) = numFold (l.take n) ∧
    ((numFold (l.take n)).2 = true → 4611686018427387903 < valD (l.take n)) ∧ ((numFold (l.take n)).2 = false → (numFold (l.take n)).1 = valD (l.take n) ∧ valD (l.take n) ≤ 4611686018427387903)
  | 0, _, _ => by simp [valD, numFold]
  | n + 1, h, hd => by
    obtain ⟨i0, -, i1, i2⟩ := val_step l n (by omega) hd
    have hb := isDec_bd (allDec_mem hd (List.getElem_mem (show n < l.length by omega)))
    rw [List.take_succ_eq_append_getElem (by omega), valD_snoc, numFold_snoc]
    refine ⟨by omega, rfl, ?_, ?_⟩
    · intro ht
      unfold numStep at ht
      split at ht
      · rename_i hc
        rcases hc with hc | hc
        · have := i1 hc; omega
        · by_cases hb2 : (numFold (l.take n)).2 = true
          · have := i1 hb2; omega
          · have := i2 (by simpa using hb2); omega
      · cases ht
    · intro ht
      unfold numStep at ht ⊢
      split at ht
      · cases ht
      · rename_i hc
        rw [if_neg hc]
        have hc1 : (numFold (l.take n)).2 = false := by
          cases hx : (numFold (l.take n)).2 with
          | false => rfl
          | true => exact absurd (.inl hx) hc
        have hc2 : ¬ (numFold (l.take n)).1 > (4611686018427387903 - (((l[n]).toNat : Int) - 48)) / 10 := fun e => hc (.inr e)
        have := i2 hc1
        refine ⟨?_, ?_⟩
        · show 10 * (numFold (l.take n)).1 + _ = _; omega
        · omega
theorem numS_val (l : List UInt8) (h0 : l ≠ []) (hd : allDec l = true) : numS l = if 4611686018427387903 < valD l then (0, 3) else (valD l, 0) := by
  obtain ⟨-, -, i1, i2⟩ := val_step l l.length (Nat.le_refl _) hd
  rw [List.take_length] at i1 i2
  unfold numS
  rw [if_pos hd, if_neg h0]
  cases hx : (numFold l).2 with
  | true => rw [if_pos rfl, if_pos (i1 hx)]
  | false =>
    have := i2 hx
    rw [if_neg (by simp), if_neg (by omega), this.1]
theorem numS_bad (l : List UInt8) (hd : allDec l = false) : numS l = (0, 2) := by
  unfold numS; rw [if_neg (by simp [hd])]

def p10 : Nat → Int
  | 0 => 1
  | n + 1 => 10 * p10 n
theorem p10_pos : ∀ n, 1 ≤ p10 n
  | 0 => Int.le_refl _
  | n + 1 => by have := p10_pos n; rw [p10]; omega
theorem p10_mono {a : Nat} : ∀ {b : Nat}, a ≤ b → p10 a ≤ p10 b
  | 0, h => by rw [Nat.le_zero.1 h]; exact Int.le_refl _
  | b + 1, h => by
    by_cases e : a = b + 1
    · rw [e]; exact Int.le_refl _
    · have := p10_mono (a := a) (b := b) (by omega)
      have := p10_pos b
      rw [p10]; omega
theorem p10_18 : p10 18 = 1000000000000000000 := by simp [p10]
theorem p10_19 : p10 19 = 10000000000000000000 := by simp [p10]
/-- The value from a place on. -/
theorem valD_from (l : List UInt8) (hd : allDec l = true) (a : Nat) (hz : ∀ j, j < a → l[j]? = some 48) : ∀ n, a + n ≤ l.length → valD (l.take (a + n)) = valD ((l.drop a).take n) ∧ valD ((l.drop a).take n) < p10 n ∧ 0 ≤ valD ((l.drop a).take n)
  | 0, h => by
    have h0 : ∀ b, b ≤ a → valD (l.take b) = 0 := by
      intro b
      induction b with
      | zero => intro _; rfl
      | succ b ih =>
        intro hb
        have hl : b < l.length := by omega
        have := hz b (by omega)
        rw [List.getElem?_eq_getElem hl] at this
        rw [List.take_succ_eq_append_getElem hl, valD_snoc, ih (by omega), Option.some.inj this]; rfl
    rw [Nat.add_zero, h0 a (Nat.le_refl _)]
    simp [valD, p10]
  | n + 1, h => by
    obtain ⟨i1, i2, i3⟩ := valD_from l hd a hz n (by omega)
    have hl : a + n < l.length := by omega
    have hb := isDec_bd (allDec_mem hd (List.getElem_mem hl))
    have e1 : (l.drop a).take (n + 1) = (l.drop a).take n ++ [l[a + n]] := by
      rw [List.take_succ_eq_append_getElem (by rw [List.length_drop]; omega), List.getElem_drop]
    rw [show a + (n + 1) = (a + n) + 1 by omega, List.take_succ_eq_append_getElem hl, valD_snoc, e1, valD_snoc, i1]
    refine ⟨rfl, ?_, by omega⟩
    rw [p10]
    omega
theorem valD_low (l : List UInt8) (hd : allDec l = true) (a : Nat) (h0 : a < l.length) (h1 : l[a]? ≠ some 48) : ∀ n, a + (n + 1) ≤ l.length → p10 n ≤ valD ((l.drop a).take (n + 1))
  | 0, h => by
    have hb := isDec_bd (allDec_mem hd (List.getElem_mem h0))
    have hne : (l[a].toNat : Int) ≠ 48 := fun e => h1 (by rw [List.getElem?_eq_getElem h0]; congr 1; exact UInt8.toNat_inj.1 (by show _ = 48; omega))
    have e1 : (l.drop a).take 1 = [l[a]] := by rw [List.drop_eq_getElem_cons h0]; rfl
    rw [e1]
    show (1 : Int) ≤ 10 * 0 + _
    omega
  | n + 1, h => by
    have ih := valD_low l hd a h0 h1 n (by omega)
    have hl : a + (n + 1) < l.length := by omega
    have hb := isDec_bd (allDec_mem hd (List.getElem_mem hl))
    have e1 : (l.drop a).take (n + 1 + 1) = (l.drop a).take (n + 1) ++ [l[a + (n + 1)]] := by
      rw [List.take_succ_eq_append_getElem (by rw [List.length_drop]; omega), List.getElem_drop]
    rw [e1, valD_snoc, p10]
    omega

theorem num07_l1 (s : ByteArray) (hs : s.size ≤ 1000000) (hd : allDec s.data.toList = true) (a : Nat) (ha : s.size - a ≤ 19) (hal : a ≤ s.size) (hz : ∀ j, j < a → s.data.toList[j]? = some 48) : ∀ (n i k : Nat), s.size - i = n → i ≤ s.size → a ≤ i → n + 1 ≤ k →
    PGet.catchpitref07_Number.l1 k s (valD (s.data.toList.take i)) (i : Int) = some (if 4611686018427387903 < valD s.data.toList then (0, 3) else (valD s.data.toList, 0)) := by
  intro n
  induction n with
  | zero =>
    intro i k hn hi ha' hk
    obtain ⟨k, rfl⟩ : ∃ k', k = k' + 1 := ⟨k - 1, by omega⟩
    unfold PGet.catchpitref07_Number.l1
    rw [if_neg (by omega), List.take_of_length_le (by rw [dl_len]; omega)]
    by_cases h : valD s.data.toList > 4611686018427387903
    · rw [if_pos h, if_pos h]
    · rw [if_neg h, if_neg h]
  | succ n ih =>
    intro i k hn hi ha' hk
    obtain ⟨k, rfl⟩ : ∃ k', k = k' + 1 := ⟨k - 1, by omega⟩
    have h1 : i < s.size := by omega
    have h1' : i < s.data.toList.length := by rw [dl_len]; exact h1
    have hb := isDec_bd (allDec_mem hd (List.getElem_mem h1'))
    obtain ⟨v1, v2, v3⟩ := valD_from s.data.toList hd a hz (i - a) (by rw [dl_len]; omega)
    rw [show a + (i - a) = i by omega] at v1
    have v4 := p10_mono (a := i - a) (b := 18) (by omega)
    have hp := p10_18
    have c1 : (i : Int) < (s.size : Int) := by omega
    have c2 : (0 : Int) ≤ (i : Int) := by omega
    have ih2 := fun k hk => ih (i + 1) k (by omega) (by omega) (by omega) hk
    have hk2 : n + 1 ≤ k := by omega
    have b0 : 0 ≤ 10 * valD (s.data.toList.take i) ∧ 10 * valD (s.data.toList.take i) ≤ 18446744073709551615 := by omega
    have b3 : 0 ≤ 10 * valD (s.data.toList.take i) + (((s.data.toList[i]).toNat : Int) - 48) ∧ 10 * valD (s.data.toList.take i) + (((s.data.toList[i]).toNat : Int) - 48) ≤ 18446744073709551615 := by omega
    have b1 : -9223372036854775808 ≤ (i : Int) + 1 ∧ (i : Int) + 1 ≤ 9223372036854775807 := by omega
    have w2 : (((s.data.toList[i]).toNat : Int) - 48) % 256 = ((s.data.toList[i]).toNat : Int) - 48 := by omega
    have w0 : IntKind.u64.wrap (10 * valD (s.data.toList.take i)) = 10 * valD (s.data.toList.take i) := IntWalk.u64_in _ b0
    have w3 : IntKind.u64.wrap (10 * valD (s.data.toList.take i) + (((s.data.toList[i]).toNat : Int) - 48)) = valD (s.data.toList.take (i + 1)) := by
      rw [IntWalk.u64_in _ b3, List.take_succ_eq_append_getElem h1', valD_snoc]
    have w1 : wrap64 ((i : Int) + 1) = ((i + 1 : Nat) : Int) := by rw [IntWalk.wrap64_in _ b1]; rfl
    unfold PGet.catchpitref07_Number.l1
    rw [if_pos c1, if_pos c2, bt_get s i (List.getElem?_eq_getElem h1'), w0, w2, w3, w1]
    exact ih2 k hk2
theorem num07_l0 (s : ByteArray) (hs : s.size ≤ 1000000) (h0 : s.size ≠ 0) : ∀ (n i k a : Nat), s.size - i = n → i ≤ s.size → a ≤ i → (i = s.size → a < s.size) → 2 * n + s.size + 3 ≤ k → allDec (s.data.toList.take i) = true → (∀ j, j < a → s.data.toList[j]? = some 48) →
    (a < i → s.data.toList[a]? ≠ some 48 ∨ a + 1 = s.size) → a ≤ s.size - 1 →
    PGet.catchpitref07_Number.l0 k s (a : Int) (i : Int) = some (numS s.data.toList) := by
  intro n
  induction n with
  | zero =>
    intro i k a hn hi ha hal hk hd hz hnz hlast
    obtain ⟨k, rfl⟩ : ∃ k', k = k' + 1 := ⟨k - 1, by omega⟩
    have hi' : i = s.size := by omega
    subst hi'
    have hsz := dl_len s
    rw [List.take_of_length_le (by omega)] at hd
    have hne : s.data.toList ≠ [] := fun e => by rw [e] at hsz; simp at hsz; omega
    have w1 := Lib.hid (show wrap64 ((s.size : Int) - (a : Int)) = ((s.size - a : Nat) : Int) by rw [IntWalk.wrap64_in _ (by omega)]; omega)
    unfold PGet.catchpitref07_Number.l0
    rw [if_neg (by omega), w1.out, numS_val _ hne hd]
    by_cases h19 : s.size - a > 19
    · rw [if_pos (by omega)]
      have hnz' : s.data.toList[a]? ≠ some 48 := by
        rcases hnz (by omega) with h | h
        · exact h
        · omega
      have hlow := valD_low s.data.toList hd a (by omega) hnz' (s.size - a - 1) (by omega)
      obtain ⟨v1, -, -⟩ := valD_from s.data.toList hd a hz (s.size - a) (by omega)
      rw [show s.size - a - 1 + 1 = s.size - a by omega] at hlow
      rw [show a + (s.size - a) = s.size by omega, List.take_of_length_le (by omega)] at v1
      have v4 := p10_mono (a := 19) (b := s.size - a - 1) (by omega)
      have hp := p10_19
      rw [if_pos (by omega)]
    · rw [if_neg (by omega)]
      have := num07_l1 s hs hd a (by omega) (by omega) hz (s.size - a) a k rfl (by omega) (Nat.le_refl _) (by omega)
      have e0 : valD (s.data.toList.take a) = 0 := by
        have := (valD_from s.data.toList hd a hz 0 (by omega)).1
        rw [Nat.add_zero] at this
        rw [this]; simp [valD]
      rw [e0] at this
      exact this
  | succ n ih =>
    intro i k a hn hi ha hal hk hd hz hnz hlast
    obtain ⟨k, rfl⟩ : ∃ k', k = k' + 2 := ⟨k - 2, by omega⟩
    have h1 : i < s.size := by omega
    have h1' : i < s.data.toList.length := by rw [dl_len]; exact h1
    have hg : s.data.toList[i]? = some s.data.toList[i] := List.getElem?_eq_getElem h1'
    have w1 := Lib.hid (show wrap64 ((i : Int) + 1) = ((i + 1 : Nat) : Int) by rw [IntWalk.wrap64_in _ (by omega)]; rfl)
    have w2 := Lib.hid (show wrap64 ((s.size : Int) - 1) = ((s.size - 1 : Nat) : Int) by rw [IntWalk.wrap64_in _ (by omega)]; omega)
    have w3 := Lib.hid (show wrap64 ((a : Int) + 1) = ((a + 1 : Nat) : Int) by rw [IntWalk.wrap64_in _ (by omega)]; rfl)
    have hbad : isDec s.data.toList[i] = false → numS s.data.toList = (0, 2) := fun h => by
      apply numS_bad
      unfold allDec
      rw [List.all_eq_false]
      exact ⟨_, List.getElem_mem h1', by rw [h]; simp⟩
    unfold PGet.catchpitref07_Number.l0
    rw [if_pos (by omega), if_pos (by omega), bt_get s i hg]
    by_cases hc : ((s.data.toList[i]).toNat : Int) < 48
    · rw [if_pos hc]
      unfold PGet.catchpitref07_Number.j1
      rw [if_pos rfl, hbad (by unfold isDec; exact decide_eq_false (by omega))]
    · rw [if_neg hc]
      unfold PGet.catchpitref07_Number.j1
      by_cases hc2 : ((s.data.toList[i]).toNat : Int) > 57
      · rw [if_pos (decide_eq_true hc2), hbad (by unfold isDec; exact decide_eq_false (by omega))]
      · have hdec : isDec s.data.toList[i] = true := decide_eq_true (by omega)
        have hd2 : allDec (s.data.toList.take (i + 1)) = true := by
          rw [List.take_succ_eq_append_getElem h1', allDec_app, hd]
          simp only [allDec, List.all_cons, hdec, List.all_nil, Bool.and_self]
        rw [if_neg (by simpa using hc2), if_pos (by omega), if_pos (by omega), bt_get s i hg, w1.out, w2.out, w3.out]
        by_cases h48 : ((s.data.toList[i]).toNat : Int) = 48
        · have hc48 : s.data.toList[i] = 48 := UInt8.toNat_inj.1 (by show _ = 48; omega)
          rw [if_pos h48]
          by_cases hai : a = i
          · rw [if_pos (by omega)]
            by_cases hlt : i < s.size - 1
            · rw [if_pos (by omega)]
              exact ih (i + 1) k (a + 1) (by omega) (by omega) (by omega) (by omega) (by omega) hd2 (fun j hj => by
                by_cases hja : j = a
                · rw [hja, hai, hg, hc48]
                · exact hz j (by omega)) (fun h => by omega) (by omega)
            · rw [if_neg (by omega)]
              exact ih (i + 1) k a (by omega) (by omega) (by omega) (by omega) (by omega) hd2 hz (fun h => .inr (by omega)) (by omega)
          · rw [if_neg (by omega)]
            exact ih (i + 1) k a (by omega) (by omega) (by omega) (by omega) (by omega) hd2 hz (fun h => hnz (by omega)) (by omega)
        · rw [if_neg h48]
          exact ih (i + 1) k a (by omega) (by omega) (by omega) (by omega) (by omega) hd2 hz (fun h => by
            by_cases hai : a = i
            · left; rw [hai, hg]; intro e; rw [Option.some.inj e] at h48; exact h48 rfl
            · exact hnz (by omega)) (by omega)
theorem refNum07 (s : ByteArray) (hs : s.size ≤ 1000000) (k : Nat) (hk : 3 * s.size + 3 ≤ k) : PGet.catchpitref07_Number.f k s = some (numS s.data.toList) := by
  unfold PGet.catchpitref07_Number.f
  by_cases h0 : s.size = 0
  · rw [if_pos (by omega)]
    have : s.data.toList = [] := List.length_eq_zero_iff.1 (by rw [dl_len]; exact h0)
    rw [this]; rfl
  · rw [if_neg (by omega)]
    exact num07_l0 s hs h0 s.size 0 k 0 (by omega) (by omega) (by omega) (by omega) (by omega) rfl (fun j hj => by omega) (fun h => by omega) (by omega)
theorem refOf (s : ByteArray) (hs : s.size ≤ 1000000) : ∃ k, PGet.catchpitref27_Of.f k s = some ((numS s.data.toList).1, decide ((numS s.data.toList).2 = 0 ∧ Lib.decDigits (numS s.data.toList).1.toNat = s.data.toList)) := by
  have hn0 := numS_nonneg s.data.toList
  have hn1 : (numS s.data.toList).1 ≤ 4611686018427387903 := by
    unfold numS
    split
    · rename_i h
      split
      · decide
      · split
        · decide
        · exact (numFold_nonneg _ h).2
    · decide
  refine ⟨3 * s.size + 3 + (numS s.data.toList).1.toNat + 1, ?_⟩
  unfold PGet.catchpitref27_Of.f
  rw [refNum07 s hs _ (by omega), Option.bind_some]
  by_cases he : (numS s.data.toList).2 = 0
  · rw [if_pos he]
    obtain ⟨u, hu⟩ : ∃ u : Nat, (numS s.data.toList).1 = (u : Int) := ⟨(numS s.data.toList).1.toNat, by omega⟩
    rw [hu, refNumber _ u (by omega) (by rw [show ((u : Nat) : Int).toNat = u from rfl]; omega), Option.bind_some, Lib.toList_data, Lib.toList_data]
    congr 1
    congr 1
    show (Lib.decDigits u == s.data.toList) = _
    rw [Bool.eq_iff_iff]
    simp [he]
  · rw [if_neg he, decide_eq_false (fun h => he h.1)]

end Go.Proofs.YtplcfijcmihhlaaDoor

namespace Go.Proofs.YtplcfijcmihhlaaDoor
open Go.RowKit Go.Proofs.YtplcfijcmihhlaaDoorW.PrintWords
set_option linter.unusedVariables false
set_option linter.unusedSimpArgs false

structure RdG (W : World) (R base : Nat) (vp vt vk : Value) (x : Scr) : Prop where
  box : W.heap[R]? = some (.cells #[vp, .int .i64 x.en, vt, .int .i64 x.st, vk] 49 (0, 0))
  rows : Rows3 W base vp vt vk x

section
variable {W W1 : World} {base R : Nat} {vp vt vk : Value} {x : Scr}
theorem RdG.c0 (h : RdG W R base vp vt vk x) : W.cell? ⟨R, 0, none⟩ = some vp := by simp [World.cell?, h.box]
theorem RdG.c1 (h : RdG W R base vp vt vk x) : W.cell? ⟨R, 1, none⟩ = some (.int .i64 x.en) := by simp [World.cell?, h.box]
theorem RdG.c2 (h : RdG W R base vp vt vk x) : W.cell? ⟨R, 2, none⟩ = some vt := by simp [World.cell?, h.box]
theorem RdG.c3 (h : RdG W R base vp vt vk x) : W.cell? ⟨R, 3, none⟩ = some (.int .i64 x.st) := by simp [World.cell?, h.box]
theorem RdG.c4 (h : RdG W R base vp vt vk x) : W.cell? ⟨R, 4, none⟩ = some vk := by simp [World.cell?, h.box]
theorem RdG.f (h : RdG W R base vp vt vk x) (j : Nat) : W.frozen? ⟨R, j, none⟩ = false := by simp [World.frozen?, h.box]
theorem RdG.below (h : RdG W R base vp vt vk x) (hb : Below W.heap.size W W1) : RdG W1 R base vp vt vk x := ⟨(hb.block R (lt_of_heap h.box)).trans h.box, h.rows.below hb⟩
theorem RdG.ne3 : 49 ≠ 25 ∧ 49 ≠ 5 ∧ 49 ≠ 3 := by decide
theorem RdG.setEn (h : RdG W R base vp vt vk x) (u : Int) : RdG (W.setCell ⟨R, 1, none⟩ (.int .i64 u)) R base vp vt vk { x with en := u } :=
  ⟨setBox _ h.box, let r := h.rows.set h.box RdG.ne3 1 (.int .i64 u); ⟨r.pie, r.tak, r.pic⟩⟩
theorem RdG.setSt (h : RdG W R base vp vt vk x) (u : Int) : RdG (W.setCell ⟨R, 3, none⟩ (.int .i64 u)) R base vp vt vk { x with st := u } :=
  ⟨setBox _ h.box, let r := h.rows.set h.box RdG.ne3 3 (.int .i64 u); ⟨r.pie, r.tak, r.pic⟩⟩
theorem RdG.addPiece (h : RdG W R base vp vt vk x) {v1 : Value} {b : List Int} (hg : W.grownBy W1 vp.ownBlock) (hr : KBB.R 25 W1 base (fun _ => True) v1 (x.pieces ++ [b])) :
    RdG (W1.setCell ⟨R, 0, none⟩ v1) R base v1 vt vk { x with pieces := x.pieces ++ [b] } := by
  obtain ⟨inner, ho⟩ := Kd.R_own h.rows.pie
  have hne : some R ≠ vp.ownBlock := Kd.R_ne h.rows.pie h.box RdG.ne3.1.symm
  have hbox : W1.heap[R]? = some (.cells #[vp, .int .i64 x.en, vt, .int .i64 x.st, vk] 49 (0, 0)) := (hg.block R (lt_of_heap h.box) hne).trans h.box
  have ht := Kd.R_grown (R_apart h.rows.tak ho (by intro q hq; rcases List.mem_cons.1 hq with rfl | hq; decide; cases hq)) hg (fun k hk => hk.2)
  have hk := Kd.R_grown (R_apart h.rows.pic ho (by intro q hq; rcases List.mem_cons.1 hq with rfl | hq; decide; cases hq)) hg (fun k hk => hk.2)
  have r3 : Rows3 W1 base v1 vt vk { x with pieces := x.pieces ++ [b] } := ⟨hr, Kd.R_mono ht (fun k hk => hk.1), Kd.R_mono hk (fun k hk => hk.1)⟩
  exact ⟨setBox _ hbox, r3.set hbox RdG.ne3 _ _⟩
theorem RdG.addTakes (h : RdG W R base vp vt vk x) {v1 : Value} {ys : List Int} (hg : W.grownBy W1 vt.ownBlock) (hat : v1.ownBlock = vt.ownBlock ∨ ∃ b, v1.ownBlock = some b ∧ W.heap.size ≤ b) (hr : KI.R 3 W1 base (fun k => some k ≠ vk.ownBlock) v1 (x.takes ++ ys)) :
    RdG (W1.setCell ⟨R, 2, none⟩ v1) R base vp v1 vk { x with takes := x.takes ++ ys } := by
  obtain ⟨inner, ho⟩ := Kd.R_own h.rows.tak
  have hne : some R ≠ vt.ownBlock := Kd.R_ne h.rows.tak h.box RdG.ne3.2.2.symm
  have hbox : W1.heap[R]? = some (.cells #[vp, .int .i64 x.en, vt, .int .i64 x.st, vk] 49 (0, 0)) := (hg.block R (lt_of_heap h.box) hne).trans h.box
  have hp := Kd.R_grown (R_apart h.rows.pie ho (by intro q hq; rcases List.mem_cons.1 hq with rfl | hq; decide; rcases List.mem_cons.1 hq with rfl | hq; decide; cases hq)) hg (fun k hk => hk.2)
  have hk : KI.R 3 W1 base (fun k => some k ≠ v1.ownBlock) vk x.picks := by
    have h1 := Kd.R_bound h.rows.pic
    have h2 := Kd.R_grown h1 hg (fun k hk => hk.1)
    refine Kd.R_mono h2 (fun k hk => ?_)
    rcases hat with e | ⟨b, e, hb⟩
    · rw [e]; exact hk.1
    · rw [e]; intro e'; have := hk.2.2.1; injection e' with e'; omega
  have r3 : Rows3 W1 base vp v1 vk { x with takes := x.takes ++ ys } := ⟨Kd.R_mono hp (fun k hk => hk.1), hr, hk⟩
  exact ⟨setBox _ hbox, r3.set hbox RdG.ne3 _ _⟩
theorem RdG.addPicks (h : RdG W R base vp vt vk x) {v1 : Value} {ys : List Int} (hg : W.grownBy W1 vk.ownBlock) (hat : v1.ownBlock = vk.ownBlock ∨ ∃ b, v1.ownBlock = some b ∧ W.heap.size ≤ b) (hr : KI.R 3 W1 base (fun k => some k ≠ vt.ownBlock) v1 (x.picks ++ ys)) :
    RdG (W1.setCell ⟨R, 4, none⟩ v1) R base vp vt v1 { x with picks := x.picks ++ ys } := by
  obtain ⟨inner, ho⟩ := Kd.R_own h.rows.pic
  have hne : some R ≠ vk.ownBlock := Kd.R_ne h.rows.pic h.box RdG.ne3.2.2.symm
  have hbox : W1.heap[R]? = some (.cells #[vp, .int .i64 x.en, vt, .int .i64 x.st, vk] 49 (0, 0)) := (hg.block R (lt_of_heap h.box) hne).trans h.box
  have hp := Kd.R_grown (R_apart h.rows.pie ho (by intro q hq; rcases List.mem_cons.1 hq with rfl | hq; decide; rcases List.mem_cons.1 hq with rfl | hq; decide; cases hq)) hg (fun k hk => hk.2)
  have hk : KI.R 3 W1 base (fun k => some k ≠ v1.ownBlock) vt x.takes := by
    have h1 := Kd.R_bound h.rows.tak
    have h2 := Kd.R_grown h1 hg (fun k hk => hk.1)
    refine Kd.R_mono h2 (fun k hk => ?_)
    rcases hat with e | ⟨b, e, hb⟩
    · rw [e]; exact hk.1
    · rw [e]; intro e'; have := hk.2.2.1; injection e' with e'; omega
  have r3 : Rows3 W1 base vp vt v1 { x with picks := x.picks ++ ys } := ⟨Kd.R_mono hp (fun k hk => hk.1), hk, hr⟩
  exact ⟨setBox _ hbox, r3.set hbox RdG.ne3 _ _⟩
end

end Go.Proofs.YtplcfijcmihhlaaDoor

namespace Go.Proofs.YtplcfijcmihhlaaDoor
open Go.RowKit Go.Proofs.YtplcfijcmihhlaaDoorW.PrintWords Go.Proofs.YtplcfijcmihhlaaDoorW.PrintLast
set_option linter.unusedVariables false
set_option linter.unusedSimpArgs false
attribute [local go_sem] Oper.semAt_some

/-! ### The lines of a text, one by one -/
theorem nl_of {rest : ByteArray} {m : Nat} (hno : ∀ j, j < m → rest.data.toList[j]? ≠ some 10) : NoNl (rest.data.toList.take m) := by
  intro hmem
  obtain ⟨j, hj⟩ := List.mem_iff_getElem?.1 hmem
  rw [List.getElem?_take] at hj
  split at hj
  · rename_i h; exact hno j h hj
  · cases hj
theorem at_first {rest : ByteArray} {m : Nat} (hm : m < rest.size) (hno : ∀ j, j < m → rest.data.toList[j]? ≠ some 10) (h10 : rest.data.toList[m]? = some 10) :
    ∃ ln, linesL rest.data.toList = ln :: linesL (rest.extract (m + 1) rest.size).data.toList ∧ endedS ln = true ∧ bodyS ln = rest.extract 0 m := by
  have hml : m < rest.data.toList.length := by rw [dl_len]; exact hm
  have hs : rest.data.toList = rest.data.toList.take m ++ 10 :: rest.data.toList.drop (m + 1) := by
    rw [List.getElem?_eq_getElem hml] at h10
    rw [← Option.some.inj h10, ← List.drop_eq_getElem_cons hml, List.take_append_drop]
  have hl : lineLen rest.data.toList = m + 1 := by
    rw [hs, lineLen_line _ _ (nl_of hno), List.length_take]; omega
  refine ⟨⟨(rest.data.toList.take (m + 1)).toArray⟩, ?_, ?_, ?_⟩
  · rw [linesL_cons _ (by intro e; rw [e] at hml; cases hml), hl, Lib.extract_to_end]
  · unfold endedS Lib.hasSuffix
    rw [List.isSuffixOf_iff_suffix]
    refine ⟨rest.data.toList.take m, ?_⟩
    show _ = rest.data.toList.take (m + 1)
    rw [List.take_succ_eq_append_getElem hml]
    rw [List.getElem?_eq_getElem hml] at h10
    rw [Option.some.inj h10]
  · have hsuf : Lib.hasSuffix (rest.data.toList.take (m + 1)) [10] = true := by
      unfold Lib.hasSuffix
      rw [List.isSuffixOf_iff_suffix]
      refine ⟨rest.data.toList.take m, ?_⟩
      rw [List.take_succ_eq_append_getElem hml]
      rw [List.getElem?_eq_getElem hml] at h10
      rw [Option.some.inj h10]
    unfold bodyS Lib.trimSuffix
    rw [if_pos hsuf]
    apply WideShapes.bytes_inj
    rw [Lib.extract_from_zero]
    show List.take _ (rest.data.toList.take (m + 1)) = _
    rw [List.take_take, List.length_take]
    congr 1
    show min (min (m + 1) rest.data.toList.length - 1) (m + 1) = m
    omega
theorem at_last {rest : ByteArray} (h0 : rest.size ≠ 0) (hno : ∀ j, j < rest.size → rest.data.toList[j]? ≠ some 10) : linesL rest.data.toList = [rest] ∧ endedS rest = false := by
  have hsz := dl_len rest
  have hn : NoNl rest.data.toList := by
    have := nl_of hno
    rwa [List.take_of_length_le (by omega)] at this
  have hne : rest.data.toList ≠ [] := fun e => by rw [e] at hsz; simp at hsz; omega
  refine ⟨?_, ?_⟩
  · have hl : lineLen rest.data.toList = rest.data.toList.length := by
      unfold lineLen
      rw [ib_miss _ _ hn, if_neg (by decide)]
    rw [linesL_cons _ hne, hl, List.take_length, List.drop_length, linesL_nil, ba_eta]
  · cases h : endedS rest with
    | false => rfl
    | true =>
      unfold endedS Lib.hasSuffix at h
      rw [List.isSuffixOf_iff_suffix] at h
      obtain ⟨p, hp⟩ := h
      exact absurd (by rw [← hp]; simp : (10 : UInt8) ∈ rest.data.toList) hn

/-- Where the reading stands. -/
structure AtS (t : ByteArray) (pre : List ByteArray) (rest : ByteArray) (r : RunS) : Prop where
  lines : linesL t.data.toList = pre ++ linesL rest.data.toList
  run : runS pre = r
  e0 : r.e = 0
theorem AtS.done {t : ByteArray} {pre : List ByteArray} {rest : ByteArray} {r : RunS} (h : AtS t pre rest r) (h0 : rest.size = 0) : getS t = if r.q < 2 then (zeroS, r.n + 1, 4) else (r.x, 0, 0) := by
  have hn : rest.data.toList = [] := List.length_eq_zero_iff.1 (by rw [dl_len]; exact h0)
  have hl := h.lines
  rw [hn, linesL_nil, List.append_nil] at hl
  unfold getS
  rw [hl, h.run, if_neg (by simp [h.e0])]
theorem AtS.stop {t : ByteArray} {pre : List ByteArray} {rest : ByteArray} {r : RunS} (h : AtS t pre rest r) {ln : ByteArray} {tl : List ByteArray} (hl : linesL rest.data.toList = ln :: tl) (he : (stepS r ln).e ≠ 0) : getS t = (zeroS, (stepS r ln).n, (stepS r ln).e) := by
  have h1 := h.lines
  rw [hl, show pre ++ ln :: tl = (pre ++ [ln]) ++ tl by simp] at h1
  have h2 : runS (pre ++ [ln]) = stepS r ln := by rw [runS_snoc, h.run]
  unfold getS
  rw [h1, runS_stop (by rw [h2]; exact he), h2, if_pos he]
theorem AtS.last {t : ByteArray} {pre : List ByteArray} {rest : ByteArray} {r : RunS} (h : AtS t pre rest r) (h0 : rest.size ≠ 0) (hno : ∀ j, j < rest.size → rest.data.toList[j]? ≠ some 10) : getS t = (zeroS, r.n + 1, 4) := by
  obtain ⟨h1, h2⟩ := at_last h0 hno
  have hs : stepS r rest = ⟨4, r.x, r.q, r.n + 1⟩ := by unfold stepS; rw [if_pos h.e0, if_neg (by simp [h2])]
  rw [h.stop h1 (by rw [hs]; show ¬ (4 : Int) = 0; decide), hs]
theorem AtS.bad {t : ByteArray} {pre : List ByteArray} {rest : ByteArray} {r : RunS} (h : AtS t pre rest r) {m : Nat} (hm : m < rest.size) (hno : ∀ j, j < m → rest.data.toList[j]? ≠ some 10) (h10 : rest.data.toList[m]? = some 10)
    {e : Int} (he : (lineS r.x r.q (keyS (rest.extract 0 m)) (wordS (rest.extract 0 m)) (twoS (rest.extract 0 m))).1 = e) (hne : e ≠ 0) : getS t = (zeroS, r.n + 1, e) := by
  obtain ⟨ln, h1, h2, h3⟩ := at_first hm hno h10
  have hs : stepS r ln = ⟨e, r.x, r.q, r.n + 1⟩ := by unfold stepS; rw [if_pos h.e0, if_pos h2, h3, he, if_neg hne]
  rw [h.stop h1 (by rw [hs]; exact hne), hs]
theorem AtS.next {t : ByteArray} {pre : List ByteArray} {rest : ByteArray} {r : RunS} (h : AtS t pre rest r) {m : Nat} (hm : m < rest.size) (hno : ∀ j, j < m → rest.data.toList[j]? ≠ some 10) (h10 : rest.data.toList[m]? = some 10)
    {x' : Scr} {q' : Int} (he : lineS r.x r.q (keyS (rest.extract 0 m)) (wordS (rest.extract 0 m)) (twoS (rest.extract 0 m)) = (0, x', q')) : ∃ pre', AtS t pre' (rest.extract (m + 1) rest.size) ⟨0, x', q', r.n + 1⟩ := by
  obtain ⟨ln, h1, h2, h3⟩ := at_first hm hno h10
  have hs : stepS r ln = ⟨0, x', q', r.n + 1⟩ := by unfold stepS; rw [if_pos h.e0, if_pos h2, h3, he]; rfl
  refine ⟨pre ++ [ln], ?_, ?_, rfl⟩
  · rw [h.lines, h1]; simp
  · rw [runS_snoc, h.run, hs]
theorem AtS.n_le {t : ByteArray} {pre : List ByteArray} {rest : ByteArray} {r : RunS} (h : AtS t pre rest r) : 0 ≤ r.n ∧ r.n ≤ t.size := by
  have h1 := runS_n pre
  have h2 := linesL_len t.data.toList
  rw [h.lines, List.length_append, dl_len] at h2
  rw [h.run] at h1
  omega
theorem AtS.len {t : ByteArray} {pre : List ByteArray} {rest : ByteArray} {r : RunS} (h : AtS t pre rest r) : ScrLen r.x t.size := by
  have h1 := runS_len pre
  have h2 := linesL_len t.data.toList
  rw [h.lines, List.length_append, dl_len] at h2
  rw [h.run] at h1
  exact ⟨Nat.le_trans h1.1 (by omega), Nat.le_trans h1.2.1 (by omega), Nat.le_trans h1.2.2 (by omega)⟩
theorem AtS.q_bd {t : ByteArray} {pre : List ByteArray} {rest : ByteArray} {r : RunS} (h : AtS t pre rest r) : 0 ≤ r.q ∧ r.q ≤ 3 := by
  have := got_run pre r h.run h.e0
  exact ⟨this.q0, this.q3⟩

/-- The result's seven cells. -/
theorem ret7 {W : World} {g : Nat} {a0 a1 a2 a3 a4 a5 a6 : Value} {t : TypeId} (h : W.heap[g]? = some (.cells #[a0, a1, a2, a3, a4, a5, a6] t (0, 0))) (v0 v1 v2 v3 v4 v5 v6 : Value) :
    ∃ W', (((((((W.setCell ⟨g, 0, none⟩ v0).setCell ⟨g, 1, none⟩ v1).setCell ⟨g, 2, none⟩ v2).setCell ⟨g, 3, none⟩ v3).setCell ⟨g, 4, none⟩ v4).setCell ⟨g, 5, none⟩ v5).setCell ⟨g, 6, none⟩ v6) = W' ∧ W'.heap[g]? = some (.cells #[v0, v1, v2, v3, v4, v5, v6] t (0, 0)) ∧ Touch (fun k => k = g) W W' := by
  have h0 : (W.setCell ⟨g, 0, none⟩ v0).heap[g]? = some (.cells #[v0, a1, a2, a3, a4, a5, a6] t (0, 0)) := setBox v0 h
  have b0 : Touch (fun k => k = g) W (W.setCell ⟨g, 0, none⟩ v0) := (Touch.refl (fun k => k = g) W).setCell (p := ⟨g, 0, none⟩) (.inl rfl) v0
  generalize W.setCell ⟨g, 0, none⟩ v0 = W1 at *
  have h1 : (W1.setCell ⟨g, 1, none⟩ v1).heap[g]? = some (.cells #[v0, v1, a2, a3, a4, a5, a6] t (0, 0)) := setBox v1 h0
  have b1 : Touch (fun k => k = g) W (W1.setCell ⟨g, 1, none⟩ v1) := b0.setCell (p := ⟨g, 1, none⟩) (.inl rfl) v1
  generalize W1.setCell ⟨g, 1, none⟩ v1 = W2 at *
  have h2 : (W2.setCell ⟨g, 2, none⟩ v2).heap[g]? = some (.cells #[v0, v1, v2, a3, a4, a5, a6] t (0, 0)) := setBox v2 h1
  have b2 : Touch (fun k => k = g) W (W2.setCell ⟨g, 2, none⟩ v2) := b1.setCell (p := ⟨g, 2, none⟩) (.inl rfl) v2
  generalize W2.setCell ⟨g, 2, none⟩ v2 = W3 at *
  have h3 : (W3.setCell ⟨g, 3, none⟩ v3).heap[g]? = some (.cells #[v0, v1, v2, v3, a4, a5, a6] t (0, 0)) := setBox v3 h2
  have b3 : Touch (fun k => k = g) W (W3.setCell ⟨g, 3, none⟩ v3) := b2.setCell (p := ⟨g, 3, none⟩) (.inl rfl) v3
  generalize W3.setCell ⟨g, 3, none⟩ v3 = W4 at *
  have h4 : (W4.setCell ⟨g, 4, none⟩ v4).heap[g]? = some (.cells #[v0, v1, v2, v3, v4, a5, a6] t (0, 0)) := setBox v4 h3
  have b4 : Touch (fun k => k = g) W (W4.setCell ⟨g, 4, none⟩ v4) := b3.setCell (p := ⟨g, 4, none⟩) (.inl rfl) v4
  generalize W4.setCell ⟨g, 4, none⟩ v4 = W5 at *
  have h5 : (W5.setCell ⟨g, 5, none⟩ v5).heap[g]? = some (.cells #[v0, v1, v2, v3, v4, v5, a6] t (0, 0)) := setBox v5 h4
  have b5 : Touch (fun k => k = g) W (W5.setCell ⟨g, 5, none⟩ v5) := b4.setCell (p := ⟨g, 5, none⟩) (.inl rfl) v5
  generalize W5.setCell ⟨g, 5, none⟩ v5 = W6 at *
  exact ⟨_, rfl, setBox v6 h5, b5.setCell (p := ⟨g, 6, none⟩) (.inl rfl) v6⟩
def RGetP (t : ByteArray) (w : World) (e : Ending) (w' : World) : Prop :=
  ∃ vp vt vk, e = .returned (.agg #[vp, .int .i64 (getS t).1.en, vt, .int .i64 (getS t).1.st, vk, .int .i64 (getS t).2.1, .int .i64 (getS t).2.2]) ∧ Rows3 w' w.heap.size vp vt vk (getS t).1 ∧ Below w.heap.size w w'
set_option maxHeartbeats 2000000 in
theorem cells7 {W : World} {B : Nat} {t : TypeId} {a b c d e f g : Value} (h : W.heap[B]? = some (.cells #[a, b, c, d, e, f, g] t (0, 0))) :
    W.cell? ⟨B, 0, none⟩ = some a ∧ W.cell? ⟨B, 1, none⟩ = some b ∧ W.cell? ⟨B, 2, none⟩ = some c ∧ W.cell? ⟨B, 3, none⟩ = some d ∧ W.cell? ⟨B, 4, none⟩ = some e ∧ W.cell? ⟨B, 5, none⟩ = some f ∧ W.cell? ⟨B, 6, none⟩ = some g := by
  refine ⟨?_, ?_, ?_, ?_, ?_, ?_, ?_⟩ <;> simp [World.cell?, h]
theorem size_got : (Tryd.prog.info? 68).map (·.size) = some 7 := by kernel_rfl
theorem Rows3.touch1 {W W' : World} {base b' g : Nat} {vp vt vk : Value} {x : Scr} (h : Rows3 W base vp vt vk x) (ht : Touch (fun k => k = g) W W') (hn : g < base) (hb : b' ≤ base) : Rows3 W' b' vp vt vk x := by
  have key : ∀ k, base ≤ k → k < W.heap.size → W'.heap[k]? = W.heap[k]? := fun k h1 h2 => ht.block k h2 (by omega)
  exact ⟨Kd.R_lower (Kd.R_mono (Kd.R_move (Kd.R_bound h.pie) (fun k hk => key k hk.2.1 hk.2.2.1)) (fun _ hk => hk.1)) hb, Kd.R_lower (Kd.R_mono (Kd.R_move (Kd.R_bound h.tak) (fun k hk => key k hk.2.1 hk.2.2.1)) (fun _ hk => hk.1)) hb,
    Kd.R_lower (Kd.R_mono (Kd.R_move (Kd.R_bound h.pic) (fun k hk => key k hk.2.1 hk.2.2.1)) (fun _ hk => hk.1)) hb⟩
section
variable {t : ByteArray} {w W0 wr : World} {a : Act}
theorem exit_err {n e : Int} (hB0 : Below w.heap.size w W0) (hW : Below (w.heap.size + 1) W0 wr) (hz : w.heap.size < W0.heap.size)
    (hG : W0.heap[w.heap.size]? = some (.cells #[.slice none 0 0, .int .i64 0, .slice none 0 0, .int .i64 0, .slice none 0 0, .int .i64 0, .int .i64 0] 68 (0, 0)))
    (hd : a.defers = []) (hp : a.tmps.getD 2 undef = .pointer (some ⟨w.heap.size, 0, none⟩)) (hg : getS t = (zeroS, n, e)) :
    bodyPost Tryd.prog Tryd.f33 (RGetP t w) Exit.ret a (((((((wr.setCell ⟨w.heap.size, 0, none⟩ (.slice none 0 0)).setCell ⟨w.heap.size, 1, none⟩ (.int .i64 0)).setCell ⟨w.heap.size, 2, none⟩ (.slice none 0 0)).setCell ⟨w.heap.size, 3, none⟩ (.int .i64 0)).setCell ⟨w.heap.size, 4, none⟩ (.slice none 0 0)).setCell ⟨w.heap.size, 5, none⟩ (.int .i64 n)).setCell ⟨w.heap.size, 6, none⟩ (.int .i64 e)) := by
  obtain ⟨W', eW', h1, h2⟩ := ret7 ((hW.block w.heap.size (by omega)).trans hG) (.slice none 0 0) (.int .i64 0) (.slice none 0 0) (.int .i64 0) (.slice none 0 0) (.int .i64 n) (.int .i64 e)
  rw [eW']
  refine bodyPost_ret (results_row1 rfl _ _ _ _ _ _ _ hp h1 Tryd.underlying68 rfl size_got) hd ?_
  unfold RGetP
  rw [hg]
  exact ⟨_, _, _, rfl, ⟨Kd.R_nil _ _ _ _ _, Kd.R_nil _ _ _ _ _, Kd.R_nil _ _ _ _ _⟩, hB0.trans ((hW.mono (by omega)).trans (h2.below (n := w.heap.size) (by have := hW.size; omega) (fun k hk => by omega)))⟩
theorem exit_ok {vp vt vk : Value} {x : Scr} (hB0 : Below w.heap.size w W0) (hW : Below (w.heap.size + 1) W0 wr) (hz : w.heap.size < W0.heap.size)
    (hG : W0.heap[w.heap.size]? = some (.cells #[.slice none 0 0, .int .i64 0, .slice none 0 0, .int .i64 0, .slice none 0 0, .int .i64 0, .int .i64 0] 68 (0, 0)))
    (hd : a.defers = []) (hp : a.tmps.getD 2 undef = .pointer (some ⟨w.heap.size, 0, none⟩)) (hg : getS t = (x, 0, 0)) (hR : RdG wr (w.heap.size + 1) (w.heap.size + 1) vp vt vk x) :
    bodyPost Tryd.prog Tryd.f33 (RGetP t w) Exit.ret a (((((((wr.setCell ⟨w.heap.size, 0, none⟩ vp).setCell ⟨w.heap.size, 1, none⟩ (.int .i64 x.en)).setCell ⟨w.heap.size, 2, none⟩ vt).setCell ⟨w.heap.size, 3, none⟩ (.int .i64 x.st)).setCell ⟨w.heap.size, 4, none⟩ vk).setCell ⟨w.heap.size, 5, none⟩ (.int .i64 0)).setCell ⟨w.heap.size, 6, none⟩ (.int .i64 0)) := by
  obtain ⟨W', eW', h1, h2⟩ := ret7 ((hW.block w.heap.size (by omega)).trans hG) vp (.int .i64 x.en) vt (.int .i64 x.st) vk (.int .i64 0) (.int .i64 0)
  rw [eW']
  refine bodyPost_ret (results_row1 rfl _ _ _ _ _ _ _ hp h1 Tryd.underlying68 rfl size_got) hd ?_
  unfold RGetP
  rw [hg]
  exact ⟨_, _, _, rfl, hR.rows.touch1 h2 (by omega) (by omega), hB0.trans ((hW.mono (by omega)).trans (h2.below (n := w.heap.size) (by have := hW.size; omega) (fun k hk => by omega)))⟩
end
theorem lineS_known1 {x : Scr} {q : Int} {key word : ByteArray} {two : Bool} (h2 : two = false) (hk : key.data.toList = kUp ∨ key.data.toList = kEnd ∨ key.data.toList = kTake ∨ key.data.toList = kStop ∨ key.data.toList = kPick) : (lineS x q key word two).1 = 2 := by
  subst h2
  rcases hk with h | h | h | h | h
  · rw [lineS_up_bad h (.inr (.inl rfl))]
  · rw [lineS_end h, if_neg (by simp)]
  · rw [lineS_take h, if_neg (by simp)]
  · rw [lineS_stop h, if_neg (by simp)]
  · rw [lineS_pick h, if_neg (by simp)]
theorem lineS_up_bad1 {x : Scr} {q : Int} {key word : ByteArray} {two : Bool} (hk : key.data.toList = kUp) (h : q ≠ 0 ∨ two = false ∨ bytesS word = none) : (lineS x q key word two).1 = 2 := by rw [lineS_up_bad hk h]
/-- A letter's pick, as the reference looks for it. -/
def pfA (c : UInt8) : Int := if c = 114 then 0 else 3
def pfB (c : UInt8) : Int := if c = 119 then 1 else pfA c
def pfC (c : UInt8) : Int := if c = 116 then 2 else pfB c
def pf : Nat → UInt8 → Int
  | 0, _ => 3
  | 1, c => pfA c
  | 2, c => pfB c
  | _, c => pfC c
theorem pf3_eq (c : UInt8) : pf 3 c = if c = 116 then (2 : Int) else if c = 119 then 1 else if c = 114 then 0 else 3 := rfl
theorem pf3 (c : UInt8) : (0 ≤ pickI c → pf 3 c = pickI c) ∧ (pf 3 c < 3 ↔ 0 ≤ pickI c) ∧ 0 ≤ pf 3 c ∧ pf 3 c ≤ 3 := by
  rw [pf3_eq]
  unfold pickI
  by_cases h1 : c = 114
  · subst h1; decide
  · by_cases h2 : c = 119
    · subst h2; decide
    · by_cases h3 : c = 116
      · subst h3; decide
      · simp only [h1, h2, h3, if_false]; decide
theorem pf_all : ∀ (l : List UInt8), allPick l = true → l.map (pf 3) = turnsV l
  | [], _ => rfl
  | c :: l, h => by
    unfold allPick at h
    rw [List.all_cons, Bool.and_eq_true] at h
    have ih := pf_all l h.2
    rw [List.map_cons, ih, (pf3 c).1 (of_decide_eq_true h.1)]; rfl
theorem allPick_snoc (l : List UInt8) (i : Nat) (hi : i < l.length) : allPick (l.take (i + 1)) = (allPick (l.take i) && decide (pf 3 l[i] < 3)) := by
  rw [List.take_succ_eq_append_getElem hi, allPick_app]
  congr 1
  have := (pf3 l[i]).2.1
  simp only [allPick, List.all_cons, List.all_nil, Bool.and_true]
  exact decide_eq_decide.2 this.symm
def strSz (v : Value) : Nat := match v with | .string s => s.size | _ => 0


/-- The code behind region n. -/
def codeBehind (n : Nat) : Code → Option Code
  | .seq (.region m _ _) b => match m == n with
    | true => some b
    | false => codeBehind n b
  | .seq a b => match codeBehind n a with
    | some c => some c
    | none => codeBehind n b
  | .loop c => codeBehind n c
  | .block _ c => codeBehind n c
  | .scope c => codeBehind n c
  | .cond _ a b => match codeBehind n a with
    | some c => some c
    | none => codeBehind n b
  | _ => none
noncomputable def tail11 : Code := (Tryd.f33.body.bind (codeBehind 10)).getD .skip
/-- What the loop's head holds. -/
def RelG (t : ByteArray) (w W0 : World) (r p l : Value) (wr : World) : Prop := ∃ (pre : List ByteArray) (rest : ByteArray) (rn : RunS) (vp vt vk : Value), r = .string rest ∧ p = .int .i64 rn.q ∧ l = .int .i64 (rn.n + 1) ∧ rest.size ≤ t.size ∧ Hid (AtS t pre rest rn) ∧ Hid (RdG wr (w.heap.size + 1) (w.heap.size + 1) vp vt vk rn.x) ∧ Hid (Below (w.heap.size + 1) W0 wr)
def RelN (t : ByteArray) (w W0 : World) (rest0 : ByteArray) (r p l : Value) (wr : World) : Prop := RelG t w W0 r p l wr ∧ strSz r < rest0.size

/-- What stands behind the round. -/
abbrev NextG (t : ByteArray) (w W0 : World) (rest : ByteArray) (Q : Exit → Act → World → Prop) : Prop := ∀ (r p l u6 u7 u8 u9 u10 u11 u12 u13 u14 u15 u16 u17 u18 u19 u20 u21 u22 u23 u24 u25 u26 u27 u28 u29 u30 u31 u32 u33 u34 u35 u36 u37 u38 u39 u40 u41 u42 u43 u44 u45 u46 u47 u48 u49 u50 u51 u52 u53 u54 u55 u56 u57 u58 u59 u60 u61 u62 u63 u64 u65 u66 u67 u68 u69 u70 u71 u72 u73 u74 u75 u76 u77 u78 u79 u80 u81 u82 u83 u84 u85 u86 u87 u88 u89 u90 u91 u92 u93 u94 u95 u96 u97 u98 u99 u100 u101 u102 u103 u104 u105 u106 u107 u108 u109 u110 u111 u112 u113 u114 u115 u116 u117 u118 u119 u120 u121 u122 u123 u124 u125 u126 u127 u128 u129 u130 u131 u132 u133 u134 u135 u136 u137 u138 u139 u140 u141 u142 u143 u144 u145 u146 u147 u148 u149 u150 u151 u152 u153 u154 u155 u156 u157 u158 u159 u160 u161 u162 u163 u164 u165 u166 u167 u168 u169 u170 u171 u172 u173 u174 u175 u176 u177 u178 u179 u180 u181 u182 u183 u184 u185 u186 u187 u188 u189 u190 u191 u192 u193 u194 u195 u196 u197 u198 u199 u200 u201 u202 u203 u204 u205 u206 u207 u208 u209 u210 u211 u212 u213 u214 u215 u216 u217 u218 u219 u220 u221 u222 u223 : Value) (w' : World), RelN t w W0 rest r p l w' → Q Exit.normal ⟨#[r, undef, .pointer (some ⟨w.heap.size, 0, none⟩), .pointer (some ⟨w.heap.size + 1, 0, none⟩), p, l, u6, u7, u8, u9, u10, u11, u12, u13, u14, u15, u16, u17, u18, u19, u20, u21, u22, u23, u24, u25, u26, u27, u28, u29, u30, u31, u32, u33, u34, u35, u36, u37, u38, u39, u40, u41, u42, u43, u44, u45, u46, u47, u48, u49, u50, u51, u52, u53, u54, u55, u56, u57, u58, u59, u60, u61, u62, u63, u64, u65, u66, u67, u68, u69, u70, u71, u72, u73, u74, u75, u76, u77, u78, u79, u80, u81, u82, u83, u84, u85, u86, u87, u88, u89, u90, u91, u92, u93, u94, u95, u96, u97, u98, u99, u100, u101, u102, u103, u104, u105, u106, u107, u108, u109, u110, u111, u112, u113, u114, u115, u116, u117, u118, u119, u120, u121, u122, u123, u124, u125, u126, u127, u128, u129, u130, u131, u132, u133, u134, u135, u136, u137, u138, u139, u140, u141, u142, u143, u144, u145, u146, u147, u148, u149, u150, u151, u152, u153, u154, u155, u156, u157, u158, u159, u160, u161, u162, u163, u164, u165, u166, u167, u168, u169, u170, u171, u172, u173, u174, u175, u176, u177, u178, u179, u180, u181, u182, u183, u184, u185, u186, u187, u188, u189, u190, u191, u192, u193, u194, u195, u196, u197, u198, u199, u200, u201, u202, u203, u204, u205, u206, u207, u208, u209, u210, u211, u212, u213, u214, u215, u216, u217, u218, u219, u220, u221, u222, u223, undef, undef, undef, undef, undef, undef], []⟩ w'

end Go.Proofs.YtplcfijcmihhlaaDoor
