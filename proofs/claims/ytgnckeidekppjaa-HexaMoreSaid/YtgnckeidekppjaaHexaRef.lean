/-
  The walks of the reference of layer 1.
-/
import Derived.Test.YtgnckeidekppjaaHexaWalks
import Derived.Deep.QuietTactic
import Derived.BigQuiet
namespace Go.Proofs.Ytgnckeidekppjaa
open Go.RowKit
set_option linter.unusedVariables false
set_option linter.unusedSimpArgs false

theorem at_S (k : Nat) (h : k < (⟨#[48, 49, 50, 51, 52, 53, 54, 55, 56, 57, 97, 98, 99, 100, 101, 102]⟩ : ByteArray).size) : (⟨#[48, 49, 50, 51, 52, 53, 54, 55, 56, 57, 97, 98, 99, 100, 101, 102]⟩ : ByteArray)[k] = tabS.getD k 0 := by
  have h' : k < 16 := h
  have : ∀ j : Fin 16, (#[48, 49, 50, 51, 52, 53, 54, 55, 56, 57, 97, 98, 99, 100, 101, 102] : Array UInt8)[j.val]'(j.isLt) = tabS.getD j.val 0 := by decide
  exact this ⟨k, h'⟩
theorem at_G (k : Nat) (h : k < (⟨#[48, 49, 50, 51, 52, 53, 54, 55, 56, 57, 65, 66, 67, 68, 69, 70]⟩ : ByteArray).size) : (⟨#[48, 49, 50, 51, 52, 53, 54, 55, 56, 57, 65, 66, 67, 68, 69, 70]⟩ : ByteArray)[k] = tabG.getD k 0 := by
  have h' : k < 16 := h
  have : ∀ j : Fin 16, (#[48, 49, 50, 51, 52, 53, 54, 55, 56, 57, 65, 66, 67, 68, 69, 70] : Array UInt8)[j.val]'(j.isLt) = tabG.getD j.val 0 := by decide
  exact this ⟨k, h'⟩

set_option maxHeartbeats 400000 in
set_option maxRecDepth 100000 in
theorem RDigit_any (c : Int) (h0 : 0 ≤ c) (h1 : c ≤ 255) (w : World) :
    Calls Try.prog 18 #[.int .u8 c] w fun e w' => e = .returned (.int .i64 (digitV c)) ∧ w = w' := by
  go_enter Try.func18, Try.ntmps18
  go_wp2
  go_loop [5] (fun i => ∃ k : Nat, k ≤ 16 ∧ i = .int .i64 k ∧ Hid (∀ j, j < k → ((tabS.getD j 0).toNat : Int) ≠ c ∧ ((tabG.getD j 0).toNat : Int) ≠ c)) (fun i => 16 - (intOf i).toNat)
  case atStart => exact ⟨0, by omega, rfl, Lib.hid (fun j hj => by omega)⟩
  case round =>
    obtain ⟨k, hk, rfl, H⟩ := hrel
    by_cases hlt : k < 16
    · go_wp2
      · rename_i hc _
        rw [at_S k] at hc
        have hv := Lib.hid ((digit_tab k hlt).symm.trans (by rw [hc]))
        clear hc
        go_ret
        exact ⟨ret_int hv.out, rfl⟩
      · rename_i hn hc _
        rw [at_S k] at hn hc
        rw [at_G k] at hc
        have hc' : ((tabG.getD k 0).toNat : Int) = c := by
          rcases hc with h | h
          · exact absurd (beq_iff_eq.1 h) hn
          · exact beq_iff_eq.1 h
        have hv := Lib.hid (((tab_digit ⟨k, hlt⟩).2).symm.trans (by rw [hc']))
        clear hc hc' hn
        go_ret
        exact ⟨ret_int hv.out, rfl⟩
      · rename_i hc
        rw [at_S k, at_G k] at hc
        obtain ⟨hc1, hc2⟩ := hc
        refine ⟨⟨k + 1, by omega, by go_num, fun j hj => ?_⟩, by simp [intOf]; omega⟩
        rcases Nat.lt_or_ge j k with h | h
        · exact H.out j h
        · obtain rfl : j = k := by omega
          exact ⟨beq_eq_false_iff_ne.1 hc1, beq_eq_false_iff_ne.1 hc2⟩
    · have hk1 : k = 16 := by omega
      subst hk1
      have hv := Lib.hid (tab_none c h0 h1 H.out)
      go_wp2
      go_ret
      exact ⟨ret_int (by rw [hv.out]), rfl⟩

set_option maxHeartbeats 400000 in
set_option maxRecDepth 100000 in
theorem RDigits_any (s : ByteArray) (w : World) (hs : s.size ≤ maxLen) :
    Calls Try.prog 16 #[.string s] w fun e w' => e = .returned (.int .i64 (digs s.data.toList)) ∧ w = w' := by
  unfold maxLen at hs
  have hd : digs s.data.toList ≤ s.size := by have := digs_le s.data.toList; simpa using this
  go_enter Try.func16, Try.ntmps16
  go_wp2
  go_loop [3] (fun n => ∃ k : Nat, k ≤ digs s.data.toList ∧ n = .int .i64 k) (fun n => s.size - (intOf n).toNat)
  case atStart => exact ⟨0, Nat.zero_le _, rfl⟩
  case round =>
    obtain ⟨k, hk, rfl⟩ := hrel
    by_cases hlt : k < s.size
    · have hda := digs_at' s k hk hlt
      have hbyte : (s[k].toNat : Int) ≤ 255 := by have := s[k].toNat_lt; omega
      by_cases hpos : 0 ≤ digitV s[k].toNat
      · have hk1 : k < digs s.data.toList := hda.2 hpos
        clear hda
        go_wp2_with (go_at_call 18; refine (RDigit_any _ (by omega) (by omega) _).mono ?_; rintro e w' ⟨rfl, rfl⟩)
        go_round
        case rel => exact ⟨k + 1, by omega, by go_num⟩
        case measure => simp [intOf]; omega
      · have hk1 : k = digs s.data.toList := by
          rcases Nat.lt_or_ge k (digs s.data.toList) with h | h
          · exact absurd (hda.1 h) hpos
          · omega
        have Hk1 := Lib.hid hk1; clear hk1 hda
        go_wp2_with (go_at_call 18; refine (RDigit_any _ (by omega) (by omega) _).mono ?_; rintro e w' ⟨rfl, rfl⟩)
        go_ret
        exact ⟨ret_int (by rw [← Hk1.out]), rfl⟩
    · have hk1 : k = digs s.data.toList := by omega
      have hk2 : k = s.size := by omega
      subst hk2
      have Hk1 := Lib.hid hk1; clear hk1
      go_wp2
      go_ret
      exact ⟨ret_int (by rw [← Hk1.out]), rfl⟩

/-! noughts ahead -/
theorem valL_noughts {l : List UInt8} : ∀ k, k ≤ l.length → (∀ j (h : j < l.length), j < k → l[j] = 48) → valL (l.take k) = 0 := by
  intro k
  induction k with
  | zero => intro _ _; rfl
  | succ k ih =>
    intro hk h
    rw [List.take_succ_eq_append_getElem (show k < l.length by omega), valL_snoc, ih (by omega) (fun j hj hjk => h j hj (by omega)), h k (by omega) (by omega)]
    rfl

theorem valL_lt {l : List UInt8} (h : l.length ≤ digs l) {k : Nat} (h0 : valL (l.take k) = 0) : ∀ m, k + m ≤ l.length → valL (l.take (k + m)) < 16 ^ m := by
  intro m
  induction m with
  | zero => intro _; rw [Nat.add_zero, h0]; decide
  | succ m ih =>
    intro hk
    have h1 := ih (by omega)
    have h2 := digitV_bd l[k + m].toNat
    rw [← Nat.add_assoc, List.take_succ_eq_append_getElem (show k + m < l.length by omega), valL_snoc, Int.pow_succ]
    omega

theorem valL_ge {l : List UInt8} (h : l.length ≤ digs l) {k : Nat} (hk : k < l.length) (h0 : 1 ≤ digitV l[k].toNat) : ∀ m, k + 1 + m ≤ l.length → 16 ^ m ≤ valL (l.take (k + 1 + m)) := by
  intro m
  induction m with
  | zero =>
    intro _
    rw [Nat.add_zero, List.take_succ_eq_append_getElem hk, valL_snoc]
    have := valL_pos h k (by omega)
    show (1 : Int) ≤ _
    omega
  | succ m ih =>
    intro hm
    have h1 := ih (by omega)
    have h2 := digs_all h (k + 1 + m) (by omega)
    rw [← Nat.add_assoc, List.take_succ_eq_append_getElem (show k + 1 + m < l.length by omega), valL_snoc, Int.pow_succ]
    omega

theorem nought_of : ∀ c : Fin 256, 0 ≤ digitV c.val → c.val ≠ 48 → 1 ≤ digitV c.val := by decide +kernel
theorem nought_or (c : UInt8) (h : 0 ≤ digitV c.toNat) (hc : c ≠ 48) : 1 ≤ digitV c.toNat :=
  nought_of ⟨c.toNat, c.toNat_lt⟩ h (fun e => hc (by rw [← UInt8.toNat_inj]; exact e))

/-- More than sixteen digits behind the noughts: too great. -/
theorem parseV_long {l : List UInt8} (h : l.length ≤ digs l) {k : Nat} (hk : k < l.length) (hc : l[k] ≠ 48) (h16 : 16 < l.length - k) : parseV l = (0, 3) := by
  have hne : l ≠ [] := by rintro rfl; simp at hk
  have h1 := valL_ge h hk (nought_or _ (digs_all h k hk) hc) (l.length - k - 1) (by omega)
  rw [show k + 1 + (l.length - k - 1) = l.length by omega, List.take_length] at h1
  have h2 : (16 : Int) ^ 16 ≤ 16 ^ (l.length - k - 1) := by
    have : (16 : Nat) ^ 16 ≤ 16 ^ (l.length - k - 1) := Nat.pow_le_pow_right (by decide) (by omega)
    exact_mod_cast this
  have h3 : (16 : Int) ^ 16 = 18446744073709551616 := by decide
  rw [parseV_of hne h, if_neg (by omega)]

theorem valL_small {l : List UInt8} (h : l.length ≤ digs l) {k i : Nat} (h0 : valL (l.take k) = 0) (hki : k ≤ i) (hi : i < l.length) (h16 : l.length - k ≤ 16) : valL (l.take i) ≤ 1152921504606846975 := by
  have h1 := valL_lt h h0 (i - k) (by omega)
  rw [show k + (i - k) = i by omega] at h1
  have h2 : (16 : Int) ^ (i - k) ≤ 16 ^ 15 := by
    have : (16 : Nat) ^ (i - k) ≤ 16 ^ 15 := Nat.pow_le_pow_right (by decide) (by omega)
    exact_mod_cast this
  have h3 : (16 : Int) ^ 15 = 1152921504606846976 := by decide
  omega

theorem at_data (s : ByteArray) (k : Nat) (h : k < s.size) : s.data.toList[k]'(by simpa using h) = s.data[k] := by simp

set_option maxHeartbeats 1000000 in
set_option maxRecDepth 100000 in
theorem RParse_any (s : ByteArray) (w : World) (hs : s.size ≤ maxLen) :
    Calls Try.prog 14 #[.string s] w fun e w' => e = .returned (.tuple #[.int .u64 (parseV s.data.toList).1, .int .i64 (parseV s.data.toList).2]) ∧ w = w' := by
  unfold maxLen at hs
  have hd0 : digs s.data.toList ≤ s.size := by have := digs_le s.data.toList; simpa using this
  by_cases he : s.size = 0
  · have hv : parseV s.data.toList = (0, 2) := by
      unfold parseV
      rw [if_pos (.inl (List.eq_nil_of_length_eq_zero (by simpa using he)))]
    have Hv := Lib.hid hv; clear hv
    go_enter Try.func14, Try.ntmps14
    go_wp2_with (go_at_call 16; refine (RDigits_any _ _ (by unfold maxLen; omega)).mono ?_; rintro e w' ⟨rfl, rfl⟩)
    go_ret2
    exact ⟨ret_two (by rw [Hv.out]) (by rw [Hv.out]), rfl⟩
  · have he' : 0 < s.size := by omega
    have hne : ¬ s.data.toList = [] := by rw [← ByteArray.toList_eq]; exact (str_cons s he').1
    have Hne := Lib.hid hne
    have hz : ((s.size : Int) == 0) = false := beq_eq_false_iff_ne.2 (by omega)
    clear hne he
    by_cases hd : digs s.data.toList < s.size
    · have hv : parseV s.data.toList = (0, 2) := by
        unfold parseV
        rw [if_pos (.inr (by simpa using hd))]
      have Hv := Lib.hid hv; clear hv
      go_enter Try.func14, Try.ntmps14
      go_wp2_with (go_at_call 16; refine (RDigits_any _ _ (by unfold maxLen; omega)).mono ?_; rintro e w' ⟨rfl, rfl⟩)
      go_ret2
      exact ⟨ret_two (by rw [Hv.out]) (by rw [Hv.out]), rfl⟩
    · have hl : s.data.toList.length ≤ digs s.data.toList := by simp; omega
      have Hl := Lib.hid hl
      clear hl
      go_enter Try.func14, Try.ntmps14
      go_wp2_with (go_at_call 16; refine (RDigits_any _ _ (by unfold maxLen; omega)).mono ?_; rintro e w' ⟨rfl, rfl⟩)
      go_loop [4] (fun i => ∃ k : Nat, k < s.size ∧ i = .int .i64 k ∧ Hid (∀ j (h : j < s.data.toList.length), j < k → s.data.toList[j] = 48)) (fun i => s.size - (intOf i).toNat)
      case atStart => exact ⟨0, he', rfl, Lib.hid (fun j _ hj => by omega)⟩
      case round =>
        obtain ⟨k, hk, rfl, H⟩ := hrel
        have hk' : k < s.data.size := hk
        by_cases hgo : k + 1 < s.size ∧ s.data[k] = 48
        · obtain ⟨h1, h2⟩ := hgo
          have h3 : ((s.data[k].toNat : Int) == 48) = true := by rw [h2]; rfl
          have h4 : ((s[k].toNat : Int) == 48) = true := h3
          have H2 := Lib.hid h2
          clear h2
          go_wp2
          go_round
          case rel =>
            refine ⟨k + 1, h1, by go_num, Lib.hid (fun j hj hjk => ?_)⟩
            rcases Nat.lt_or_ge j k with h | h
            · exact H.out j hj h
            · obtain rfl : j = k := by omega
              rw [at_data s j hk]; exact H2.out
          case measure => simp [intOf]; omega
        · have hv0 : valL (s.data.toList.take k) = 0 := valL_noughts k (by simp; omega) H.out
          have Hv0 := Lib.hid hv0
          clear hv0 H
          by_cases h16 : 16 < s.size - k
          · have h1 : k + 1 < s.size := by omega
            have h2 : s.data[k] ≠ 48 := fun h => hgo ⟨h1, h⟩
            have hpv := parseV_long Hl.out (k := k) (by simpa using hk) (by rw [at_data s k hk]; exact h2) (by simpa using h16)
            have Hpv := Lib.hid hpv
            have h3 : ((s.data[k].toNat : Int) == 48) = false := beq_eq_false_iff_ne.2 (fun h => h2 (by rw [← UInt8.toNat_inj]; exact Int.ofNat.inj h))
            have h4 : ((s[k].toNat : Int) == 48) = false := h3
            clear h2 hgo hpv
            go_wp2
            go_ret2
            exact ⟨ret_two (by rw [Hpv.out]) (by rw [Hpv.out]), rfl⟩
          · have Hgo := Lib.hid hgo
            clear hgo
            by_cases h1 : k + 1 < s.size
            all_goals
              have h3 : k + 1 < s.size → ((s.data[k].toNat : Int) == 48) = false := fun h => beq_eq_false_iff_ne.2 (fun h' => Hgo.out ⟨h, by rw [← UInt8.toNat_inj]; exact Int.ofNat.inj h'⟩)
              have h4 : k + 1 < s.size → ((s[k].toNat : Int) == 48) = false := h3
              go_wp2
              go_loop [5, 6] (fun n i => ∃ j : Nat, k ≤ j ∧ j ≤ s.size ∧ i = .int .i64 j ∧ n = .int .u64 (valL (s.data.toList.take j))) (fun _ i => s.size - (intOf i).toNat)
              case atStart => exact ⟨k, Nat.le_refl _, by omega, rfl, by rw [Hv0.out]⟩
              case round =>
                clear h3 h4
                obtain ⟨j, hkj, hj, rfl, rfl⟩ := hrel
                have hv1 := valL_pos Hl.out j (by simpa using hj)
                by_cases hjs : j < s.size
                · have hjs' : j < s.data.size := hjs
                  have hv2 := valL_small Hl.out Hv0.out hkj (by simpa using hjs) (by simp; omega)
                  have hdig : 0 ≤ digitV s.data[j].toNat := by have := digs_all Hl.out j (by simpa using hjs); rwa [at_data s j hjs] at this
                  have hdig2 : digitV s.data[j].toNat ≤ 15 := (digitV_bd _).2
                  have hdig3 : 0 ≤ digitV s[j].toNat := hdig
                  have hdig4 : digitV s[j].toNat ≤ 15 := hdig2
                  have hsnoc : valL (s.data.toList.take (j + 1)) = 16 * valL (s.data.toList.take j) + digitV s.data[j].toNat := by
                    rw [take_snoc s j hjs, valL_snoc]; rfl
                  have Hsnoc := Lib.hid hsnoc
                  clear hsnoc
                  go_wp2_with (go_at_call 18; refine (RDigit_any _ (byte_ge _) (byte_le _) _).mono ?_; rintro e w' ⟨rfl, rfl⟩)
                  go_round
                  case rel => exact ⟨j + 1, by omega, by omega, by go_num, by rw [Hsnoc.out]; rfl⟩
                  case measure => simp [intOf]; omega
                · have hjs' : s.data.toList.take j = s.data.toList := List.take_of_length_le (by simp; omega)
                  rw [hjs'] at hv1 ⊢
                  have hpv := parseV_of Hne.out Hl.out
                  clear hjs'
                  by_cases hm : valL s.data.toList ≤ 4611686018427387903
                  · rw [if_pos hm] at hpv
                    have Hpv := Lib.hid hpv
                    clear hpv
                    go_wp2
                    go_ret2
                    exact ⟨ret_two (by rw [Hpv.out]) (by rw [Hpv.out]), rfl⟩
                  · rw [if_neg hm] at hpv
                    have Hpv := Lib.hid hpv
                    clear hpv
                    go_wp2
                    go_ret2
                    exact ⟨ret_two (by rw [Hpv.out]) (by rw [Hpv.out]), rfl⟩

set_option maxHeartbeats 400000 in
set_option maxRecDepth 100000 in
theorem wakes_any (w : World) :
    Calls Try.prog 12 #[] w fun e w' => e = .returned (.bool true) ∧ Below w.heap.size w w' := by
  have p1 : parseV [49, 97] = (26, 0) := by decide +kernel
  have p2 : parseV [48, 48, 70, 70] = (255, 0) := by decide +kernel
  have p3 : parseV [] = (0, 2) := by decide +kernel
  have c1 := fun W => Parse_any ⟨#[49, 97]⟩ W (by decide)
  have c2 := fun W => Parse_any ⟨#[48, 48, 70, 70]⟩ W (by decide)
  have c3 := fun W => Parse_any ⟨#[]⟩ W (by decide)
  rw [p1] at c1; rw [p2] at c2; rw [p3] at c3
  clear p1 p2 p3
  have C1 := fun W => Lib.hid (c1 W)
  have C2 := fun W => Lib.hid (c2 W)
  have C3 := fun W => Lib.hid (c3 W)
  clear c1 c2 c3
  go_enter Try.func12, Try.ntmps12
  go_wp2_with fail
  refine (C1 _).out.mono ?_; rintro e w1 ⟨rfl, hb1⟩; dsimp only
  go_wp2_with fail
  refine (C2 _).out.mono ?_; rintro e w2 ⟨rfl, hb2⟩; dsimp only
  go_wp2_with fail
  refine (C3 _).out.mono ?_; rintro e w3 ⟨rfl, hb3⟩; dsimp only
  go_wp2_with fail
  go_ret
  exact ⟨rfl, (hb1.trans (hb2.mono hb1.size)).trans (hb3.mono (by have := hb1.size; have := hb2.size; omega))⟩

set_option maxHeartbeats 400000 in
set_option maxRecDepth 100000 in
theorem HexaParses_any (s : ByteArray) (w : World) (hs : s.size ≤ maxLen) :
    Calls Try.prog 3 #[.string s] w fun e w' => e = .returned (.bool true) ∧ Below w.heap.size w w' := by
  have hs' := hs
  unfold maxLen at hs
  go_enter Try.func3, Try.ntmps3
  go_wp2_with fail
  refine (wakes_any _).mono ?_; rintro e w1 ⟨rfl, hb1⟩; dsimp only
  go_wp2_with fail
  · go_ret
    exact ⟨rfl, hb1⟩
  refine (Parse_any _ _ hs').mono ?_; rintro e w2 ⟨rfl, hb2⟩; dsimp only
  go_wp2_with fail
  refine (RParse_any _ _ hs').mono ?_; rintro e w' ⟨rfl, rfl⟩; dsimp only
  go_wp2_with fail
  refine (Digits_any _ _ hs').mono ?_; rintro e w' ⟨rfl, rfl⟩; dsimp only
  go_wp2_with fail
  refine (RDigits_any _ _ hs').mono ?_; rintro e w' ⟨rfl, rfl⟩; dsimp only
  go_wp2_with fail
  go_ret
  exact ⟨rfl, hb1.trans (hb2.mono hb1.size)⟩

end Go.Proofs.Ytgnckeidekppjaa
