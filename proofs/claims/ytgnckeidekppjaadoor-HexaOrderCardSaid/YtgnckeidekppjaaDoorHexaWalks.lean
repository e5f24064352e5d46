/-
  The walks of layer 1 (hexa): each function of the program, once.
-/
import Derived.Test.YtgnckeidekppjaaDoorProg
import Derived.Test.YtgnckeidekppjaaDoorHexaBase
import Derived.Test.YtgnckeidekppjaaDoorCommon
import Derived.KernelRfl
import Derived.LoopTactic
import Derived.Deep.LoopGhost
import Derived.Lib.Hide
import Derived.Lib.ConvBytes
namespace Go.Proofs.YtgnckeidekppjaaDoor
open Go.RowKit
set_option linter.unusedVariables false
set_option linter.unusedSimpArgs false


set_option maxHeartbeats 400000 in
theorem Digit_any (c : Int) (h0 : 0 ≤ c) (h1 : c ≤ 255) (w : World) :
    Calls Tryd.prog 13 #[.int .u8 c] w fun e w' => e = .returned (.int .i64 (digitV c)) ∧ w = w' := by
  obtain ⟨hb0, hb1⟩ := or32_bd c h0 h1
  by_cases a : 48 ≤ c ∧ c ≤ 57
  · obtain ⟨a, b⟩ := a
    have hv : digitV c = c - 48 := by unfold digitV; rw [if_pos ⟨a, b⟩]
    have Hv := Lib.hid hv; clear hv
    go_enter Tryd.func13, Tryd.ntmps13
    go_wp2
    go_ret
    exact ⟨ret_int Hv.out.symm, rfl⟩
  · by_cases b : 97 ≤ Go.bits .or .u8 c 32 ∧ Go.bits .or .u8 c 32 ≤ 102
    · have hv : digitV c = Go.bits .or .u8 c 32 - 87 := by unfold digitV; rw [if_neg a, if_pos b]
      have Hv := Lib.hid hv; clear hv
      obtain ⟨b1, b2⟩ := b
      by_cases a1 : 48 ≤ c
      all_goals
        go_enter Tryd.func13, Tryd.ntmps13
        go_wp2
        go_ret
        exact ⟨ret_int (by rw [Hv.out]; omega), rfl⟩
    · have hv : digitV c = -1 := by unfold digitV; rw [if_neg a, if_neg b]
      have Hv := Lib.hid hv; clear hv
      by_cases a1 : 48 ≤ c <;> by_cases b1 : 97 ≤ Go.bits .or .u8 c 32
      all_goals
        go_enter Tryd.func13, Tryd.ntmps13
        go_wp2
        go_ret
        exact ⟨ret_int (by rw [Hv.out]), rfl⟩

theorem digs_at' (s : ByteArray) (k : Nat) (h : k ≤ digs s.data.toList) (hk : k < s.size) : (k < digs s.data.toList ↔ 0 ≤ digitV s[k].toNat) :=
  digs_at s.data.toList k h (by simpa using hk)

set_option maxHeartbeats 400000 in
theorem Digits_any (s : ByteArray) (w : World) (hs : s.size ≤ maxLen) :
    Calls Tryd.prog 10 #[.string s] w fun e w' => e = .returned (.int .i64 (digs s.data.toList)) ∧ w = w' := by
  unfold maxLen at hs
  have hd : digs s.data.toList ≤ s.size := by have := digs_le s.data.toList; simpa using this
  go_enter Tryd.func10, Tryd.ntmps10
  go_wp2
  go_step3
  go_wp2
  go_step3
  go_wp2
  go_loop [3] (fun n => ∃ k : Nat, k ≤ digs s.data.toList ∧ n = .int .i64 k) (fun n => s.size - (intOf n).toNat)
  case atStart => exact ⟨0, Nat.zero_le _, rfl⟩
  case round =>
    obtain ⟨k, hk, rfl⟩ := hrel
    by_cases hlt : k < s.size
    · have hda := digs_at' s k hk hlt
      have hbyte : (s[k].toNat : Int) ≤ 255 := by have := s[k].toNat_lt; omega
      by_cases hpos : 0 ≤ digitV s[k].toNat
      · have hk1 : k < digs s.data.toList := hda.2 hpos
        clear hda
        go_wp2_with (go_at_call 13; refine (Digit_any _ (by omega) (by omega) _).mono ?_; rintro e w' ⟨rfl, rfl⟩)
        go_round
        case rel => exact ⟨k + 1, by omega, by go_num⟩
        case measure => simp [intOf]; omega
      · have hk1 : k = digs s.data.toList := by
          rcases Nat.lt_or_ge k (digs s.data.toList) with h | h
          · exact absurd (hda.1 h) hpos
          · omega
        have Hk1 := Lib.hid hk1; clear hk1 hda
        go_wp2_with (go_at_call 13; refine (Digit_any _ (by omega) (by omega) _).mono ?_; rintro e w' ⟨rfl, rfl⟩)
        rw [Exit.noGoto_ret]
        go_ret
        exact ⟨ret_int (by rw [← Hk1.out]), rfl⟩
    · have hk1 : k = digs s.data.toList := by omega
      have hk2 : k = s.size := by omega
      subst hk2
      have Hk1 := Lib.hid hk1; clear hk1
      go_wp2
      go_ret
      exact ⟨ret_int (by rw [← Hk1.out]), rfl⟩

set_option maxHeartbeats 400000 in
theorem More_any (n c : Int) (hn0 : 0 ≤ n) (hn1 : n ≤ 18446744073709551615) (h0 : 0 ≤ c) (h1 : c ≤ 255) (w : World) :
    Calls Tryd.prog 11 #[.int .u64 n, .int .u8 c] w fun e w' => e = .returned (.tuple #[.int .u64 (moreV n c).1, .int .i64 (moreV n c).2]) ∧ w = w' := by
  obtain ⟨d0, d1⟩ := digitV_bd c
  by_cases a : digitV c < 0
  · have hv : moreV n c = (0, 2) := by unfold moreV; rw [if_pos a]
    have Hv := Lib.hid hv; clear hv
    go_enter Tryd.func11, Tryd.ntmps11
    go_wp2_with (go_at_call 13; refine (Digit_any _ (by omega) (by omega) _).mono ?_; rintro e w' ⟨rfl, rfl⟩)
    go_ret2
    exact ⟨ret_two (by rw [Hv.out]) (by rw [Hv.out]), rfl⟩
  · by_cases b : 16 * n + digitV c ≤ 4611686018427387903
    · have hv : moreV n c = (16 * n + digitV c, 0) := by unfold moreV; rw [if_neg a, if_pos b]
      have Hv := Lib.hid hv; clear hv
      have a' : 0 ≤ digitV c := by omega
      have b' : n ≤ (4611686018427387903 - digitV c) / 16 := by omega
      go_enter Tryd.func11, Tryd.ntmps11
      go_wp2_with (go_at_call 13; refine (Digit_any _ (by omega) (by omega) _).mono ?_; rintro e w' ⟨rfl, rfl⟩)
      go_ret2
      exact ⟨ret_two (by rw [Hv.out]) (by rw [Hv.out]), rfl⟩
    · have hv : moreV n c = (0, 3) := by unfold moreV; rw [if_neg a, if_neg b]
      have Hv := Lib.hid hv; clear hv
      have a' : 0 ≤ digitV c := by omega
      have b' : (4611686018427387903 - digitV c) / 16 < n := by omega
      go_enter Tryd.func11, Tryd.ntmps11
      go_wp2_with (go_at_call 13; refine (Digit_any _ (by omega) (by omega) _).mono ?_; rintro e w' ⟨rfl, rfl⟩)
      go_ret2
      exact ⟨ret_two (by rw [Hv.out]) (by rw [Hv.out]), rfl⟩

theorem str_nil (s : ByteArray) (h : s.size = 0) : s.toList = [] ∧ s.toList.isEmpty = true := by
  have h1 : s.toList = [] := by rw [ByteArray.toList_eq]; exact List.eq_nil_of_length_eq_zero (by simpa using h)
  exact ⟨h1, by rw [h1]; rfl⟩
theorem str_cons (s : ByteArray) (h : 0 < s.size) : ¬ s.toList = [] ∧ s.toList.isEmpty = false := by
  have h1 : ¬ s.toList = [] := by
    rw [ByteArray.toList_eq]; intro h2
    have h3 : s.data.toList.length = 0 := by rw [h2]; rfl
    rw [Array.length_toList] at h3
    have h4 : s.data.size = s.size := rfl
    omega
  exact ⟨h1, by simpa using h1⟩

theorem below_bytes (w : World) (e : TypeId) (s : ByteArray) : Below w.heap.size w (Lib.bytesWorld w e s) :=
  ⟨rfl, rfl, rfl, by rw [Lib.bytesWorld_size]; omega, fun k hk => Lib.bytesWorld_at_old w e s k hk⟩

set_option maxHeartbeats 400000 in
set_option maxRecDepth 100000 in
theorem Parse_any (s : ByteArray) (w : World) (hs : s.size ≤ maxLen) :
    Calls Tryd.prog 7 #[.string s] w fun e w' => e = .returned (.tuple #[.int .u64 (parseV s.data.toList).1, .int .i64 (parseV s.data.toList).2]) ∧ Below w.heap.size w w' := by
  unfold maxLen at hs
  have hd0 : digs s.data.toList ≤ s.size := by have := digs_le s.data.toList; simpa using this
  by_cases he : s.size = 0
  · have hv : parseV s.data.toList = (0, 2) := by
      unfold parseV
      rw [if_pos (.inl (List.eq_nil_of_length_eq_zero (by simpa using he)))]
    have Hv := Lib.hid hv; clear hv
    obtain ⟨e1, e2⟩ := str_nil s he
    clear he
    go_enter Tryd.func7, Tryd.ntmps7
    go_wp2_with (go_at_call 10; refine (Digits_any _ _ (by unfold maxLen; omega)).mono ?_; rintro e w' ⟨rfl, rfl⟩)
    go_ret2
    exact ⟨ret_two (by rw [Hv.out]) (by rw [Hv.out]), Below.refl _ _⟩
  · obtain ⟨e1, e2⟩ := str_cons s (by omega)
    have hne : ¬ s.data.toList = [] := by rw [← ByteArray.toList_eq]; exact e1
    by_cases hd : digs s.data.toList < s.size
    · have hv : parseV s.data.toList = (0, 2) := by
        unfold parseV
        rw [if_pos (.inr (by simpa using hd))]
      have Hv := Lib.hid hv; clear hv
      go_enter Tryd.func7, Tryd.ntmps7
      go_wp2_with (go_at_call 10; refine (Digits_any _ _ (by unfold maxLen; omega)).mono ?_; rintro e w' ⟨rfl, rfl⟩)
      go_ret2
      exact ⟨ret_two (by rw [Hv.out]) (by rw [Hv.out]), Below.refl _ _⟩
    · have hcv := fun (W : World) => Lib.run_convert_string_bytes (P := Tryd.prog) W 9 32 5 s Tryd.underlying9 Tryd.underlying32 Tryd.underlying5
      go_enter Tryd.func7, Tryd.ntmps7
      go_wp2_with (go_at_call 10; refine (Digits_any _ _ (by unfold maxLen; omega)).mono ?_; rintro e w' ⟨rfl, rfl⟩)
      clear hcv
      have hbw : Below w.heap.size w (Lib.bytesWorld w 5 s) := below_bytes w 5 s
      have hcell := fun j (hj : j < s.size) => Lib.bytesWorld_cell w 5 s j hj
      generalize Lib.bytesWorld w 5 s = wb at hbw hcell ⊢
      go_loop [4, 21] (fun n i => ∃ k : Nat, k ≤ s.size ∧ i = .int .i64 k ∧ n = .int .u64 (valL (s.data.toList.take k)) ∧ valL (s.data.toList.take k) ≤ 4611686018427387903) (fun _ i => s.size - (intOf i).toNat)
      case atStart => exact ⟨0, Nat.zero_le _, rfl, rfl, by simp [valL]⟩
      case round =>
        obtain ⟨k, hk, rfl, rfl, hv⟩ := hrel
        have hl : s.data.toList.length ≤ digs s.data.toList := by simp; omega
        have hv0 := valL_pos hl k (by simpa using hk)
        have hc : k < s.size → wb.cell? ⟨w.heap.size, k, none⟩ = some (.int .u8 (s.data.toList.getD k 0).toNat) := hcell k
        clear hcell
        by_cases hlt : k < s.size
        · have hlt' : k < s.data.size := hlt
          have hbyte : (s.data[k].toNat : Int) ≤ 255 := by have := s.data[k].toNat_lt; omega
          have hdig : 0 ≤ digitV s.data[k].toNat := by have := digs_all hl k (by simpa using hlt); simpa using this
          have hsnoc : valL (s.data.toList.take (k + 1)) = 16 * valL (s.data.toList.take k) + digitV s.data[k].toNat := by
            rw [take_snoc s k hlt, valL_snoc]; rfl
          by_cases hb : valL (s.data.toList.take (k + 1)) ≤ 4611686018427387903
          · have hm : moreV (valL (s.data.toList.take k)) s.data[k].toNat = (valL (s.data.toList.take (k + 1)), 0) := by
              unfold moreV; rw [if_neg (by omega), ← hsnoc, if_pos hb]
            clear hsnoc
            go_wp2_with (go_at_call 11; refine (More_any _ _ (by omega) (by omega) (by omega) (by omega) _).mono ?_; rintro e w' ⟨rfl, rfl⟩)
            go_round
            case rel => exact ⟨k + 1, by omega, by go_num, rfl, hb⟩
            case measure => simp [intOf]; omega
          · have hm : moreV (valL (s.data.toList.take k)) s.data[k].toNat = (0, 3) := by
              unfold moreV; rw [if_neg (by omega), ← hsnoc, if_neg hb]
            have hpv : parseV s.data.toList = (0, 3) := by
              unfold parseV
              rw [if_neg (by simp only [not_or]; exact ⟨hne, by simpa using hd⟩), if_neg]
              have := valL_mono hl (k + 1) s.data.toList.length (by simp; omega) (Nat.le_refl _)
              rw [List.take_length] at this
              omega
            have Hpv := Lib.hid hpv
            clear hsnoc hpv
            go_wp2_with (go_at_call 11; refine (More_any _ _ (by omega) (by omega) (by omega) (by omega) _).mono ?_; rintro e w' ⟨rfl, rfl⟩)
            go_ret2
            exact ⟨ret_two (by rw [Hpv.out]) (by rw [Hpv.out]), hbw⟩
        · have hks : k = s.size := by omega
          have hpv : parseV s.data.toList = (valL (s.data.toList.take k), 0) := by
            unfold parseV
            rw [if_neg (by simp only [not_or]; exact ⟨hne, by simpa using hd⟩), show s.data.toList.take k = s.data.toList from List.take_of_length_le (by simp; omega)]
            rw [show s.data.toList.take k = s.data.toList from List.take_of_length_le (by simp; omega)] at hv
            rw [if_pos hv]
          have Hpv := Lib.hid hpv
          clear hpv hks
          go_wp2
          go_ret2
          exact ⟨ret_two (by rw [Hpv.out]) (by rw [Hpv.out]), hbw⟩

end Go.Proofs.YtgnckeidekppjaaDoor
