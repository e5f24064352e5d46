/-
  Layer 1 (hexa): a digit, and a number with one digit more.
-/
import Derived.Test.YtfeljjlpdefnmaaGreatProg
import Derived.Test.YtfeljjlpdefnmaaGreatHexaBase
import Derived.Test.YtfeljjlpdefnmaaGreatBaseR
import Derived.KernelRfl
import Derived.LoopTactic
import Derived.Deep.LoopGhost
import Derived.Lib.Hide
import Derived.Lib.ConvBytes
namespace Go.Proofs.YtfeljjlpdefnmaaGreat
open Go.RowKit
set_option linter.unusedVariables false
set_option linter.unusedSimpArgs false


set_option maxHeartbeats 400000 in
theorem Digit_any (c : Int) (h0 : 0 ≤ c) (h1 : c ≤ 255) (w : World) :
    Calls Tryz.prog 88 #[.int .u8 c] w fun e w' => e = .returned (.int .i64 (digitV c)) ∧ w = w' := by
  obtain ⟨hb0, hb1⟩ := or32_bd c h0 h1
  by_cases a : 48 ≤ c ∧ c ≤ 57
  · obtain ⟨a, b⟩ := a
    have hv : digitV c = c - 48 := by unfold digitV; rw [if_pos ⟨a, b⟩]
    have Hv := Lib.hid hv; clear hv
    go_enter Tryz.func88, Tryz.ntmps88
    go_wp2
    go_ret
    exact ⟨ret_int Hv.out.symm, rfl⟩
  · by_cases b : 97 ≤ Go.bits .or .u8 c 32 ∧ Go.bits .or .u8 c 32 ≤ 102
    · have hv : digitV c = Go.bits .or .u8 c 32 - 87 := by unfold digitV; rw [if_neg a, if_pos b]
      have Hv := Lib.hid hv; clear hv
      obtain ⟨b1, b2⟩ := b
      by_cases a1 : 48 ≤ c
      all_goals
        go_enter Tryz.func88, Tryz.ntmps88
        go_wp2
        go_ret
        exact ⟨ret_int (by rw [Hv.out]; omega), rfl⟩
    · have hv : digitV c = -1 := by unfold digitV; rw [if_neg a, if_neg b]
      have Hv := Lib.hid hv; clear hv
      by_cases a1 : 48 ≤ c <;> by_cases b1 : 97 ≤ Go.bits .or .u8 c 32
      all_goals
        go_enter Tryz.func88, Tryz.ntmps88
        go_wp2
        go_ret
        exact ⟨ret_int (by rw [Hv.out]), rfl⟩

set_option maxHeartbeats 400000 in
theorem More_any (n c : Int) (hn0 : 0 ≤ n) (hn1 : n ≤ 18446744073709551615) (h0 : 0 ≤ c) (h1 : c ≤ 255) (w : World) :
    Calls Tryz.prog 89 #[.int .u64 n, .int .u8 c] w fun e w' => e = .returned (.tuple #[.int .u64 (moreV n c).1, .int .i64 (moreV n c).2]) ∧ w = w' := by
  obtain ⟨d0, d1⟩ := digitV_bd c
  by_cases a : digitV c < 0
  · have hv : moreV n c = (0, 2) := by unfold moreV; rw [if_pos a]
    have Hv := Lib.hid hv; clear hv
    go_enter Tryz.func89, Tryz.ntmps89
    go_wp2_with (go_at_call 88; refine (Digit_any _ (by omega) (by omega) _).mono ?_; rintro e w' ⟨rfl, rfl⟩)
    go_ret2
    exact ⟨ret_two (by rw [Hv.out]) (by rw [Hv.out]), rfl⟩
  · by_cases b : 16 * n + digitV c ≤ 4611686018427387903
    · have hv : moreV n c = (16 * n + digitV c, 0) := by unfold moreV; rw [if_neg a, if_pos b]
      have Hv := Lib.hid hv; clear hv
      have a' : 0 ≤ digitV c := by omega
      have b' : n ≤ (4611686018427387903 - digitV c) / 16 := by omega
      go_enter Tryz.func89, Tryz.ntmps89
      go_wp2_with (go_at_call 88; refine (Digit_any _ (by omega) (by omega) _).mono ?_; rintro e w' ⟨rfl, rfl⟩)
      go_ret2
      exact ⟨ret_two (by rw [Hv.out]) (by rw [Hv.out]), rfl⟩
    · have hv : moreV n c = (0, 3) := by unfold moreV; rw [if_neg a, if_neg b]
      have Hv := Lib.hid hv; clear hv
      have a' : 0 ≤ digitV c := by omega
      have b' : (4611686018427387903 - digitV c) / 16 < n := by omega
      go_enter Tryz.func89, Tryz.ntmps89
      go_wp2_with (go_at_call 88; refine (Digit_any _ (by omega) (by omega) _).mono ?_; rintro e w' ⟨rfl, rfl⟩)
      go_ret2
      exact ⟨ret_two (by rw [Hv.out]) (by rw [Hv.out]), rfl⟩

end Go.Proofs.YtfeljjlpdefnmaaGreat
