/-
  The walk of the reference's Put.
-/
import Derived.Test.YtgnckeidekppjaaDoorHexaWalks
import Derived.Test.YtgnckeidekppjaaDoorMem
import Derived.Deep.Draws
import Derived.Deep.RegionWith
import Derived.Deep.QuietTactic
import Derived.BigQuiet
import Derived.WalkSpells
import Derived.WalkLawsBesides
namespace Go.Proofs.YtgnckeidekppjaaDoor
open Go.RowKit
set_option linter.unusedVariables false
set_option linter.unusedSimpArgs false

theorem cut_S (d : Nat) (h : d < 16) : (⟨#[48, 49, 50, 51, 52, 53, 54, 55, 56, 57, 97, 98, 99, 100, 101, 102]⟩ : ByteArray).extract d (d + 1) = ba [tabS.getD d 0] := by
  have : ∀ j : Fin 16, (⟨#[48, 49, 50, 51, 52, 53, 54, 55, 56, 57, 97, 98, 99, 100, 101, 102]⟩ : ByteArray).extract j.val (j.val + 1) = ba [tabS.getD j.val 0] := by decide +kernel
  exact this ⟨d, h⟩


set_option maxHeartbeats 400000 in
set_option maxRecDepth 100000 in
theorem RPut_any (n : Nat) : ∀ (w : World), n ≤ 18446744073709551615 →
    Calls Tryd.prog 8 #[.int .u64 n] w fun e w' => e = .returned (.string (ba (hexT n))) ∧ ∃ k, w' = w.drewN k := by
  induction n using Nat.strongRecOn with
  | _ n ih =>
    intro w hn
    by_cases h16 : n < 16
    · have hv : hexT n = [tabS.getD n 0] := by unfold hexT; rw [if_pos h16]
      have Hv := Lib.hid hv; clear hv
      have Hih := Lib.hid ih; clear ih
      have hm : (n : Int) % 16 = n := by omega
      have h0 : (0 : Int) ≤ n := by omega
      go_enter Tryd.func8, Tryd.ntmps8
      go_wp2_with fail
      go_ret
      exact ⟨ret_str (by rw [Hv.out]; exact cut_S n h16), 0, rfl⟩
    · obtain ⟨d, hd⟩ : ∃ d, n % 16 = d := ⟨_, rfl⟩
      obtain ⟨q, hq⟩ : ∃ q, n / 16 = q := ⟨_, rfl⟩
      have hv : hexT n = hexT q ++ [tabS.getD d 0] := by
        rw [hexT, if_neg h16, hd, hq]
      have Hv := Lib.hid hv; clear hv
      have h1 := fun W => Lib.hid (ih q (by omega) W (by omega))
      clear ih
      have hd1 : d < 16 := by omega
      have hd' : (n : Int) % 16 = d := by omega
      have hq' : (n : Int) / 16 = q := by omega
      have hn' : 16 ≤ n := by omega
      clear hd hq h16
      go_enter Tryd.func8, Tryd.ntmps8
      go_wp2_with fail
      have b0 : IntKind.u64.wrap (q : Int) = q := IntWalk.u64_in _ (by omega)
      have b1 : IntKind.i64.wrap ((d : Int) + 1) = (d : Int) + 1 := IntWalk.i64_in _ (by omega)
      have b2 : (0 : Int) ≤ (d : Int) + 1 := by omega
      have b3 : ((d : Int) + 1).toNat = d + 1 := by omega
      have hsl : ∀ W : World, (Instr.slice 9 (.string ⟨#[48, 49, 50, 51, 52, 53, 54, 55, 56, 57, 97, 98, 99, 100, 101, 102]⟩) (some (.int .i64 (d : Int))) (some (.int .i64 ((d : Int) + 1))) none).run Tryd.prog W = .ok (.string (ba [tabS.getD d 0])) W := by
        intro W
        rw [run_slice_string W 9 _ .i64 .i64 (d : Int) ((d : Int) + 1) Tryd.underlying9 (by omega) (by omega) (by show (d : Int) + 1 ≤ 16; omega)]
        rw [b3, Int.toNat_natCast, cut_S d hd1]
      have hlen := hexT_len 15 q (by omega)
      have hadd : ∀ W : World, (Op.stringOp .add (ba (hexT q)) (ba [tabS.getD d 0])).run Tryd.prog W = .ok (.string (ba (hexT q ++ [tabS.getD d 0]))) W := by
        intro W
        rw [run_string_add_sum W _ _ (by rw [ba_size, ba_size]; simp; omega), ba_append]
      generalize tabS.getD d 0 = c at Hv hsl hadd
      go_quiet ((go_at_call 8; with_reducible exact Calls.quiet_of (h1 _).out))
      go_wp2
      go_ret
      exact ⟨ret_str (by rw [Hv.out]), _, rfl⟩

end Go.Proofs.YtgnckeidekppjaaDoor
