/-
  The walk of the reference's Put, and the law HexaMore.
-/
import Derived.Test.YtgnckeidekppjaaHexaRef
import Derived.Test.YtgnckeidekppjaaMem
import Derived.Deep.Draws
import Derived.Deep.RegionWith
import Derived.WalkSpells
import Derived.WalkLawsBesides
namespace Go.Proofs.Ytgnckeidekppjaa
open Go.RowKit
set_option linter.unusedVariables false
set_option linter.unusedSimpArgs false

theorem cut_S (d : Nat) (h : d < 16) : (⟨#[48, 49, 50, 51, 52, 53, 54, 55, 56, 57, 97, 98, 99, 100, 101, 102]⟩ : ByteArray).extract d (d + 1) = ba [tabS.getD d 0] := by
  have : ∀ j : Fin 16, (⟨#[48, 49, 50, 51, 52, 53, 54, 55, 56, 57, 97, 98, 99, 100, 101, 102]⟩ : ByteArray).extract j.val (j.val + 1) = ba [tabS.getD j.val 0] := by decide +kernel
  exact this ⟨d, h⟩

theorem ret_str {a b : ByteArray} (h : a = b) : Ending.returned (.string a) = .returned (.string b) := by rw [h]

set_option maxHeartbeats 400000 in
set_option maxRecDepth 100000 in
theorem RPut_any (n : Nat) : ∀ (w : World), n ≤ 18446744073709551615 →
    Calls Try.prog 20 #[.int .u64 n] w fun e w' => e = .returned (.string (ba (hexT n))) ∧ ∃ k, w' = w.drewN k := by
  induction n using Nat.strongRecOn with
  | _ n ih =>
    intro w hn
    by_cases h16 : n < 16
    · have hv : hexT n = [tabS.getD n 0] := by unfold hexT; rw [if_pos h16]
      have Hv := Lib.hid hv; clear hv
      have Hih := Lib.hid ih; clear ih
      have hm : (n : Int) % 16 = n := by omega
      have h0 : (0 : Int) ≤ n := by omega
      go_enter Try.func20, Try.ntmps20
      go_wp2_with fail
      go_ret
      exact ⟨ret_str (by rw [Hv.out]; exact cut_S n h16), 0, rfl⟩
    · obtain ⟨d, hd⟩ : ∃ d, n % 16 = d := ⟨_, rfl⟩
      obtain ⟨q, hq⟩ : ∃ q, n / 16 = q := ⟨_, rfl⟩
      have hv : hexT n = hexT q ++ [tabS.getD d 0] := by
        rw [hexT, if_neg h16, hd, hq]
      have Hv := Lib.hid hv; clear hv
      have h1 := fun W => Lib.hid (ih q (by omega) W (by omega))
      clear ih
      have hd1 : d < 16 := by omega
      have hd' : (n : Int) % 16 = d := by omega
      have hq' : (n : Int) / 16 = q := by omega
      have hn' : 16 ≤ n := by omega
      clear hd hq h16
      go_enter Try.func20, Try.ntmps20
      go_wp2_with fail
      have b0 : IntKind.u64.wrap (q : Int) = q := IntWalk.u64_in _ (by omega)
      have b1 : IntKind.i64.wrap ((d : Int) + 1) = (d : Int) + 1 := IntWalk.i64_in _ (by omega)
      have b2 : (0 : Int) ≤ (d : Int) + 1 := by omega
      have b3 : ((d : Int) + 1).toNat = d + 1 := by omega
      have hsl : ∀ W : World, (Instr.slice 9 (.string ⟨#[48, 49, 50, 51, 52, 53, 54, 55, 56, 57, 97, 98, 99, 100, 101, 102]⟩) (some (.int .i64 (d : Int))) (some (.int .i64 ((d : Int) + 1))) none).run Try.prog W = .ok (.string (ba [tabS.getD d 0])) W := by
        intro W
        rw [run_slice_string W 9 _ .i64 .i64 (d : Int) ((d : Int) + 1) Try.underlying9 (by omega) (by omega) (by show (d : Int) + 1 ≤ 16; omega)]
        rw [b3, Int.toNat_natCast, cut_S d hd1]
      have hlen := hexT_len 15 q (by omega)
      have hadd : ∀ W : World, (Op.stringOp .add (ba (hexT q)) (ba [tabS.getD d 0])).run Try.prog W = .ok (.string (ba (hexT q ++ [tabS.getD d 0]))) W := by
        intro W
        rw [run_string_add_sum W _ _ (by rw [ba_size, ba_size]; simp; omega), ba_append]
      generalize tabS.getD d 0 = c at Hv hsl hadd
      go_quiet ((go_at_call 20; with_reducible exact Calls.quiet_of (h1 _).out))
      go_wp2
      go_ret
      exact ⟨ret_str (by rw [Hv.out]), _, rfl⟩

theorem conv_one (g : Nat) (b : UInt8) (W : World) (h : W.cell? ⟨g, 0, none⟩ = some (.int .u8 b.toNat)) :
    (convert 34 9 (.slice (some ⟨g, 0, none⟩) 1 1)).run Try.prog W = .ok (.string (ba [b])) W := by
  have := run_convert_bytes_arg (P := Try.prog) W 34 5 Try.underlying34 Try.underlying5 g 0 1 1 [(b.toNat : Int)] rfl
    (fun i hi => by obtain rfl : i = 0 := by omega
                    exact h) 9 Try.underlying9
  rw [this]
  have e : strOfNums [(b.toNat : Int)] = ba [b] := by simp [strOfNums, ba]
  rw [e]

set_option maxHeartbeats 400000 in
set_option maxRecDepth 100000 in
theorem HexaMore_any (n : Nat) (b : UInt8) (hn : n ≤ 18446744073709551615) (w : World) :
    Calls Try.prog 4 #[.int .u64 n, .int .u8 b.toNat] w fun e w' => e = .returned (.bool true) ∧ Below w.heap.size w w' := by
  obtain ⟨c, hc⟩ : ∃ c : Int, (b.toNat : Int) = c := ⟨_, rfl⟩
  have h0 : 0 ≤ c := by omega
  have h1 : c ≤ 255 := by have := byte_le b; omega
  by_cases hneg : digitV c < 0
  · have hm : moreV n c = (0, 2) := by unfold moreV; rw [if_pos hneg]
    have c1 := fun W => Lib.hid (More_any n c (by omega) (by omega) h0 h1 W)
    simp only [hm] at c1
    clear hm
    rw [hc]
    clear hc
    go_enter Try.func4, Try.ntmps4
    go_wp2_with fail
    refine (wakes_any _).mono ?_; rintro e w1 ⟨rfl, hb1⟩; dsimp only
    go_wp2_with fail
    refine (c1 _).out.mono ?_; rintro e w' ⟨rfl, rfl⟩; dsimp only
    go_wp2_with fail
    refine (RDigit_any _ h0 h1 _).mono ?_; rintro e w' ⟨rfl, rfl⟩; dsimp only
    go_wp2_with fail
    refine (Digit_any _ h0 h1 _).mono ?_; rintro e w' ⟨rfl, rfl⟩; dsimp only
    go_wp2_with fail
    go_ret
    exact ⟨rfl, hb1⟩
  · have hpos : 0 ≤ digitV c := by omega
    have c1 := fun W => Lib.hid (More_any n c (by omega) (by omega) h0 h1 W)
    have c2 := fun W => Lib.hid (RPut_any n W hn)
    have hlen := hexT_len 15 n (by omega)
    have c3 := fun W => RParse_any (ba (hexT n ++ [b])) W (by rw [ba_size]; unfold maxLen; simp; omega)
    rw [ba_list, parseV_more n b (by rw [hc]; exact hpos)] at c3
    have hadd : ∀ W : World, (Op.stringOp .add (ba (hexT n)) (ba [b])).run Try.prog W = .ok (.string (ba (hexT n ++ [b]))) W := by
      intro W
      rw [run_string_add_sum W _ _ (by rw [ba_size, ba_size]; simp; omega), ba_append]
    rw [hc] at c3 ⊢
    have hcv0 := fun (g : Nat) (W : World) => conv_one g b W
    simp only [hc] at hcv0
    have Hcv0 := fun g W h => Lib.hid (hcv0 g W h)
    clear hc hneg hcv0
    have C3 := fun W => Lib.hid (c3 W)
    clear c3
    go_enter Try.func4, Try.ntmps4
    go_wp2_with fail
    refine (wakes_any _).mono ?_; rintro e w1 ⟨rfl, hb1⟩; dsimp only
    go_wp2_with fail
    refine (c1 _).out.mono ?_; rintro e w' ⟨rfl, rfl⟩; dsimp only
    go_wp2_with fail
    refine (RDigit_any _ h0 h1 _).mono ?_; rintro e w' ⟨rfl, rfl⟩; dsimp only
    go_wp2_with fail
    refine (Digit_any _ h0 h1 _).mono ?_; rintro e w' ⟨rfl, rfl⟩; dsimp only
    go_wp2_with fail
    have hcvA := fun k => (Hcv0 w1.heap.size ((w1.drewN k).alloc (.cells #[.int .u8 c] 5)) (World.cell?_alloc_new (w1.drewN k) _ _ _)).out
    have hcvB := (Hcv0 w1.heap.size (w1.drew.alloc (.cells #[.int .u8 c] 5)) (World.cell?_alloc_new w1.drew _ _ _)).out
    have hcvC := fun k => (Hcv0 w1.heap.size ((w1.alloc (.cells #[.int .u8 c] 5)).drewN k) (World.cell?_alloc_new w1 _ _ _)).out
    have hcvD := (Hcv0 w1.heap.size ((w1.alloc (.cells #[.int .u8 c] 5)).drew) (World.cell?_alloc_new w1 _ _ _)).out
    go_region_with (first
      | (go_at_call 20; refine (c2 _).out.mono ?_; rintro e w' ⟨rfl, ⟨nd, rfl⟩⟩)
      | (go_at_call 14; refine (C3 _).out.mono ?_; rintro e w' ⟨rfl, rfl⟩))
    all_goals
      go_wp2
      go_ret
      refine ⟨rfl, hb1.trans ?_⟩
      first
        | exact (Below.alloc (below_drewN (Below.refl _ _) _) hb1.size _)
        | exact below_drewN (Below.alloc (Below.refl _ _) hb1.size _) _

/-- The law, at the arguments as the row opens them. -/
theorem hexaMore_of (a : Int) (wa : (Lit.int .u64 a).wf = true) (c : Int) (wc : (Lit.int .u8 c).wf = true) (w : World) :
    Calls Try.prog 4 #[.int .u64 a, .int .u8 c] w fun e w' => e = .returned (.bool true) ∧ Below w.heap.size w w' := by
  simp [Lit.wf, IntKind.min, IntKind.max, IntKind.signed, IntKind.bits] at wa wc
  obtain ⟨n, rfl⟩ := Int.eq_ofNat_of_zero_le wa.1
  obtain ⟨k, rfl⟩ := Int.eq_ofNat_of_zero_le wc.1
  have h := HexaMore_any n (UInt8.ofNat k) (by omega) w
  have e : (UInt8.ofNat k).toNat = k := by rw [UInt8.toNat_ofNat']; omega
  rw [e] at h
  exact h

end Go.Proofs.Ytgnckeidekppjaa
