/-
  The walk of the law ScriptBytes.
-/
import Derived.Test.YtplcfijcmihhlaaDoorGets28
import Derived.Test.YtplcfijcmihhlaaDoorWord28
import Derived.Test.YtplcfijcmihhlaaDoorRBytes28
namespace Go.Proofs.YtplcfijcmihhlaaDoor
open Go.RowKit Go.Proofs.YtplcfijcmihhlaaDoorW.PrintWords
set_option linter.unusedVariables false
set_option linter.unusedSimpArgs false

theorem dig_hexd (n : Nat) (h : n < 16) : digitV (hexd n).toNat = n := by
  have : ∀ k : Fin 16, digitV (hexd k.val).toNat = (k.val : Int) := by decide +kernel
  exact this ⟨n, h⟩
theorem pairs_hexL : ∀ (b : List Int), (∀ x ∈ b, 0 ≤ x ∧ x ≤ 255) → pairs (hexL b) = b ∧ allDig (hexL b) = true
  | [], _ => ⟨rfl, rfl⟩
  | x :: b, h => by
    obtain ⟨i1, i2⟩ := pairs_hexL b (fun y hy => h y (List.mem_cons_of_mem _ hy))
    have hx := h x List.mem_cons_self
    have e : hexL (x :: b) = hexd (x.toNat / 16) :: hexd (x.toNat % 16) :: hexL b := by simp [hexL]
    have d1 := dig_hexd (x.toNat / 16) (by omega)
    have d2 := dig_hexd (x.toNat % 16) (by omega)
    rw [e]
    refine ⟨?_, ?_⟩
    · simp only [pairs, i1, List.cons.injEq, and_true]
      unfold pairV
      rw [d1, d2]; omega
    · show (decide (0 ≤ digitV (hexd (x.toNat / 16)).toNat) && (decide (0 ≤ digitV (hexd (x.toNat % 16)).toNat) && allDig (hexL b))) = true
      rw [d1, d2, i2, decide_eq_true (by omega), decide_eq_true (by omega)]; rfl
theorem bytes_hexS (b : List Int) (h : ∀ x ∈ b, 0 ≤ x ∧ x ≤ 255) : bytesS (hexS b) = some b := by
  unfold bytesS
  by_cases h0 : b = []
  · subst h0
    rw [show (hexS []).data.toList = [45] from rfl, if_pos rfl]
  · have hd : (hexS b).data.toList = hexL b := by unfold hexS; rw [if_neg h0]
    have hl := hexL_len b
    have hs : (hexS b).size = 2 * b.length := by
      unfold hexS; rw [if_neg h0]
      show (hexL b).toArray.size = _
      rw [List.size_toArray, hl]
    have hb : b.length ≠ 0 := by simpa using h0
    obtain ⟨i1, i2⟩ := pairs_hexL b h
    rw [hd, if_neg (fun e => by rw [e] at hl; simp at hl; omega), hs, show 2 * (2 * b.length / 2) = (hexL b).length by omega, List.take_length, if_pos ⟨i2, by rw [i1]⟩, i1]
theorem hexS_size (b : List Int) : (hexS b).size ≤ 2 * b.length + 1 := by
  unfold hexS
  split
  · show (1 : Nat) ≤ _; omega
  · show (hexL b).toArray.size ≤ _
    rw [List.size_toArray, hexL_len]; omega

theorem bytesS_len (s : ByteArray) : ((bytesS s).getD []).length ≤ s.size := by
  have hl : s.data.toList.length = s.size := by simp
  have := pairs_len s.data.toList
  unfold bytesS
  split
  · exact Nat.zero_le _
  · split
    · show (pairs s.data.toList).length ≤ _; omega
    · exact Nat.zero_le _
theorem Same_self {A0 : Option Addr} {c0 : Nat} {l : List Int} {A1 : Option Addr} {c1 : Nat} {w : World} (hr0 : Kd.C (Kd.int .u8) w A0 l.length l) (hc0 : l.length ≤ c0) (hr1 : Kd.C (Kd.int .u8) w A1 l.length l) (hc1 : l.length ≤ c1) (hl : l.length ≤ 1000000) :
    Calls Tryd.prog 23 #[.slice A0 l.length c0, .slice A1 l.length c1] w fun e w' => e = .returned (.bool true) ∧ Below w.heap.size w w' :=
  (Same_any A0 c0 l A1 c1 l w hr0 hc0 hr1 hc1 hl).mono fun e w' h => ⟨by rw [h.1]; simp, h.2⟩

set_option maxHeartbeats 2000000 in
set_option maxRecDepth 100000 in
theorem ScriptBytes_any {A : Option Addr} {c : Nat} {l : List Int} {W : World} (hr : Kd.C (Kd.int .u8) W A l.length l) (hc : l.length ≤ c) (hb : ∀ x ∈ l, 0 ≤ x ∧ x ≤ 255) (s : ByteArray) (hT : Tabs W W.heap.size) :
    Calls Tryd.prog 5 #[.slice A l.length c, .string s] W fun e w' => e = .returned (.bool true) ∧ Below W.heap.size W w' := by
  have hWk := Lib.hid (wakes_any W hT)
  have hTT := Lib.hid hT
  have hRR := Lib.hid hr
  have hCC := Lib.hid hc
  clear hT hr hc
  go_enter Tryd.func5, Tryd.ntmps5
  go_wp2_with fail
  refine hWk.out.mono ?_; rintro e w1 ⟨rfl, hb1⟩; dsimp only
  have HB1 := Lib.hid hb1
  clear hb1 hWk
  by_cases hl : 300 < l.length
  · go_wp2_with fail
    go_ret
    exact ⟨rfl, HB1.out⟩
  by_cases hs : 300 < s.size
  · go_wp2_with fail
    go_ret
    exact ⟨rfl, HB1.out⟩
  have z1 := HB1.out.size
  have hR1 := Kd.C_below hRR.out HB1.out
  have hH := Lib.hid (Hex_any (c := c) hR1 hb (by omega))
  clear hR1
  go_wp2_with fail
  refine hH.out.mono ?_; rintro e w2 ⟨rfl, hb2⟩; dsimp only
  have HB2 := Lib.hid (HB1.out.trans (hb2.mono z1))
  have z2 := HB2.out.size
  clear hb2 hH
  have hT2 := hTT.out.below HB2.out
  obtain ⟨ev, hev1, hev2⟩ := hT2.err
  have hlt2 := hT2.lt
  have hxs := hexS_size l
  have hBy := Lib.hid (Bytes_any (hexS l) (by omega) ev w2 hev1 hev2 (by show 2 < _; omega))
  clear hT2 hev1
  rw [bytes_hexS l hb] at hBy
  go_wp2_with fail
  refine hBy.out.mono ?_; rintro e w3 ⟨v, rfl, hv, hb3⟩; dsimp only [Option.getD, Option.isSome] at hv ⊢
  have HB3 := Lib.hid (HB2.out.trans (hb3.mono z2))
  have z3 := HB3.out.size
  have HV := Lib.hid hv
  clear hb3 hv hBy
  have hT3 := hTT.out.below HB3.out
  obtain ⟨ev', hev1', hev2'⟩ := hT3.err
  have hBz := Lib.hid (Bytes_any s (by omega) ev' w3 hev1' hev2' (by show 2 < _; omega))
  clear hT3 hev1'
  go_wp2_with fail
  refine hBz.out.mono ?_; rintro e w4 ⟨v4, rfl, hv4, hb4⟩; dsimp only
  have HV3 := Lib.hid (Kd.R_below HV.out hb4)
  have HB4 := Lib.hid (HB3.out.trans (hb4.mono z3))
  have z4 := HB4.out.size
  have HV4 := Lib.hid hv4
  clear hb4 hv4 hBz HV
  have hRy := Lib.hid (RBytes_any s (by omega) w4)
  go_wp2_with fail
  refine hRy.out.mono ?_; rintro e w5 ⟨v5, rfl, hv5, hb5⟩; dsimp only
  have HV33 := Lib.hid (Kd.R_below HV3.out hb5)
  have HV44 := Lib.hid (Kd.R_below HV4.out hb5)
  have HB5 := Lib.hid (HB4.out.trans (hb5.mono z4))
  have z5 := HB5.out.size
  have HV5 := Lib.hid hv5
  clear hb5 hv5 hRy HV3 HV4
  have hHx := Lib.hid (RHex_any (c := c) (Kd.C_below hRR.out HB5.out) hb (by omega))
  go_wp2_with fail
  refine hHx.out.mono ?_; rintro e w6 ⟨rfl, hb6⟩; dsimp only
  have HV3 := Lib.hid (Kd.R_below HV33.out hb6)
  have HV4 := Lib.hid (Kd.R_below HV44.out hb6)
  have HV6 := Lib.hid (Kd.R_below HV5.out hb6)
  have HB6 := Lib.hid (HB5.out.trans (hb6.mono z5))
  have z6 := HB6.out.size
  clear hb6 hHx HV33 HV44 HV5
  obtain ⟨A3, c3, rfl⟩ := Kd.R_slice HV3.out
  obtain ⟨A4, c4, rfl⟩ := Kd.R_slice HV4.out
  obtain ⟨A5, c5, rfl⟩ := Kd.R_slice HV6.out
  obtain ⟨_, q3, C3⟩ := Kd.R_reads' HV3.out
  obtain ⟨_, q4, C4⟩ := Kd.R_reads' HV4.out
  obtain ⟨_, q5, C5⟩ := Kd.R_reads' HV6.out
  have hS1 := Lib.hid (Same_self (c0 := c3) (c1 := c) C3 q3 (Kd.C_below hRR.out HB6.out) hCC.out (by omega))
  have hS2 := fun (u : World) (hu : Below w6.heap.size w6 u) => Lib.hid (Same_self (c0 := c4) (c1 := c5) (Kd.C_below C4 hu) q4 (Kd.C_below C5 hu) q5 (by have := bytesS_len s; omega))
  clear C3 C4 C5 q3 q4 q5
  go_wp2_with fail
  refine hS1.out.mono ?_; rintro e w7 ⟨rfl, hb7⟩; dsimp only
  have HS2 := hS2 w7 hb7
  have HB7 := Lib.hid (HB6.out.trans (hb7.mono z6))
  clear hb7 hS2 hS1
  go_wp2_with fail
  refine HS2.out.mono ?_; rintro e w8 ⟨rfl, hb8⟩; dsimp only
  have HB8 := Lib.hid (HB7.out.trans (hb8.mono HB7.out.size))
  clear hb8
  go_wp2_with fail
  go_ret
  exact ⟨rfl, HB8.out⟩

end Go.Proofs.YtplcfijcmihhlaaDoor
