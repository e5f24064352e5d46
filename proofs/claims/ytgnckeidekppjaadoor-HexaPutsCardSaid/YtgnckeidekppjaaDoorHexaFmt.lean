/-
  The walks of hexa.Put: the library's FormatUint at base 16.
-/
import Derived.Test.YtgnckeidekppjaaDoorHexaWakes
import Derived.Test.YtgnckeidekppjaaDoorHexaRPut
namespace Go.Proofs.YtgnckeidekppjaaDoor
open Go.RowKit
set_option linter.unusedVariables false
set_option linter.unusedSimpArgs false

theorem pow2_16 (w : World) : Calls Tryd.prog 21 #[.int .i64 16] w fun e w' => e = .returned (.bool true) ∧ w = w' := by
  have hb : Go.bits .and .i64 16 15 = 0 := by decide +kernel
  go_enter Tryd.func21, Tryd.ntmps21
  go_wp2_with fail
  go_ret
  exact ⟨rfl, rfl⟩

theorem tz64_16 (w : World) (h : w.cell? ⟨2, 15, none⟩ = some (.int .u8 4)) :
    Calls Tryd.prog 24 #[.int .u64 16] w fun e w' => e = .returned (.int .i64 4) ∧ w = w' := by
  have e1 : IntKind.u64.wrap (-16) = 18446744073709551600 := by decide +kernel
  have hb : Go.bits .and .u64 16 18446744073709551600 = 16 := by decide +kernel
  go_enter Tryd.func24, Tryd.ntmps24
  go_wp2_with fail
  go_ret
  exact ⟨rfl, rfl⟩

theorem tz_16 (w : World) (h : w.cell? ⟨2, 15, none⟩ = some (.int .u8 4)) :
    Calls Tryd.prog 22 #[.int .u64 16] w fun e w' => e = .returned (.int .i64 4) ∧ w = w' := by
  go_enter Tryd.func22, Tryd.ntmps22
  go_wp2_with fail
  refine (tz64_16 _ h).mono ?_; rintro e w' ⟨rfl, rfl⟩; dsimp only
  go_wp2_with fail
  go_ret
  exact ⟨rfl, rfl⟩

theorem at_Z (k : Nat) (hk : k < 16) (h : k < (⟨#[48, 49, 50, 51, 52, 53, 54, 55, 56, 57, 97, 98, 99, 100, 101, 102, 103, 104, 105, 106, 107, 108, 109, 110, 111, 112, 113, 114, 115, 116, 117, 118, 119, 120, 121, 122]⟩ : ByteArray).size) :
    (⟨#[48, 49, 50, 51, 52, 53, 54, 55, 56, 57, 97, 98, 99, 100, 101, 102, 103, 104, 105, 106, 107, 108, 109, 110, 111, 112, 113, 114, 115, 116, 117, 118, 119, 120, 121, 122]⟩ : ByteArray)[k] = tabS.getD k 0 := by
  have : ∀ j : Fin 16, (#[48, 49, 50, 51, 52, 53, 54, 55, 56, 57, 97, 98, 99, 100, 101, 102, 103, 104, 105, 106, 107, 108, 109, 110, 111, 112, 113, 114, 115, 116, 117, 118, 119, 120, 121, 122] : Array UInt8)[j.val]'(Nat.lt_of_lt_of_le j.isLt (by decide)) = tabS.getD j.val 0 := by decide
  exact this ⟨k, hk⟩
theorem and15 (q : Nat) (hq : q ≤ 18446744073709551615) : Go.bits .and .u64 (q : Int) 15 = ((q % 16 : Nat) : Int) := by
  have := u64_and_nat q 15 (by omega) (by omega)
  rw [nat_mask4] at this
  exact this

/-- The buffer of 65 bytes at block A: its last bytes are L. -/
def Buf (W : World) (A : Nat) (L : List UInt8) : Prop :=
  (∀ j, j < 65 → W.frozen? ⟨A, j, none⟩ = false) ∧ (∀ j, j < 65 → ∃ x, W.cell? ⟨A, j, none⟩ = some x) ∧
    (∀ j, j < L.length → W.cell? ⟨A, 65 - L.length + j, none⟩ = some (byteV (L.getD j 0)))

theorem Buf.push {W : World} {A : Nat} {L : List UInt8} (h : Buf W A L) (hl : L.length < 65) (m : Nat) (hm : m + (L.length + 1) = 65) (c : UInt8) : Buf (W.setCell ⟨A, m, none⟩ (byteV c)) A (c :: L) := by
  obtain ⟨h1, h2, h3⟩ := h
  obtain ⟨x, hx⟩ := h2 m (by omega)
  refine ⟨fun j hj => (World.frozen?_setCell _ _ _ _).trans (h1 j hj), fun j hj => ?_, fun j hj => ?_⟩
  · by_cases e : j = m
    · subst e; exact ⟨_, World.cell?_setCell_same _ _ _ hx⟩
    · obtain ⟨y, hy⟩ := h2 j hj
      exact ⟨y, by rw [World.cell?_setCell_other _ _ _ _ (by intro e'; cases e'; exact e rfl)]; exact hy⟩
  · rcases Nat.eq_zero_or_pos j with rfl | hp
    · have e : 65 - (c :: L).length + 0 = m := by simp; omega
      rw [e]; exact World.cell?_setCell_same _ _ _ hx
    · obtain ⟨j, rfl⟩ := Nat.exists_eq_add_of_lt hp
      have e : 65 - (c :: L).length + (0 + j + 1) = 65 - L.length + j := by simp; omega
      rw [e, World.cell?_setCell_other _ _ _ _ (by intro e'; cases e'; omega)]
      have := h3 j (by simp at hj; omega)
      rw [this]; simp

theorem cell_lt {w : World} {b o : Nat} {v : Value} (h : w.cell? ⟨b, o, none⟩ = some v) : b < w.heap.size := by
  apply Classical.byContradiction
  intro hge
  have he : w.heap[b]? = none := by simp; omega
  simp [World.cell?, he] at h

theorem slice65 (W : World) (b m : Nat) (h : m < 65) : (Instr.sliceAt 45 (.pointer (some ⟨b, 0, none⟩)) (some (.int .i64 (m : Int))) none none).run Tryd.prog W = .ok (.slice (some ⟨b, m, none⟩) (65 - m) (65 - m)) W := by
  have e1 : Tryd.prog.arrayLen 45 = 65 := by kernel_rfl
  have e2 : Tryd.prog.elem 45 = 5 := by kernel_rfl
  have e3 : (sizeOf 5).run Tryd.prog W = .ok 1 W := by kernel_rfl
  rw [run_sliceAt_array_l W 45 ⟨b, 0, none⟩ (by kernel_rfl) .i64 (m : Int) (by omega) (by rw [e1]; omega), e1, e2, e3]
  simp only [Result.andThen, slicedAt, Int.toNat_natCast, Nat.mul_one, WideShapes.add_plain, Nat.zero_add]
  rw [if_neg (by omega)]

theorem zero65 (w : World) : (zeroValue 45).run Tryd.prog w = .ok (.agg (Array.replicate 65 (.int .u8 0))) w := by kernel_rfl

set_option maxHeartbeats 2000000 in
set_option maxRecDepth 100000 in
theorem formatBits_16 (n : Nat) (hn : n ≤ 18446744073709551615) (w : World) (h : w.cell? ⟨2, 15, none⟩ = some (.int .u8 4)) :
    Calls Tryd.prog 17 #[.slice none 0 0, .int .u64 n, .int .i64 16, .bool false, .bool false] w fun e w' =>
      e = .returned (.tuple #[.slice none 0 0, .string (ba (hexT n))]) ∧ Below w.heap.size w w' := by
  have hlen := hexT_len 15 n (by omega)
  have hz := zero65
  go_enter Tryd.func17, Tryd.ntmps17
  go_wp2_with fail
  refine (pow2_16 _).mono ?_; rintro e w' ⟨rfl, rfl⟩; dsimp only
  go_wp2_with fail
  refine (tz_16 _ ?hg).mono ?_
  case hg => exact (((Below.refl _ w).alloc (Nat.le_refl _) _).cell (p := ⟨2, 15, none⟩) (cell_lt h)).trans h
  rintro e w' ⟨rfl, rfl⟩; dsimp only
  go_wp2_with fail
  have hB0 : Below w.heap.size w (w.alloc (.cells (Array.replicate 65 (.int .u8 0)) 45)) := (Below.refl _ w).alloc (Nat.le_refl _) _
  have hF0 : Buf (w.alloc (.cells (Array.replicate 65 (.int .u8 0)) 45)) w.heap.size [] := by
    refine ⟨fun j hj => ?_, fun j hj => ⟨.int .u8 0, ?_⟩, fun j hj => by simp at hj⟩
    · rw [World.frozen?, (MapKept.heap_alloc w _).1]; rfl
    · refine (World.cell?_alloc_new w _ _ _).trans ?_
      simp [hj]
  clear hz h
  generalize w.alloc (.cells (Array.replicate 65 (.int .u8 0)) 45) = w0 at *
  have hF0 := Lib.hid hF0
  have hB0 := Lib.hid hB0
  go_loopw [1, 13] (fun u i wr => ∃ (q m : Nat) (L : List UInt8), u = .int .u64 q ∧ i = .int .i64 m ∧ m + L.length = 65 ∧ q ≤ 18446744073709551615 ∧ Hid (hexT n = hexT q ++ L) ∧ Hid (Buf wr w.heap.size L) ∧ Hid (Below w.heap.size w wr)) (fun u _ _ => (intOf u).toNat)
  case atStart => exact ⟨n, 65, [], rfl, rfl, rfl, hn, Lib.hid (by simp), hF0, hB0⟩
  case round =>
    obtain ⟨q, m, L, rfl, rfl, hm, hq, H, hF, hB⟩ := hrel
    have hL : L.length + 1 ≤ 16 := by
      have := congrArg List.length H.out
      have h2 : 0 < (hexT q).length := List.length_pos_iff.2 (hexT_ne q)
      simp at this; omega
    obtain ⟨m, rfl⟩ : ∃ m', m = m' + 1 := ⟨m - 1, by omega⟩
    obtain ⟨x, hx⟩ := hF.out.2.1 m (by omega)
    have hfr := hF.out.1 m (by omega)
    by_cases hge : 16 ≤ q
    · obtain ⟨d, hd⟩ : ∃ d, q % 16 = d := ⟨_, rfl⟩
      obtain ⟨q', hq'⟩ : ∃ q', q / 16 = q' := ⟨_, rfl⟩
      have hv : hexT q = hexT q' ++ [tabS.getD d 0] := by rw [hexT, if_neg (by omega), hd, hq']
      have hand := and15 q hq
      rw [hd] at hand
      have hd16 : d < 16 := by omega
      have hzt := at_Z d hd16
      generalize tabS.getD d 0 = c at *
      have Hv := Lib.hid hv
      have hqq : (q : Int) / 16 = q' := by omega
      have hlt : q' < q := by omega
      clear hd hq' hv hF0 hB0
      go_wp2_with fail
      go_roundw
      case rel => exact ⟨q', m, c :: L, rfl, rfl, by simp; omega, by omega, Lib.hid (by rw [H.out, Hv.out]; simp), Lib.hid (hF.out.push (by omega) m (by omega) c), Lib.hid (hB.out.setCell (p := ⟨w.heap.size, m, none⟩) (Nat.le_refl _) _)⟩
      case measure => simp [intOf]; omega
    · have hv : hexT q = [tabS.getD q 0] := by rw [hexT, if_pos (by omega)]
      have hzt := at_Z q (by omega)
      generalize tabS.getD q 0 = c at *
      have Hv := Lib.hid hv
      clear hv hF0 hB0
      have hF2 := hF.out.push (by omega) m (by omega) c
      have hB2 := hB.out.setCell (p := ⟨w.heap.size, m, none⟩) (Nat.le_refl _) (byteV c)
      unfold byteV at hF2 hB2
      have hcv : (convert 32 9 (.slice (some ⟨w.heap.size, m, none⟩) (c :: L).length (65 - m))).run Tryd.prog (wr.setCell ⟨w.heap.size, m, none⟩ (.int .u8 c.toNat)) = .ok (.string (ba (c :: L))) (wr.setCell ⟨w.heap.size, m, none⟩ (.int .u8 c.toNat)) := by
        refine conv_cells _ _ _ _ (fun j u hu => ?_)
        obtain ⟨hj, hu⟩ := List.getElem?_eq_some_iff.1 hu
        rw [bvals_len] at hj
        have := hF2.2.2 j hj
        rw [show 65 - (c :: L).length + j = m + j by simp; omega] at this
        rw [WideShapes.add_plain, this]
        rw [← hu]
        simp only [bvals, List.getElem_map]
        rw [List.getD_eq_getElem?_getD, List.getElem?_eq_getElem hj]
        rfl
      have hlc : (c :: L).length = 65 - m := by simp; omega
      rw [hlc] at hcv
      have HF := Lib.hid hF2
      have HB := Lib.hid hB2
      clear hF2 hB2 hlc
      have hsl := fun W => slice65 W w.heap.size m (by omega)
      go_wp2_with fail
      go_ret2
      exact ⟨by rw [H.out, Hv.out]; rfl, HB.out⟩

theorem IFormatUint_16 (n : Nat) (hn : n ≤ 18446744073709551615) (w : World) (h : w.cell? ⟨2, 15, none⟩ = some (.int .u8 4)) :
    Calls Tryd.prog 12 #[.int .u64 n, .int .i64 16] w fun e w' => e = .returned (.string (ba (hexT n))) ∧ Below w.heap.size w w' := by
  go_enter Tryd.func12, Tryd.ntmps12
  go_wp2_with fail
  refine (formatBits_16 n hn _ h).mono ?_; rintro e w' ⟨rfl, hb⟩; dsimp only
  go_wp2_with fail
  go_ret
  exact ⟨rfl, hb⟩

theorem FormatUint_16 (n : Nat) (hn : n ≤ 18446744073709551615) (w : World) (h : w.cell? ⟨2, 15, none⟩ = some (.int .u8 4)) :
    Calls Tryd.prog 9 #[.int .u64 n, .int .i64 16] w fun e w' => e = .returned (.string (ba (hexT n))) ∧ Below w.heap.size w w' := by
  go_enter Tryd.func9, Tryd.ntmps9
  go_wp2_with fail
  refine (IFormatUint_16 n hn _ h).mono ?_; rintro e w' ⟨rfl, hb⟩; dsimp only
  go_wp2_with fail
  go_ret
  exact ⟨rfl, hb⟩

theorem Put_any (n : Nat) (hn : n ≤ 18446744073709551615) (w : World) (h : w.cell? ⟨2, 15, none⟩ = some (.int .u8 4)) :
    Calls Tryd.prog 6 #[.int .u64 n] w fun e w' => e = .returned (.string (ba (hexT n))) ∧ Below w.heap.size w w' := by
  go_enter Tryd.func6, Tryd.ntmps6
  go_wp2_with fail
  refine (FormatUint_16 n hn _ h).mono ?_; rintro e w' ⟨rfl, hb⟩; dsimp only
  go_wp2_with fail
  go_ret
  exact ⟨rfl, hb⟩

end Go.Proofs.YtgnckeidekppjaaDoor
