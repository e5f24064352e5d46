/-
  The law IntakeFixed: an intake of a size takes as many bytes as there are, up to it, all of them data.
-/
import Derived.Test.YtplcfijcmihhlaaIntake
import Derived.Lib.SlBytesConst
import Derived.Laws.BytesArg
namespace Go.Proofs.Ytplcfijcmihhlaa
open Go.RowKit
set_option linter.unusedVariables false
set_option linter.unusedSimpArgs false

theorem own8_ints {W : World} {base : Nat} {v : Value} {l : List Int} (h : W.ownsRow base 5 1 v l.length (l.map enc8)) : IntsK .u8 W W.heap.size v l := by
  rcases h.2 with ⟨rfl, hz⟩ | ⟨gb, cap, cur, rfl, hbase, hgb, r1, r2, r3, r4⟩
  · exact ⟨none, 0, by rw [hz], by omega, by unfold maxLen; omega, fun hn => absurd (List.eq_nil_of_length_eq_zero hz) hn⟩
  · refine ⟨some ⟨gb, 0, none⟩, cap, rfl, r1, r2, fun hn => ⟨gb, 0, rfl, lt_of_heap hgb, fun j hj => ?_⟩⟩
    have := h.cells (g := gb) rfl j (enc8 (l[j]?.getD 0)) (by simp [hj])
    rw [WideShapes.add_plain] at this
    exact this

set_option maxHeartbeats 1000000 in
set_option maxRecDepth 100000 in
theorem wakes12_any (w : World) :
    Calls Try.prog 7 #[] w fun e w' => e = .returned (.bool true) ∧ Below w.heap.size w w' := by
  go_enter Try.func7, Try.ntmps7
  go_wp2_with fail
  refine (NewF_any w 3 (by decide) (by decide)).mono ?_; rintro e w1 ⟨I, S, rfl, hI, hIw, hSw, hIS, hb1⟩; dsimp only
  have hz1 := hb1.size
  have T0 : Touch (fun _ => False) w1 (w1.alloc (.cells #[.int .u8 97, .int .u8 98, .int .u8 99, .int .u8 100] 5 (4, 5))) := (Touch.refl _ w1).alloc _
  have hrd : Reads8 (w1.alloc (.cells #[.int .u8 97, .int .u8 98, .int .u8 99, .int .u8 100] 5 (4, 5))) (w1.heap.size + 1) (some ⟨w1.heap.size, 0, none⟩) [97, 98, 99, 100] := by
    intro _
    refine ⟨w1.heap.size, 0, rfl, by omega, fun j hj => ?_⟩
    have hj' : j = 0 ∨ j = 1 ∨ j = 2 ∨ j = 3 := by simp at hj; omega
    rw [Nat.zero_add, cell_of_row _ w1.heap.size j _ _ _ (heap_alloc_new w1 _)]
    rcases hj' with rfl | rfl | rfl | rfl <;> rfl
  have hI1 : IAt (w1.alloc (.cells #[.int .u8 97, .int .u8 98, .int .u8 99, .int .u8 100] 5 (4, 5))) I S 3 0 0 := ⟨(T0.block I (lt_of_heap hI.box) (fun h => h)).trans hI.box, (T0.block S (lt_of_heap hI.sz) (fun h => h)).trans hI.sz⟩
  have hcv : (convert 23 23 (.slice (some ⟨w1.heap.size, 0, none⟩) 4 4)).run Try.prog (w1.alloc (.cells #[.int .u8 97, .int .u8 98, .int .u8 99, .int .u8 100] 5)) = .ok (.slice (some ⟨w1.heap.size, 0, none⟩) 4 4) (w1.alloc (.cells #[.int .u8 97, .int .u8 98, .int .u8 99, .int .u8 100] 5 (4, 5))) := Lib.run_convert_bytes_const w1 23 5 #[.int .u8 97, .int .u8 98, .int .u8 99, .int .u8 100] 4 4 Try.underlying23 Try.underlying5
  have hP := Lib.hid (Put_any hI1 hIS (some ⟨w1.heap.size, 0, none⟩) 4 [97, 98, 99, 100] (w1.heap.size + 1) (by rw [World.size_alloc]; omega) (fun _ b off e => by cases e; exact fun e' => by have := lt_of_heap hI.sz; omega) (by decide) (by decide) (by unfold maxLen; decide) hrd 3 (by decide) (by decide) (by decide) (by decide) (by decide) (by decide) (by decide))
  go_wp2_with fail
  refine hP.out.mono ?_; rintro e w2 ⟨v, rfl, hv, hI2, hT2⟩; dsimp only
  have hF : ∃ g cap, v = .slice (some ⟨g, 0, none⟩) 3 cap ∧ w2.cell? ⟨g, 0, none⟩ = some (.int .u8 97) ∧ w2.cell? ⟨g, 1, none⟩ = some (.int .u8 98) ∧ w2.cell? ⟨g, 2, none⟩ = some (.int .u8 99) := by
    rcases hv.2 with ⟨rfl, hz⟩ | ⟨g, cap, cur, rfl, _⟩
    · cases hz
    · refine ⟨g, cap, rfl, ?_, ?_, ?_⟩
      · have := hv.cells (g := g) rfl 0 (.int .u8 97) rfl; rwa [WideShapes.add_plain] at this
      · have := hv.cells (g := g) rfl 1 (.int .u8 98) rfl; rwa [WideShapes.add_plain] at this
      · have := hv.cells (g := g) rfl 2 (.int .u8 99) rfl; rwa [WideShapes.add_plain] at this
  obtain ⟨g, cap, rfl, y0, y1, y2⟩ := hF
  have hD := Lib.hid (Done_any hI2)
  have HB := Lib.hid ((hb1.trans (T0.below (n := w.heap.size) hz1 (fun _ h => h.elim))).trans (hT2.below (n := w.heap.size) (by rw [World.size_alloc]; omega) (fun k hk => by rcases hk with rfl | rfl <;> omega)))
  have hcs := run_convert_bytes_arg (P := Try.prog) w2 23 5 Try.underlying23 Try.underlying5 g 0 3 cap [97, 98, 99] rfl (fun i hi => by
    have : i = 0 ∨ i = 1 ∨ i = 2 := by omega
    rcases this with rfl | rfl | rfl
    · exact y0
    · exact y1
    · exact y2) 9 Try.underlying9
  have hst : (strOfNums [97, 98, 99]).toList = [97, 98, 99] := by kernel_rfl
  clear hv hI2 hT2 hI1 hI hrd T0 hb1
  go_wp2_with fail
  refine hD.out.mono ?_; rintro e w3 ⟨rfl, rfl⟩; dsimp only
  go_wp2_with fail
  go_ret
  exact ⟨ret_bool (by decide), HB.out⟩

set_option maxHeartbeats 2000000 in
set_option maxRecDepth 100000 in
theorem IntakeFixed_any (size : Int) (hz0 : 0 ≤ size) (hz1 : size ≤ 65535) (v : Value) (l : List Int) (w : World) (hv : IntsK .u8 w w.heap.size v l) :
    Calls Try.prog 3 #[.int .u16 size, v] w fun e w' => e = .returned (.bool true) ∧ Below w.heap.size w w' := by
  obtain ⟨A, cap, rfl, hc, hcm, h3⟩ := hv
  have hcm' := hcm
  unfold maxLen at hcm
  by_cases hlen : 400 < l.length
  · go_enter Try.func3, Try.ntmps3
    go_wp2_with fail
    refine (wakes12_any _).mono ?_; rintro e w1 ⟨rfl, hb1⟩; dsimp only
    go_wp2_with fail
    go_ret
    exact ⟨rfl, hb1⟩
  have hlen' : l.length ≤ 400 := by omega
  have b0 : IntKind.u64.wrap size = size := IntWalk.u64_in _ (by omega)
  have b00 : IntKind.i64.wrap size = size := IntWalk.i64_in _ (by omega)
  go_enter Try.func3, Try.ntmps3
  go_wp2_with fail
  refine (wakes12_any _).mono ?_; rintro e w1 ⟨rfl, hb1⟩; dsimp only
  go_wp2_with fail
  refine (NewF_any w1 size hz0 (by omega)).mono ?_; rintro e w2 ⟨I, S, rfl, hI, hIw, hSw, hIS, hb2⟩; dsimp only
  have hs1 := hb1.size
  have hs2 := hb2.size
  have hB12 := hb1.trans (hb2.mono hs1)
  have hrd : Reads8 w2 w.heap.size A l := fun hne => by
    obtain ⟨b, off, e, hb, hcl⟩ := h3 hne
    exact ⟨b, off, e, hb, fun j hj => (hB12.cell (p := ⟨b, off + j, none⟩) hb).trans (hcl j hj)⟩
  obtain ⟨k, hk⟩ : ∃ k : Nat, min size (l.length : Int) = (k : Int) := ⟨(min size (l.length : Int)).toNat, by omega⟩
  have hk1 : k ≤ l.length := by omega
  have hk2 : (k : Int) ≤ size := by omega
  have hP := Lib.hid (Put_any hI hIS A cap l w.heap.size (by omega) (fun hne b off e => by obtain ⟨b', off', e', hb, _⟩ := h3 hne; rw [e] at e'; cases e'; omega) (by omega) hc hcm' hrd k hk hz0 (by omega) (by decide) (by decide) (by decide) (by decide))
  have HRD := Lib.hid hrd
  have HB := Lib.hid hB12
  clear hI hrd hb1 hb2 hB12 h3
  go_wp2_with fail
  refine hP.out.mono ?_; rintro e w3 ⟨v3, rfl, hv3, hI3, hT3⟩; dsimp only
  by_cases hle : (l.length : Int) < size
  · obtain rfl : k = l.length := by omega
    have hva : IntsK .u8 w3 w3.heap.size v3 (l.take l.length) := own8_ints (by rw [List.length_take, Nat.min_eq_left hk1]; exact hv3)
    have hvb : IntsK .u8 w3 w3.heap.size (.slice A l.length cap) (l.take l.length) := by
      refine ⟨A, cap, by rw [List.length_take, Nat.min_eq_left hk1], by rw [List.length_take]; omega, hcm', fun hne => ?_⟩
      obtain ⟨b, off, e, hb, hcl⟩ := (HRD.out.take l.length) hne
      have hsz := hT3.size
      exact ⟨b, off, e, by omega, fun j hj => (hT3.cell (p := ⟨b, off + j, none⟩) (by show b < w2.heap.size; omega) (by show ¬ (b = I ∨ b = S); omega)).trans (hcl j hj)⟩
    have hS := Same_any v3 (.slice A l.length cap) (l.take l.length) (l.take l.length) w3 hva hvb (by rw [List.length_take]; omega) (by rw [List.length_take]; omega)
    rw [decide_eq_true rfl] at hS
    have HS := Lib.hid hS
    have hD := fun q => Lib.hid (Done_any (hI3.drewN' q))
    have hW := fun q => Lib.hid (Wants_any (hI3.drewN' q))
    have HB3 := Lib.hid (HB.out.trans (hT3.below (n := w.heap.size) (by omega) (fun j hj => by rcases hj with rfl | rfl <;> omega)))
    have b5 : IntKind.i64.wrap (size - (l.length : Int)) = size - l.length := IntWalk.i64_in _ (by omega)
    have b6 : IntKind.u64.wrap (size - (l.length : Int)) = size - l.length := IntWalk.u64_in _ (by omega)
    have hne1 : (size - (l.length : Int) == 0) = false := by simp; omega
    have hne2 : ((l.length : Int) == size) = false := by simp; omega
    clear hva hvb hS hv3 hI3 hT3 HRD hP
    go_wp2_with fail
    refine HS.out.mono ?_; rintro e w4 ⟨rfl, q, rfl⟩; dsimp only
    go_wp2_with fail
    refine (hD q).out.mono ?_; rintro e w5 ⟨rfl, rfl⟩; dsimp only
    go_wp2_with fail
    refine (hW q).out.mono ?_; rintro e w6 ⟨rfl, rfl⟩; dsimp only
    go_wp2_with fail
    go_ret
    exact ⟨ret_bool (by simp), below_drewN HB3.out q⟩
  · obtain rfl : size = (k : Int) := by omega
    have hva : IntsK .u8 w3 w3.heap.size v3 (l.take k) := own8_ints (by rw [List.length_take, Nat.min_eq_left hk1]; exact hv3)
    have hvb : IntsK .u8 w3 w3.heap.size (.slice A k cap) (l.take k) := by
      refine ⟨A, cap, by rw [List.length_take, Nat.min_eq_left hk1], by rw [List.length_take]; omega, hcm', fun hne => ?_⟩
      obtain ⟨b, off, e, hb, hcl⟩ := (HRD.out.take k) hne
      have hsz := hT3.size
      exact ⟨b, off, e, by omega, fun j hj => (hT3.cell (p := ⟨b, off + j, none⟩) (by show b < w2.heap.size; omega) (by show ¬ (b = I ∨ b = S); omega)).trans (hcl j hj)⟩
    have hS := Same_any v3 (.slice A k cap) (l.take k) (l.take k) w3 hva hvb (by rw [List.length_take]; omega) (by rw [List.length_take]; omega)
    rw [decide_eq_true rfl] at hS
    have HS := Lib.hid hS
    have hD := fun q => Lib.hid (Done_any (hI3.drewN' q))
    have hW := fun q => Lib.hid (Wants_any (hI3.drewN' q))
    have HB3 := Lib.hid (HB.out.trans (hT3.below (n := w.heap.size) (by omega) (fun j hj => by rcases hj with rfl | rfl <;> omega)))
    have b5 : IntKind.i64.wrap ((k : Int) - (k : Int)) = (k : Int) - k := IntWalk.i64_in _ (by omega)
    have b6 : IntKind.u64.wrap ((k : Int) - (k : Int)) = (k : Int) - k := IntWalk.u64_in _ (by omega)
    have hk9 : (k : Int) ≤ (l.length : Int) := by omega
    have hk3 : k ≤ cap := by omega
    clear hva hvb hS hv3 hI3 hT3 HRD hP
    go_wp2_with fail
    refine HS.out.mono ?_; rintro e w4 ⟨rfl, q, rfl⟩; dsimp only
    go_wp2_with fail
    refine (hD q).out.mono ?_; rintro e w5 ⟨rfl, rfl⟩; dsimp only
    go_wp2_with fail
    refine (hW q).out.mono ?_; rintro e w6 ⟨rfl, rfl⟩; dsimp only
    go_wp2_with fail
    go_ret
    exact ⟨ret_bool (by simp), below_drewN HB3.out q⟩

theorem IntakeFixed_of (a : Int) (wa : (Lit.int .u16 a).wf = true) (v : Value) (l : List Int) (w : World) (h : IntsK .u8 w w.heap.size v l ∧ ∀ x ∈ l, 0 ≤ x ∧ x ≤ 255) :
    Calls Try.prog 3 #[.int .u16 a, v] w fun e w' => e = .returned (.bool true) ∧ Below w.heap.size w w' := by
  simp [Lit.wf, IntKind.min, IntKind.max, IntKind.signed, IntKind.bits] at wa
  exact IntakeFixed_any a wa.1 wa.2 v l w h.1

end Go.Proofs.Ytplcfijcmihhlaa
