/-
  The law IntakeWants: an intake that isn't done, and hasn't failed, wants at least a byte; it never takes more than it wants.
-/
import Derived.Test.YtfeljjlpdefnmaaInw
import Derived.Lib.SlBytesConst
import Derived.Laws.BytesArg
namespace Go.Proofs.Ytfeljjlpdefnmaa
open Go.RowKit
set_option linter.unusedVariables false
set_option linter.unusedSimpArgs false
attribute [local go_sem] Oper.semAt_some

theorem put_abc (e0 e1 e2 e3 e4 e5 : Int) : Itk.put e0 e1 e2 e3 e4 e5 [97, 98, 99, 100] ⟨.sized 3, 0, 0, 0⟩ = (⟨.sized 0, 3, 3, 0⟩, [97, 98, 99], 3, 0) := by rfl
section
variable {e0 e1 e2 e3 e4 e5 : Int} {n0 : Nat}
set_option maxHeartbeats 1000000 in
set_option maxRecDepth 100000 in
theorem wakesI_any {w : World} (hT : TabR w n0 e0 e1 e2 e3 e4 e5) :
    Calls Try.prog 5 #[] w fun e w' => e = .returned (.bool true) ∧ Below w.heap.size w w' := by
  have hNew := Lib.hid (INew_any 1 3 0 0 0 rfl rfl w)
  unfold INewP at hNew
  have HT := Lib.hid hT
  clear hT
  go_enter Try.func5, Try.ntmps5
  go_wp2_with fail
  refine hNew.out.mono ?_; rintro e w1 ⟨I, S, G, rfl, hI, hG, hIw, hb1⟩; dsimp only
  have hz1 := hb1.size
  have T0 : Touch (fun _ => False) w1 (w1.alloc (.cells #[.int .u8 97, .int .u8 98, .int .u8 99, .int .u8 100] 5 (4, 5))) := (Touch.refl _ w1).alloc _
  have hrd : RdB (w1.alloc (.cells #[.int .u8 97, .int .u8 98, .int .u8 99, .int .u8 100] 5 (4, 5))) (w1.alloc (.cells #[.int .u8 97, .int .u8 98, .int .u8 99, .int .u8 100] 5 (4, 5))).heap.size (some ⟨w1.heap.size, 0, none⟩) [97, 98, 99, 100] := by
    intro _
    refine ⟨w1.heap.size, 0, rfl, by simp, fun j hj => ?_⟩
    have hj' : j = 0 ∨ j = 1 ∨ j = 2 ∨ j = 3 := by simp at hj; omega
    rw [Nat.zero_add, cell_of_row _ w1.heap.size j _ _ _ (heap_alloc_new w1 _)]
    rcases hj' with rfl | rfl | rfl | rfl <;> rfl
  have hI1 : ItkAt (w1.alloc (.cells #[.int .u8 97, .int .u8 98, .int .u8 99, .int .u8 100] 5 (4, 5))) G S I ⟨.sized 3, 0, 0, 0⟩ := hI.touch T0 (fun _ _ h => h) (fun h => h)
  have hcv : (convert 27 27 (.slice (some ⟨w1.heap.size, 0, none⟩) 4 4)).run Try.prog (w1.alloc (.cells #[.int .u8 97, .int .u8 98, .int .u8 99, .int .u8 100] 5)) = .ok (.slice (some ⟨w1.heap.size, 0, none⟩) 4 4) (w1.alloc (.cells #[.int .u8 97, .int .u8 98, .int .u8 99, .int .u8 100] 5 (4, 5))) := Lib.run_convert_bytes_const w1 27 5 #[.int .u8 97, .int .u8 98, .int .u8 99, .int .u8 100] 4 4 Try.underlying27 Try.underlying5
  have hT1 : TabR (w1.alloc (.cells #[.int .u8 97, .int .u8 98, .int .u8 99, .int .u8 100] 5 (4, 5))) n0 e0 e1 e2 e3 e4 e5 := (HT.out.below (hb1.mono HT.out.ends.le)).below ((T0.below (n := n0) (Nat.le_trans HT.out.ends.le hz1) (fun _ h => h.elim)))
  have hP := Lib.hid (IPut_any hI1 (N := 0) ⟨⟨by decide, by decide⟩, by decide, by decide, by decide, by decide⟩ (by decide) (some ⟨w1.heap.size, 0, none⟩) 4 [97, 98, 99, 100] (by decide) (by decide) (by unfold maxLen; decide) hrd (fun _ b off e hg => by cases e; have := hI.tak.lt _ hg; omega) (fun k hk => Nat.le_trans HT.out.ends.le (hG k hk)) hT1)
  unfold IPutP at hP
  rw [put_abc] at hP
  go_wp2_with fail
  refine hP.out.mono ?_; rintro e w2 ⟨G', v, rfl, hI2, hv, _, hsub, hT2⟩; dsimp only at hI2 hv ⊢
  have hF : ∃ g cap, v = .slice (some ⟨g, 0, none⟩) 3 cap ∧ w2.cell? ⟨g, 0, none⟩ = some (.int .u8 97) ∧ w2.cell? ⟨g, 1, none⟩ = some (.int .u8 98) ∧ w2.cell? ⟨g, 2, none⟩ = some (.int .u8 99) := by
    rcases hv.2 with ⟨rfl, hz⟩ | ⟨g, cap, cur, rfl, _⟩
    · cases hz
    · refine ⟨g, cap, rfl, ?_, ?_, ?_⟩
      · have := hv.cells (g := g) rfl 0 (.int .u8 97) rfl; rwa [WideShapes.add_plain] at this
      · have := hv.cells (g := g) rfl 1 (.int .u8 98) rfl; rwa [WideShapes.add_plain] at this
      · have := hv.cells (g := g) rfl 2 (.int .u8 99) rfl; rwa [WideShapes.add_plain] at this
  obtain ⟨g, cap, rfl, y0, y1, y2⟩ := hF
  have hD := Lib.hid (IDone_any hI2)
  have HB := Lib.hid ((hb1.trans (T0.below (n := w.heap.size) hz1 (fun _ h => h.elim))).trans (hT2.below (n := w.heap.size) (by rw [World.size_alloc]; omega) (fun k hk => by rcases hk with h | rfl; exact hG k h; exact hIw)))
  have hcs := run_convert_bytes_arg (P := Try.prog) w2 27 5 Try.underlying27 Try.underlying5 g 0 3 cap [97, 98, 99] rfl (fun i hi => by
    have : i = 0 ∨ i = 1 ∨ i = 2 := by omega
    rcases this with rfl | rfl | rfl
    · exact y0
    · exact y1
    · exact y2) 9 Try.underlying9
  have hst : (strOfNums [97, 98, 99]).toList = [97, 98, 99] := by kernel_rfl
  clear hv hI2 hT2 hI1 hI hrd T0 hb1 hT1
  go_wp2_with fail
  refine hD.out.mono ?_; rintro e w3 ⟨rfl, rfl⟩; dsimp only
  go_wp2_with fail
  go_ret
  exact ⟨ret_bool (by decide), HB.out⟩

theorem wants_iff {N : Int} {i : Itk} (h : i.wf N) : decide (0 < i.wants) = (!i.done && (i.e == 0)) := by
  unfold Itk.wants
  by_cases hs : i.e ≠ 0 ∨ i.done = true
  · rw [if_pos hs]
    rcases hs with hs | hs
    · rw [beq_eq_false_iff_ne.2 hs]; simp
    · rw [hs]; simp
  · rw [if_neg hs]
    have he : i.e = 0 := by
      apply Classical.byContradiction
      intro h; exact hs (.inl h)
    have hd : i.done = false := by
      cases hdd : i.done with
      | false => rfl
      | true => exact absurd (.inr hdd) hs
    rw [hd, he]
    have hd2 := hd
    unfold Itk.done at hd2
    rw [he] at hd2
    obtain ⟨h0, -⟩ := h
    cases ht : i.t with
    | sized l =>
      rw [ht] at h0 hd2
      simp only [Tak.wf] at h0
      have : (l == 0) = false := hd2
      have : l ≠ 0 := by simpa using this
      simp
      omega
    | all c => simp
    | chunk d => simp
theorem put_wants {i : Itk} {N : Int} (h : i.wf N) (bs : List UInt8) (hb : bs.length ≤ 4611686018427387903) : ((i.put e0 e1 e2 e3 e4 e5 bs).2.2.1 : Int) ≤ i.wants ∧ (i.put e0 e1 e2 e3 e4 e5 bs).2.1.length ≤ (i.put e0 e1 e2 e3 e4 e5 bs).2.2.1 ∧ (i.put e0 e1 e2 e3 e4 e5 bs).2.2.1 ≤ bs.length := by
  have hl := i.t.put_len (e0 := e0) (e1 := e1) (e2 := e2) (e3 := e3) (e4 := e4) (e5 := e5) bs
  unfold Itk.put Itk.wants
  split
  · simp
  · refine ⟨?_, hl.2, hl.1⟩
    dsimp only
    obtain ⟨h0, -⟩ := h
    cases ht : i.t with
    | sized l =>
      rw [ht] at h0
      simp only [Tak.wf] at h0
      simp only [Tak.put]
      omega
    | all c => simp only [Tak.put]; omega
    | chunk d =>
      rw [ht] at hl
      have := hl.1
      dsimp only
      omega
end

end Go.Proofs.Ytfeljjlpdefnmaa
