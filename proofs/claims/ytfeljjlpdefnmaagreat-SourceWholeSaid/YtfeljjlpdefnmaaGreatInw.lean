/-
  Layer 12 (intake): what framings and limits may be; a new intake.
-/
import Derived.Test.YtfeljjlpdefnmaaGreatIpu
namespace Go.Proofs.YtfeljjlpdefnmaaGreat
open Go.RowKit
set_option linter.unusedVariables false
set_option linter.unusedSimpArgs false
attribute [local go_sem] Oper.semAt_some

def rightF (k s : Int) : Bool := decide (0 ≤ k) && decide (k ≤ 3) && decide (s ≤ 4611686018427387903) && ((k == 1) || (s == 0))
set_option maxHeartbeats 1000000 in
theorem RRightF_any (k s : Int) (w : World) :
    Calls Tryz.prog 16 #[.agg #[.int .i64 k, .int .u64 s]] w fun e w' => e = .returned (.bool (rightF k s)) ∧ Below w.heap.size w w' := by
  go_enter Tryz.func16, Tryz.ntmps16
  go_wp2_with fail
  all_goals
    go_ret
    refine ⟨ret_bool ?_, (Below.refl _ w).alloc (Nat.le_refl _) _⟩
    unfold rightF
    rw [Bool.eq_iff_iff]
    simp only [Bool.and_eq_true, Bool.or_eq_true, decide_eq_true_eq, beq_iff_eq, Bool.false_eq_true, false_iff, true_iff]
    omega
set_option maxHeartbeats 1000000 in
theorem RRightL_any (a b c : Int) (w : World) :
    Calls Tryz.prog 17 #[.agg #[.int .i64 a, .int .i64 b, .int .i64 c]] w fun e w' => e = .returned (.bool (rightL a b c)) ∧ Below w.heap.size w w' := by
  go_enter Tryz.func17, Tryz.ntmps17
  go_wp2_with fail
  all_goals
    go_ret
    refine ⟨ret_bool ?_, (Below.refl _ w).alloc (Nat.le_refl _) _⟩
    unfold rightL
    rw [Bool.eq_iff_iff]
    simp only [Bool.and_eq_true, Bool.or_eq_true, decide_eq_true_eq, beq_iff_eq, Bool.false_eq_true, false_iff, true_iff]
    omega
theorem IRight_any (k s : Int) (h : rightF k s = true) (w : World) :
    Calls Tryz.prog 38 #[.agg #[.int .i64 k, .int .u64 s]] w fun e w' => e = .returned (.bool true) ∧ Below w.heap.size w w' := by
  go_enter Tryz.func38, Tryz.ntmps38
  go_wp2_with fail
  all_goals
    go_ret
    refine ⟨ret_bool ?_, (Below.refl _ w).alloc (Nat.le_refl _) _⟩
    unfold rightF at h
    simp only [Bool.and_eq_true, Bool.or_eq_true, decide_eq_true_eq, beq_iff_eq] at h
    first | rfl | (exfalso; omega) | (rw [Bool.eq_iff_iff]; simp only [Bool.and_eq_true, Bool.or_eq_true, decide_eq_true_eq, beq_iff_eq, Bool.false_eq_true, false_iff, true_iff, iff_true]; omega)

def newI (k s a b c : Int) : Itk := ⟨if k = 2 then .chunk (newD a b c) else if k = 3 then .all false else .sized s, 0, 0, 0⟩
/-- What New comes to. -/
def INewP (w : World) (i : Itk) (e : Ending) (w' : World) : Prop :=
  ∃ (I S : Nat) (G : Nat → Prop), e = .returned (.tuple #[.pointer (some ⟨I, 0, none⟩), .int .i64 0]) ∧ ItkAt w' G S I i ∧ (∀ j, G j → w.heap.size ≤ j) ∧ w.heap.size ≤ I ∧ Below w.heap.size w w'
set_option maxHeartbeats 1000000 in
theorem INew2_any (s a b c : Int) (hF : rightF 2 s = true) (hL : rightL a b c = true) (w : World) :
    Calls Tryz.prog 19 #[.agg #[.int .i64 2, .int .u64 s], .agg #[.int .i64 a, .int .i64 b, .int .i64 c]] w (INewP w (newI 2 s a b c)) := by
  have hR := fun W => Lib.hid (IRight_any 2 s hF W)
  have hB := fun W => Lib.hid (BodyRight_any a b c W)
  have hN := fun W => Lib.hid (DNew_any a b c W hL)
  rw [hL] at hB
  go_enter Tryz.func19, Tryz.ntmps19
  go_wp2_with fail
  obtain ⟨W0, e0, hz0, b0, b1, t0⟩ : ∃ W, (w.alloc (.cells #[.int .i64 2, .int .u64 s] 25)).alloc (.cells #[.int .i64 a, .int .i64 b, .int .i64 c] 27) = W ∧ W.heap.size = w.heap.size + 2 ∧
      W.heap[w.heap.size]? = some (.cells #[.int .i64 2, .int .u64 s] 25) ∧ W.heap[w.heap.size + 1]? = some (.cells #[.int .i64 a, .int .i64 b, .int .i64 c] 27) ∧ Below w.heap.size w W :=
    ⟨_, rfl, by simp, by rw [Below.heap_alloc _ _ _ (by simp), World.alloc_heap_new], heap_alloc2_newL _ _ _, ((Below.refl _ w).alloc (Nat.le_refl _) _).alloc (by simp) _⟩
  rw [e0]
  clear e0
  refine (hR W0).out.mono ?_; rintro e w1 ⟨rfl, hb1⟩; dsimp only
  have d1 := (hb1.block (w.heap.size + 1) (by omega)).trans b1
  have x0 : w1.cell? ⟨w.heap.size + 1, 0, none⟩ = some (.int .i64 a) := by simp [World.cell?, d1]
  have x1 : w1.cell? ⟨w.heap.size + 1, 1, none⟩ = some (.int .i64 b) := by simp [World.cell?, d1]
  have x2 : w1.cell? ⟨w.heap.size + 1, 2, none⟩ = some (.int .i64 c) := by simp [World.cell?, d1]
  have hz1 := hb1.size
  go_wp2_with fail
  refine (hB w1).out.mono ?_; rintro e w2 ⟨rfl, hb2⟩; dsimp only
  have hz2 := hb2.size
  have d0 := (hb2.block w.heap.size (by omega)).trans ((hb1.block w.heap.size (by omega)).trans b0)
  have d2 := (hb2.block (w.heap.size + 1) (by omega)).trans d1
  have y0 : w2.cell? ⟨w.heap.size, 0, none⟩ = some (.int .i64 2) := by simp [World.cell?, d0]
  have y1 : w2.cell? ⟨w.heap.size, 1, none⟩ = some (.int .u64 s) := by simp [World.cell?, d0]
  have y3 : w2.cell? ⟨w.heap.size + 1, 0, none⟩ = some (.int .i64 a) := by simp [World.cell?, d2]
  have y4 : w2.cell? ⟨w.heap.size + 1, 1, none⟩ = some (.int .i64 b) := by simp [World.cell?, d2]
  have y5 : w2.cell? ⟨w.heap.size + 1, 2, none⟩ = some (.int .i64 c) := by simp [World.cell?, d2]
  have HB := Lib.hid ((t0.trans (hb1.mono (by omega))).trans (hb2.mono (by omega)))
  clear d0 d1 d2 x0 x1 x2 b0 b1 t0 hb1 hb2
  go_wp2_with fail
  refine (hN w2).out.mono ?_; rintro e w3 ⟨D, rfl, hDl, hD, hb3⟩; dsimp only
  have HD := Lib.hid hD
  have HB3 := Lib.hid hb3
  have hz3 := hb3.size
  clear hD hb3
  go_wp2_with fail
  go_ret2
  have hI := World.alloc_heap_new w3 (.cells #[.iface 79 (.pointer (some ⟨D, 0, none⟩)), .int .i64 0, .int .i64 0, .int .i64 0] 74)
  have hba := (Below.refl w3.heap.size w3).alloc (Nat.le_refl _) (.cells #[.iface 79 (.pointer (some ⟨D, 0, none⟩)), .int .i64 0, .int .i64 0, .int .i64 0] 74)
  have hDl2 := HD.out.lt D rfl
  exact ⟨w3.heap.size, D, fun k => k = D, rfl, ⟨hI, ⟨_, _, HD.out.below hba⟩, fun e => by omega⟩, fun j hj => by subst hj; omega, by omega, (HB.out.trans (HB3.out.mono (by omega))).trans (hba.mono (by omega))⟩
set_option maxHeartbeats 1000000 in
theorem INew3_any (s a b c : Int) (hF : rightF 3 s = true) (hL : rightL a b c = true) (w : World) :
    Calls Tryz.prog 19 #[.agg #[.int .i64 3, .int .u64 s], .agg #[.int .i64 a, .int .i64 b, .int .i64 c]] w (INewP w (newI 3 s a b c)) := by
  have hR := fun W => Lib.hid (IRight_any 3 s hF W)
  have hB := fun W => Lib.hid (BodyRight_any a b c W)
  have hN := fun W => Lib.hid (DNew_any a b c W hL)
  rw [hL] at hB
  go_enter Tryz.func19, Tryz.ntmps19
  go_wp2_with fail
  obtain ⟨W0, e0, hz0, b0, b1, t0⟩ : ∃ W, (w.alloc (.cells #[.int .i64 3, .int .u64 s] 25)).alloc (.cells #[.int .i64 a, .int .i64 b, .int .i64 c] 27) = W ∧ W.heap.size = w.heap.size + 2 ∧
      W.heap[w.heap.size]? = some (.cells #[.int .i64 3, .int .u64 s] 25) ∧ W.heap[w.heap.size + 1]? = some (.cells #[.int .i64 a, .int .i64 b, .int .i64 c] 27) ∧ Below w.heap.size w W :=
    ⟨_, rfl, by simp, by rw [Below.heap_alloc _ _ _ (by simp), World.alloc_heap_new], heap_alloc2_newL _ _ _, ((Below.refl _ w).alloc (Nat.le_refl _) _).alloc (by simp) _⟩
  rw [e0]
  clear e0
  refine (hR W0).out.mono ?_; rintro e w1 ⟨rfl, hb1⟩; dsimp only
  have d1 := (hb1.block (w.heap.size + 1) (by omega)).trans b1
  have x0 : w1.cell? ⟨w.heap.size + 1, 0, none⟩ = some (.int .i64 a) := by simp [World.cell?, d1]
  have x1 : w1.cell? ⟨w.heap.size + 1, 1, none⟩ = some (.int .i64 b) := by simp [World.cell?, d1]
  have x2 : w1.cell? ⟨w.heap.size + 1, 2, none⟩ = some (.int .i64 c) := by simp [World.cell?, d1]
  have hz1 := hb1.size
  go_wp2_with fail
  refine (hB w1).out.mono ?_; rintro e w2 ⟨rfl, hb2⟩; dsimp only
  have hz2 := hb2.size
  have d0 := (hb2.block w.heap.size (by omega)).trans ((hb1.block w.heap.size (by omega)).trans b0)
  have d2 := (hb2.block (w.heap.size + 1) (by omega)).trans d1
  have y0 : w2.cell? ⟨w.heap.size, 0, none⟩ = some (.int .i64 3) := by simp [World.cell?, d0]
  have y1 : w2.cell? ⟨w.heap.size, 1, none⟩ = some (.int .u64 s) := by simp [World.cell?, d0]
  have y3 : w2.cell? ⟨w.heap.size + 1, 0, none⟩ = some (.int .i64 a) := by simp [World.cell?, d2]
  have y4 : w2.cell? ⟨w.heap.size + 1, 1, none⟩ = some (.int .i64 b) := by simp [World.cell?, d2]
  have y5 : w2.cell? ⟨w.heap.size + 1, 2, none⟩ = some (.int .i64 c) := by simp [World.cell?, d2]
  have HB := Lib.hid ((t0.trans (hb1.mono (by omega))).trans (hb2.mono (by omega)))
  clear d0 d1 d2 x0 x1 x2 b0 b1 t0 hb1 hb2
  go_wp2_with fail
  go_ret2
  have hI := heap_alloc2_newL w2 (.cells #[.bool false] 84) (.cells #[.iface 82 (.pointer (some ⟨w2.heap.size, 0, none⟩)), .int .i64 0, .int .i64 0, .int .i64 0] 74)
  have hS : ((w2.alloc (.cells #[.bool false] 84)).alloc (.cells #[.iface 82 (.pointer (some ⟨w2.heap.size, 0, none⟩)), .int .i64 0, .int .i64 0, .int .i64 0] 74)).heap[w2.heap.size]? = some (.cells #[.bool false] 84) := by
    rw [Below.heap_alloc _ _ _ (by simp), World.alloc_heap_new]
  exact ⟨w2.heap.size + 1, w2.heap.size, fun k => k = w2.heap.size, rfl, ⟨hI, ⟨hS, rfl, fun j hj => by subst hj; simp; omega⟩, fun e => by omega⟩, fun j hj => by subst hj; omega, by omega, (HB.out.alloc (by omega) _).alloc (by simp; omega) _⟩
set_option maxHeartbeats 1000000 in
theorem INew1_any (k s a b c : Int) (hF : rightF k s = true) (hL : rightL a b c = true) (h2 : k ≠ 2) (h3 : k ≠ 3) (w : World) :
    Calls Tryz.prog 19 #[.agg #[.int .i64 k, .int .u64 s], .agg #[.int .i64 a, .int .i64 b, .int .i64 c]] w (INewP w (newI k s a b c)) := by
  have HE : Hid (newI k s a b c = ⟨.sized s, 0, 0, 0⟩) := Lib.hid (by unfold newI; rw [if_neg h2, if_neg h3])
  have q2 : (k == 2) = false := beq_eq_false_iff_ne.2 h2
  have q3 : (k == 3) = false := beq_eq_false_iff_ne.2 h3
  have hR := fun W => Lib.hid (IRight_any k s hF W)
  have hB := fun W => Lib.hid (BodyRight_any a b c W)
  have hN := fun W => Lib.hid (DNew_any a b c W hL)
  rw [hL] at hB
  clear h2 h3
  go_enter Tryz.func19, Tryz.ntmps19
  go_wp2_with fail
  obtain ⟨W0, e0, hz0, b0, b1, t0⟩ : ∃ W, (w.alloc (.cells #[.int .i64 k, .int .u64 s] 25)).alloc (.cells #[.int .i64 a, .int .i64 b, .int .i64 c] 27) = W ∧ W.heap.size = w.heap.size + 2 ∧
      W.heap[w.heap.size]? = some (.cells #[.int .i64 k, .int .u64 s] 25) ∧ W.heap[w.heap.size + 1]? = some (.cells #[.int .i64 a, .int .i64 b, .int .i64 c] 27) ∧ Below w.heap.size w W :=
    ⟨_, rfl, by simp, by rw [Below.heap_alloc _ _ _ (by simp), World.alloc_heap_new], heap_alloc2_newL _ _ _, ((Below.refl _ w).alloc (Nat.le_refl _) _).alloc (by simp) _⟩
  rw [e0]
  clear e0
  refine (hR W0).out.mono ?_; rintro e w1 ⟨rfl, hb1⟩; dsimp only
  have d1 := (hb1.block (w.heap.size + 1) (by omega)).trans b1
  have x0 : w1.cell? ⟨w.heap.size + 1, 0, none⟩ = some (.int .i64 a) := by simp [World.cell?, d1]
  have x1 : w1.cell? ⟨w.heap.size + 1, 1, none⟩ = some (.int .i64 b) := by simp [World.cell?, d1]
  have x2 : w1.cell? ⟨w.heap.size + 1, 2, none⟩ = some (.int .i64 c) := by simp [World.cell?, d1]
  have hz1 := hb1.size
  go_wp2_with fail
  refine (hB w1).out.mono ?_; rintro e w2 ⟨rfl, hb2⟩; dsimp only
  have hz2 := hb2.size
  have d0 := (hb2.block w.heap.size (by omega)).trans ((hb1.block w.heap.size (by omega)).trans b0)
  have d2 := (hb2.block (w.heap.size + 1) (by omega)).trans d1
  have y0 : w2.cell? ⟨w.heap.size, 0, none⟩ = some (.int .i64 k) := by simp [World.cell?, d0]
  have y1 : w2.cell? ⟨w.heap.size, 1, none⟩ = some (.int .u64 s) := by simp [World.cell?, d0]
  have y3 : w2.cell? ⟨w.heap.size + 1, 0, none⟩ = some (.int .i64 a) := by simp [World.cell?, d2]
  have y4 : w2.cell? ⟨w.heap.size + 1, 1, none⟩ = some (.int .i64 b) := by simp [World.cell?, d2]
  have y5 : w2.cell? ⟨w.heap.size + 1, 2, none⟩ = some (.int .i64 c) := by simp [World.cell?, d2]
  have HB := Lib.hid ((t0.trans (hb1.mono (by omega))).trans (hb2.mono (by omega)))
  clear d0 d1 d2 x0 x1 x2 b0 b1 t0 hb1 hb2
  have y6 := (Touch.cell ((Touch.refl (fun _ => False) w2).alloc (.cells #[.int .u64 s] 87)) (p := ⟨w.heap.size, 0, none⟩) (by show w.heap.size < w2.heap.size; omega) (fun h => h)).trans y0
  go_wp2_with fail
  go_ret2
  have hI := heap_alloc2_newL w2 (.cells #[.int .u64 s] 87) (.cells #[.iface 85 (.pointer (some ⟨w2.heap.size, 0, none⟩)), .int .i64 0, .int .i64 0, .int .i64 0] 74)
  have hS : ((w2.alloc (.cells #[.int .u64 s] 87)).alloc (.cells #[.iface 85 (.pointer (some ⟨w2.heap.size, 0, none⟩)), .int .i64 0, .int .i64 0, .int .i64 0] 74)).heap[w2.heap.size]? = some (.cells #[.int .u64 s] 87) := by
    rw [Below.heap_alloc _ _ _ (by simp), World.alloc_heap_new]
  rw [HE.out]
  exact ⟨w2.heap.size + 1, w2.heap.size, fun k => k = w2.heap.size, rfl, ⟨hI, ⟨hS, rfl, fun j hj => by subst hj; simp; omega⟩, fun e => by omega⟩, fun j hj => by subst hj; omega, by omega, (HB.out.alloc (by omega) _).alloc (by simp; omega) _⟩
theorem INew_any (k s a b c : Int) (hF : rightF k s = true) (hL : rightL a b c = true) (w : World) :
    Calls Tryz.prog 19 #[.agg #[.int .i64 k, .int .u64 s], .agg #[.int .i64 a, .int .i64 b, .int .i64 c]] w (INewP w (newI k s a b c)) := by
  by_cases h2 : k = 2
  · subst h2; exact INew2_any s a b c hF hL w
  · by_cases h3 : k = 3
    · subst h3; exact INew3_any s a b c hF hL w
    · exact INew1_any k s a b c hF hL h2 h3 w
theorem newI_wf {k s a b c : Int} (hF : rightF k s = true) (hL : rightL a b c = true) (h0 : 0 ≤ s) : (newI k s a b c).wf 0 := by
  have hw := newD_wf hL
  have hs : s ≤ 4611686018427387903 := by
    unfold rightF at hF
    simp only [Bool.and_eq_true, Bool.or_eq_true, decide_eq_true_eq, beq_iff_eq] at hF
    omega
  refine ⟨?_, Int.le_refl _, Int.le_refl _, Int.le_refl _, Int.le_refl _⟩
  unfold newI
  dsimp only
  split
  · exact ⟨hw, Int.le_refl _, Int.le_refl _, Int.le_refl _, Int.le_refl _⟩
  · split
    · trivial
    · exact ⟨h0, hs⟩

end Go.Proofs.YtfeljjlpdefnmaaGreat
