/-
  The walk of layer 22's example.
-/
import Derived.Test.YtplcfijcmihhlaaDoorFitsStop
namespace Go.Proofs.YtplcfijcmihhlaaDoor
open Go.RowKit
set_option linter.unusedVariables false
set_option linter.unusedSimpArgs false

/-- What Fits reads of two literals that were laid one behind the other. -/
theorem two_lits (W : World) (xs ys : List Int) (f1 f2 : Nat × Nat) : (∀ i, i < xs.length → ((W.alloc (.cells (xs.map enc8).toArray 5 f1)).alloc (.cells (ys.map enc8).toArray 5 f2)).cell? ⟨W.heap.size, 0 + i, none⟩ = some (.int .u8 (xs.getD i 0))) ∧
    (∀ j, j < ys.length → ((W.alloc (.cells (xs.map enc8).toArray 5 f1)).alloc (.cells (ys.map enc8).toArray 5 f2)).cell? ⟨W.heap.size + 1, 0 + j, none⟩ = some (enc8 (ys[j]?.getD 0))) := by
  constructor
  · intro i hi
    have h1 : ((W.alloc (.cells (xs.map enc8).toArray 5 f1)).alloc (.cells (ys.map enc8).toArray 5 f2)).heap[W.heap.size]? = some (.cells (xs.map enc8).toArray 5 f1) := by
      rw [Below.heap_alloc _ _ _ (by simp), World.alloc_heap_new]
    rw [Nat.zero_add, cell_of_row _ _ i _ _ _ h1, List.getElem?_toArray, List.getElem?_map, List.getElem?_eq_getElem hi, List.getD_eq_getElem?_getD, List.getElem?_eq_getElem hi]
    rfl
  · intro j hj
    rw [Nat.zero_add, cell_of_row _ _ j _ _ _ (heap_alloc2_new W _ _), List.getElem?_toArray, List.getElem?_map, List.getElem?_eq_getElem hj]
    rfl

set_option maxHeartbeats 1000000 in
set_option maxRecDepth 100000 in
theorem wakes22_any (w : World) :
    Calls Tryd.prog 10 #[] w fun e w' => e = .returned (.bool true) ∧ Below w.heap.size w w' := by
  go_enter Tryd.func10, Tryd.ntmps10
  go_wp2_with fail
  obtain ⟨W0, e0⟩ : ∃ W0, w.alloc (.cells #[.int .i64 2, .int .u64 0] 24) = W0 := ⟨_, rfl⟩
  have hz0 : W0.heap.size = w.heap.size + 1 := by rw [← e0, World.size_alloc]
  have b0 : W0.heap[w.heap.size]? = some (.cells #[.int .i64 2, .int .u64 0] 24) := by rw [← e0]; exact heap_alloc_new w _
  have T0 : Touch (fun _ => False) w W0 := by rw [← e0]; exact (Touch.refl _ w).alloc _
  rw [e0, ← hz0]
  clear e0
  obtain ⟨hxA, hyA⟩ := two_lits W0 [97, 98, 99] [50, 13, 10, 97, 98] (3, 4) (5, 6)
  have eA : (W0.alloc (.cells #[.int .u8 97, .int .u8 98, .int .u8 99] 5 (3, 4))).alloc (.cells #[.int .u8 50, .int .u8 13, .int .u8 10, .int .u8 97, .int .u8 98] 5 (5, 6)) = (W0.alloc (.cells (([97, 98, 99] : List Int).map enc8).toArray 5 (3, 4))).alloc (.cells (([50, 13, 10, 97, 98] : List Int).map enc8).toArray 5 (5, 6)) := rfl
  rw [← eA] at hxA hyA
  clear eA
  have zA : ((W0.alloc (.cells #[.int .u8 97, .int .u8 98, .int .u8 99] 5 (3, 4))).alloc (.cells #[.int .u8 50, .int .u8 13, .int .u8 10, .int .u8 97, .int .u8 98] 5 (5, 6))).heap.size = W0.heap.size + 2 := by simp
  have TA : Touch (fun _ => False) W0 ((W0.alloc (.cells #[.int .u8 97, .int .u8 98, .int .u8 99] 5 (3, 4))).alloc (.cells #[.int .u8 50, .int .u8 13, .int .u8 10, .int .u8 97, .int .u8 98] 5 (5, 6))) := ((Touch.refl _ _).alloc _).alloc _
  have hFA := Lib.hid (Fits_stop (w := (W0.alloc (.cells #[.int .u8 97, .int .u8 98, .int .u8 99] 5 (3, 4))).alloc (.cells #[.int .u8 50, .int .u8 13, .int .u8 10, .int .u8 97, .int .u8 98] 5 (5, 6))) (g1 := W0.heap.size) (n1 := 3) (c1 := 3) (g := W0.heap.size + 1) (o := 0) (d := 2) (cap := 5) (xs := [97, 98]) (l := [50, 13, 10, 97, 98]) true (by decide) (by decide) (by decide) rfl (by omega) (fun i hi => by have h := hxA i (by simp; omega); have e : ([97, 98, 99] : List Int).getD i 0 = ([97, 98] : List Int).getD i 0 := (by have : i = 0 ∨ i = 1 ∨ (i = 2 ∧ 2 = 3) := (by omega); rcases this with rfl | rfl | ⟨rfl, k⟩ <;> first | rfl | exact absurd k (by decide)); rw [e] at h; exact h)
    (by decide) (by decide) (by decide) (by unfold maxLen; decide) (by omega) rfl rfl rfl rfl (fun j hj => hyA j hj) (by kernel_rfl))
  have hcA : (convert 25 25 (.slice (some ⟨W0.heap.size, 0, none⟩) 3 3)).run Tryd.prog (W0.alloc (.cells #[.int .u8 97, .int .u8 98, .int .u8 99] 5)) = .ok (.slice (some ⟨W0.heap.size, 0, none⟩) 3 3) (W0.alloc (.cells #[.int .u8 97, .int .u8 98, .int .u8 99] 5 (3, 4))) := Lib.run_convert_bytes_const W0 25 5 #[.int .u8 97, .int .u8 98, .int .u8 99] 3 3 Tryd.underlying25 Tryd.underlying5
  have hdA : (convert 25 25 (.slice (some ⟨W0.heap.size + 1, 0, none⟩) 5 5)).run Tryd.prog ((W0.alloc (.cells #[.int .u8 97, .int .u8 98, .int .u8 99] 5 (3, 4))).alloc (.cells #[.int .u8 50, .int .u8 13, .int .u8 10, .int .u8 97, .int .u8 98] 5)) = .ok (.slice (some ⟨W0.heap.size + 1, 0, none⟩) 5 5) ((W0.alloc (.cells #[.int .u8 97, .int .u8 98, .int .u8 99] 5 (3, 4))).alloc (.cells #[.int .u8 50, .int .u8 13, .int .u8 10, .int .u8 97, .int .u8 98] 5 (5, 6))) := by
    have h := Lib.run_convert_bytes_const (P := Tryd.prog) (W0.alloc (.cells #[.int .u8 97, .int .u8 98, .int .u8 99] 5 (3, 4))) 25 5 #[.int .u8 50, .int .u8 13, .int .u8 10, .int .u8 97, .int .u8 98] 5 5 Tryd.underlying25 Tryd.underlying5
    rw [World.size_alloc] at h
    exact h
  clear hxA hyA
  have HZ := Lib.hid (And.intro hz0 zA)
  clear hz0 zA
  rw [hcA]
  go_wp2_with fail
  refine hFA.out.mono ?_; rintro e w3 ⟨rfl, hb3⟩; dsimp only
  obtain ⟨hz0, zA⟩ := HZ.out
  have hz3 := hb3.size
  have b3 := (hb3.block w.heap.size (by omega)).trans ((TA.block w.heap.size (by omega) (fun h => h)).trans b0)
  have T3 := (T0.trans TA).trans (Touch.of_new hb3)
  have v0 := cell_of_row w3 w.heap.size 0 _ _ _ b3
  have v1 := cell_of_row w3 w.heap.size 1 _ _ _ b3
  simp only [List.getElem?_toArray, List.getElem?_cons_zero, List.getElem?_cons_succ] at v0 v1
  obtain ⟨hxB, hyB⟩ := two_lits w3 [97, 98, 100] [51, 13, 10, 97, 98, 99] (3, 4) (6, 7)
  have eB : (w3.alloc (.cells #[.int .u8 97, .int .u8 98, .int .u8 100] 5 (3, 4))).alloc (.cells #[.int .u8 51, .int .u8 13, .int .u8 10, .int .u8 97, .int .u8 98, .int .u8 99] 5 (6, 7)) = (w3.alloc (.cells (([97, 98, 100] : List Int).map enc8).toArray 5 (3, 4))).alloc (.cells (([51, 13, 10, 97, 98, 99] : List Int).map enc8).toArray 5 (6, 7)) := rfl
  rw [← eB] at hxB hyB
  clear eB
  have zB : ((w3.alloc (.cells #[.int .u8 97, .int .u8 98, .int .u8 100] 5 (3, 4))).alloc (.cells #[.int .u8 51, .int .u8 13, .int .u8 10, .int .u8 97, .int .u8 98, .int .u8 99] 5 (6, 7))).heap.size = w3.heap.size + 2 := by simp
  have TB : Touch (fun _ => False) w3 ((w3.alloc (.cells #[.int .u8 97, .int .u8 98, .int .u8 100] 5 (3, 4))).alloc (.cells #[.int .u8 51, .int .u8 13, .int .u8 10, .int .u8 97, .int .u8 98, .int .u8 99] 5 (6, 7))) := ((Touch.refl _ _).alloc _).alloc _
  have hFB := Lib.hid (Fits_stop (w := (w3.alloc (.cells #[.int .u8 97, .int .u8 98, .int .u8 100] 5 (3, 4))).alloc (.cells #[.int .u8 51, .int .u8 13, .int .u8 10, .int .u8 97, .int .u8 98, .int .u8 99] 5 (6, 7))) (g1 := w3.heap.size) (n1 := 3) (c1 := 3) (g := w3.heap.size + 1) (o := 0) (d := 3) (cap := 6) (xs := [97, 98, 100]) (l := [51, 13, 10, 97, 98, 99]) false (by decide) (by decide) (by decide) rfl (by omega) (fun i hi => by have h := hxB i (by simp; omega); have e : ([97, 98, 100] : List Int).getD i 0 = ([97, 98, 100] : List Int).getD i 0 := (by have : i = 0 ∨ i = 1 ∨ (i = 2 ∧ 3 = 3) := (by omega); rcases this with rfl | rfl | ⟨rfl, k⟩ <;> first | rfl | exact absurd k (by decide)); rw [e] at h; exact h)
    (by decide) (by decide) (by decide) (by unfold maxLen; decide) (by omega) rfl rfl rfl rfl (fun j hj => hyB j hj) (by kernel_rfl))
  have hcB : (convert 25 25 (.slice (some ⟨w3.heap.size, 0, none⟩) 3 3)).run Tryd.prog (w3.alloc (.cells #[.int .u8 97, .int .u8 98, .int .u8 100] 5)) = .ok (.slice (some ⟨w3.heap.size, 0, none⟩) 3 3) (w3.alloc (.cells #[.int .u8 97, .int .u8 98, .int .u8 100] 5 (3, 4))) := Lib.run_convert_bytes_const w3 25 5 #[.int .u8 97, .int .u8 98, .int .u8 100] 3 3 Tryd.underlying25 Tryd.underlying5
  have hdB : (convert 25 25 (.slice (some ⟨w3.heap.size + 1, 0, none⟩) 6 6)).run Tryd.prog ((w3.alloc (.cells #[.int .u8 97, .int .u8 98, .int .u8 100] 5 (3, 4))).alloc (.cells #[.int .u8 51, .int .u8 13, .int .u8 10, .int .u8 97, .int .u8 98, .int .u8 99] 5)) = .ok (.slice (some ⟨w3.heap.size + 1, 0, none⟩) 6 6) ((w3.alloc (.cells #[.int .u8 97, .int .u8 98, .int .u8 100] 5 (3, 4))).alloc (.cells #[.int .u8 51, .int .u8 13, .int .u8 10, .int .u8 97, .int .u8 98, .int .u8 99] 5 (6, 7))) := by
    have h := Lib.run_convert_bytes_const (P := Tryd.prog) (w3.alloc (.cells #[.int .u8 97, .int .u8 98, .int .u8 100] 5 (3, 4))) 25 5 #[.int .u8 51, .int .u8 13, .int .u8 10, .int .u8 97, .int .u8 98, .int .u8 99] 6 6 Tryd.underlying25 Tryd.underlying5
    rw [World.size_alloc] at h
    exact h
  clear hxB hyB
  have HT := Lib.hid (T3.trans TB)
  have HZ2 := Lib.hid (And.intro hz0 (And.intro zA (And.intro hz3 zB)))
  clear TB T3 TA T0 hb3 b3 b0 hFA hcA hdA hz0 zA hz3 zB HZ
  go_wp2_with fail
  refine hFB.out.mono ?_; rintro e w5 ⟨rfl, hb5⟩; dsimp only
  obtain ⟨hz0, zA, hz3, zB⟩ := HZ2.out
  have HB := Lib.hid ((HT.out.below (n := w.heap.size) (Nat.le_refl _) (fun _ h => h.elim)).trans (hb5.mono (by omega)))
  clear hb5 HT
  go_wp2_with fail
  go_ret
  exact ⟨rfl, HB.out⟩

end Go.Proofs.YtplcfijcmihhlaaDoor
