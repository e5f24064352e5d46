/-
  Layer 23's laws: BoundNeeds, BoundFair.
-/
import Derived.Test.YtgnckeidekppjaaLeast
namespace Go.Proofs.Ytgnckeidekppjaa
open Go.RowKit
set_option linter.unusedVariables false
set_option linter.unusedSimpArgs false

set_option maxHeartbeats 400000 in
set_option maxRecDepth 100000 in
theorem wakes23_any (w : World) :
    Calls Try.prog 21 #[] w fun e w' => e = .returned (.bool true) ∧ Below w.heap.size w w' := by
  have p1 : needV 2 10 5 = (202, 0) := by decide +kernel
  have p2 : leastB [0, 0, 1, 0, 1] = 3 := by decide +kernel
  have c1 := fun W => Need_any 2 10 5 W
  have c2 := fun v W hv => Least_any v [0, 0, 1, 0, 1] W hv (by decide)
  rw [p1] at c1; rw [p2] at c2
  clear p1 p2
  have C1 := fun W => Lib.hid (c1 W)
  have C2 := fun v W hv => Lib.hid (c2 v W hv)
  clear c1 c2
  go_enter Try.func21, Try.ntmps21
  go_wp2_with fail
  refine (C1 _).out.mono ?_; rintro e w1 ⟨rfl, hb1⟩; dsimp only
  go_wp2_with fail
  refine (C2 _ _ ?hv).out.mono ?_
  case hv =>
    refine ⟨some ⟨w1.heap.size, 0, none⟩, 5, rfl, by decide, by decide, fun _ => ⟨w1.heap.size, 0, rfl, by simp, fun j hj => ?_⟩⟩
    have : j < 5 := hj
    rcases (by omega : j = 0 ∨ j = 1 ∨ j = 2 ∨ j = 3 ∨ j = 4) with rfl | rfl | rfl | rfl | rfl <;> exact World.cell?_alloc_new w1 _ _ _
  rintro e w2 ⟨rfl, hb2⟩; dsimp only
  go_wp2_with fail
  go_ret
  refine ⟨rfl, ?_⟩
  have hb3 : Below w.heap.size w (w1.alloc (.cells #[.int .i64 0, .int .i64 0, .int .i64 1, .int .i64 0, .int .i64 1] 3)) := hb1.alloc (hb1.size) _
  exact hb3.trans (hb2.mono hb3.size)

set_option maxHeartbeats 400000 in
set_option maxRecDepth 100000 in
theorem BoundNeeds_any (k u l : Int) (w : World) :
    Calls Try.prog 6 #[.int .i64 k, .int .i64 u, .int .i64 l] w fun e w' => e = .returned (.bool true) ∧ Below w.heap.size w w' := by
  have C1 := fun W => Lib.hid (Need_any k u l W)
  have C2 := fun W => Lib.hid (RNeed_any k u l W)
  generalize needV k u l = p at *
  obtain ⟨a, b⟩ := p
  go_enter Try.func6, Try.ntmps6
  go_wp2_with fail
  refine (wakes23_any _).mono ?_; rintro e w1 ⟨rfl, hb1⟩; dsimp only
  go_wp2_with fail
  refine (C1 _).out.mono ?_; rintro e w2 ⟨rfl, hb2⟩; dsimp only
  go_wp2_with fail
  refine (C2 _).out.mono ?_; rintro e w' ⟨rfl, rfl⟩; dsimp only
  go_wp2_with fail
  go_ret
  exact ⟨rfl, hb1.trans (hb2.mono hb1.size)⟩

set_option maxHeartbeats 400000 in
set_option maxRecDepth 100000 in
theorem BoundFair_any (k : Int) (v : Value) (l : List Int) (w : World) (hv : Ints w w.heap.size v l) :
    Calls Try.prog 7 #[.int .i64 k, v] w fun e w' => e = .returned (.bool true) ∧ Below w.heap.size w w' := by
  have hv0 := Lib.hid hv
  obtain ⟨A, cap, rfl, h1, h2, h3⟩ := hv
  clear h3
  unfold maxLen at h2
  by_cases hl : 60 < l.length
  · go_enter Try.func7, Try.ntmps7
    go_wp2_with fail
    refine (wakes23_any _).mono ?_; rintro e w1 ⟨rfl, hb1⟩; dsimp only
    go_wp2_with fail
    go_ret
    exact ⟨rfl, hb1⟩
  · have C1 := fun W hv => Lib.hid (Fair_any k (.slice A l.length cap) l W hv (by omega))
    have C2 := fun B W hv => Lib.hid (RFair_any k (.slice A l.length cap) l W B hv (by omega))
    have C3 := fun W hv => Lib.hid (Least_any (.slice A l.length cap) l W hv (by omega))
    have C4 := fun B W hv => Lib.hid (RLeast_any (.slice A l.length cap) l W B hv (by omega))
    generalize fairB k l = f at *
    generalize leastB l = n at *
    go_enter Try.func7, Try.ntmps7
    go_wp2_with fail
    refine (wakes23_any _).mono ?_; rintro e w1 ⟨rfl, hb1⟩; dsimp only
    go_wp2_with fail
    have i1 := (hv0.out.below hb1).more hb1.size
    refine (C1 _ i1).out.mono ?_; rintro e w2 ⟨rfl, hb2⟩; dsimp only
    have i2 := Lib.hid ((i1.below hb2).more hb2.size)
    clear i1
    go_wp2_with fail
    refine (C2 _ _ i2.out).out.mono ?_; rintro e w' ⟨rfl, rfl⟩; dsimp only
    go_wp2_with fail
    refine (C3 _ i2.out).out.mono ?_; rintro e w3 ⟨rfl, hb3⟩; dsimp only
    have i3 := Lib.hid ((i2.out.below hb3).more hb3.size)
    go_wp2_with fail
    refine (C4 _ _ i3.out).out.mono ?_; rintro e w' ⟨rfl, rfl⟩; dsimp only
    go_wp2_with fail
    go_ret
    have hb12 := hb1.trans (hb2.mono hb1.size)
    exact ⟨rfl, hb12.trans (hb3.mono hb12.size)⟩

theorem BoundNeeds_of (a : Int) (_ : (Lit.int .i64 a).wf = true) (b : Int) (_ : (Lit.int .i64 b).wf = true) (c : Int) (_ : (Lit.int .i64 c).wf = true) (w : World) :
    Calls Try.prog 6 #[.int .i64 a, .int .i64 b, .int .i64 c] w fun e w' => e = .returned (.bool true) ∧ Below w.heap.size w w' := BoundNeeds_any a b c w

end Go.Proofs.Ytgnckeidekppjaa
