/-
  Layer 01's wakes.
-/
import Derived.Test.YtgnckeidekppjaaDoorHexaWalks
namespace Go.Proofs.YtgnckeidekppjaaDoor
open Go.RowKit
set_option linter.unusedVariables false
set_option linter.unusedSimpArgs false

set_option maxHeartbeats 400000 in
set_option maxRecDepth 100000 in
theorem wakes_any (w : World) :
    Calls Tryd.prog 5 #[] w fun e w' => e = .returned (.bool true) ∧ Below w.heap.size w w' := by
  have p1 : parseV [49, 97] = (26, 0) := by decide +kernel
  have p2 : parseV [48, 48, 70, 70] = (255, 0) := by decide +kernel
  have p3 : parseV [] = (0, 2) := by decide +kernel
  have c1 := fun W => Parse_any ⟨#[49, 97]⟩ W (by decide)
  have c2 := fun W => Parse_any ⟨#[48, 48, 70, 70]⟩ W (by decide)
  have c3 := fun W => Parse_any ⟨#[]⟩ W (by decide)
  rw [p1] at c1; rw [p2] at c2; rw [p3] at c3
  clear p1 p2 p3
  have C1 := fun W => Lib.hid (c1 W)
  have C2 := fun W => Lib.hid (c2 W)
  have C3 := fun W => Lib.hid (c3 W)
  clear c1 c2 c3
  go_enter Tryd.func5, Tryd.ntmps5
  go_wp2_with fail
  refine (C1 _).out.mono ?_; rintro e w1 ⟨rfl, hb1⟩; dsimp only
  go_wp2_with fail
  refine (C2 _).out.mono ?_; rintro e w2 ⟨rfl, hb2⟩; dsimp only
  go_wp2_with fail
  refine (C3 _).out.mono ?_; rintro e w3 ⟨rfl, hb3⟩; dsimp only
  go_wp2_with fail
  go_ret
  exact ⟨rfl, (hb1.trans (hb2.mono hb1.size)).trans (hb3.mono (by have := hb1.size; have := hb2.size; omega))⟩

end Go.Proofs.YtgnckeidekppjaaDoor
