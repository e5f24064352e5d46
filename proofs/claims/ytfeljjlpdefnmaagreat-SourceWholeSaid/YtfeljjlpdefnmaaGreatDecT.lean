/-
  Layer 9 (dechunk): a step at any place.
-/
import Derived.Test.YtfeljjlpdefnmaaGreatDecR
namespace Go.Proofs.YtfeljjlpdefnmaaGreat
open Go.RowKit
set_option linter.unusedVariables false
set_option linter.unusedSimpArgs false
attribute [local go_sem] Oper.semAt_some

section
variable {W W1 : World} {F : Nat → Prop} {D : Nat} {vl vf : Value} {d : Dec} {e0 e1 e2 e3 e4 e5 : Int} {n0 : Nat}
theorem WfD.ok (h : WfD d) (h3 : d.place ≠ 3) (h11 : d.place ≠ 11) : okWay d.place := by
  have := h.p0
  have := h.p1
  unfold okWay
  omega
theorem TabR.all (hT : TabR W n0 e0 e1 e2 e3 e4 e5) : TabR W W.heap.size e0 e1 e2 e3 e4 e5 := hT.up hT.ends.le (Nat.le_refl _)
theorem Step_any (h : DecAt W F D vl vf d) (hw : WfD d) (c : UInt8) (h3 : d.place ≠ 3) (h11 : d.place ≠ 11) (hFn : ∀ k, F k → n0 ≤ k) (hT : TabR W n0 e0 e1 e2 e3 e4 e5) :
    Calls Tryz.prog (wayF d.place) #[.pointer (some ⟨D, 0, none⟩), .int .u8 (c.toNat : Int)] W (StepP W F D (stepD e0 e1 e2 e3 e4 e5 d c)) := by
  have hE := hT.all.ends
  have a0 := hw.s0
  have a1 := hw.s1
  have a2 := hw.b1
  have a3 := hw.c0
  have a4 := hw.c1
  have a5 := hw.x1
  have a6 := hw.f1
  have a7 := hw.l0
  have a8 := hw.n0
  have a9 := hw.n1
  have b9 := hw.p9
  have hk := hw.ok h3 h11
  obtain ⟨p, hp⟩ : ∃ p, d.place = p := ⟨_, rfl⟩
  unfold stepD
  rw [hp] at hk b9 ⊢
  rcases hk with rfl | rfl | rfl | rfl | rfl | rfl | rfl | rfl | rfl | rfl
  · exact Digit1_any h c a8 (by omega) a3 a4 a5
  · exact Extended_any h c a3 a5
  · exact Begun_any h c
  · exact Closed_any h c
  · have h5 := Again_any h c
    rw [hp] at h5
    exact h5
  · exact First_any h c (by omega) a2 (by omega) a7 a6 hE
  · exact Named_any h c (by omega) a2 (by omega) hE
  · exact Valued_any h c (by omega) a2 (by omega)
  · exact Line1_any h c (by omega) a2 (by omega) (b9 rfl) (by omega) hFn hT
  · exact Finish_any h c
theorem way_call (k : Int) (hk : okWay k) (args : Array Value) (w : World) : (callFunc (wayF k) args).run Tryz.prog w = .ok (.enter (wayF k) args) w := by
  rcases hk with rfl | rfl | rfl | rfl | rfl | rfl | rfl | rfl | rfl | rfl
  all_goals kernel_rfl
end

end Go.Proofs.YtfeljjlpdefnmaaGreat
