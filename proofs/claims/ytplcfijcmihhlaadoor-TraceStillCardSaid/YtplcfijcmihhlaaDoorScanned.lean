/-
  The walk of body's scanned, Scan and Payload over a body that stops behind its first data.
-/
import Derived.Test.YtplcfijcmihhlaaDoorChunk
namespace Go.Proofs.YtplcfijcmihhlaaDoor
open Go.RowKit
set_option linter.unusedVariables false
set_option linter.unusedSimpArgs false

def stopR (at' e : Int) : PanicEntry := { v := .iface 133 (.agg #[.int .i64 at', .int .i64 e]), recovered := true }

abbrev BodyBox (W : World) (B : Nat) : Prop := W.heap[B]? = some (.cells #[.slice none 0 0, .slice none 0 0, .int .i64 0] 76 (0, 0))
abbrev StopBox (W : World) (B : Nat) (x y : Int) : Prop := W.heap[B]? = some (.cells #[.int .i64 x, .int .i64 y] 133 (0, 0))

theorem set4 {W : World} {B j : Nat} {cs : Array Value} {t : TypeId} (v : Value) (h : W.heap[B]? = some (.cells cs t (0, 0))) : (W.setCell ⟨B, j, none⟩ v).heap[B]? = some (.cells (cs.setIfInBounds j v) t (0, 0)) := by
  obtain ⟨hlt, hk⟩ := Array.getElem?_eq_some_iff.1 h
  show (W.heap.modify B _)[B]? = _
  rw [Array.getElem?_eq_getElem (by rw [Array.size_modify]; exact hlt), Array.getElem_modify_self, hk]
  rfl

theorem Tryd.stop_neq (x y : Int) (w : World) : (binOp .neq 20 (.iface 133 (.agg #[.int .i64 x, .int .i64 y])) .nilIface).run Tryd.prog w = .ok (.bool true) w := by kernel_rfl
theorem Tryd.stop_assert (x y : Int) (w : World) : (Instr.typeAssert (.iface 133 (.agg #[.int .i64 x, .int .i64 y])) 20 133 false).run Tryd.prog w = .ok (.agg #[.int .i64 x, .int .i64 y]) w := by kernel_rfl

set_option maxHeartbeats 1000000 in
set_option maxRecDepth 100000 in
theorem catch_panicking (B S : Nat) (x y : Int) (older : List PanicEntry) (w : World) (hB : BodyBox w B) (hS : StopBox w S 0 0) (hBS : B ≠ S) :
    CallsD Tryd.prog 88 #[.pointer (some ⟨B, 0, none⟩), .pointer (some ⟨S, 0, none⟩)] (.panicking (stopP x y :: older)) w fun e u' w' =>
      e = .returned (.tuple #[]) ∧ u' = .panicking (stopR x y :: older) ∧ BodyBox w' B ∧ StopBox w' S x y ∧ Touch (fun k => k = B ∨ k = S) w w' := by
  refine callsD_of_wpS Tryd.func88 rfl fun c₀ cs hu => ?_
  apply wpS_seq
  apply wpS_region
  unfold stopP at hu
  simp [wpOpsS, go_sem, recoverD, hu, Tryd.ntmps88, Exit.thenS]
  have hneq := Tryd.stop_neq x y
  have hass := Tryd.stop_assert x y
  refine wpS_of_wp ?_
  simp only [Array.replicate_succ, Array.replicate_zero, List.push_toArray, List.setIfInBounds_toArray, List.set_cons_succ, List.set_cons_zero, List.append_toArray, List.nil_append, List.cons_append]
  have hBS1 : ¬ B = S := hBS
  have hBS2 : ¬ S = B := fun e => hBS e.symm
  have k0 : w.cell? ⟨B, 0, none⟩ = some (.slice none 0 0) := by simp [World.cell?, hB]
  have k1 : w.cell? ⟨B, 1, none⟩ = some (.slice none 0 0) := by simp [World.cell?, hB]
  have k2 : w.cell? ⟨B, 2, none⟩ = some (.int .i64 0) := by simp [World.cell?, hB]
  have f0 : ∀ j, w.frozen? ⟨B, j, none⟩ = false := fun j => by simp [World.frozen?, hB]
  have s0 := cell2_0 hS
  have s1 := cell2_1 hS
  have g0 : ∀ j, w.frozen? ⟨S, j, none⟩ = false := fun j => by simp [World.frozen?, hS]
  have y6 := set2_0 (.int .i64 x) hS
  have y7 := cell2_1 y6
  have y8 := frozen2 (i := 1) y6
  have hSd : StopBox w.drew S 0 0 := hS
  have z6 := set2_0 (.int .i64 x) hSd
  have z7 := cell2_1 z6
  have z8 := frozen2 (i := 1) z6
  go_wp2_with fail
  go_region
  have B1 := set4 (j := 0) (.slice none 0 0) hB
  have B2 := set4 (j := 1) (.slice none 0 0) B1
  have B3 := set4 (j := 2) (.int .i64 0) B2
  have hTB : Touch (fun k => k = B ∨ k = S) w (((w.setCell ⟨B, 0, none⟩ (.slice none 0 0)).setCell ⟨B, 1, none⟩ (.slice none 0 0)).setCell ⟨B, 2, none⟩ (.int .i64 0)) :=
    (((Touch.refl (fun k => k = B ∨ k = S) w).setCell (p := ⟨B, 0, none⟩) (.inl (.inl rfl)) _).setCell (p := ⟨B, 1, none⟩) (.inl (.inl rfl)) _).setCell (p := ⟨B, 2, none⟩) (.inl (.inl rfl)) _
  have hTB' : Touch (fun k => k = B) w (((w.setCell ⟨B, 0, none⟩ (.slice none 0 0)).setCell ⟨B, 1, none⟩ (.slice none 0 0)).setCell ⟨B, 2, none⟩ (.int .i64 0)) :=
    (((Touch.refl (fun k => k = B) w).setCell (p := ⟨B, 0, none⟩) (.inl rfl) _).setCell (p := ⟨B, 1, none⟩) (.inl rfl) _).setCell (p := ⟨B, 2, none⟩) (.inl rfl) _
  have S0 : StopBox (((w.setCell ⟨B, 0, none⟩ (.slice none 0 0)).setCell ⟨B, 1, none⟩ (.slice none 0 0)).setCell ⟨B, 2, none⟩ (.int .i64 0)) S 0 0 := (hTB'.block S (lt_of_heap hS) hBS2).trans hS
  have S1 := set4 (j := 0) (.int .i64 x) S0
  have S2 := set4 (j := 1) (.int .i64 y) S1
  have hTS : Touch (fun k => k = S) (((w.setCell ⟨B, 0, none⟩ (.slice none 0 0)).setCell ⟨B, 1, none⟩ (.slice none 0 0)).setCell ⟨B, 2, none⟩ (.int .i64 0)) (((((w.setCell ⟨B, 0, none⟩ (.slice none 0 0)).setCell ⟨B, 1, none⟩ (.slice none 0 0)).setCell ⟨B, 2, none⟩ (.int .i64 0)).setCell ⟨S, 0, none⟩ (.int .i64 x)).setCell ⟨S, 1, none⟩ (.int .i64 y)) :=
    ((Touch.refl (fun k => k = S) _).setCell (p := ⟨S, 0, none⟩) (.inl rfl) _).setCell (p := ⟨S, 1, none⟩) (.inl rfl) _
  have hBl : B < (((w.setCell ⟨B, 0, none⟩ (.slice none 0 0)).setCell ⟨B, 1, none⟩ (.slice none 0 0)).setCell ⟨B, 2, none⟩ (.int .i64 0)).heap.size := lt_of_heap B3
  exact ⟨rfl, _, rfl, _, results_none rfl _ _ _, rfl, rfl, (hTS.block B hBl hBS1).trans B3, S2, (hTB.trans (hTS.mono (fun _ _ e => .inr e))).drew⟩

end Go.Proofs.YtplcfijcmihhlaaDoor
