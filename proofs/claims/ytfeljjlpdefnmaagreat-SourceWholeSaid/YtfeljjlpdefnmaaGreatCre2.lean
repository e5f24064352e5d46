/-
  Layer 4 (credit): the methods.
-/
import Derived.Test.YtfeljjlpdefnmaaGreatCred
import Derived.OwnWalk
namespace Go.Proofs.YtfeljjlpdefnmaaGreat
open Go.RowKit
set_option linter.unusedVariables false
set_option linter.unusedSimpArgs false
attribute [local go_sem] Oper.semAt_some

section
variable {W W1 : World} {C : Nat} {c : Cred}
theorem CredAt.c0 (h : CredAt W C c) : W.cell? ⟨C, 0, none⟩ = some (.int .i64 c.op) := by simp [World.cell?, show W.heap[C]? = _ from h]
theorem CredAt.c1 (h : CredAt W C c) : W.cell? ⟨C, 1, none⟩ = some (.int .i64 c.tk) := by simp [World.cell?, show W.heap[C]? = _ from h]
theorem CredAt.c2 (h : CredAt W C c) : W.cell? ⟨C, 2, none⟩ = some (.int .i64 c.hd) := by simp [World.cell?, show W.heap[C]? = _ from h]
theorem CredAt.c3 (h : CredAt W C c) : W.cell? ⟨C, 3, none⟩ = some (.int .i64 c.gr) := by simp [World.cell?, show W.heap[C]? = _ from h]
theorem CredAt.f (h : CredAt W C c) (j : Nat) : W.frozen? ⟨C, j, none⟩ = false := by simp [World.frozen?, show W.heap[C]? = _ from h]
theorem CNew_any (n : Int) (h0 : 1 ≤ n) (h1 : n ≤ 65536) (w : World) :
    Calls Tryz.prog 21 #[.int .i64 n] w fun e w' => ∃ C, e = .returned (.tuple #[.pointer (some ⟨C, 0, none⟩), .int .i64 0]) ∧ CredAt w' C ⟨n, 0, 0, 0⟩ ∧ w.heap.size ≤ C ∧ Below w.heap.size w w' := by
  go_enter Tryz.func21, Tryz.ntmps21
  go_wp2_with fail
  go_ret2
  exact ⟨w.heap.size, rfl, World.alloc_heap_new w _, Nat.le_refl _, (Below.refl _ w).alloc (Nat.le_refl _) _⟩
theorem COpen_any (h : CredAt W C c) : Calls Tryz.prog 23 #[.pointer (some ⟨C, 0, none⟩)] W fun e w' => e = .returned (.int .i64 c.op) ∧ W = w' := by
  have c0 := h.c0
  clear h
  go_enter Tryz.func23, Tryz.ntmps23
  go_wp2_with fail
  go_ret
  exact ⟨rfl, rfl⟩
theorem CHeld_any (h : CredAt W C c) : Calls Tryz.prog 32 #[.pointer (some ⟨C, 0, none⟩)] W fun e w' => e = .returned (.int .i64 c.hd) ∧ W = w' := by
  have c0 := h.c2
  clear h
  go_enter Tryz.func32, Tryz.ntmps32
  go_wp2_with fail
  go_ret
  exact ⟨rfl, rfl⟩
theorem CUse_any (h : CredAt W C c) (hw : c.wf) (n : Int) : Calls Tryz.prog 30 #[.pointer (some ⟨C, 0, none⟩), .int .i64 n] W fun e w' => e = .returned (.int .i64 (c.move n 1 2).1) ∧ CredAt w' C (c.move n 1 2).2 ∧ Touch (· = C) W w' := by
  have hM := Lib.hid (Move_any h hw n (.inr (.inl ⟨rfl, rfl⟩)))
  generalize c.move n 1 2 = r at hM ⊢
  clear h hw
  go_enter Tryz.func30, Tryz.ntmps30
  go_wp2_with fail
  refine hM.out.mono ?_; rintro e w1 ⟨rfl, h1, t1⟩; dsimp only
  have H1 := Lib.hid h1
  have T1 := Lib.hid t1
  clear h1 t1
  go_wp2_with fail
  go_ret
  exact ⟨rfl, H1.out, T1.out⟩
theorem CReturn_any (h : CredAt W C c) (hw : c.wf) (n : Int) : Calls Tryz.prog 27 #[.pointer (some ⟨C, 0, none⟩), .int .i64 n] W fun e w' => e = .returned (.int .i64 (c.move n 1 0).1) ∧ CredAt w' C (c.move n 1 0).2 ∧ Touch (· = C) W w' := by
  have hM := Lib.hid (Move_any h hw n (.inr (.inr (.inl ⟨rfl, rfl⟩))))
  generalize c.move n 1 0 = r at hM ⊢
  clear h hw
  go_enter Tryz.func27, Tryz.ntmps27
  go_wp2_with fail
  refine hM.out.mono ?_; rintro e w1 ⟨rfl, h1, t1⟩; dsimp only
  have H1 := Lib.hid h1
  have T1 := Lib.hid t1
  clear h1 t1
  go_wp2_with fail
  go_ret
  exact ⟨rfl, H1.out, T1.out⟩
set_option maxRecDepth 100000 in
/-- A Take of no more than is open. -/
theorem CTake_any (h : CredAt W C c) (hw : c.wf) (n : Int) (h0 : 0 ≤ n) (h1 : n ≤ c.op) : Calls Tryz.prog 24 #[.pointer (some ⟨C, 0, none⟩), .int .i64 n] W fun e w' => e = .returned (.int .i64 n) ∧ CredAt w' C (c.move n 0 1).2 ∧ Touch (· = C) W w' := by
  have c0 := h.c0
  have hM := Lib.hid (Move_any h hw n (.inl ⟨rfl, rfl⟩))
  generalize c.move n 0 1 = r at hM ⊢
  clear h hw
  go_enter Tryz.func24, Tryz.ntmps24
  go_wp2_with fail
  refine hM.out.mono ?_; rintro e w1 ⟨rfl, h1, t1⟩; dsimp only
  have H1 := Lib.hid h1
  have T1 := Lib.hid t1
  clear h1 t1
  go_wp2_with fail
  go_ret
  exact ⟨rfl, H1.out, T1.out⟩
/-- What a Give comes to. -/
def Cred.give (c : Cred) (n : Int) : Int × Cred := if (c.move n 2 0).1 = 0 then (0, { (c.move n 2 0).2 with gr := (c.move n 2 0).2.gr + n }) else c.move n 2 0
theorem CGive_any (h : CredAt W C c) (hw : c.wf) (n : Int) (hg : -9000000000000000000 ≤ c.gr + n) (hg2 : c.gr + n ≤ 9000000000000000000) : Calls Tryz.prog 34 #[.pointer (some ⟨C, 0, none⟩), .int .i64 n] W fun e w' => e = .returned (.int .i64 (c.give n).1) ∧ CredAt w' C (c.give n).2 ∧ Touch (· = C) W w' := by
  have hM := Lib.hid (Move_any h hw n (.inr (.inr (.inr ⟨rfl, rfl⟩))))
  have hgr : (c.move n 2 0).2.gr = c.gr := by
    unfold Cred.move
    split
    · rfl
    · split
      · rfl
      · rfl
  obtain ⟨r, hr⟩ : ∃ r, c.move n 2 0 = r := ⟨_, rfl⟩
  rw [hr] at hM hgr
  rw [← hgr] at hg hg2
  have HE : Hid (c.give n = if r.1 = 0 then (0, { r.2 with gr := r.2.gr + n }) else r) := Lib.hid (by unfold Cred.give; rw [hr])
  obtain ⟨re, rc⟩ := r
  dsimp only at hM hg hg2 HE
  clear h hw hr hgr
  by_cases h0 : re = 0
  · have HE2 := Lib.hid (HE.out.trans (if_pos h0))
    subst h0
    have hs : IntKind.i64.wrap (rc.gr + n) = rc.gr + n := IntWalk.i64_in _ (by omega)
    go_enter Tryz.func34, Tryz.ntmps34
    go_wp2_with fail
    refine hM.out.mono ?_; rintro e w1 ⟨rfl, h1, t1⟩; dsimp only
    have c3 := h1.c3
    have f3 := h1.f 3
    have H1 := Lib.hid (show CredAt (w1.setCell ⟨C, 3, none⟩ (.int .i64 (rc.gr + n))) C { rc with gr := rc.gr + n } from h1.setC 3 _ _ rfl)
    have T1 := Lib.hid (t1.setCell (p := ⟨C, 3, none⟩) (.inl rfl) (.int .i64 (rc.gr + n)))
    clear h1 t1
    go_wp2_with fail
    go_ret
    rw [HE2.out]
    exact ⟨rfl, H1.out, T1.out⟩
  · have h1 : (re == 0) = false := beq_eq_false_iff_ne.2 h0
    have HE2 := Lib.hid (HE.out.trans (if_neg h0))
    clear h0
    go_enter Tryz.func34, Tryz.ntmps34
    go_wp2_with fail
    refine hM.out.mono ?_; rintro e w1 ⟨rfl, h1, t1⟩; dsimp only
    have H1 := Lib.hid h1
    have T1 := Lib.hid t1
    clear h1 t1
    go_wp2_with fail
    go_ret
    rw [HE2.out]
    exact ⟨rfl, H1.out, T1.out⟩
end

end Go.Proofs.YtfeljjlpdefnmaaGreat
