/-
  Layer 4 (credit).
-/
import Derived.Test.YtfeljjlpdefnmaaGreatProg
import Derived.Test.YtfeljjlpdefnmaaGreatBaseR
import Derived.StillTailTactics
import Derived.Deep.QuietTactic
import Derived.BigQuiet
import Derived.KernelRfl
namespace Go.Proofs.YtfeljjlpdefnmaaGreat
open Go.RowKit
set_option linter.unusedVariables false
set_option linter.unusedSimpArgs false
attribute [local go_sem] Oper.semAt_some

theorem setBoxC {W : World} {B j : Nat} {cs : Array Value} {t : TypeId} (v : Value) (h : W.heap[B]? = some (.cells cs t (0, 0))) : (W.setCell ⟨B, j, none⟩ v).heap[B]? = some (.cells (cs.setIfInBounds j v) t (0, 0)) := by
  obtain ⟨hlt, hk⟩ := Array.getElem?_eq_some_iff.1 h
  show (W.heap.modify B _)[B]? = _
  rw [Array.getElem?_eq_getElem (by rw [Array.size_modify]; exact hlt), Array.getElem_modify_self, hk]
  rfl
structure Cred where
  op : Int
  tk : Int
  hd : Int
  gr : Int
def CredAt (W : World) (C : Nat) (c : Cred) : Prop := W.heap[C]? = some (.cells #[.int .i64 c.op, .int .i64 c.tk, .int .i64 c.hd, .int .i64 c.gr] 92 (0, 0))
def Cred.wf (c : Cred) : Prop := 0 ≤ c.op ∧ 0 ≤ c.tk ∧ 0 ≤ c.hd ∧ c.op + c.tk + c.hd ≤ 65536
def Cred.get (c : Cred) (k : Int) : Int := if k = 0 then c.op else if k = 1 then c.tk else c.hd
def Cred.set (c : Cred) (k x : Int) : Cred := if k = 0 then { c with op := x } else if k = 1 then { c with tk := x } else { c with hd := x }
def Cred.move (c : Cred) (n f t : Int) : Int × Cred := if n < 0 then (1, c) else if n > c.get f then (7, c) else (0, (c.set f (c.get f - n)).set t ((c.set f (c.get f - n)).get t + n))
def okMove (f t : Int) : Prop := (f = 0 ∧ t = 1) ∨ (f = 1 ∧ t = 2) ∨ (f = 1 ∧ t = 0) ∨ (f = 2 ∧ t = 0)
section
variable {W W1 : World} {C : Nat} {c : Cred}
theorem CredAt.lt (h : CredAt W C c) : C < W.heap.size := lt_of_heap h
theorem CredAt.touch {X : Nat → Prop} (h : CredAt W C c) (k : Touch X W W1) (hX : ¬ X C) : CredAt W1 C c := (k.block C h.lt hX).trans h
theorem CredAt.below (h : CredAt W C c) (hb : Below W.heap.size W W1) : CredAt W1 C c := h.touch (Touch.of_new (X := fun _ => False) hb) (fun h => h)
theorem CredAt.setC (h : CredAt W C c) (j : Nat) (v : Value) (c' : Cred)
    (hb : (#[.int .i64 c.op, .int .i64 c.tk, .int .i64 c.hd, .int .i64 c.gr] : Array Value).setIfInBounds j v = #[.int .i64 c'.op, .int .i64 c'.tk, .int .i64 c'.hd, .int .i64 c'.gr]) : CredAt (W.setCell ⟨C, j, none⟩ v) C c' := by
  unfold CredAt
  rw [← hb]
  exact setBoxC v h
theorem Cred.wf_move (h : c.wf) (n : Int) {f t : Int} (hf : okMove f t) : (c.move n f t).2.wf := by
  unfold Cred.move
  split
  · exact h
  · split
    · exact h
    · obtain ⟨h0, h1, h2, h3⟩ := h
      rcases hf with ⟨rfl, rfl⟩ | ⟨rfl, rfl⟩ | ⟨rfl, rfl⟩ | ⟨rfl, rfl⟩ <;> simp [Cred.get, Cred.set, Cred.wf] at * <;> omega
set_option maxHeartbeats 4000000 in
set_option maxRecDepth 100000 in
theorem Move_any (h : CredAt W C c) (hw : c.wf) (n : Int) {f t : Int} (hf : okMove f t) :
    Calls Tryz.prog 43 #[.pointer (some ⟨C, 0, none⟩), .int .i64 n, .int .i64 f, .int .i64 t] W fun e w' => e = .returned (.int .i64 (c.move n f t).1) ∧ CredAt w' C (c.move n f t).2 ∧ Touch (· = C) W w' := by
  have c0 : W.cell? ⟨C, 0, none⟩ = some (.int .i64 c.op) := by simp [World.cell?, show W.heap[C]? = _ from h]
  have c1 : W.cell? ⟨C, 1, none⟩ = some (.int .i64 c.tk) := by simp [World.cell?, show W.heap[C]? = _ from h]
  have c2 : W.cell? ⟨C, 2, none⟩ = some (.int .i64 c.hd) := by simp [World.cell?, show W.heap[C]? = _ from h]
  have H := Lib.hid h
  clear h
  by_cases hn : n < 0
  · have HE := Lib.hid (show c.move n f t = (1, c) from if_pos hn)
    go_enter Tryz.func43, Tryz.ntmps43
    go_wp2_with fail
    go_ret
    rw [HE.out]
    exact ⟨rfl, H.out, Touch.refl _ _⟩
  have hn0 : 0 ≤ n := by omega
  obtain ⟨w0, w1, w2, w3⟩ := hw
  have fz := fun j => (show W.frozen? ⟨C, j, none⟩ = false by simp [World.frozen?, show W.heap[C]? = _ from H.out])
  rcases hf with ⟨rfl, rfl⟩ | ⟨rfl, rfl⟩ | ⟨rfl, rfl⟩ | ⟨rfl, rfl⟩
  · have hg : c.get 0 = c.op := rfl
    by_cases hgt : n > c.op
    · have HE := Lib.hid (show c.move n 0 1 = (7, c) by unfold Cred.move; rw [if_neg hn, hg, if_pos hgt])
      have hgt' : c.op < n := hgt
      clear hgt hg hn
      go_enter Tryz.func43, Tryz.ntmps43
      go_wp2_with fail
      go_ret
      rw [HE.out]
      exact ⟨rfl, H.out, Touch.refl _ _⟩
    · have HE := Lib.hid (show c.move n 0 1 = (0, { c with op := c.op - n, tk := c.tk + n }) by unfold Cred.move; rw [if_neg hn, hg, if_neg hgt]; rfl)
      have hgt' : n ≤ c.op := by omega
      have s1 : IntKind.i64.wrap (c.op - n) = c.op - n := IntWalk.i64_in _ (by omega)
      have s2 : IntKind.i64.wrap (c.tk + n) = c.tk + n := IntWalk.i64_in _ (by omega)
      have H1 := Lib.hid (show CredAt (W.setCell ⟨C, 0, none⟩ (.int .i64 (c.op - n))).drew C { c with op := c.op - n } from CredAt.setC (W := W) H.out 0 _ _ rfl)
      have T1 := Lib.hid (show Touch (· = C) W (W.setCell ⟨C, 0, none⟩ (.int .i64 (c.op - n))).drew from ((Touch.refl (· = C) W).setCell (p := ⟨C, 0, none⟩) (.inl rfl) _).drew)
      have hgt2 : decide (n > c.op) = false := decide_eq_false hgt
      clear hgt hg hn
      go_enter Tryz.func43, Tryz.ntmps43
      go_wp2_with fail
      go_still_tail 11, (by kernel_rfl)
      change wpList _ _ _ _ _ W.drew
      have c0d : W.drew.cell? ⟨C, 0, none⟩ = some (.int .i64 c.op) := c0
      have fzd : W.drew.frozen? ⟨C, 0, none⟩ = false := fz 0
      go_wp2_with fail
      obtain ⟨V, eV⟩ : ∃ V, (W.setCell ⟨C, 0, none⟩ (.int .i64 (c.op - n))).drew = V := ⟨_, rfl⟩
      rw [eV] at H1 T1 ⊢
      have d1 : V.cell? ⟨C, 1, none⟩ = some (.int .i64 c.tk) := by simp [World.cell?, show V.heap[C]? = _ from H1.out]
      have d1d : V.drew.cell? ⟨C, 1, none⟩ = some (.int .i64 c.tk) := d1
      have g1d : V.drew.frozen? ⟨C, 1, none⟩ = false := by
        have h := H1.out
        show V.frozen? _ = false
        simp [World.frozen?, show V.heap[C]? = _ from h]
      have H2 := Lib.hid (show CredAt (V.setCell ⟨C, 1, none⟩ (.int .i64 (c.tk + n))).drew C { c with op := c.op - n, tk := c.tk + n } from CredAt.setC (W := V) H1.out 1 _ _ rfl)
      have T2 := Lib.hid ((T1.out.setCell (p := ⟨C, 1, none⟩) (.inl rfl) (.int .i64 (c.tk + n))).drew)
      clear eV c0 c1 c2 fz c0d fzd
      go_still_tail 11, (by kernel_rfl)
      change wpList _ _ _ _ _ V.drew
      go_wp2_with fail
      go_ret
      rw [HE.out]
      exact ⟨rfl, H2.out, T2.out⟩
  · have hg : c.get 1 = c.tk := rfl
    by_cases hgt : n > c.tk
    · have HE := Lib.hid (show c.move n 1 2 = (7, c) by unfold Cred.move; rw [if_neg hn, hg, if_pos hgt])
      have hgt' : c.tk < n := hgt
      clear hgt hg hn
      go_enter Tryz.func43, Tryz.ntmps43
      go_wp2_with fail
      go_ret
      rw [HE.out]
      exact ⟨rfl, H.out, Touch.refl _ _⟩
    · have HE := Lib.hid (show c.move n 1 2 = (0, { c with tk := c.tk - n, hd := c.hd + n }) by unfold Cred.move; rw [if_neg hn, hg, if_neg hgt]; rfl)
      have hgt' : n ≤ c.tk := by omega
      have s1 : IntKind.i64.wrap (c.tk - n) = c.tk - n := IntWalk.i64_in _ (by omega)
      have s2 : IntKind.i64.wrap (c.hd + n) = c.hd + n := IntWalk.i64_in _ (by omega)
      have H1 := Lib.hid (show CredAt (W.setCell ⟨C, 1, none⟩ (.int .i64 (c.tk - n))).drew C { c with tk := c.tk - n } from CredAt.setC (W := W) H.out 1 _ _ rfl)
      have T1 := Lib.hid (show Touch (· = C) W (W.setCell ⟨C, 1, none⟩ (.int .i64 (c.tk - n))).drew from ((Touch.refl (· = C) W).setCell (p := ⟨C, 1, none⟩) (.inl rfl) _).drew)
      have hgt2 : decide (n > c.tk) = false := decide_eq_false hgt
      clear hgt hg hn
      go_enter Tryz.func43, Tryz.ntmps43
      go_wp2_with fail
      go_still_tail 11, (by kernel_rfl)
      change wpList _ _ _ _ _ W.drew
      have c1d : W.drew.cell? ⟨C, 1, none⟩ = some (.int .i64 c.tk) := c1
      have fzd : W.drew.frozen? ⟨C, 1, none⟩ = false := fz 1
      go_wp2_with fail
      obtain ⟨V, eV⟩ : ∃ V, (W.setCell ⟨C, 1, none⟩ (.int .i64 (c.tk - n))).drew = V := ⟨_, rfl⟩
      rw [eV] at H1 T1 ⊢
      have d2 : V.cell? ⟨C, 2, none⟩ = some (.int .i64 c.hd) := by simp [World.cell?, show V.heap[C]? = _ from H1.out]
      have d2d : V.drew.cell? ⟨C, 2, none⟩ = some (.int .i64 c.hd) := d2
      have g2d : V.drew.frozen? ⟨C, 2, none⟩ = false := by
        have h := H1.out
        show V.frozen? _ = false
        simp [World.frozen?, show V.heap[C]? = _ from h]
      have H2 := Lib.hid (show CredAt (V.setCell ⟨C, 2, none⟩ (.int .i64 (c.hd + n))).drew C { c with tk := c.tk - n, hd := c.hd + n } from CredAt.setC (W := V) H1.out 2 _ _ rfl)
      have T2 := Lib.hid ((T1.out.setCell (p := ⟨C, 2, none⟩) (.inl rfl) (.int .i64 (c.hd + n))).drew)
      clear eV c0 c1 c2 fz c1d fzd
      go_still_tail 11, (by kernel_rfl)
      change wpList _ _ _ _ _ V.drew
      go_wp2_with fail
      go_ret
      rw [HE.out]
      exact ⟨rfl, H2.out, T2.out⟩
  · have hg : c.get 1 = c.tk := rfl
    by_cases hgt : n > c.tk
    · have HE := Lib.hid (show c.move n 1 0 = (7, c) by unfold Cred.move; rw [if_neg hn, hg, if_pos hgt])
      have hgt' : c.tk < n := hgt
      clear hgt hg hn
      go_enter Tryz.func43, Tryz.ntmps43
      go_wp2_with fail
      go_ret
      rw [HE.out]
      exact ⟨rfl, H.out, Touch.refl _ _⟩
    · have HE := Lib.hid (show c.move n 1 0 = (0, { c with tk := c.tk - n, op := c.op + n }) by unfold Cred.move; rw [if_neg hn, hg, if_neg hgt]; rfl)
      have hgt' : n ≤ c.tk := by omega
      have s1 : IntKind.i64.wrap (c.tk - n) = c.tk - n := IntWalk.i64_in _ (by omega)
      have s2 : IntKind.i64.wrap (c.op + n) = c.op + n := IntWalk.i64_in _ (by omega)
      have H1 := Lib.hid (show CredAt (W.setCell ⟨C, 1, none⟩ (.int .i64 (c.tk - n))).drew C { c with tk := c.tk - n } from CredAt.setC (W := W) H.out 1 _ _ rfl)
      have T1 := Lib.hid (show Touch (· = C) W (W.setCell ⟨C, 1, none⟩ (.int .i64 (c.tk - n))).drew from ((Touch.refl (· = C) W).setCell (p := ⟨C, 1, none⟩) (.inl rfl) _).drew)
      have hgt2 : decide (n > c.tk) = false := decide_eq_false hgt
      clear hgt hg hn
      go_enter Tryz.func43, Tryz.ntmps43
      go_wp2_with fail
      go_still_tail 11, (by kernel_rfl)
      change wpList _ _ _ _ _ W.drew
      have c1d : W.drew.cell? ⟨C, 1, none⟩ = some (.int .i64 c.tk) := c1
      have fzd : W.drew.frozen? ⟨C, 1, none⟩ = false := fz 1
      go_wp2_with fail
      obtain ⟨V, eV⟩ : ∃ V, (W.setCell ⟨C, 1, none⟩ (.int .i64 (c.tk - n))).drew = V := ⟨_, rfl⟩
      rw [eV] at H1 T1 ⊢
      have d0 : V.cell? ⟨C, 0, none⟩ = some (.int .i64 c.op) := by simp [World.cell?, show V.heap[C]? = _ from H1.out]
      have d0d : V.drew.cell? ⟨C, 0, none⟩ = some (.int .i64 c.op) := d0
      have g0d : V.drew.frozen? ⟨C, 0, none⟩ = false := by
        have h := H1.out
        show V.frozen? _ = false
        simp [World.frozen?, show V.heap[C]? = _ from h]
      have H2 := Lib.hid (show CredAt (V.setCell ⟨C, 0, none⟩ (.int .i64 (c.op + n))).drew C { c with tk := c.tk - n, op := c.op + n } from CredAt.setC (W := V) H1.out 0 _ _ rfl)
      have T2 := Lib.hid ((T1.out.setCell (p := ⟨C, 0, none⟩) (.inl rfl) (.int .i64 (c.op + n))).drew)
      clear eV c0 c1 c2 fz c1d fzd
      go_still_tail 11, (by kernel_rfl)
      change wpList _ _ _ _ _ V.drew
      go_wp2_with fail
      go_ret
      rw [HE.out]
      exact ⟨rfl, H2.out, T2.out⟩
  · have hg : c.get 2 = c.hd := rfl
    by_cases hgt : n > c.hd
    · have HE := Lib.hid (show c.move n 2 0 = (7, c) by unfold Cred.move; rw [if_neg hn, hg, if_pos hgt])
      have hgt' : c.hd < n := hgt
      clear hgt hg hn
      go_enter Tryz.func43, Tryz.ntmps43
      go_wp2_with fail
      go_ret
      rw [HE.out]
      exact ⟨rfl, H.out, Touch.refl _ _⟩
    · have HE := Lib.hid (show c.move n 2 0 = (0, { c with hd := c.hd - n, op := c.op + n }) by unfold Cred.move; rw [if_neg hn, hg, if_neg hgt]; rfl)
      have hgt' : n ≤ c.hd := by omega
      have s1 : IntKind.i64.wrap (c.hd - n) = c.hd - n := IntWalk.i64_in _ (by omega)
      have s2 : IntKind.i64.wrap (c.op + n) = c.op + n := IntWalk.i64_in _ (by omega)
      have H1 := Lib.hid (show CredAt (W.setCell ⟨C, 2, none⟩ (.int .i64 (c.hd - n))).drew C { c with hd := c.hd - n } from CredAt.setC (W := W) H.out 2 _ _ rfl)
      have T1 := Lib.hid (show Touch (· = C) W (W.setCell ⟨C, 2, none⟩ (.int .i64 (c.hd - n))).drew from ((Touch.refl (· = C) W).setCell (p := ⟨C, 2, none⟩) (.inl rfl) _).drew)
      have hgt2 : decide (n > c.hd) = false := decide_eq_false hgt
      clear hgt hg hn
      go_enter Tryz.func43, Tryz.ntmps43
      go_wp2_with fail
      go_still_tail 11, (by kernel_rfl)
      change wpList _ _ _ _ _ W.drew
      have c2d : W.drew.cell? ⟨C, 2, none⟩ = some (.int .i64 c.hd) := c2
      have fzd : W.drew.frozen? ⟨C, 2, none⟩ = false := fz 2
      go_wp2_with fail
      obtain ⟨V, eV⟩ : ∃ V, (W.setCell ⟨C, 2, none⟩ (.int .i64 (c.hd - n))).drew = V := ⟨_, rfl⟩
      rw [eV] at H1 T1 ⊢
      have d0 : V.cell? ⟨C, 0, none⟩ = some (.int .i64 c.op) := by simp [World.cell?, show V.heap[C]? = _ from H1.out]
      have d0d : V.drew.cell? ⟨C, 0, none⟩ = some (.int .i64 c.op) := d0
      have g0d : V.drew.frozen? ⟨C, 0, none⟩ = false := by
        have h := H1.out
        show V.frozen? _ = false
        simp [World.frozen?, show V.heap[C]? = _ from h]
      have H2 := Lib.hid (show CredAt (V.setCell ⟨C, 0, none⟩ (.int .i64 (c.op + n))).drew C { c with hd := c.hd - n, op := c.op + n } from CredAt.setC (W := V) H1.out 0 _ _ rfl)
      have T2 := Lib.hid ((T1.out.setCell (p := ⟨C, 0, none⟩) (.inl rfl) (.int .i64 (c.op + n))).drew)
      clear eV c0 c1 c2 fz c2d fzd
      go_still_tail 11, (by kernel_rfl)
      change wpList _ _ _ _ _ V.drew
      go_wp2_with fail
      go_ret
      rw [HE.out]
      exact ⟨rfl, H2.out, T2.out⟩
end

end Go.Proofs.YtfeljjlpdefnmaaGreat
