/-
  How the clock's timers are compared: by what they are due, then by their ids.
-/
import Derived.Test.YtgnckeidekppjaaTimers
import Derived.Deep.Draws
import Derived.Deep.QuietTactic
import Derived.Deep.RegionWith
import Derived.Deep.RegionHeld3
import Derived.WalkSpells
import Derived.WalkLawsBesides
import Derived.Shelf.SlSortCmp.Kit1
namespace Go.Proofs.Ytgnckeidekppjaa
open Go.RowKit Go.Maps Go.Sort
set_option linter.unusedVariables false
set_option linter.unusedSimpArgs false

def cmpV (a b : Int) : Int := if a < b then -1 else if b < a then 1 else 0
def orV (a b : Int) : Int := if a = 0 then b else a

theorem isNaN64_any (x : Int) (w : World) : Calls Try.prog 62 #[.int .i64 x] w fun e w' => e = .returned (.bool false) ∧ w = w' := by
  go_enter Try.func62, Try.ntmps62
  go_wp2_with fail
  go_ret
  exact ⟨rfl, rfl⟩
theorem isNaN_any (x : Int) (w : World) : Calls Try.prog 63 #[.int .i64 x] w fun e w' => e = .returned (.bool false) ∧ w = w' := by
  go_enter Try.func63, Try.ntmps63
  go_wp2_with fail
  go_ret
  exact ⟨rfl, rfl⟩

theorem Compare64_any (x y : Int) (w : World) : Calls Try.prog 54 #[.int .i64 x, .int .i64 y] w fun e w' => e = .returned (.int .i64 (cmpV x y)) ∧ w = w' := by
  rcases Int.lt_trichotomy x y with h | h | h
  · have hv := Lib.hid (show cmpV x y = -1 by unfold cmpV; rw [if_pos h])
    go_enter Try.func54, Try.ntmps54
    go_wp2_with (go_at_call 62; refine (isNaN64_any _ _).mono ?_; rintro e w' ⟨rfl, rfl⟩)
    go_ret
    exact ⟨ret_int hv.out.symm, rfl⟩
  · subst h
    have hv := Lib.hid (show cmpV x x = 0 by unfold cmpV; simp)
    go_enter Try.func54, Try.ntmps54
    go_wp2_with (go_at_call 62; refine (isNaN64_any _ _).mono ?_; rintro e w' ⟨rfl, rfl⟩)
    go_ret
    exact ⟨ret_int hv.out.symm, rfl⟩
  · have hv := Lib.hid (show cmpV x y = 1 by unfold cmpV; rw [if_neg (by omega), if_pos h])
    have h2 : ¬ x < y := by omega
    go_enter Try.func54, Try.ntmps54
    go_wp2_with (go_at_call 62; refine (isNaN64_any _ _).mono ?_; rintro e w' ⟨rfl, rfl⟩)
    go_ret
    exact ⟨ret_int hv.out.symm, rfl⟩
theorem Compare_any (x y : Int) (w : World) : Calls Try.prog 55 #[.int .i64 x, .int .i64 y] w fun e w' => e = .returned (.int .i64 (cmpV x y)) ∧ w = w' := by
  rcases Int.lt_trichotomy x y with h | h | h
  · have hv := Lib.hid (show cmpV x y = -1 by unfold cmpV; rw [if_pos h])
    go_enter Try.func55, Try.ntmps55
    go_wp2_with (go_at_call 63; refine (isNaN_any _ _).mono ?_; rintro e w' ⟨rfl, rfl⟩)
    go_ret
    exact ⟨ret_int hv.out.symm, rfl⟩
  · subst h
    have hv := Lib.hid (show cmpV x x = 0 by unfold cmpV; simp)
    go_enter Try.func55, Try.ntmps55
    go_wp2_with (go_at_call 63; refine (isNaN_any _ _).mono ?_; rintro e w' ⟨rfl, rfl⟩)
    go_ret
    exact ⟨ret_int hv.out.symm, rfl⟩
  · have hv := Lib.hid (show cmpV x y = 1 by unfold cmpV; rw [if_neg (by omega), if_pos h])
    have h2 : ¬ x < y := by omega
    go_enter Try.func55, Try.ntmps55
    go_wp2_with (go_at_call 63; refine (isNaN_any _ _).mono ?_; rintro e w' ⟨rfl, rfl⟩)
    go_ret
    exact ⟨ret_int hv.out.symm, rfl⟩

theorem Or_any (g : Nat) (a b : Int) (w : World) (h0 : w.cell? ⟨g, 0, none⟩ = some (.int .i64 a)) (h1 : w.cell? ⟨g, 1, none⟩ = some (.int .i64 b)) :
    Calls Try.prog 53 #[.slice (some ⟨g, 0, none⟩) 2 2] w fun e w' => e = .returned (.int .i64 (orV a b)) ∧ w = w' := by
  by_cases ha : a = 0
  · by_cases hb : b = 0
    · have hv := Lib.hid (show orV a b = 0 by unfold orV; rw [if_pos ha, hb])
      subst ha hb
      go_enter Try.func53, Try.ntmps53
      go_wp2_with fail
      refine wp_loop_rounds 3 ?_
      rw [rounds_succ]
      go_wp2_with fail
      rw [rounds_succ]
      go_wp2_with fail
      rw [rounds_succ]
      go_wp2_with fail
      go_ret
      exact ⟨ret_int hv.out.symm, rfl⟩
    · have hv := Lib.hid (show orV a b = b by unfold orV; rw [if_pos ha])
      subst ha
      have hb' : (b == 0) = false := by simpa using hb
      go_enter Try.func53, Try.ntmps53
      go_wp2_with fail
      refine wp_loop_rounds 2 ?_
      rw [rounds_succ]
      go_wp2_with fail
      rw [rounds_succ]
      go_wp2_with fail
      go_ret
      exact ⟨ret_int hv.out.symm, rfl⟩
  · have hv := Lib.hid (show orV a b = a by unfold orV; rw [if_neg ha])
    have ha' : (a == 0) = false := by simpa using ha
    go_enter Try.func53, Try.ntmps53
    go_wp2_with fail
    refine wp_loop_rounds 2 ?_
    rw [rounds_succ]
    go_wp2_with fail
    go_ret
    exact ⟨ret_int hv.out.symm, rfl⟩

def dueV (f : Int → Option Int) (x : Int) : Int := (f x).getD 0
/-- What the comparison tells of two timers. -/
def cmpT (f : Int → Option Int) (x y : Int) : Int := orV (cmpV (dueV f x) (dueV f y)) (cmpV x y)

/-- What the comparison reads, at any world. -/
def CmpS (c b n p : Nat) (now : Int) (f : Int → Option Int) (x y : Int) (W : World) : Prop :=
  ClockAt W c b n now f ∧ W.cell? ⟨p, 0, none⟩ = some (.pointer (some ⟨c, 0, none⟩)) ∧ W.cell? ⟨c, 1, none⟩ = some (.map (some b)) ∧
    (Instr.lookup 85 (.map (some b)) (.int .i64 x) false).run Try.prog W = .ok (.int .i64 (dueV f x)) W ∧ (Instr.lookup 85 (.map (some b)) (.int .i64 y) false).run Try.prog W = .ok (.int .i64 (dueV f y)) W

theorem CmpS.mk {c b n p : Nat} {now : Int} {f : Int → Option Int} {x y : Int} {W : World} (hx : (Lit.int .i64 x).wf = true) (hy : (Lit.int .i64 y).wf = true) (h : ClockAt W c b n now f)
    (hp : W.cell? ⟨p, 0, none⟩ = some (.pointer (some ⟨c, 0, none⟩))) : CmpS c b n p now f x y W := ⟨h, hp, cell2_1 h.box, h.tm.look hx, h.tm.look hy⟩

theorem lt_of_cell {W : World} {p : Addr} {v : Value} (h : W.cell? p = some v) : p.block < W.heap.size := by
  apply Classical.byContradiction
  intro hge
  have he : W.heap[p.block]? = none := by simp; omega
  simp [World.cell?, he] at h

set_option maxHeartbeats 2000000 in
theorem Cmp_any {c b n p : Nat} {now : Int} {f : Int → Option Int} (W : World) (x y : Int) (hx : (Lit.int .i64 x).wf = true) (hy : (Lit.int .i64 y).wf = true)
    (hp : W.cell? ⟨p, 0, none⟩ = some (.pointer (some ⟨c, 0, none⟩))) (h : ClockAt W c b n now f) :
    Calls Try.prog 52 #[.int .i64 x, .int .i64 y, .pointer (some ⟨p, 0, none⟩)] W fun e w' => e = .returned (.int .i64 (cmpT f x y)) ∧
      ∃ q, w' = (W.drewN q).alloc (.cells #[.int .i64 (cmpV (dueV f x) (dueV f y)), .int .i64 (cmpV x y)] 3) := by
  have ht : ∀ o, Touch (fun _ => False) W (W.drew.alloc o) := fun o => ((Touch.refl _ W).drew).alloc o
  have k1 : CmpS c b n p now f x y W.drew := CmpS.mk hx hy (h.keep ((Touch.refl (fun _ => False) W).drew) (fun h => h) (fun h => h)) hp
  have k2 : ∀ o, CmpS c b n p now f x y (W.drew.alloc o) := fun o => CmpS.mk hx hy (h.keep (ht o) (fun h => h) (fun h => h)) (((ht o).cell (lt_of_cell hp) (fun h => h)).trans hp)
  have e : cmpT f x y = orV (cmpV (dueV f x) (dueV f y)) (cmpV x y) := rfl
  have E := Lib.hid e
  clear e
  have c1 := fun W => Lib.hid (Compare64_any (dueV f x) (dueV f y) W)
  have c2 := fun W => Lib.hid (Compare_any x y W)
  unfold CmpS at k1 k2
  generalize dueV f x = dx at *
  generalize dueV f y = dy at *
  generalize cmpV dx dy = r1 at *
  generalize cmpV x y = r2 at *
  have cO := Lib.hid (Or_any W.drew.heap.size r1 r2 (W.drew.alloc (.cells #[.int .i64 r1, .int .i64 r2] 3)) (World.cell?_alloc_new W.drew _ _ _) (World.cell?_alloc_new W.drew _ _ _))
  have K1 := Lib.hid k1
  have K2 := fun o => Lib.hid (k2 o)
  clear k1 k2 ht h hp
  go_enter Try.func52, Try.ntmps52
  go_wp2_with fail
  go_region_held3 (fun w' => ClockAt w' c b n now f ∧ w'.cell? ⟨p, 0, none⟩ = some (.pointer (some ⟨c, 0, none⟩)) ∧ w'.cell? ⟨c, 1, none⟩ = some (.map (some b)) ∧
    (Instr.lookup 85 (.map (some b)) (.int .i64 x) false).run Try.prog w' = .ok (.int .i64 dx) w' ∧ (Instr.lookup 85 (.map (some b)) (.int .i64 y) false).run Try.prog w' = .ok (.int .i64 dy) w')
    (first | exact K1.out | exact (K2 _).out | assumption)
    (first
    | (go_at_call 54; refine (c1 _).out.mono ?_; rintro e w' ⟨rfl, rfl⟩)
    | (go_at_call 55; refine (c2 _).out.mono ?_; rintro e w' ⟨rfl, rfl⟩)
    | (go_at_call 53; refine cO.out.mono ?_; rintro e w' ⟨rfl, rfl⟩))
  all_goals
    go_wp2_with fail
    go_ret
    exact ⟨ret_int E.out.symm, 1, rfl⟩

end Go.Proofs.Ytgnckeidekppjaa
