/-
  The walk of trace's Still: the longest run of still events, from the places of those that move.
-/
import Derived.Test.YtplcfijcmihhlaaDoorMoves
namespace Go.Proofs.YtplcfijcmihhlaaDoor
open Go.RowKit Go.Shelf
set_option linter.unusedVariables false
set_option linter.unusedSimpArgs false
attribute [local go_sem] Oper.semAt_some

def gstep (s : Int × Int) (i : Nat) : Int × Int := (max s.1 (wrap64 ((i : Int) - s.2)), wrap64 ((i : Int) + 1))
def gapS (ys : List Nat) : Int × Int := ys.foldl gstep (0, 0)
theorem gapS_snoc (ys : List Nat) (i : Nat) : gapS (ys ++ [i]) = gstep (gapS ys) i := by simp [gapS]

theorem gap_long (L : List EvV) : ∀ (j : Nat), j ≤ L.length → j ≤ 100 → (j : Int) - (gapS (mvs L j)).2 = (longS (L.take j)).2 ∧ max (gapS (mvs L j)).1 ((j : Int) - (gapS (mvs L j)).2) = (longS (L.take j)).1 ∧ 0 ≤ (gapS (mvs L j)).2 ∧ (gapS (mvs L j)).2 ≤ j ∧ 0 ≤ (gapS (mvs L j)).1 ∧ (gapS (mvs L j)).1 ≤ 100
  | 0, _, _ => by simp [gapS, mvs, longS]
  | j + 1, hj, hl => by
    obtain ⟨h1, h2, h3, h4, h5, h6⟩ := gap_long L j (by omega) (by omega)
    have ht : L.take (j + 1) = L.take j ++ [evAt L j] := by
      rw [List.take_add_one, List.getElem?_eq_getElem (show j < L.length by omega)]; unfold evAt; rw [List.getElem?_eq_getElem (show j < L.length by omega)]; rfl
    rw [ht, longS_snoc, mvs_succ]
    generalize longS (L.take j) = q at *
    unfold lstep
    cases hs : (evAt L j).isStill
    · simp only [Bool.false_eq_true, if_false]
      rw [gapS_snoc]
      generalize gapS (mvs L j) = g at *
      unfold gstep
      have e1 : wrap64 ((j : Int) - g.2) = (j : Int) - g.2 := IntWalk.wrap64_in _ (by omega)
      have e2 : wrap64 ((j : Int) + 1) = (j : Int) + 1 := IntWalk.wrap64_in _ (by omega)
      rw [e1, e2]
      simp only
      omega
    · simp only [if_true, List.append_nil]
      generalize gapS (mvs L j) = g at *
      omega

theorem boxed_other {W : World} {B : Nat} {t : TypeId} {v : Value} (h : Boxed W B t v) {p : Addr} (hp : B ≠ p.block) (u : Value) : Boxed (W.setCell p u) B t v := (Below.heap_setCell W p u B (fun e => hp e)).trans h
theorem own_boxed {β : Type} (n B : Nat) (t : TypeId) (f : β → Value) : OwnFrom n (fun (s : β) W => Boxed W B t (f s)) := fun s A B' row hs hg hr => hs.kept hg (fun e => by
  obtain ⟨hr1, o, ho, hoc⟩ := hr _ e.symm
  rw [show A.heap[B]? = _ from hs] at ho
  cases ho
  simp [Obj.isCells] at hoc)

set_option maxHeartbeats 2000000 in
set_option maxRecDepth 100000 in
theorem TStill_any (A : Option Addr) (cap : Nat) (L : List EvV) (w : World) (hlc : L.length ≤ cap) (hcap : cap ≤ maxLen) (hL : L.length ≤ 100) (hrow : EvRow w w.heap.size (fun _ => False) A L) :
    Calls Tryd.prog 16 #[.slice A L.length cap] w fun e w' => e = .returned (.int .i64 (longS L).1) ∧ Below w.heap.size w w' := by
  have hG := gap_long L L.length (Nat.le_refl _) hL
  rw [List.take_length] at hG
  have HG := Lib.hid hG
  clear hG
  have h2 := hcap
  unfold maxLen at h2
  refine calls_of_wp_marks Tryd.func16 rfl ?_
  simp only [Tryd.ntmps16, List.size_toArray, List.length_cons, List.length_nil, Nat.reduceAdd, Nat.reduceSub, Array.replicate_succ, Array.replicate_zero, List.push_toArray, List.append_toArray, List.nil_append, List.cons_append]
  go_wp2_with fail
  refine (Moves_any _ _ _ _).mono ?_; rintro e w' ⟨rfl, rfl⟩; dsimp only
  go_wp2_with fail
  have hsz : ((w.alloc (.cells #[.int .i64 0] 3)).alloc (.cells #[.int .i64 0] 3)).heap.size = w.heap.size + 2 := by simp
  rw [hsz]
  have hbel : Below w.heap.size w (((w.alloc (.cells #[.int .i64 0] 3)).alloc (.cells #[.int .i64 0] 3)).alloc (.cells #[.slice A L.length cap] 29)) :=
    (((Below.refl _ w).alloc (Nat.le_refl _) _).alloc (by simp only [World.size_alloc]; omega) _).alloc (by simp only [World.size_alloc]; omega) _
  have hk3 : Boxed (((w.alloc (.cells #[.int .i64 0] 3)).alloc (.cells #[.int .i64 0] 3)).alloc (.cells #[.slice A L.length cap] 29)) w.heap.size 3 (.int .i64 0) := ((Boxed.new w _ _).alloc _).alloc _
  have hk4 : Boxed (((w.alloc (.cells #[.int .i64 0] 3)).alloc (.cells #[.int .i64 0] 3)).alloc (.cells #[.slice A L.length cap] 29)) (w.heap.size + 1) 3 (.int .i64 0) := by
    have := (Boxed.new (w.alloc (.cells #[.int .i64 0] 3)) 3 (.int .i64 0)).alloc (.cells #[.slice A L.length cap] 29)
    rwa [World.size_alloc] at this
  have hk5 : Boxed (((w.alloc (.cells #[.int .i64 0] 3)).alloc (.cells #[.int .i64 0] 3)).alloc (.cells #[.slice A L.length cap] 29)) (w.heap.size + 2) 29 (.slice A L.length cap) := by
    have := Boxed.new ((w.alloc (.cells #[.int .i64 0] 3)).alloc (.cells #[.int .i64 0] 3)) 29 (.slice A L.length cap)
    rwa [hsz] at this
  have hsz3 : (((w.alloc (.cells #[.int .i64 0] 3)).alloc (.cells #[.int .i64 0] 3)).alloc (.cells #[.slice A L.length cap] 29)).heap.size = w.heap.size + 3 := by simp
  generalize ((w.alloc (.cells #[.int .i64 0] 3)).alloc (.cells #[.int .i64 0] 3)).alloc (.cells #[.slice A L.length cap] 29) = w3 at *
  clear hsz
  have hrow3 : EvRow w3 (w.heap.size + 3) (fun j => j = w.heap.size ∨ j = w.heap.size + 1) A L := fun hne => by
    obtain ⟨b, off, e, hb, _, hc⟩ := hrow hne
    exact ⟨b, off, e, by omega, by omega, fun j hj => (hc j hj).keep (hbel.block b hb)⟩
  refine wp_rangeK (encs := encE L) (Kp := KeepS (w.heap.size + 3) (fun j => j = w.heap.size ∨ j = w.heap.size + 1)) (gf := 41) (fun h k => KeepS.trans h k) (KeepS.put (w := w3) (n₀ := w.heap.size + 3) (X := fun j => j = w.heap.size ∨ j = w.heap.size + 1) (by omega)) rfl (enters_of Tryd.func41 (by kernel_rfl) rfl)
    (moves_stops (w.heap.size + 2) (w.heap.size + 3) (fun j => j = w.heap.size ∨ j = w.heap.size + 1) A cap L hlc hcap w3 (by omega) (by omega) (by omega) hk5.cell hrow3)
    (Below.refl _ _) (fun _ => rfl)
    (fun pre W => Boxed W w.heap.size 3 (.int .i64 (gapS pre).1) ∧ Boxed W (w.heap.size + 1) 3 (.int .i64 (gapS pre).2) ∧ Below w.heap.size w W)
    (fun c pre W => False)
    ?hI ?hIx ?h0 (fun i => { tmps := #[Value.slice A L.length cap, undef, Value.int IntKind.i64 0,
          Value.pointer (some { block := w.heap.size, off := 0 }),
          Value.pointer (some { block := w.heap.size + 1, off := 0 }), Value.int IntKind.i64 i, Value.slice A L.length cap,
          Value.func (Fn.func 41) #[] #[Value.pointer (some { block := w.heap.size + 2, off := 0 })],
          Value.int IntKind.i64 i, .agg (evAt L i).arr, undef, undef, undef, undef, undef, undef, undef, undef, undef, undef, undef, undef, undef], defers := [] }) ?assign ?body ?done ?stop
  case hI => exact OwnFrom.and (own_boxed _ _ _ _) (OwnFrom.and (own_boxed _ _ _ _) (ownFrom_below (Nat.le_refl _) (by omega)))
  case hIx => exact fun c s A B row hs _ _ => hs
  case h0 => exact ⟨hk3, hk4, hbel⟩
  case assign =>
    intro l' x W K hK
    unfold encE
    generalize evAt L x = ex at *
    gi_wp2_with fail
    exact hK
  case body =>
    rintro l' pre x W ⟨hb3, hb4, hB⟩ hlt
    have hg := Lib.hid (gapS_snoc pre x)
    have c3 := hb3.cell
    have c4 := hb4.cell
    have f3 := hb3.frozen
    have f4 := hb4.frozen
    generalize evAt L x = ex at *
    generalize gapS pre = g at *
    have hg1 : gstep g x = (max g.1 (wrap64 ((x : Int) - g.2)), wrap64 ((x : Int) + 1)) := rfl
    have Hg := Lib.hid (hg.out.trans hg1)
    clear hg hg1
    gi_wp2_with fail
    all_goals
      refine ⟨((KeepsOthers.setCell _ _ _).trans (KeepsOthers.setCell _ _ _)).from _, ⟨by simp, KeepX.setCell (p := ⟨w.heap.size + 1, 0, none⟩) (KeepX.setCell (p := ⟨w.heap.size, 0, none⟩) (KeepX.refl _) (.inl (.inl rfl)) _) (.inl (.inr rfl)) _⟩, ?_, ?_, (hB.setCell (p := ⟨w.heap.size, 0, none⟩) (Nat.le_refl _) _).setCell (p := ⟨w.heap.size + 1, 0, none⟩) (by show w.heap.size ≤ w.heap.size + 1; omega) _⟩
      · rw [Hg.out]
        refine boxed_other (?_ : Boxed _ _ _ _) (by show ¬ w.heap.size = w.heap.size + 1; omega) _
        dsimp only
        first
          | (rw [show max g.1 (wrap64 ((x : Int) - g.2)) = wrap64 ((x : Int) - g.2) from Int.max_eq_right (Int.le_of_lt (by assumption))]; exact hb3.set _)
          | (rw [show max g.1 (wrap64 ((x : Int) - g.2)) = g.1 from Int.max_eq_left (by assumption)]; exact hb3.set _)
      · rw [Hg.out]
        exact (boxed_other hb4 (p := ⟨w.heap.size, 0, none⟩) (by show ¬ w.heap.size + 1 = w.heap.size; omega) _).set _
  case done =>
    rintro D ys W hD rfl ⟨hb3, hb4, hB⟩ hK
    have c3 := hb3.cell
    have c4 := hb4.cell
    generalize gapS (mvs L L.length) = g at *
    have hw := Lib.hid (show wrap64 ((L.length : Int) - g.2) = (L.length : Int) - g.2 by obtain ⟨h1, h2, h3, h4, h5, h6⟩ := HG.out; exact IntWalk.wrap64_in _ (by omega))
    have hm := Lib.hid HG.out.2.1
    go_wp2_with fail
    all_goals
      refine post_mark rfl hK (results_tmp rfl _ _ _) ?_
      refine ⟨ret_int ?_, below_put hB (by omega)⟩
      have hw' : wrap64 ((L.length : Int) - g.2) = (L.length : Int) - g.2 := hw.out
      have hm' := hm.out
      show (_ : Int) = _
      simp only [hw'] at *
      omega
  case stop =>
    rintro D c pre W hD _ hx hK
    exact hx.elim

end Go.Proofs.YtplcfijcmihhlaaDoor
