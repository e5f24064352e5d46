/-
  What a call may turn: all but the blocks X lie as they lay.
-/
import Derived.WalkKit
import Derived.Below
import Derived.Deep.Draws
import Derived.Lib.Hide
import Derived.Maps.OwnSet
import Derived.RangeFuncBox
import Derived.RangeFuncNested
import Derived.RangeFuncKeeps
import Derived.Sort.Grow
import Derived.Sort.Row
namespace Go.Proofs.YtplcfijcmihhlaaDoor
open Go.RowKit
set_option linter.unusedVariables false
set_option linter.unusedSimpArgs false

structure Touch (X : Nat → Prop) (w w' : World) : Prop where
  os : w'.os = w.os
  tape : w'.tape = w.tape
  output : w'.output = w.output
  size : w.heap.size ≤ w'.heap.size
  block : ∀ k, k < w.heap.size → ¬ X k → w'.heap[k]? = w.heap[k]?

section
variable {X Y : Nat → Prop} {a b c : World}
theorem Touch.refl (X : Nat → Prop) (w : World) : Touch X w w := ⟨rfl, rfl, rfl, Nat.le_refl _, fun _ _ _ => rfl⟩
theorem Touch.trans (h : Touch X a b) (k : Touch X b c) : Touch X a c :=
  ⟨k.os.trans h.os, k.tape.trans h.tape, k.output.trans h.output, Nat.le_trans h.size k.size, fun i hi hx => (k.block i (by have := h.size; omega) hx).trans (h.block i hi hx)⟩
theorem Touch.mono (h : Touch X a b) (hX : ∀ k, k < a.heap.size → X k → Y k) : Touch Y a b :=
  ⟨h.os, h.tape, h.output, h.size, fun k hk hy => h.block k hk (fun hx => hy (hX k hk hx))⟩
theorem Touch.below (h : Touch X a b) {n : Nat} (hn : n ≤ a.heap.size) (hX : ∀ k, X k → n ≤ k) : Below n a b :=
  ⟨h.os, h.tape, h.output, h.size, fun k hk => h.block k (by omega) (fun hx => by have := hX k hx; omega)⟩
theorem Touch.of_below {n : Nat} (h : Below n a b) : Touch (fun k => n ≤ k) a b := ⟨h.os, h.tape, h.output, h.size, fun k _ hx => h.block k (by omega)⟩
theorem Touch.of_new (h : Below a.heap.size a b) : Touch X a b := ⟨h.os, h.tape, h.output, h.size, fun k hk _ => h.block k hk⟩
theorem Touch.alloc (h : Touch X a b) (o : Obj) : Touch X a (b.alloc o) := h.trans (.of_new ((Below.refl _ b).alloc (Nat.le_refl _) o))
theorem Touch.drewN (h : Touch X a b) (n : Nat) : Touch X a (b.drewN n) := ⟨h.os, h.tape, h.output, h.size, h.block⟩
theorem Touch.drew (h : Touch X a b) : Touch X a b.drew := ⟨h.os, h.tape, h.output, h.size, h.block⟩
theorem Touch.of_grown {r : Nat} (h : a.grownBy b (some r)) (hr : X r) : Touch X a b :=
  ⟨h.os, h.tape, h.output, h.size, fun k hk hx => h.block k hk (fun e => by cases e; exact hx hr)⟩
theorem Touch.setCell (h : Touch X a b) {p : Addr} (hp : X p.block ∨ a.heap.size ≤ p.block) (u : Value) : Touch X a (b.setCell p u) :=
  ⟨h.os, h.tape, h.output, by show a.heap.size ≤ (b.heap.modify _ _).size; rw [Array.size_modify]; exact h.size,
    fun k hk hx => (Below.heap_setCell b p u k (by rintro rfl; rcases hp with hp | hp <;> first | exact hx hp | omega)).trans (h.block k hk hx)⟩
theorem Touch.cell (h : Touch X a b) {p : Addr} (hp : p.block < a.heap.size) (hx : ¬ X p.block) : b.cell? p = a.cell? p := World.cell?_of_block (h.block p.block hp hx)
end

/-- The block of the row that the box in block fb holds. -/
def rowOf (fb : Nat) (W : World) (k : Nat) : Prop := ∃ v t fr, W.heap[fb]? = some (.cells #[v] t fr) ∧ v.ownBlock = some k
theorem rowOf_same {fb : Nat} {A B : World} (h : B.heap[fb]? = A.heap[fb]?) (k : Nat) : rowOf fb B k ↔ rowOf fb A k := by unfold rowOf; rw [h]

/-- What a loop's body keeps for the iterator: cells and maps, but for the blocks X and the row that it makes, which box fb holds. -/
def KeepC (X : Nat → Prop) (fb : Nat) (W W' : World) : Prop :=
  W.heap.size ≤ W'.heap.size ∧ (∀ k, rowOf fb W' k → rowOf fb W k ∨ W.heap.size ≤ k) ∧
    ∀ k o, ¬ X k → ¬ rowOf fb W k → W.heap[k]? = some o → (o.isCells = true ∨ o.isWalk = true) → W'.heap[k]? = some o
section
variable {X : Nat → Prop} {fb : Nat} {A B C : World}
theorem KeepC.refl (A : World) : KeepC X fb A A := ⟨Nat.le_refl _, fun _ h => .inl h, fun _ _ _ _ h _ => h⟩
theorem KeepC.trans (h : KeepC X fb A B) (k : KeepC X fb B C) : KeepC X fb A C := by
  refine ⟨Nat.le_trans h.1 k.1, fun i hi => ?_, fun i o hx hr ho hc => ?_⟩
  · rcases k.2.1 i hi with h1 | h1
    · exact h.2.1 i h1
    · exact .inr (Nat.le_trans h.1 h1)
  · refine k.2.2 i o hx (fun hb => ?_) (h.2.2 i o hx hr ho hc) hc
    rcases h.2.1 i hb with h1 | h1
    · exact hr h1
    · have := (Array.getElem?_eq_some_iff.1 ho).1; omega
theorem KeepC.put {w : World} (hfb : fb < w.heap.size) (W : World) (l : Nat) (o o' : Obj) (hl : w.heap.size ≤ l) (hlo : W.heap[l]? = some o) (hc : o.isCells = false) (hw : o.isWalk = false) : KeepC X fb W (W.putObj l o') := by
  refine ⟨by simp, fun k hk => .inl ((rowOf_same (World.putObj_heap_other (by omega)) k).1 hk), fun k p hx _ hk hp => ?_⟩
  by_cases e : k = l
  · subst e
    rw [hlo] at hk
    cases hk
    rw [hc, hw] at hp
    simp at hp
  · exact (World.putObj_heap_other (fun e' => e (by rw [e']))).trans hk
theorem KeepC.of_touch (h : Touch X A B) (hfb : B.heap[fb]? = A.heap[fb]?) : KeepC X fb A B :=
  ⟨h.size, fun k hk => .inl ((rowOf_same hfb k).1 hk), fun k o hx _ hk _ => (h.block k (Array.getElem?_eq_some_iff.1 hk).1 hx).trans hk⟩
/-- No row that a block is not yet. -/
theorem KeepC.notRow (h : KeepC X fb A B) {k : Nat} (hk : k < A.heap.size) (hr : ¬ rowOf fb A k) : ¬ rowOf fb B k := fun hb => by
  rcases h.2.1 k hb with h1 | h1
  · exact hr h1
  · omega
end

/-- 'out = append(out, ..)' keeps what the iterator reads. -/
theorem KeepC.appended {W w1 : World} {B : Nat} {t : TypeId} {v v' : Value} {tmp : Obj} (hv : Boxed W B t v) (hv' : Boxed (w1.setCell ⟨B, 0, none⟩ v') B t v')
    (hgrow : (W.alloc tmp).grownBy w1 v.ownBlock) (hat : v'.ownBlock = v.ownBlock ∨ v'.ownBlock = some (W.alloc tmp).heap.size) : KeepC (· = B) B W (w1.setCell ⟨B, 0, none⟩ v') := by
  have hs1 := hgrow.size
  rw [World.size_alloc] at hs1 hat
  refine ⟨by show W.heap.size ≤ (w1.heap.modify _ _).size; rw [Array.size_modify]; omega, fun k hk => ?_, fun k o hx hr hk _ => ?_⟩
  · obtain ⟨u, t', fr, h1, h2⟩ := hk
    rw [show (w1.setCell ⟨B, 0, none⟩ v').heap[B]? = _ from hv'] at h1
    cases h1
    rcases hat with h | h
    · exact .inl ⟨v, t, (0, 0), hv, by rw [← h]; exact h2⟩
    · rw [h] at h2; cases h2; exact .inr (by omega)
  · have hlt := (Array.getElem?_eq_some_iff.1 hk).1
    have hne : some k ≠ v.ownBlock := fun e => hr ⟨v, t, (0, 0), hv, e.symm⟩
    rw [Below.heap_setCell w1 ⟨B, 0, none⟩ v' k (fun e => hx (by first | exact e | exact e.symm)), hgrow.block k (by rw [World.size_alloc]; omega) hne]
    exact (Below.heap_alloc W tmp k hlt).trans hk

theorem Touch.thenBelow {X : Nat → Prop} {a b c : World} (h : Touch X a b) {n : Nat} (k : Below n b c) (hn : a.heap.size ≤ n) : Touch X a c :=
  ⟨k.os.trans h.os, k.tape.trans h.tape, k.output.trans h.output, Nat.le_trans h.size k.size, fun i hi hx => (k.block i (by omega)).trans (h.block i hi hx)⟩

/-- A block of two cells. -/
theorem set2_0 {W : World} {B : Nat} {t : TypeId} {u v : Value} (v' : Value) (h : W.heap[B]? = some (.cells #[u, v] t (0, 0))) : (W.setCell ⟨B, 0, none⟩ v').heap[B]? = some (.cells #[v', v] t (0, 0)) := by
  obtain ⟨hlt, hk⟩ := Array.getElem?_eq_some_iff.1 h
  show (W.heap.modify B _)[B]? = _
  rw [Array.getElem?_eq_getElem (by rw [Array.size_modify]; exact hlt), Array.getElem_modify_self, hk]
  rfl
theorem set2_1 {W : World} {B : Nat} {t : TypeId} {u v : Value} (v' : Value) (h : W.heap[B]? = some (.cells #[u, v] t (0, 0))) : (W.setCell ⟨B, 1, none⟩ v').heap[B]? = some (.cells #[u, v'] t (0, 0)) := by
  obtain ⟨hlt, hk⟩ := Array.getElem?_eq_some_iff.1 h
  show (W.heap.modify B _)[B]? = _
  rw [Array.getElem?_eq_getElem (by rw [Array.size_modify]; exact hlt), Array.getElem_modify_self, hk]
  rfl
theorem cell2_0 {W : World} {B : Nat} {t : TypeId} {u v : Value} (h : W.heap[B]? = some (.cells #[u, v] t (0, 0))) : W.cell? ⟨B, 0, none⟩ = some u := by simp [World.cell?, h]
theorem cell2_1 {W : World} {B : Nat} {t : TypeId} {u v : Value} (h : W.heap[B]? = some (.cells #[u, v] t (0, 0))) : W.cell? ⟨B, 1, none⟩ = some v := by simp [World.cell?, h]
theorem frozen2 {W : World} {B i : Nat} {t : TypeId} {u v : Value} (h : W.heap[B]? = some (.cells #[u, v] t (0, 0))) : W.frozen? ⟨B, i, none⟩ = false := by simp [World.frozen?, h]
theorem lt_of_heap {W : World} {B : Nat} {o : Obj} (h : W.heap[B]? = some o) : B < W.heap.size := (Array.getElem?_eq_some_iff.1 h).1

end Go.Proofs.YtplcfijcmihhlaaDoor
