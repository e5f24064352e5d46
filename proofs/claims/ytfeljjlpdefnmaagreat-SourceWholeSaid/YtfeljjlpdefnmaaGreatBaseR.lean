/-
  What the texts of the relay's layers stand on: common words, bytes, what is touched, own rows, appends, iterators.
-/
import Derived.WalkKit
import Derived.Below
import Derived.Deep.Draws
import Derived.Lib.Hide
import Derived.Maps.OwnSet
import Derived.RangeFuncBox
import Derived.RangeFuncNested
import Derived.RangeFuncKeeps
import Derived.Sort.Grow
import Derived.Sort.Row
import Derived.Deep.AppendLies
import Derived.Laws.AppendOwnNone
import Derived.RangeFuncBound
import Derived.RangeFuncCalls
import Derived.RangeFuncLeaves
import Derived.OwnWalkIn
import Derived.TacticsInMore
import Derived.LoopNIn
import Derived.LoopIn
namespace Go.Proofs.YtfeljjlpdefnmaaGreat
open Go.RowKit
set_option linter.unusedVariables false
set_option linter.unusedSimpArgs false

theorem byte_le (b : UInt8) : (b.toNat : Int) ≤ 255 := by have := b.toNat_lt; omega
theorem byte_ge (b : UInt8) : 0 ≤ (b.toNat : Int) := by omega
theorem ret_bool {a b : Bool} (h : a = b) : Ending.returned (.bool a) = .returned (.bool b) := by rw [h]
theorem ret_int {k : IntKind} {a b : Int} (h : a = b) : Ending.returned (.int k a) = .returned (.int k b) := by rw [h]
theorem ret_two {j k : IntKind} {a b c d : Int} (h : a = b) (h' : c = d) : Ending.returned (.tuple #[.int j a, .int k c]) = .returned (.tuple #[.int j b, .int k d]) := by rw [h, h']
theorem ret_str {a b : ByteArray} (h : a = b) : Ending.returned (.string a) = .returned (.string b) := by rw [h]

theorem below_drewN {B : Nat} {a w : World} (h : Below B a w) (n : Nat) : Below B a (w.drewN n) := ⟨h.os, h.tape, h.output, h.size, h.block⟩
theorem only_of_below {a w : World} (h : Below a.heap.size a w) (row : Option Nat) : a.grownBy w row := ⟨h.os, h.tape, h.output, h.size, fun i hi _ => h.block i hi⟩
/-- What the call owns lies as it lay where only new blocks were made. -/
theorem own_below {W W' : World} {base : Nat} {e : TypeId} {size n : Nat} {v : Value} {xs : List Value} (h : W.ownsRow base e size v n xs) (hb : Below W.heap.size W W') : W'.ownsRow base e size v n xs :=
  h.kept (only_of_below hb none) (by cases hv : v.ownBlock <;> simp)

end Go.Proofs.YtfeljjlpdefnmaaGreat

namespace Go.Proofs.YtfeljjlpdefnmaaGreat
open Go.RowKit
set_option linter.unusedVariables false

/-- The value v is a slice that reads as the integers l of kind q, in a block below B; empty and nil ones let in. -/
def IntsK (q : IntKind) (W : World) (B : Nat) (v : Value) (l : List Int) : Prop :=
  ∃ A cap, v = .slice A l.length cap ∧ l.length ≤ cap ∧ cap ≤ maxLen ∧
    (l ≠ [] → ∃ b off, A = some ⟨b, off, none⟩ ∧ b < B ∧ ∀ j, j < l.length → W.cell? ⟨b, off + j, none⟩ = some (.int q (l[j]?.getD 0)))
theorem IntsK.below {q : IntKind} {W W' : World} {B : Nat} {v : Value} {l : List Int} (h : IntsK q W B v l) (hb : Below B W W') : IntsK q W' B v l := by
  obtain ⟨A, cap, e, h1, h2, h3⟩ := h
  refine ⟨A, cap, e, h1, h2, fun hn => ?_⟩
  obtain ⟨b, off, e', hlt, hc⟩ := h3 hn
  exact ⟨b, off, e', hlt, fun j hj => (hb.cell (p := ⟨b, off + j, none⟩) hlt).trans (hc j hj)⟩

end Go.Proofs.YtfeljjlpdefnmaaGreat

namespace Go.Proofs.YtfeljjlpdefnmaaGreat
open Go.RowKit
set_option linter.unusedVariables false
set_option linter.unusedSimpArgs false

structure Touch (X : Nat → Prop) (w w' : World) : Prop where
  os : w'.os = w.os
  tape : w'.tape = w.tape
  output : w'.output = w.output
  size : w.heap.size ≤ w'.heap.size
  block : ∀ k, k < w.heap.size → ¬ X k → w'.heap[k]? = w.heap[k]?

section
variable {X Y : Nat → Prop} {a b c : World}
theorem Touch.refl (X : Nat → Prop) (w : World) : Touch X w w := ⟨rfl, rfl, rfl, Nat.le_refl _, fun _ _ _ => rfl⟩
theorem Touch.trans (h : Touch X a b) (k : Touch X b c) : Touch X a c :=
  ⟨k.os.trans h.os, k.tape.trans h.tape, k.output.trans h.output, Nat.le_trans h.size k.size, fun i hi hx => (k.block i (by have := h.size; omega) hx).trans (h.block i hi hx)⟩
theorem Touch.mono (h : Touch X a b) (hX : ∀ k, k < a.heap.size → X k → Y k) : Touch Y a b :=
  ⟨h.os, h.tape, h.output, h.size, fun k hk hy => h.block k hk (fun hx => hy (hX k hk hx))⟩
theorem Touch.below (h : Touch X a b) {n : Nat} (hn : n ≤ a.heap.size) (hX : ∀ k, X k → n ≤ k) : Below n a b :=
  ⟨h.os, h.tape, h.output, h.size, fun k hk => h.block k (by omega) (fun hx => by have := hX k hx; omega)⟩
theorem Touch.of_below {n : Nat} (h : Below n a b) : Touch (fun k => n ≤ k) a b := ⟨h.os, h.tape, h.output, h.size, fun k _ hx => h.block k (by omega)⟩
theorem Touch.of_new (h : Below a.heap.size a b) : Touch X a b := ⟨h.os, h.tape, h.output, h.size, fun k hk _ => h.block k hk⟩
theorem Touch.alloc (h : Touch X a b) (o : Obj) : Touch X a (b.alloc o) := h.trans (.of_new ((Below.refl _ b).alloc (Nat.le_refl _) o))
theorem Touch.drewN (h : Touch X a b) (n : Nat) : Touch X a (b.drewN n) := ⟨h.os, h.tape, h.output, h.size, h.block⟩
theorem Touch.drew (h : Touch X a b) : Touch X a b.drew := ⟨h.os, h.tape, h.output, h.size, h.block⟩
theorem Touch.of_grown {r : Nat} (h : a.grownBy b (some r)) (hr : X r) : Touch X a b :=
  ⟨h.os, h.tape, h.output, h.size, fun k hk hx => h.block k hk (fun e => by cases e; exact hx hr)⟩
theorem Touch.setCell (h : Touch X a b) {p : Addr} (hp : X p.block ∨ a.heap.size ≤ p.block) (u : Value) : Touch X a (b.setCell p u) :=
  ⟨h.os, h.tape, h.output, by show a.heap.size ≤ (b.heap.modify _ _).size; rw [Array.size_modify]; exact h.size,
    fun k hk hx => (Below.heap_setCell b p u k (by rintro rfl; rcases hp with hp | hp <;> first | exact hx hp | omega)).trans (h.block k hk hx)⟩
theorem Touch.cell (h : Touch X a b) {p : Addr} (hp : p.block < a.heap.size) (hx : ¬ X p.block) : b.cell? p = a.cell? p := World.cell?_of_block (h.block p.block hp hx)
end

/-- The block of the row that the box in block fb holds. -/
def rowOf (fb : Nat) (W : World) (k : Nat) : Prop := ∃ v t fr, W.heap[fb]? = some (.cells #[v] t fr) ∧ v.ownBlock = some k
theorem rowOf_same {fb : Nat} {A B : World} (h : B.heap[fb]? = A.heap[fb]?) (k : Nat) : rowOf fb B k ↔ rowOf fb A k := by unfold rowOf; rw [h]

/-- What a loop's body keeps for the iterator: cells and maps, but for the blocks X and the row that it makes, which box fb holds. -/
def KeepC (X : Nat → Prop) (fb : Nat) (W W' : World) : Prop :=
  W.heap.size ≤ W'.heap.size ∧ (∀ k, rowOf fb W' k → rowOf fb W k ∨ W.heap.size ≤ k) ∧
    ∀ k o, ¬ X k → ¬ rowOf fb W k → W.heap[k]? = some o → (o.isCells = true ∨ o.isWalk = true) → W'.heap[k]? = some o
section
variable {X : Nat → Prop} {fb : Nat} {A B C : World}
theorem KeepC.refl (A : World) : KeepC X fb A A := ⟨Nat.le_refl _, fun _ h => .inl h, fun _ _ _ _ h _ => h⟩
theorem KeepC.trans (h : KeepC X fb A B) (k : KeepC X fb B C) : KeepC X fb A C := by
  refine ⟨Nat.le_trans h.1 k.1, fun i hi => ?_, fun i o hx hr ho hc => ?_⟩
  · rcases k.2.1 i hi with h1 | h1
    · exact h.2.1 i h1
    · exact .inr (Nat.le_trans h.1 h1)
  · refine k.2.2 i o hx (fun hb => ?_) (h.2.2 i o hx hr ho hc) hc
    rcases h.2.1 i hb with h1 | h1
    · exact hr h1
    · have := (Array.getElem?_eq_some_iff.1 ho).1; omega
theorem KeepC.put {w : World} (hfb : fb < w.heap.size) (W : World) (l : Nat) (o o' : Obj) (hl : w.heap.size ≤ l) (hlo : W.heap[l]? = some o) (hc : o.isCells = false) (hw : o.isWalk = false) : KeepC X fb W (W.putObj l o') := by
  refine ⟨by simp, fun k hk => .inl ((rowOf_same (World.putObj_heap_other (by omega)) k).1 hk), fun k p hx _ hk hp => ?_⟩
  by_cases e : k = l
  · subst e
    rw [hlo] at hk
    cases hk
    rw [hc, hw] at hp
    simp at hp
  · exact (World.putObj_heap_other (fun e' => e (by rw [e']))).trans hk
theorem KeepC.of_touch (h : Touch X A B) (hfb : B.heap[fb]? = A.heap[fb]?) : KeepC X fb A B :=
  ⟨h.size, fun k hk => .inl ((rowOf_same hfb k).1 hk), fun k o hx _ hk _ => (h.block k (Array.getElem?_eq_some_iff.1 hk).1 hx).trans hk⟩
/-- No row that a block is not yet. -/
theorem KeepC.notRow (h : KeepC X fb A B) {k : Nat} (hk : k < A.heap.size) (hr : ¬ rowOf fb A k) : ¬ rowOf fb B k := fun hb => by
  rcases h.2.1 k hb with h1 | h1
  · exact hr h1
  · omega
end

/-- 'out = append(out, ..)' keeps what the iterator reads. -/
theorem KeepC.appended {W w1 : World} {B : Nat} {t : TypeId} {v v' : Value} {tmp : Obj} (hv : Boxed W B t v) (hv' : Boxed (w1.setCell ⟨B, 0, none⟩ v') B t v')
    (hgrow : (W.alloc tmp).grownBy w1 v.ownBlock) (hat : v'.ownBlock = v.ownBlock ∨ v'.ownBlock = some (W.alloc tmp).heap.size) : KeepC (· = B) B W (w1.setCell ⟨B, 0, none⟩ v') := by
  have hs1 := hgrow.size
  rw [World.size_alloc] at hs1 hat
  refine ⟨by show W.heap.size ≤ (w1.heap.modify _ _).size; rw [Array.size_modify]; omega, fun k hk => ?_, fun k o hx hr hk _ => ?_⟩
  · obtain ⟨u, t', fr, h1, h2⟩ := hk
    rw [show (w1.setCell ⟨B, 0, none⟩ v').heap[B]? = _ from hv'] at h1
    cases h1
    rcases hat with h | h
    · exact .inl ⟨v, t, (0, 0), hv, by rw [← h]; exact h2⟩
    · rw [h] at h2; cases h2; exact .inr (by omega)
  · have hlt := (Array.getElem?_eq_some_iff.1 hk).1
    have hne : some k ≠ v.ownBlock := fun e => hr ⟨v, t, (0, 0), hv, e.symm⟩
    rw [Below.heap_setCell w1 ⟨B, 0, none⟩ v' k (fun e => hx (by first | exact e | exact e.symm)), hgrow.block k (by rw [World.size_alloc]; omega) hne]
    exact (Below.heap_alloc W tmp k hlt).trans hk

theorem Touch.thenBelow {X : Nat → Prop} {a b c : World} (h : Touch X a b) {n : Nat} (k : Below n b c) (hn : a.heap.size ≤ n) : Touch X a c :=
  ⟨k.os.trans h.os, k.tape.trans h.tape, k.output.trans h.output, Nat.le_trans h.size k.size, fun i hi hx => (k.block i (by omega)).trans (h.block i hi hx)⟩

/-- A block of two cells. -/
theorem set2_0 {W : World} {B : Nat} {t : TypeId} {u v : Value} (v' : Value) (h : W.heap[B]? = some (.cells #[u, v] t (0, 0))) : (W.setCell ⟨B, 0, none⟩ v').heap[B]? = some (.cells #[v', v] t (0, 0)) := by
  obtain ⟨hlt, hk⟩ := Array.getElem?_eq_some_iff.1 h
  show (W.heap.modify B _)[B]? = _
  rw [Array.getElem?_eq_getElem (by rw [Array.size_modify]; exact hlt), Array.getElem_modify_self, hk]
  rfl
theorem set2_1 {W : World} {B : Nat} {t : TypeId} {u v : Value} (v' : Value) (h : W.heap[B]? = some (.cells #[u, v] t (0, 0))) : (W.setCell ⟨B, 1, none⟩ v').heap[B]? = some (.cells #[u, v'] t (0, 0)) := by
  obtain ⟨hlt, hk⟩ := Array.getElem?_eq_some_iff.1 h
  show (W.heap.modify B _)[B]? = _
  rw [Array.getElem?_eq_getElem (by rw [Array.size_modify]; exact hlt), Array.getElem_modify_self, hk]
  rfl
theorem cell2_0 {W : World} {B : Nat} {t : TypeId} {u v : Value} (h : W.heap[B]? = some (.cells #[u, v] t (0, 0))) : W.cell? ⟨B, 0, none⟩ = some u := by simp [World.cell?, h]
theorem cell2_1 {W : World} {B : Nat} {t : TypeId} {u v : Value} (h : W.heap[B]? = some (.cells #[u, v] t (0, 0))) : W.cell? ⟨B, 1, none⟩ = some v := by simp [World.cell?, h]
theorem frozen2 {W : World} {B i : Nat} {t : TypeId} {u v : Value} (h : W.heap[B]? = some (.cells #[u, v] t (0, 0))) : W.frozen? ⟨B, i, none⟩ = false := by simp [World.frozen?, h]
theorem lt_of_heap {W : World} {B : Nat} {o : Obj} (h : W.heap[B]? = some o) : B < W.heap.size := (Array.getElem?_eq_some_iff.1 h).1

end Go.Proofs.YtfeljjlpdefnmaaGreat

namespace Go.Proofs.YtfeljjlpdefnmaaGreat
open Go.RowKit
set_option linter.unusedVariables false
set_option linter.unusedSimpArgs false

theorem own_ge {W : World} {base : Nat} {e : TypeId} {size n : Nat} {v : Value} {xs : List Value} (h : W.ownsRow base e size v n xs) {k : Nat} (hk : k < base) : some k ≠ v.ownBlock := by
  rcases h.2 with ⟨rfl, _⟩ | ⟨g, cap, cur, rfl, hb, _⟩
  · simp [Value.ownBlock]
  · intro e'
    simp [Value.ownBlock] at e'
    omega
theorem own_touchL {X : Nat → Prop} {W W' : World} {base : Nat} {e : TypeId} {size n : Nat} {v : Value} {xs : List Value} (h : W.ownsRow base e size v n xs) (t : Touch X W W') (hX : ∀ k, v.ownBlock = some k → ¬ X k) : W'.ownsRow base e size v n xs := by
  refine ⟨h.1, ?_⟩
  rcases h.2 with h | ⟨g, cap, cur, rfl, h2, h3, h4⟩
  · exact .inl h
  · exact .inr ⟨g, cap, cur, rfl, h2, (t.block g (lt_of_heap h3) (hX g rfl)).trans h3, h4⟩
theorem own_lower {W : World} {base base' : Nat} {e : TypeId} {size n : Nat} {v : Value} {xs : List Value} (h : W.ownsRow base e size v n xs) (hb : base' ≤ base) : W.ownsRow base' e size v n xs := by
  refine ⟨h.1, ?_⟩
  rcases h.2 with h | ⟨g, cap, cur, h1, h2, h3⟩
  · exact .inl h
  · exact .inr ⟨g, cap, cur, h1, by omega, h3⟩

theorem own_lt {W : World} {base : Nat} {e : TypeId} {size n : Nat} {v : Value} {xs : List Value} (h : W.ownsRow base e size v n xs) {k : Nat} (hk : v.ownBlock = some k) : k < W.heap.size := by
  rcases h.2 with ⟨rfl, _⟩ | ⟨g, cap, cur, rfl, hb, hg, _⟩
  · cases hk
  · simp [Value.ownBlock] at hk; subst hk; exact lt_of_heap hg

/-- Two rows of elements of two types lie apart. -/
theorem own_apart {W : World} {b1 b2 : Nat} {e1 e2 : TypeId} {z1 z2 n1 n2 : Nat} {v1 v2 : Value} {xs1 xs2 : List Value} (h1 : W.ownsRow b1 e1 z1 v1 n1 xs1) (h2 : W.ownsRow b2 e2 z2 v2 n2 xs2) (hne : e1 ≠ e2) : v1.ownBlock = none ∨ v1.ownBlock ≠ v2.ownBlock := by
  rcases h1.2 with ⟨rfl, _⟩ | ⟨g, cap, cur, rfl, _, hg, _⟩
  · exact .inl rfl
  · refine .inr (fun e => ?_)
    rcases h2.2 with ⟨rfl, _⟩ | ⟨g2, cap2, cur2, rfl, _, hg2, _⟩
    · cases e
    · have : g = g2 := by simpa [Value.ownBlock] using e
      subst this
      rw [hg] at hg2
      injection hg2 with hg2
      injection hg2 with _ ht
      exact hne ht


theorem grow_touch {W W' : World} {base : Nat} {e : TypeId} {size n : Nat} {v : Value} {xs : List Value} (h : W.ownsRow base e size v n xs) (hg : W.grownBy W' v.ownBlock) : Touch (fun k => base ≤ k) W W' :=
  ⟨hg.os, hg.tape, hg.output, hg.size, fun k hk hx => hg.block k hk (own_ge h (by omega))⟩

end Go.Proofs.YtfeljjlpdefnmaaGreat

namespace Go.Proofs.YtfeljjlpdefnmaaGreat
open Go
set_option linter.unusedVariables false

variable {P : Program}
theorem wpList_wanted {ops : Array Oper} {rest : List Oper} {o : Oper} {a : Act} {w : World} {Q : Exit → Act → World → Prop} (hw : Region.wanted o (yielded ops a.tmps) = true)
    (h : ∀ K : Act → World → Prop, (∀ a w, wpList P ops Q rest a w → K a w) → o.wp P a w K Q) : wpList P ops Q (o :: rest) a w :=
  wpList_step fun K hK => by rw [if_pos hw]; exact h K hK

theorem wpList_app {w : World} {ops : Array Oper} {rest : List Oper} {o : Oper} {a : Act} {Q : Exit → Act → World → Prop} (hw : Region.wanted o (yielded ops a.tmps) = true) (s x : Operand) (t : TypeId)
    (ho : o.op = .call { callee := .builtin .append, args := #[s, x], argTypes := #[t, t] })
    (base : Nat) (e : TypeId) (i : TypeInfo) (z : Value) (size bytes : Nat) (ht : P.underlying t = some (.slice e)) (hi : P.info? e = some i) (hz : i.zero = some z)
    (hsize : i.size = size) (hby : i.bytes = bytes) (hzs : z.cells.size = size) (hsz : 0 < size)
    (v : Value) (n : Nat) (xs : List Value) (hs : a.eval s = v) (hown : w.ownsRow base e size v n xs)
    (ad : Addr) (m c : Nat) (news : List Value) (hx : a.eval x = .slice (some ad) m c) (hl : news.length = m * size) (hnews : ∀ j u, news[j]? = some u → w.cell? (ad.add j) = some u) (h1 : ∀ u ∈ news, u.oneCell' = true)
    (h63 : n + m ≤ maxLen) (hbytes : (n + m) * bytes ≤ 140737488355328) (hbase : base ≤ w.heap.size)
    (h : ∀ v' w', w'.ownsRow base e size v' (n + m) (xs ++ news) → w.grownBy w' v.ownBlock → wpList P ops Q rest (a.put o.dst v') w') : wpList P ops Q (o :: rest) a w := by
  refine wpList_wanted hw fun K hK => ?_
  obtain ⟨v', w', hr, h2, h3, h4, h5⟩ := run_append_own_at (P := P) w base t o.type e i z size bytes ht hi hz hsize hby hzs hsz v n xs hown ad m c news hl hnews h1 h63 hbytes hbase
  unfold Oper.wp execOp
  simp only [ho, resolve, invoke, builtin, Sem.run_bind, Sem.run_pure, Result.andThen_ok, List.map_toArray, List.map_cons, List.map_nil, hs, hx, hr]
  exact hK _ _ (h v' w' h2 h3)

theorem wpList_app_none {w : World} {ops : Array Oper} {rest : List Oper} {o : Oper} {a : Act} {Q : Exit → Act → World → Prop} (hw : Region.wanted o (yielded ops a.tmps) = true) (s x : Operand) (t : TypeId)
    (ho : o.op = .call { callee := .builtin .append, args := #[s, x], argTypes := #[t, t] })
    (base : Nat) (e : TypeId) (i : TypeInfo) (size : Nat) (ht : P.underlying t = some (.slice e)) (hi : P.info? e = some i)
    (v : Value) (n : Nat) (xs : List Value) (hs : a.eval s = v) (hown : w.ownsRow base e size v n xs) (hx : a.eval x = .slice none 0 0)
    (h : wpList P ops Q rest (a.put o.dst v) w) : wpList P ops Q (o :: rest) a w := by
  refine wpList_wanted hw fun K hK => ?_
  have hrun := run_append_owned_none (P := P) (w := w) base t o.type e i size ht hi v n xs hown
  unfold Oper.wp
  simp [execOp, ho, resolve, invoke, builtin, hs, hx, hrun, Result.andThen]
  exact hK _ _ h

/-- .. whatever slice it is that is appended: its cells hold news; the nil one: there are none. -/
theorem wpList_app_any {w : World} {ops : Array Oper} {rest : List Oper} {o : Oper} {a : Act} {Q : Exit → Act → World → Prop} (hw : Region.wanted o (yielded ops a.tmps) = true) (s x : Operand) (t : TypeId)
    (ho : o.op = .call { callee := .builtin .append, args := #[s, x], argTypes := #[t, t] })
    (base : Nat) (e : TypeId) (i : TypeInfo) (z : Value) (bytes : Nat) (ht : P.underlying t = some (.slice e)) (hi : P.info? e = some i) (hz : i.zero = some z)
    (hsize : i.size = 1) (hby : i.bytes = bytes) (hzs : z.cells.size = 1)
    (v : Value) (n : Nat) (xs : List Value) (hs : a.eval s = v) (hown : w.ownsRow base e 1 v n xs)
    (X : Value) (base' : Nat) (m : Nat) (news : List Value) (hx : a.eval x = X) (hX : w.ownsRow base' e 1 X m news) (h1 : ∀ u ∈ news, u.oneCell' = true)
    (h63 : n + m ≤ maxLen) (hbytes : (n + m) * bytes ≤ 140737488355328) (hbase : base ≤ w.heap.size)
    (h : ∀ v' w', w'.ownsRow base e 1 v' (n + m) (xs ++ news) → w.grownBy w' v.ownBlock → wpList P ops Q rest (a.put o.dst v') w') : wpList P ops Q (o :: rest) a w := by
  have hlen := hX.1
  rcases hX.2 with ⟨rfl, hz0⟩ | ⟨g, cap, cur, rfl, _, hgb, _⟩
  · subst hz0
    obtain rfl : news = [] := List.eq_nil_of_length_eq_zero (by simpa using hlen)
    exact wpList_app_none hw s x t ho base e i 1 ht hi v n xs hs hown hx (h v w (by simpa using hown) ⟨rfl, rfl, rfl, Nat.le_refl _, fun _ _ _ => rfl⟩)
  · exact wpList_app hw s x t ho base e i z 1 bytes ht hi hz hsize hby hzs (by decide) v n xs hs hown ⟨g, 0, none⟩ m cap news hx (by simpa using hlen) (hX.cells rfl) h1 h63 hbytes hbase h

end Go.Proofs.YtfeljjlpdefnmaaGreat

namespace Go.Proofs.YtfeljjlpdefnmaaGreat
open Go.RowKit
set_option linter.unusedVariables false
set_option linter.unusedSimpArgs false

variable {P : Program}

theorem calls_of_wp_marks {f : FuncId} {fn : Func} {c : Code} {args : Array Value} {w : World} {R : Ending → World → Prop}
    (hf : P.funcs[f]? = some fn) (hb : fn.body = some c)
    (h : c.wp P (bodyPostM Fence.wide 8 P fn R) { tmps := args ++ Array.replicate (fn.ntmps - args.size) undef, defers := [] } w) : Calls P f args w R :=
  callsIn_wide.1 (callsIn_of_wp_marks hf hb trivial (wpIn_wide.2 h) rfl)

/-- The end of a function one of whose loops went over an iterator. -/
theorem post_mark {fn : Func} {R : Ending → World → Prop} {a : Act} {W : World} {D : Nat} {v : Value} (hd : a.defers = [{ target := .collected D, args := #[] }]) (hK : W.heap[D]? = some (.deferred (some [])))
    (hr : (results fn a.tmps).run P (W.putObj D (.deferred none)) = .ok v (W.putObj D (.deferred none))) (hR : R (.returned v) (W.putObj D (.deferred none))) : bodyPostM Fence.wide 8 P fn R .ret a W := by
  show LeavesInM Fence.wide 8 P fn a.tmps R a.defers .returning W
  rw [hd]
  exact ⟨by simp, .inl ⟨_, _, rfl, run_takeDeferred hK, ⟨v, hr, hR⟩⟩⟩

/-- .. where no such loop was met on the way. -/
theorem post_nomark {fn : Func} {R : Ending → World → Prop} {a : Act} {W : World} {v : Value} (hd : a.defers = [])
    (hr : (results fn a.tmps).run P W = .ok v W) (hR : R (.returned v) W) : bodyPostM Fence.wide 8 P fn R .ret a W := by
  show LeavesInM Fence.wide 8 P fn a.tmps R a.defers .returning W
  rw [hd]
  exact ⟨v, hr, hR⟩

/-- Below block n₀ all but the blocks X lie as they lay: what a loop's body keeps. -/
def KeepX (n₀ : Nat) (X : Nat → Prop) (W W' : World) : Prop := ∀ k, k < n₀ → ¬ X k → W'.heap[k]? = W.heap[k]?

section
variable {n₀ : Nat} {X : Nat → Prop} {A B C : World}
theorem KeepX.refl (A : World) : KeepX n₀ X A A := fun _ _ _ => rfl
theorem KeepX.trans (h : KeepX n₀ X A B) (k : KeepX n₀ X B C) : KeepX n₀ X A C := fun i hi hx => (k i hi hx).trans (h i hi hx)
theorem KeepX.below (h : Below n₀ A B) : KeepX n₀ X A B := fun k hk _ => h.block k hk
theorem KeepX.mono {m : Nat} {Y : Nat → Prop} (h : KeepX n₀ X A B) (hm : m ≤ n₀) (hY : ∀ k, X k → Y k) : KeepX m Y A B := fun k hk hx => h k (by omega) (fun hx' => hx (hY k hx'))
theorem KeepX.put {w : World} (hn : n₀ ≤ w.heap.size) (W : World) (l : Nat) (o o' : Obj) (hl : w.heap.size ≤ l) (_ : W.heap[l]? = some o) (_ : o.isCells = false) (_ : o.isWalk = false) : KeepX n₀ X W (W.putObj l o') :=
  fun k hk _ => World.putObj_heap_other (by omega)
theorem KeepX.alloc (h : KeepX n₀ X A B) (hn : n₀ ≤ B.heap.size) (o : Obj) : KeepX n₀ X A (B.alloc o) := h.trans fun k hk _ => Below.heap_alloc B o k (by omega)
theorem KeepX.drew (h : KeepX n₀ X A B) : KeepX n₀ X A B.drew := h
theorem KeepX.drewN (h : KeepX n₀ X A B) (n : Nat) : KeepX n₀ X A (B.drewN n) := h
theorem KeepX.setCell (h : KeepX n₀ X A B) {p : Addr} (hp : X p.block ∨ n₀ ≤ p.block) (u : Value) : KeepX n₀ X A (B.setCell p u) :=
  h.trans fun k hk hx => Below.heap_setCell B p u k (by rintro rfl; rcases hp with hp | hp <;> first | exact hx hp | omega)
theorem KeepX.cell (h : KeepX n₀ X A B) {p : Addr} (hp : p.block < n₀) (hx : ¬ X p.block) : B.cell? p = A.cell? p := World.cell?_of_block (h p.block hp hx)
end

theorem wp_range {α : Type} {g : Operand} {ps : Array Tmp} {assign body : Code} {Q : Exit → Act → World → Prop} {a : Act} {w : World}
    {gf : Nat} {lb : Array Value} (hg : a.eval g = .func (.func gf) #[] lb) (eg : ∀ args w, (callFunc gf args).run P w = .ok (.enter gf args) w)
    {encs : α → Array Value} {n₀ : Nat} {X : Nat → Prop} {S Sp : List α → Prop} {N : Nat} {w0 : World} (hseq : SeqStopsK Fence.wide 7 P gf lb encs (KeepX n₀ X) S Sp N w0)
    (hn : n₀ ≤ w.heap.size) (hb0 : Below w0.heap.size w0 w) (hps : ∀ x, (encs x).size = ps.size)
    (I : List α → World → Prop) (Ix : Code → List α → World → Prop) (hI : OwnFrom w.heap.size I) (hIx : ∀ c, OwnFrom w.heap.size (Ix c)) (h0 : I [] w) (a₁ : α → Act)
    (hassign : ∀ (l : Nat) (x : α) (W : World) (K : Act → World → Prop), K (a₁ x) W →
      assign.wpIn (Fence.wide.inRound l) 6 P (Exit.then K (fun _ _ _ => False)) { tmps := (ps.zip (encs x)).foldl (fun t (p, v) => t.setIfInBounds p v) a.tmps, defers := [] } W)
    (hbody : ∀ (l : Nat) (pre : List α) (x : α) (W : World), I pre W → pre.length < N → body.wpIn (Fence.wide.inRound l) 6 P (ownPostG w.heap.size (KeepX n₀ X) I Ix (pre ++ [x]) W) (a₁ x) W)
    (hdone : ∀ (D : Nat) (xs : List α) (W : World), w.heap.size ≤ D → S xs → I xs W → W.heap[D]? = some (.deferred (some [])) → Q .normal { a with defers := { target := .collected D, args := #[] } :: a.defers } W)
    (hstop : ∀ (D : Nat) (c : Code) (pre : List α) (W : World), w.heap.size ≤ D → Sp pre → Ix c pre W → W.heap[D]? = some (.deferred (some [])) → c.wp P Q { a with defers := { target := .collected D, args := #[] } :: a.defers } W) :
    (Code.rangeFunc g ps assign body).wp P Q a w :=
  wpIn_wide.1 (wpIn_rangeFunc_ownG (n := 8) rfl (by decide) hg trivial eg hseq (fun h k => KeepX.trans h k) (KeepX.put hn) hb0 hps I Ix hI hIx h0 a₁ hassign hbody hdone
    (fun D c pre W hD hS hI hK => wpIn_wide.2 (hstop D c pre W hD hS hI hK)))

/-- A plain contract, met in a round. -/
theorem inRound {n : Nat} {f : FuncId} {args : Array Value} {w : World} {R : Ending → World → Prop} (l : Nat) (h : Calls P f args w R) : CallsIn (Fence.wide.inRound l) n P f args w R :=
  CallsIn.inRound l (callsIn_wide.2 h)
theorem inWide {n : Nat} {f : FuncId} {args : Array Value} {w : World} {R : Ending → World → Prop} (h : Calls P f args w R) : CallsIn Fence.wide n P f args w R := callsIn_wide.2 h

theorem below_put {n₀ : Nat} {w W : World} {D : Nat} {o' : Obj} (h : Below n₀ w W) (hn : n₀ ≤ D) : Below n₀ w (W.putObj D o') :=
  h.trans ⟨rfl, rfl, rfl, by simp, fun k hk => World.putObj_heap_other (by omega)⟩

/-- What has come when k rounds are over: f 0, .., f (k - 1). -/
def upto {α : Type} (f : Nat → α) (k : Nat) : List α := (List.range k).map f
theorem upto_succ {α : Type} (f : Nat → α) (k : Nat) : upto f (k + 1) = upto f k ++ [f k] := by simp [upto, List.range_succ]
theorem upto_length {α : Type} (f : Nat → α) (k : Nat) : (upto f k).length = k := by simp [upto]
theorem mem_upto {α : Type} (f : Nat → α) (k : Nat) (x : α) : x ∈ upto f k ↔ ∃ j, j < k ∧ f j = x := by simp [upto]

end Go.Proofs.YtfeljjlpdefnmaaGreat
