/-
  A range over a function, in the plain calculus of walks: the library's laws at the fence that lets all in.
-/
import Derived.RangeFuncNested
import Derived.RangeFuncBound
import Derived.RangeFuncCalls
import Derived.RangeFuncLeaves
import Derived.RangeFuncBox
import Derived.WalkKit
import Derived.OwnWalkIn
import Derived.TacticsInMore
import Derived.LoopNIn
import Derived.LoopIn
import Derived.Test.YtplcfijcmihhlaaDoorCommon
namespace Go.Proofs.YtplcfijcmihhlaaDoor
open Go.RowKit
set_option linter.unusedVariables false
set_option linter.unusedSimpArgs false

variable {P : Program}

theorem calls_of_wp_marks {f : FuncId} {fn : Func} {c : Code} {args : Array Value} {w : World} {R : Ending → World → Prop}
    (hf : P.funcs[f]? = some fn) (hb : fn.body = some c)
    (h : c.wp P (bodyPostM Fence.wide 8 P fn R) { tmps := args ++ Array.replicate (fn.ntmps - args.size) undef, defers := [] } w) : Calls P f args w R :=
  callsIn_wide.1 (callsIn_of_wp_marks hf hb trivial (wpIn_wide.2 h) rfl)

/-- The end of a function one of whose loops went over an iterator. -/
theorem post_mark {fn : Func} {R : Ending → World → Prop} {a : Act} {W : World} {D : Nat} {v : Value} (hd : a.defers = [{ target := .collected D, args := #[] }]) (hK : W.heap[D]? = some (.deferred (some [])))
    (hr : (results fn a.tmps).run P (W.putObj D (.deferred none)) = .ok v (W.putObj D (.deferred none))) (hR : R (.returned v) (W.putObj D (.deferred none))) : bodyPostM Fence.wide 8 P fn R .ret a W := by
  show LeavesInM Fence.wide 8 P fn a.tmps R a.defers .returning W
  rw [hd]
  exact ⟨by simp, .inl ⟨_, _, rfl, run_takeDeferred hK, ⟨v, hr, hR⟩⟩⟩

/-- .. where no such loop was met on the way. -/
theorem post_nomark {fn : Func} {R : Ending → World → Prop} {a : Act} {W : World} {v : Value} (hd : a.defers = [])
    (hr : (results fn a.tmps).run P W = .ok v W) (hR : R (.returned v) W) : bodyPostM Fence.wide 8 P fn R .ret a W := by
  show LeavesInM Fence.wide 8 P fn a.tmps R a.defers .returning W
  rw [hd]
  exact ⟨v, hr, hR⟩

/-- Below block n₀ all but the blocks X lie as they lay: what a loop's body keeps. -/
def KeepX (n₀ : Nat) (X : Nat → Prop) (W W' : World) : Prop := ∀ k, k < n₀ → ¬ X k → W'.heap[k]? = W.heap[k]?

section
variable {n₀ : Nat} {X : Nat → Prop} {A B C : World}
theorem KeepX.refl (A : World) : KeepX n₀ X A A := fun _ _ _ => rfl
theorem KeepX.trans (h : KeepX n₀ X A B) (k : KeepX n₀ X B C) : KeepX n₀ X A C := fun i hi hx => (k i hi hx).trans (h i hi hx)
theorem KeepX.below (h : Below n₀ A B) : KeepX n₀ X A B := fun k hk _ => h.block k hk
theorem KeepX.mono {m : Nat} {Y : Nat → Prop} (h : KeepX n₀ X A B) (hm : m ≤ n₀) (hY : ∀ k, X k → Y k) : KeepX m Y A B := fun k hk hx => h k (by omega) (fun hx' => hx (hY k hx'))
theorem KeepX.put {w : World} (hn : n₀ ≤ w.heap.size) (W : World) (l : Nat) (o o' : Obj) (hl : w.heap.size ≤ l) (_ : W.heap[l]? = some o) (_ : o.isCells = false) (_ : o.isWalk = false) : KeepX n₀ X W (W.putObj l o') :=
  fun k hk _ => World.putObj_heap_other (by omega)
theorem KeepX.alloc (h : KeepX n₀ X A B) (hn : n₀ ≤ B.heap.size) (o : Obj) : KeepX n₀ X A (B.alloc o) := h.trans fun k hk _ => Below.heap_alloc B o k (by omega)
theorem KeepX.drew (h : KeepX n₀ X A B) : KeepX n₀ X A B.drew := h
theorem KeepX.drewN (h : KeepX n₀ X A B) (n : Nat) : KeepX n₀ X A (B.drewN n) := h
theorem KeepX.setCell (h : KeepX n₀ X A B) {p : Addr} (hp : X p.block ∨ n₀ ≤ p.block) (u : Value) : KeepX n₀ X A (B.setCell p u) :=
  h.trans fun k hk hx => Below.heap_setCell B p u k (by rintro rfl; rcases hp with hp | hp <;> first | exact hx hp | omega)
theorem KeepX.cell (h : KeepX n₀ X A B) {p : Addr} (hp : p.block < n₀) (hx : ¬ X p.block) : B.cell? p = A.cell? p := World.cell?_of_block (h p.block hp hx)
end

theorem wp_range {α : Type} {g : Operand} {ps : Array Tmp} {assign body : Code} {Q : Exit → Act → World → Prop} {a : Act} {w : World}
    {gf : Nat} {lb : Array Value} (hg : a.eval g = .func (.func gf) #[] lb) (eg : ∀ args w, (callFunc gf args).run P w = .ok (.enter gf args) w)
    {encs : α → Array Value} {n₀ : Nat} {X : Nat → Prop} {S Sp : List α → Prop} {N : Nat} {w0 : World} (hseq : SeqStopsK Fence.wide 7 P gf lb encs (KeepX n₀ X) S Sp N w0)
    (hn : n₀ ≤ w.heap.size) (hb0 : Below w0.heap.size w0 w) (hps : ∀ x, (encs x).size = ps.size)
    (I : List α → World → Prop) (Ix : Code → List α → World → Prop) (hI : OwnFrom w.heap.size I) (hIx : ∀ c, OwnFrom w.heap.size (Ix c)) (h0 : I [] w) (a₁ : α → Act)
    (hassign : ∀ (l : Nat) (x : α) (W : World) (K : Act → World → Prop), K (a₁ x) W →
      assign.wpIn (Fence.wide.inRound l) 6 P (Exit.then K (fun _ _ _ => False)) { tmps := (ps.zip (encs x)).foldl (fun t (p, v) => t.setIfInBounds p v) a.tmps, defers := [] } W)
    (hbody : ∀ (l : Nat) (pre : List α) (x : α) (W : World), I pre W → pre.length < N → body.wpIn (Fence.wide.inRound l) 6 P (ownPostG w.heap.size (KeepX n₀ X) I Ix (pre ++ [x]) W) (a₁ x) W)
    (hdone : ∀ (D : Nat) (xs : List α) (W : World), w.heap.size ≤ D → S xs → I xs W → W.heap[D]? = some (.deferred (some [])) → Q .normal { a with defers := { target := .collected D, args := #[] } :: a.defers } W)
    (hstop : ∀ (D : Nat) (c : Code) (pre : List α) (W : World), w.heap.size ≤ D → Sp pre → Ix c pre W → W.heap[D]? = some (.deferred (some [])) → c.wp P Q { a with defers := { target := .collected D, args := #[] } :: a.defers } W) :
    (Code.rangeFunc g ps assign body).wp P Q a w :=
  wpIn_wide.1 (wpIn_rangeFunc_ownG (n := 8) rfl (by decide) hg trivial eg hseq (fun h k => KeepX.trans h k) (KeepX.put hn) hb0 hps I Ix hI hIx h0 a₁ hassign hbody hdone
    (fun D c pre W hD hS hI hK => wpIn_wide.2 (hstop D c pre W hD hS hI hK)))

/-- A plain contract, met in a round. -/
theorem inRound {n : Nat} {f : FuncId} {args : Array Value} {w : World} {R : Ending → World → Prop} (l : Nat) (h : Calls P f args w R) : CallsIn (Fence.wide.inRound l) n P f args w R :=
  CallsIn.inRound l (callsIn_wide.2 h)
theorem inWide {n : Nat} {f : FuncId} {args : Array Value} {w : World} {R : Ending → World → Prop} (h : Calls P f args w R) : CallsIn Fence.wide n P f args w R := callsIn_wide.2 h

theorem below_put {n₀ : Nat} {w W : World} {D : Nat} {o' : Obj} (h : Below n₀ w W) (hn : n₀ ≤ D) : Below n₀ w (W.putObj D o') :=
  h.trans ⟨rfl, rfl, rfl, by simp, fun k hk => World.putObj_heap_other (by omega)⟩

/-- What has come when k rounds are over: f 0, .., f (k - 1). -/
def upto {α : Type} (f : Nat → α) (k : Nat) : List α := (List.range k).map f
theorem upto_succ {α : Type} (f : Nat → α) (k : Nat) : upto f (k + 1) = upto f k ++ [f k] := by simp [upto, List.range_succ]
theorem upto_length {α : Type} (f : Nat → α) (k : Nat) : (upto f k).length = k := by simp [upto]
theorem mem_upto {α : Type} (f : Nat → α) (k : Nat) (x : α) : x ∈ upto f k ↔ ∃ j, j < k ∧ f j = x := by simp [upto]

end Go.Proofs.YtplcfijcmihhlaaDoor
