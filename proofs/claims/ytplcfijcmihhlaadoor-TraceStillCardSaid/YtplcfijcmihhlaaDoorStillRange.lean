/-
  For the law TraceStill: lists of events and of places in memory; the range over a function whose loop variable is boxed.
-/
import Derived.Test.YtplcfijcmihhlaaDoorTraceStill
import Derived.KernelRfl
namespace Go.Proofs.YtplcfijcmihhlaaDoor
open Go.RowKit Go.Shelf
set_option linter.unusedVariables false
set_option linter.unusedSimpArgs false
attribute [local go_sem] Oper.semAt_some

def EvV.cs (o : EvV) : List Value := [.int .i64 o.a, .int .i64 o.b, .int .i64 o.c, .int .i64 o.d, .int .i64 o.e, .int .i64 o.f, .int .i64 o.g]
def encEs (l : List EvV) : List Value := l.flatMap EvV.cs
abbrev ownsE (W : World) (base : Nat) (v : Value) (l : List EvV) : Prop := W.ownsRow base 33 7 v l.length (encEs l)
abbrev ownsP (W : World) (base : Nat) (v : Value) (l : List Nat) : Prop := W.ownsRow base 3 1 v l.length (l.map fun i => Value.int .i64 (i : Nat))

theorem encEs_snoc (l : List EvV) (x : EvV) : encEs (l ++ [x]) = encEs l ++ x.cs := by simp [encEs]

theorem encEs_at : ∀ (l : List EvV) (j : Nat), j < l.length → ∀ i, i < 7 → (encEs l)[j * 7 + i]? = (evAt l j).cs[i]?
  | x :: l, 0, _, i, hi => by
    show (x.cs ++ encEs l)[0 * 7 + i]? = _
    rw [List.getElem?_append_left (by show 0 * 7 + i < 7; omega), Nat.zero_mul, Nat.zero_add]
    rfl
  | x :: l, j + 1, h, i, hi => by
    have ih := encEs_at l j (by simpa using h) i hi
    show (x.cs ++ encEs l)[(j + 1) * 7 + i]? = _
    rw [List.getElem?_append_right (by show 7 ≤ (j + 1) * 7 + i; omega)]
    rw [show (j + 1) * 7 + i - x.cs.length = j * 7 + i by show (j + 1) * 7 + i - 7 = _; omega, ih]
    rfl

theorem ownsE_form {W : World} {base : Nat} {v : Value} {l : List EvV} (h : ownsE W base v l) : ∃ A cap, v = .slice A l.length cap ∧ l.length ≤ cap ∧ cap ≤ maxLen ∧
    ∀ j, j < l.length → ∃ g, A = some ⟨g, 0, none⟩ ∧ v.ownBlock = some g ∧ base ≤ g ∧ g < W.heap.size ∧ EvAt W g (0 + j * 7) (evAt l j) := by
  rcases h.2 with ⟨rfl, hz⟩ | ⟨g, cap, cur, rfl, hb, hg, r1, r2, r3, r4⟩
  · exact ⟨none, 0, by rw [hz], by omega, by unfold maxLen; omega, fun j hj => by omega⟩
  · refine ⟨some ⟨g, 0, none⟩, cap, rfl, r1, r2, fun j hj => ⟨g, rfl, rfl, hb, lt_of_heap hg, ?_⟩⟩
    have k : ∀ i u, i < 7 → (evAt l j).cs[i]? = some u → W.cell? ⟨g, j * 7 + i, none⟩ = some u := fun i u hi hu => by
      have := h.cells (g := g) rfl (j * 7 + i) u ((encEs_at l j hj i hi).trans hu)
      rw [WideShapes.add_plain, Nat.zero_add] at this
      exact this
    rw [Nat.zero_add]
    exact ⟨k 0 _ (by decide) rfl, k 1 _ (by decide) rfl, k 2 _ (by decide) rfl, k 3 _ (by decide) rfl, k 4 _ (by decide) rfl, k 5 _ (by decide) rfl, k 6 _ (by decide) rfl⟩

theorem ownsP_form {W : World} {base : Nat} {v : Value} {l : List Nat} (h : ownsP W base v l) : ∃ A cap, v = .slice A l.length cap ∧ l.length ≤ cap ∧ cap ≤ maxLen ∧
    ∀ j, j < l.length → ∃ g, A = some ⟨g, 0, none⟩ ∧ v.ownBlock = some g ∧ base ≤ g ∧ g < W.heap.size ∧ W.cell? ⟨g, j, none⟩ = some (.int .i64 (l[j]?.getD 0 : Nat)) := by
  rcases h.2 with ⟨rfl, hz⟩ | ⟨g, cap, cur, rfl, hb, hg, r1, r2, r3, r4⟩
  · exact ⟨none, 0, by rw [hz], by omega, by unfold maxLen; omega, fun j hj => by omega⟩
  · refine ⟨some ⟨g, 0, none⟩, cap, rfl, r1, r2, fun j hj => ⟨g, rfl, rfl, hb, lt_of_heap hg, ?_⟩⟩
    have := h.cells (g := g) rfl j (.int .i64 (l[j]?.getD 0 : Nat)) (by rw [List.getElem?_map, List.getElem?_eq_getElem hj]; rfl)
    rw [WideShapes.add_plain, Nat.zero_add] at this
    exact this

/-- A range over a function in the plain calculus, whose loop variable lies in a box of its own. -/
theorem wp_rangeH {P : Program} {α : Type} {g : Operand} {ps : Array Tmp} {assign body : Code} {Q : Exit → Act → World → Prop} {a : Act} {w : World} {Kp : World → World → Prop}
    (hKt : ∀ {A B C : World}, Kp A B → Kp B C → Kp A C) (hKb : ∀ (W : World) (l : Nat) (o o' : Obj), w.heap.size ≤ l → W.heap[l]? = some o → o.isCells = false → o.isWalk = false → Kp W (W.putObj l o'))
    {gf : Nat} {lb : Array Value} (hg : a.eval g = .func (.func gf) #[] lb) (eg : ∀ args w, (callFunc gf args).run P w = .ok (.enter gf args) w)
    {encs : α → Array Value} {S Sp : List α → Prop} {N : Nat} {w0 : World} (hseq : SeqStopsK Fence.wide 7 P gf lb encs Kp S Sp N w0)
    (hb0 : Below w0.heap.size w0 w) (hps : ∀ x, (encs x).size = ps.size)
    (I : List α → World → Prop) (Ix : Code → List α → World → Prop) (hI : OwnFrom w.heap.size I) (hIx : ∀ c, OwnFrom w.heap.size (Ix c)) (h0 : I [] w)
    (Ax : α → Act → World → Prop) (hAx : ∀ x a', OwnFrom w.heap.size (fun (_ : Unit) W => Ax x a' W))
    (hassign : ∀ (l : Nat) (pre : List α) (x : α) (W : World) (K : Act → World → Prop), I pre W → (∀ a' W', KeepsFrom w.heap.size W W' → Kp W W' → I pre W' → Ax x a' W' → K a' W') →
      assign.wpIn (Fence.wide.inRound l) 6 P (Exit.then K (fun _ _ _ => False)) { tmps := (ps.zip (encs x)).foldl (fun t (p, v) => t.setIfInBounds p v) a.tmps, defers := [] } W)
    (hbody : ∀ (l : Nat) (pre : List α) (x : α) (a' : Act) (W : World), I pre W → Ax x a' W → pre.length < N → body.wpIn (Fence.wide.inRound l) 6 P (ownPostG w.heap.size Kp I Ix (pre ++ [x]) W) a' W)
    (hdone : ∀ (D : Nat) (xs : List α) (W : World), w.heap.size ≤ D → S xs → I xs W → W.heap[D]? = some (.deferred (some [])) → Q .normal { a with defers := { target := .collected D, args := #[] } :: a.defers } W)
    (hstop : ∀ (D : Nat) (c : Code) (pre : List α) (W : World), w.heap.size ≤ D → Sp pre → Ix c pre W → W.heap[D]? = some (.deferred (some [])) → c.wp P Q { a with defers := { target := .collected D, args := #[] } :: a.defers } W) :
    (Code.rangeFunc g ps assign body).wp P Q a w :=
  wpIn_wide.1 (wpIn_rangeFunc_ownH (n := 8) rfl (by decide) hg trivial eg hseq hKt hKb hb0 hps I Ix hI hIx h0 Ax hAx hassign (fun l pre x a' W _ _ hi ha hl => hbody l pre x a' W hi ha hl) hdone
    (fun D c pre W hD hS hI hK => wpIn_wide.2 (hstop D c pre W hD hS hI hK)))

/-- What holds in the loop over the events that move: as many have come as n says, each at its place. -/
def StE (ps : List Nat) (stop : Int) (N : Nat) (w : World) (pre : List Nat) (W : World) : Prop :=
  pre <+: ps ∧ (pre.length : Int) ≤ stop ∧ Boxed W N 3 (.int .i64 pre.length) ∧ Touch (fun k => k = N) w W
theorem StE.own {ps : List Nat} {stop : Int} {N : Nat} {w : World} (hN : N < w.heap.size) : OwnFrom w.heap.size (StE ps stop N w) := by
  intro pre W W' row ⟨h1, h2, h3, h4⟩ hg hr
  have hlow : ∀ k, k < w.heap.size → k < W.heap.size → W'.heap[k]? = W.heap[k]? := fun k hk hk2 => hg.block k hk2 (fun e => by have := (hr k e.symm).1; omega)
  exact ⟨h1, h2, (hlow N hN h3.lt).trans h3, ⟨hg.os.trans h4.os, hg.tape.trans h4.tape, hg.output.trans h4.output, Nat.le_trans h4.size hg.size, fun k hk hx => (hlow k hk (by have := h4.size; omega)).trans (h4.block k hk hx)⟩⟩

theorem keepsFrom_set (B : Nat) (W : World) {p : Addr} (hp : p.block < B) (u : Value) : KeepsFrom B W (W.setCell p u) :=
  ⟨by show W.heap.size ≤ (W.heap.modify _ _).size; rw [Array.size_modify]; exact Nat.le_refl _, fun i o hB hi ho => (Below.heap_setCell W p u i (by omega)).trans hi⟩
theorem prefix_at {ids pre : List Nat} {x : Nat} (h : pre ++ [x] <+: ids) : ∃ hl : pre.length < ids.length, ids[pre.length] = x := by
  obtain ⟨tl, rfl⟩ := h
  exact ⟨by simp, by simp⟩
theorem prefix_not {ids pre : List Nat} {x : Nat} (h : pre <+: ids) (hl : pre.length < ids.length) (he : ids[pre.length] = x) : pre ++ [x] <+: ids := by
  obtain ⟨tl, rfl⟩ := h
  cases tl with
  | nil => simp at hl
  | cons y tl => simp at he; subst he; exact ⟨tl, by simp⟩
theorem mvs_prefix (L : List EvV) : ∀ (n j : Nat), mvs L j <+: mvs L (j + n)
  | 0, j => List.prefix_refl _
  | n + 1, j => by
    rw [← Nat.add_assoc, mvs_succ]
    exact (mvs_prefix L n j).trans (List.prefix_append _ _)
theorem mvs_mem (L : List EvV) (j x : Nat) (h : x ∈ mvs L j) : x < j := by
  unfold mvs at h
  exact List.mem_range.1 (List.mem_filter.1 h).1
theorem Tryd.neq_nilFunc (fn : Fn) (xs ys : Array Value) (w : World) : (binOp .neq 37 (.func fn xs ys) .nilFunc).run Tryd.prog w = .ok (.bool true) w := by kernel_rfl

end Go.Proofs.YtplcfijcmihhlaaDoor
