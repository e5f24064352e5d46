/-
  The walk of trace's Moves: an iterator over the events that are not still.
-/
import Derived.Test.YtplcfijcmihhlaaDoorLongest
import Derived.Test.YtplcfijcmihhlaaDoorRange
import Derived.Shelf.Abstract
namespace Go.Proofs.YtplcfijcmihhlaaDoor
open Go.RowKit Go.Shelf
set_option linter.unusedVariables false
set_option linter.unusedSimpArgs false
attribute [local go_sem] Oper.semAt_some

/-- A range over a function in the plain calculus, whatever the body keeps. -/
theorem wp_rangeK {P : Program} {α : Type} {g : Operand} {ps : Array Tmp} {assign body : Code} {Q : Exit → Act → World → Prop} {a : Act} {w : World} {Kp : World → World → Prop}
    (hKt : ∀ {A B C : World}, Kp A B → Kp B C → Kp A C) (hKb : ∀ (W : World) (l : Nat) (o o' : Obj), w.heap.size ≤ l → W.heap[l]? = some o → o.isCells = false → o.isWalk = false → Kp W (W.putObj l o'))
    {gf : Nat} {lb : Array Value} (hg : a.eval g = .func (.func gf) #[] lb) (eg : ∀ args w, (callFunc gf args).run P w = .ok (.enter gf args) w)
    {encs : α → Array Value} {S Sp : List α → Prop} {N : Nat} {w0 : World} (hseq : SeqStopsK Fence.wide 7 P gf lb encs Kp S Sp N w0)
    (hb0 : Below w0.heap.size w0 w) (hps : ∀ x, (encs x).size = ps.size)
    (I : List α → World → Prop) (Ix : Code → List α → World → Prop) (hI : OwnFrom w.heap.size I) (hIx : ∀ c, OwnFrom w.heap.size (Ix c)) (h0 : I [] w) (a₁ : α → Act)
    (hassign : ∀ (l : Nat) (x : α) (W : World) (K : Act → World → Prop), K (a₁ x) W →
      assign.wpIn (Fence.wide.inRound l) 6 P (Exit.then K (fun _ _ _ => False)) { tmps := (ps.zip (encs x)).foldl (fun t (p, v) => t.setIfInBounds p v) a.tmps, defers := [] } W)
    (hbody : ∀ (l : Nat) (pre : List α) (x : α) (W : World), I pre W → pre.length < N → body.wpIn (Fence.wide.inRound l) 6 P (ownPostG w.heap.size Kp I Ix (pre ++ [x]) W) (a₁ x) W)
    (hdone : ∀ (D : Nat) (xs : List α) (W : World), w.heap.size ≤ D → S xs → I xs W → W.heap[D]? = some (.deferred (some [])) → Q .normal { a with defers := { target := .collected D, args := #[] } :: a.defers } W)
    (hstop : ∀ (D : Nat) (c : Code) (pre : List α) (W : World), w.heap.size ≤ D → Sp pre → Ix c pre W → W.heap[D]? = some (.deferred (some [])) → c.wp P Q { a with defers := { target := .collected D, args := #[] } :: a.defers } W) :
    (Code.rangeFunc g ps assign body).wp P Q a w :=
  wpIn_wide.1 (wpIn_rangeFunc_ownG (n := 8) rfl (by decide) hg trivial eg hseq hKt hKb hb0 hps I Ix hI hIx h0 a₁ hassign hbody hdone
    (fun D c pre W hD hS hI hK => wpIn_wide.2 (hstop D c pre W hD hS hI hK)))

/-- What a loop's body keeps, and that no memory is lost. -/
def KeepS (n₀ : Nat) (X : Nat → Prop) (W W' : World) : Prop := W.heap.size ≤ W'.heap.size ∧ KeepX n₀ X W W'
theorem KeepS.trans {n₀ : Nat} {X : Nat → Prop} {A B C : World} (h : KeepS n₀ X A B) (k : KeepS n₀ X B C) : KeepS n₀ X A C := ⟨Nat.le_trans h.1 k.1, h.2.trans k.2⟩
theorem KeepS.put {n₀ : Nat} {X : Nat → Prop} {w : World} (hn : n₀ ≤ w.heap.size) (W : World) (l : Nat) (o o' : Obj) (hl : w.heap.size ≤ l) (h1 : W.heap[l]? = some o) (h2 : o.isCells = false) (h3 : o.isWalk = false) : KeepS n₀ X W (W.putObj l o') :=
  ⟨by simp, KeepX.put hn W l o o' hl h1 h2 h3⟩

def evAt (L : List EvV) (i : Nat) : EvV := L[i]?.getD default
/-- The places below j of the events that move. -/
def mvs (L : List EvV) (j : Nat) : List Nat := (List.range j).filter fun i => !(evAt L i).isStill
theorem mvs_succ (L : List EvV) (j : Nat) : mvs L (j + 1) = mvs L j ++ (if (evAt L j).isStill = true then [] else [j]) := by
  unfold mvs
  rw [List.range_succ, List.filter_append]
  cases h : (evAt L j).isStill <;> simp [List.filter, h]
theorem mvs_len (L : List EvV) (j : Nat) : (mvs L j).length ≤ j := by
  have := List.length_filter_le (fun i => !(evAt L i).isStill) (List.range j)
  simpa [mvs] using this

def encE (L : List EvV) (i : Nat) : Array Value := #[.int .i64 i, .agg (evAt L i).arr]

/-- What is read of a list of events, below block n₀ and outside X. -/
def EvRow (W : World) (n₀ : Nat) (X : Nat → Prop) (A : Option Addr) (L : List EvV) : Prop :=
  L ≠ [] → ∃ b off, A = some ⟨b, off, none⟩ ∧ b < n₀ ∧ ¬ X b ∧ ∀ j, j < L.length → EvAt W b (off + j * 7) (evAt L j)

set_option maxRecDepth 100000 in
set_option maxHeartbeats 2000000 in
theorem moves1_in (l Bp n₀ : Nat) (X : Nat → Prop) (A : Option Addr) (cap : Nat) (L : List EvV) (hlc : L.length ≤ cap) (hcap : cap ≤ maxLen) (J Jx : List Nat → World → Prop) (W : World)
    (hn : n₀ ≤ W.heap.size) (hJ : AbidesFrom W.heap.size J)
    (hY : ∀ pre x W, J pre W → pre.length < L.length → YieldAt Fence.wide 6 Tryd.prog l (encE L x) W fun e W' =>
      (e = .returned (.bool true) ∧ J (pre ++ [x]) W' ∧ KeepS n₀ X W W') ∨ (e = .returned (.bool false) ∧ Jx (pre ++ [x]) W'))
    (hBp : Bp < n₀) (hXp : ¬ X Bp) (hcp : W.cell? ⟨Bp, 0, none⟩ = some (.slice A L.length cap)) (hrow : EvRow W n₀ X A L) (h0 : J [] W) :
    CallsIn Fence.wide 7 Tryd.prog 41 #[.func (.yield l) #[] #[], .pointer (some ⟨Bp, 0, none⟩)] W fun e W' => (∃ v, e = .returned v) ∧
      ((∃ ys, ys = mvs L L.length ∧ J ys W') ∨ (∃ pre, (∃ j, j < L.length ∧ (evAt L j).isStill = false ∧ pre = mvs L (j + 1)) ∧ Jx pre W')) := by
  refine callsIn_of_wp Tryd.func41 rfl trivial ?_ rfl
  simp only [Tryd.ntmps41, List.size_toArray, List.length_cons, List.length_nil, Nat.reduceAdd, Nat.reduceSub, Array.replicate_succ, Array.replicate_zero, List.push_toArray, List.append_toArray, List.nil_append, List.cons_append]
  unfold maxLen at hcap
  gi_wp2_with fail
  gi_loopw [7] (fun i wr => ∃ j : Nat, j ≤ L.length ∧ i = .int .i64 j ∧ Hid (J (mvs L j) wr) ∧ Hid (KeepX n₀ X W wr) ∧ W.heap.size ≤ wr.heap.size) (fun i _ => L.length - (intOf i).toNat)
  case atStart => exact ⟨0, Nat.zero_le _, rfl, Lib.hid h0, Lib.hid (KeepX.refl _), Nat.le_refl _⟩
  case round =>
    obtain ⟨j, hj, rfl, hJs, hK, hsz⟩ := hrel
    by_cases hlt : j < L.length
    · obtain ⟨b, off, rfl, hb, hXb, hc⟩ := hrow (by rintro rfl; simp at hlt)
      have hx := (hc j hlt).keep (hK.out b hb hXb)
      have Hm := Lib.hid (mvs_succ L j)
      have Hy := fun W hJ => hY (mvs L j) j W hJ (Nat.lt_of_le_of_lt (mvs_len L j) hlt)
      unfold encE at Hy
      clear hc
      have hs := fun W => Lib.hid (inWide (n := 6) (still_any (evAt L j) W))
      generalize hxe : evAt L j = x at *
      have Hxe := Lib.hid hxe
      clear hxe
      obtain ⟨x0, x1, x2, x3, x4, x5, x6⟩ := hx
      unfold EvV.arr at hs Hy
      have Hal := Lib.hid (hJ (mvs L j) wr (wr.alloc (.cells x.arr 33)) none hJs.out ⟨rfl, rfl, rfl, by simp, fun k hk _ => Below.heap_alloc _ _ _ hk⟩ (fun r e => by cases e))
      have bx := heap_alloc_new wr (.cells x.arr 33)
      unfold EvV.arr at Hal bx
      cases hstill : x.isStill
      · rw [hstill] at hs Hm
        have HSt := Lib.hid (show (evAt L j).isStill = false by rw [Hxe.out]; exact hstill)
        clear hstill
        gi_wp2_with fail
        refine ⟨trivial, (hs _).out.mono ?_⟩; rintro e w1 ⟨rfl, hb1⟩; dsimp only
        rw [World.size_alloc] at hb1
        have Bx := (hb1.block wr.heap.size (by omega)).trans bx
        have hz1 := hb1.size
        rw [World.size_alloc] at hz1
        have hJ1 := hJ _ _ w1 none Hal.out ⟨hb1.os, hb1.tape, hb1.output, by rw [World.size_alloc]; omega, fun k hk _ => hb1.block k (by rw [World.size_alloc] at hk; exact hk)⟩ (fun r e => by cases e)
        have y0 := cell_of_row w1 wr.heap.size 0 _ _ _ Bx
        have y1 := cell_of_row w1 wr.heap.size 1 _ _ _ Bx
        have y2 := cell_of_row w1 wr.heap.size 2 _ _ _ Bx
        have y3 := cell_of_row w1 wr.heap.size 3 _ _ _ Bx
        have y4 := cell_of_row w1 wr.heap.size 4 _ _ _ Bx
        have y5 := cell_of_row w1 wr.heap.size 5 _ _ _ Bx
        have y6 := cell_of_row w1 wr.heap.size 6 _ _ _ Bx
        simp only [List.getElem?_toArray, List.getElem?_cons_zero, List.getElem?_cons_succ] at y0 y1 y2 y3 y4 y5 y6
        have HK1 := Lib.hid (((hK.out.alloc (by omega) (.cells x.arr 33))).trans (KeepX.below (X := X) (hb1.mono (by omega))))
        obtain ⟨fn, tmps, assign, body, hy, hR⟩ := Hy w1 hJ1
        clear hJ1 hb1 Bx bx Hal x0 x1 x2 x3 x4 x5 x6 hs
        gi_wp2_with fail
        refine hR.mono ?_
        rintro e W3 (⟨rfl, hJ3, hk3⟩ | ⟨rfl, hJx3⟩)
        · have HJ3 := Lib.hid hJ3
          have HK3 := Lib.hid (HK1.out.trans hk3.2)
          have hz3 := hk3.1
          clear hJ3 hk3
          gi_wp2_with fail
          go_roundw
          case rel => exact ⟨j + 1, by omega, by go_num, Lib.hid (by rw [Hm.out]; exact HJ3.out), HK3, by omega⟩
          case measure => simp [intOf]; omega
        · have HJx3 := Lib.hid hJx3
          clear hJx3
          gi_wp2_with fail
          refine bodyPost_ret (results_none rfl _ _ _) rfl ?_
          exact ⟨⟨_, rfl⟩, .inr ⟨_, ⟨j, hlt, HSt.out, Hm.out.symm⟩, HJx3.out⟩⟩
      · rw [hstill] at hs Hm
        clear hstill
        gi_wp2_with fail
        refine ⟨trivial, (hs _).out.mono ?_⟩; rintro e w1 ⟨rfl, hb1⟩; dsimp only
        rw [World.size_alloc] at hb1
        have hz1 := hb1.size
        rw [World.size_alloc] at hz1
        have HJ1 := Lib.hid (hJ _ _ w1 none Hal.out ⟨hb1.os, hb1.tape, hb1.output, by rw [World.size_alloc]; omega, fun k hk _ => hb1.block k (by rw [World.size_alloc] at hk; exact hk)⟩ (fun r e => by cases e))
        have HK1 := Lib.hid (((hK.out.alloc (by omega) (.cells x.arr 33))).trans (KeepX.below (X := X) (hb1.mono (by omega))))
        clear hb1 bx Hal x0 x1 x2 x3 x4 x5 x6 hs
        gi_wp2_with fail
        refine ⟨(fun f h => by cases h), ?_⟩
        gi_wp2_with fail
        go_roundw
        case rel => exact ⟨j + 1, by omega, by go_num, Lib.hid (by rw [Hm.out]; simpa using HJ1.out), HK1, by omega⟩
        case measure => simp [intOf]; omega
    · obtain rfl : j = L.length := by omega
      gi_wp2_with fail
      go_end0
      exact ⟨⟨_, rfl⟩, .inl ⟨_, rfl, hJs.out⟩⟩

theorem moves_stops (Bp n₀ : Nat) (X : Nat → Prop) (A : Option Addr) (cap : Nat) (L : List EvV) (hlc : L.length ≤ cap) (hcap : cap ≤ maxLen) (w : World) (hn : n₀ ≤ w.heap.size)
    (hBp : Bp < n₀) (hXp : ¬ X Bp) (hcp : w.cell? ⟨Bp, 0, none⟩ = some (.slice A L.length cap)) (hrow : EvRow w n₀ X A L) :
    SeqStopsK Fence.wide 7 Tryd.prog 41 #[.pointer (some ⟨Bp, 0, none⟩)] (encE L) (KeepS n₀ X)
      (fun ys => ys = mvs L L.length) (fun pre => ∃ j, j < L.length ∧ (evAt L j).isStill = false ∧ pre = mvs L (j + 1)) L.length w := fun l J Jx W hW hJ _ hY h0 =>
  moves1_in l Bp n₀ X A cap L hlc hcap J Jx W (by have := hW.size; omega) hJ hY hBp hXp ((hW.cell (p := ⟨Bp, 0, none⟩) (by show Bp < _; omega)).trans hcp)
    (fun hne => by obtain ⟨b, off, e, hb, hx, hc⟩ := hrow hne; exact ⟨b, off, e, hb, hx, fun j hj => (hc j hj).keep (hW.block b (by omega))⟩) h0

set_option maxHeartbeats 400000 in
theorem Moves_any (A : Option Addr) (n cap : Nat) (w : World) :
    Calls Tryd.prog 15 #[.slice A n cap] w fun e w' => e = .returned (.func (.func 41) #[] #[.pointer (some ⟨w.heap.size, 0, none⟩)]) ∧ w.alloc (.cells #[.slice A n cap] 29) = w' := by
  go_enter Tryd.func15, Tryd.ntmps15
  go_wp2_with fail
  go_ret
  exact ⟨rfl, rfl⟩

end Go.Proofs.YtplcfijcmihhlaaDoor
