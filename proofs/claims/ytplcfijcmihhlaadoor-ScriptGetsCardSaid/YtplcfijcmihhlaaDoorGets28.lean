/-
  Layer 28: the lines of a text; Get; the example of the statements.
-/
import Derived.Test.YtplcfijcmihhlaaDoorBase28
import Derived.Test.YtplcfijcmihhlaaDoorShelfD
import Derived.KernelRfl
import Derived.Test.YtplcfijcmihhlaaDoorRead28
import Derived.Test.YtplcfijcmihhlaaDoorWMore
import Derived.Test.YtplcfijcmihhlaaDoorWInvWords
namespace Go.Proofs.YtplcfijcmihhlaaDoor
open Go Go.RowKit
set_option linter.unusedVariables false
set_option linter.unusedSimpArgs false

theorem lt_heap {W : World} {B : Nat} {o : Obj} (h : W.heap[B]? = some o) : B < W.heap.size := (Array.getElem?_eq_some_iff.1 h).1
theorem heap_alloc2_newL (w : World) (o1 o2 : Obj) : ((w.alloc o1).alloc o2).heap[w.heap.size + 1]? = some o2 := by
  have := World.alloc_heap_new (w.alloc o1) o2
  rwa [World.size_alloc] at this

/-- What bears new blocks, turns of what is no cells from block B on, and turns of the blocks Y. -/
def OwnY {β : Type} (B : Nat) (Y : Nat → Prop) (I : β → World → Prop) : Prop :=
  ∀ s W W' row, I s W → W.grownBy W' row → (∀ r, row = some r → (B ≤ r ∧ ∃ o : Obj, W.heap[r]? = some o ∧ o.isCells = false) ∨ Y r) → I s W'
theorem OwnY.own {β : Type} {B : Nat} {Y : Nat → Prop} {I : β → World → Prop} (h : OwnY B Y I) : OwnFrom B I := fun s W W' row hs hg hr => h s W W' row hs hg (fun r e => .inl (hr r e))
theorem OwnY.and {β : Type} {B : Nat} {Y : Nat → Prop} {I I' : β → World → Prop} (h : OwnY B Y I) (h' : OwnY B Y I') : OwnY B Y (fun s W => I s W ∧ I' s W) := fun s W W' row hs hg hr => ⟨h s W W' row hs.1 hg hr, h' s W W' row hs.2 hg hr⟩
def AbideY {β : Type} (B : Nat) (Y : Nat → Prop) (J : β → World → Prop) : Prop :=
  ∀ s W W' row, J s W → W.grownBy W' row → (∀ r, row = some r → (B ≤ r ∧ ∃ o : Obj, W.heap[r]? = some o ∧ o.isWalk = true) ∨ Y r) → J s W'

/-- The contract of an iterator that writes the blocks Y alone. -/
def SeqY {α : Type} (P : Program) (g : Nat) (lb : Array Value) (encs : α → Array Value) (Kp : World → World → Prop) (Y : Nat → Prop) (S Sp : List α → Prop) (Ok : List α → α → World → Prop) (w : World) : Prop :=
  ∀ (l : Nat) (J Jx : List α → World → Prop) (W : World), Below w.heap.size w W → AbideY W.heap.size Y J → AbideY W.heap.size Y Jx →
    (∀ pre x W1, J pre W1 → Ok pre x W1 → YieldAt Fence.wide 6 P l (encs x) W1 fun e W' => (e = .returned (.bool true) ∧ J (pre ++ [x]) W' ∧ Kp W1 W') ∨ (e = .returned (.bool false) ∧ Jx (pre ++ [x]) W')) →
    J [] W → CallsIn Fence.wide 7 P g (#[.func (.yield l) #[] #[]] ++ lb) W fun e W' => (∃ v, e = .returned v) ∧ ((∃ xs, S xs ∧ J xs W') ∨ (∃ pre, Sp pre ∧ Jx pre W'))

/-- The loop's record, as such a loop lays it. -/
def recY (fn : FuncId) (tmps : Array Value) (ps : Array Tmp) (assign body : Code) (D : Nat) (st : LoopState) (pe : Option Code) : Loop := { state := st, pending := pe, fn, tmps, params := ps, assign, body, defers := D }

theorem wp_rangeY {P : Program} {α : Type} {g : Operand} {ps : Array Tmp} {assign body : Code} {Q : Exit → Act → World → Prop} {a : Act} {w : World} {Kp : World → World → Prop} {Y : Nat → Prop}
    (hKt : ∀ {A B C : World}, Kp A B → Kp B C → Kp A C) (hKb : ∀ (W : World) (l : Nat) (o o' : Obj), w.heap.size ≤ l → W.heap[l]? = some o → o.isCells = false → o.isWalk = false → Kp W (W.putObj l o'))
    {gf : Nat} {lb : Array Value} (hg : a.eval g = .func (.func gf) #[] lb) (eg : ∀ args w, (callFunc gf args).run P w = .ok (.enter gf args) w)
    {encs : α → Array Value} {S Sp : List α → Prop} {Ok : List α → α → World → Prop} {w0 : World} (hseq : SeqY P gf lb encs Kp Y S Sp Ok w0) (hY : ∀ r, Y r → r < w.heap.size) (hOk : ∀ pre x (W : World) (l : Nat) (o' : Obj), Ok pre x W → w.heap.size ≤ l → Ok pre x (W.putObj l o'))
    (hb0 : Below w0.heap.size w0 w) (hps : ∀ x, (encs x).size = ps.size)
    (I : List α → World → Prop) (Ix : Code → List α → World → Prop) (hIY : OwnY w.heap.size Y I) (hIxY : ∀ c, OwnY w.heap.size Y (Ix c)) (h0 : I [] w) (a₁ : α → Act)
    (hassign : ∀ (l : Nat) (x : α) (W : World) (K : Act → World → Prop), K (a₁ x) W →
      assign.wpIn (Fence.wide.inRound l) 6 P (Exit.then K (fun _ _ _ => False)) { tmps := (ps.zip (encs x)).foldl (fun t (p, v) => t.setIfInBounds p v) a.tmps, defers := [] } W)
    (hbody : ∀ (l : Nat) (pre : List α) (x : α) (W : World), I pre W → Ok pre x W → body.wpIn (Fence.wide.inRound l) 6 P (ownPostG w.heap.size Kp I Ix (pre ++ [x]) W) (a₁ x) W)
    (hdone : ∀ (D : Nat) (xs : List α) (W : World), w.heap.size ≤ D → S xs → I xs W → W.heap[D]? = some (.deferred (some [])) → Q .normal { a with defers := { target := .collected D, args := #[] } :: a.defers } W)
    (hstop : ∀ (D : Nat) (c : Code) (pre : List α) (W : World), w.heap.size ≤ D → Sp pre → Ix c pre W → W.heap[D]? = some (.deferred (some [])) → c.wp P Q { a with defers := { target := .collected D, args := #[] } :: a.defers } W) :
    (Code.rangeFunc g ps assign body).wp P Q a w := by
  have hI := hIY.own
  have hIx := fun c => (hIxY c).own
  refine wpIn_wide.1 (wpIn_rangeFunc (F := Fence.wide) (n := 8) ?_)
  intro fn hfn
  obtain ⟨R, hR⟩ : ∃ R : LoopState → Option Code → Loop, R = recY fn a.tmps ps assign body w.heap.size := ⟨_, rfl⟩
  obtain ⟨W1, hW1⟩ : ∃ W1, (w.alloc (.deferred (some []))).alloc (.loop (R .ready none)) = W1 := ⟨_, rfl⟩
  have hsz : W1.heap.size = w.heap.size + 2 := by rw [← hW1]; simp
  have hL1 : W1.heap[w.heap.size + 1]? = some (.loop (R .ready none)) := by
    rw [← hW1]; exact heap_alloc2_newL _ _ _
  have hK1 : W1.heap[w.heap.size]? = some (.deferred (some [])) := by
    rw [← hW1]; exact (Below.heap_alloc _ _ _ (by simp)).trans (World.alloc_heap_new w _)
  have hI1 : I [] W1 := by rw [← hW1]; exact hI.alloc _ (hI.alloc _ h0)
  have hb1 : Below w0.heap.size w0 W1 := by
    rw [← hW1]; exact hb0.trans ((((Below.refl _ w).alloc (Nat.le_refl _) _).alloc (by simp) _).mono hb0.size)
  -- which blocks the iterator may turn
  have turn : ∀ {A : World} {row : Option Nat}, (∀ r, row = some r → (W1.heap.size ≤ r ∧ ∃ o : Obj, A.heap[r]? = some o ∧ o.isWalk = true) ∨ Y r) → (∀ r, row = some r → (w.heap.size ≤ r ∧ ∃ o : Obj, A.heap[r]? = some o ∧ o.isCells = false) ∨ Y r) := fun hr r e => by
    rcases hr r e with ⟨h1, o, ho, hw⟩ | hy
    · exact .inl ⟨by omega, o, ho, Obj.not_cells_of_walk hw⟩
    · exact .inr hy
  have stays : ∀ {A B : World} {row : Option Nat} (k : Nat) {o : Obj}, w.heap.size ≤ k → k < w.heap.size + 2 → A.grownBy B row → (∀ r, row = some r → (W1.heap.size ≤ r ∧ ∃ o : Obj, A.heap[r]? = some o ∧ o.isWalk = true) ∨ Y r) → A.heap[k]? = some o → B.heap[k]? = some o := fun k _ h1 h2 hg' hr ho =>
    (hg'.block k (lt_heap ho) (fun e => by
      rcases hr k e.symm with ⟨h3, _⟩ | hy
      · omega
      · have := hY k hy; omega)).trans ho
  refine ⟨w.heap.size + 1, [{ target := .collected w.heap.size, args := #[] }], W1, { target := .fn (.func gf) lb, args := #[.func (.yield (w.heap.size + 1)) #[] #[]] }, W1, gf, #[.func (.yield (w.heap.size + 1)) #[] #[]] ++ lb, W1, ?enter, ?res, ?lead, ?inv, fun _ => by decide, ?call⟩
  case enter => rw [← hW1, hR]; exact run_enterLoop_outer _ _ _ _ _
  case res => simp only [resolve, hg]; simp [go_sem]
  case lead => intro f' _; exact trivial
  case inv => simp [invoke, go_sem, eg]
  case call =>
    refine (hseq (w.heap.size + 1) (fun pre W => I pre W ∧ W.heap[w.heap.size + 1]? = some (.loop (R .ready none)) ∧ W.heap[w.heap.size]? = some (.deferred (some [])))
      (fun pre W => ∃ c, Ix c pre W ∧ W.heap[w.heap.size + 1]? = some (.loop (R .done (some c))) ∧ W.heap[w.heap.size]? = some (.deferred (some []))) W1 hb1
      (fun s A B row hs hg' hr => ⟨hIY s A B row hs.1 hg' (turn hr), stays _ (by omega) (by omega) hg' hr hs.2.1, stays _ (by omega) (by omega) hg' hr hs.2.2⟩)
      (fun s A B row hs hg' hr => hs.imp fun c hc => ⟨hIxY c s A B row hc.1 hg' (turn hr), stays _ (by omega) (by omega) hg' hr hc.2.1, stays _ (by omega) (by omega) hg' hr hc.2.2⟩)
      ?round ⟨hI1, hL1, hK1⟩).mono ?behind
    case behind =>
      rintro e W2 ⟨⟨v, rfl⟩, ⟨xs, hS, hi, hl, hk⟩ | ⟨pre, hS, c, hi, hl, hk⟩⟩
      · exact ⟨none, _, by have := run_endLoop (P := P) hl (by rw [hR]; simp [recY]); rw [hR] at this; exact this, hdone _ xs _ (Nat.le_refl _) hS (hI.putObj _ hi (by omega) hl rfl) ((World.putObj_heap_other (by omega)).trans hk)⟩
      · exact ⟨some c, _, by have := run_endLoop (P := P) hl (by rw [hR]; simp [recY]); rw [hR] at this; exact this, wpIn_wide.2 (hstop _ c pre _ (Nat.le_refl _) hS ((hIx c).putObj _ hi (by omega) hl rfl) ((World.putObj_heap_other (by omega)).trans hk))⟩
    case round =>
      rintro pre x W ⟨hi, hl, hk⟩ hlen
      have hy := run_yield (P := P) (args := encs x) hl (by rw [hR]; exact hps x)
      rw [hR] at hy
      refine ⟨fn, _, assign, body, hy, roundIn_of_wpIn hfn (hassign _ x W _ ?_)⟩
      clear hy
      refine ⟨_, run_beginRound hl (by rw [hR]; rfl), ?_⟩
      have hl2 : (W.putObj (w.heap.size + 1) (.loop { R .ready none with state := .busy })).heap[w.heap.size + 1]? = some (.loop { R .ready none with state := .busy }) := World.putObj_heap_same (lt_heap hl)
      have hk2 : (W.putObj (w.heap.size + 1) (.loop { R .ready none with state := .busy })).heap[w.heap.size]? = some (.deferred (some [])) := (World.putObj_heap_other (by omega)).trans hk
      refine wpIn_mono (hbody _ pre x _ (hI.putObj _ hi (by omega) hl rfl) (hOk _ _ _ _ _ hlen (by omega))) ?_
      have fin : ∀ (j : Option Code) (W3 : World), KeepsFrom w.heap.size (W.putObj (w.heap.size + 1) (.loop { R .ready none with state := .busy })) W3 →
          ∃ W4, W3.putObj (w.heap.size + 1) (.loop (R (if j.isNone then .ready else .done) j)) = W4 ∧ (Instr.endRound (w.heap.size + 1) j).run P W3 = .ok (.bool j.isNone) W4 ∧ W3.heap[w.heap.size + 1]? = some (.loop { R .ready none with state := .busy }) ∧
            W4.heap[w.heap.size + 1]? = some (.loop (R (if j.isNone then .ready else .done) j)) ∧ W4.heap[w.heap.size]? = some (.deferred (some [])) := fun j W3 hk3 => by
        have hl3 := hk3.same _ _ (by omega) hl2 rfl
        have h4 := run_endRound (P := P) j hl3
        rw [hR] at h4 ⊢
        exact ⟨_, rfl, h4, by rw [hR] at hl3; exact hl3, World.putObj_heap_same (lt_heap hl3), (World.putObj_heap_other (by omega)).trans (hk3.same _ _ (Nat.le_refl _) hk2 rfl)⟩
      rintro e a3 W3 hp
      cases e with
      | normal =>
        obtain ⟨W4, e4, hr, hl3, hl4, hk4⟩ := fin none W3 hp.1
        exact ⟨_, _, hr, .inl ⟨rfl, ⟨by rw [← e4]; exact hI.putObj _ hp.2.2 (by omega) hl3 rfl, hl4, hk4⟩, by rw [← e4]; exact hKt (hKt (hKb _ _ _ _ (by omega) hl rfl rfl) hp.2.1) (hKb _ _ _ _ (by omega) hl3 rfl rfl)⟩⟩
      | ret =>
        obtain ⟨W4, e4, hr, hl3, hl4, hk4⟩ := fin (some .ret) W3 hp.1
        exact ⟨_, _, hr, .inr ⟨rfl, .ret, by rw [← e4]; exact (hIx _).putObj _ hp.2 (by omega) hl3 rfl, hl4, hk4⟩⟩
      | exit id =>
        obtain ⟨W4, e4, hr, hl3, hl4, hk4⟩ := fin (some (.exit id)) W3 hp.1
        exact ⟨_, _, hr, .inr ⟨rfl, .exit id, by rw [← e4]; exact (hIx _).putObj _ hp.2 (by omega) hl3 rfl, hl4, hk4⟩⟩
      | goto t =>
        obtain ⟨W4, e4, hr, hl3, hl4, hk4⟩ := fin (some (.goto t)) W3 hp.1
        exact ⟨_, _, hr, .inr ⟨rfl, .goto t, by rw [← e4]; exact (hIx _).putObj _ hp.2 (by omega) hl3 rfl, hl4, hk4⟩⟩
      | panic ch => exact hp.elim
      | outgrown => exact hp.elim

end Go.Proofs.YtplcfijcmihhlaaDoor

namespace Go.Proofs.YtplcfijcmihhlaaDoor
open Go.RowKit
set_option linter.unusedVariables false
set_option linter.unusedSimpArgs false
attribute [local go_sem] Oper.semAt_some

/-- How long the first line is. -/
def lineLen (l : List UInt8) : Nat := if 0 ≤ Lib.indexByte l 10 then (Lib.indexByte l 10).toNat + 1 else l.length
theorem lineLen_le (l : List UInt8) : lineLen l ≤ l.length := by
  unfold lineLen
  split
  · rename_i h
    obtain ⟨o, ho⟩ := Int.eq_ofNat_of_zero_le h
    have h2 := (List.getElem?_eq_some_iff.1 (Lib.indexByte_some ho).1).1
    omega
  · exact Nat.le_refl _
theorem lineLen_pos (l : List UInt8) (h : l ≠ []) : 0 < lineLen l := by
  unfold lineLen
  split
  · omega
  · exact List.length_pos_iff.2 h
def linesL (l : List UInt8) : List ByteArray :=
  if h : l = [] then [] else ⟨(l.take (lineLen l)).toArray⟩ :: linesL (l.drop (lineLen l))
termination_by l.length
decreasing_by have := lineLen_pos l h; rw [List.length_drop]; have := lineLen_le l; omega
theorem linesL_nil : linesL [] = [] := by rw [linesL]; simp
theorem linesL_cons (l : List UInt8) (h : l ≠ []) : linesL l = ⟨(l.take (lineLen l)).toArray⟩ :: linesL (l.drop (lineLen l)) := by rw [linesL, dif_neg h]

theorem ne_of_size {r : ByteArray} (h : 0 < r.size) : r.data.toList ≠ [] := fun e => by
  have h2 : r.data.toList.length = r.size := by simp
  rw [e] at h2
  simp at h2
  omega
theorem nil_of_size {r : ByteArray} (h : ¬ 0 < r.size) : r.data.toList = [] := by
  have h2 : r.data.toList.length = r.size := by simp
  exact List.length_eq_zero_iff.1 (by omega)
theorem first_ext (r : ByteArray) {n : Nat} (h : lineLen r.data.toList = n) : (⟨(r.data.toList.take (lineLen r.data.toList)).toArray⟩ : ByteArray) = r.extract 0 n := by
  apply WideShapes.bytes_inj
  rw [Lib.extract_from_zero, h]
theorem abide_set {J : List ByteArray → World → Prop} {B Bx : Nat} (hJ : AbideY B (fun k => k = Bx) J) {pre : List ByteArray} {w : World} (h : J pre w) (v : Value) : J pre (w.setCell ⟨Bx, 0, none⟩ v) :=
  hJ pre w _ (some Bx) h (grownBy_setCell' w Bx v) (fun r e => .inr (Option.some.inj e).symm)
theorem abide_drew {J : List ByteArray → World → Prop} {B : Nat} {Y : Nat → Prop} (hJ : AbideY B Y J) {pre : List ByteArray} {w : World} (h : J pre w) : J pre w.drew :=
  hJ pre w _ none h ⟨rfl, rfl, rfl, Nat.le_refl _, fun _ _ _ => rfl⟩ (fun r e => by cases e)
theorem box_set {W : World} {B : Nat} {t : TypeId} {u : Value} (v : Value) (h : W.heap[B]? = some (.cells #[u] t (0, 0))) : (W.setCell ⟨B, 0, none⟩ v).heap[B]? = some (.cells #[v] t (0, 0)) := by
  obtain ⟨hlt, hk⟩ := Array.getElem?_eq_some_iff.1 h
  show (W.heap.modify B _)[B]? = _
  rw [Array.getElem?_eq_getElem (by rw [Array.size_modify]; exact hlt), Array.getElem_modify_self, hk]
  rfl
def strIn (W : World) (B : Nat) : Nat := match W.cell? ⟨B, 0, none⟩ with | some (.string s) => s.size | _ => 0
theorem strIn_of {W : World} {B : Nat} {t : TypeId} {s : ByteArray} (h : W.heap[B]? = some (.cells #[.string s] t (0, 0))) : strIn W B = s.size := by
  have : W.cell? ⟨B, 0, none⟩ = some (.string s) := by simp [World.cell?, h]
  unfold strIn; rw [this]

set_option maxHeartbeats 2000000 in
set_option maxRecDepth 100000 in
theorem lines1_in (l Bx : Nat) (s : ByteArray) (hs : s.size ≤ 1000000) (J Jx : List ByteArray → World → Prop) (W : World) (hJ : AbideY W.heap.size (fun k => k = Bx) J) (hJx : AbideY W.heap.size (fun k => k = Bx) Jx)
    (hY : ∀ pre x W1, J pre W1 → ((∃ tl, pre ++ x :: tl = linesL s.data.toList) ∧ ∃ r, W1.heap[Bx]? = some (.cells #[.string r] 9 (0, 0))) → YieldAt Fence.wide 6 Tryd.prog l #[.string x] W1 fun e W' =>
      (e = .returned (.bool true) ∧ J (pre ++ [x]) W' ∧ W'.heap[Bx]? = W1.heap[Bx]?) ∨ (e = .returned (.bool false) ∧ Jx (pre ++ [x]) W'))
    (hB : W.heap[Bx]? = some (.cells #[.string s] 9 (0, 0))) (h0 : J [] W) :
    CallsIn Fence.wide 7 Tryd.prog 77 #[.func (.yield l) #[] #[], .pointer (some ⟨Bx, 0, none⟩)] W fun e W' => (∃ v, e = .returned v) ∧
      ((∃ xs, xs = linesL s.data.toList ∧ J xs W') ∨ (∃ pre, (∃ tl, pre ++ tl = linesL s.data.toList) ∧ Jx pre W')) := by
  refine callsIn_of_wp Tryd.func77 rfl trivial ?_ rfl
  simp only [Tryd.ntmps77, List.size_toArray, List.length_cons, List.length_nil, Nat.reduceAdd, Nat.reduceSub, Array.replicate_succ, Array.replicate_zero, List.push_toArray, List.append_toArray, List.nil_append, List.cons_append]
  gi_wp2_with fail
  gi_loopw [3] (fun _ wr => ∃ (pre : List ByteArray) (r : ByteArray), Hid (pre ++ linesL r.data.toList = linesL s.data.toList) ∧ pre.length + r.size ≤ s.size ∧ Hid (J pre wr) ∧ Hid (wr.heap[Bx]? = some (.cells #[.string r] 9 (0, 0)))) (fun _ wr => strIn wr Bx)
  case atStart => exact ⟨[], s, Lib.hid rfl, by simp, Lib.hid h0, Lib.hid hB⟩
  case round =>
    obtain ⟨pre, r, hE, hlen, hJs, hBx⟩ := hrel
    have c0 : wr.cell? ⟨Bx, 0, none⟩ = some (.string r) := by simp [World.cell?, hBx.out]
    have f0 : wr.frozen? ⟨Bx, 0, none⟩ = false := by simp [World.frozen?, hBx.out]
    by_cases hr : 0 < r.size
    · have hI := fun W => Lib.hid (inWide (n := 6) ((Tryd.strings_IndexByte r 10 W).mono (fun _ _ h => h)))
      gi_wp2_with fail
      refine ⟨trivial, (hI _).out.mono ?_⟩; rintro e w1 ⟨rfl, rfl⟩; dsimp only
      rw [show ((10 : Int).toNat.toUInt8) = (10 : UInt8) from rfl]
      have hne := ne_of_size hr
      have Hc := Lib.hid (linesL_cons r.data.toList hne)
      clear hne
      by_cases hi : 0 ≤ Lib.indexByte r.data.toList 10
      · obtain ⟨o, ho⟩ := Int.eq_ofNat_of_zero_le hi
        have ho2 : o < r.size := by have := (List.getElem?_eq_some_iff.1 (Lib.indexByte_some ho).1).1; simpa using this
        have hll : lineLen r.data.toList = o + 1 := by unfold lineLen; rw [if_pos hi, ho]; simp
        have Hll := Lib.hid hll
        rw [ho]
        have Hr := Lib.hid hr
        clear hll ho hi hr
        have p1 : (0 : Int) ≤ (o : Int) + 1 := by omega
        have p2 : (o : Int) + 1 ≤ (r.size : Int) := by omega
        gi_wp2_with fail
        gi_region
        have hre := Lib.extract_to_end r (o + 1)
        have hx := first_ext r Hll.out
        have hb2 : (w1.setCell ⟨Bx, 0, none⟩ (.string (r.extract (o + 1) r.size))).drew.heap[Bx]? = some (.cells #[.string (r.extract (o + 1) r.size)] 9 (0, 0)) := box_set _ hBx.out
        have hJ2 := abide_drew hJ (abide_set hJ hJs.out (.string (r.extract (o + 1) r.size)))
        have hE2 : (pre ++ [r.extract 0 (o + 1)]) ++ linesL (r.extract (o + 1) r.size).data.toList = linesL s.data.toList := by
          rw [hre, ← hE.out, Hc.out, ← hx, Hll.out]; simp
        have hs2 : (r.extract (o + 1) r.size).size = r.size - (o + 1) := by rw [ByteArray.size_extract]; omega
        have HM := Lib.hid (strIn_of hBx.out)
        generalize (w1.setCell ⟨Bx, 0, none⟩ (.string (r.extract (o + 1) r.size))).drew = w2 at *
        obtain ⟨fn, tmps, assign, body, hy, hR⟩ := hY pre (r.extract 0 (o + 1)) w2 hJ2 ⟨⟨linesL (r.extract (o + 1) r.size).data.toList, by rw [← hE2, List.append_assoc]; rfl⟩, _, hb2⟩
        have Hb2 := Lib.hid hb2
        have HE2 := Lib.hid hE2
        have Hs2 := Lib.hid hs2
        clear hre hx hb2 hJ2 hE2 hs2 c0 f0
        gi_wp2_with fail
        refine hR.mono ?_
        rintro e W3 (⟨rfl, hJ3, hk3⟩ | ⟨rfl, hJx3⟩)
        · have HJ3 := Lib.hid hJ3
          have HB3 := Lib.hid (hk3.trans Hb2.out)
          clear hJ3 hk3
          gi_wp2_with fail
          go_roundw
          case rel => exact ⟨pre ++ [r.extract 0 (o + 1)], r.extract (o + 1) r.size, HE2, by rw [List.length_append, List.length_singleton, Hs2.out]; omega, HJ3, HB3⟩
          case measure => rw [strIn_of HB3.out, HM.out, Hs2.out]; omega
        · have HJx3 := Lib.hid hJx3
          clear hJx3
          gi_wp2_with fail
          refine bodyPost_ret (results_none rfl _ _ _) rfl ?_
          exact ⟨⟨_, rfl⟩, .inr ⟨_, ⟨_, HE2.out⟩, HJx3.out⟩⟩
      · have hll : lineLen r.data.toList = r.data.toList.length := by unfold lineLen; rw [if_neg hi]
        have Hll := Lib.hid hll
        have hi2 : Lib.indexByte r.data.toList 10 < 0 := by omega
        generalize Lib.indexByte r.data.toList 10 = i at *
        have hx : (⟨(r.data.toList.take (lineLen r.data.toList)).toArray⟩ : ByteArray) = r := by
          apply WideShapes.bytes_inj
          rw [Hll.out, List.take_length]
        have hb2 : (w1.setCell ⟨Bx, 0, none⟩ (.string ⟨#[]⟩)).heap[Bx]? = some (.cells #[.string ⟨#[]⟩] 9 (0, 0)) := box_set _ hBx.out
        have hJ2 := abide_set hJ hJs.out (.string ⟨#[]⟩)
        have hE2 : (pre ++ [r]) ++ linesL (⟨#[]⟩ : ByteArray).data.toList = linesL s.data.toList := by
          rw [← hE.out, Hc.out, hx, Hll.out, List.drop_length]; simp
        have HM := Lib.hid (strIn_of hBx.out)
        have Hr := Lib.hid hr
        obtain ⟨fn, tmps, assign, body, hy, hR⟩ := hY pre r (w1.setCell ⟨Bx, 0, none⟩ (.string ⟨#[]⟩)) hJ2 ⟨⟨linesL (⟨#[]⟩ : ByteArray).data.toList, by rw [← hE2, List.append_assoc]; rfl⟩, _, hb2⟩
        have Hb2 := Lib.hid hb2
        have HE2 := Lib.hid hE2
        clear hx hb2 hJ2 hE2 hr
        gi_wp2_with fail
        refine hR.mono ?_
        rintro e W3 (⟨rfl, hJ3, hk3⟩ | ⟨rfl, hJx3⟩)
        · have HJ3 := Lib.hid hJ3
          have HB3 := Lib.hid (hk3.trans Hb2.out)
          clear hJ3 hk3
          gi_wp2_with fail
          go_roundw
          case rel => exact ⟨pre ++ [r], ⟨#[]⟩, HE2, by rw [List.length_append, List.length_singleton]; have := Hr.out; have h0 : (⟨#[]⟩ : ByteArray).size = 0 := rfl; omega, HJ3, HB3⟩
          case measure => rw [strIn_of HB3.out, HM.out]; have := Hr.out; have h0 : (⟨#[]⟩ : ByteArray).size = 0 := rfl; omega
        · have HJx3 := Lib.hid hJx3
          clear hJx3
          gi_wp2_with fail
          refine bodyPost_ret (results_none rfl _ _ _) rfl ?_
          exact ⟨⟨_, rfl⟩, .inr ⟨_, ⟨_, HE2.out⟩, HJx3.out⟩⟩
    · have hz := nil_of_size hr
      have he := hE.out
      rw [hz, linesL_nil, List.append_nil] at he
      have He := Lib.hid he
      clear he hz
      gi_wp2_with fail
      go_end0
      exact ⟨⟨_, rfl⟩, .inl ⟨_, He.out, hJs.out⟩⟩

/-- strings.Lines' iterator over the text s, in box Bx. -/
theorem lines_seq (Bx : Nat) (s : ByteArray) (hs : s.size ≤ 1000000) (w : World) (hBx : Bx < w.heap.size) (hB : w.heap[Bx]? = some (.cells #[.string s] 9 (0, 0))) :
    SeqY Tryd.prog 77 #[.pointer (some ⟨Bx, 0, none⟩)] (fun x => #[.string x]) (fun W W' => W'.heap[Bx]? = W.heap[Bx]?) (fun k => k = Bx)
      (fun xs => xs = linesL s.data.toList) (fun pre => ∃ tl, pre ++ tl = linesL s.data.toList) (fun pre x W1 => (∃ tl, pre ++ x :: tl = linesL s.data.toList) ∧ ∃ r, W1.heap[Bx]? = some (.cells #[.string r] 9 (0, 0))) w := fun l J Jx W hW hJ hJx hY h0 =>
  lines1_in l Bx s hs J Jx W hJ hJx hY ((hW.block Bx hBx).trans hB) h0

theorem Lines_any (s : ByteArray) (w : World) :
    Calls Tryd.prog 59 #[.string s] w fun e w' => e = .returned (.func (.func 77) #[] #[.pointer (some ⟨w.heap.size, 0, none⟩)]) ∧ w.alloc (.cells #[.string s] 9) = w' := by
  go_enter Tryd.func59, Tryd.ntmps59
  go_wp2_with fail
  go_ret
  exact ⟨rfl, rfl⟩

end Go.Proofs.YtplcfijcmihhlaaDoor

namespace Go.Proofs.YtplcfijcmihhlaaDoor
open Go.RowKit Go.Proofs.YtplcfijcmihhlaaDoorW.PrintWords
set_option linter.unusedVariables false
set_option linter.unusedSimpArgs false
attribute [local go_sem] Oper.semAt_some

/-! ### What Get comes to -/
def zeroS : Scr := ⟨[], 0, [], 0, []⟩
structure RunS where
  e : Int
  x : Scr
  q : Int
  n : Int
def endedS (ln : ByteArray) : Bool := Lib.hasSuffix ln.data.toList [10]
def bodyS (ln : ByteArray) : ByteArray := ⟨(Lib.trimSuffix ln.data.toList [10]).toArray⟩
def stepS (r : RunS) (ln : ByteArray) : RunS :=
  if r.e = 0 then
    if endedS ln = true then
      if (lineS r.x r.q (keyS (bodyS ln)) (wordS (bodyS ln)) (twoS (bodyS ln))).1 = 0 then
        ⟨0, (lineS r.x r.q (keyS (bodyS ln)) (wordS (bodyS ln)) (twoS (bodyS ln))).2.1, (lineS r.x r.q (keyS (bodyS ln)) (wordS (bodyS ln)) (twoS (bodyS ln))).2.2, r.n + 1⟩
      else ⟨(lineS r.x r.q (keyS (bodyS ln)) (wordS (bodyS ln)) (twoS (bodyS ln))).1, r.x, r.q, r.n + 1⟩
    else ⟨4, r.x, r.q, r.n + 1⟩
  else r
def runS (ls : List ByteArray) : RunS := ls.foldl stepS ⟨0, zeroS, 0, 0⟩
theorem runS_snoc (ls : List ByteArray) (ln : ByteArray) : runS (ls ++ [ln]) = stepS (runS ls) ln := by simp [runS]
theorem stepS_stop {r : RunS} (h : r.e ≠ 0) (ls : List ByteArray) : ls.foldl stepS r = r := by
  induction ls with
  | nil => rfl
  | cons a ls ih => rw [List.foldl_cons, show stepS r a = r from if_neg h]; exact ih
theorem runS_stop {pre tl : List ByteArray} (h : (runS pre).e ≠ 0) : runS (pre ++ tl) = runS pre := by
  unfold runS at *
  rw [List.foldl_append]
  exact stepS_stop h tl
/-- A text's script, the line, what is wrong. -/
def getS (t : ByteArray) : Scr × Int × Int :=
  if (runS (linesL t.data.toList)).e ≠ 0 then (zeroS, (runS (linesL t.data.toList)).n, (runS (linesL t.data.toList)).e)
  else if (runS (linesL t.data.toList)).q < 2 then (zeroS, (runS (linesL t.data.toList)).n + 1, 4)
  else ((runS (linesL t.data.toList)).x, 0, 0)

theorem results_rcc {P : Program} {fn : Func} {p q r : Tmp} {ty ty2 ty3 : TypeId} (h : fn.results = #[.cell p ty, .cell q ty2, .cell r ty3]) (tmps : Array Value) (w : World) (g : Nat) (t : TypeId) (cs : Array Value) (fr : Nat × Nat) (d : TypeDesc) (g2 : Nat) (v2 : Value) (d2 : TypeDesc) (g3 : Nat) (v3 : Value) (d3 : TypeDesc)
    (hp : tmps.getD p undef = .pointer (some ⟨g, 0, none⟩)) (hg : w.heap[g]? = some (.cells cs t fr))
    (hu : P.underlying ty = some d) (hd : (match d with | .struct _ | .array _ _ => true | _ => false) = true) (hi : (P.info? ty).map (·.size) = some cs.size)
    (hq : tmps.getD q undef = .pointer (some ⟨g2, 0, none⟩)) (hc2 : w.cell? ⟨g2, 0, none⟩ = some v2) (hu2 : P.underlying ty2 = some d2) (hd2 : (match d2 with | .struct _ | .array _ _ => true | _ => false) = false)
    (hr : tmps.getD r undef = .pointer (some ⟨g3, 0, none⟩)) (hc3 : w.cell? ⟨g3, 0, none⟩ = some v3) (hu3 : P.underlying ty3 = some d3) (hd3 : (match d3 with | .struct _ | .array _ _ => true | _ => false) = false) :
    (results fn tmps).run P w = .ok (.tuple #[.agg cs, v2, v3]) w := by
  have hp' : tmps[p]?.getD undef = .pointer (some ⟨g, 0, none⟩) := by simpa using hp
  have hq' : tmps[q]?.getD undef = .pointer (some ⟨g2, 0, none⟩) := by simpa using hq
  have hr' : tmps[r]?.getD undef = .pointer (some ⟨g3, 0, none⟩) := by simpa using hr
  have hagg2 : (isAgg ty2).run P w = .ok false w := by
    unfold isAgg
    rw [Sem.run_bind, run_underlying hu2 w]
    cases d2 <;> simp_all
  have hagg3 : (isAgg ty3).run P w = .ok false w := by
    unfold isAgg
    rw [Sem.run_bind, run_underlying hu3 w]
    cases d3 <;> simp_all
  have e2 : (loadVar ty2 ⟨g2, 0, none⟩).run P w = .ok v2 w := by simp [loadVar, Sem.run_bind, hagg2, hc2]
  have e3 : (loadVar ty3 ⟨g3, 0, none⟩).run P w = .ok v3 w := by simp [loadVar, Sem.run_bind, hagg3, hc3]
  simp [results, h, hp', hq', hr', asAddr, run_loadVar_row w g t ty cs fr d hg hu hd hi, e2, e3]

theorem cell_put {W : World} {g D : Nat} {v : Value} {ty : TypeId} (hD : g ≠ D) {o : Obj} (h : W.heap[g]? = some (.cells #[v] ty (0, 0))) : (W.putObj D o).cell? ⟨g, 0, none⟩ = some v := by
  have : (W.putObj D o).heap[g]? = some (.cells #[v] ty (0, 0)) := (World.putObj_heap_other (fun e => by first | exact hD e | exact hD e.symm)).trans h
  simp [World.cell?, this]
theorem cells5 {W : World} {g : Nat} {a b c d e : Value} {ty : TypeId} (h : W.heap[g]? = some (.cells #[a, b, c, d, e] ty (0, 0))) : W.cell? ⟨g, 0, none⟩ = some a ∧ W.cell? ⟨g, 1, none⟩ = some b ∧ W.cell? ⟨g, 2, none⟩ = some c ∧ W.cell? ⟨g, 3, none⟩ = some d ∧ W.cell? ⟨g, 4, none⟩ = some e := by simp [World.cell?, h]
theorem cells6 {W : World} {g : Nat} {a b c d e f : Value} {ty : TypeId} (h : W.heap[g]? = some (.cells #[a, b, c, d, e, f] ty (0, 0))) : W.cell? ⟨g, 0, none⟩ = some a ∧ W.cell? ⟨g, 1, none⟩ = some b ∧ W.cell? ⟨g, 2, none⟩ = some c ∧ W.cell? ⟨g, 3, none⟩ = some d ∧ W.cell? ⟨g, 4, none⟩ = some e ∧ W.cell? ⟨g, 5, none⟩ = some f := by simp [World.cell?, h]
theorem cell1 {W : World} {g : Nat} {a : Value} {ty : TypeId} (h : W.heap[g]? = some (.cells #[a] ty (0, 0))) : W.cell? ⟨g, 0, none⟩ = some a := by simp [World.cell?, h]
theorem froz {W : World} {g : Nat} {cs : Array Value} {ty : TypeId} (h : W.heap[g]? = some (.cells cs ty (0, 0))) (j : Nat) : W.frozen? ⟨g, j, none⟩ = false := by simp [World.frozen?, h]
theorem Tryd.size_script : (Tryd.prog.info? 57).map (·.size) = some 5 := by kernel_rfl
/-- The three rows, apart from block Bx. -/
structure Rows3B (W : World) (Bx base : Nat) (vp vt vk : Value) (x : Scr) : Prop where
  pie : KBB.R 25 W base (fun k => k ≠ Bx) vp x.pieces
  tak : KI.R 3 W base (fun k => some k ≠ vk.ownBlock ∧ k ≠ Bx) vt x.takes
  pic : KI.R 3 W base (fun k => some k ≠ vt.ownBlock ∧ k ≠ Bx) vk x.picks
theorem Rows3B.plain {W : World} {Bx base : Nat} {vp vt vk : Value} {x : Scr} (h : Rows3B W Bx base vp vt vk x) : Rows3 W base vp vt vk x :=
  ⟨Kd.R_mono h.pie (fun _ _ => trivial), Kd.R_mono h.tak (fun _ hk => hk.1), Kd.R_mono h.pic (fun _ hk => hk.1)⟩
theorem Rows3B.of {W : World} {Bx base : Nat} {vp vt vk : Value} {x : Scr} (h : Rows3 W base vp vt vk x) {cells : Array Value} (hb : W.heap[Bx]? = some (.cells cells 9 (0, 0))) : Rows3B W Bx base vp vt vk x :=
  ⟨Kd.R_mono (Kd.R_types h.pie hb (by decide)) (fun _ hk => hk.2), Kd.R_types h.tak hb (by decide), Kd.R_types h.pic hb (by decide)⟩
theorem Rows3B.grown {W W' : World} {Bx base B : Nat} {vp vt vk : Value} {x : Scr} (h : Rows3B W Bx base vp vt vk x) {row : Option Nat} (hg : W.grownBy W' row) (hr : ∀ r, row = some r → (B ≤ r ∧ ∃ o : Obj, W.heap[r]? = some o ∧ o.isCells = false) ∨ r = Bx) : Rows3B W' Bx base vp vt vk x := by
  have key : ∀ k, k ≠ Bx → (∃ q cells, W.heap[k]? = some (.cells cells q (0, 0))) → some k ≠ row := fun k hk ⟨q, cells, hc⟩ e => by
    rcases hr k e.symm with ⟨_, o, ho, hoc⟩ | hy
    · rw [hc] at ho; cases ho; cases hoc
    · exact hk hy
  refine ⟨Kd.R_mono (Kd.R_grown (Kd.R_bound h.pie) hg (fun k hk => key k hk.1 ?_)) (fun _ hk => hk.1), Kd.R_mono (Kd.R_grown (Kd.R_bound h.tak) hg (fun k hk => key k hk.1.2 ?_)) (fun _ hk => hk.1), Kd.R_mono (Kd.R_grown (Kd.R_bound h.pic) hg (fun k hk => key k hk.1.2 ?_)) (fun _ hk => hk.1)⟩
  all_goals
    obtain ⟨q, _, cells, hc⟩ := hk.2.2.2
    exact ⟨q, cells, hc⟩

/-- What stands behind the lines pre. -/
def GetI (V : World) (n Bx : Nat) (r : RunS) (W : World) : Prop :=
  r.e = 0 ∧ (∃ vp vt vk, W.heap[n + 3]? = some (.cells #[vp, .int .i64 r.x.en, vt, .int .i64 r.x.st, vk, .int .i64 r.q] 115 (0, 0)) ∧ Rows3B W Bx (n + 3) vp vt vk r.x) ∧
    W.heap[n + 4]? = some (.cells #[.pointer (some ⟨n + 3, 0, none⟩)] 113 (0, 0)) ∧ W.heap[n + 1]? = some (.cells #[.int .i64 r.n] 3 (0, 0)) ∧ Touch (fun k => k = n + 1 ∨ n + 3 ≤ k) V W

theorem GetI.own {V : World} {n Bx : Nat} (hz : V.heap.size = n + 6) (hb : Bx = n + 5) {β : Type} (f : β → RunS) : OwnY V.heap.size (fun k => k = Bx) (fun (s : β) W => GetI V n Bx (f s) W) := by
  rintro s W W' row ⟨he, ⟨vp, vt, vk, hbox, hrows⟩, h4, h1, hT6⟩ hg hr
  have hsz := hT6.size
  have old : ∀ k, k < n + 6 → k ≠ Bx → some k ≠ row := fun k hk hne e => by
    rcases hr k e.symm with ⟨h, _⟩ | h
    · omega
    · exact hne h
  refine ⟨he, ⟨vp, vt, vk, (hg.block _ (lt_of_heap hbox) (old _ (by omega) (by omega))).trans hbox, hrows.grown hg hr⟩, (hg.block _ (lt_of_heap h4) (old _ (by omega) (by omega))).trans h4, (hg.block _ (lt_of_heap h1) (old _ (by omega) (by omega))).trans h1, ?_⟩
  exact ⟨hg.os.trans hT6.os, hg.tape.trans hT6.tape, hg.output.trans hT6.output, Nat.le_trans hT6.size hg.size, fun k hk hx => (hg.block k (by omega) (old k (by omega) (by omega))).trans (hT6.block k hk hx)⟩

/-- What stands where a line went wrong. -/
def GetX (V : World) (n Bx : Nat) (r : RunS) (W : World) : Prop :=
  r.e ≠ 0 ∧ W.heap[n]? = some (.cells #[.slice none 0 0, .int .i64 0, .slice none 0 0, .int .i64 0, .slice none 0 0] 57 (0, 0)) ∧ W.heap[n + 1]? = some (.cells #[.int .i64 r.n] 3 (0, 0)) ∧ W.heap[n + 2]? = some (.cells #[.int .i64 r.e] 60 (0, 0)) ∧ Touch (fun k => n ≤ k) V W
theorem GetX.own {V : World} {n Bx : Nat} (hz : V.heap.size = n + 6) (hb : Bx = n + 5) {β : Type} (f : β → RunS) : OwnY V.heap.size (fun k => k = Bx) (fun (s : β) W => GetX V n Bx (f s) W) := by
  rintro s W W' row ⟨he, h0, h1, h2, hT6⟩ hg hr
  have hsz := hT6.size
  have old : ∀ k, k < n + 6 → k ≠ Bx → some k ≠ row := fun k hk hne e => by
    rcases hr k e.symm with ⟨h, _⟩ | h
    · omega
    · exact hne h
  refine ⟨he, (hg.block _ (lt_of_heap h0) (old _ (by omega) (by omega))).trans h0, (hg.block _ (lt_of_heap h1) (old _ (by omega) (by omega))).trans h1, (hg.block _ (lt_of_heap h2) (old _ (by omega) (by omega))).trans h2, ?_⟩
  exact ⟨hg.os.trans hT6.os, hg.tape.trans hT6.tape, hg.output.trans hT6.output, Nat.le_trans hT6.size hg.size, fun k hk hx => (hg.block k (by omega) (old k (by omega) (by omega))).trans (hT6.block k hk hx)⟩

theorem alloc6 (w : World) (o0 o1 o2 o3 o4 o5 : Obj) : ∃ V, (((((w.alloc o0).alloc o1).alloc o2).alloc o3).alloc o4).alloc o5 = V ∧ V.heap.size = w.heap.size + 6 ∧ V.heap[w.heap.size]? = some o0 ∧ V.heap[w.heap.size + 1]? = some o1 ∧ V.heap[w.heap.size + 2]? = some o2 ∧
    V.heap[w.heap.size + 3]? = some o3 ∧ V.heap[w.heap.size + 4]? = some o4 ∧ V.heap[w.heap.size + 5]? = some o5 ∧ Below w.heap.size w V ∧ (((((w.alloc o0).alloc o1).alloc o2).alloc o3).alloc o4).heap.size = w.heap.size + 5 := by
  have nw : ∀ (u : World) (o : Obj) (k : Nat), u.heap.size = k → (u.alloc o).heap[k]? = some o := fun u o k e => e ▸ World.alloc_heap_new u o
  refine ⟨_, rfl, by simp, ?_, ?_, ?_, ?_, ?_, ?_, ?_, by simp⟩
  · rw [Below.heap_alloc _ _ _ (by simp only [World.size_alloc]; omega), Below.heap_alloc _ _ _ (by simp only [World.size_alloc]; omega), Below.heap_alloc _ _ _ (by simp only [World.size_alloc]; omega), Below.heap_alloc _ _ _ (by simp only [World.size_alloc]; omega), Below.heap_alloc _ _ _ (by simp only [World.size_alloc]; omega)]; exact nw _ _ _ rfl
  · rw [Below.heap_alloc _ _ _ (by simp only [World.size_alloc]; omega), Below.heap_alloc _ _ _ (by simp only [World.size_alloc]; omega), Below.heap_alloc _ _ _ (by simp only [World.size_alloc]; omega), Below.heap_alloc _ _ _ (by simp only [World.size_alloc]; omega)]; exact nw _ _ _ (by simp only [World.size_alloc])
  · rw [Below.heap_alloc _ _ _ (by simp only [World.size_alloc]; omega), Below.heap_alloc _ _ _ (by simp only [World.size_alloc]; omega), Below.heap_alloc _ _ _ (by simp only [World.size_alloc]; omega)]; exact nw _ _ _ (by simp only [World.size_alloc])
  · rw [Below.heap_alloc _ _ _ (by simp only [World.size_alloc]; omega), Below.heap_alloc _ _ _ (by simp only [World.size_alloc]; omega)]; exact nw _ _ _ (by simp only [World.size_alloc])
  · rw [Below.heap_alloc _ _ _ (by simp only [World.size_alloc]; omega)]; exact nw _ _ _ (by simp only [World.size_alloc])
  · exact nw _ _ _ (by simp only [World.size_alloc])
  · exact ((((((Below.refl _ w).alloc (Nat.le_refl _) _).alloc (by simp only [World.size_alloc]; omega) _).alloc (by simp only [World.size_alloc]; omega) _).alloc (by simp only [World.size_alloc]; omega) _).alloc (by simp only [World.size_alloc]; omega) _).alloc (by simp only [World.size_alloc]; omega) _

theorem ret_sets {W : World} {n : Nat} {a b c d e l f : Value} {ty t1 t2 : TypeId} (h0 : W.heap[n]? = some (.cells #[a, b, c, d, e] ty (0, 0))) (h1 : W.heap[n + 1]? = some (.cells #[l] t1 (0, 0))) (h2 : W.heap[n + 2]? = some (.cells #[f] t2 (0, 0))) (v0 v1 v2 v3 v4 v5 v6 : Value) :
    ∃ W7, ((((((W.setCell ⟨n, 0, none⟩ v0).setCell ⟨n, 1, none⟩ v1).setCell ⟨n, 2, none⟩ v2).setCell ⟨n, 3, none⟩ v3).setCell ⟨n, 4, none⟩ v4).setCell ⟨n + 1, 0, none⟩ v5).setCell ⟨n + 2, 0, none⟩ v6 = W7 ∧
      W7.heap[n]? = some (.cells #[v0, v1, v2, v3, v4] ty (0, 0)) ∧ W7.heap[n + 1]? = some (.cells #[v5] t1 (0, 0)) ∧ W7.heap[n + 2]? = some (.cells #[v6] t2 (0, 0)) ∧ Touch (fun k => n ≤ k ∧ k < n + 3) W W7 := by
  have n1 : ¬ n + 1 = n := by omega
  have n2 : ¬ n + 2 = n := by omega
  have n3 : ¬ n + 2 = n + 1 := by omega
  have m1 : ¬ n = n + 1 := by omega
  have m2 : ¬ n = n + 2 := by omega
  have m3 : ¬ n + 1 = n + 2 := by omega
  refine ⟨_, rfl, ?_, ?_, ?_, ?_⟩
  · rw [Below.heap_setCell _ ⟨n + 2, 0, none⟩ _ _ m2, Below.heap_setCell _ ⟨n + 1, 0, none⟩ _ _ m1]
    exact setBox v4 (setBox v3 (setBox v2 (setBox v1 (setBox v0 h0))))
  · rw [Below.heap_setCell _ ⟨n + 2, 0, none⟩ _ _ m3]
    refine setBox v5 (?_ : _ = some (Obj.cells #[l] t1 (0, 0)))
    rw [Below.heap_setCell _ ⟨n, 4, none⟩ _ _ n1, Below.heap_setCell _ ⟨n, 3, none⟩ _ _ n1, Below.heap_setCell _ ⟨n, 2, none⟩ _ _ n1, Below.heap_setCell _ ⟨n, 1, none⟩ _ _ n1, Below.heap_setCell _ ⟨n, 0, none⟩ _ _ n1]
    exact h1
  · refine setBox v6 (?_ : _ = some (Obj.cells #[f] t2 (0, 0)))
    rw [Below.heap_setCell _ ⟨n + 1, 0, none⟩ _ _ n3, Below.heap_setCell _ ⟨n, 4, none⟩ _ _ n2, Below.heap_setCell _ ⟨n, 3, none⟩ _ _ n2, Below.heap_setCell _ ⟨n, 2, none⟩ _ _ n2, Below.heap_setCell _ ⟨n, 1, none⟩ _ _ n2, Below.heap_setCell _ ⟨n, 0, none⟩ _ _ n2]
    exact h2
  · refine (((((((Touch.refl _ W).setCell ?_ _).setCell ?_ _).setCell ?_ _).setCell ?_ _).setCell ?_ _).setCell ?_ _).setCell ?_ _
    all_goals exact .inl (by dsimp only; omega)
theorem Rows3.touch {W W' : World} {base b' n : Nat} {vp vt vk : Value} {x : Scr} (h : Rows3 W base vp vt vk x) (ht : Touch (fun k => n ≤ k ∧ k < n + 3) W W') (hn : n + 3 ≤ base) (hb : b' ≤ base) : Rows3 W' b' vp vt vk x := by
  have key : ∀ k, base ≤ k → k < W.heap.size → W'.heap[k]? = W.heap[k]? := fun k h1 h2 => ht.block k h2 (by omega)
  exact ⟨Kd.R_lower (Kd.R_mono (Kd.R_move (Kd.R_bound h.pie) (fun k hk => key k hk.2.1 hk.2.2.1)) (fun _ hk => hk.1)) hb, Kd.R_lower (Kd.R_mono (Kd.R_move (Kd.R_bound h.tak) (fun k hk => key k hk.2.1 hk.2.2.1)) (fun _ hk => hk.1)) hb,
    Kd.R_lower (Kd.R_mono (Kd.R_move (Kd.R_bound h.pic) (fun k hk => key k hk.2.1 hk.2.2.1)) (fun _ hk => hk.1)) hb⟩
theorem Rows3.below' {W : World} {base : Nat} {vp vt vk : Value} {x : Scr} (h : Rows3 W base vp vt vk x) {D : Nat} (hK : W.heap[D]? = some (.deferred (some []))) : Rows3 (W.putObj D (.deferred none)) base vp vt vk x := by
  have key : ∀ k, (∃ q cells, W.heap[k]? = some (Obj.cells cells q (0, 0))) → (W.putObj D (.deferred none)).heap[k]? = W.heap[k]? := fun k ⟨q, cells, hc⟩ => World.putObj_heap_other (fun e => by subst e; rw [hK] at hc; cases hc)
  refine ⟨Kd.R_mono (Kd.R_move (Kd.R_bound h.pie) (fun k hk => key k ?_)) (fun _ hk => hk.1), Kd.R_mono (Kd.R_move (Kd.R_bound h.tak) (fun k hk => key k ?_)) (fun _ hk => hk.1), Kd.R_mono (Kd.R_move (Kd.R_bound h.pic) (fun k hk => key k ?_)) (fun _ hk => hk.1)⟩
  all_goals
    obtain ⟨q, _, cells, hc⟩ := hk.2.2.2
    exact ⟨q, cells, hc⟩

theorem Tabs.up {W : World} {n m : Nat} (h : Tabs W n) (hn : n ≤ m) (hm : m ≤ W.heap.size) : Tabs W m := { h with lt := Nat.le_trans h.lt hn, le := hm }
theorem bodyS_size (ln : ByteArray) : (bodyS ln).size ≤ ln.size := by
  unfold bodyS Lib.trimSuffix
  have h : ln.data.toList.length = ln.size := by simp
  split
  · show (List.toArray _).size ≤ _; rw [List.size_toArray, List.length_take]; omega
  · show (List.toArray _).size ≤ _; rw [List.size_toArray]; omega
theorem linesL_size (l : List UInt8) : ∀ x ∈ linesL l, x.size ≤ l.length := by
  suffices h : ∀ n (l : List UInt8), l.length ≤ n → ∀ x ∈ linesL l, x.size ≤ l.length from h _ l (Nat.le_refl _)
  intro n
  induction n with
  | zero =>
    intro l h x hx
    have : l = [] := List.length_eq_zero_iff.1 (by omega)
    subst this
    rw [linesL_nil] at hx; cases hx
  | succ n ih =>
    intro l h x hx
    by_cases hl : l = []
    · subst hl; rw [linesL_nil] at hx; cases hx
    · rw [linesL_cons l hl] at hx
      rcases List.mem_cons.1 hx with rfl | hx
      · show (List.toArray _).size ≤ _; rw [List.size_toArray, List.length_take]; omega
      · have h1 := lineLen_pos l hl
        have h3 := ih (l.drop (lineLen l)) (by rw [List.length_drop]; omega) x hx
        rw [List.length_drop] at h3
        omega
theorem split_size (sep : ByteArray) (save : Nat) : ∀ (k : Nat) (s : ByteArray), ∀ x ∈ Lib.splitB sep save k s, x.size ≤ s.size := by
  intro k
  induction k with
  | zero => intro s x hx; rw [Lib.splitB_zero] at hx; obtain rfl := List.mem_singleton.1 hx; exact Nat.le_refl _
  | succ k ih =>
    intro s x hx
    unfold Lib.splitB at hx
    split at hx
    · obtain rfl := List.mem_singleton.1 hx; exact Nat.le_refl _
    · rcases List.mem_cons.1 hx with rfl | hx
      · rw [ByteArray.size_extract]; omega
      · have := ih _ x hx
        rw [ByteArray.size_extract] at this
        omega
theorem wordS_size (ln : ByteArray) : (wordS ln).size ≤ ln.size := by
  unfold wordS
  split
  · rename_i h
    rw [List.getD_eq_getElem?_getD, List.getElem?_eq_getElem (by omega)]
    exact split_size _ _ _ _ _ (List.getElem_mem _)
  · exact Nat.zero_le _
def ScrLen (x : Scr) (k : Nat) : Prop := x.pieces.length ≤ k ∧ x.takes.length ≤ k ∧ x.picks.length ≤ 60 * k
theorem lineS_len {x x' : Scr} {q q' : Int} {key word : ByteArray} {two : Bool} {k : Nat} (h : ScrLen x k) (he : (lineS x q key word two).1 = 0) : ScrLen (lineS x q key word two).2.1 (k + 1) := by
  obtain ⟨h1, h2, h3⟩ := h
  have h0 : ScrLen x (k + 1) := ⟨by omega, by omega, by omega⟩
  unfold lineS at *
  split
  · split
    · split
      · refine ⟨by simp only [List.length_append, List.length_singleton]; omega, h0.2.1, h0.2.2⟩
      · exact h0
    · exact h0
  · split
    · split
      · refine ⟨h0.1, by simp only [List.length_append, List.length_singleton]; omega, h0.2.2⟩
      · exact h0
    · split
      · split
        · exact h0
        · exact h0
      · split
        · split
          · exact h0
          · exact h0
        · split
          · split
            · rename_i hp
              have hp := hp.1
              unfold isPicks at hp
              simp only [Bool.and_eq_true, decide_eq_true_eq] at hp
              have hl : (turnsV word.data.toList).length = word.size := by simp [turnsV]
              refine ⟨h0.1, h0.2.1, by simp only [List.length_append]; omega⟩
            · exact h0
          · exact h0
theorem runS_len (ls : List ByteArray) : ScrLen (runS ls).x ls.length := by
  suffices h : ∀ (r : RunS) (k : Nat), ScrLen r.x k → ScrLen (ls.foldl stepS r).x (k + ls.length) by
    have := h ⟨0, zeroS, 0, 0⟩ 0 ⟨by decide, by decide, by decide⟩
    rwa [Nat.zero_add] at this
  induction ls with
  | nil => exact fun r k h => h
  | cons a ls ih =>
    intro r k h
    have h0 : ScrLen r.x (k + 1) := ⟨Nat.le_trans h.1 (by omega), Nat.le_trans h.2.1 (by omega), Nat.le_trans h.2.2 (by omega)⟩
    have hs : ScrLen (stepS r a).x (k + 1) := by
      unfold stepS
      split
      · split
        · split
          · rename_i he
            exact lineS_len (x' := r.x) (q' := 0) h he
          · exact h0
        · exact h0
      · exact h0
    have := ih (stepS r a) (k + 1) hs
    rw [List.foldl_cons, List.length_cons]
    rwa [Nat.add_assoc, Nat.add_comm 1] at this

theorem runS_n (ls : List ByteArray) : 0 ≤ (runS ls).n ∧ (runS ls).n ≤ ls.length := by
  suffices h : ∀ (r : RunS) (k : Nat), 0 ≤ r.n → r.n ≤ k → 0 ≤ (ls.foldl stepS r).n ∧ (ls.foldl stepS r).n ≤ (k + ls.length : Nat) by
    have := h ⟨0, zeroS, 0, 0⟩ 0 (by decide) (by decide)
    rwa [Nat.zero_add] at this
  induction ls with
  | nil => exact fun r k h1 h2 => ⟨h1, by simpa using h2⟩
  | cons a ls ih =>
    intro r k h1 h2
    have hs : 0 ≤ (stepS r a).n ∧ (stepS r a).n ≤ ((k + 1 : Nat) : Int) := by
      unfold stepS
      split
      · split
        · split
          · exact ⟨by simp only; omega, by simp only; omega⟩
          · exact ⟨by simp only; omega, by simp only; omega⟩
        · exact ⟨by simp only; omega, by simp only; omega⟩
      · exact ⟨h1, by omega⟩
    have := ih (stepS r a) (k + 1) hs.1 hs.2
    rw [List.foldl_cons, List.length_cons]
    refine ⟨this.1, ?_⟩
    have h3 := this.2
    omega
theorem linesL_len (l : List UInt8) : (linesL l).length ≤ l.length := by
  suffices h : ∀ n (l : List UInt8), l.length ≤ n → (linesL l).length ≤ l.length from h _ l (Nat.le_refl _)
  intro n
  induction n with
  | zero =>
    intro l h
    have : l = [] := List.length_eq_zero_iff.1 (by omega)
    subst this
    rw [linesL_nil]; simp
  | succ n ih =>
    intro l h
    by_cases hl : l = []
    · subst hl; rw [linesL_nil]; simp
    · rw [linesL_cons l hl, List.length_cons]
      have h1 := lineLen_pos l hl
      have h2 := lineLen_le l
      have h3 := ih (l.drop (lineLen l)) (by rw [List.length_drop]; omega)
      rw [List.length_drop] at h3
      omega

set_option maxHeartbeats 2000000 in
set_option maxRecDepth 100000 in
theorem Get_any (t : ByteArray) (ht : t.size ≤ 90000) (w : World) (hT : Tabs w w.heap.size) :
    Calls Tryd.prog 31 #[.string t] w fun e w' => ∃ vp vt vk, e = .returned (.tuple #[.agg #[vp, .int .i64 (getS t).1.en, vt, .int .i64 (getS t).1.st, vk], .int .i64 (getS t).2.1, .int .i64 (getS t).2.2]) ∧
      Rows3 w' w.heap.size vp vt vk (getS t).1 ∧ Below w.heap.size w w' := by
  refine calls_of_wp_marks Tryd.func31 rfl ?_
  simp only [Tryd.ntmps31, List.size_toArray, List.length_cons, List.length_nil, Nat.reduceAdd, Nat.reduceSub, Array.replicate_succ, Array.replicate_zero, List.push_toArray, List.append_toArray, List.nil_append, List.cons_append]
  go_wp2_with fail
  refine (Lines_any _ _).mono ?_; rintro e w' ⟨rfl, rfl⟩; dsimp only
  go_wp2_with fail
  simp only [Nat.add_assoc, Nat.reduceAdd]
  obtain ⟨V, eV, hz, b0, b1, b2, b3, b4, b5, hBel, hz5⟩ := alloc6 w (.cells #[.slice none 0 0, .int .i64 0, .slice none 0 0, .int .i64 0, .slice none 0 0] 57) (.cells #[.int .i64 0] 3) (.cells #[.int .i64 0] 60)
    (.cells #[.slice none 0 0, .int .i64 0, .slice none 0 0, .int .i64 0, .slice none 0 0, .int .i64 0] 115) (.cells #[.pointer (some ⟨w.heap.size + 3, 0, none⟩)] 113) (.cells #[.string t] 9)
  rw [eV, hz5]
  clear eV hz5
  have hW3 : Rows3B V (w.heap.size + 5) (w.heap.size + 3) (.slice none 0 0) (.slice none 0 0) (.slice none 0 0) zeroS :=
    Rows3B.of (vp := .slice none 0 0) (vt := .slice none 0 0) (vk := .slice none 0 0) ⟨Kd.R_nil _ _ _ _ _, Kd.R_nil _ _ _ _ _, Kd.R_nil _ _ _ _ _⟩ b5
  refine wp_rangeY (P := Tryd.prog) (encs := fun x : ByteArray => #[.string x]) (Kp := fun W W' => W'.heap[w.heap.size + 5]? = W.heap[w.heap.size + 5]?) (Y := fun k => k = w.heap.size + 5) (gf := 77) (fun h k => k.trans h)
    (fun W l o o' hl ho hc _ => World.putObj_heap_other (by omega)) rfl (enters_of Tryd.func77 (by kernel_rfl) rfl)
    (lines_seq (w.heap.size + 5) t (by omega) V (by omega) b5) (fun r hr => by omega) (fun pre x W l o' ⟨h1, r, h2⟩ hl => ⟨h1, r, (World.putObj_heap_other (by omega)).trans h2⟩)
    (Below.refl _ _) (fun _ => rfl)
    (fun pre W => GetI V w.heap.size (w.heap.size + 5) (runS pre) W) (fun c pre W => c = .ret ∧ GetX V w.heap.size (w.heap.size + 5) (runS pre) W)
    (GetI.own hz rfl _) (fun c s W W' row hs hg hr => ⟨hs.1, GetX.own hz rfl (fun s => runS s) s W W' row hs.2 hg hr⟩)
    ⟨rfl, ⟨_, _, _, b3, hW3⟩, b4, b1, (Touch.refl _ _)⟩ 
    (fun x => { tmps := #[Value.string t, undef, Value.pointer (some { block := w.heap.size, off := 0 }),
          Value.pointer (some { block := w.heap.size + 1, off := 0 }),
          Value.pointer (some { block := w.heap.size + 2, off := 0 }),
          Value.pointer (some { block := w.heap.size + 4, off := 0 }), .string x, undef, undef, undef,
          Value.agg
            #[Value.slice none 0 0, Value.int IntKind.i64 0, Value.slice none 0 0, Value.int IntKind.i64 0,
              Value.slice none 0 0, Value.int IntKind.i64 0],
          Value.pointer (some { block := w.heap.size + 3, off := 0 }), Value.string t,
          Value.func (Fn.func 77) #[] #[Value.pointer (some { block := w.heap.size + 5, off := 0 })],
          .string x, undef, undef, undef, undef, undef, undef, undef, undef, undef, undef, undef, undef, undef, undef,
          undef, undef, undef, undef, undef, undef, undef, undef, undef, undef, undef, undef, undef, undef, undef,
          undef, undef], defers := [] }) ?assign ?body ?done ?stop
  case assign =>
    intro l' x W K hK
    gi_wp2_with fail
    exact hK
  case body =>
    rintro l' pre x W ⟨he, ⟨vp, vt, vk, hbox, hrows⟩, h4, h1, hT6⟩ ⟨⟨tl, htl⟩, r0, hBx⟩
    have hsz := hT6.size
    have hlt : t.data.toList.length = t.size := by simp
    have hxm : x ∈ linesL t.data.toList := by rw [← htl]; simp
    have hxs := linesL_size _ x hxm
    have hpl : pre.length < 90001 := by
      have := linesL_len t.data.toList
      rw [← htl, List.length_append, List.length_cons] at this
      omega
    obtain ⟨l1, l2, l3⟩ := runS_len pre
    have hn := runS_n pre
    have hsn := Lib.hid (runS_snoc pre x)
    obtain ⟨r, hr⟩ : ∃ r, runS pre = r := ⟨_, rfl⟩
    rw [hr] at l1 l2 l3 hn hbox hrows h1 he
    have Hsn := Lib.hid (hsn.out.trans (by rw [hr]))
    have hbs := bodyS_size x
    have hws := wordS_size (bodyS x)
    have a0 := (hT6.block _ (by omega) (by omega)).trans b0
    have a2 := (hT6.block _ (by omega) (by omega)).trans b2
    have c4 := cell1 h4
    have c1 := cell1 h1
    have c2 := cell1 a2
    obtain ⟨s0, s1, s2, s3, s4⟩ := cells5 a0
    have e1 := froz a0
    have e2 := froz h1 0
    have e3 := froz a2 0
    have HN := Lib.hid (show wrap64 (r.n + 1) = r.n + 1 from IntWalk.wrap64_in _ (by omega))
    have hTW := Lib.hid ((hT.below hBel).below (hT6.below (by omega) (fun _ h => by omega)))
    have HT := Lib.hid hT6
    have HE := Lib.hid he
    have A0 := Lib.hid a0
    have A2 := Lib.hid a2
    have H1 := Lib.hid h1
    have H4 := Lib.hid h4
    have HX := Lib.hid hbox
    have HR := Lib.hid hrows
    have HBx := Lib.hid hBx
    have hC := fun W => Lib.hid (inRound (n := 5) l' (Tryd.strings_CutSuffix x ⟨#[10]⟩ W (by omega)))
    clear hT hBel b0 b1 b2 b3 b4 b5 hW3 hT6 hr hsn he a0 a2 h1 h4 hbox hrows hBx htl hxm
    gi_wp2_with fail
    refine ⟨trivial, (hC _).out.mono ?_⟩; rintro e w1 ⟨rfl, rfl⟩; dsimp only
    rw [show (⟨(Lib.trimSuffix x.data.toList [10]).toArray⟩ : ByteArray) = bodyS x from rfl, show Lib.hasSuffix x.data.toList [10] = endedS x from rfl]
    have B1 := Lib.hid (show (w1.setCell ⟨w.heap.size + 1, 0, none⟩ (.int .i64 (r.n + 1))).heap[w.heap.size + 1]? = some (.cells #[.int .i64 (r.n + 1)] 3 (0, 0)) from setBox (j := 0) (.int .i64 (r.n + 1)) H1.out)
    have B0 := Lib.hid ((Below.heap_setCell w1 ⟨w.heap.size + 1, 0, none⟩ (.int .i64 (r.n + 1)) w.heap.size (by show ¬ w.heap.size = w.heap.size + 1; omega)).trans A0.out)
    have B2 := Lib.hid ((Below.heap_setCell w1 ⟨w.heap.size + 1, 0, none⟩ (.int .i64 (r.n + 1)) (w.heap.size + 2) (by show ¬ w.heap.size + 2 = w.heap.size + 1; omega)).trans A2.out)
    have B4 := Lib.hid ((Below.heap_setCell w1 ⟨w.heap.size + 1, 0, none⟩ (.int .i64 (r.n + 1)) (w.heap.size + 4) (by show ¬ w.heap.size + 4 = w.heap.size + 1; omega)).trans H4.out)
    have B3 := Lib.hid ((Below.heap_setCell w1 ⟨w.heap.size + 1, 0, none⟩ (.int .i64 (r.n + 1)) (w.heap.size + 3) (by show ¬ w.heap.size + 3 = w.heap.size + 1; omega)).trans HX.out)
    have B5 := Lib.hid ((Below.heap_setCell w1 ⟨w.heap.size + 1, 0, none⟩ (.int .i64 (r.n + 1)) (w.heap.size + 5) (by show ¬ w.heap.size + 5 = w.heap.size + 1; omega)).trans HBx.out)
    have T2 := (Touch.refl (fun k => k = w.heap.size + 1) w1).setCell (p := ⟨w.heap.size + 1, 0, none⟩) (.inl rfl) (.int .i64 (r.n + 1))
    have TT := Lib.hid T2
    have hR2 := HR.out.plain.touch (n := w.heap.size) (T2.mono (fun k _ hk => ⟨by have hk' : k = w.heap.size + 1 := hk; omega, by have hk' : k = w.heap.size + 1 := hk; omega⟩)) (Nat.le_refl _) (Nat.le_refl _)
    have HTk := Lib.hid (take_any (V := w1.setCell ⟨w.heap.size + 1, 0, none⟩ (.int .i64 (r.n + 1))) (R := w.heap.size + 3) (base := w.heap.size + 3) (q := r.q) ⟨B3.out, hR2, KeepT.refl _ _⟩ ((hTW.out.below (T2.below (n := w.heap.size) (by omega) (fun k hk => by have hk' : k = w.heap.size + 1 := hk; omega))).up (by omega) (by have := T2.size; omega)) (bodyS x) (by omega) (by omega) (by omega) (by omega) (by omega) (Nat.le_refl _))
    clear T2 hR2 hC
    by_cases hen : endedS x = true
    · have HEn := Lib.hid hen
      have hT2 := Lib.hid (inRound (n := 5) l' HTk.out)
      clear HTk
      gi_wp2_with fail
      refine ⟨trivial, hT2.out.mono ?_⟩; rintro e w3 ⟨hB3, vp3, vt3, vk3, x3, q3, rfl, hRd3, himp⟩; dsimp only
      have HB3 := Lib.hid hB3
      have HRd3 := Lib.hid hRd3
      have hz3 := hB3.size
      have hzT := TT.out.size
      obtain ⟨ev, hev⟩ : ∃ ev, (lineS r.x r.q (keyS (bodyS x)) (wordS (bodyS x)) (twoS (bodyS x))).1 = ev := ⟨_, rfl⟩
      rw [hev] at himp ⊢
      have HI := Lib.hid himp
      have Hev := Lib.hid hev
      have E0 := Lib.hid ((hB3.block w.heap.size (by omega)).trans B0.out)
      have E1 := Lib.hid ((hB3.block (w.heap.size + 1) (by omega)).trans B1.out)
      have E2 := Lib.hid ((hB3.block (w.heap.size + 2) (by omega)).trans B2.out)
      have E4 := Lib.hid (hRd3.keep _ _ B4.out (by omega) (fun cs t fr e => by cases e; decide))
      have E5 := Lib.hid (hRd3.keep _ _ B5.out (by omega) (fun cs t fr e => by cases e; decide))
      obtain ⟨s0, s1, s2, s3, s4⟩ := cells5 E0.out
      have c1 := cell1 E1.out
      have c2 := cell1 E2.out
      have e1 := froz E0.out
      have e2 := froz E1.out 0
      have e3 := froz E2.out 0
      have T3 := Lib.hid ((HT.out.trans (TT.out.mono (Y := fun k => k = w.heap.size + 1 ∨ w.heap.size + 3 ≤ k) (fun k _ hk => .inl hk))).trans ((Touch.of_below hB3).mono (fun k _ hk => .inr hk)))
      have K3 := Lib.hid (show ∀ (k : Nat) (o : Obj), V.heap.size ≤ k → w1.heap[k]? = some o → o.isCells = false → w3.heap[k]? = some o from fun k o hk ho hc =>
        hRd3.keep k o ((TT.out.block k (lt_of_heap ho) (show ¬ k = w.heap.size + 1 by omega)).trans ho) (by omega) (fun cs t fr e => by subst e; cases hc))
      clear hB3 hRd3 himp hev hT2
      by_cases h0 : ev = 0
      · subst h0
        gi_wp2_with fail
        have hst : stepS r x = ⟨0, x3, q3, r.n + 1⟩ := by
          unfold stepS
          rw [if_pos HE.out, if_pos HEn.out, if_pos Hev.out, HI.out (by trivial)]
        refine ⟨⟨by omega, fun k o hk => K3.out k o (by omega)⟩, E5.out.trans HBx.out.symm, ?_⟩
        show GetI V _ _ (runS (pre ++ [x])) w3
        rw [Hsn.out, hst]
        exact ⟨rfl, ⟨_, _, _, HRd3.out.box, Rows3B.of HRd3.out.rows E5.out⟩, E4.out, E1.out, T3.out⟩
      · gi_wp2_with fail
        gi_region
        all_goals
          gi_wp2_with fail
          obtain ⟨W7, e7, k0, k1, k2, t7⟩ := ret_sets E0.out E1.out E2.out (.slice none 0 0) (.int .i64 0) (.slice none 0 0) (.int .i64 0) (.slice none 0 0) (.int .i64 (r.n + 1)) (.int .i64 ev)
          rw [e7]
          have hst : stepS r x = ⟨ev, r.x, r.q, r.n + 1⟩ := by unfold stepS; rw [if_pos HE.out, if_pos HEn.out, if_neg (by rw [Hev.out]; exact h0), Hev.out]
          have t9 := ((T3.out.mono (Y := fun k => w.heap.size ≤ k) (fun k _ hk => by omega)).trans (t7.mono (fun k _ hk => hk.1))).drew
          have h7 := t7.size
          refine ⟨⟨Nat.le_trans (by omega) t7.size, fun k o hk ho hc => (t7.block k ?_ ?_).trans (K3.out k o hk ho hc)⟩, rfl, ?_⟩
          · exact lt_of_heap (K3.out k o hk ho hc)
          · omega
          · rw [Hsn.out, hst]
            exact ⟨h0, k0, k1, k2, t9⟩
    · have HEn := Lib.hid hen
      have hen : endedS x = false := by simpa using hen
      gi_wp2_with fail
      gi_region
      all_goals
        gi_wp2_with fail
        obtain ⟨W7, e7, k0, k1, k2, t7⟩ := ret_sets B0.out B1.out B2.out (.slice none 0 0) (.int .i64 0) (.slice none 0 0) (.int .i64 0) (.slice none 0 0) (.int .i64 (r.n + 1)) (.int .i64 4)
        rw [e7]
        have hst : stepS r x = ⟨4, r.x, r.q, r.n + 1⟩ := by unfold stepS; rw [if_pos HE.out, if_neg HEn.out]
        have t9 := (((HT.out.mono (Y := fun k => w.heap.size ≤ k) (fun k _ hk => by omega)).trans (TT.out.mono (fun k _ hk => by have hk' : k = w.heap.size + 1 := hk; omega))).trans (t7.mono (fun k _ hk => hk.1))).drew
        refine ⟨⟨Nat.le_trans TT.out.size t7.size, fun k o hk ho _ => (t7.block k ?_ ?_).trans ((TT.out.block k (lt_of_heap ho) ?_).trans ho)⟩, rfl, ?_⟩
        · have := TT.out.size; have := lt_of_heap ho; omega
        · omega
        · show ¬ k = w.heap.size + 1; omega
        · rw [Hsn.out, hst]
          exact ⟨show (4 : Int) ≠ 0 by decide, k0, k1, k2, t9⟩
  case done =>
    rintro D xs W hD rfl ⟨he, ⟨vp, vt, vk, hbox, hrows⟩, h4, h1, hT6⟩ hK
    obtain ⟨r, hr⟩ : ∃ r, runS (linesL t.data.toList) = r := ⟨_, rfl⟩
    have hg : getS t = if r.q < 2 then (zeroS, r.n + 1, 4) else (r.x, 0, 0) := by unfold getS; rw [hr] at he ⊢; rw [if_neg (by simp [he])]
    rw [hr] at hbox hrows h1
    have a0 := (hT6.block _ (by omega) (by omega)).trans b0
    have a2 := (hT6.block _ (by omega) (by omega)).trans b2
    have c4 := cell1 h4
    have c1 := cell1 h1
    have c2 := cell1 a2
    obtain ⟨d0, d1, d2, d3, d4, d5⟩ := cells6 hbox
    obtain ⟨s0, s1, s2, s3, s4⟩ := cells5 a0
    have e1 := froz a0
    have e2 := froz h1 0
    have e3 := froz a2 0
    have HN := Lib.hid (show wrap64 (r.n + 1) = r.n + 1 by
      have h1 := runS_n (linesL t.data.toList)
      have h2 := linesL_len t.data.toList
      rw [hr] at h1
      have h3 : t.data.toList.length = t.size := by simp
      exact IntWalk.wrap64_in _ (by omega))
    have HB := Lib.hid hBel
    have HR := Lib.hid hrows
    have HT := Lib.hid hT6
    have A0 := Lib.hid a0
    have A2 := Lib.hid a2
    have H1 := Lib.hid h1
    have HG := Lib.hid hg
    have HX := Lib.hid hbox
    clear hT hBel hrows hT6 b0 b1 b2 b3 b4 b5 hW3 hr he a0 a2 h1 h4 hg hbox
    by_cases hq : r.q < 2
    · go_wp2_with fail
      go_region
      go_wp2_with fail
      rw [HN.out]
      obtain ⟨W7, e7, k0, k1, k2, t7⟩ := ret_sets A0.out H1.out A2.out (.slice none 0 0) (.int .i64 0) (.slice none 0 0) (.int .i64 0) (.slice none 0 0) (.int .i64 (r.n + 1)) (.int .i64 4)
      rw [e7]
      have h7 := t7.size
      have hT7 := HT.out.size
      refine post_mark rfl ((t7.block D (lt_of_heap hK) (by omega)).trans hK) (results_rcc rfl _ _ _ _ _ _ _ _ _ _ _ _ _ rfl ((World.putObj_heap_other (by omega)).trans k0) Tryd.underlying57 rfl Tryd.size_script rfl (cell_put (by omega) k1) Tryd.underlying3 rfl rfl (cell_put (by omega) k2) Tryd.underlying60 rfl) ?_
      rw [HG.out, if_pos hq]
      exact ⟨_, _, _, rfl, ⟨Kd.R_nil _ _ _ _ _, Kd.R_nil _ _ _ _ _, Kd.R_nil _ _ _ _ _⟩, below_put ((HB.out.trans (HT.out.below (by omega) (fun _ h => by omega))).trans (t7.drew.below (by omega) (fun _ h => h.1))) (by omega)⟩
    · obtain ⟨A1, cc1, rfl⟩ := Kd.R_slice HR.out.pie
      obtain ⟨A2', cc2, rfl⟩ := Kd.R_slice HR.out.tak
      obtain ⟨A3, cc3, rfl⟩ := Kd.R_slice HR.out.pic
      go_wp2_with fail
      obtain ⟨W7, e7, k0, k1, k2, t7⟩ := ret_sets A0.out H1.out A2.out (.slice A1 r.x.pieces.length cc1) (.int .i64 r.x.en) (.slice A2' r.x.takes.length cc2) (.int .i64 r.x.st) (.slice A3 r.x.picks.length cc3) (.int .i64 0) (.int .i64 0)
      rw [e7]
      have h7 := t7.size
      have hT7 := HT.out.size
      have hK7 := (t7.block D (lt_of_heap hK) (by omega)).trans hK
      refine post_mark rfl hK7 (results_rcc rfl _ _ _ _ _ _ _ _ _ _ _ _ _ rfl ((World.putObj_heap_other (by omega)).trans k0) Tryd.underlying57 rfl Tryd.size_script rfl (cell_put (by omega) k1) Tryd.underlying3 rfl rfl (cell_put (by omega) k2) Tryd.underlying60 rfl) ?_
      rw [HG.out, if_neg (by omega)]
      exact ⟨_, _, _, rfl, (HR.out.plain.touch t7 (by omega) (by omega)).below' hK7, below_put ((HB.out.trans (HT.out.below (by omega) (fun _ h => by omega))).trans (t7.below (by omega) (fun _ h => h.1))) (by omega)⟩
  case stop =>
    rintro D c pre W hD ⟨tl, htl⟩ ⟨rfl, he, h0, h1, h2, hT6⟩ hK
    go_wp2_with fail
    refine post_mark rfl hK (results_rcc rfl _ _ _ _ _ _ _ _ _ _ _ _ _ rfl ((World.putObj_heap_other (by omega)).trans h0) Tryd.underlying57 rfl Tryd.size_script rfl (cell_put (by omega) h1) Tryd.underlying3 rfl rfl (cell_put (by omega) h2) Tryd.underlying60 rfl) ?_
    have hs := runS_stop (tl := tl) he
    rw [htl] at hs
    have hg : getS t = (zeroS, (runS pre).n, (runS pre).e) := by unfold getS; rw [hs, if_pos he]
    rw [hg]
    exact ⟨_, _, _, rfl, ⟨Kd.R_nil _ _ _ _ _, Kd.R_nil _ _ _ _ _, Kd.R_nil _ _ _ _ _⟩, below_put (hBel.trans (hT6.below (by omega) (fun _ h => h))) (by omega)⟩

end Go.Proofs.YtplcfijcmihhlaaDoor

namespace Go.Proofs.YtplcfijcmihhlaaDoor
open Go.RowKit Go.Proofs.YtplcfijcmihhlaaDoorW.PrintWords
set_option linter.unusedVariables false
set_option linter.unusedSimpArgs false

def wakeT : ByteArray := ⟨#[117, 112, 32, 54, 49, 54, 50, 10, 101, 110, 100, 32, 99, 108, 111, 115, 101, 100, 10, 115, 116, 111, 112, 32, 102, 114, 101, 101, 10, 112, 105, 99, 107, 32, 114, 114, 119, 10]⟩
def wl1 : ByteArray := ⟨#[117, 112, 32, 54, 49, 54, 50, 10]⟩
def wl2 : ByteArray := ⟨#[101, 110, 100, 32, 99, 108, 111, 115, 101, 100, 10]⟩
def wl3 : ByteArray := ⟨#[115, 116, 111, 112, 32, 102, 114, 101, 101, 10]⟩
def wl4 : ByteArray := ⟨#[112, 105, 99, 107, 32, 114, 114, 119, 10]⟩
theorem linesL_step {l : List UInt8} {n : Nat} {x : ByteArray} {r : List UInt8} (h0 : l ≠ []) (h1 : lineLen l = n) (h2 : ⟨(l.take n).toArray⟩ = x) (h3 : l.drop n = r) : linesL l = x :: linesL r := by
  rw [linesL_cons l h0, h1, h2, h3]
theorem wake_lines : linesL wakeT.data.toList = [wl1, wl2, wl3, wl4] := by
  rw [linesL_step (n := 8) (x := wl1) (by decide) (by decide) rfl rfl, linesL_step (n := 11) (x := wl2) (by decide) (by decide) rfl rfl, linesL_step (n := 10) (x := wl3) (by decide) (by decide) rfl rfl, linesL_step (n := 9) (x := wl4) (r := []) (by decide) (by decide) rfl rfl, linesL_nil]
def wx : Scr := ⟨[[97, 98]], 1, [], 1, [0, 0, 1]⟩
theorem wake_run : runS [wl1, wl2, wl3, wl4] = ⟨0, wx, 3, 4⟩ := by kernel_rfl
theorem wake_get : getS wakeT = (wx, 0, 0) := by unfold getS; rw [wake_lines, wake_run]; rfl

set_option maxHeartbeats 2000000 in
set_option maxRecDepth 100000 in
theorem wakes_any (w : World) (hT : Tabs w w.heap.size) : Calls Tryd.prog 18 #[] w fun e w' => e = .returned (.bool true) ∧ Below w.heap.size w w' := by
  have hG := Lib.hid (Get_any wakeT (by decide) w hT)
  clear hT
  go_enter Tryd.func18, Tryd.ntmps18
  go_wp2_with fail
  refine hG.out.mono ?_; rintro e w1 ⟨vp, vt, vk, rfl, hR, hb⟩; dsimp only
  rw [wake_get] at hR ⊢
  obtain ⟨ad1, cc1, rfl⟩ := Kd.R_slice1 hR.pie (show 0 < 1 by decide)
  obtain ⟨g1, rfl⟩ := Kd.R_head hR.pie
  obtain ⟨A2, cc2, rfl⟩ := Kd.R_slice hR.tak
  obtain ⟨ad3, cc3, rfl⟩ := Kd.R_slice1 hR.pic (show 0 < 3 by decide)
  obtain ⟨g3, rfl⟩ := Kd.R_head hR.pic
  have h1 : wx.pieces.length = 1 := rfl
  have h2 : wx.takes.length = 0 := rfl
  have h3 : wx.picks.length = 3 := rfl
  have hz := hb.size
  obtain ⟨cs, _, ⟨v, ev, hv⟩, hc⟩ := Go.Proofs.YtplcfijcmihhlaaDoorW.PrintMore.Kd.R_get hR.pie [] 0 (by decide) (by rw [h1]; decide)
  subst ev
  have hc0 := hc 0 v rfl
  rw [show (0 : Int).toNat * KBB.sz + 0 = 0 from rfl] at hc0
  rw [show wx.pieces.getD (0 : Int).toNat [] = [97, 98] from rfl] at hv
  obtain ⟨ad4, cc4, rfl⟩ := Kd.R_slice1 hv (show 0 < 2 by decide)
  obtain ⟨g4, rfl⟩ := Kd.R_head hv
  obtain ⟨_, _, hv4⟩ := Kd.R_reads' hv
  obtain ⟨_, e0, hd0⟩ := kd_at hv4 (k := 0) (show 0 < 2 by decide)
  obtain ⟨_, e1, hd1⟩ := kd_at hv4 (k := 1) (show 1 < 2 by decide)
  cases e0
  cases e1
  obtain ⟨_, _, hp⟩ := Kd.R_reads' hR.pic
  obtain ⟨_, e2, hp2⟩ := kd_at hp (k := 2) (show 2 < 3 by decide)
  cases e2
  rw [show rd wx.picks (2 : Nat) = 1 from rfl] at hp2
  rw [show rd [(97 : Int), 98] (0 : Nat) = 97 from rfl] at hd0
  rw [show rd [(97 : Int), 98] (1 : Nat) = 98 from rfl] at hd1
  rw [show [(97 : Int), 98].length = 2 from rfl] at hc0
  rw [WideShapes.add_plain] at hc0 hd0 hd1 hp2
  simp only [Nat.zero_add] at hc0 hd0 hd1 hp2
  have q1 := World.block_lt_of_cell? w1 _ hc0
  have q3 := World.block_lt_of_cell? w1 _ hp2
  have q4 := World.block_lt_of_cell? w1 _ hd0
  have HB := Lib.hid hb
  clear hR hG hb hc hv hv4 hp
  rw [h1] at *
  rw [h2] at *
  rw [h3] at *
  dsimp only [wx, List.length_cons, List.length_nil]
  have hcv : ∀ o : Obj, (convert 25 9 (.slice (some ⟨g4, 0, none⟩) 2 cc4)).run Tryd.prog (w1.alloc o) = .ok (.string ⟨#[97, 98]⟩) (w1.alloc o) := fun o =>
    run_convert_bytes_arg (w1.alloc o) 25 5 Tryd.underlying25 Tryd.underlying5 g4 0 2 cc4 [97, 98] rfl (fun i hi => by
      have hk : (w1.alloc o).heap[g4]? = w1.heap[g4]? := Below.heap_alloc _ _ _ q4
      rw [World.cell?_of_block (w := w1) hk]
      rcases i with _ | _ | i
      · exact hd0
      · exact hd1
      · omega) 9 Tryd.underlying9
  go_wp2_with fail
  go_ret
  exact ⟨rfl, HB.out.alloc (by omega) _⟩
end Go.Proofs.YtplcfijcmihhlaaDoor
