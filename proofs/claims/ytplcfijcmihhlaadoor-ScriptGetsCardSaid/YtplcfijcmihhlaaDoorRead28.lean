/-
  Layer 28: a line, as the reader takes it.
-/
import Derived.Test.YtplcfijcmihhlaaDoorWord28


namespace Go.Proofs.YtplcfijcmihhlaaDoor
open Go.RowKit Go.Proofs.YtplcfijcmihhlaaDoorW.PrintWords
set_option linter.unusedVariables false
set_option linter.unusedSimpArgs false

structure Scr where
  pieces : List (List Int)
  en : Int
  takes : List Int
  st : Int
  picks : List Int

abbrev KBB : Kd (List Int) := Kd.slice 5 (Kd.int .u8)
abbrev KI : Kd Int := Kd.int .i64

/-- A script's three rows, from base on. -/
structure Rows3 (W : World) (base : Nat) (vp vt vk : Value) (x : Scr) : Prop where
  pie : KBB.R 25 W base (fun _ => True) vp x.pieces
  tak : KI.R 3 W base (fun k => some k ≠ vk.ownBlock) vt x.takes
  pic : KI.R 3 W base (fun k => some k ≠ vt.ownBlock) vk x.picks

/-- What a reader's writes keep: all but its box and blocks of its rows' types. -/
def KeepT (R : Nat) (V W : World) : Prop := ∀ k o, V.heap[k]? = some o → k ≠ R → (∀ cs t fr, o = .cells cs t fr → t ≠ 25 ∧ t ≠ 5 ∧ t ≠ 3) → W.heap[k]? = some o
theorem KeepT.refl (R : Nat) (W : World) : KeepT R W W := fun _ _ h _ _ => h
theorem KeepT.below {R : Nat} {V W W1 : World} (h : KeepT R V W) (hb : Below W.heap.size W W1) : KeepT R V W1 := fun k o ho hk ht => by
  have h1 := h k o ho hk ht
  exact (hb.block k (lt_of_heap h1)).trans h1
theorem KeepT.set {R : Nat} {V W : World} (h : KeepT R V W) (j : Nat) (u : Value) : KeepT R V (W.setCell ⟨R, j, none⟩ u) := fun k o ho hk ht => by
  rw [Below.heap_setCell _ ⟨R, j, none⟩ _ _ hk]
  exact h k o ho hk ht
theorem KeepT.grown {R : Nat} {V W W1 : World} (h : KeepT R V W) {b e s n : Nat} {v : Value} {ys : List Value} (ho : W.ownsRow b e s v n ys) (he : e = 25 ∨ e = 5 ∨ e = 3) (hg : W.grownBy W1 v.ownBlock) : KeepT R V W1 := fun k o hk hne ht => by
  have h1 := h k o hk hne ht
  refine (hg.block k (lt_of_heap h1) (fun e' => ?_)).trans h1
  obtain ⟨cells, hc⟩ := own_typed ho k e'.symm
  rw [hc] at h1
  obtain ⟨a, b, c⟩ := ht _ _ _ (Option.some.inj h1).symm
  rcases he with rfl | rfl | rfl
  · exact a rfl
  · exact b rfl
  · exact c rfl

/-- The reader, in block R, since the world V. -/
structure RdS (V W : World) (R base : Nat) (vp vt vk : Value) (x : Scr) (q : Int) : Prop where
  box : W.heap[R]? = some (.cells #[vp, .int .i64 x.en, vt, .int .i64 x.st, vk, .int .i64 q] 115 (0, 0))
  rows : Rows3 W base vp vt vk x
  keep : KeepT R V W

theorem setBox {W : World} {B j : Nat} {cs : Array Value} {t : TypeId} (v : Value) (h : W.heap[B]? = some (.cells cs t (0, 0))) : (W.setCell ⟨B, j, none⟩ v).heap[B]? = some (.cells (cs.setIfInBounds j v) t (0, 0)) := by
  obtain ⟨hlt, hk⟩ := Array.getElem?_eq_some_iff.1 h
  show (W.heap.modify B _)[B]? = _
  rw [Array.getElem?_eq_getElem (by rw [Array.size_modify]; exact hlt), Array.getElem_modify_self, hk]
  rfl

theorem R_fresh {α : Type} {d : Kd α} {e : Nat} {w : World} {base : Nat} {ok : Nat → Prop} {v : Value} {xs : List α} (h : d.R e w base ok v xs) : ∀ k, w.heap.size ≤ k → True ∧ some k ≠ v.ownBlock := fun k hk => ⟨trivial, fun e => by
  obtain ⟨inner, ho⟩ := Kd.R_own h
  have := Go.Proofs.YtplcfijcmihhlaaDoor.own_lt ho e.symm
  omega⟩
/-- A row beside one of elements of another type. -/
theorem R_apart {α : Type} {d : Kd α} {e : Nat} {w : World} {base : Nat} {ok : Nat → Prop} {v : Value} {xs : List α} (h : d.R e w base ok v xs) {b2 e2 s2 n2 : Nat} {v2 : Value} {ys : List Value} (h2 : w.ownsRow b2 e2 s2 v2 n2 ys) (ht : ∀ q, q ∈ e :: d.E → q ≠ e2) :
    d.R e w base (fun k => ok k ∧ some k ≠ v2.ownBlock) v xs := by
  cases hv : v2.ownBlock with
  | none => exact Kd.R_mono h (fun k hk => ⟨hk, by simp⟩)
  | some g =>
    obtain ⟨cells, hc⟩ := own_typed h2 g hv
    exact Kd.R_mono (Kd.R_types h hc ht) (fun k hk => ⟨hk.1, fun e => hk.2 (by injection e)⟩)

section
variable {V W W1 : World} {base R : Nat} {vp vt vk : Value} {x : Scr} {q : Int}
theorem Rows3.below (h : Rows3 W base vp vt vk x) (hb : Below W.heap.size W W1) : Rows3 W1 base vp vt vk x := ⟨Kd.R_below h.pie hb, Kd.R_below h.tak hb, Kd.R_below h.pic hb⟩
theorem Rows3.set (h : Rows3 W base vp vt vk x) {g t : Nat} {cells : Array Value} (hb : W.heap[g]? = some (.cells cells t (0, 0))) (ht : t ≠ 25 ∧ t ≠ 5 ∧ t ≠ 3) (j : Nat) (u : Value) : Rows3 (W.setCell ⟨g, j, none⟩ u) base vp vt vk x :=
  ⟨Kd.R_set h.pie hb (by intro q hq; rcases List.mem_cons.1 hq with rfl | hq; exact ht.1.symm; rcases List.mem_cons.1 hq with rfl | hq; exact ht.2.1.symm; cases hq) j u,
   Kd.R_set h.tak hb (by intro q hq; rcases List.mem_cons.1 hq with rfl | hq; exact ht.2.2.symm; cases hq) j u, Kd.R_set h.pic hb (by intro q hq; rcases List.mem_cons.1 hq with rfl | hq; exact ht.2.2.symm; cases hq) j u⟩
theorem RdS.c0 (h : RdS V W R base vp vt vk x q) : W.cell? ⟨R, 0, none⟩ = some vp := by simp [World.cell?, h.box]
theorem RdS.c1 (h : RdS V W R base vp vt vk x q) : W.cell? ⟨R, 1, none⟩ = some (.int .i64 x.en) := by simp [World.cell?, h.box]
theorem RdS.c2 (h : RdS V W R base vp vt vk x q) : W.cell? ⟨R, 2, none⟩ = some vt := by simp [World.cell?, h.box]
theorem RdS.c3 (h : RdS V W R base vp vt vk x q) : W.cell? ⟨R, 3, none⟩ = some (.int .i64 x.st) := by simp [World.cell?, h.box]
theorem RdS.c4 (h : RdS V W R base vp vt vk x q) : W.cell? ⟨R, 4, none⟩ = some vk := by simp [World.cell?, h.box]
theorem RdS.c5 (h : RdS V W R base vp vt vk x q) : W.cell? ⟨R, 5, none⟩ = some (.int .i64 q) := by simp [World.cell?, h.box]
theorem RdS.f (h : RdS V W R base vp vt vk x q) (j : Nat) : W.frozen? ⟨R, j, none⟩ = false := by simp [World.frozen?, h.box]
theorem RdS.below (h : RdS V W R base vp vt vk x q) (hb : Below W.heap.size W W1) : RdS V W1 R base vp vt vk x q := ⟨(hb.block R (lt_of_heap h.box)).trans h.box, h.rows.below hb, h.keep.below hb⟩
theorem RdS.ne3 : 115 ≠ 25 ∧ 115 ≠ 5 ∧ 115 ≠ 3 := by decide
theorem RdS.setQ (h : RdS V W R base vp vt vk x q) (u : Int) : RdS V (W.setCell ⟨R, 5, none⟩ (.int .i64 u)) R base vp vt vk x u := ⟨setBox _ h.box, h.rows.set h.box RdS.ne3 _ _, h.keep.set _ _⟩
theorem RdS.setEn (h : RdS V W R base vp vt vk x q) (u : Int) : RdS V (W.setCell ⟨R, 1, none⟩ (.int .i64 u)) R base vp vt vk { x with en := u } q :=
  ⟨setBox _ h.box, let r := h.rows.set h.box RdS.ne3 1 (.int .i64 u); ⟨r.pie, r.tak, r.pic⟩, h.keep.set _ _⟩
theorem RdS.setSt (h : RdS V W R base vp vt vk x q) (u : Int) : RdS V (W.setCell ⟨R, 3, none⟩ (.int .i64 u)) R base vp vt vk { x with st := u } q :=
  ⟨setBox _ h.box, let r := h.rows.set h.box RdS.ne3 3 (.int .i64 u); ⟨r.pie, r.tak, r.pic⟩, h.keep.set _ _⟩

/-- A piece more: the row that append made, laid into the reader. -/
theorem RdS.addPiece (h : RdS V W R base vp vt vk x q) {v1 : Value} {b : List Int} (hg : W.grownBy W1 vp.ownBlock) (hr : KBB.R 25 W1 base (fun _ => True) v1 (x.pieces ++ [b])) :
    RdS V (W1.setCell ⟨R, 0, none⟩ v1) R base v1 vt vk { x with pieces := x.pieces ++ [b] } q := by
  obtain ⟨inner, ho⟩ := Kd.R_own h.rows.pie
  have hne : some R ≠ vp.ownBlock := Kd.R_ne h.rows.pie h.box RdS.ne3.1.symm
  have hbox : W1.heap[R]? = some (.cells #[vp, .int .i64 x.en, vt, .int .i64 x.st, vk, .int .i64 q] 115 (0, 0)) := (hg.block R (lt_of_heap h.box) hne).trans h.box
  have ht := Kd.R_grown (R_apart h.rows.tak ho (by intro q hq; rcases List.mem_cons.1 hq with rfl | hq; decide; cases hq)) hg (fun k hk => hk.2)
  have hk := Kd.R_grown (R_apart h.rows.pic ho (by intro q hq; rcases List.mem_cons.1 hq with rfl | hq; decide; cases hq)) hg (fun k hk => hk.2)
  have r3 : Rows3 W1 base v1 vt vk { x with pieces := x.pieces ++ [b] } := ⟨hr, Kd.R_mono ht (fun k hk => hk.1), Kd.R_mono hk (fun k hk => hk.1)⟩
  exact ⟨setBox _ hbox, r3.set hbox RdS.ne3 _ _, (h.keep.grown ho (.inl rfl) hg).set _ _⟩

theorem RdS.addTakes (h : RdS V W R base vp vt vk x q) {v1 : Value} {ys : List Int} (hg : W.grownBy W1 vt.ownBlock) (hat : v1.ownBlock = vt.ownBlock ∨ ∃ b, v1.ownBlock = some b ∧ W.heap.size ≤ b) (hr : KI.R 3 W1 base (fun k => some k ≠ vk.ownBlock) v1 (x.takes ++ ys)) :
    RdS V (W1.setCell ⟨R, 2, none⟩ v1) R base vp v1 vk { x with takes := x.takes ++ ys } q := by
  obtain ⟨inner, ho⟩ := Kd.R_own h.rows.tak
  have hne : some R ≠ vt.ownBlock := Kd.R_ne h.rows.tak h.box RdS.ne3.2.2.symm
  have hbox : W1.heap[R]? = some (.cells #[vp, .int .i64 x.en, vt, .int .i64 x.st, vk, .int .i64 q] 115 (0, 0)) := (hg.block R (lt_of_heap h.box) hne).trans h.box
  have hp := Kd.R_grown (R_apart h.rows.pie ho (by intro q hq; rcases List.mem_cons.1 hq with rfl | hq; decide; rcases List.mem_cons.1 hq with rfl | hq; decide; cases hq)) hg (fun k hk => hk.2)
  have hk : KI.R 3 W1 base (fun k => some k ≠ v1.ownBlock) vk x.picks := by
    have h1 := Kd.R_bound h.rows.pic
    have h2 := Kd.R_grown h1 hg (fun k hk => hk.1)
    refine Kd.R_mono h2 (fun k hk => ?_)
    rcases hat with e | ⟨b, e, hb⟩
    · rw [e]; exact hk.1
    · rw [e]; intro e'; have := hk.2.2.1; injection e' with e'; omega
  have r3 : Rows3 W1 base vp v1 vk { x with takes := x.takes ++ ys } := ⟨Kd.R_mono hp (fun k hk => hk.1), hr, hk⟩
  exact ⟨setBox _ hbox, r3.set hbox RdS.ne3 _ _, (h.keep.grown ho (.inr (.inr rfl)) hg).set _ _⟩

theorem RdS.addPicks (h : RdS V W R base vp vt vk x q) {v1 : Value} {ys : List Int} (hg : W.grownBy W1 vk.ownBlock) (hat : v1.ownBlock = vk.ownBlock ∨ ∃ b, v1.ownBlock = some b ∧ W.heap.size ≤ b) (hr : KI.R 3 W1 base (fun k => some k ≠ vt.ownBlock) v1 (x.picks ++ ys)) :
    RdS V (W1.setCell ⟨R, 4, none⟩ v1) R base vp vt v1 { x with picks := x.picks ++ ys } q := by
  obtain ⟨inner, ho⟩ := Kd.R_own h.rows.pic
  have hne : some R ≠ vk.ownBlock := Kd.R_ne h.rows.pic h.box RdS.ne3.2.2.symm
  have hbox : W1.heap[R]? = some (.cells #[vp, .int .i64 x.en, vt, .int .i64 x.st, vk, .int .i64 q] 115 (0, 0)) := (hg.block R (lt_of_heap h.box) hne).trans h.box
  have hp := Kd.R_grown (R_apart h.rows.pie ho (by intro q hq; rcases List.mem_cons.1 hq with rfl | hq; decide; rcases List.mem_cons.1 hq with rfl | hq; decide; cases hq)) hg (fun k hk => hk.2)
  have hk : KI.R 3 W1 base (fun k => some k ≠ v1.ownBlock) vt x.takes := by
    have h1 := Kd.R_bound h.rows.tak
    have h2 := Kd.R_grown h1 hg (fun k hk => hk.1)
    refine Kd.R_mono h2 (fun k hk => ?_)
    rcases hat with e | ⟨b, e, hb⟩
    · rw [e]; exact hk.1
    · rw [e]; intro e'; have := hk.2.2.1; injection e' with e'; omega
  have r3 : Rows3 W1 base vp vt v1 { x with picks := x.picks ++ ys } := ⟨Kd.R_mono hp (fun k hk => hk.1), hk, hr⟩
  exact ⟨setBox _ hbox, r3.set hbox RdS.ne3 _ _, (h.keep.grown ho (.inr (.inr rfl)) hg).set _ _⟩
end

/-! ### What a line does -/
def idx3 (a b c w : List UInt8) : Int := if w = a then 0 else if w = b then 1 else if w = c then 2 else -1
def wSilent : List UInt8 := [115, 105, 108, 101, 110, 116]
def wClosed : List UInt8 := [99, 108, 111, 115, 101, 100]
def wReset : List UInt8 := [114, 101, 115, 101, 116]
def wStuck : List UInt8 := [115, 116, 117, 99, 107]
def wFree : List UInt8 := [102, 114, 101, 101]
def kUp : List UInt8 := [117, 112]
def kTake : List UInt8 := [116, 97, 107, 101]
def kEnd : List UInt8 := [101, 110, 100]
def kStop : List UInt8 := [115, 116, 111, 112]
def kPick : List UInt8 := [112, 105, 99, 107]

def isTake (w : ByteArray) : Bool := decide ((numS w.data.toList).2 = 0 ∧ (numS w.data.toList).1 ≤ 1073741824 ∧ Lib.decDigits (numS w.data.toList).1.toNat = w.data.toList)
def isPicks (w : ByteArray) : Bool := allPick w.data.toList && decide (0 < w.size ∧ w.size ≤ 60)
/-- A line's words: what is wrong with it (0: nothing), and the script then, and where the next line stands. -/
def lineS (x : Scr) (q : Int) (key word : ByteArray) (two : Bool) : Int × Scr × Int :=
  if key.data.toList = kUp then
    if q = 0 ∧ two = true then match bytesS word with
      | some b => (0, { x with pieces := x.pieces ++ [b] }, q)
      | none => (2, x, q)
    else (2, x, q)
  else if key.data.toList = kTake then
    if isTake word = true ∧ q = 1 ∧ two = true then (0, { x with takes := x.takes ++ [(numS word.data.toList).1] }, q) else (2, x, q)
  else if key.data.toList = kEnd then
    if 0 ≤ idx3 wSilent wClosed wReset word.data.toList ∧ q = 0 ∧ two = true then (0, { x with en := idx3 wSilent wClosed wReset word.data.toList }, 1) else (2, x, q)
  else if key.data.toList = kStop then
    if 0 ≤ idx3 wStuck wFree wReset word.data.toList ∧ q = 1 ∧ two = true then (0, { x with st := idx3 wStuck wFree wReset word.data.toList }, 2) else (2, x, q)
  else if key.data.toList = kPick then
    if isPicks word = true ∧ q = 2 ∧ two = true then (0, { x with picks := x.picks ++ turnsV word.data.toList }, if word.size < 60 then 3 else q) else (2, x, q)
  else (10, x, q)

theorem lineS_up_ok {x : Scr} {q : Int} {key word : ByteArray} {two : Bool} {b : List Int} (hk : key.data.toList = kUp) (hq : q = 0) (h2 : two = true) (hb : bytesS word = some b) : lineS x q key word two = (0, { x with pieces := x.pieces ++ [b] }, q) := by
  unfold lineS; rw [if_pos hk, if_pos ⟨hq, h2⟩, hb]
theorem lineS_up_bad {x : Scr} {q : Int} {key word : ByteArray} {two : Bool} (hk : key.data.toList = kUp) (h : q ≠ 0 ∨ two = false ∨ bytesS word = none) : lineS x q key word two = (2, x, q) := by
  unfold lineS; rw [if_pos hk]
  by_cases hc : q = 0 ∧ two = true
  · rw [if_pos hc]
    rcases h with h | h | h
    · exact absurd hc.1 h
    · rw [hc.2] at h; cases h
    · rw [h]
  · rw [if_neg hc]
theorem kTake_ne : kTake ≠ kUp := by decide
theorem kEnd_ne : kEnd ≠ kUp ∧ kEnd ≠ kTake := by decide
theorem kStop_ne : kStop ≠ kUp ∧ kStop ≠ kTake ∧ kStop ≠ kEnd := by decide
theorem kPick_ne : kPick ≠ kUp ∧ kPick ≠ kTake ∧ kPick ≠ kEnd ∧ kPick ≠ kStop := by decide
theorem lineS_take {x : Scr} {q : Int} {key word : ByteArray} {two : Bool} (hk : key.data.toList = kTake) : lineS x q key word two = if isTake word = true ∧ q = 1 ∧ two = true then (0, { x with takes := x.takes ++ [(numS word.data.toList).1] }, q) else (2, x, q) := by
  unfold lineS; rw [if_neg (by rw [hk]; exact kTake_ne), if_pos hk]
theorem lineS_end {x : Scr} {q : Int} {key word : ByteArray} {two : Bool} (hk : key.data.toList = kEnd) : lineS x q key word two = if 0 ≤ idx3 wSilent wClosed wReset word.data.toList ∧ q = 0 ∧ two = true then (0, { x with en := idx3 wSilent wClosed wReset word.data.toList }, 1) else (2, x, q) := by
  unfold lineS; rw [if_neg (by rw [hk]; exact kEnd_ne.1), if_neg (by rw [hk]; exact kEnd_ne.2), if_pos hk]
theorem lineS_stop {x : Scr} {q : Int} {key word : ByteArray} {two : Bool} (hk : key.data.toList = kStop) : lineS x q key word two = if 0 ≤ idx3 wStuck wFree wReset word.data.toList ∧ q = 1 ∧ two = true then (0, { x with st := idx3 wStuck wFree wReset word.data.toList }, 2) else (2, x, q) := by
  unfold lineS; rw [if_neg (by rw [hk]; exact kStop_ne.1), if_neg (by rw [hk]; exact kStop_ne.2.1), if_neg (by rw [hk]; exact kStop_ne.2.2), if_pos hk]
theorem lineS_pick {x : Scr} {q : Int} {key word : ByteArray} {two : Bool} (hk : key.data.toList = kPick) : lineS x q key word two = if isPicks word = true ∧ q = 2 ∧ two = true then (0, { x with picks := x.picks ++ turnsV word.data.toList }, if word.size < 60 then 3 else q) else (2, x, q) := by
  unfold lineS; rw [if_neg (by rw [hk]; exact kPick_ne.1), if_neg (by rw [hk]; exact kPick_ne.2.1), if_neg (by rw [hk]; exact kPick_ne.2.2.1), if_neg (by rw [hk]; exact kPick_ne.2.2.2), if_pos hk]

end Go.Proofs.YtplcfijcmihhlaaDoor

namespace Go.Proofs.YtplcfijcmihhlaaDoor
open Go.RowKit Go.Proofs.YtplcfijcmihhlaaDoorW.PrintWords
set_option linter.unusedVariables false
set_option linter.unusedSimpArgs false

/-- The tables that a script's code reads. -/
structure Tabs (W : World) (n : Nat) : Prop where
  maxLen : ∃ m, W.cell? ⟨5, 0, none⟩ = some (.int .i64 m)
  err : ∃ ev, W.cell? ⟨2, 0, none⟩ = some ev ∧ (ev = .nilIface ∨ ∃ te pe, ev = .iface te pe)
  pow : Lib.TabIs Tryd.prog W "internal/strconv.uint64pow10" .u64 Lib.pow10Tab
  ends0 : W.cell? ⟨0, 0, none⟩ = some (.string ⟨wSilent.toArray⟩)
  ends1 : W.cell? ⟨0, 1, none⟩ = some (.string ⟨wClosed.toArray⟩)
  ends2 : W.cell? ⟨0, 2, none⟩ = some (.string ⟨wReset.toArray⟩)
  stops0 : W.cell? ⟨1, 0, none⟩ = some (.string ⟨wStuck.toArray⟩)
  stops1 : W.cell? ⟨1, 1, none⟩ = some (.string ⟨wFree.toArray⟩)
  stops2 : W.cell? ⟨1, 2, none⟩ = some (.string ⟨wReset.toArray⟩)
  lt : 11 ≤ n
  le : n ≤ W.heap.size
theorem Tryd.pow_glob (g : Nat) (h : Tryd.prog.globalNamed "internal/strconv.uint64pow10" = some g) : g < 11 := by
  obtain rfl : 4 = g := Option.some.inj ((show Tryd.prog.globalNamed "internal/strconv.uint64pow10" = some 4 by kernel_rfl).symm.trans h)
  decide
theorem Tabs.below {W W1 : World} {n : Nat} (h : Tabs W n) (hb : Below n W W1) : Tabs W1 n where
  maxLen := h.maxLen.imp fun m hm => (hb.cell (p := ⟨5, 0, none⟩) (Nat.lt_of_lt_of_le (by decide) h.lt)).trans hm
  err := h.err.imp fun m hm => ⟨(hb.cell (p := ⟨2, 0, none⟩) (Nat.lt_of_lt_of_le (by decide) h.lt)).trans hm.1, hm.2⟩
  pow := tab_below h.pow hb (fun g hg => Nat.lt_of_lt_of_le (Tryd.pow_glob g hg) h.lt)
  ends0 := (hb.cell (p := ⟨0, 0, none⟩) (Nat.lt_of_lt_of_le (by decide) h.lt)).trans h.ends0
  ends1 := (hb.cell (p := ⟨0, 1, none⟩) (Nat.lt_of_lt_of_le (by decide) h.lt)).trans h.ends1
  ends2 := (hb.cell (p := ⟨0, 2, none⟩) (Nat.lt_of_lt_of_le (by decide) h.lt)).trans h.ends2
  stops0 := (hb.cell (p := ⟨1, 0, none⟩) (Nat.lt_of_lt_of_le (by decide) h.lt)).trans h.stops0
  stops1 := (hb.cell (p := ⟨1, 1, none⟩) (Nat.lt_of_lt_of_le (by decide) h.lt)).trans h.stops1
  stops2 := (hb.cell (p := ⟨1, 2, none⟩) (Nat.lt_of_lt_of_le (by decide) h.lt)).trans h.stops2
  lt := h.lt
  le := Nat.le_trans h.le hb.size

/-- A line's words. -/
def wordsS (line : ByteArray) : List ByteArray := Lib.splitB ⟨#[32]⟩ 0 (Lib.countB line ⟨#[32]⟩) line
theorem wordsS_len (line : ByteArray) : (wordsS line).length = Lib.countB line ⟨#[32]⟩ + 1 := Lib.splitB_all ⟨#[32]⟩ (by decide) 0 _ line rfl
def keyS (line : ByteArray) : ByteArray := (wordsS line).getD 0 ByteArray.empty
def wordS (line : ByteArray) : ByteArray := if (wordsS line).length = 2 then (wordsS line).getD 1 ByteArray.empty else ByteArray.empty
def twoS (line : ByteArray) : Bool := decide ((wordsS line).length = 2)

/-- What take comes to. -/
def TakeP (V W : World) (R base : Nat) (x : Scr) (q : Int) (line : ByteArray) (e : Ending) (w' : World) : Prop :=
  Below base W w' ∧ ∃ vp vt vk x' q', e = .returned (.int .i64 (lineS x q (keyS line) (wordS line) (twoS line)).1) ∧ RdS V w' R base vp vt vk x' q' ∧
    ((lineS x q (keyS line) (wordS line) (twoS line)).1 = 0 → (lineS x q (keyS line) (wordS line) (twoS line)).2 = (x', q'))

theorem take_words (line : ByteArray) (hl : line.size ≤ 100000) (W : World) : ∃ W1 n, Lib.countB line ⟨#[32]⟩ + 1 = n ∧ W.alloc (.cells ((Lib.splitB ⟨#[32]⟩ 0 (Lib.countB line ⟨#[32]⟩) line).map Value.string).toArray 9) = W1 ∧ Below W.heap.size W W1 ∧ 0 < n ∧ n ≤ 100001 ∧
    W1.cell? ⟨W.heap.size, 0, none⟩ = some (.string (keyS line)) ∧ (n = 2 → W1.cell? ⟨W.heap.size, 1, none⟩ = some (.string (wordS line))) ∧ (n ≠ 2 → wordS line = ByteArray.empty) ∧ twoS line = decide (n = 2) := by
  have hlen := wordsS_len line
  have hle := Lib.countB_le ⟨#[32]⟩ (by decide) line.size line (Nat.le_refl _)
  have hc : ∀ j, j < (wordsS line).length → (W.alloc (.cells ((wordsS line).map Value.string).toArray 9)).cell? ⟨W.heap.size, j, none⟩ = some (.string ((wordsS line).getD j ByteArray.empty)) := by
    intro j hj
    rw [World.cell?_alloc_new]
    rw [List.getElem?_toArray, List.getElem?_map, List.getD_eq_getElem?_getD, List.getElem?_eq_getElem hj]
    rfl
  refine ⟨_, _, rfl, rfl, (Below.refl _ W).alloc (Nat.le_refl _) _, by omega, by omega, hc 0 (by omega), fun h2 => ?_, fun h2 => ?_, ?_⟩
  · rw [show wordS line = (wordsS line).getD 1 ByteArray.empty from if_pos (by omega)]
    exact hc 1 (by omega)
  · exact if_neg (by omega)
  · unfold twoS; rw [hlen]

theorem key_ne {s : ByteArray} {l : List UInt8} (h : s.data.toList ≠ l) : (s.toList == l) = false := by rw [Lib.toList_data]; simpa using h
theorem key_eq {s : ByteArray} {l : List UInt8} (h : s.data.toList = l) : (s.toList == l) = true := by rw [Lib.toList_data]; simpa using h

set_option maxHeartbeats 2000000 in
set_option maxRecDepth 100000 in
theorem take_else {V W : World} {R base : Nat} {vp vt vk : Value} {x : Scr} {q : Int} (h : RdS V W R base vp vt vk x q) (hT : Tabs W base) (line : ByteArray) (hl : line.size ≤ 100000)
    (h1 : (keyS line).data.toList ≠ kUp) (h2 : (keyS line).data.toList ≠ kTake) (h3 : (keyS line).data.toList ≠ kEnd) (h4 : (keyS line).data.toList ≠ kStop) (h5 : (keyS line).data.toList ≠ kPick) :
    Calls Tryd.prog 61 #[.pointer (some ⟨R, 0, none⟩), .string line] W (TakeP V W R base x q line) := by
  obtain ⟨m, hm⟩ := hT.maxLen
  have hS := Lib.hid (Tryd.strings_Split line ⟨#[32]⟩ m W (by omega) hm (by decide))
  have HH := Lib.hid h
  clear h hm
  go_enter Tryd.func61, Tryd.ntmps61
  go_wp2_with fail
  refine hS.out.mono ?_; rintro e w1 ⟨rfl, rfl⟩; dsimp only
  obtain ⟨W1, n, en, ew, hb1, hn0, hn1, k0, k1, k2, k3⟩ := take_words line hl W
  rw [ew, en]
  have HB1 := Lib.hid hb1
  have HR := Lib.hid (HH.out.below hb1)
  have g1 := key_ne h1
  have g2 := key_ne h2
  have g3 := key_ne h3
  have g4 := key_ne h4
  have g5 := key_ne h5
  have HL := Lib.hid (show (lineS x q (keyS line) (wordS line) (twoS line)).1 = 10 by unfold lineS; rw [if_neg h1, if_neg h2, if_neg h3, if_neg h4, if_neg h5])
  unfold kUp at g1
  unfold kTake at g2
  unfold kEnd at g3
  unfold kStop at g4
  unfold kPick at g5
  clear h1 h2 h3 h4 h5 ew en hb1 k2 k3
  have k1' := Lib.hid k1
  clear k1
  by_cases e2 : n = 2
  · subst e2
    have k1 := k1'.out rfl
    go_wp2_with fail
    go_ret
    exact ⟨HB1.out.mono hT.le, _, _, _, _, _, ret_int HL.out.symm, HR.out, fun h => by rw [HL.out] at h; cases h⟩
  · have e3 : ((n : Int) == 2) = false := by simp; omega
    go_wp2_with fail
    go_ret
    exact ⟨HB1.out.mono hT.le, _, _, _, _, _, ret_int HL.out.symm, HR.out, fun h => by rw [HL.out] at h; cases h⟩

theorem bytesS_empty : bytesS ⟨#[]⟩ = none := by
  have h : hexS [] = ⟨#[45]⟩ := rfl
  unfold bytesS
  rw [if_neg (by simp), if_neg]
  rintro ⟨_, h2⟩
  have h3 : hexS (pairs ([] : List UInt8)) = (⟨#[]⟩ : ByteArray) := h2
  have h4 := congrArg (fun b : ByteArray => b.size) h3
  have h5 : (hexS (pairs ([] : List UInt8))).size = 1 := rfl
  rw [h5] at h4
  cases h4
theorem Tryd.info_bytes : (Tryd.prog.info? 25).map (fun i => (i.zero, i.size, i.bytes)) = some (some (.slice none 0 0), 1, 24) := by kernel_rfl

set_option maxHeartbeats 4000000 in
set_option maxRecDepth 100000 in
theorem take_up {V W : World} {R base : Nat} {vp vt vk : Value} {x : Scr} {q : Int} (h : RdS V W R base vp vt vk x q) (hT : Tabs W base) (line : ByteArray) (hl : line.size ≤ 100000) (hp : x.pieces.length ≤ 100000)
    (hw : (wordS line).size ≤ 100000) (hRb : base ≤ R) (h1 : (keyS line).data.toList = kUp) :
    Calls Tryd.prog 61 #[.pointer (some ⟨R, 0, none⟩), .string line] W (TakeP V W R base x q line) := by
  obtain ⟨m, hm⟩ := hT.maxLen
  have hS := Lib.hid (Tryd.strings_Split line ⟨#[32]⟩ m W (by omega) hm (by decide))
  have HH := Lib.hid h
  clear h hm
  go_enter Tryd.func61, Tryd.ntmps61
  go_wp2_with fail
  refine hS.out.mono ?_; rintro e w1 ⟨rfl, rfl⟩; dsimp only
  obtain ⟨W1, n, en, ew, hb1, hn0, hn1, k0, k1, k2, k3⟩ := take_words line hl W
  rw [ew, en]
  have HB1 := Lib.hid hb1
  have HR := Lib.hid (HH.out.below hb1)
  have hz1 := hb1.size
  have hT1 := hT.below (hb1.mono hT.le)
  obtain ⟨ev, hev1, hev2⟩ := hT1.err
  have hTl := hT1.lt
  have hTe := hT1.le
  have g1 := key_eq h1
  have Hk := Lib.hid h1
  have hk1 : (keyS line).toList = [117, 112] := by rw [Lib.toList_data]; exact h1
  have g3 : ((keyS line).toList == [101, 110, 100]) = false := by rw [hk1]; rfl
  have g4 : ((keyS line).toList == [115, 116, 111, 112]) = false := by rw [hk1]; rfl
  have g5 : ((keyS line).toList == [112, 105, 99, 107]) = false := by rw [hk1]; rfl
  unfold kUp at g1
  have HK := Lib.hid (show W.heap.size < W1.heap.size from World.block_lt_of_cell? W1 _ k0)
  clear h1 ew en hb1 hk1 hS
  by_cases e2 : n = 2
  · subst e2
    have k1 := k1 rfl
    rw [show decide (2 = 2) = true from rfl] at k3
    have H3 := Lib.hid k3
    have hBy := Lib.hid (Bytes_any (wordS line) hw ev W1 hev1 hev2 (by omega))
    clear k3 hev1 hev2 k2
    go_wp2_with fail
    refine hBy.out.mono ?_; rintro e w2 ⟨v, rfl, hv, hb2⟩; dsimp only
    have HB2 := Lib.hid hb2
    have HV := Lib.hid hv
    have HR2 := Lib.hid (HR.out.below hb2)
    have hz2 := hb2.size
    clear hv hb2 hBy
    cases hb : bytesS (wordS line) with
    | none =>
      have HL3 := Lib.hid (congrArg Prod.fst (lineS_up_bad (x := x) (q := q) (two := twoS line) Hk.out (.inr (.inr hb))))
      clear hb
      dsimp only [Option.isSome]
      go_wp2_with fail
      go_ret
      exact ⟨(HB1.out.mono hT.le).trans (HB2.out.mono (by omega)), _, _, _, _, _, ret_int HL3.out.symm, HR2.out, fun h => by rw [HL3.out] at h; cases h⟩
    | some b =>
      have HV1 := HV.out
      rw [hb] at HV1
      have HVb : Kd.R (Kd.int .u8) 5 w2 base (fun k => W1.heap.size ≤ k) v b := Kd.R_lower (Kd.R_mono (Kd.R_bound HV1) (fun k hk => hk.2.1)) (by omega)
      have HVB := Lib.hid HVb
      have Hb := Lib.hid hb
      obtain ⟨A, c, rfl⟩ := Kd.R_slice HVb
      clear hb HV1 HVb HV
      have r0 := HR2.out.c0
      have hO := HR2.out.rows.pie
      have hBb := Lib.hid ((HB1.out.mono hT.le).trans (HB2.out.mono (by omega)))
      dsimp only [Option.isSome]
      have hokp := Lib.hid (R_fresh HR.out.rows.pie)
      have hpl : (x.pieces.length + 1) * 24 ≤ 140737488355328 := by omega
      go_wp2_with (at_builtin; refine Kd.R_append (w0 := W) KBB base rfl _ _ 47 25 (.slice none 0 0) 24 rfl Tryd.underlying47 Tryd.info_bytes rfl (by decide) (by decide) vp x.pieces b [.slice A b.length c] (fun _ => True) (fun k => W1.heap.size ≤ k) rfl rfl ⟨_, rfl, HVB.out⟩ hokp.out (fun _ _ => trivial) hO hBb.out (by omega) hpl ?_)
      intro v1 w3 hO1 hB3 hg3 hat3
      have hgA : w2.grownBy w3 vp.ownBlock := ⟨hg3.os, hg3.tape, hg3.output, by have := hg3.size; omega, fun k hk hx => hg3.block k hk hx⟩
      obtain ⟨A1, c1, rfl⟩ := Kd.R_slice hO1
      rw [show (x.pieces ++ [b]).length = x.pieces.length + 1 by simp] at hO1 ⊢
      have HR3 := Lib.hid (HR2.out.addPiece hgA hO1)
      have hRne : some R ≠ vp.ownBlock := Kd.R_ne HR2.out.rows.pie HR2.out.box RdS.ne3.1.symm
      have hRl := lt_of_heap HR2.out.box
      have d0 : w3.cell? ⟨R, 0, none⟩ = some vp := (World.cell?_of_block (a := ⟨R, 0, none⟩) (hgA.block R hRl hRne)).trans r0
      have f0 : w3.frozen? ⟨R, 0, none⟩ = false := (World.frozen?_of_block (a := ⟨R, 0, none⟩) (hgA.block R hRl hRne)).trans (HR2.out.f 0)
      have d5 := HR3.out.c5
      have HB3 := Lib.hid (show Below base W (w3.setCell ⟨R, 0, none⟩ (.slice A1 (x.pieces.length + 1) c1)) from hB3.setCell (p := ⟨R, 0, none⟩) hRb _)
      clear hO1 hB3 hg3 hat3 hgA hRne hRl r0 hO hokp hpl
      by_cases hq : q = 0
      · subst hq
        have HL := Lib.hid (lineS_up_ok (x := x) (q := 0) (two := twoS line) Hk.out rfl H3.out Hb.out)
        go_wp2_with fail
        go_ret
        exact ⟨HB3.out, _, _, _, _, _, ret_int (by rw [HL.out]), HR3.out, fun _ => by rw [HL.out]⟩
      · have hq1 : (q == 0) = false := by simpa using hq
        have HL := Lib.hid (congrArg Prod.fst (lineS_up_bad (x := x) (q := q) (two := twoS line) (word := wordS line) Hk.out (.inl hq)))
        go_wp2_with fail
        go_ret
        exact ⟨HB3.out, _, _, _, _, _, ret_int HL.out.symm, HR3.out, fun h => by rw [HL.out] at h; cases h⟩
  · have e3 : ((n : Int) == 2) = false := by simp; omega
    have hw0 := k2 e2
    have H3 := Lib.hid (show twoS line = false by rw [k3]; exact decide_eq_false e2)
    have hBy := Lib.hid (Bytes_any ⟨#[]⟩ (by decide) ev W1 hev1 hev2 (by omega))
    have HL3 := Lib.hid (congrArg Prod.fst (lineS_up_bad (x := x) (q := q) (word := wordS line) Hk.out (.inr (.inl H3.out))))
    clear k3 k1 k2 hev1 hev2 hw0
    go_wp2_with fail
    refine hBy.out.mono ?_; rintro e w2 ⟨v, rfl, hv, hb2⟩; dsimp only
    have HB2 := Lib.hid hb2
    have HR2 := Lib.hid (HR.out.below hb2)
    clear hv hb2 hBy
    rw [bytesS_empty]
    dsimp only [Option.isSome]
    go_wp2_with fail
    go_ret
    exact ⟨(HB1.out.mono hT.le).trans (HB2.out.mono (by omega)), _, _, _, _, _, ret_int HL3.out.symm, HR2.out, fun h => by rw [HL3.out] at h; cases h⟩

end Go.Proofs.YtplcfijcmihhlaaDoor

namespace Go.Proofs.YtplcfijcmihhlaaDoor
open Go.RowKit Go.Proofs.YtplcfijcmihhlaaDoorW.PrintWords
set_option linter.unusedVariables false
set_option linter.unusedSimpArgs false

theorem R_freshK {α : Type} {d : Kd α} {e : Nat} {w : World} {base : Nat} {ok : Nat → Prop} {v : Value} {xs : List α} (h : d.R e w base ok v xs) : ∀ k, w.heap.size ≤ k → some k ≠ v.ownBlock := fun k hk => (R_fresh h k hk).2
theorem bad_take {x : Scr} {q : Int} {key word : ByteArray} {two : Bool} (hk : key.data.toList = kTake) (h : isTake word = false ∨ q ≠ 1 ∨ two = false) : (lineS x q key word two).1 = 2 := by
  rw [lineS_take hk, if_neg]
  rintro ⟨h1, h2, h3⟩
  rcases h with h | h | h
  · rw [h1] at h; cases h
  · exact h h2
  · rw [h3] at h; cases h
theorem ok_take {x : Scr} {key word : ByteArray} {two : Bool} (hk : key.data.toList = kTake) (h : isTake word = true) (h2 : two = true) : lineS x 1 key word two = (0, { x with takes := x.takes ++ [(numS word.data.toList).1] }, 1) := by
  rw [lineS_take hk, if_pos ⟨h, rfl, h2⟩]
theorem numFold_bd : ∀ (l : List UInt8) (p : Int × Bool), allDec l = true → 0 ≤ p.1 → p.1 ≤ 4611686018427387903 → 0 ≤ (l.foldl numStep p).1 ∧ (l.foldl numStep p).1 ≤ 4611686018427387903
  | [], p, _, h0, h1 => ⟨h0, h1⟩
  | c :: l, p, hd, h0, h1 => by
    rw [show c :: l = [c] ++ l from rfl, allDec_app, Bool.and_eq_true] at hd
    have hc : isDec c = true := by simpa [allDec] using hd.1
    have := numStep_bd p c h0 h1 hc
    exact numFold_bd l _ hd.2 this.1 this.2
theorem numS_bd (l : List UInt8) : 0 ≤ (numS l).1 ∧ (numS l).1 ≤ 4611686018427387903 := by
  unfold numS
  by_cases h : allDec l = true
  · rw [if_pos h]
    have := numFold_bd l (0, false) h (by decide) (by decide)
    split
    · exact ⟨by decide, by decide⟩
    · split
      · exact ⟨by decide, by decide⟩
      · exact this
  · rw [if_neg h]; exact ⟨by decide, by decide⟩

set_option maxHeartbeats 4000000 in
set_option maxRecDepth 100000 in
theorem take_take {V W : World} {R base : Nat} {vp vt vk : Value} {x : Scr} {q : Int} (h : RdS V W R base vp vt vk x q) (hT : Tabs W base) (line : ByteArray) (hl : line.size ≤ 100000) (hp : x.takes.length ≤ 100000)
    (hw : (wordS line).size ≤ 100000) (hRb : base ≤ R) (h1 : (keyS line).data.toList = kTake) :
    Calls Tryd.prog 61 #[.pointer (some ⟨R, 0, none⟩), .string line] W (TakeP V W R base x q line) := by
  obtain ⟨m, hm⟩ := hT.maxLen
  have hS := Lib.hid (Tryd.strings_Split line ⟨#[32]⟩ m W (by omega) hm (by decide))
  have HH := Lib.hid h
  clear h hm
  go_enter Tryd.func61, Tryd.ntmps61
  go_wp2_with fail
  refine hS.out.mono ?_; rintro e w1 ⟨rfl, rfl⟩; dsimp only
  obtain ⟨W1, n, en, ew, hb1, hn0, hn1, k0, k1, k2, k3⟩ := take_words line hl W
  rw [ew, en]
  have HB1 := Lib.hid hb1
  have HR := Lib.hid (HH.out.below hb1)
  have hz1 := hb1.size
  have hT1 := hT.below (hb1.mono hT.le)
  have hTl := hT1.lt
  have hTe := hT1.le
  have Hk := Lib.hid h1
  have hk1 : (keyS line).toList = [116, 97, 107, 101] := by rw [Lib.toList_data]; exact h1
  have g1 : ((keyS line).toList == [117, 112]) = false := by rw [hk1]; rfl
  have g2 : ((keyS line).toList == [116, 97, 107, 101]) = true := by rw [hk1]; rfl
  have g3 : ((keyS line).toList == [101, 110, 100]) = false := by rw [hk1]; rfl
  have g4 : ((keyS line).toList == [115, 116, 111, 112]) = false := by rw [hk1]; rfl
  have g5 : ((keyS line).toList == [112, 105, 99, 107]) = false := by rw [hk1]; rfl
  have HK := Lib.hid (show W.heap.size < W1.heap.size from World.block_lt_of_cell? W1 _ k0)
  clear h1 ew en hb1 hk1 hS
  by_cases e2 : n = 2
  · subst e2
    have k1 := k1 rfl
    have H3 : Hid (twoS line = true) := Lib.hid k3
    have hNu := Lib.hid (Number_any (wordS line) hw W1)
    have hbd := numS_bd (wordS line).data.toList
    have HI := Lib.hid (show isTake (wordS line) = decide ((numS (wordS line).data.toList).2 = 0 ∧ (numS (wordS line).data.toList).1 ≤ 1073741824 ∧ Lib.decDigits (numS (wordS line).data.toList).1.toNat = (wordS line).data.toList) from rfl)
    have HOk := fun (hh : isTake (wordS line) = true) => ok_take (x := x) (two := twoS line) Hk.out hh H3.out
    clear k3 k2
    go_wp2_with fail
    refine hNu.out.mono ?_; rintro e w2 ⟨rfl, hb2⟩; dsimp only
    have HB2 := Lib.hid hb2
    have HR2 := Lib.hid (HR.out.below hb2)
    have hz2 := hb2.size
    have hT2 := hT1.below (hb2.mono hTe)
    have HP := Lib.hid hT2.pow
    have HBb := Lib.hid ((HB1.out.mono hT.le).trans (HB2.out.mono (by omega)))
    have HOK := Lib.hid HOk
    clear hb2 hNu HOk hT2
    generalize numS (wordS line).data.toList = p at *
    obtain ⟨nv, ev⟩ := p
    dsimp only at hbd ⊢
    obtain ⟨nv0, nv1⟩ := hbd
    by_cases hev : ev = 0
    · subst hev
      by_cases hle : nv ≤ 1073741824
      · obtain ⟨u, rfl⟩ : ∃ u : Nat, nv = u := ⟨nv.toNat, by omega⟩
        have hF := Lib.hid (FormatUint10 u (by omega) w2 HP.out)
        go_wp2_with fail
        refine hF.out.mono ?_; rintro e w3 ⟨rfl, hb3⟩; dsimp only
        have HR3' := Lib.hid (HR2.out.below hb3)
        have hz3 := hb3.size
        have HBc := Lib.hid (HBb.out.trans (hb3.mono (by omega)))
        clear hb3 hF
        by_cases hd : Lib.decDigits u = (wordS line).data.toList
        · have hs : (Lib.decDigits u == (wordS line).toList) = true := by rw [Lib.toList_data]; simpa using hd
          have hT0 := Lib.hid (show isTake (wordS line) = true by rw [HI.out]; exact decide_eq_true ⟨trivial, hle, hd⟩)
          clear hd
          have r2 := HR3'.out.c2
          have hO := HR3'.out.rows.tak
          have hfr := Lib.hid (R_freshK HR3'.out.rows.pic)
          have hpl : (x.takes.length + 1) * 8 ≤ 140737488355328 := by omega
          go_wp2_with (at_builtin; refine Kd.R_append (w0 := W) KI base rfl _ _ 30 3 (.int .i64 0) 8 rfl Tryd.underlying30 Tryd.info_i64 rfl (by decide) (by decide) vt x.takes (u : Int) [.int .i64 (u : Int)] (fun k => some k ≠ vk.ownBlock) (fun _ => False) rfl rfl rfl (fun k h => h.elim) hfr.out hO HBc.out (by omega) hpl ?_)
          intro v1 w9 hO1 hB3 hg3 hat3
          have hgA : w3.grownBy w9 vt.ownBlock := ⟨hg3.os, hg3.tape, hg3.output, by have := hg3.size; omega, fun k hk hx => hg3.block k hk hx⟩
          obtain ⟨A1, c1, rfl⟩ := Kd.R_slice hO1
          rw [show (x.takes ++ [(u : Int)]).length = x.takes.length + 1 by simp] at hO1 hat3 ⊢
          have HR3 := Lib.hid (HR3'.out.addTakes hgA hat3 hO1)
          have hRne : some R ≠ vt.ownBlock := Kd.R_ne HR3'.out.rows.tak HR3'.out.box RdS.ne3.2.2.symm
          have hRl := lt_of_heap HR3'.out.box
          have d0 : w9.cell? ⟨R, 2, none⟩ = some vt := (World.cell?_of_block (a := ⟨R, 2, none⟩) (hgA.block R hRl hRne)).trans r2
          have f0 : w9.frozen? ⟨R, 2, none⟩ = false := (World.frozen?_of_block (a := ⟨R, 2, none⟩) (hgA.block R hRl hRne)).trans (HR3'.out.f 2)
          have d5 := HR3.out.c5
          have HB3 := Lib.hid (show Below base W (w9.setCell ⟨R, 2, none⟩ (.slice A1 (x.takes.length + 1) c1)) from hB3.setCell (p := ⟨R, 2, none⟩) hRb _)
          clear hO1 hB3 hg3 hat3 hgA hRne hRl r2 hO hfr hpl
          by_cases hq : q = 1
          · subst hq
            have HL := Lib.hid (HOK.out hT0.out)
            go_wp2_with fail
            go_ret
            exact ⟨HB3.out, _, _, _, _, _, ret_int (by rw [HL.out]), HR3.out, fun _ => by rw [HL.out]⟩
          · have HL := Lib.hid (bad_take (x := x) (q := q) (word := wordS line) (two := twoS line) Hk.out (.inr (.inl hq)))
            go_wp2_with fail
            go_ret
            exact ⟨HB3.out, _, _, _, _, _, ret_int HL.out.symm, HR3.out, fun h => by rw [HL.out] at h; cases h⟩
        · have hs : (Lib.decDigits u == (wordS line).toList) = false := by rw [Lib.toList_data]; simpa using hd
          have hT0 := Lib.hid (show isTake (wordS line) = false by rw [HI.out]; exact decide_eq_false (fun h => hd h.2.2))
          clear hd
          have r2 := HR3'.out.c2
          have hO := HR3'.out.rows.tak
          have hfr := Lib.hid (R_freshK HR3'.out.rows.pic)
          have hpl : (x.takes.length + 1) * 8 ≤ 140737488355328 := by omega
          go_wp2_with (at_builtin; refine Kd.R_append (w0 := W) KI base rfl _ _ 30 3 (.int .i64 0) 8 rfl Tryd.underlying30 Tryd.info_i64 rfl (by decide) (by decide) vt x.takes (u : Int) [.int .i64 (u : Int)] (fun k => some k ≠ vk.ownBlock) (fun _ => False) rfl rfl rfl (fun k h => h.elim) hfr.out hO HBc.out (by omega) hpl ?_)
          intro v1 w9 hO1 hB3 hg3 hat3
          have hgA : w3.grownBy w9 vt.ownBlock := ⟨hg3.os, hg3.tape, hg3.output, by have := hg3.size; omega, fun k hk hx => hg3.block k hk hx⟩
          obtain ⟨A1, c1, rfl⟩ := Kd.R_slice hO1
          rw [show (x.takes ++ [(u : Int)]).length = x.takes.length + 1 by simp] at hO1 hat3 ⊢
          have HR3 := Lib.hid (HR3'.out.addTakes hgA hat3 hO1)
          have hRne : some R ≠ vt.ownBlock := Kd.R_ne HR3'.out.rows.tak HR3'.out.box RdS.ne3.2.2.symm
          have hRl := lt_of_heap HR3'.out.box
          have d0 : w9.cell? ⟨R, 2, none⟩ = some vt := (World.cell?_of_block (a := ⟨R, 2, none⟩) (hgA.block R hRl hRne)).trans r2
          have f0 : w9.frozen? ⟨R, 2, none⟩ = false := (World.frozen?_of_block (a := ⟨R, 2, none⟩) (hgA.block R hRl hRne)).trans (HR3'.out.f 2)
          have d5 := HR3.out.c5
          have HB3 := Lib.hid (show Below base W (w9.setCell ⟨R, 2, none⟩ (.slice A1 (x.takes.length + 1) c1)) from hB3.setCell (p := ⟨R, 2, none⟩) hRb _)
          clear hO1 hB3 hg3 hat3 hgA hRne hRl r2 hO hfr hpl
          have HL := Lib.hid (bad_take (x := x) (q := q) (word := wordS line) (two := twoS line) Hk.out (.inl hT0.out))
          go_wp2_with fail
          go_ret
          exact ⟨HB3.out, _, _, _, _, _, ret_int HL.out.symm, HR3.out, fun h => by rw [HL.out] at h; cases h⟩
      · have hle' : decide (nv ≤ 1073741824) = false := decide_eq_false hle
        have hT0 := Lib.hid (show isTake (wordS line) = false by rw [HI.out]; exact decide_eq_false (fun h => hle h.2.1))
        have r2 := HR2.out.c2
        have hO := HR2.out.rows.tak
        have hfr := Lib.hid (R_freshK HR2.out.rows.pic)
        have hpl : (x.takes.length + 1) * 8 ≤ 140737488355328 := by omega
        go_wp2_with (at_builtin; refine Kd.R_append (w0 := W) KI base rfl _ _ 30 3 (.int .i64 0) 8 rfl Tryd.underlying30 Tryd.info_i64 rfl (by decide) (by decide) vt x.takes nv [.int .i64 nv] (fun k => some k ≠ vk.ownBlock) (fun _ => False) rfl rfl rfl (fun k h => h.elim) hfr.out hO HBb.out (by omega) hpl ?_)
        intro v1 w9 hO1 hB3 hg3 hat3
        have hgA : w2.grownBy w9 vt.ownBlock := ⟨hg3.os, hg3.tape, hg3.output, by have := hg3.size; omega, fun k hk hx => hg3.block k hk hx⟩
        obtain ⟨A1, c1, rfl⟩ := Kd.R_slice hO1
        rw [show (x.takes ++ [nv]).length = x.takes.length + 1 by simp] at hO1 hat3 ⊢
        have HR3 := Lib.hid (HR2.out.addTakes hgA hat3 hO1)
        have hRne : some R ≠ vt.ownBlock := Kd.R_ne HR2.out.rows.tak HR2.out.box RdS.ne3.2.2.symm
        have hRl := lt_of_heap HR2.out.box
        have d0 : w9.cell? ⟨R, 2, none⟩ = some vt := (World.cell?_of_block (a := ⟨R, 2, none⟩) (hgA.block R hRl hRne)).trans r2
        have f0 : w9.frozen? ⟨R, 2, none⟩ = false := (World.frozen?_of_block (a := ⟨R, 2, none⟩) (hgA.block R hRl hRne)).trans (HR2.out.f 2)
        have d5 := HR3.out.c5
        have HB3 := Lib.hid (show Below base W (w9.setCell ⟨R, 2, none⟩ (.slice A1 (x.takes.length + 1) c1)) from hB3.setCell (p := ⟨R, 2, none⟩) hRb _)
        clear hO1 hB3 hg3 hat3 hgA hRne hRl r2 hO hfr hpl
        have HL := Lib.hid (bad_take (x := x) (q := q) (word := wordS line) (two := twoS line) Hk.out (.inl hT0.out))
        go_wp2_with fail
        go_ret
        exact ⟨HB3.out, _, _, _, _, _, ret_int HL.out.symm, HR3.out, fun h => by rw [HL.out] at h; cases h⟩
    · have hT0 := Lib.hid (show isTake (wordS line) = false by rw [HI.out]; exact decide_eq_false (fun h => hev h.1))
      have he1 : (ev == 0) = false := by simpa using hev
      have r2 := HR2.out.c2
      have hO := HR2.out.rows.tak
      have hfr := Lib.hid (R_freshK HR2.out.rows.pic)
      have hpl : (x.takes.length + 1) * 8 ≤ 140737488355328 := by omega
      go_wp2_with (at_builtin; refine Kd.R_append (w0 := W) KI base rfl _ _ 30 3 (.int .i64 0) 8 rfl Tryd.underlying30 Tryd.info_i64 rfl (by decide) (by decide) vt x.takes nv [.int .i64 nv] (fun k => some k ≠ vk.ownBlock) (fun _ => False) rfl rfl rfl (fun k h => h.elim) hfr.out hO HBb.out (by omega) hpl ?_)
      intro v1 w9 hO1 hB3 hg3 hat3
      have hgA : w2.grownBy w9 vt.ownBlock := ⟨hg3.os, hg3.tape, hg3.output, by have := hg3.size; omega, fun k hk hx => hg3.block k hk hx⟩
      obtain ⟨A1, c1, rfl⟩ := Kd.R_slice hO1
      rw [show (x.takes ++ [nv]).length = x.takes.length + 1 by simp] at hO1 hat3 ⊢
      have HR3 := Lib.hid (HR2.out.addTakes hgA hat3 hO1)
      have hRne : some R ≠ vt.ownBlock := Kd.R_ne HR2.out.rows.tak HR2.out.box RdS.ne3.2.2.symm
      have hRl := lt_of_heap HR2.out.box
      have d0 : w9.cell? ⟨R, 2, none⟩ = some vt := (World.cell?_of_block (a := ⟨R, 2, none⟩) (hgA.block R hRl hRne)).trans r2
      have f0 : w9.frozen? ⟨R, 2, none⟩ = false := (World.frozen?_of_block (a := ⟨R, 2, none⟩) (hgA.block R hRl hRne)).trans (HR2.out.f 2)
      have d5 := HR3.out.c5
      have HB3 := Lib.hid (show Below base W (w9.setCell ⟨R, 2, none⟩ (.slice A1 (x.takes.length + 1) c1)) from hB3.setCell (p := ⟨R, 2, none⟩) hRb _)
      clear hO1 hB3 hg3 hat3 hgA hRne hRl r2 hO hfr hpl
      have HL := Lib.hid (bad_take (x := x) (q := q) (word := wordS line) (two := twoS line) Hk.out (.inl hT0.out))
      go_wp2_with fail
      go_ret
      exact ⟨HB3.out, _, _, _, _, _, ret_int HL.out.symm, HR3.out, fun h => by rw [HL.out] at h; cases h⟩
  · have e3 : ((n : Int) == 2) = false := by simp; omega
    have H3 := Lib.hid (show twoS line = false by rw [k3]; exact decide_eq_false e2)
    have hNu := Lib.hid (Number_any ⟨#[]⟩ (by decide) W1)
    clear k3 k1 k2
    go_wp2_with fail
    refine hNu.out.mono ?_; rintro e w2 ⟨rfl, hb2⟩; dsimp only
    have HB2 := Lib.hid hb2
    have HR2 := Lib.hid (HR.out.below hb2)
    have hz2 := hb2.size
    have HBb := Lib.hid ((HB1.out.mono hT.le).trans (HB2.out.mono (by omega)))
    clear hb2 hNu
    rw [show numS (⟨#[]⟩ : ByteArray).data.toList = (0, 2) from rfl]
    dsimp only
    have r2 := HR2.out.c2
    have hO := HR2.out.rows.tak
    have hfr := Lib.hid (R_freshK HR2.out.rows.pic)
    have hpl : (x.takes.length + 1) * 8 ≤ 140737488355328 := by omega
    go_wp2_with (at_builtin; refine Kd.R_append (w0 := W) KI base rfl _ _ 30 3 (.int .i64 0) 8 rfl Tryd.underlying30 Tryd.info_i64 rfl (by decide) (by decide) vt x.takes (0 : Int) [.int .i64 (0 : Int)] (fun k => some k ≠ vk.ownBlock) (fun _ => False) rfl rfl rfl (fun k h => h.elim) hfr.out hO HBb.out (by omega) hpl ?_)
    intro v1 w9 hO1 hB3 hg3 hat3
    have hgA : w2.grownBy w9 vt.ownBlock := ⟨hg3.os, hg3.tape, hg3.output, by have := hg3.size; omega, fun k hk hx => hg3.block k hk hx⟩
    obtain ⟨A1, c1, rfl⟩ := Kd.R_slice hO1
    rw [show (x.takes ++ [(0 : Int)]).length = x.takes.length + 1 by simp] at hO1 hat3 ⊢
    have HR3 := Lib.hid (HR2.out.addTakes hgA hat3 hO1)
    have hRne : some R ≠ vt.ownBlock := Kd.R_ne HR2.out.rows.tak HR2.out.box RdS.ne3.2.2.symm
    have hRl := lt_of_heap HR2.out.box
    have d0 : w9.cell? ⟨R, 2, none⟩ = some vt := (World.cell?_of_block (a := ⟨R, 2, none⟩) (hgA.block R hRl hRne)).trans r2
    have f0 : w9.frozen? ⟨R, 2, none⟩ = false := (World.frozen?_of_block (a := ⟨R, 2, none⟩) (hgA.block R hRl hRne)).trans (HR2.out.f 2)
    have d5 := HR3.out.c5
    have HB3 := Lib.hid (show Below base W (w9.setCell ⟨R, 2, none⟩ (.slice A1 (x.takes.length + 1) c1)) from hB3.setCell (p := ⟨R, 2, none⟩) hRb _)
    clear hO1 hB3 hg3 hat3 hgA hRne hRl r2 hO hfr hpl
    have HL := Lib.hid (bad_take (x := x) (q := q) (word := wordS line) (two := twoS line) Hk.out (.inr (.inr H3.out)))
    go_wp2_with fail
    go_ret
    exact ⟨HB3.out, _, _, _, _, _, ret_int HL.out.symm, HR3.out, fun h => by rw [HL.out] at h; cases h⟩

end Go.Proofs.YtplcfijcmihhlaaDoor

namespace Go.Proofs.YtplcfijcmihhlaaDoor
open Go.RowKit Go.Proofs.YtplcfijcmihhlaaDoorW.PrintWords
set_option linter.unusedVariables false
set_option linter.unusedSimpArgs false

theorem idx3_eq (a b c : List UInt8) (w : ByteArray) : Lib.idxOfS ([(⟨a.toArray⟩ : ByteArray), ⟨b.toArray⟩, ⟨c.toArray⟩].take 3) w = idx3 a b c w.data.toList := by
  have key : ∀ l : List UInt8, ((⟨l.toArray⟩ : ByteArray) = w) ↔ (w.data.toList = l) := fun l =>
    ⟨fun h => by rw [← h], fun h => by rw [← h]⟩
  unfold Lib.idxOfS idx3
  simp only [List.take_succ_cons, List.take_zero, Lib.idxFromS, beq_iff_eq, key]
  split
  · rfl
  · split
    · rfl
    · split <;> rfl
theorem idx3_bd (a b c w : List UInt8) : -1 ≤ idx3 a b c w ∧ idx3 a b c w ≤ 2 := by unfold idx3; split <;> (try split) <;> (try split) <;> omega

set_option maxHeartbeats 4000000 in
set_option maxRecDepth 100000 in
theorem take_end {V W : World} {R base : Nat} {vp vt vk : Value} {x : Scr} {q : Int} (h : RdS V W R base vp vt vk x q) (hT : Tabs W base) (line : ByteArray) (hl : line.size ≤ 100000) 
    (hw : (wordS line).size ≤ 100000) (hRb : base ≤ R) (h1 : (keyS line).data.toList = kEnd) :
    Calls Tryd.prog 61 #[.pointer (some ⟨R, 0, none⟩), .string line] W (TakeP V W R base x q line) := by
  obtain ⟨m, hm⟩ := hT.maxLen
  have hS := Lib.hid (Tryd.strings_Split line ⟨#[32]⟩ m W (by omega) hm (by decide))
  have HH := Lib.hid h
  clear h hm
  go_enter Tryd.func61, Tryd.ntmps61
  go_wp2_with fail
  refine hS.out.mono ?_; rintro e w1 ⟨rfl, rfl⟩; dsimp only
  obtain ⟨W1, n, en, ew, hb1, hn0, hn1, k0, k1, k2, k3⟩ := take_words line hl W
  rw [ew, en]
  have HB1 := Lib.hid hb1
  have HR := Lib.hid (HH.out.below hb1)
  have hz1 := hb1.size
  have hT1 := hT.below (hb1.mono hT.le)
  have hTl := hT1.lt
  have hTe := hT1.le
  have Hk := Lib.hid h1
  have hk1 : (keyS line).toList = [101, 110, 100] := by rw [Lib.toList_data]; exact h1
  have g1 : ((keyS line).toList == [117, 112]) = false := by rw [hk1]; rfl
  have g2 : ((keyS line).toList == [116, 97, 107, 101]) = false := by rw [hk1]; rfl
  have g3 : ((keyS line).toList == [101, 110, 100]) = true := by rw [hk1]; rfl
  have g4 : ((keyS line).toList == [115, 116, 111, 112]) = false := by rw [hk1]; rfl
  have g5 : ((keyS line).toList == [112, 105, 99, 107]) = false := by rw [hk1]; rfl
  have HK := Lib.hid (show W.heap.size < W1.heap.size from World.block_lt_of_cell? W1 _ k0)
  clear h1 ew en hb1 hk1 hS
  have z0 := hT1.ends0
  have z1 := hT1.ends1
  have z2 := hT1.ends2
  have hcell : ∀ j, j < [(⟨wSilent.toArray⟩ : ByteArray), ⟨wClosed.toArray⟩, ⟨wReset.toArray⟩].length → W1.cell? ⟨0, 0 + j, none⟩ = some (.string ([(⟨wSilent.toArray⟩ : ByteArray), ⟨wClosed.toArray⟩, ⟨wReset.toArray⟩].getD j ByteArray.empty)) := by
    intro j hj
    rw [Nat.zero_add]
    have : j = 0 ∨ j = 1 ∨ j = 2 := by simp at hj; omega
    rcases this with rfl | rfl | rfl
    · exact z0
    · exact z1
    · exact z2
  have HX := fun wd => Lib.hid (Tryd.slices_Index_string 0 0 3 3 [(⟨wSilent.toArray⟩ : ByteArray), ⟨wClosed.toArray⟩, ⟨wReset.toArray⟩] wd W1 (by decide) (by decide) hcell)
  have HRb := Lib.hid hRb
  clear z0 z1 z2 hcell
  have r1 := HR.out.c1
  have f1 := HR.out.f 1
  by_cases e2 : n = 2
  · subst e2
    have k1 := k1 rfl
    have H3 : Hid (twoS line = true) := Lib.hid k3
    have HX1 := Lib.hid (show Lib.idxOfS ([(⟨wSilent.toArray⟩ : ByteArray), ⟨wClosed.toArray⟩, ⟨wReset.toArray⟩].take 3) (wordS line) = idx3 wSilent wClosed wReset (wordS line).data.toList from idx3_eq _ _ _ _)
    have hib := idx3_bd wSilent wClosed wReset (wordS line).data.toList
    have HLx := Lib.hid (lineS_end (x := x) (q := q) (word := wordS line) (two := twoS line) Hk.out)
    clear k3 k2
    go_wp2_with fail
    refine (HX _).out.mono ?_; rintro e w2 ⟨rfl, rfl⟩; dsimp only
    rw [HX1.out]
    have HLx := HLx
    generalize idx3 wSilent wClosed wReset (wordS line).data.toList = i at *
    have HR3 := Lib.hid (HR.out.setEn i)
    have d5 := HR3.out.c5
    have f5 := HR3.out.f 5
    have HR4 := Lib.hid (HR3.out.setQ 1)
    have HBa := HB1.out.mono hT.le
    have HB3 := Lib.hid (show Below base W (w2.setCell ⟨R, 1, none⟩ (.int .i64 i)) from HBa.setCell (p := ⟨R, 1, none⟩) HRb.out _)
    have HB4 := Lib.hid (show Below base W ((w2.setCell ⟨R, 1, none⟩ (.int .i64 i)).setCell ⟨R, 5, none⟩ (.int .i64 1)) from HB3.out.setCell (p := ⟨R, 5, none⟩) HRb.out _)
    clear HBa HX HX1
    obtain ⟨i0, i1⟩ := hib
    by_cases hi : 0 ≤ i
    · by_cases hq : q = 0
      · subst hq
        have HL := Lib.hid (HLx.out.trans (if_pos ⟨hi, rfl, H3.out⟩))
        go_wp2_with fail
        go_ret
        exact ⟨HB4.out, _, _, _, _, _, ret_int (by rw [HL.out]), HR4.out, fun _ => by rw [HL.out]⟩
      · have HL := Lib.hid (congrArg Prod.fst (HLx.out.trans (if_neg (fun h => hq h.2.1))))
        go_wp2_with fail
        go_ret
        exact ⟨HB3.out, _, _, _, _, _, ret_int HL.out.symm, HR3.out, fun h => by rw [HL.out] at h; cases h⟩
    · have HL := Lib.hid (congrArg Prod.fst (HLx.out.trans (if_neg (fun h => hi h.1))))
      have hi2 : decide (0 ≤ i) = false := decide_eq_false hi
      go_wp2_with fail
      go_ret
      exact ⟨HB3.out, _, _, _, _, _, ret_int HL.out.symm, HR3.out, fun h => by rw [HL.out] at h; cases h⟩
  · have e3 : ((n : Int) == 2) = false := by simp; omega
    have H3 := Lib.hid (show twoS line = false by rw [k3]; exact decide_eq_false e2)
    have HX1 := Lib.hid (show Lib.idxOfS ([(⟨wSilent.toArray⟩ : ByteArray), ⟨wClosed.toArray⟩, ⟨wReset.toArray⟩].take 3) ⟨#[]⟩ = -1 from idx3_eq _ _ _ ⟨#[]⟩)
    have HL := Lib.hid (congrArg Prod.fst ((lineS_end (x := x) (q := q) (word := wordS line) (two := twoS line) Hk.out).trans (if_neg (fun h => by rw [H3.out] at h; cases h.2.2))))
    have HR3 := Lib.hid (HR.out.setEn (-1))
    have d5 := HR3.out.c5
    have HBa := HB1.out.mono hT.le
    have HB3 := Lib.hid (show Below base W (W1.setCell ⟨R, 1, none⟩ (.int .i64 (-1))) from HBa.setCell (p := ⟨R, 1, none⟩) HRb.out _)
    clear k3 k1 k2 HBa
    go_wp2_with fail
    refine (HX _).out.mono ?_; rintro e w2 ⟨rfl, rfl⟩; dsimp only
    rw [HX1.out]
    go_wp2_with fail
    go_ret
    exact ⟨HB3.out, _, _, _, _, _, ret_int HL.out.symm, HR3.out, fun h => by rw [HL.out] at h; cases h⟩

set_option maxHeartbeats 4000000 in
set_option maxRecDepth 100000 in
theorem take_stop {V W : World} {R base : Nat} {vp vt vk : Value} {x : Scr} {q : Int} (h : RdS V W R base vp vt vk x q) (hT : Tabs W base) (line : ByteArray) (hl : line.size ≤ 100000) 
    (hw : (wordS line).size ≤ 100000) (hRb : base ≤ R) (h1 : (keyS line).data.toList = kStop) :
    Calls Tryd.prog 61 #[.pointer (some ⟨R, 0, none⟩), .string line] W (TakeP V W R base x q line) := by
  obtain ⟨m, hm⟩ := hT.maxLen
  have hS := Lib.hid (Tryd.strings_Split line ⟨#[32]⟩ m W (by omega) hm (by decide))
  have HH := Lib.hid h
  clear h hm
  go_enter Tryd.func61, Tryd.ntmps61
  go_wp2_with fail
  refine hS.out.mono ?_; rintro e w1 ⟨rfl, rfl⟩; dsimp only
  obtain ⟨W1, n, en, ew, hb1, hn0, hn1, k0, k1, k2, k3⟩ := take_words line hl W
  rw [ew, en]
  have HB1 := Lib.hid hb1
  have HR := Lib.hid (HH.out.below hb1)
  have hz1 := hb1.size
  have hT1 := hT.below (hb1.mono hT.le)
  have hTl := hT1.lt
  have hTe := hT1.le
  have Hk := Lib.hid h1
  have hk1 : (keyS line).toList = [115, 116, 111, 112] := by rw [Lib.toList_data]; exact h1
  have g1 : ((keyS line).toList == [117, 112]) = false := by rw [hk1]; rfl
  have g2 : ((keyS line).toList == [116, 97, 107, 101]) = false := by rw [hk1]; rfl
  have g3 : ((keyS line).toList == [101, 110, 100]) = false := by rw [hk1]; rfl
  have g4 : ((keyS line).toList == [115, 116, 111, 112]) = true := by rw [hk1]; rfl
  have g5 : ((keyS line).toList == [112, 105, 99, 107]) = false := by rw [hk1]; rfl
  have HK := Lib.hid (show W.heap.size < W1.heap.size from World.block_lt_of_cell? W1 _ k0)
  clear h1 ew en hb1 hk1 hS
  have z0 := hT1.stops0
  have z1 := hT1.stops1
  have z2 := hT1.stops2
  have hcell : ∀ j, j < [(⟨wStuck.toArray⟩ : ByteArray), ⟨wFree.toArray⟩, ⟨wReset.toArray⟩].length → W1.cell? ⟨1, 0 + j, none⟩ = some (.string ([(⟨wStuck.toArray⟩ : ByteArray), ⟨wFree.toArray⟩, ⟨wReset.toArray⟩].getD j ByteArray.empty)) := by
    intro j hj
    rw [Nat.zero_add]
    have : j = 0 ∨ j = 1 ∨ j = 2 := by simp at hj; omega
    rcases this with rfl | rfl | rfl
    · exact z0
    · exact z1
    · exact z2
  have HX := fun wd => Lib.hid (Tryd.slices_Index_string 1 0 3 3 [(⟨wStuck.toArray⟩ : ByteArray), ⟨wFree.toArray⟩, ⟨wReset.toArray⟩] wd W1 (by decide) (by decide) hcell)
  have HRb := Lib.hid hRb
  clear z0 z1 z2 hcell
  have r1 := HR.out.c3
  have f1 := HR.out.f 3
  by_cases e2 : n = 2
  · subst e2
    have k1 := k1 rfl
    have H3 : Hid (twoS line = true) := Lib.hid k3
    have HX1 := Lib.hid (show Lib.idxOfS ([(⟨wStuck.toArray⟩ : ByteArray), ⟨wFree.toArray⟩, ⟨wReset.toArray⟩].take 3) (wordS line) = idx3 wStuck wFree wReset (wordS line).data.toList from idx3_eq _ _ _ _)
    have hib := idx3_bd wStuck wFree wReset (wordS line).data.toList
    have HLx := Lib.hid (lineS_stop (x := x) (q := q) (word := wordS line) (two := twoS line) Hk.out)
    clear k3 k2
    go_wp2_with fail
    refine (HX _).out.mono ?_; rintro e w2 ⟨rfl, rfl⟩; dsimp only
    rw [HX1.out]
    have HLx := HLx
    generalize idx3 wStuck wFree wReset (wordS line).data.toList = i at *
    have HR3 := Lib.hid (HR.out.setSt i)
    have d5 := HR3.out.c5
    have f5 := HR3.out.f 5
    have HR4 := Lib.hid (HR3.out.setQ 2)
    have HBa := HB1.out.mono hT.le
    have HB3 := Lib.hid (show Below base W (w2.setCell ⟨R, 3, none⟩ (.int .i64 i)) from HBa.setCell (p := ⟨R, 3, none⟩) HRb.out _)
    have HB4 := Lib.hid (show Below base W ((w2.setCell ⟨R, 3, none⟩ (.int .i64 i)).setCell ⟨R, 5, none⟩ (.int .i64 2)) from HB3.out.setCell (p := ⟨R, 5, none⟩) HRb.out _)
    clear HBa HX HX1
    obtain ⟨i0, i1⟩ := hib
    by_cases hi : 0 ≤ i
    · by_cases hq : q = 1
      · subst hq
        have HL := Lib.hid (HLx.out.trans (if_pos ⟨hi, rfl, H3.out⟩))
        go_wp2_with fail
        go_ret
        exact ⟨HB4.out, _, _, _, _, _, ret_int (by rw [HL.out]), HR4.out, fun _ => by rw [HL.out]⟩
      · have HL := Lib.hid (congrArg Prod.fst (HLx.out.trans (if_neg (fun h => hq h.2.1))))
        go_wp2_with fail
        go_ret
        exact ⟨HB3.out, _, _, _, _, _, ret_int HL.out.symm, HR3.out, fun h => by rw [HL.out] at h; cases h⟩
    · have HL := Lib.hid (congrArg Prod.fst (HLx.out.trans (if_neg (fun h => hi h.1))))
      have hi2 : decide (0 ≤ i) = false := decide_eq_false hi
      go_wp2_with fail
      go_ret
      exact ⟨HB3.out, _, _, _, _, _, ret_int HL.out.symm, HR3.out, fun h => by rw [HL.out] at h; cases h⟩
  · have e3 : ((n : Int) == 2) = false := by simp; omega
    have H3 := Lib.hid (show twoS line = false by rw [k3]; exact decide_eq_false e2)
    have HX1 := Lib.hid (show Lib.idxOfS ([(⟨wStuck.toArray⟩ : ByteArray), ⟨wFree.toArray⟩, ⟨wReset.toArray⟩].take 3) ⟨#[]⟩ = -1 from idx3_eq _ _ _ ⟨#[]⟩)
    have HL := Lib.hid (congrArg Prod.fst ((lineS_stop (x := x) (q := q) (word := wordS line) (two := twoS line) Hk.out).trans (if_neg (fun h => by rw [H3.out] at h; cases h.2.2))))
    have HR3 := Lib.hid (HR.out.setSt (-1))
    have d5 := HR3.out.c5
    have HBa := HB1.out.mono hT.le
    have HB3 := Lib.hid (show Below base W (W1.setCell ⟨R, 3, none⟩ (.int .i64 (-1))) from HBa.setCell (p := ⟨R, 3, none⟩) HRb.out _)
    clear k3 k1 k2 HBa
    go_wp2_with fail
    refine (HX _).out.mono ?_; rintro e w2 ⟨rfl, rfl⟩; dsimp only
    rw [HX1.out]
    go_wp2_with fail
    go_ret
    exact ⟨HB3.out, _, _, _, _, _, ret_int HL.out.symm, HR3.out, fun h => by rw [HL.out] at h; cases h⟩


end Go.Proofs.YtplcfijcmihhlaaDoor

namespace Go.Proofs.YtplcfijcmihhlaaDoor
open Go.RowKit Go.Proofs.YtplcfijcmihhlaaDoorW.PrintWords
set_option linter.unusedVariables false
set_option linter.unusedSimpArgs false

theorem bad_pick {x : Scr} {q : Int} {key word : ByteArray} {two : Bool} (hk : key.data.toList = kPick) (h : isPicks word = false ∨ q ≠ 2 ∨ two = false) : (lineS x q key word two).1 = 2 := by
  rw [lineS_pick hk, if_neg]
  rintro ⟨h1, h2, h3⟩
  rcases h with h | h | h
  · rw [h1] at h; cases h
  · exact h h2
  · rw [h3] at h; cases h
theorem C_nil (w : World) : KI.C w none 0 [] := ⟨rfl, by decide, fun h => by simp at h⟩

set_option maxHeartbeats 4000000 in
set_option maxRecDepth 100000 in
theorem take_pick {V W : World} {R base : Nat} {vp vt vk : Value} {x : Scr} {q : Int} (h : RdS V W R base vp vt vk x q) (hT : Tabs W base) (line : ByteArray) (hl : line.size ≤ 100000) (hp : x.picks.length ≤ 10000000)
    (hw : (wordS line).size ≤ 100000) (hRb : base ≤ R) (h1 : (keyS line).data.toList = kPick) :
    Calls Tryd.prog 61 #[.pointer (some ⟨R, 0, none⟩), .string line] W (TakeP V W R base x q line) := by
  obtain ⟨m, hm⟩ := hT.maxLen
  have hS := Lib.hid (Tryd.strings_Split line ⟨#[32]⟩ m W (by omega) hm (by decide))
  have HH := Lib.hid h
  clear h hm
  go_enter Tryd.func61, Tryd.ntmps61
  go_wp2_with fail
  refine hS.out.mono ?_; rintro e w1 ⟨rfl, rfl⟩; dsimp only
  obtain ⟨W1, n, en, ew, hb1, hn0, hn1, k0, k1, k2, k3⟩ := take_words line hl W
  rw [ew, en]
  have HB1 := Lib.hid hb1
  have HR := Lib.hid (HH.out.below hb1)
  have hz1 := hb1.size
  have hT1 := hT.below (hb1.mono hT.le)
  have hTl := hT1.lt
  have hTe := hT1.le
  have Hk := Lib.hid h1
  have hk1 : (keyS line).toList = [112, 105, 99, 107] := by rw [Lib.toList_data]; exact h1
  have g1 : ((keyS line).toList == [117, 112]) = false := by rw [hk1]; rfl
  have g2 : ((keyS line).toList == [116, 97, 107, 101]) = false := by rw [hk1]; rfl
  have g3 : ((keyS line).toList == [101, 110, 100]) = false := by rw [hk1]; rfl
  have g4 : ((keyS line).toList == [115, 116, 111, 112]) = false := by rw [hk1]; rfl
  have g5 : ((keyS line).toList == [112, 105, 99, 107]) = true := by rw [hk1]; rfl
  have HK := Lib.hid (show W.heap.size < W1.heap.size from World.block_lt_of_cell? W1 _ k0)
  clear h1 ew en hb1 hk1 hS
  by_cases e2 : n = 2
  · subst e2
    have k1 := k1 rfl
    have H3 : Hid (twoS line = true) := Lib.hid k3
    have hNu := Lib.hid (turns_any (wordS line) hw W1)
    clear k3 k2
    go_wp2_with fail
    refine hNu.out.mono ?_; rintro e w2 ⟨hb2, ⟨ha, v, rfl, hv⟩ | ⟨ha, rfl⟩⟩
    · have HB2 := Lib.hid hb2
      have HR2 := Lib.hid (HR.out.below hb2)
      have hz2 := hb2.size
      have HBb := Lib.hid ((HB1.out.mono hT.le).trans (HB2.out.mono (by omega)))
      obtain ⟨A, c, rfl, hlc, hC⟩ := Kd.R_reads hv
      have hvl : (turnsV (wordS line).data.toList).length = (wordS line).size := by simp [turnsV]
      rw [hvl] at hC hlc ⊢
      have HC := Lib.hid hC
      have HIP := Lib.hid (show isPicks (wordS line) = decide (0 < (wordS line).size ∧ (wordS line).size ≤ 60) by unfold isPicks; rw [ha, Bool.true_and])
      clear hb2 hNu hv hC hvl ha
      by_cases hok : 0 < (wordS line).size ∧ (wordS line).size ≤ 60
      · have hd : decide (0 < (wordS line).size ∧ (wordS line).size ≤ 60) = true := decide_eq_true hok
        rw [hd] at HIP ⊢
        have hs0 : 0 < (wordS line).size := hok.1
        have hs1 : (wordS line).size ≤ 60 := hok.2
        clear hd hok
        dsimp only
        have r4 := HR2.out.c4
        have hO := HR2.out.rows.pic
        have hfr := Lib.hid (R_freshK HR2.out.rows.tak)
        have hpl : (x.picks.length + (wordS line).size) * 8 ≤ 140737488355328 := by omega
        go_wp2_with (at_builtin; refine Kd.R_append_row (w0 := W) (Value.int .i64) (0 : Int) (h1 := fun _ => rfl) base rfl _ _ 30 3 (.int .i64 0) 8 rfl Tryd.underlying30 Tryd.info_i64 rfl (by decide) vk x.picks (turnsV (wordS line).data.toList) A (wordS line).size c (fun k => some k ≠ vt.ownBlock) rfl rfl hfr.out hO HC.out HBb.out (by omega) hpl ?_)
        intro v1 w9 hO1 hB3 hg3 hat3
        have hgA : w2.grownBy w9 vk.ownBlock := ⟨hg3.os, hg3.tape, hg3.output, by have := hg3.size; omega, fun k hk hx => hg3.block k hk hx⟩
        obtain ⟨A1, c1, rfl⟩ := Kd.R_slice hO1
        generalize (x.picks ++ (turnsV (wordS line).data.toList)).length = l1 at *
        have HR3 := Lib.hid (HR2.out.addPicks (ys := (turnsV (wordS line).data.toList)) hgA hat3 hO1)
        have hRne : some R ≠ vk.ownBlock := Kd.R_ne HR2.out.rows.pic HR2.out.box RdS.ne3.2.2.symm
        have hRl := lt_of_heap HR2.out.box
        have d0 : w9.cell? ⟨R, 4, none⟩ = some vk := (World.cell?_of_block (a := ⟨R, 4, none⟩) (hgA.block R hRl hRne)).trans r4
        have f0 : w9.frozen? ⟨R, 4, none⟩ = false := (World.frozen?_of_block (a := ⟨R, 4, none⟩) (hgA.block R hRl hRne)).trans (HR2.out.f 4)
        have d5 := HR3.out.c5
        have f5 := HR3.out.f 5
        have HB3 := Lib.hid (show Below base W (w9.setCell ⟨R, 4, none⟩ (.slice A1 l1 c1)) from hB3.setCell (p := ⟨R, 4, none⟩) hRb _)
        clear hO1 hB3 hg3 hat3 hgA hRne hRl r4 hO hfr hpl
        by_cases hq : q = 2
        · subst hq
          by_cases h60 : (wordS line).size < 60
          · have HL := Lib.hid ((lineS_pick (x := x) (q := 2) (word := wordS line) (two := twoS line) Hk.out).trans (if_pos ⟨HIP.out, rfl, H3.out⟩))
            have HR4 := Lib.hid (HR3.out.setQ 3)
            have HB4 := Lib.hid (show Below base W ((w9.setCell ⟨R, 4, none⟩ (.slice A1 l1 c1)).setCell ⟨R, 5, none⟩ (.int .i64 3)) from HB3.out.setCell (p := ⟨R, 5, none⟩) hRb _)
            have h60' : ((wordS line).size : Int) < 60 := by omega
            go_wp2_with fail
            go_ret
            exact ⟨HB4.out, _, _, _, _, _, ret_int (by rw [HL.out]), HR4.out, fun _ => by rw [HL.out, if_pos h60]⟩
          · have HL := Lib.hid ((lineS_pick (x := x) (q := 2) (word := wordS line) (two := twoS line) Hk.out).trans (if_pos ⟨HIP.out, rfl, H3.out⟩))
            have h60' : decide (((wordS line).size : Int) < 60) = false := decide_eq_false (by omega)
            go_wp2_with fail
            go_ret
            exact ⟨HB3.out, _, _, _, _, _, ret_int (by rw [HL.out]), HR3.out, fun _ => by rw [HL.out, if_neg h60]⟩
        · have HL := Lib.hid (bad_pick (x := x) (q := q) (word := wordS line) (two := twoS line) Hk.out (.inr (.inl hq)))
          go_wp2_with fail
          go_ret
          exact ⟨HB3.out, _, _, _, _, _, ret_int HL.out.symm, HR3.out, fun h => by rw [HL.out] at h; cases h⟩
      · have hd : decide (0 < (wordS line).size ∧ (wordS line).size ≤ 60) = false := decide_eq_false hok
        rw [hd] at HIP ⊢
        clear hd
        dsimp only
        have r4 := HR2.out.c4
        have hO := HR2.out.rows.pic
        have hfr := Lib.hid (R_freshK HR2.out.rows.tak)
        have hpl : (x.picks.length + (wordS line).size) * 8 ≤ 140737488355328 := by omega
        go_wp2_with (at_builtin; refine Kd.R_append_row (w0 := W) (Value.int .i64) (0 : Int) (h1 := fun _ => rfl) base rfl _ _ 30 3 (.int .i64 0) 8 rfl Tryd.underlying30 Tryd.info_i64 rfl (by decide) vk x.picks (turnsV (wordS line).data.toList) A (wordS line).size c (fun k => some k ≠ vt.ownBlock) rfl rfl hfr.out hO HC.out HBb.out (by omega) hpl ?_)
        intro v1 w9 hO1 hB3 hg3 hat3
        have hgA : w2.grownBy w9 vk.ownBlock := ⟨hg3.os, hg3.tape, hg3.output, by have := hg3.size; omega, fun k hk hx => hg3.block k hk hx⟩
        obtain ⟨A1, c1, rfl⟩ := Kd.R_slice hO1
        generalize (x.picks ++ (turnsV (wordS line).data.toList)).length = l1 at *
        have HR3 := Lib.hid (HR2.out.addPicks (ys := (turnsV (wordS line).data.toList)) hgA hat3 hO1)
        have hRne : some R ≠ vk.ownBlock := Kd.R_ne HR2.out.rows.pic HR2.out.box RdS.ne3.2.2.symm
        have hRl := lt_of_heap HR2.out.box
        have d0 : w9.cell? ⟨R, 4, none⟩ = some vk := (World.cell?_of_block (a := ⟨R, 4, none⟩) (hgA.block R hRl hRne)).trans r4
        have f0 : w9.frozen? ⟨R, 4, none⟩ = false := (World.frozen?_of_block (a := ⟨R, 4, none⟩) (hgA.block R hRl hRne)).trans (HR2.out.f 4)
        have d5 := HR3.out.c5
        have f5 := HR3.out.f 5
        have HB3 := Lib.hid (show Below base W (w9.setCell ⟨R, 4, none⟩ (.slice A1 l1 c1)) from hB3.setCell (p := ⟨R, 4, none⟩) hRb _)
        clear hO1 hB3 hg3 hat3 hgA hRne hRl r4 hO hfr hpl
        have HL := Lib.hid (bad_pick (x := x) (q := q) (word := wordS line) (two := twoS line) Hk.out (.inl HIP.out))
        go_wp2_with fail
        go_ret
        exact ⟨HB3.out, _, _, _, _, _, ret_int HL.out.symm, HR3.out, fun h => by rw [HL.out] at h; cases h⟩
    · have HB2 := Lib.hid hb2
      have HR2 := Lib.hid (HR.out.below hb2)
      have hz2 := hb2.size
      have HBb := Lib.hid ((HB1.out.mono hT.le).trans (HB2.out.mono (by omega)))
      have HIP := Lib.hid (show isPicks (wordS line) = false by unfold isPicks; rw [ha, Bool.false_and])
      clear hb2 hNu ha
      dsimp only
      have r4 := HR2.out.c4
      have hO := HR2.out.rows.pic
      have hfr := Lib.hid (R_freshK HR2.out.rows.tak)
      have hpl : (x.picks.length + 0) * 8 ≤ 140737488355328 := by omega
      go_wp2_with (at_builtin; refine Kd.R_append_row (w0 := W) (Value.int .i64) (0 : Int) (h1 := fun _ => rfl) base rfl _ _ 30 3 (.int .i64 0) 8 rfl Tryd.underlying30 Tryd.info_i64 rfl (by decide) vk x.picks ([] : List Int) none 0 0 (fun k => some k ≠ vt.ownBlock) rfl rfl hfr.out hO (C_nil w2) HBb.out (by omega) hpl ?_)
      intro v1 w9 hO1 hB3 hg3 hat3
      have hgA : w2.grownBy w9 vk.ownBlock := ⟨hg3.os, hg3.tape, hg3.output, by have := hg3.size; omega, fun k hk hx => hg3.block k hk hx⟩
      obtain ⟨A1, c1, rfl⟩ := Kd.R_slice hO1
      have HR3 := Lib.hid (HR2.out.addPicks (ys := ([] : List Int)) hgA hat3 (by rw [List.append_nil]; exact hO1))
      have hRne : some R ≠ vk.ownBlock := Kd.R_ne HR2.out.rows.pic HR2.out.box RdS.ne3.2.2.symm
      have hRl := lt_of_heap HR2.out.box
      have d0 : w9.cell? ⟨R, 4, none⟩ = some vk := (World.cell?_of_block (a := ⟨R, 4, none⟩) (hgA.block R hRl hRne)).trans r4
      have f0 : w9.frozen? ⟨R, 4, none⟩ = false := (World.frozen?_of_block (a := ⟨R, 4, none⟩) (hgA.block R hRl hRne)).trans (HR2.out.f 4)
      have d5 := HR3.out.c5
      have f5 := HR3.out.f 5
      have HB3 := Lib.hid (show Below base W (w9.setCell ⟨R, 4, none⟩ (.slice A1 x.picks.length c1)) from hB3.setCell (p := ⟨R, 4, none⟩) hRb _)
      clear hO1 hB3 hg3 hat3 hgA hRne hRl r4 hO hfr hpl
      have HL := Lib.hid (bad_pick (x := x) (q := q) (word := wordS line) (two := twoS line) Hk.out (.inl HIP.out))
      go_wp2_with fail
      go_ret
      exact ⟨HB3.out, _, _, _, _, _, ret_int HL.out.symm, HR3.out, fun h => by rw [HL.out] at h; cases h⟩
  · have e3 : ((n : Int) == 2) = false := by simp; omega
    have H3 := Lib.hid (show twoS line = false by rw [k3]; exact decide_eq_false e2)
    have hNu := Lib.hid (turns_any ⟨#[]⟩ (by decide) W1)
    clear k3 k1 k2
    go_wp2_with fail
    refine hNu.out.mono ?_; rintro e w2 ⟨hb2, ⟨ha, v, rfl, hv⟩ | ⟨ha, rfl⟩⟩
    · have HB2 := Lib.hid hb2
      have HR2 := Lib.hid (HR.out.below hb2)
      have hz2 := hb2.size
      have HBb := Lib.hid ((HB1.out.mono hT.le).trans (HB2.out.mono (by omega)))
      obtain ⟨A, c, rfl, hlc, hC⟩ := Kd.R_reads hv
      have hvl : (turnsV (⟨#[]⟩ : ByteArray).data.toList).length = 0 := rfl
      rw [hvl] at hC hlc ⊢
      have HC := Lib.hid (show KI.C w2 A 0 [] from hC)
      clear hb2 hNu hv hC hvl ha
      rw [show decide (0 < (⟨#[]⟩ : ByteArray).size ∧ (⟨#[]⟩ : ByteArray).size ≤ 60) = false from rfl]
      dsimp only
      have r4 := HR2.out.c4
      have hO := HR2.out.rows.pic
      have hfr := Lib.hid (R_freshK HR2.out.rows.tak)
      have hpl : (x.picks.length + 0) * 8 ≤ 140737488355328 := by omega
      go_wp2_with (at_builtin; refine Kd.R_append_row (w0 := W) (Value.int .i64) (0 : Int) (h1 := fun _ => rfl) base rfl _ _ 30 3 (.int .i64 0) 8 rfl Tryd.underlying30 Tryd.info_i64 rfl (by decide) vk x.picks ([] : List Int) A 0 c (fun k => some k ≠ vt.ownBlock) rfl rfl hfr.out hO HC.out HBb.out (by omega) hpl ?_)
      intro v1 w9 hO1 hB3 hg3 hat3
      have hgA : w2.grownBy w9 vk.ownBlock := ⟨hg3.os, hg3.tape, hg3.output, by have := hg3.size; omega, fun k hk hx => hg3.block k hk hx⟩
      obtain ⟨A1, c1, rfl⟩ := Kd.R_slice hO1
      have HR3 := Lib.hid (HR2.out.addPicks (ys := ([] : List Int)) hgA hat3 (by rw [List.append_nil]; exact hO1))
      have hRne : some R ≠ vk.ownBlock := Kd.R_ne HR2.out.rows.pic HR2.out.box RdS.ne3.2.2.symm
      have hRl := lt_of_heap HR2.out.box
      have d0 : w9.cell? ⟨R, 4, none⟩ = some vk := (World.cell?_of_block (a := ⟨R, 4, none⟩) (hgA.block R hRl hRne)).trans r4
      have f0 : w9.frozen? ⟨R, 4, none⟩ = false := (World.frozen?_of_block (a := ⟨R, 4, none⟩) (hgA.block R hRl hRne)).trans (HR2.out.f 4)
      have d5 := HR3.out.c5
      have f5 := HR3.out.f 5
      have HB3 := Lib.hid (show Below base W (w9.setCell ⟨R, 4, none⟩ (.slice A1 x.picks.length c1)) from hB3.setCell (p := ⟨R, 4, none⟩) hRb _)
      clear hO1 hB3 hg3 hat3 hgA hRne hRl r4 hO hfr hpl
      have HL := Lib.hid (bad_pick (x := x) (q := q) (word := wordS line) (two := twoS line) Hk.out (.inr (.inr H3.out)))
      go_wp2_with fail
      go_ret
      exact ⟨HB3.out, _, _, _, _, _, ret_int HL.out.symm, HR3.out, fun h => by rw [HL.out] at h; cases h⟩
    · cases ha

theorem take_any {V W : World} {R base : Nat} {vp vt vk : Value} {x : Scr} {q : Int} (h : RdS V W R base vp vt vk x q) (hT : Tabs W base) (line : ByteArray) (hl : line.size ≤ 100000) (hp : x.pieces.length ≤ 100000) (ht : x.takes.length ≤ 100000) (hk : x.picks.length ≤ 10000000)
    (hw : (wordS line).size ≤ 100000) (hRb : base ≤ R) :
    Calls Tryd.prog 61 #[.pointer (some ⟨R, 0, none⟩), .string line] W (TakeP V W R base x q line) := by
  by_cases h1 : (keyS line).data.toList = kUp
  · exact take_up h hT line hl hp hw hRb h1
  by_cases h2 : (keyS line).data.toList = kTake
  · exact take_take h hT line hl ht hw hRb h2
  by_cases h3 : (keyS line).data.toList = kEnd
  · exact take_end h hT line hl hw hRb h3
  by_cases h4 : (keyS line).data.toList = kStop
  · exact take_stop h hT line hl hw hRb h4
  by_cases h5 : (keyS line).data.toList = kPick
  · exact take_pick h hT line hl hk hw hRb h5
  exact take_else h hT line hl h1 h2 h3 h4 h5

end Go.Proofs.YtplcfijcmihhlaaDoor
