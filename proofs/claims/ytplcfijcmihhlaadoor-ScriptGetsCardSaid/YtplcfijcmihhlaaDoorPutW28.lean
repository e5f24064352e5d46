/-
  Layer 28: a script's text: the walk of script's Put, line by line.
-/
import Derived.Test.YtplcfijcmihhlaaDoorPut28
import Derived.Test.YtplcfijcmihhlaaDoorRight28
import Derived.Test.YtplcfijcmihhlaaDoorSameLaw28
import Derived.Laws.EntriesVeiled
import Derived.Deep.RegionHeld3
import Derived.Laws.MakeOwn
import Derived.Laws.OwnMore
import Derived.Lib.ItoaLen
import Derived.Lib.AppendIntMem
namespace Go.Proofs.YtplcfijcmihhlaaDoor
open Go.RowKit Go.Proofs.YtplcfijcmihhlaaDoorW.PrintWords Go.Proofs.YtplcfijcmihhlaaDoorW.PrintLast
set_option linter.unusedVariables false
set_option linter.unusedSimpArgs false
attribute [local go_sem] Oper.semAt_some

def sUp : ByteArray := ⟨#[117, 112]⟩
def sEnd : ByteArray := ⟨#[101, 110, 100]⟩
def sTake : ByteArray := ⟨#[116, 97, 107, 101]⟩
def sStop : ByteArray := ⟨#[115, 116, 111, 112]⟩
def sPick : ByteArray := ⟨#[112, 105, 99, 107]⟩
def endW (e : Int) : ByteArray := if e = 0 then ⟨wSilent.toArray⟩ else if e = 1 then ⟨wClosed.toArray⟩ else ⟨wReset.toArray⟩
def stopW (s : Int) : ByteArray := if s = 0 then ⟨wStuck.toArray⟩ else if s = 1 then ⟨wFree.toArray⟩ else ⟨wReset.toArray⟩
def lett (p : Int) : UInt8 := if p = 0 then 114 else if p = 1 then 119 else 116
def upsT (l : List (List Int)) : List UInt8 := l.flatMap fun p => lineB sUp (hexS p)
def takesT (l : List Int) : List UInt8 := l.flatMap fun n => lineB sTake ⟨(Lib.itoa n).toArray⟩
def pieceW (l : List Int) (x : Nat) : ByteArray := ⟨(((l.drop x).take 60).map lett).toArray⟩
def picksT (l : List Int) (k : Nat) : List UInt8 := (offsL k).flatMap fun x => lineB sPick (pieceW l x)
/-- A script's text. -/
def putT (l0 : List (List Int)) (e : Int) (l2 : List Int) (s : Int) (l4 : List Int) : List UInt8 :=
  upsT l0 ++ lineB sEnd (endW e) ++ takesT l2 ++ lineB sStop (stopW s) ++ picksT l4 (nOffs l4.length)
theorem upsT_succ {l : List (List Int)} {k : Nat} (h : k < l.length) : upsT (l.take (k + 1)) = upsT (l.take k) ++ lineB sUp (hexS l[k]) := by
  unfold upsT; rw [List.take_succ_eq_append_getElem h, List.flatMap_append]; simp only [List.flatMap_cons, List.flatMap_nil, List.append_nil]
theorem takesT_succ {l : List Int} {k : Nat} (h : k < l.length) : takesT (l.take (k + 1)) = takesT (l.take k) ++ lineB sTake ⟨(Lib.itoa l[k]).toArray⟩ := by
  unfold takesT; rw [List.take_succ_eq_append_getElem h, List.flatMap_append]; simp only [List.flatMap_cons, List.flatMap_nil, List.append_nil]
theorem picksT_succ (l : List Int) (k : Nat) : picksT l (k + 1) = picksT l k ++ lineB sPick (pieceW l (60 * k)) := by
  unfold picksT; rw [offsL_succ]; simp

/-- The function value of Put's line. -/
def lineV (b : Nat) : Value := .func (.func 52) #[] #[.pointer (some ⟨b, 0, none⟩)]
/-- Where Put stands: the builder in block b, line's box behind it, the script's box at n. -/
structure PutI (V : World) (n b : Nat) (cs : Array Value) (txt : List UInt8) (W : World) : Prop where
  bld : ∃ v, Bld b b v (Lib.byteCells txt) W
  line : W.heap[b + 1]? = some (.cells #[lineV b] 103 (0, 0))
  scr : W.heap[n]? = some (.cells cs 57 (0, 0))
  below : Below b V W
  big : b ≤ V.heap.size
theorem PutI.old {V : World} {n b : Nat} {cs : Array Value} {txt : List UInt8} {W W' : World} (h : PutI V n b cs txt W) (hb : Below W.heap.size W W') : PutI V n b cs txt W' := by
  obtain ⟨v, hv⟩ := h.bld
  exact ⟨⟨v, hv.below hb⟩, (hb.block _ (lt_of_heap h.line)).trans h.line, (hb.block _ (lt_of_heap h.scr)).trans h.scr, h.below.trans (hb.mono (by have := h.below.size; have := h.big; omega)), h.big⟩
theorem Line_put {V : World} {n b : Nat} {cs : Array Value} {txt : List UInt8} {W : World} (h : PutI V n b cs txt W) (hn : n < b) (key word : ByteArray) (hk : key.size ≤ 1000) (hw : word.size ≤ 1000000) (ht : txt.length ≤ 100000000) :
    Calls Tryd.prog 52 #[.string key, .string word, .pointer (some ⟨b, 0, none⟩)] W fun e w' => e = .returned (.tuple #[]) ∧ PutI V n b cs (txt ++ lineB key word) w' := by
  obtain ⟨v, hv⟩ := h.bld
  have hbW : b ≤ W.heap.size := by have := h.below.size; have := h.big; omega
  refine (Line_any key word hv hk hw ht hbW).mono ?_
  rintro e w' ⟨rfl, v', hB, t⟩
  have hown : ∀ k, v.ownBlock = some k → b ≤ k := hv.ge
  have hl : ¬ (b + 1 = b ∨ v.ownBlock = some (b + 1)) := by
    rintro (h1 | h1)
    · omega
    · obtain ⟨cells, hc⟩ := own_typed hv.2.1 _ h1
      rw [h.line] at hc
      cases hc
  have hs : ¬ (n = b ∨ v.ownBlock = some n) := by
    rintro (h1 | h1)
    · omega
    · have := hown _ h1; omega
  refine ⟨rfl, ⟨v', hB⟩, (t.block _ (lt_of_heap h.line) hl).trans h.line, (t.block _ (lt_of_heap h.scr) hs).trans h.scr, h.below.trans (BT.below t hv hbW), h.big⟩

theorem lineB_len (key word : ByteArray) : (lineB key word).length = key.size + word.size + 2 := by
  have h1 : key.data.toList.length = key.size := by simp
  have h2 : word.data.toList.length = word.size := by simp
  simp only [lineB, List.length_append, List.length_singleton, h1, h2]; omega
theorem hexS_le (b : List Int) : (hexS b).size ≤ 2 * b.length + 1 := by
  unfold hexS
  split
  · show (1 : Nat) ≤ _; omega
  · show (hexL b).toArray.size ≤ _
    rw [List.size_toArray, hexL_len]; omega
theorem upsT_len : ∀ (l : List (List Int)), (upsT l).length ≤ 7 * bulk l
  | [] => by simp [upsT]
  | p :: l => by
    have ih := upsT_len l
    have e : upsT (p :: l) = lineB sUp (hexS p) ++ upsT l := rfl
    have e2 : bulk (p :: l) = p.length + 1 + bulk l := rfl
    have h := hexS_le p
    have h2 : sUp.size = 2 := rfl
    rw [e, e2, List.length_append, lineB_len]; omega
theorem bulk_take : ∀ (l : List (List Int)) (k : Nat), bulk (l.take k) ≤ bulk l
  | [], k => by simp [bulk]
  | p :: l, 0 => by simp [bulk]
  | p :: l, k + 1 => by
    have ih := bulk_take l k
    show p.length + 1 + bulk (l.take k) ≤ p.length + 1 + bulk l
    omega

theorem takesT_len : ∀ (l : List Int), (∀ y ∈ l, 0 ≤ y ∧ y ≤ 1073741824) → (takesT l).length ≤ 30 * l.length
  | [], _ => by simp [takesT]
  | n :: l, h => by
    have ih := takesT_len l (fun y hy => h y (List.mem_cons_of_mem _ hy))
    have hn := h n List.mem_cons_self
    have e : takesT (n :: l) = lineB sTake ⟨(Lib.itoa n).toArray⟩ ++ takesT l := rfl
    have h1 := Lib.itoa_length_le n (by omega) (by omega)
    have h2 : (⟨(Lib.itoa n).toArray⟩ : ByteArray).size = (Lib.itoa n).length := List.size_toArray
    have h3 : sTake.size = 4 := rfl
    rw [e, List.length_append, lineB_len, List.length_cons]; omega

theorem PutI.lcell {V : World} {n b : Nat} {cs : Array Value} {txt : List UInt8} {W : World} (h : PutI V n b cs txt W) : W.cell? ⟨b + 1, 0, none⟩ = some (.func (.func 52) #[] #[.pointer (some ⟨b, 0, none⟩)]) := cell1 h.line
theorem PutI.drew {V : World} {n b : Nat} {cs : Array Value} {txt : List UInt8} {W : World} (h : PutI V n b cs txt W) : PutI V n b cs txt W.drew := h.old (Below.refl _ W).drew

theorem PutI.start {w : World} {n : Nat} {cs : Array Value} (h : w.heap[n]? = some (.cells cs 57 (0, 0))) :
    PutI w n w.heap.size cs [] ((w.alloc (.cells #[.pointer none, .slice none 0 0] 89)).alloc (.cells #[lineV w.heap.size] 103)) := by
  have h1 : Below w.heap.size w (w.alloc (.cells #[.pointer none, .slice none 0 0] 89)) := (Below.refl _ w).alloc (Nat.le_refl _) _
  have h2 : Below (w.alloc (.cells #[.pointer none, .slice none 0 0] 89)).heap.size (w.alloc (.cells #[.pointer none, .slice none 0 0] 89)) ((w.alloc (.cells #[.pointer none, .slice none 0 0] 89)).alloc (.cells #[lineV w.heap.size] 103)) := (Below.refl _ _).alloc (Nat.le_refl _) _
  have h3 := h1.trans (h2.mono h1.size)
  exact ⟨⟨_, (Bld.fresh w).below h2⟩, heap_alloc2_newL _ _ _, (h3.block _ (lt_of_heap h)).trans h, h3, Nat.le_refl _⟩

theorem PutI.lineLt {V : World} {n b : Nat} {cs : Array Value} {txt : List UInt8} {W : World} (h : PutI V n b cs txt W) : b + 1 < W.heap.size := lt_of_heap h.line
theorem PutI.ownY {V : World} {n b N : Nat} {cs : Array Value} (hb : b + 1 < N) (hn : n < N) {β : Type} (f : β → List UInt8) : OwnY N (fun _ => False) (fun (s : β) W => PutI V n b cs (f s) W) := by
  rintro s W W' row h hg hr
  have old : ∀ k, k < N → some k ≠ row := fun k hk e => by
    rcases hr k e.symm with ⟨h1, _⟩ | h1
    · omega
    · exact h1
  obtain ⟨v, hv⟩ := h.bld
  refine ⟨⟨v, hv.keep (X := fun k => some k = row) ⟨hg.os, hg.tape, hg.output, hg.size, fun k hk hx => hg.block k hk hx⟩ (old b (by omega)) (fun k hk e => ?_)⟩, (hg.block _ (lt_of_heap h.line) (old _ hb)).trans h.line, (hg.block _ (lt_of_heap h.scr) (old _ hn)).trans h.scr, ?_, h.big⟩
  · rcases hr k e.symm with ⟨_, o, ho, hc⟩ | h1
    · obtain ⟨cells, hcc⟩ := own_typed hv.2.1 _ hk
      rw [ho] at hcc; cases hcc; cases hc
    · exact h1
  · exact h.below.trans ⟨hg.os, hg.tape, hg.output, hg.size, fun k hk => hg.block k (by have := h.below.size; have := h.big; omega) (old k (by omega))⟩

/-- The word's bytes when k of its m letters are laid. -/
def fillA (l : List Int) (x m k : Nat) : Array Value := ((((l.drop x).take k).map fun p => Value.int .u8 ((lett p).toNat : Int)) ++ List.replicate (m - k) (Value.int .u8 0)).toArray
theorem fillA_zero (l : List Int) (x m : Nat) : fillA l x m 0 = Array.replicate m (Value.int .u8 0) := by simp [fillA]
theorem fillA_len {l : List Int} {x m k : Nat} (hl : x + m ≤ l.length) (hk : k ≤ m) : (fillA l x m k).size = m := by
  simp only [fillA, List.size_toArray, List.length_append, List.length_map, List.length_take, List.length_drop, List.length_replicate]; omega
theorem fillA_cell {l : List Int} {x m k g : Nat} {W : World} (h : W.heap[g]? = some (.cells (fillA l x m k) 5 (0, 0))) (hl : x + m ≤ l.length) (hk : k < m) : ∃ v, W.cell? ⟨g, k, none⟩ = some v := by
  have hs := fillA_len (k := k) hl (by omega)
  refine ⟨(fillA l x m k)[k]'(by omega), ?_⟩
  simp only [World.cell?, h]
  exact Array.getElem?_eq_getElem (by omega)
theorem fillA_succ {l : List Int} {x m k : Nat} {p : Int} (hl : x + m ≤ l.length) (hk : k < m) (hp : l[x + k]? = some p) : (fillA l x m k).setIfInBounds k (.int .u8 ((lett p).toNat : Int)) = fillA l x m (k + 1) := by
  apply Array.toList_inj.1
  have hL : (((l.drop x).take k).map fun p => Value.int .u8 ((lett p).toNat : Int)).length = k := by simp only [List.length_map, List.length_take, List.length_drop]; omega
  have hR : List.replicate (m - k) (Value.int .u8 0) = Value.int .u8 0 :: List.replicate (m - (k + 1)) (Value.int .u8 0) := by
    rw [show m - k = (m - (k + 1)) + 1 by omega]; rfl
  have hd : (l.drop x)[k]? = some p := by rw [List.getElem?_drop]; exact hp
  obtain ⟨hdl, hdp⟩ := List.getElem?_eq_some_iff.1 hd
  simp only [fillA, Array.toList_setIfInBounds]
  rw [List.set_append_right _ _ (by omega), hL, Nat.sub_self, hR, List.set_cons_zero, List.take_succ_eq_append_getElem hdl, hdp, List.map_append, List.append_assoc]
  rfl
theorem fillA_step {l : List Int} {x m k g : Nat} {W : World} {p : Int} (h : W.heap[g]? = some (.cells (fillA l x m k) 5 (0, 0))) (hl : x + m ≤ l.length) (hk : k < m) (hp : l[x + k]? = some p) :
    (W.setCell ⟨g, k, none⟩ (.int .u8 ((lett p).toNat : Int))).heap[g]? = some (.cells (fillA l x m (k + 1)) 5 (0, 0)) := by
  have hs := setBox (j := k) (.int .u8 ((lett p).toNat : Int)) h
  rw [hs, fillA_succ hl hk hp]

theorem conv_word {l : List Int} {x m g : Nat} {W : World} (h : W.heap[g]? = some (.cells (fillA l x m m) 5 (0, 0))) (hl : x + m ≤ l.length) (hm : min 60 (l.length - x) = m) :
    (convert 25 9 (.slice (some ⟨g, 0, none⟩) m m)).run Tryd.prog W = .ok (.string (pieceW l x)) W := by
  have ht : (l.drop x).take 60 = (l.drop x).take m := List.take_eq_take_iff.2 (by rw [List.length_drop]; omega)
  have hlen : (((l.drop x).take m).map lett).length = m := by simp only [List.length_map, List.length_take, List.length_drop]; omega
  have hc := run_convert_bytes_back (P := Tryd.prog) W 25 9 5 ⟨g, 0, none⟩ m (((l.drop x).take m).map lett) Tryd.underlying25 Tryd.underlying5 Tryd.underlying9 (fun j hj => by
    rw [WideShapes.add_plain, Nat.zero_add]
    simp only [World.cell?, h]
    have hj' : j < ((l.drop x).take m).length := by simpa using hj
    have hjm : j < m := by omega
    have hjl : x + j < l.length := by omega
    simp [fillA, List.getElem?_take, hjm, hjl])
  rw [hlen] at hc
  unfold pieceW
  rw [ht]
  exact hc
theorem make_u8 (m : Nat) (hm : m ≤ 1000) (X : World) : (Instr.makeSlice 25 (.int .i64 (m : Int)) (.int .i64 (m : Int))).run Tryd.prog X = .ok (.slice (some ⟨X.heap.size, 0, none⟩) m m) (X.alloc (.cells (List.replicate m (Value.int .u8 0)).toArray 5)) := by
  obtain ⟨i0, hi, hz0, hz1, hz2⟩ := bld_parts Tryd.bld_info8
  have h := run_make (P := Tryd.prog) X 25 5 i0 (.int .u8 0) Tryd.underlying25 hi hz0 .i64 .i64 (m : Int) (m : Int) (by omega) (Int.le_refl _) (by rw [hz2]; omega) (by omega)
  simp only [Int.toNat_natCast, hz1, Nat.mul_one] at h
  rw [h, show madeCells (Value.int .u8 0).cells m = (List.replicate m (Value.int .u8 0)).toArray from Array.toList_inj.1 (by rw [show (Value.int .u8 0).cells = #[Value.int .u8 0] from rfl, toList_madeCells_one])]

theorem picks_len (l : List Int) : ∀ (os : List Nat), (os.flatMap fun x => lineB sPick (pieceW l x)).length ≤ 66 * os.length
  | [] => by simp
  | x :: os => by
    have ih := picks_len l os
    have h1 : (pieceW l x).size ≤ 60 := by
      show (List.toArray _).size ≤ 60
      rw [List.size_toArray, List.length_map, List.length_take]; omega
    have h2 : sPick.size = 4 := rfl
    rw [List.flatMap_cons, List.length_append, lineB_len, List.length_cons]; omega

/-- What a line's writing keeps besides. -/
def KeepL (b : Nat) (W W' : World) : Prop := ∀ k o, W.heap[k]? = some o → k ≠ b → (∀ cs fr, o ≠ .cells cs 5 fr) → W'.heap[k]? = some o
theorem Line_put2 {V : World} {n b : Nat} {cs : Array Value} {txt : List UInt8} {W : World} (h : PutI V n b cs txt W) (hn : n < b) (key word : ByteArray) (hk : key.size ≤ 1000) (hw : word.size ≤ 1000000) (ht : txt.length ≤ 100000000) :
    Calls Tryd.prog 52 #[.string key, .string word, .pointer (some ⟨b, 0, none⟩)] W fun e w' => e = .returned (.tuple #[]) ∧ PutI V n b cs (txt ++ lineB key word) w' ∧ KeepL b W w' ∧ W.heap.size ≤ w'.heap.size := by
  obtain ⟨v, hv⟩ := h.bld
  have hbW : b ≤ W.heap.size := by have := h.below.size; have := h.big; omega
  refine (Line_any key word hv hk hw ht hbW).mono ?_
  rintro e w' ⟨rfl, v', hB, t⟩
  have kl : KeepL b W w' := fun k o ho hne hty => (t.block k (lt_of_heap ho) (by
    rintro (h1 | h1)
    · exact hne h1
    · obtain ⟨cells, hc⟩ := own_typed hv.2.1 _ h1
      rw [ho] at hc
      exact hty _ _ (Option.some.inj hc))).trans ho
  exact ⟨rfl, ⟨⟨v', hB⟩, kl _ _ h.line (by omega) (fun cs fr e => by cases e), kl _ _ h.scr (by omega) (fun cs fr e => by cases e), h.below.trans (BT.below t hv hbW), h.big⟩, kl, t.size⟩

section
variable {A0 : Option Addr} {c0 : Nat} {l0 : List (List Int)} {e0 : Int} {A2 : Option Addr} {c2 : Nat} {l2 : List Int} {s0 : Int} {A4 : Option Addr} {c4 : Nat} {l4 : List Int} {W : World}
set_option maxHeartbeats 2000000 in
set_option maxRecDepth 100000 in
theorem Put_no (h : ScrC W A0 c0 l0 A2 c2 l2 A4 c4 l4) (hr : rightB e0 s0 l2 l4 = false) :
    Calls Tryd.prog 28 #[.agg #[.slice A0 l0.length c0, .int .i64 e0, .slice A2 l2.length c2, .int .i64 s0, .slice A4 l4.length c4]] W fun x w' => x = .returned (.tuple #[.string ⟨#[]⟩, .int .i64 1]) ∧ Below W.heap.size W w' := by
  have hV : Below W.heap.size W (W.alloc (.cells #[.slice A0 l0.length c0, .int .i64 e0, .slice A2 l2.length c2, .int .i64 s0, .slice A4 l4.length c4] 57)) := (Below.refl _ W).alloc (Nat.le_refl _) _
  have HV := Lib.hid hV
  have hR := Lib.hid (Right_any (e0 := e0) (s0 := s0) (h.below hV))
  rw [hr] at hR
  clear h hV hr
  refine calls_of_wp_marks Tryd.func28 rfl ?_
  simp only [Tryd.ntmps28, List.size_toArray, List.length_cons, List.length_nil, Nat.reduceAdd, Nat.reduceSub, Array.replicate_succ, Array.replicate_zero, List.push_toArray, List.append_toArray, List.nil_append, List.cons_append]
  go_wp2_with fail
  refine hR.out.mono ?_; rintro e w1 ⟨rfl, hb1⟩; dsimp only
  have HB1 := Lib.hid (HV.out.trans (hb1.mono HV.out.size))
  clear hb1 hR
  go_wp2_with fail
  refine post_nomark rfl (results_tmp2 rfl _ _ _) ⟨rfl, HB1.out⟩

set_option maxHeartbeats 4000000 in
set_option maxRecDepth 100000 in
theorem Put_any (h : ScrC W A0 c0 l0 A2 c2 l2 A4 c4 l4) (hb : ∀ x ∈ l0, InB x) (hs : SmallS l0 l2 l4) (hT : Tabs W W.heap.size) (hr : rightB e0 s0 l2 l4 = true) :
    Calls Tryd.prog 28 #[.agg #[.slice A0 l0.length c0, .int .i64 e0, .slice A2 l2.length c2, .int .i64 s0, .slice A4 l4.length c4]] W fun x w' => x = .returned (.tuple #[.string ⟨(putT l0 e0 l2 s0 l4).toArray⟩, .int .i64 0]) ∧ Below W.heap.size W w' := by
  obtain ⟨V, eV, hV, v0, hz⟩ : ∃ V, W.alloc (.cells #[.slice A0 l0.length c0, .int .i64 e0, .slice A2 l2.length c2, .int .i64 s0, .slice A4 l4.length c4] 57) = V ∧ Below W.heap.size W V ∧ V.heap[W.heap.size]? = some (.cells #[.slice A0 l0.length c0, .int .i64 e0, .slice A2 l2.length c2, .int .i64 s0, .slice A4 l4.length c4] 57 (0, 0)) ∧ V.heap.size = W.heap.size + 1 :=
    ⟨_, rfl, (Below.refl _ W).alloc (Nat.le_refl _) _, World.alloc_heap_new _ _, by simp⟩
  have HV := Lib.hid hV
  have H := Lib.hid (h.below hV)
  have HT := Lib.hid (hT.below hV)
  have hR := Lib.hid (Right_any (e0 := e0) (s0 := s0) H.out)
  have Hr := Lib.hid hr
  rw [hr] at hR
  have x0 := (cells5 v0)
  obtain ⟨x0, x1, x2, x3, x4⟩ := x0
  clear h hV hT hr
  refine calls_of_wp_marks Tryd.func28 rfl ?_
  simp only [Tryd.ntmps28, List.size_toArray, List.length_cons, List.length_nil, Nat.reduceAdd, Nat.reduceSub, Array.replicate_succ, Array.replicate_zero, List.push_toArray, List.append_toArray, List.nil_append, List.cons_append]
  go_wp2_with fail
  refine hR.out.mono ?_; rintro e w1 ⟨rfl, hb1⟩; dsimp only
  have hz1 := hb1.size
  have V1 := (hb1.block _ (lt_of_heap v0)).trans v0
  obtain ⟨x0, x1, x2, x3, x4⟩ := cells5 V1
  have HV1 := Lib.hid V1
  have HB1 := Lib.hid (HV.out.trans (hb1.mono HV.out.size))
  have H1 := Lib.hid (H.out.below hb1)
  have HT1 := Lib.hid (HT.out.below (hb1.mono (by omega)))
  have hlt : W.heap.size < w1.heap.size := by omega
  have HS := Lib.hid (PutI.start HV1.out)
  have HB0 := Lib.hid hb
  have HSm := Lib.hid hs
  have hpl : l0.length ≤ 1500 := Nat.le_trans (bulk_len l0).1 hs.1
  clear hb1 hR V1 v0 hb hs
  go_wp2_with fail
  obtain ⟨cs0, ecs⟩ : ∃ cs0 : Array Value, #[.slice A0 l0.length c0, .int .i64 e0, .slice A2 l2.length c2, .int .i64 s0, .slice A4 l4.length c4] = cs0 := ⟨_, rfl⟩
  rw [ecs] at HS
  go_loopw [22] (fun i wr => ∃ k : Nat, k ≤ l0.length ∧ i = .int .i64 (k : Nat) ∧ Hid (PutI w1 W.heap.size w1.heap.size cs0 (upsT (l0.take k)) wr)) (fun i _ => l0.length - (intOf i).toNat)
  case atStart => exact ⟨0, Nat.zero_le _, rfl, HS⟩
  case round =>
    obtain ⟨k, hk, rfl, hI⟩ := hrel
    by_cases hlk : k < l0.length
    · obtain ⟨ad, A', c', eA, hc1, hq, hC⟩ := kbb_at H1.out.r0 hlk
      subst eA
      have hc := (hI.out.below.cell (p := ad.add k) (World.block_lt_of_cell? w1 _ hc1)).trans hc1
      have p1 : (0 : Int) ≤ (k : Int) := Int.natCast_nonneg k
      have p2 : (k : Int) < (l0.length : Int) := by omega
      have hk1 := (bulk_len l0).2 _ (List.getElem_mem hlk)
      have hk2 := HSm.out.1
      have hk3 := hexS_le l0[k]
      have hk4 := upsT_len (l0.take k)
      have hk5 := bulk_take l0 k
      have cH := fun V' (hP : PutI w1 W.heap.size w1.heap.size cs0 (upsT (l0.take k)) V') => Lib.hid ((Hex_any (c := c') (Kd.C_below hC hP.below) (HB0.out _ (List.getElem_mem hlk)) (by omega)).mono fun e w' h => (⟨h.1, hP.old h.2⟩ : e = .returned (.string (hexS l0[k])) ∧ PutI w1 W.heap.size w1.heap.size cs0 (upsT (l0.take k)) w'))
      have cLn := fun V' (hP : PutI w1 W.heap.size w1.heap.size cs0 (upsT (l0.take k)) V') => Lib.hid (Line_put hP hlt ⟨#[117, 112]⟩ (hexS l0[k]) (by decide) (by omega) (by omega))
      have HC := Lib.hid hC
      have Hup := Lib.hid (upsT_succ hlk)
      clear hC hc1
      go_wp2_with fail
      refine wp_region_noPanic ?_
      refine start_ (n := 4) (S := fun w' => PutI w1 W.heap.size w1.heap.size cs0 (upsT (l0.take k)) w' ∧ w'.cell? ⟨w1.heap.size + 1, 0, none⟩ = some (.func (.func 52) #[] #[.pointer (some ⟨w1.heap.size, 0, none⟩)])) (ds := [3]) #[false, false, false, false] (by kernel_rfl) rfl rfl ⟨hI.out.drew, (PutI.lcell hI.out.drew)⟩ (fun hHeld => ?_)
      refine pure_ (i := 1) (N := some 27) (v := ?_) (a' := ?_) #[false, true, false, false] rfl rfl (by kernel_rfl) (fun _ _ _ h => h) (Or.inl ⟨by rfl, ?_⟩) ?_ ?_
      rotate_left
      · intro w'
        go_simp
        with_reducible rfl
      rotate_left
      · simp only [Act.put, List.setIfInBounds_toArray, List.set_cons_zero, List.set_cons_succ, i64_w, i32_w]
        rfl
      refine take_ (i := 0) (N := some 26) (v := ?_) (a' := ?_) #[true, true, false, false] rfl rfl (by kernel_rfl) (fun _ _ _ h => h) (Or.inl ⟨by rfl, ?_⟩) hHeld ?_ ?_
      rotate_left
      · rintro w' ⟨s0, s1⟩
        go_simp
        with_reducible rfl
      rotate_left
      · simp only [Act.put, List.setIfInBounds_toArray, List.set_cons_zero, List.set_cons_succ, i64_w, i32_w]
        rfl
      refine one_ (i := 2) (N := some 28) #[true, true, true, false] rfl rfl (by kernel_rfl) (by decide) (fun K hK => ?_)
      refine goes_ Tryd.func19 (by kernel_rfl) rfl #[(.slice A' l0[k].length c')] (by rfl) rfl rfl (by simp only [List.map_toArray, List.map_cons, List.map_nil]; rfl) ?_
      with_reducible refine ((cH _ hHeld.1).out).mono ?_
      rintro e w2 ⟨rfl, hP2⟩
      refine ⟨_, rfl, ?_⟩
      refine hK.out _ _ ⟨hP2, (PutI.lcell hP2)⟩ (fun hHeld => ?_)
      clear hK K
      refine norm_ (a' := ?_) ?_ ?_
      rotate_left
      · show Act.put _ (some 28) _ = _
        simp only [Act.put, List.setIfInBounds_toArray, List.set_cons_zero, List.set_cons_succ, i64_w, i32_w]
        rfl
      refine last_ (i := 3) (N := some 29) #[true, true, true, true] rfl rfl (by kernel_rfl) (by decide) (fun K hK => ?_)
      refine call_ 52 #[.string ⟨#[117, 112]⟩, .string (hexS l0[k]), .pointer (some ⟨w1.heap.size, 0, none⟩)] (by rfl) rfl (by kernel_rfl) ?_
      with_reducible refine ((cLn _ hHeld.1).out).mono ?_
      rintro e w3 ⟨rfl, hP3⟩
      refine ⟨_, rfl, ?_⟩
      refine hK.out _ _ ?_
      clear hK K
      refine norm_ (a' := ?_) ?_ ?_
      rotate_left
      · show Act.put _ (some 29) _ = _
        simp only [Act.put, List.setIfInBounds_toArray, List.set_cons_zero, List.set_cons_succ, i64_w, i32_w]
        rfl
      refine done_ (by kernel_rfl) ?_
      refine NoPanic.normal ?_
      go_wp2_with fail
      go_roundw
      case rel => exact ⟨k + 1, by omega, by go_num, Lib.hid (by rw [Hup.out]; exact hP3)⟩
      case measure => simp [intOf]; omega
    · have hk' : k = l0.length := by omega
      have hI0 := hI.out
      rw [hk', List.take_length] at hI0
      have HI0 := Lib.hid hI0
      clear hI hI0
      have scC : Hid (∀ txt w', PutI w1 W.heap.size w1.heap.size cs0 txt w' → (w'.cell? ⟨W.heap.size, 0, none⟩ = some (.slice A0 l0.length c0) ∧ w'.cell? ⟨W.heap.size, 1, none⟩ = some (.int .i64 e0) ∧ w'.cell? ⟨W.heap.size, 2, none⟩ = some (.slice A2 l2.length c2) ∧ w'.cell? ⟨W.heap.size, 3, none⟩ = some (.int .i64 s0) ∧ w'.cell? ⟨W.heap.size, 4, none⟩ = some (.slice A4 l4.length c4))) :=
        Lib.hid fun txt w' hP => cells5 (by rw [ecs]; exact hP.scr)
      obtain ⟨je, hje, hj2⟩ : ∃ j : Nat, e0 = (j : Int) ∧ j < 3 := by
        have h := Hr.out
        unfold rightB inTo at h
        simp only [Bool.and_eq_true, decide_eq_true_eq] at h
        exact ⟨e0.toNat, by omega, by omega⟩
      have tabE : Hid (∀ txt w', PutI w1 W.heap.size w1.heap.size cs0 txt w' → w'.cell? ⟨0, je, none⟩ = some (.string (endW e0))) := Lib.hid fun txt w' hP => by
        have ht := HT1.out.below (hP.below.mono (by omega))
        subst hje
        rcases je with _ | _ | _ | je
        · exact ht.ends0
        · exact ht.ends1
        · exact ht.ends2
        · omega
      have cLE := fun V' (hP : PutI w1 W.heap.size w1.heap.size cs0 (upsT l0) V') => Lib.hid (Line_put hP hlt ⟨#[101, 110, 100]⟩ (endW e0) (by decide) (by unfold endW; split; decide; split; decide; decide) (by have := upsT_len l0; have := HSm.out.1; omega))
      have q0 : (0 : Int) ≤ e0 := by omega
      have q1 : e0 < 3 := by omega
      subst hje
      go_wp2_with fail
      refine wp_region_noPanic ?_
      refine start_ (n := 7) (S := fun w' => PutI w1 W.heap.size w1.heap.size cs0 (upsT l0) w' ∧ w'.cell? ⟨w1.heap.size + 1, 0, none⟩ = some (.func (.func 52) #[] #[.pointer (some ⟨w1.heap.size, 0, none⟩)]) ∧ w'.cell? ⟨W.heap.size, 0, none⟩ = some (.slice A0 l0.length c0) ∧ w'.cell? ⟨W.heap.size, 1, none⟩ = some (.int .i64 ((je : Nat) : Int)) ∧ w'.cell? ⟨W.heap.size, 2, none⟩ = some (.slice A2 l2.length c2) ∧ w'.cell? ⟨W.heap.size, 3, none⟩ = some (.int .i64 s0) ∧ w'.cell? ⟨W.heap.size, 4, none⟩ = some (.slice A4 l4.length c4) ∧ w'.cell? ⟨0, je, none⟩ = some (.string (endW ((je : Nat) : Int)))) (ds := [6]) #[false, false, false, false, false, false, false] (by kernel_rfl) rfl rfl ⟨HI0.out.drew, (PutI.lcell HI0.out.drew), (scC.out _ _ HI0.out.drew).1, (scC.out _ _ HI0.out.drew).2.1, (scC.out _ _ HI0.out.drew).2.2.1, (scC.out _ _ HI0.out.drew).2.2.2.1, (scC.out _ _ HI0.out.drew).2.2.2.2, (tabE.out _ _ HI0.out.drew)⟩ (fun hHeld => ?_)
      refine pure_ (i := 1) (N := some 32) (v := ?_) (a' := ?_) #[false, true, false, false, false, false, false] rfl rfl (by kernel_rfl) (fun _ _ _ h => h) (Or.inl ⟨by rfl, ?_⟩) ?_ ?_
      rotate_left
      · intro w'
        go_simp
        with_reducible rfl
      rotate_left
      · simp only [Act.put, List.setIfInBounds_toArray, List.set_cons_zero, List.set_cons_succ, i64_w, i32_w]
        rfl
      refine pure_ (i := 2) (N := some 33) (v := ?_) (a' := ?_) #[false, true, true, false, false, false, false] rfl rfl (by kernel_rfl) (fun _ _ _ h => h) (Or.inl ⟨by rfl, ?_⟩) ?_ ?_
      rotate_left
      · intro w'
        go_simp
        with_reducible rfl
      rotate_left
      · simp only [Act.put, List.setIfInBounds_toArray, List.set_cons_zero, List.set_cons_succ, i64_w, i32_w]
        rfl
      refine take_ (i := 0) (N := some 31) (v := ?_) (a' := ?_) #[true, true, true, false, false, false, false] rfl rfl (by kernel_rfl) (fun _ _ _ h => h) (Or.inl ⟨by rfl, ?_⟩) hHeld ?_ ?_
      rotate_left
      · rintro w' ⟨s0, s1, s2, s3, s4, s5, s6, s7⟩
        go_simp
        with_reducible rfl
      rotate_left
      · simp only [Act.put, List.setIfInBounds_toArray, List.set_cons_zero, List.set_cons_succ, i64_w, i32_w]
        rfl
      refine take_ (i := 3) (N := some 34) (v := ?_) (a' := ?_) #[true, true, true, true, false, false, false] rfl rfl (by kernel_rfl) (fun _ _ _ h => h) (Or.inl ⟨by rfl, ?_⟩) hHeld ?_ ?_
      rotate_left
      · rintro w' ⟨s0, s1, s2, s3, s4, s5, s6, s7⟩
        go_simp
        with_reducible rfl
      rotate_left
      · simp only [Act.put, List.setIfInBounds_toArray, List.set_cons_zero, List.set_cons_succ, i64_w, i32_w]
        rfl
      refine pure_ (i := 4) (N := some 35) (v := ?_) (a' := ?_) #[true, true, true, true, true, false, false] rfl rfl (by kernel_rfl) (fun _ _ _ h => h) (Or.inl ⟨by rfl, ?_⟩) ?_ ?_
      rotate_left
      · intro w'
        go_simp
        with_reducible rfl
      rotate_left
      · simp only [Act.put, List.setIfInBounds_toArray, List.set_cons_zero, List.set_cons_succ, i64_w, i32_w]
        rfl
      refine take_ (i := 5) (N := some 36) (v := ?_) (a' := ?_) #[true, true, true, true, true, true, false] rfl rfl (by kernel_rfl) (fun _ _ _ h => h) (Or.inl ⟨by rfl, ?_⟩) hHeld ?_ ?_
      rotate_left
      · rintro w' ⟨s0, s1, s2, s3, s4, s5, s6, s7⟩
        go_simp
        with_reducible rfl
      rotate_left
      · simp only [Act.put, List.setIfInBounds_toArray, List.set_cons_zero, List.set_cons_succ, i64_w, i32_w]
        rfl
      refine last_ (i := 6) (N := some 37) #[true, true, true, true, true, true, true] rfl rfl (by kernel_rfl) (by decide) (fun K hK => ?_)
      refine call_ 52 #[.string ⟨#[101, 110, 100]⟩, .string (endW ((je : Nat) : Int)), .pointer (some ⟨w1.heap.size, 0, none⟩)] (by rfl) rfl (by kernel_rfl) ?_
      with_reducible refine ((cLE _ hHeld.1).out).mono ?_
      rintro e w3 ⟨rfl, hP3⟩
      refine ⟨_, rfl, ?_⟩
      refine hK.out _ _ ?_
      clear hK K
      refine norm_ (a' := ?_) ?_ ?_
      rotate_left
      · show Act.put _ (some 37) _ = _
        simp only [Act.put, List.setIfInBounds_toArray, List.set_cons_zero, List.set_cons_succ, i64_w, i32_w]
        rfl
      refine done_ (by kernel_rfl) ?_
      refine NoPanic.normal ?_
      obtain ⟨z0, z1, z2, z3, z4⟩ := scC.out _ _ hP3
      have HE3 := Lib.hid hP3
      clear hP3
      have hk9 : l2.length ≤ 1500 := HSm.out.2.1
      go_wp2_with fail
      obtain ⟨T0, eT0⟩ : ∃ T0, upsT l0 ++ lineB ⟨#[101, 110, 100]⟩ (endW ((je : Nat) : Int)) = T0 := ⟨_, rfl⟩
      rw [eT0] at HE3
      have hT0 : T0.length ≤ 11000 := by
        rw [← eT0, List.length_append, lineB_len]
        have h1 := upsT_len l0
        have h2 := HSm.out.1
        have h3 : (endW ((je : Nat) : Int)).size ≤ 6 := by unfold endW; split; decide; split; decide; decide
        have h4 : (⟨#[101, 110, 100]⟩ : ByteArray).size = 3 := rfl
        omega
      go_loopw [42] (fun i wr => ∃ k : Nat, k ≤ l2.length ∧ i = .int .i64 (k : Nat) ∧ Hid (PutI w1 W.heap.size w1.heap.size cs0 (T0 ++ takesT (l2.take k)) wr)) (fun i _ => l2.length - (intOf i).toNat)
      case atStart => exact ⟨0, Nat.zero_le _, rfl, by simpa [takesT] using HE3⟩
      case round =>
        obtain ⟨k, hk, rfl, hI⟩ := hrel
        by_cases hlk : k < l2.length
        · obtain ⟨ad, eA, hc1⟩ := kd_at H1.out.r2 hlk
          subst eA
          rw [rd_get hlk] at hc1
          have hc := (hI.out.below.cell (p := ad.add k) (World.block_lt_of_cell? w1 _ hc1)).trans hc1
          have p1 : (0 : Int) ≤ (k : Int) := Int.natCast_nonneg k
          have p2 : (k : Int) < (l2.length : Int) := by omega
          have hx : 0 ≤ l2[k] ∧ l2[k] ≤ 1073741824 := by
            have h := Hr.out
            unfold rightB at h
            simp only [Bool.and_eq_true] at h
            have h2 := List.all_eq_true.1 h.1.2 _ (List.getElem_mem hlk)
            unfold inTo at h2
            simpa using h2
          have Hup := Lib.hid (takesT_succ hlk)
          have hti := takesT_len (l2.take k) (by intro y hy; have h := Hr.out; unfold rightB at h; simp only [Bool.and_eq_true] at h; have h2 := List.all_eq_true.1 h.1.2 _ (List.mem_of_mem_take hy); unfold inTo at h2; simpa using h2)
          have hlt2 := List.length_take_le k l2
          have hil := Lib.itoa_length_le l2[k] (by omega) (by omega)
          have his : (⟨(Lib.itoa l2[k]).toArray⟩ : ByteArray).size = (Lib.itoa l2[k]).length := List.size_toArray
          obtain ⟨xk, hxk⟩ : ∃ xk, l2[k] = xk := ⟨_, rfl⟩
          rw [hxk] at hc hx hil his Hup
          have cI := fun V' (hP : PutI w1 W.heap.size w1.heap.size cs0 (T0 ++ takesT (l2.take k)) V') => Lib.hid ((Tryd.strconv_Itoa xk (by omega) (by omega) V' (HT1.out.below (hP.below.mono (by omega))).pow).mono fun e w' h => (⟨h.1, hP.old (by obtain ⟨q, os, rfl⟩ := h.2; exact Lib.below_grow _ _ (Nat.le_refl _) _ _)⟩ : e = .returned (.string ⟨(Lib.itoa xk).toArray⟩) ∧ PutI w1 W.heap.size w1.heap.size cs0 (T0 ++ takesT (l2.take k)) w'))
          have cLT := fun V' (hP : PutI w1 W.heap.size w1.heap.size cs0 (T0 ++ takesT (l2.take k)) V') => Lib.hid (Line_put hP hlt ⟨#[116, 97, 107, 101]⟩ ⟨(Lib.itoa xk).toArray⟩ (by decide) (by omega) (by rw [List.length_append]; omega))
          clear hc1
          go_wp2_with fail
          refine wp_region_noPanic ?_
          refine start_ (n := 4) (S := fun w' => PutI w1 W.heap.size w1.heap.size cs0 (T0 ++ takesT (l2.take k)) w' ∧ w'.cell? ⟨w1.heap.size + 1, 0, none⟩ = some (.func (.func 52) #[] #[.pointer (some ⟨w1.heap.size, 0, none⟩)])) (ds := [3]) #[false, false, false, false] (by kernel_rfl) rfl rfl ⟨hI.out.drew, (PutI.lcell hI.out.drew)⟩ (fun hHeld => ?_)
          refine pure_ (i := 1) (N := some 47) (v := ?_) (a' := ?_) #[false, true, false, false] rfl rfl (by kernel_rfl) (fun _ _ _ h => h) (Or.inl ⟨by rfl, ?_⟩) ?_ ?_
          rotate_left
          · intro w'
            go_simp
            with_reducible rfl
          rotate_left
          · simp only [Act.put, List.setIfInBounds_toArray, List.set_cons_zero, List.set_cons_succ, i64_w, i32_w]
            rfl
          refine take_ (i := 0) (N := some 46) (v := ?_) (a' := ?_) #[true, true, false, false] rfl rfl (by kernel_rfl) (fun _ _ _ h => h) (Or.inl ⟨by rfl, ?_⟩) hHeld ?_ ?_
          rotate_left
          · rintro w' ⟨s0, s1⟩
            go_simp
            with_reducible rfl
          rotate_left
          · simp only [Act.put, List.setIfInBounds_toArray, List.set_cons_zero, List.set_cons_succ, i64_w, i32_w]
            rfl
          refine one_ (i := 2) (N := some 48) #[true, true, true, false] rfl rfl (by kernel_rfl) (by decide) (fun K hK => ?_)
          refine goes_ Tryd.func54 (by kernel_rfl) rfl #[.int .i64 xk] (by rfl) rfl rfl (by simp only [List.map_toArray, List.map_cons, List.map_nil]; rfl) ?_
          with_reducible refine ((cI _ hHeld.1).out).mono ?_
          rintro e w2 ⟨rfl, hP2⟩
          refine ⟨_, rfl, ?_⟩
          refine hK.out _ _ ⟨hP2, (PutI.lcell hP2)⟩ (fun hHeld => ?_)
          clear hK K
          refine norm_ (a' := ?_) ?_ ?_
          rotate_left
          · show Act.put _ (some 48) _ = _
            simp only [Act.put, List.setIfInBounds_toArray, List.set_cons_zero, List.set_cons_succ, i64_w, i32_w]
            rfl
          refine last_ (i := 3) (N := some 49) #[true, true, true, true] rfl rfl (by kernel_rfl) (by decide) (fun K hK => ?_)
          refine call_ 52 #[.string ⟨#[116, 97, 107, 101]⟩, .string ⟨(Lib.itoa xk).toArray⟩, .pointer (some ⟨w1.heap.size, 0, none⟩)] (by rfl) rfl (by kernel_rfl) ?_
          with_reducible refine ((cLT _ hHeld.1).out).mono ?_
          rintro e w3 ⟨rfl, hP3⟩
          refine ⟨_, rfl, ?_⟩
          refine hK.out _ _ ?_
          clear hK K
          refine norm_ (a' := ?_) ?_ ?_
          rotate_left
          · show Act.put _ (some 49) _ = _
            simp only [Act.put, List.setIfInBounds_toArray, List.set_cons_zero, List.set_cons_succ, i64_w, i32_w]
            rfl
          refine done_ (by kernel_rfl) ?_
          refine NoPanic.normal ?_
          go_wp2_with fail
          go_roundw
          case rel => exact ⟨k + 1, by omega, by go_num, Lib.hid (by rw [Hup.out, ← List.append_assoc]; exact hP3)⟩
          case measure => simp [intOf]; omega
        · have hk' : k = l2.length := by omega
          have hI0 := hI.out
          rw [hk', List.take_length] at hI0
          have hti := takesT_len l2 (by intro y hy; have h := Hr.out; unfold rightB at h; simp only [Bool.and_eq_true] at h; have h2 := List.all_eq_true.1 h.1.2 _ hy; unfold inTo at h2; simpa using h2)
          obtain ⟨T1, eT1⟩ : ∃ T1, T0 ++ takesT l2 = T1 := ⟨_, rfl⟩
          have hT1l : T1.length ≤ 60000 := by rw [← eT1, List.length_append]; omega
          rw [eT1] at hI0
          have HI1 := Lib.hid hI0
          clear hI hI0
          obtain ⟨js, hjs, hs2⟩ : ∃ j : Nat, s0 = (j : Int) ∧ j < 3 := by
            have h := Hr.out
            unfold rightB inTo at h
            simp only [Bool.and_eq_true, decide_eq_true_eq] at h
            exact ⟨s0.toNat, by omega, by omega⟩
          have tabS : Hid (∀ txt w', PutI w1 W.heap.size w1.heap.size cs0 txt w' → w'.cell? ⟨1, js, none⟩ = some (.string (stopW s0))) := Lib.hid fun txt w' hP => by
            have ht := HT1.out.below (hP.below.mono (by omega))
            subst hjs
            rcases js with _ | _ | _ | js
            · exact ht.stops0
            · exact ht.stops1
            · exact ht.stops2
            · omega
          have hsw : (stopW s0).size ≤ 6 := by unfold stopW; split; decide; split; decide; decide
          have cLS := fun V' (hP : PutI w1 W.heap.size w1.heap.size cs0 T1 V') => Lib.hid (Line_put hP hlt ⟨#[115, 116, 111, 112]⟩ (stopW s0) (by decide) (by omega) (by omega))
          have q0 : (0 : Int) ≤ s0 := by omega
          have q1 : s0 < 3 := by omega
          subst hjs
          go_wp2_with fail
          refine wp_region_noPanic ?_
          refine start_ (n := 7) (S := fun w' => PutI w1 W.heap.size w1.heap.size cs0 (T1) w' ∧ w'.cell? ⟨w1.heap.size + 1, 0, none⟩ = some (.func (.func 52) #[] #[.pointer (some ⟨w1.heap.size, 0, none⟩)]) ∧ w'.cell? ⟨W.heap.size, 0, none⟩ = some (.slice A0 l0.length c0) ∧ w'.cell? ⟨W.heap.size, 1, none⟩ = some (.int .i64 ((je : Nat) : Int)) ∧ w'.cell? ⟨W.heap.size, 2, none⟩ = some (.slice A2 l2.length c2) ∧ w'.cell? ⟨W.heap.size, 3, none⟩ = some (.int .i64 ((js : Nat) : Int)) ∧ w'.cell? ⟨W.heap.size, 4, none⟩ = some (.slice A4 l4.length c4) ∧ w'.cell? ⟨1, js, none⟩ = some (.string (stopW ((js : Nat) : Int)))) (ds := [6]) #[false, false, false, false, false, false, false] (by kernel_rfl) rfl rfl ⟨HI1.out.drew, (PutI.lcell HI1.out.drew), (scC.out _ _ HI1.out.drew).1, (scC.out _ _ HI1.out.drew).2.1, (scC.out _ _ HI1.out.drew).2.2.1, (scC.out _ _ HI1.out.drew).2.2.2.1, (scC.out _ _ HI1.out.drew).2.2.2.2, (tabS.out _ _ HI1.out.drew)⟩ (fun hHeld => ?_)
          refine pure_ (i := 1) (N := some 52) (v := ?_) (a' := ?_) #[false, true, false, false, false, false, false] rfl rfl (by kernel_rfl) (fun _ _ _ h => h) (Or.inl ⟨by rfl, ?_⟩) ?_ ?_
          rotate_left
          · intro w'
            go_simp
            with_reducible rfl
          rotate_left
          · simp only [Act.put, List.setIfInBounds_toArray, List.set_cons_zero, List.set_cons_succ, i64_w, i32_w]
            rfl
          refine pure_ (i := 2) (N := some 53) (v := ?_) (a' := ?_) #[false, true, true, false, false, false, false] rfl rfl (by kernel_rfl) (fun _ _ _ h => h) (Or.inl ⟨by rfl, ?_⟩) ?_ ?_
          rotate_left
          · intro w'
            go_simp
            with_reducible rfl
          rotate_left
          · simp only [Act.put, List.setIfInBounds_toArray, List.set_cons_zero, List.set_cons_succ, i64_w, i32_w]
            rfl
          refine take_ (i := 0) (N := some 51) (v := ?_) (a' := ?_) #[true, true, true, false, false, false, false] rfl rfl (by kernel_rfl) (fun _ _ _ h => h) (Or.inl ⟨by rfl, ?_⟩) hHeld ?_ ?_
          rotate_left
          · rintro w' ⟨s0, s1, s2, s3, s4, s5, s6, s7⟩
            go_simp
            with_reducible rfl
          rotate_left
          · simp only [Act.put, List.setIfInBounds_toArray, List.set_cons_zero, List.set_cons_succ, i64_w, i32_w]
            rfl
          refine take_ (i := 3) (N := some 54) (v := ?_) (a' := ?_) #[true, true, true, true, false, false, false] rfl rfl (by kernel_rfl) (fun _ _ _ h => h) (Or.inl ⟨by rfl, ?_⟩) hHeld ?_ ?_
          rotate_left
          · rintro w' ⟨s0, s1, s2, s3, s4, s5, s6, s7⟩
            go_simp
            with_reducible rfl
          rotate_left
          · simp only [Act.put, List.setIfInBounds_toArray, List.set_cons_zero, List.set_cons_succ, i64_w, i32_w]
            rfl
          refine pure_ (i := 4) (N := some 55) (v := ?_) (a' := ?_) #[true, true, true, true, true, false, false] rfl rfl (by kernel_rfl) (fun _ _ _ h => h) (Or.inl ⟨by rfl, ?_⟩) ?_ ?_
          rotate_left
          · intro w'
            go_simp
            with_reducible rfl
          rotate_left
          · simp only [Act.put, List.setIfInBounds_toArray, List.set_cons_zero, List.set_cons_succ, i64_w, i32_w]
            rfl
          refine take_ (i := 5) (N := some 56) (v := ?_) (a' := ?_) #[true, true, true, true, true, true, false] rfl rfl (by kernel_rfl) (fun _ _ _ h => h) (Or.inl ⟨by rfl, ?_⟩) hHeld ?_ ?_
          rotate_left
          · rintro w' ⟨s0, s1, s2, s3, s4, s5, s6, s7⟩
            go_simp
            with_reducible rfl
          rotate_left
          · simp only [Act.put, List.setIfInBounds_toArray, List.set_cons_zero, List.set_cons_succ, i64_w, i32_w]
            rfl
          refine last_ (i := 6) (N := some 57) #[true, true, true, true, true, true, true] rfl rfl (by kernel_rfl) (by decide) (fun K hK => ?_)
          refine call_ 52 #[.string ⟨#[115, 116, 111, 112]⟩, .string (stopW ((js : Nat) : Int)), .pointer (some ⟨w1.heap.size, 0, none⟩)] (by rfl) rfl (by kernel_rfl) ?_
          with_reducible refine ((cLS _ hHeld.1).out).mono ?_
          rintro e w3 ⟨rfl, hP3⟩
          refine ⟨_, rfl, ?_⟩
          refine hK.out _ _ ?_
          clear hK K
          refine norm_ (a' := ?_) ?_ ?_
          rotate_left
          · show Act.put _ (some 57) _ = _
            simp only [Act.put, List.setIfInBounds_toArray, List.set_cons_zero, List.set_cons_succ, i64_w, i32_w]
            rfl
          refine done_ (by kernel_rfl) ?_
          refine NoPanic.normal ?_
          obtain ⟨z0, z1, z2, z3, z4⟩ := scC.out _ _ hP3
          have HS3 := Lib.hid hP3
          clear hP3
          go_wp2_with fail
          refine (Chunk_any _ _ _ _).mono ?_; rintro e w' ⟨rfl, rfl⟩; dsimp only
          go_wp2_with fail
          obtain ⟨T2, eT2⟩ : ∃ T2, T1 ++ lineB ⟨#[115, 116, 111, 112]⟩ (stopW ((js : Nat) : Int)) = T2 := ⟨_, rfl⟩
          have hT2l : T2.length ≤ 61000 := by
            rw [← eT2, List.length_append, lineB_len]
            have h4 : (⟨#[115, 116, 111, 112]⟩ : ByteArray).size = 4 := rfl
            omega
          rw [eT2] at HS3
          obtain ⟨ad4, hA4⟩ : ∃ ad, 0 < l4.length → A4 = some ad := by
            cases hA : A4 with
            | none => exact ⟨⟨0, 0, none⟩, fun h => by
                obtain ⟨ad, e, _⟩ := H1.out.r4.2.2 h
                rw [hA] at e; cases e⟩
            | some a => exact ⟨a, fun _ => rfl⟩
          have HA4 := Lib.hid hA4
          have hk10 : l4.length ≤ 1500 := HSm.out.2.2
          obtain ⟨wc, ewc, hwcB, hb1, hb2, hszc⟩ : ∃ wc, (w3.alloc (.cells #[.slice A4 l4.length c4] 30)).alloc (.cells #[.int .i64 60] 3) = wc ∧ Below w3.heap.size w3 wc ∧ wc.heap[w3.heap.size]? = some (.cells #[.slice A4 l4.length c4] 30 (0, 0)) ∧ wc.heap[w3.heap.size + 1]? = some (.cells #[.int .i64 60] 3 (0, 0)) ∧ wc.heap.size = w3.heap.size + 2 :=
            ⟨_, rfl, ((Below.refl _ w3).alloc (Nat.le_refl _) _).alloc (by simp) _, by rw [Below.heap_alloc _ _ _ (by simp), World.alloc_heap_new], heap_alloc2_newL _ _ _, by simp⟩
          rw [ewc]
          have HP4 := Lib.hid (HS3.out.old hwcB)
          have hbw := HP4.out.below.size
          clear hA4 ewc
          refine wp_rangeY (P := Tryd.prog) (encs := fun x : Nat => #[pieceV ad4 l4.length x]) (Kp := fun U U' => U'.heap[w3.heap.size]? = U.heap[w3.heap.size]? ∧ U'.heap[w3.heap.size + 1]? = U.heap[w3.heap.size + 1]?) (Y := fun _ => False) (gf := 73) (fun h k => ⟨k.1.trans h.1, k.2.trans h.2⟩)
            (fun U l o o' hl ho hc _ => ⟨World.putObj_heap_other (by omega), World.putObj_heap_other (by omega)⟩) rfl (enters_of Tryd.func73 (by kernel_rfl) rfl)
            (chunk_seq w3.heap.size (w3.heap.size + 1) A4 ad4 l4.length c4 HA4.out H1.out.k4 (by omega) wc hb1 hb2) (fun r hr => hr.elim) (fun pre x U l o' h hl => ⟨h.1, h.2.1.imp fun c hc => (World.putObj_heap_other (by omega)).trans hc, h.2.2.imp fun c hc => (World.putObj_heap_other (by omega)).trans hc⟩)
            (Below.refl _ _) (fun _ => rfl)
            (fun pre U => PutI w1 W.heap.size w1.heap.size cs0 (T2 ++ pre.flatMap fun x => lineB sPick (pieceW l4 x)) U) (fun c pre U => False)
            ?hI (fun c s A B row h _ _ => h.elim) (by simpa using HP4.out) ?a1 ?assign ?body ?done (fun D c pre U hD hS h hK => h.elim)
          case assign =>
            intro l' x U K hK
            gi_wp2_with fail
            exact hK
          case hI => exact PutI.ownY (HP4.out.lineLt) (by have := lt_of_heap HP4.out.scr; omega) _
          case body =>
            rintro l' pre x U hI ⟨⟨kk, hkk, rfl, rfl⟩, hx1, hx2⟩
            have hxn : 60 * kk < l4.length := by unfold nOffs at hkk; omega
            have hA := HA4.out (by omega)
            obtain ⟨m, hm⟩ : ∃ m, min 60 (l4.length - 60 * kk) = m := ⟨_, rfl⟩
            have hpv : pieceV ad4 l4.length (60 * kk) = .slice (some (ad4.add (60 * kk))) m m := by unfold pieceV; rw [hm]
            have hm0 : 0 < m := by omega
            have hm1 : m ≤ 60 := by omega
            have hm2 : 60 * kk + m ≤ l4.length := by omega
            have hcell : ∀ j, j < m → ∃ p, l4[60 * kk + j]? = some p ∧ (p = 0 ∨ p = 1 ∨ p = 2) ∧ U.cell? ((ad4.add (60 * kk)).add j) = some (.int .i64 p) := by
              intro j hj
              have hjl : 60 * kk + j < l4.length := by omega
              obtain ⟨ad, e, hc⟩ := kd_at H1.out.r4 hjl
              rw [hA] at e
              cases e
              rw [rd_get hjl] at hc
              refine ⟨l4[60 * kk + j], List.getElem?_eq_getElem hjl, ?_, ?_⟩
              · have h := Hr.out
                unfold rightB at h
                simp only [Bool.and_eq_true] at h
                have h2 := List.all_eq_true.1 h.2 _ (List.getElem_mem hjl)
                unfold inTo at h2
                simp only [Bool.and_eq_true, decide_eq_true_eq] at h2
                omega
              · rw [Go.Addr.add_add]
                exact (hI.below.cell (p := ad4.add (60 * kk + j)) (World.block_lt_of_cell? w1 _ hc)).trans hc
            have hmk := make_u8 m (by omega)
            have Hm := Lib.hid hm
            rw [hpv]
            have HIU := Lib.hid hI
            have HCe := Lib.hid hcell
            clear hI hcell hpv hm hA
            gi_wp2_with fail
            obtain ⟨UW, eUW⟩ : ∃ UW, U.alloc (.cells (Array.replicate m (Value.int .u8 0)) 5) = UW := ⟨_, rfl⟩
            have HUW := Lib.hid (show Below U.heap.size U UW from eUW ▸ (Below.refl _ U).alloc (Nat.le_refl _) _)
            have HG0 := Lib.hid (show UW.heap[U.heap.size]? = some (.cells (fillA l4 (60 * kk) m 0) 5 (0, 0)) from eUW ▸ (by rw [fillA_zero]; exact World.alloc_heap_new U _))
            rw [eUW]
            clear eUW hmk
            gi_loopw [67] (fun i wr => ∃ k : Nat, k ≤ m ∧ i = .int .i64 (k : Nat) ∧ Hid (wr.heap[U.heap.size]? = some (.cells (fillA l4 (60 * kk) m k) 5 (0, 0))) ∧ Hid (Below U.heap.size U wr)) (fun i _ => m - (intOf i).toNat)
            case atStart => exact ⟨0, Nat.zero_le _, rfl, HG0, HUW⟩
            case round =>
              obtain ⟨k, hk, rfl, hG, hB⟩ := hrel
              by_cases hlk : k < m
              · obtain ⟨p, hp, hp3, hc⟩ := HCe.out k hlk
                have hcU := (hB.out.cell (p := (ad4.add (60 * kk)).add k) (World.block_lt_of_cell? U _ hc)).trans hc
                have p1 : (0 : Int) ≤ (k : Int) := Int.natCast_nonneg k
                have p2 : (k : Int) < (m : Int) := by omega
                obtain ⟨vg, hgc⟩ := fillA_cell hG.out hm2 hlk
                have hgf := froz hG.out k
                have HS := Lib.hid (fillA_step hG.out hm2 hlk hp)
                have HBs := Lib.hid (show ∀ u, Below U.heap.size U (wr.setCell ⟨U.heap.size, k, none⟩ u) from fun u => hB.out.setCell (p := ⟨U.heap.size, k, none⟩) (Nat.le_refl _) u)
                clear hp hc
                rcases hp3 with rfl | rfl | rfl
                all_goals
                  gi_wp2_with fail
                  go_roundw
                  case rel => exact ⟨k + 1, by omega, by go_num, HS, Lib.hid (HBs.out _)⟩
                  case measure => simp [intOf]; omega
              · have hk' : k = m := by omega
                subst hk'
                have hcv := conv_word hG.out hm2 Hm.out
                have hIr := HIU.out.old hB.out
                have hlc := hIr.lcell
                have hpz : (pieceW l4 (60 * kk)).size ≤ 60 := by
                  show (List.toArray _).size ≤ 60
                  rw [List.size_toArray, List.length_map, List.length_take]; omega
                have htx : (T2 ++ (offsL kk).flatMap fun x => lineB sPick (pieceW l4 x)).length ≤ 100000000 := by
                  have h1 := picks_len l4 (offsL kk)
                  have h2 : (offsL kk).length = kk := by simp [offsL]
                  rw [List.length_append]; omega
                have hL := Lib.hid (inRound (n := 5) l' (Line_put2 hIr hlt ⟨#[112, 105, 99, 107]⟩ (pieceW l4 (60 * kk)) (by decide) (by omega) htx))
                have hzB := hB.out.size
                gi_wp2_with fail
                refine ⟨trivial, hL.out.mono ?_⟩; rintro e w9 ⟨rfl, hP9, hK9, hz9⟩; dsimp only
                have HP9 := Lib.hid hP9
                have q3 := HS3.out.lineLt
                have q4 := HP4.out.lineLt
                have hbU : w1.heap.size < U.heap.size := by have := HIU.out.lineLt; omega
                have HKb := Lib.hid (show ∀ B, B ≠ w1.heap.size → (∃ c t, t ≠ 5 ∧ U.heap[B]? = some (.cells c t (0, 0))) → w9.heap[B]? = U.heap[B]? from fun B hne ⟨c, t, ht, ho⟩ =>
                  (hK9 B _ ((hB.out.block B (lt_of_heap ho)).trans ho) hne (fun cs fr e => by injection e with _ e2; exact ht e2)).trans ho.symm)
                have HKf := Lib.hid (show KeepsFrom wc.heap.size U w9 from ⟨by omega, fun q o hq ho hc => hK9 q o ((hB.out.block q (lt_of_heap ho)).trans ho) (by omega) (fun cs fr e => by subst e; cases hc)⟩)
                clear hP9 hK9
                gi_wp2_with fail
                refine ⟨HKf.out, ⟨HKb.out _ (by omega) ?_, HKb.out _ (by omega) ?_⟩, ?_⟩
                · obtain ⟨c, hc⟩ := hx1; exact ⟨c, _, by decide, hc⟩
                · obtain ⟨c, hc⟩ := hx2; exact ⟨c, _, by decide, hc⟩
                · show PutI w1 W.heap.size w1.heap.size cs0 (T2 ++ (offsL kk ++ [60 * kk]).flatMap fun x => lineB sPick (pieceW l4 x)) w9
                  rw [List.flatMap_append, ← List.append_assoc, List.flatMap_cons, List.flatMap_nil, List.append_nil]
                  exact HP9.out
          case done =>
            rintro D xs U hD rfl hI hK
            have HI := Lib.hid (show PutI w1 W.heap.size w1.heap.size cs0 (T2 ++ picksT l4 (nOffs l4.length)) U from hI)
            obtain ⟨v9, hv9⟩ := hI.bld
            have hbU : w1.heap.size ≤ U.heap.size := HI.out.below.size
            have hS := Lib.hid (Tryd.Builder_String_any_k _ _ (T2 ++ picksT l4 (nOffs l4.length)) U (Lib.IsBuilderF.of hv9.is) hbU)
            have hDU := lt_of_heap hK
            clear hI hv9
            go_wp2_with fail
            refine hS.out.mono ?_; rintro e w9 ⟨rfl, _, hb9, ho9⟩; dsimp only
            have hK9 := ho9 D _ hK (by intro e9; injection e9 with e9; have := HP4.out.lineLt; omega) (fun c fz e => by cases e)
            have HB9 := Lib.hid (HB1.out.trans ((HI.out.below.mono (by omega)).trans (hb9.mono (by omega))))
            have ht := show T2 ++ picksT l4 (nOffs l4.length) = putT l0 ((je : Nat) : Int) l2 ((js : Nat) : Int) l4 by rw [← eT2, ← eT1, ← eT0]; rfl
            rw [ht]
            have hDb : W.heap.size ≤ D := by have := HP4.out.lineLt; omega
            clear hb9 ho9 hS
            go_wp2_with fail
            exact post_mark rfl hK9 (results_tmp2 rfl _ _ _) ⟨rfl, below_put HB9.out hDb⟩
end

end Go.Proofs.YtplcfijcmihhlaaDoor
