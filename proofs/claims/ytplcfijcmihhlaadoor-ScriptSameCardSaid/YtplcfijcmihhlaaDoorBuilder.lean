/-
  strings.Builder at this dump: copyCheck, WriteByte, WriteString, with the frame written out: what a write turns (its own block, and the row of its bytes).
-/
import Derived.Test.YtplcfijcmihhlaaDoorProg
import Derived.Test.YtplcfijcmihhlaaDoorCommon
import Derived.Test.YtplcfijcmihhlaaDoorTouch
import Derived.Test.YtplcfijcmihhlaaDoorOwn
import Derived.Lib.Strings
import Derived.Lib.Slices
import Derived.Lib.Walk
import Derived.Lib.Builder
import Derived.Lib.AppendStr
import Derived.Lib.UnsafeStr
import Derived.Lib.MakeNoZero
import Derived.WalkKit
import Derived.Laws.Externs
import Derived.Laws.IdiomCopy
import Derived.KernelRfl
namespace Go.Proofs.YtplcfijcmihhlaaDoor
open Go.RowKit
set_option linter.unusedVariables false
set_option linter.unusedSimpArgs false

/-- A builder in block b, its bytes bs in the row v (from B on). -/
def Bld (B b : Nat) (v : Value) (bs : List Value) (w : World) : Prop :=
  B ≤ b ∧ w.ownsRow B 5 1 v bs.length bs ∧ (w.heap[b]? = some (.cells #[.pointer none, v] 89 (0, 0)) ∨ w.heap[b]? = some (.cells #[.pointer (some ⟨b, 0, none⟩), v] 89 (0, 0)))

theorem Tryd.bld_size : (Tryd.prog.info? 89).map (·.size) = some 2 := by kernel_rfl
theorem Tryd.bld_lies : liesAt Tryd.prog Tryd.prog.depth 89 (2 / Tryd.prog.cellsOf 89) 0 89 1 = true := by kernel_rfl
theorem Tryd.bld_info8 : (Tryd.prog.info? 5).map (fun i => (i.zero, i.size, i.bytes)) = some (some (.int .u8 0), 1, 1) := by kernel_rfl
theorem Tryd.bld_ne : 89 ≠ 5 := by decide
theorem bld_parts {e : TypeId} {z : Value} {a b : Nat} (h : (Tryd.prog.info? e).map (fun i => (i.zero, i.size, i.bytes)) = some (some z, a, b)) : ∃ i, Tryd.prog.info? e = some i ∧ i.zero = some z ∧ i.size = a ∧ i.bytes = b := by
  obtain ⟨i, hi, he⟩ := Option.map_eq_some_iff.1 h
  simp only [Prod.mk.injEq] at he
  exact ⟨i, hi, he.1, he.2.1, he.2.2⟩

section
variable {B b : Nat} {v : Value} {bs : List Value} {w w1 : World}
theorem Bld.is (h : Bld B b v bs w) : Lib.IsBuilder 89 5 B b bs w := by
  obtain ⟨h1, h2, h3 | h3⟩ := h
  · exact .inl ⟨h1, v, h3, h2, Lib.ownBlock_ne h2 h3 Tryd.bld_ne⟩
  · exact .inr ⟨h1, v, h3, h2, Lib.ownBlock_ne h2 h3 Tryd.bld_ne⟩
theorem Bld.lt (h : Bld B b v bs w) : b < w.heap.size := by
  obtain ⟨_, _, h3 | h3⟩ := h <;> exact lt_of_heap h3
theorem Bld.ne (h : Bld B b v bs w) : v.ownBlock ≠ some b := by
  obtain ⟨_, h2, h3 | h3⟩ := h <;> exact Lib.ownBlock_ne h2 h3 Tryd.bld_ne
theorem Bld.fresh (w : World) : Bld w.heap.size w.heap.size (.slice none 0 0) [] (w.alloc (.cells #[.pointer none, .slice none 0 0] 89)) :=
  ⟨Nat.le_refl _, World.ownsRow_nil _ _ _ _, .inl (heap_alloc_new w _)⟩
theorem Bld.freshAt (w : World) {B : Nat} (hB : B ≤ w.heap.size) : Bld B w.heap.size (.slice none 0 0) [] (w.alloc (.cells #[.pointer none, .slice none 0 0] 89)) :=
  ⟨hB, World.ownsRow_nil _ _ _ _, .inl (heap_alloc_new w _)⟩
theorem Bld.keep (h : Bld B b v bs w) {X : Nat → Prop} (t : Touch X w w1) (hb : ¬ X b) (hv : ∀ k, v.ownBlock = some k → ¬ X k) : Bld B b v bs w1 := by
  obtain ⟨h1, h2, h3⟩ := h
  refine ⟨h1, own_touchL h2 t hv, ?_⟩
  rcases h3 with h3 | h3
  · exact .inl ((t.block b (lt_of_heap h3) hb).trans h3)
  · exact .inr ((t.block b (lt_of_heap h3) hb).trans h3)
theorem Bld.below (h : Bld B b v bs w) (t : Below w.heap.size w w1) : Bld B b v bs w1 := h.keep (Touch.of_new (X := fun _ => False) t) (fun h => h) (fun _ _ h => h)
end

/-- What a write does: b and the row of its bytes turn. -/
abbrev BT (b : Nat) (v : Value) (w w' : World) : Prop := Touch (fun k => k = b ∨ v.ownBlock = some k) w w'

theorem Bld.ge {B b : Nat} {v : Value} {bs : List Value} {w : World} (h : Bld B b v bs w) : ∀ k, v.ownBlock = some k → B ≤ k := fun k hk => by
  rcases h.2.1.2 with ⟨rfl, _⟩ | ⟨g, cap, cur, rfl, hg, _⟩
  · cases hk
  · simp [Value.ownBlock] at hk; omega
theorem BT.below {B b : Nat} {v : Value} {bs : List Value} {w w' : World} (t : BT b v w w') (h : Bld B b v bs w) (hB : B ≤ w.heap.size) : Below B w w' :=
  Touch.below t hB (fun k hk => by
    rcases hk with rfl | hk
    · exact h.1
    · exact h.ge k hk)

set_option maxHeartbeats 1000000 in
set_option maxRecDepth 100000 in
theorem copyCheck_used (b : Nat) (w : World) (h0 : w.cell? ⟨b, 0, none⟩ = some (.pointer (some ⟨b, 0, none⟩))) :
    Calls Tryd.prog 69 #[.pointer (some ⟨b, 0, none⟩)] w fun e w' => e = .returned (.tuple #[]) ∧ w' = w := by
  obtain ⟨j, hj, _⟩ := Option.map_eq_some_iff.1 Tryd.bld_size
  go_enter Tryd.func69, Tryd.ntmps69
  go_wp2
  rw [Lib.run_neq_ptr_same w _ Tryd.underlying87 hj]
  go_wp2
  go_end0
  exact ⟨rfl, rfl⟩

set_option maxHeartbeats 1000000 in
set_option maxRecDepth 100000 in
theorem copyCheck_fresh (b : Nat) (w : World) (h0 : w.cell? ⟨b, 0, none⟩ = some (.pointer none)) (hsh : w.shape? b = some (89, 2)) (hfz : w.frozen? ⟨b, 0, none⟩ = false) :
    Calls Tryd.prog 69 #[.pointer (some ⟨b, 0, none⟩)] w fun e w' => e = .returned (.tuple #[]) ∧ w' = w.setCell ⟨b, 0, none⟩ (.pointer (some ⟨b, 0, none⟩)) := by
  obtain ⟨j, hj, hjs⟩ := Option.map_eq_some_iff.1 Tryd.bld_size
  go_enter Tryd.func69, Tryd.ntmps69
  go_wp2
  rw [Lib.run_to_unsafe w ⟨b, 0, none⟩ Tryd.underlying87 Tryd.underlying154 hj (by rw [hjs]; decide) hsh (Nat.zero_lt_succ 1)]
  simp only [Result.andThen]
  rw [Oper.upon_value]
  go_wp2
  rw [run_callFunc_extern Tryd.func95 (by kernel_rfl) (by kernel_rfl) (by kernel_rfl) (e := Extern.AbiNoEscape.same) (by kernel_rfl)]
  rw [Lib.run_noEscape]
  simp only [Result.andThen]
  rw [Oper.upon_value]
  go_wp2
  rw [Lib.run_from_unsafe w ⟨b, 0, none⟩ Tryd.underlying154 Tryd.underlying87 hj hsh Tryd.bld_lies]
  simp only [Result.andThen]
  rw [Oper.upon_value]
  go_wp2
  go_end0
  exact ⟨rfl, rfl⟩

/-- copyCheck. -/
theorem copyCheck_any {B b : Nat} {v : Value} {bs : List Value} {w : World} (h : Bld B b v bs w) :
    Calls Tryd.prog 69 #[.pointer (some ⟨b, 0, none⟩)] w fun e w' => e = .returned (.tuple #[]) ∧ w'.heap[b]? = some (.cells #[.pointer (some ⟨b, 0, none⟩), v] 89 (0, 0)) ∧ w'.ownsRow B 5 1 v bs.length bs ∧ Touch (fun k => k = b) w w' := by
  have hne := h.ne
  obtain ⟨h1, h2, h3 | h3⟩ := h
  · refine (copyCheck_fresh b w (by simp [World.cell?, h3]) (by simp [World.shape?, h3]) (by simp [World.frozen?, h3])).mono ?_
    rintro e w' ⟨rfl, rfl⟩
    have t : Touch (fun k => k = b) w (w.setCell ⟨b, 0, none⟩ (.pointer (some ⟨b, 0, none⟩))) := (Touch.refl (fun k => k = b) w).setCell (p := ⟨b, 0, none⟩) (.inl rfl) _
    exact ⟨rfl, set2_0 _ h3, own_touchL h2 t (fun k hk e => hne (by rw [hk, e])), t⟩
  · refine (copyCheck_used b w (by simp [World.cell?, h3])).mono ?_
    rintro e w' ⟨rfl, rfl⟩
    exact ⟨rfl, h3, h2, Touch.refl _ _⟩

set_option maxHeartbeats 2000000 in
set_option maxRecDepth 100000 in
theorem WriteByte_any {B b : Nat} {v : Value} {bs : List Value} (c : Int) {w : World} (h : Bld B b v bs w) (hlen : bs.length + 1 ≤ 140737488355328) (hBw : B ≤ w.heap.size) :
    Calls Tryd.prog 43 #[.pointer (some ⟨b, 0, none⟩), .int .u8 c] w fun e w' => e = .returned .nilIface ∧ ∃ v', Bld B b v' (bs ++ [.int .u8 c]) w' ∧ BT b v w w' := by
  obtain ⟨i0, hi, hz0, hz1, hz2⟩ := bld_parts Tryd.bld_info8
  have hB := h.1
  have hne := Lib.hid h.ne
  have hC := Lib.hid (copyCheck_any h)
  clear h
  go_enter Tryd.func43, Tryd.ntmps43
  go_wp2_with fail
  refine hC.out.mono ?_; rintro e w1 ⟨rfl, hbk, hown, t1⟩; dsimp only
  have hz := t1.size
  have c0 : w1.cell? ⟨b, 0, none⟩ = some (.pointer (some ⟨b, 0, none⟩)) := by simp [World.cell?, hbk]
  have c1 : w1.cell? ⟨b, 1, none⟩ = some v := by simp [World.cell?, hbk]
  have HT := Lib.hid t1
  have HBK := Lib.hid hbk
  clear t1 hbk
  go_wp2_with (at_builtin; refine wpList_append_own _ rfl _ _ 25 rfl B 5 i0 (.int .u8 0) 1 1 Tryd.underlying25 hi hz0 hz1 hz2 rfl (by decide) _ _ _ rfl (hown.alloc _) ⟨w1.heap.size, 0, none⟩ 1 1 [.int .u8 c] rfl rfl ?c1 ?c2 ?c3 ?c4 ?c5 ?_)
  case c1 =>
    intro j u hj
    match j, hj with
    | 0, hj => simp at hj; subst hj; simp [Addr.add]
  case c2 => intro u hu; simp at hu; subst hu; rfl
  case c3 => unfold maxLen; omega
  case c4 => omega
  case c5 => simp; omega
  intro v' w2 hown' hgrow _
  have hlt : b < w1.heap.size := lt_of_heap HBK.out
  have hb2 : w2.heap[b]? = some (.cells #[.pointer (some ⟨b, 0, none⟩), v] 89 (0, 0)) := by
    rw [hgrow.block b (by simp; omega) (fun e => hne.out e.symm), Lib.alloc_old w1 _ b hlt]
    exact HBK.out
  have d0 : w2.cell? ⟨b, 0, none⟩ = some (.pointer (some ⟨b, 0, none⟩)) := by simp [World.cell?, hb2]
  have d1 : w2.cell? ⟨b, 1, none⟩ = some v := by simp [World.cell?, hb2]
  have f1 : w2.frozen? ⟨b, 1, none⟩ = false := by simp [World.frozen?, hb2]
  have HB2 := Lib.hid hb2
  have HG := Lib.hid hgrow
  clear hb2 hgrow
  obtain ⟨g, cap, rfl⟩ : ∃ g cap, v' = .slice (some ⟨g, 0, none⟩) (bs.length + 1) cap := by
    rcases hown'.2 with ⟨_, h0⟩ | ⟨g, cap, cur, hv, _⟩
    · omega
    · exact ⟨g, cap, hv⟩
  go_wp2_with fail
  go_ret
  have hne2 : some g ≠ some b := fun e => (Lib.ownBlock_ne hown' HB2.out Tryd.bld_ne) e
  have t2 : Touch (fun k => k = b) w2 (w2.setCell ⟨b, 1, none⟩ (.slice (some ⟨g, 0, none⟩) (bs.length + 1) cap)) := (Touch.refl (fun k => k = b) w2).setCell (p := ⟨b, 1, none⟩) (.inl rfl) _
  refine ⟨rfl, _, ⟨hB, ?_, .inr (set2_1 _ HB2.out)⟩, ?_⟩
  · have := own_touchL hown' t2 (fun k hk e => hne2 (by rw [show (some g : Option Nat) = some k from hk, show k = b from e]))
    simpa using this
  · have ta : Touch (fun k => k = b ∨ v.ownBlock = some k) w1 w2 := ⟨HG.out.os, HG.out.tape, HG.out.output, by have := HG.out.size; simp at this; omega, fun k hk hx => (HG.out.block k (by simp; omega) (fun e => hx (.inr e.symm))).trans (Lib.alloc_old w1 _ k hk)⟩
    exact (HT.out.mono (fun k _ e => .inl e)).trans (ta.trans (t2.mono (fun k _ e => .inl e)))

set_option maxHeartbeats 2000000 in
set_option maxRecDepth 100000 in
theorem WriteString_any {B b : Nat} {v : Value} {bs : List Value} (s : ByteArray) {w : World} (h : Bld B b v bs w) (hlen : bs.length + s.size ≤ 140737488355328) (hBw : B ≤ w.heap.size) :
    Calls Tryd.prog 53 #[.pointer (some ⟨b, 0, none⟩), .string s] w fun e w' => e = .returned (.tuple #[.int .i64 s.size, .nilIface]) ∧ ∃ v', Bld B b v' (bs ++ Lib.strCells s) w' ∧ BT b v w w' := by
  obtain ⟨i0, hi, hz0, hz1, hz2⟩ := bld_parts Tryd.bld_info8
  have hB := h.1
  have hne := Lib.hid h.ne
  have hC := Lib.hid (copyCheck_any h)
  clear h
  go_enter Tryd.func53, Tryd.ntmps53
  go_wp2_with fail
  refine hC.out.mono ?_; rintro e w1 ⟨rfl, hbk, hown, t1⟩; dsimp only
  have hz := t1.size
  have c0 : w1.cell? ⟨b, 0, none⟩ = some (.pointer (some ⟨b, 0, none⟩)) := by simp [World.cell?, hbk]
  have c1 : w1.cell? ⟨b, 1, none⟩ = some v := by simp [World.cell?, hbk]
  have HT := Lib.hid t1
  have HBK := Lib.hid hbk
  clear t1 hbk
  go_wp2_with (at_builtin; refine Lib.wpList_append_own_string _ rfl _ _ 25 9 rfl B 5 i0 Tryd.underlying25 Tryd.underlying9 hi hz0 hz1 hz2 _ _ _ rfl hown s rfl ?c3 ?c4 ?c5 ?_)
  case c3 => unfold maxLen; omega
  case c4 => omega
  case c5 => omega
  intro v' w2 hown' hgrow _
  have hlt : b < w1.heap.size := lt_of_heap HBK.out
  have hb2 : w2.heap[b]? = some (.cells #[.pointer (some ⟨b, 0, none⟩), v] 89 (0, 0)) := by
    rw [hgrow.block b hlt (fun e => hne.out e.symm)]
    exact HBK.out
  have d0 : w2.cell? ⟨b, 0, none⟩ = some (.pointer (some ⟨b, 0, none⟩)) := by simp [World.cell?, hb2]
  have d1 : w2.cell? ⟨b, 1, none⟩ = some v := by simp [World.cell?, hb2]
  have f1 : w2.frozen? ⟨b, 1, none⟩ = false := by simp [World.frozen?, hb2]
  have HB2 := Lib.hid hb2
  have HG := Lib.hid hgrow
  clear hb2 hgrow
  have hne2 := Lib.hid (Lib.ownBlock_ne hown' HB2.out Tryd.bld_ne)
  obtain ⟨ao, n', cap, rfl⟩ : ∃ ao n' cap, v' = .slice ao n' cap := by
    rcases hown'.2 with ⟨hv, _⟩ | ⟨g, cap, cur, hv, _⟩
    · exact ⟨_, _, _, hv⟩
    · exact ⟨_, _, _, hv⟩
  have HO := Lib.hid hown'
  clear hown'
  go_wp2_with fail
  go_ret2
  have t2 : Touch (fun k => k = b) w2 (w2.setCell ⟨b, 1, none⟩ (.slice ao n' cap)) := (Touch.refl (fun k => k = b) w2).setCell (p := ⟨b, 1, none⟩) (.inl rfl) _
  refine ⟨rfl, _, ⟨hB, ?_, .inr (set2_1 _ HB2.out)⟩, ?_⟩
  · have := own_touchL HO.out t2 (fun k hk e => hne2.out (by rw [hk, show k = b from e]))
    simpa [Lib.strCells_length] using this
  · have ta : Touch (fun k => k = b ∨ v.ownBlock = some k) w1 w2 := ⟨HG.out.os, HG.out.tape, HG.out.output, HG.out.size, fun k hk hx => HG.out.block k hk (fun e => hx (.inr e.symm))⟩
    exact (HT.out.mono (fun k _ e => .inl e)).trans (ta.trans (t2.mono (fun k _ e => .inl e)))

end Go.Proofs.YtplcfijcmihhlaaDoor
