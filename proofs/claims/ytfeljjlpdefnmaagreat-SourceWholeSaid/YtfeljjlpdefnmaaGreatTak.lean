/-
  Layer 12 (intake): the takers.
-/
import Derived.Test.YtfeljjlpdefnmaaGreatLim
import Derived.Laws.Rows
import Derived.OwnWalk
namespace Go.Proofs.YtfeljjlpdefnmaaGreat
open Go.RowKit
set_option linter.unusedVariables false
set_option linter.unusedSimpArgs false
attribute [local go_sem] Oper.semAt_some

theorem Tryz.eql_nilB (a : Option Addr) (l c : Nat) (w : World) : (binOp .eql 39 (.slice a l c) (.slice none 0 0)).run Tryz.prog w = .ok (.bool a.isNone) w  := by cases a <;> kernel_rfl

theorem RdB.take {W : World} {n : Nat} {A : Option Addr} {l : List UInt8} (h : RdB W n A l) (k : Nat) : RdB W n A (l.take k) := by
  intro hne
  obtain ⟨b, off, h1, h2, h3⟩ := h (by rintro rfl; simp at hne)
  refine ⟨b, off, h1, h2, fun j hj => ?_⟩
  rw [List.length_take] at hj
  rw [h3 j (by omega), List.getElem?_take, if_pos (by omega)]
theorem RdB.touch {X : Nat → Prop} {W W' : World} {n : Nat} {A : Option Addr} {l : List UInt8} (h : RdB W n A l) (t : Touch X W W') (hn : n ≤ W.heap.size) (hX : l ≠ [] → ∀ b off, A = some ⟨b, off, none⟩ → b < n → ¬ X b) : RdB W' n A l := by
  intro hne
  obtain ⟨b, off, h1, h2, h3⟩ := h hne
  exact ⟨b, off, h1, h2, fun j hj => (t.cell (p := ⟨b, off + j, none⟩) (by show b < _; omega) (hX hne b off h1 h2)).trans (h3 j hj)⟩
theorem RdB.up {W : World} {n m : Nat} {A : Option Addr} {l : List UInt8} (h : RdB W n A l) (hm : n ≤ m) : RdB W m A l := by
  intro hne
  obtain ⟨b, off, h1, h2, h3⟩ := h hne
  exact ⟨b, off, h1, by omega, h3⟩

set_option maxRecDepth 100000 in
theorem CloneB_any (w : World) (n : Nat) (A : Option Addr) (cap : Nat) (l : List UInt8) (hnw : n ≤ w.heap.size) (hl : l.length ≤ 1000000) (hr : RdB w n A l) :
    Calls Tryz.prog 36 #[.slice A l.length cap] w fun e w' => ∃ v, e = .returned v ∧ w'.ownsRow w.heap.size 5 1 v l.length (l.map encU) ∧ Below w.heap.size w w' := by
  obtain ⟨i0, hi, hz0, hz1, hz2⟩ := Tryz.info_u8R
  cases A with
  | none =>
    obtain rfl : l = [] := by
      apply Classical.byContradiction
      intro hne
      obtain ⟨b, off, h, _⟩ := hr hne
      cases h
    have hq := Tryz.eql_nilB
    clear hr
    go_enter Tryz.func36, Tryz.ntmps36
    go_wp2_with fail
    go_ret
    exact ⟨_, rfl, ⟨rfl, .inl ⟨rfl, rfl⟩⟩, Below.refl _ _⟩
  | some ad =>
    have row0 : (w.alloc (.cells #[] 5)).ownsRow w.heap.size 5 1 (.slice (some ⟨w.heap.size, 0, none⟩) 0 0) 0 [] :=
      ⟨rfl, .inr ⟨_, 0, #[], rfl, Nat.le_refl _, World.alloc_heap_new _ _, Nat.le_refl _, by decide, rfl, rfl⟩⟩
    have R0 := Lib.hid row0
    have hnews : ∀ j u, (l.map encU)[j]? = some u → (w.alloc (.cells #[] 5)).cell? (ad.add j) = some u := by
      intro j u hu
      have hj : j < l.length := by
        have := (List.getElem?_eq_some_iff.1 hu).1; simpa using this
      obtain ⟨b, off, he, hb, hc⟩ := hr (by rintro rfl; simp at hj)
      cases he
      rw [WideShapes.add_plain]
      have h1 := (((Touch.refl (fun _ => False) w).alloc (.cells #[] 5)).cell (p := ⟨b, off + j, none⟩) (by show b < w.heap.size; omega) (fun h => h)).trans (hc j hj)
      rw [h1]
      simpa [List.getElem?_eq_getElem hj] using hu
    have HN := Lib.hid hnews
    have hT0 := Lib.hid (show Touch (fun k => w.heap.size ≤ k) w (w.alloc (.cells #[] 5)) from (Touch.refl _ w).alloc _)
    have hq := Tryz.eql_nilB
    clear row0 hnews hr
    go_enter Tryz.func36, Tryz.ntmps36
    go_wp2_with (at_builtin; refine wpList_app rfl _ _ 39 rfl w.heap.size 5 i0 (.int .u8 0) 1 1 Tryz.underlying39 hi hz0 hz1 hz2 rfl (by decide) _ 0 [] rfl R0.out ad l.length _ (l.map encU) rfl (by simp) HN.out (by intro u hu; obtain ⟨y, _, rfl⟩ := List.mem_map.1 hu; rfl) (by unfold maxLen; omega) (by omega) (by rw [World.size_alloc]; omega) ?_; intro v' w2 own2 gr2; have HO := Lib.hid own2; have HT := Lib.hid (hT0.out.trans (grow_touch R0.out gr2)); clear own2 gr2)
    go_ret
    exact ⟨_, rfl, by simpa using HO.out, HT.out.below (Nat.le_refl _) (fun _ h => h)⟩

/-- A taker. -/
inductive Tak where
  | sized (left : Int)
  | all (closed : Bool)
  | chunk (d : Dec)
def Tak.ty : Tak → TypeId
  | .sized _ => 85
  | .all _ => 82
  | .chunk _ => 79
def Tak.putF : Tak → Nat
  | .sized _ => 131
  | .all _ => 129
  | .chunk _ => 75
def Tak.doneF : Tak → Nat
  | .sized _ => 130
  | .all _ => 128
  | .chunk _ => 74
theorem take_put (t : Tak) (S : Nat) (n : Nat) (w : World) : (method (n + 9) t.ty (.pointer (some ⟨S, 0, none⟩)) "Put").run Tryz.prog w = .ok (t.putF, .pointer (some ⟨S, 0, none⟩)) w := by cases t <;> kernel_rfl
theorem take_done (t : Tak) (S : Nat) (n : Nat) (w : World) : (method (n + 9) t.ty (.pointer (some ⟨S, 0, none⟩)) "Done").run Tryz.prog w = .ok (t.doneF, .pointer (some ⟨S, 0, none⟩)) w := by cases t <;> kernel_rfl

theorem call_put (t : Tak) (args : Array Value) (w : World) : (callFunc t.putF args).run Tryz.prog w = .ok (.enter t.putF args) w := by cases t <;> kernel_rfl
theorem call_done (t : Tak) (args : Array Value) (w : World) : (callFunc t.doneF args).run Tryz.prog w = .ok (.enter t.doneF args) w := by cases t <;> kernel_rfl

def Tak.wf (N : Int) : Tak → Prop
  | .sized left => 0 ≤ left ∧ left ≤ 4611686018427387903
  | .all _ => True
  | .chunk d => WfD d ∧ 0 ≤ d.taken ∧ d.taken ≤ N ∧ 0 ≤ d.given ∧ d.given ≤ N
def TakAt (W : World) (G : Nat → Prop) (S : Nat) : Tak → Prop
  | .sized left => W.heap[S]? = some (.cells #[.int .u64 left] 87 (0, 0)) ∧ G S ∧ ∀ k, G k → k < W.heap.size
  | .all c => W.heap[S]? = some (.cells #[.bool c] 84 (0, 0)) ∧ G S ∧ ∀ k, G k → k < W.heap.size
  | .chunk d => ∃ vl vf, DecAt W G S vl vf d
def Tak.put (e0 e1 e2 e3 e4 e5 : Int) (bs : List UInt8) : Tak → Tak × List UInt8 × Nat × Int
  | .sized left => (.sized (left - (min left.toNat bs.length : Nat)), bs.take (min left.toNat bs.length), min left.toNat bs.length, 0)
  | .all c => (.all c, bs, bs.length, 0)
  | .chunk d => (.chunk { (runD e0 e1 e2 e3 e4 e5 d bs).1 with taken := d.taken + (runD e0 e1 e2 e3 e4 e5 d bs).2.2, given := d.given + (runD e0 e1 e2 e3 e4 e5 d bs).2.1.length }, (runD e0 e1 e2 e3 e4 e5 d bs).2.1, (runD e0 e1 e2 e3 e4 e5 d bs).2.2, (runD e0 e1 e2 e3 e4 e5 d bs).1.e)
def Tak.done : Tak → Bool
  | .sized left => left == 0
  | .all c => c
  | .chunk d => d.place == 11

section
variable {W W1 : World} {G : Nat → Prop} {S : Nat} {t : Tak} {e0 e1 e2 e3 e4 e5 : Int} {n0 : Nat}
theorem TakAt.lt (h : TakAt W G S t) : ∀ k, G k → k < W.heap.size := by
  cases t with
  | sized l => exact h.2.2
  | all c => exact h.2.2
  | chunk d => obtain ⟨vl, vf, h⟩ := h; exact h.lt
theorem TakAt.hS (h : TakAt W G S t) : G S := by
  cases t with
  | sized l => exact h.2.1
  | all c => exact h.2.1
  | chunk d => obtain ⟨vl, vf, h⟩ := h; exact h.hD
theorem TakAt.touch {X : Nat → Prop} (h : TakAt W G S t) (k : Touch X W W1) (hX : ∀ i, G i → ¬ X i) : TakAt W1 G S t := by
  cases t with
  | sized l => exact ⟨(k.block S (h.2.2 S h.2.1) (hX S h.2.1)).trans h.1, h.2.1, fun i hi => Nat.lt_of_lt_of_le (h.2.2 i hi) k.size⟩
  | all c => exact ⟨(k.block S (h.2.2 S h.2.1) (hX S h.2.1)).trans h.1, h.2.1, fun i hi => Nat.lt_of_lt_of_le (h.2.2 i hi) k.size⟩
  | chunk d => obtain ⟨vl, vf, h⟩ := h; exact ⟨vl, vf, h.touch k hX⟩
theorem TakAt.below (h : TakAt W G S t) (hb : Below W.heap.size W W1) : TakAt W1 G S t := h.touch (Touch.of_new (X := fun _ => False) hb) (fun _ _ h => h)

theorem TDone_any (h : TakAt W G S t) : Calls Tryz.prog t.doneF #[.pointer (some ⟨S, 0, none⟩)] W fun e w' => e = .returned (.bool t.done) ∧ W = w' := by
  cases t with
  | sized l =>
    have h0 : W.cell? ⟨S, 0, none⟩ = some (.int .u64 l) := by simp [World.cell?, h.1]
    clear h
    show Calls Tryz.prog 130 _ _ _
    go_enter Tryz.func130, Tryz.ntmps130
    go_wp2_with fail
    go_ret
    exact ⟨rfl, rfl⟩
  | all c =>
    have h0 : W.cell? ⟨S, 0, none⟩ = some (.bool c) := by simp [World.cell?, h.1]
    clear h
    show Calls Tryz.prog 128 _ _ _
    go_enter Tryz.func128, Tryz.ntmps128
    go_wp2_with fail
    go_ret
    exact ⟨rfl, rfl⟩
  | chunk d =>
    obtain ⟨vl, vf, h⟩ := h
    have h0 := h.c3
    clear h
    show Calls Tryz.prog 74 _ _ _
    go_enter Tryz.func74, Tryz.ntmps74
    go_wp2_with fail
    go_ret
    exact ⟨rfl, rfl⟩
end

end Go.Proofs.YtfeljjlpdefnmaaGreat
