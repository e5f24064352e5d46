/-
  The walks of layer 12 (intake) over a size: Right, New, Done, Put, Wants.
-/
import Derived.Test.YtplcfijcmihhlaaSame
import Derived.Test.YtplcfijcmihhlaaAppend
import Derived.Test.YtplcfijcmihhlaaTouch
import Derived.Test.YtplcfijcmihhlaaOwn
import Derived.Laws.Rows
import Derived.KernelRfl
import Derived.OwnWalk
import Derived.WalkSpells
import Derived.Laws.Cover3
import Derived.RangeFuncBox
import Derived.Deep.QuietTactic
import Derived.BigQuiet
namespace Go.Proofs.Ytplcfijcmihhlaa
open Go.RowKit
set_option linter.unusedVariables false
set_option linter.unusedSimpArgs false

theorem Min0_any (w : World) (g : Nat) (h : ∀ j, j < 3 → w.cell? ⟨g, j, none⟩ = some (.int .i64 0)) :
    Calls Try.prog 31 #[.slice (some ⟨g, 0, none⟩) 3 3] w fun e w' => e = .returned (.int .i64 0) ∧ w = w' := by
  have h0 := h 0 (by omega)
  have h1 := h 1 (by omega)
  have h2 := h 2 (by omega)
  clear h
  go_enter Try.func31, Try.ntmps31
  go_wp2_with fail
  go_loopw [3, 4] (fun m i wr => w = wr ∧ m = .int .i64 0 ∧ (i = .int .i64 1 ∨ i = .int .i64 2 ∨ i = .int .i64 3)) (fun _ i _ => 4 - (intOf i).toNat)
  case atStart => exact ⟨rfl, rfl, .inl rfl⟩
  case round =>
    obtain ⟨rfl, rfl, hi⟩ := hrel
    rcases hi with rfl | rfl | rfl
    · go_wp2_with fail
      go_roundw
      case rel => simp
      case measure => decide
    · go_wp2_with fail
      go_roundw
      case rel => simp
      case measure => decide
    · go_wp2_with fail
      go_ret
      exact ⟨rfl, rfl⟩

theorem Max0_any (w : World) (g : Nat) (h : ∀ j, j < 3 → w.cell? ⟨g, j, none⟩ = some (.int .i64 0)) :
    Calls Try.prog 32 #[.slice (some ⟨g, 0, none⟩) 3 3] w fun e w' => e = .returned (.int .i64 0) ∧ w = w' := by
  have h0 := h 0 (by omega)
  have h1 := h 1 (by omega)
  have h2 := h 2 (by omega)
  clear h
  go_enter Try.func32, Try.ntmps32
  go_wp2_with fail
  go_loopw [3, 4] (fun m i wr => w = wr ∧ m = .int .i64 0 ∧ (i = .int .i64 1 ∨ i = .int .i64 2 ∨ i = .int .i64 3)) (fun _ i _ => 4 - (intOf i).toNat)
  case atStart => exact ⟨rfl, rfl, .inl rfl⟩
  case round =>
    obtain ⟨rfl, rfl, hi⟩ := hrel
    rcases hi with rfl | rfl | rfl
    · go_wp2_with fail
      go_roundw
      case rel => simp
      case measure => decide
    · go_wp2_with fail
      go_roundw
      case rel => simp
      case measure => decide
    · go_wp2_with fail
      go_ret
      exact ⟨rfl, rfl⟩

theorem BodyRight0_any (w : World) :
    Calls Try.prog 27 #[.agg #[.int .i64 0, .int .i64 0, .int .i64 0]] w fun e w' => e = .returned (.bool true) ∧ Below w.heap.size w w' := by
  go_enter Try.func27, Try.ntmps27
  go_wp2_with fail
  have hb : Below w.heap.size w ((w.alloc (.cells #[.int .i64 0, .int .i64 0, .int .i64 0] 33)).alloc (.cells #[.int .i64 0, .int .i64 0, .int .i64 0] 3)) := ((Below.refl _ w).alloc (Nat.le_refl _) _).alloc (by simp) _
  have hB := heap_alloc2_new w (.cells #[.int .i64 0, .int .i64 0, .int .i64 0] 33) (.cells #[.int .i64 0, .int .i64 0, .int .i64 0] 3)
  obtain ⟨W, eW⟩ : ∃ W, (w.alloc (.cells #[.int .i64 0, .int .i64 0, .int .i64 0] 33)).alloc (.cells #[.int .i64 0, .int .i64 0, .int .i64 0] 3) = W := ⟨_, rfl⟩
  rw [eW] at hb hB ⊢
  have hc : ∀ j, j < 3 → W.cell? ⟨w.heap.size + 1, j, none⟩ = some (.int .i64 0) := by
    intro j hj
    rw [cell_of_row W (w.heap.size + 1) j _ _ _ hB]
    have : j = 0 ∨ j = 1 ∨ j = 2 := by omega
    rcases this with rfl | rfl | rfl <;> rfl
  have h1 := Lib.hid (Min0_any W (w.heap.size + 1) hc)
  have h2 := Lib.hid (Max0_any W (w.heap.size + 1) hc)
  clear hc eW
  refine h1.out.mono ?_; rintro e w1 ⟨rfl, rfl⟩; dsimp only
  go_wp2_with fail
  refine h2.out.mono ?_; rintro e w1 ⟨rfl, rfl⟩; dsimp only
  go_wp2_with fail
  go_ret
  exact ⟨rfl, hb⟩

theorem RightF_any (w : World) (size : Int) (h0 : 0 ≤ size) (h1 : size ≤ 4611686018427387903) :
    Calls Try.prog 20 #[.agg #[.int .i64 1, .int .u64 size]] w fun e w' => e = .returned (.bool true) ∧ Below w.heap.size w w' := by
  go_enter Try.func20, Try.ntmps20
  go_wp2_with fail
  go_ret
  exact ⟨ret_bool (by simp [h1]), (Below.refl _ w).alloc (Nat.le_refl _) _⟩

/-- An intake of a size: block I, its taker in block S. -/
structure IAt (W : World) (I S : Nat) (left taken given : Int) : Prop where
  box : W.heap[I]? = some (.cells #[.iface 71 (.pointer (some ⟨S, 0, none⟩)), .int .i64 taken, .int .i64 given, .int .i64 0] 67 (0, 0))
  sz : W.heap[S]? = some (.cells #[.int .u64 left] 73 (0, 0))

set_option maxHeartbeats 1000000 in
theorem NewF_any (w : World) (size : Int) (h0 : 0 ≤ size) (h1 : size ≤ 4611686018427387903) :
    Calls Try.prog 8 #[.agg #[.int .i64 1, .int .u64 size], .agg #[.int .i64 0, .int .i64 0, .int .i64 0]] w fun e w' => ∃ I S, e = .returned (.tuple #[.pointer (some ⟨I, 0, none⟩), .int .i64 0]) ∧
      IAt w' I S size 0 0 ∧ w.heap.size ≤ I ∧ w.heap.size ≤ S ∧ I ≠ S ∧ Below w.heap.size w w' := by
  go_enter Try.func8, Try.ntmps8
  go_wp2_with fail
  obtain ⟨W0, e0, hz0, b0, b1, t0⟩ : ∃ W, (w.alloc (.cells #[.int .i64 1, .int .u64 size] 31)).alloc (.cells #[.int .i64 0, .int .i64 0, .int .i64 0] 33) = W ∧ W.heap.size = w.heap.size + 2 ∧
      W.heap[w.heap.size]? = some (.cells #[.int .i64 1, .int .u64 size] 31) ∧ W.heap[w.heap.size + 1]? = some (.cells #[.int .i64 0, .int .i64 0, .int .i64 0] 33) ∧ Below w.heap.size w W :=
    ⟨_, rfl, by simp, by rw [Below.heap_alloc _ _ _ (by simp), World.alloc_heap_new], heap_alloc2_new _ _ _, ((Below.refl _ w).alloc (Nat.le_refl _) _).alloc (by simp) _⟩
  rw [e0]
  clear e0
  refine (RightF_any W0 size h0 h1).mono ?_; rintro e w1 ⟨rfl, hb1⟩; dsimp only
  have d1 := (hb1.block (w.heap.size + 1) (by omega)).trans b1
  have x0 := cell_of_row w1 (w.heap.size + 1) 0 _ _ _ d1
  have x1 := cell_of_row w1 (w.heap.size + 1) 1 _ _ _ d1
  have x2 := cell_of_row w1 (w.heap.size + 1) 2 _ _ _ d1
  simp only [List.getElem?_toArray, List.getElem?_cons_zero, List.getElem?_cons_succ] at x0 x1 x2
  have hz1 := hb1.size
  go_wp2_with fail
  refine (BodyRight0_any w1).mono ?_; rintro e w2 ⟨rfl, hb2⟩; dsimp only
  have hz2 := hb2.size
  have d0 := (hb2.block w.heap.size (by omega)).trans ((hb1.block w.heap.size (by omega)).trans b0)
  have y0 := cell_of_row w2 w.heap.size 0 _ _ _ d0
  have y1 := cell_of_row w2 w.heap.size 1 _ _ _ d0
  simp only [List.getElem?_toArray, List.getElem?_cons_zero, List.getElem?_cons_succ] at y0 y1
  have HB := Lib.hid ((t0.trans (hb1.mono (by omega))).trans (hb2.mono (by omega)))
  clear d0 d1 x0 x1 x2 b0 b1 t0 hb1 hb2
  have y2 := (Touch.cell ((Touch.refl (fun _ => False) w2).alloc (.cells #[.int .u64 size] 73)) (p := ⟨w.heap.size, 0, none⟩) (by show w.heap.size < w2.heap.size; omega) (fun h => h)).trans y0
  go_wp2_with fail
  have hI := heap_alloc2_new w2 (.cells #[.int .u64 size] 73) (.cells #[.iface 71 (.pointer (some ⟨w2.heap.size, 0, none⟩)), .int .i64 0, .int .i64 0, .int .i64 0] 67)
  have hS : ((w2.alloc (.cells #[.int .u64 size] 73)).alloc (.cells #[.iface 71 (.pointer (some ⟨w2.heap.size, 0, none⟩)), .int .i64 0, .int .i64 0, .int .i64 0] 67)).heap[w2.heap.size]? = some (.cells #[.int .u64 size] 73) := by
    rw [Below.heap_alloc _ _ _ (by simp), World.alloc_heap_new]
  go_ret2
  exact ⟨w2.heap.size + 1, w2.heap.size, rfl, ⟨hI, hS⟩, by omega, by omega, by omega, (HB.out.alloc (by omega) _).alloc (by simp; omega) _⟩

theorem meth_Done (S : Nat) (w : World) : (method 255 71 (.pointer (some ⟨S, 0, none⟩)) "Done").run Try.prog w = .ok (117, .pointer (some ⟨S, 0, none⟩)) w := by kernel_rfl
theorem meth_Put (S : Nat) (w : World) : (method 255 71 (.pointer (some ⟨S, 0, none⟩)) "Put").run Try.prog w = .ok (118, .pointer (some ⟨S, 0, none⟩)) w := by kernel_rfl

section
variable {W : World} {I S : Nat} {left taken given : Int}
theorem IAt.c0 (h : IAt W I S left taken given) : W.cell? ⟨I, 0, none⟩ = some (.iface 71 (.pointer (some ⟨S, 0, none⟩))) := by simp [World.cell?, h.box]
theorem IAt.c1 (h : IAt W I S left taken given) : W.cell? ⟨I, 1, none⟩ = some (.int .i64 taken) := by simp [World.cell?, h.box]
theorem IAt.c2 (h : IAt W I S left taken given) : W.cell? ⟨I, 2, none⟩ = some (.int .i64 given) := by simp [World.cell?, h.box]
theorem IAt.c3 (h : IAt W I S left taken given) : W.cell? ⟨I, 3, none⟩ = some (.int .i64 0) := by simp [World.cell?, h.box]
theorem IAt.s0 (h : IAt W I S left taken given) : W.cell? ⟨S, 0, none⟩ = some (.int .u64 left) := by simp [World.cell?, h.sz]
theorem IAt.fI (h : IAt W I S left taken given) (j : Nat) : W.frozen? ⟨I, j, none⟩ = false := by simp [World.frozen?, h.box]
theorem IAt.fS (h : IAt W I S left taken given) : W.frozen? ⟨S, 0, none⟩ = false := by simp [World.frozen?, h.sz]

theorem SDone_any (h : IAt W I S left taken given) :
    Calls Try.prog 117 #[.pointer (some ⟨S, 0, none⟩)] W fun e w' => e = .returned (.bool (left == 0)) ∧ W = w' := by
  have h0 := h.s0
  go_enter Try.func117, Try.ntmps117
  go_wp2_with fail
  go_ret
  exact ⟨rfl, rfl⟩

set_option maxRecDepth 100000 in
theorem Done_any (h : IAt W I S left taken given) :
    Calls Try.prog 11 #[.pointer (some ⟨I, 0, none⟩)] W fun e w' => e = .returned (.bool (left == 0)) ∧ W = w' := by
  have h0 := h.c0
  have h3 := h.c3
  have hm := meth_Done S
  go_enter Try.func11, Try.ntmps11
  go_wp2_with fail
  refine (SDone_any h).mono ?_; rintro e w1 ⟨rfl, rfl⟩; dsimp only
  go_wp2_with fail
  go_ret
  exact ⟨rfl, rfl⟩
end

def enc8 (x : Int) : Value := .int .u8 x

theorem Try.info_u8 : ∃ i, Try.prog.info? 5 = some i ∧ i.zero = some (.int .u8 0) ∧ i.size = 1 ∧ i.bytes = 1 := by
  have h : (Try.prog.info? 5).map (fun i => (i.zero, i.size, i.bytes)) = some (some (.int .u8 0), 1, 1) := by kernel_rfl
  obtain ⟨i, hi, he⟩ := Option.map_eq_some_iff.1 h
  simp only [Prod.mk.injEq] at he
  exact ⟨i, hi, he.1, he.2.1, he.2.2⟩

/-- A slice's cells, in a block below n. -/
def Reads8 (W : World) (n : Nat) (A : Option Addr) (l : List Int) : Prop := l ≠ [] → ∃ b off, A = some ⟨b, off, none⟩ ∧ b < n ∧ ∀ j, j < l.length → W.cell? ⟨b, off + j, none⟩ = some (enc8 (l[j]?.getD 0))

theorem Try.eql_nil8 (a : Option Addr) (l c : Nat) (w : World) : (binOp .eql 23 (.slice a l c) (.slice none 0 0)).run Try.prog w = .ok (.bool a.isNone) w  := by cases a <;> kernel_rfl

set_option maxRecDepth 100000 in
theorem Clone_any (w : World) (n : Nat) (A : Option Addr) (cap : Nat) (l : List Int) (hnw : n ≤ w.heap.size) (hl : l.length ≤ 1000000) (hr : Reads8 w n A l) :
    Calls Try.prog 116 #[.slice A l.length cap] w fun e w' => ∃ v, e = .returned v ∧ w'.ownsRow w.heap.size 5 1 v l.length (l.map enc8) ∧ Below w.heap.size w w' := by
  obtain ⟨i0, hi, hz0, hz1, hz2⟩ := Try.info_u8
  cases A with
  | none =>
    obtain rfl : l = [] := by
      apply Classical.byContradiction
      intro hne
      obtain ⟨b, off, h, _⟩ := hr hne
      cases h
    have hq := Try.eql_nil8
    clear hr
    go_enter Try.func116, Try.ntmps116
    go_wp2_with fail
    go_ret
    exact ⟨_, rfl, ⟨rfl, .inl ⟨rfl, rfl⟩⟩, Below.refl _ _⟩
  | some ad =>
    have row0 : (w.alloc (.cells #[] 5)).ownsRow w.heap.size 5 1 (.slice (some ⟨w.heap.size, 0, none⟩) 0 0) 0 [] :=
      ⟨rfl, .inr ⟨_, 0, #[], rfl, Nat.le_refl _, World.alloc_heap_new _ _, Nat.le_refl _, by decide, rfl, rfl⟩⟩
    have R0 := Lib.hid row0
    have hnews : ∀ j u, (l.map enc8)[j]? = some u → (w.alloc (.cells #[] 5)).cell? (ad.add j) = some u := by
      intro j u hu
      have hj : j < l.length := by
        have := (List.getElem?_eq_some_iff.1 hu).1; simpa using this
      obtain ⟨b, off, he, hb, hc⟩ := hr (by rintro rfl; simp at hj)
      cases he
      rw [WideShapes.add_plain]
      have h1 := (((Touch.refl (fun _ => False) w).alloc (.cells #[] 5)).cell (p := ⟨b, off + j, none⟩) (by show b < w.heap.size; omega) (fun h => h)).trans (hc j hj)
      rw [h1]
      simpa [List.getElem?_eq_getElem hj] using hu
    have HN := Lib.hid hnews
    have hT0 := Lib.hid (show Touch (fun k => w.heap.size ≤ k) w (w.alloc (.cells #[] 5)) from (Touch.refl _ w).alloc _)
    have hq := Try.eql_nil8
    clear row0 hnews hr
    go_enter Try.func116, Try.ntmps116
    go_wp2_with (at_builtin; refine wpList_app rfl _ _ 23 rfl w.heap.size 5 i0 (.int .u8 0) 1 1 Try.underlying23 hi hz0 hz1 hz2 rfl (by decide) _ 0 [] rfl R0.out ad l.length _ (l.map enc8) rfl (by simp) HN.out (by intro u hu; obtain ⟨y, _, rfl⟩ := List.mem_map.1 hu; rfl) (by unfold maxLen; omega) (by omega) (by rw [World.size_alloc]; omega) ?_; intro v' w2 own2 gr2; have HO := Lib.hid own2; have HT := Lib.hid (hT0.out.trans (grow_touch R0.out gr2)); clear own2 gr2)
    go_ret
    exact ⟨_, rfl, by simpa using HO.out, HT.out.below (Nat.le_refl _) (fun _ h => h)⟩

theorem Reads8.take {W : World} {n : Nat} {A : Option Addr} {l : List Int} (h : Reads8 W n A l) (k : Nat) : Reads8 W n A (l.take k) := by
  intro hne
  obtain ⟨b, off, h1, h2, h3⟩ := h (by rintro rfl; simp at hne)
  refine ⟨b, off, h1, h2, fun j hj => ?_⟩
  rw [List.length_take] at hj
  rw [h3 j (by omega), List.getElem?_take_of_lt (by omega)]
theorem Reads8.touch {X : Nat → Prop} {W W' : World} {n : Nat} {A : Option Addr} {l : List Int} (h : Reads8 W n A l) (t : Touch X W W') (hn : n ≤ W.heap.size) (hX : l ≠ [] → ∀ b off, A = some ⟨b, off, none⟩ → b < n → ¬ X b) : Reads8 W' n A l := by
  intro hne
  obtain ⟨b, off, h1, h2, h3⟩ := h hne
  exact ⟨b, off, h1, h2, fun j hj => (t.cell (p := ⟨b, off + j, none⟩) (by show b < _; omega) (hX hne b off h1 h2)).trans (h3 j hj)⟩

set_option maxRecDepth 100000 in
theorem SPut_any {W : World} {I S : Nat} {left taken given : Int} (h : IAt W I S left taken given) (hIS : I ≠ S) (A : Option Addr) (cap : Nat) (l : List Int) (n : Nat) (hnW : n ≤ W.heap.size) (hA : l ≠ [] → ∀ b off, A = some ⟨b, off, none⟩ → b ≠ S) (hl : l.length ≤ 1000000) (hc : l.length ≤ cap) (hcm : cap ≤ maxLen) (hr : Reads8 W n A l)
    (k : Nat) (hk : (min left (l.length : Int)) = (k : Int)) (h0 : 0 ≤ left) (h1 : left ≤ 4611686018427387903) :
    Calls Try.prog 118 #[.pointer (some ⟨S, 0, none⟩), .slice A l.length cap] W fun e w' => ∃ v, e = .returned (.tuple #[v, .int .i64 k, .int .i64 0]) ∧
      w'.ownsRow W.heap.size 5 1 v k ((l.take k).map enc8) ∧ IAt w' I S (left - k) taken given ∧ Touch (· = S) W w' := by
  have hs := h.s0
  have hf := h.fS
  have hk1 : k ≤ l.length := by omega
  have hk2 : (k : Int) ≤ left := by omega
  have hk3 : k ≤ cap := by omega
  unfold maxLen at hcm
  have b1 : IntKind.u64.wrap (l.length : Int) = (l.length : Int) := IntWalk.u64_in _ (by omega)
  have b2 : IntKind.i64.wrap (k : Int) = (k : Int) := IntWalk.i64_in _ (by omega)
  have b3 : IntKind.u64.wrap (k : Int) = (k : Int) := IntWalk.u64_in _ (by omega)
  have b4 : IntKind.u64.wrap (left - (k : Int)) = left - k := IntWalk.u64_in _ (by omega)
  by_cases hle : (l.length : Int) < left
  · obtain rfl : k = l.length := by omega
    have hT : Touch (fun j => j = S) W (W.setCell ⟨S, 0, none⟩ (.int .u64 (left - l.length))) := Touch.setCell (X := fun j => j = S) (Touch.refl _ W) (p := ⟨S, 0, none⟩) (.inl rfl) _
    have hBx : Boxed (W.setCell ⟨S, 0, none⟩ (.int .u64 (left - l.length))) S 73 (.int .u64 (left - l.length)) := Boxed.set _ (show Boxed W S 73 (.int .u64 left) from h.sz)
    have hI2 := Lib.hid (show IAt (W.setCell ⟨S, 0, none⟩ (.int .u64 (left - l.length))) I S (left - l.length) taken given from ⟨(hT.block I (lt_of_heap h.box) hIS).trans h.box, hBx⟩)
    have hR := Lib.hid (hr.touch hT hnW (fun hne b off e _ hx => hA hne b off e hx))
    have HT := Lib.hid hT
    clear hT hBx hr h
    go_enter Try.func118, Try.ntmps118
    go_wp2_with fail
    refine (Clone_any _ n A cap l (Nat.le_trans hnW HT.out.size) hl hR.out).mono ?_; rintro e w1 ⟨v, rfl, hv, hb⟩; dsimp only
    have HV := Lib.hid hv
    have HB := Lib.hid hb
    clear hv hb
    go_wp2_with fail
    go_ret3
    have hT1 := Touch.of_new (X := fun _ => False) HB.out
    refine ⟨v, rfl, ?_, ⟨(hT1.block I (lt_of_heap hI2.out.box) (fun h => h)).trans hI2.out.box, (hT1.block S (lt_of_heap hI2.out.sz) (fun h => h)).trans hI2.out.sz⟩, HT.out.trans (hT1.mono (fun _ _ h => h.elim))⟩
    rw [List.take_length]
    exact own_lower HV.out HT.out.size
  · obtain rfl : left = (k : Int) := by omega
    have hT : Touch (fun j => j = S) W (W.setCell ⟨S, 0, none⟩ (.int .u64 0)) := Touch.setCell (X := fun j => j = S) (Touch.refl _ W) (p := ⟨S, 0, none⟩) (.inl rfl) _
    have hBx : Boxed (W.setCell ⟨S, 0, none⟩ (.int .u64 0)) S 73 (.int .u64 0) := Boxed.set _ (show Boxed W S 73 (.int .u64 k) from h.sz)
    have hI2 := Lib.hid (show IAt (W.setCell ⟨S, 0, none⟩ (.int .u64 0)) I S 0 taken given from ⟨(hT.block I (lt_of_heap h.box) hIS).trans h.box, hBx⟩)
    have hR := Lib.hid ((hr.take k).touch hT hnW (fun hne b off e _ hx => hA (by rintro rfl; simp at hne) b off e hx))
    have HT := Lib.hid hT
    have hlk : (l.take k).length = k := by rw [List.length_take]; omega
    have hC := Lib.hid (Clone_any (W.setCell ⟨S, 0, none⟩ (.int .u64 0)) n A cap (l.take k) (Nat.le_trans hnW HT.out.size) (by omega) hR.out)
    rw [hlk] at hC
    have hk9 : (k : Int) ≤ (l.length : Int) := by omega
    clear hT hBx hr h hlk
    go_enter Try.func118, Try.ntmps118
    go_wp2_with fail
    refine hC.out.mono ?_; rintro e w1 ⟨v, rfl, hv, hb⟩; dsimp only
    have HV := Lib.hid hv
    have HB := Lib.hid hb
    clear hv hb
    go_wp2_with fail
    go_ret3
    have hT1 := Touch.of_new (X := fun _ => False) HB.out
    refine ⟨v, rfl, ?_, ?_, HT.out.trans (hT1.mono (fun _ _ h => h.elim))⟩
    · exact own_lower HV.out HT.out.size
    · rw [show (k : Int) - k = 0 by omega]
      exact ⟨(hT1.block I (lt_of_heap hI2.out.box) (fun h => h)).trans hI2.out.box, (hT1.block S (lt_of_heap hI2.out.sz) (fun h => h)).trans hI2.out.sz⟩

theorem set4 {W : World} {B j : Nat} {cs : Array Value} {t : TypeId} (v : Value) (h : W.heap[B]? = some (.cells cs t (0, 0))) : (W.setCell ⟨B, j, none⟩ v).heap[B]? = some (.cells (cs.setIfInBounds j v) t (0, 0)) := by
  obtain ⟨hlt, hk⟩ := Array.getElem?_eq_some_iff.1 h
  show (W.heap.modify B _)[B]? = _
  rw [Array.getElem?_eq_getElem (by rw [Array.size_modify]; exact hlt), Array.getElem_modify_self, hk]
  rfl
section
variable {W : World} {I S : Nat} {left taken given : Int}
theorem IAt.drewN' (h : IAt W I S left taken given) (q : Nat) : IAt (W.drewN q) I S left taken given := ⟨h.box, h.sz⟩
theorem IAt.set1 (h : IAt W I S left taken given) (hIS : I ≠ S) (x : Int) : IAt (W.setCell ⟨I, 1, none⟩ (.int .i64 x)) I S left x given := ⟨set4 _ h.box, (Below.heap_setCell W ⟨I, 1, none⟩ _ S (fun e => hIS e.symm)).trans h.sz⟩
theorem IAt.set2 (h : IAt W I S left taken given) (hIS : I ≠ S) (x : Int) : IAt (W.setCell ⟨I, 2, none⟩ (.int .i64 x)) I S left taken x := ⟨set4 _ h.box, (Below.heap_setCell W ⟨I, 2, none⟩ _ S (fun e => hIS e.symm)).trans h.sz⟩
theorem IAt.set3 (h : IAt W I S left taken given) (hIS : I ≠ S) : IAt (W.setCell ⟨I, 3, none⟩ (.int .i64 0)) I S left taken given := ⟨set4 _ h.box, (Below.heap_setCell W ⟨I, 3, none⟩ _ S (fun e => hIS e.symm)).trans h.sz⟩
end

set_option maxHeartbeats 1000000 in
set_option maxRecDepth 100000 in
theorem Put_any {W : World} {I S : Nat} {left taken given : Int} (h : IAt W I S left taken given) (hIS : I ≠ S) (A : Option Addr) (cap : Nat) (l : List Int) (n : Nat) (hnW : n ≤ W.heap.size) (hA : l ≠ [] → ∀ b off, A = some ⟨b, off, none⟩ → b ≠ S) (hl : l.length ≤ 1000000) (hc : l.length ≤ cap) (hcm : cap ≤ maxLen) (hr : Reads8 W n A l)
    (k : Nat) (hk : (min left (l.length : Int)) = (k : Int)) (h0 : 0 ≤ left) (h1 : left ≤ 4611686018427387903) (t0 : 0 ≤ taken) (t1 : taken ≤ 4611686018427387903) (g0 : 0 ≤ given) (g1 : given ≤ 4611686018427387903) :
    Calls Try.prog 9 #[.pointer (some ⟨I, 0, none⟩), .slice A l.length cap] W fun e w' => ∃ v, e = .returned (.tuple #[v, .int .i64 k, .int .i64 0]) ∧
      w'.ownsRow W.heap.size 5 1 v k ((l.take k).map enc8) ∧ IAt w' I S (left - k) (taken + k) (given + k) ∧ Touch (fun j => j = I ∨ j = S) W w' := by
  have c0 := h.c0
  have c3 := h.c3
  have hD := Lib.hid (Done_any h)
  have hIl := lt_of_heap h.box
  have hm := meth_Put S
  by_cases hz : left = 0
  · subst hz
    have c3k : ∀ q, (W.drewN q).cell? ⟨I, 3, none⟩ = some (.int .i64 0) := fun _ => c3
    obtain rfl : k = 0 := by omega
    have H := Lib.hid h
    clear hr h hm
    go_enter Try.func9, Try.ntmps9
    go_wp2_with fail
    refine hD.out.mono ?_; rintro e w1 ⟨rfl, rfl⟩; dsimp only
    go_wp2_with fail
    go_quiet (fail)
    go_wp2_with fail
    go_ret3
    have hTq : Touch (fun j => j = I ∨ j = S) W (W.drewN nq) := (Touch.refl _ W).drewN nq
    refine ⟨_, rfl, ⟨rfl, .inl ⟨rfl, rfl⟩⟩, ?_, hTq⟩
    have hI := H.out
    exact ⟨by simpa using hI.box, hI.sz⟩
  · have hz' : (left == 0) = false := by simpa using hz
    rw [hz'] at hD
    have hP := Lib.hid (SPut_any h hIS A cap l n hnW hA hl hc hcm hr k hk h0 h1)
    have hk1 : (k : Int) ≤ left := by omega
    have hk2 : k ≤ l.length := by omega
    have b1 : IntKind.i64.wrap (taken + k) = taken + k := IntWalk.i64_in _ (by omega)
    have b2 : IntKind.i64.wrap (given + k) = given + k := IntWalk.i64_in _ (by omega)
    clear hr h hk hz hz'
    go_enter Try.func9, Try.ntmps9
    go_wp2_with fail
    refine hD.out.mono ?_; rintro e w1 ⟨rfl, rfl⟩; dsimp only
    go_wp2_with fail
    refine hP.out.mono ?_; rintro e w1 ⟨v, rfl, hv, hI1, hT1⟩; dsimp only
    obtain ⟨B, capB, rfl⟩ : ∃ B c, v = .slice B k c := by
      rcases hv.2 with ⟨rfl, rfl⟩ | ⟨g, cap, cur, rfl, _⟩
      · exact ⟨_, _, rfl⟩
      · exact ⟨_, _, rfl⟩
    have s3 := hI1.set3 hIS
    have s1 := s3.set1 hIS (taken + k)
    have s2 := s1.set2 hIS (given + k)
    have u0 := hI1.c3
    have u1 := hI1.fI 3
    have u2 := s3.c1
    have u3 := s3.fI 1
    have u4 := s1.c2
    have u5 := s1.fI 2
    have u6 : ∀ q, ((((w1.setCell ⟨I, 3, none⟩ (.int .i64 0)).setCell ⟨I, 1, none⟩ (.int .i64 (taken + k))).setCell ⟨I, 2, none⟩ (.int .i64 (given + k))).drewN q).cell? ⟨I, 3, none⟩ = some (.int .i64 0) := fun _ => s2.c3
    have HS2 := Lib.hid s2
    have HV := Lib.hid hv
    have HT := Lib.hid hT1
    clear s1 s2 s3 hv hT1 hI1
    have HT4 := Lib.hid ((((HT.out.mono (Y := fun j => j = I ∨ j = S) (fun _ _ e => .inr e)).setCell (p := ⟨I, 3, none⟩) (.inl (.inl rfl)) (.int .i64 0)).setCell (p := ⟨I, 1, none⟩) (.inl (.inl rfl)) (.int .i64 (taken + k))).setCell (p := ⟨I, 2, none⟩) (.inl (.inl rfl)) (.int .i64 (given + k)))
    have HT5 := Lib.hid ((((Touch.refl (fun j => j = I) w1).setCell (p := ⟨I, 3, none⟩) (.inl rfl) (.int .i64 0)).setCell (p := ⟨I, 1, none⟩) (.inl rfl) (.int .i64 (taken + k))).setCell (p := ⟨I, 2, none⟩) (.inl rfl) (.int .i64 (given + k)))
    go_wp2_with fail
    go_quiet (fail)
    go_wp2_with fail
    go_ret3
    refine ⟨.slice B k capB, rfl, ?_, HS2.out.drewN' nq, HT4.out.drewN nq⟩
    exact own_touchL HV.out (HT5.out.drewN nq) (fun j hj e => own_ge HV.out (k := I) hIl (by rw [hj, e]))

theorem Try.assert_sized (S : Nat) (w : World) : (Instr.typeAssert (.iface 71 (.pointer (some ⟨S, 0, none⟩))) 65 71 true).run Try.prog w = .ok (.tuple #[.pointer (some ⟨S, 0, none⟩), .bool true]) w := by kernel_rfl

set_option maxRecDepth 100000 in
theorem Wants_any {W : World} {I S : Nat} {left taken given : Int} (h : IAt W I S left taken given) :
    Calls Try.prog 12 #[.pointer (some ⟨I, 0, none⟩)] W fun e w' => e = .returned (.int .u64 left) ∧ W = w' := by
  have c0 := h.c0
  have c3 := h.c3
  have s0 := h.s0
  have hD := Lib.hid (Done_any h)
  by_cases hz : left = 0
  · subst hz
    clear h
    go_enter Try.func12, Try.ntmps12
    go_wp2_with fail
    refine hD.out.mono ?_; rintro e w1 ⟨rfl, rfl⟩; dsimp only
    go_wp2_with fail
    go_ret
    exact ⟨rfl, rfl⟩
  · have hz' : (left == 0) = false := by simpa using hz
    rw [hz'] at hD
    have ha := Try.assert_sized S
    clear h hz hz'
    go_enter Try.func12, Try.ntmps12
    go_wp2_with fail
    refine hD.out.mono ?_; rintro e w1 ⟨rfl, rfl⟩; dsimp only
    go_wp2_with fail
    go_ret
    exact ⟨rfl, rfl⟩

end Go.Proofs.Ytplcfijcmihhlaa
