/-
  The walks of bound.Fair and bound.Least: windows are told by an iterator.
-/
import Derived.Test.YtgnckeidekppjaaBound
import Derived.Test.YtgnckeidekppjaaRange
import Derived.Shelf.Abstract
namespace Go.Proofs.Ytgnckeidekppjaa
open Go.RowKit Go.Shelf
set_option linter.unusedVariables false
set_option linter.unusedSimpArgs false
attribute [local go_sem] Oper.semAt_some

/-- The window that begins at place i. -/
def winV (b off cap k i : Nat) : Value := .slice (some ⟨b, off + i, none⟩) k (cap - i)

set_option maxRecDepth 100000 in
set_option maxHeartbeats 2000000 in
theorem windows1_in (n : Nat) (l Bk Bp n₀ : Nat) (X : Nat → Prop) (b off len cap k : Nat) (hk : 2 ≤ k) (hkl : k ≤ len) (hlc : len ≤ cap) (hcap : cap ≤ 9223372036854775807) (hlb : len ≤ 281474976710656) (J Jx : List Nat → World → Prop)
    (hY : ∀ pre x W, J pre W → pre.length < len + 1 - k → YieldAt Fence.wide (n - 1) Try.prog l #[winV b off cap k (min x (len - k))] W fun e W' =>
      (e = .returned (.bool true) ∧ J (pre ++ [x]) W' ∧ KeepX n₀ X W W') ∨ (e = .returned (.bool false) ∧ Jx (pre ++ [x]) W'))
    (W : World) (hBk : Bk < n₀) (hBp : Bp < n₀) (hXk : ¬ X Bk) (hXp : ¬ X Bp) (hck : W.cell? ⟨Bk, 0, none⟩ = some (.int .i64 k)) (hcp : W.cell? ⟨Bp, 0, none⟩ = some (.slice (some ⟨b, off, none⟩) len cap)) (h0 : J [] W) :
    CallsIn Fence.wide n Try.prog 57 #[.func (.yield l) #[] #[], .pointer (some ⟨Bk, 0, none⟩), .pointer (some ⟨Bp, 0, none⟩)] W fun e W' => (∃ v, e = .returned v) ∧
      ((∃ ys, ys = upto id (len + 1 - k) ∧ J ys W') ∨ (∃ pre, (∃ j, j ≤ len + 1 - k ∧ pre = upto id j) ∧ Jx pre W')) := by
  refine callsIn_of_wp Try.func57 rfl trivial ?_ rfl
  simp only [Try.ntmps57, List.size_toArray, List.length_cons, List.length_nil, Nat.reduceAdd, Nat.reduceSub, Array.replicate_succ, Array.replicate_zero, List.push_toArray, List.append_toArray, List.nil_append, List.cons_append]
  gi_wp2
  gi_loopw [4] (fun i wr => ∃ j : Nat, j ≤ len + 1 - k ∧ i = .int .i64 j ∧ J (upto id j) wr ∧ KeepX n₀ X W wr)
    (fun i _ => len + 1 - k - (intOf i).toNat)
  case atStart => exact ⟨0, Nat.zero_le _, rfl, h0, KeepX.refl _⟩
  case round =>
    obtain ⟨j, hj, rfl, hJs, hnx⟩ := hrel
    have hck' := (hnx.cell (p := ⟨Bk, 0, none⟩) hBk hXk).trans hck
    have hcp' := (hnx.cell (p := ⟨Bp, 0, none⟩) hBp hXp).trans hcp
    by_cases hlt : j < len + 1 - k
    · obtain ⟨fn, tmps, assign, body, hy, hR⟩ := hY _ j wr hJs (by rw [upto_length]; exact hlt)
      rw [Nat.min_eq_left (by omega)] at hy
      unfold winV at hy
      gi_wp2
      refine ⟨fun h => by simp [Fence.wide] at h, hR.mono ?_⟩
      rintro e W3 (⟨rfl, hJ3, hk3⟩ | ⟨rfl, hJx3⟩)
      · gi_wp2
        go_roundw
        case rel => exact ⟨j + 1, by omega, by go_num, by rw [upto_succ]; exact hJ3, hnx.trans hk3⟩
        case measure => simp [intOf]; omega
      · gi_wp2
        refine bodyPost_ret (results_none rfl _ _ _) rfl ?_
        exact ⟨⟨_, rfl⟩, .inr ⟨_, ⟨j + 1, by omega, (upto_succ _ _).symm⟩, hJx3⟩⟩
    · have Hj := Lib.hid (show j = len + 1 - k by omega)
      have hend : len < j + k := by omega
      have hend2 : j ≤ len := by omega
      clear hlt hj
      gi_wp2
      go_end0
      rw [← Hj.out]
      exact ⟨⟨_, rfl⟩, .inl ⟨_, rfl, hJs⟩⟩

theorem windows_stops (n : Nat) (Bk Bp n₀ : Nat) (X : Nat → Prop) (b off len cap k : Nat) (hk : 2 ≤ k) (hkl : k ≤ len) (hlc : len ≤ cap) (hcap : cap ≤ 9223372036854775807) (hlb : len ≤ 281474976710656) (w : World) (hBk : Bk < n₀) (hBp : Bp < n₀) (hXk : ¬ X Bk) (hXp : ¬ X Bp) (hn₀ : n₀ ≤ w.heap.size)
    (hck : w.cell? ⟨Bk, 0, none⟩ = some (.int .i64 k)) (hcp : w.cell? ⟨Bp, 0, none⟩ = some (.slice (some ⟨b, off, none⟩) len cap)) :
    SeqStopsK Fence.wide n Try.prog 57 #[.pointer (some ⟨Bk, 0, none⟩), .pointer (some ⟨Bp, 0, none⟩)] (fun x : Nat => #[winV b off cap k (min x (len - k))]) (KeepX n₀ X)
      (fun ys => ys = upto id (len + 1 - k)) (fun pre => ∃ j, j ≤ len + 1 - k ∧ pre = upto id j) (len + 1 - k) w := fun l J Jx W hW _ _ hY h0 =>
  windows1_in n l Bk Bp n₀ X b off len cap k hk hkl hlc hcap hlb J Jx hY W hBk hBp hXk hXp ((hW.cell (p := ⟨Bk, 0, none⟩) (by show Bk < _; omega)).trans hck) ((hW.cell (p := ⟨Bp, 0, none⟩) (by show Bp < _; omega)).trans hcp) h0

set_option maxHeartbeats 400000 in
theorem windows_any (k : Int) (A : Option Addr) (len cap : Nat) (w : World) :
    Calls Try.prog 46 #[.int .i64 k, .slice A len cap] w fun e w' => e = .returned (.func (.func 57) #[] #[.pointer (some ⟨w.heap.size, 0, none⟩), .pointer (some ⟨w.heap.size + 1, 0, none⟩)]) ∧
      (w.alloc (.cells #[.int .i64 k] 3)).alloc (.cells #[.slice A len cap] 41) = w' := by
  go_enter Try.func46, Try.ntmps46
  go_wp2_with fail
  go_ret
  exact ⟨rfl, rfl⟩

/-! what picks are fair, as the code asks it -/
def winOk (w : List Int) : Bool := w.any (fun y => 0 == y) && w.any (fun y => 1 == y)
def winAt (l : List Int) (k i : Nat) : List Int := (l.drop i).take k
def fairB (k : Int) (l : List Int) : Bool :=
  if k < 2 ∨ l.any badPick = true then false else if (l.length : Int) < k then true else (List.range (l.length + 1 - k.toNat)).all fun i => winOk (winAt l k.toNat i)

/-- A window of a slice that is read. -/
theorem Ints.win {W : World} {B b off cap : Nat} {l : List Int} {k i : Nat} (hb : b < B) (hc : ∀ j, j < l.length → W.cell? ⟨b, off + j, none⟩ = some (.int .i64 (l[j]?.getD 0))) (hi : i + k ≤ l.length) (hlc : l.length ≤ cap) (hcap : cap ≤ maxLen) :
    Ints W B (winV b off cap k i) (winAt l k i) := by
  have hlen : (winAt l k i).length = k := by simp [winAt]; omega
  refine ⟨some ⟨b, off + i, none⟩, cap - i, by rw [hlen]; rfl, by omega, by omega, fun _ => ⟨b, off + i, rfl, hb, fun j hj => ?_⟩⟩
  rw [hlen] at hj
  rw [Nat.add_assoc, hc (i + j) (by omega)]
  simp [winAt, List.getElem?_take, hj]

set_option maxHeartbeats 2000000 in
set_option maxRecDepth 100000 in
theorem Fair_any (k : Int) (v : Value) (l : List Int) (w : World) (hv : Ints w w.heap.size v l) (hl : l.length ≤ 281474976710656) :
    Calls Try.prog 24 #[.int .i64 k, v] w fun e w' => e = .returned (.bool (fairB k l)) ∧ Below w.heap.size w w' := by
  have c1 := SContainsFunc_any v l w.heap.size w hv hl
  obtain ⟨A, cap, rfl, h1, h2, h3⟩ := hv
  unfold maxLen at h2
  by_cases ha : k < 2
  · have hf := Lib.hid (show fairB k l = false by unfold fairB; rw [if_pos (.inl ha)])
    clear c1
    refine calls_of_wp_marks Try.func24 rfl ?_
    simp only [Try.ntmps24, List.size_toArray, List.length_cons, List.length_nil, Nat.reduceAdd, Nat.reduceSub, Array.replicate_succ, Array.replicate_zero, List.push_toArray, List.append_toArray, List.nil_append, List.cons_append]
    go_wp2_with fail
    go_step3
    go_wp2_with fail
    rw [Exit.noGoto_ret]
    refine post_nomark rfl (results_tmp rfl _ _ _) ?_
    exact ⟨ret_bool hf.out.symm, Below.refl _ _⟩
  by_cases hbad : l.any badPick = true
  · have hf := Lib.hid (show fairB k l = false by unfold fairB; rw [if_pos (.inr hbad)])
    rw [hbad] at c1
    have C1 := Lib.hid c1
    clear c1 hbad
    refine calls_of_wp_marks Try.func24 rfl ?_
    simp only [Try.ntmps24, List.size_toArray, List.length_cons, List.length_nil, Nat.reduceAdd, Nat.reduceSub, Array.replicate_succ, Array.replicate_zero, List.push_toArray, List.append_toArray, List.nil_append, List.cons_append]
    go_wp2_with fail
    go_step3
    go_wp2_with fail
    refine C1.out.mono ?_; rintro e w' ⟨rfl, rfl⟩; dsimp only
    go_wp2_with fail
    rw [Exit.noGoto_ret]
    refine post_nomark rfl (results_tmp rfl _ _ _) ?_
    exact ⟨ret_bool hf.out.symm, Below.refl _ _⟩
  have hbad' : l.any badPick = false := by simpa using hbad
  rw [hbad'] at c1
  have C1 := Lib.hid c1
  clear c1
  by_cases hk : (l.length : Int) < k
  · have hf := Lib.hid (show fairB k l = true by unfold fairB; rw [if_neg (by simp only [not_or]; exact ⟨ha, hbad⟩), if_pos hk])
    clear hbad hbad'
    refine calls_of_wp_marks Try.func24 rfl ?_
    simp only [Try.ntmps24, List.size_toArray, List.length_cons, List.length_nil, Nat.reduceAdd, Nat.reduceSub, Array.replicate_succ, Array.replicate_zero, List.push_toArray, List.append_toArray, List.nil_append, List.cons_append]
    go_wp2_with fail
    go_step3
    go_wp2_with fail
    refine C1.out.mono ?_; rintro e w' ⟨rfl, rfl⟩; dsimp only
    go_wp2_with fail
    rw [Exit.noGoto_ret]
    refine post_nomark rfl (results_tmp rfl _ _ _) ?_
    exact ⟨ret_bool hf.out.symm, Below.refl _ _⟩
  have hf := Lib.hid (show fairB k l = (List.range (l.length + 1 - k.toNat)).all fun i => winOk (winAt l k.toNat i) by
    unfold fairB; rw [if_neg (by simp only [not_or]; exact ⟨ha, hbad⟩), if_neg hk])
  clear hbad hbad'
  obtain ⟨k, rfl⟩ := Int.eq_ofNat_of_zero_le (show 0 ≤ k by omega)
  rw [Int.toNat_natCast] at hf
  have hk2 : 2 ≤ k := by omega
  have hkl : k ≤ l.length := by omega
  obtain ⟨b, off, rfl, hb, hc⟩ := h3 (by rintro rfl; simp at hkl; omega)
  clear h3 ha hk
  refine calls_of_wp_marks Try.func24 rfl ?_
  simp only [Try.ntmps24, List.size_toArray, List.length_cons, List.length_nil, Nat.reduceAdd, Nat.reduceSub, Array.replicate_succ, Array.replicate_zero, List.push_toArray, List.append_toArray, List.nil_append, List.cons_append]
  go_wp2_with fail
  go_step3
  go_wp2_with fail
  refine C1.out.mono ?_; rintro e w' ⟨rfl, rfl⟩; dsimp only
  go_wp2_with fail
  go_step3
  go_wp2_with fail
  refine (windows_any _ _ _ _ _).mono ?_; rintro e w' ⟨rfl, rfl⟩; dsimp only
  go_wp2_with fail
  have hsz : (w.alloc (Obj.cells #[Value.bool true] 4)).heap.size = w.heap.size + 1 := by simp
  rw [hsz]
  have hbel : Below w.heap.size w (((w.alloc (Obj.cells #[Value.bool true] 4)).alloc (Obj.cells #[Value.int IntKind.i64 k] 3)).alloc (Obj.cells #[Value.slice (some ⟨b, off, none⟩) l.length cap] 41)) :=
    (((Below.refl _ w).alloc (Nat.le_refl _) _).alloc (by simp only [World.size_alloc]; omega) _).alloc (by simp only [World.size_alloc]; omega) _
  have hfa : Boxed (((w.alloc (Obj.cells #[Value.bool true] 4)).alloc (Obj.cells #[Value.int IntKind.i64 k] 3)).alloc (Obj.cells #[Value.slice (some ⟨b, off, none⟩) l.length cap] 41)) w.heap.size 4 (.bool true) := ((Boxed.new w _ _).alloc _).alloc _
  have hck : Boxed (((w.alloc (Obj.cells #[Value.bool true] 4)).alloc (Obj.cells #[Value.int IntKind.i64 k] 3)).alloc (Obj.cells #[Value.slice (some ⟨b, off, none⟩) l.length cap] 41)) (w.heap.size + 1) 3 (.int .i64 k) := by
    have := (Boxed.new (w.alloc (Obj.cells #[Value.bool true] 4)) 3 (.int .i64 k)).alloc (Obj.cells #[Value.slice (some ⟨b, off, none⟩) l.length cap] 41)
    rwa [World.size_alloc] at this
  have hcp : Boxed (((w.alloc (Obj.cells #[Value.bool true] 4)).alloc (Obj.cells #[Value.int IntKind.i64 k] 3)).alloc (Obj.cells #[Value.slice (some ⟨b, off, none⟩) l.length cap] 41)) (w.heap.size + 1 + 1) 41 (.slice (some ⟨b, off, none⟩) l.length cap) := by
    have := Boxed.new ((w.alloc (Obj.cells #[Value.bool true] 4)).alloc (Obj.cells #[Value.int IntKind.i64 k] 3)) 41 (.slice (some ⟨b, off, none⟩) l.length cap)
    rwa [World.size_alloc, World.size_alloc] at this
  have hsz3 : (((w.alloc (Obj.cells #[Value.bool true] 4)).alloc (Obj.cells #[Value.int IntKind.i64 k] 3)).alloc (Obj.cells #[Value.slice (some ⟨b, off, none⟩) l.length cap] 41)).heap.size = w.heap.size + 3 := by simp
  generalize ((w.alloc (Obj.cells #[Value.bool true] 4)).alloc (Obj.cells #[Value.int IntKind.i64 k] 3)).alloc (Obj.cells #[Value.slice (some ⟨b, off, none⟩) l.length cap] 41) = w3 at *
  refine wp_range (gf := 57) rfl (enters_of Try.func57 (by kernel_rfl) rfl)
    (windows_stops 7 (w.heap.size + 1) (w.heap.size + 1 + 1) (w.heap.size + 3) (fun j => j = w.heap.size) b off l.length cap k hk2 hkl h1 h2 hl w3 (by omega) (by omega) (by omega) (by omega) (by omega) hck.cell hcp.cell)
    (by omega) (Below.refl _ _) (fun _ => rfl)
    (fun pre W => (∀ i ∈ pre, winOk (winAt l k (min i (l.length - k))) = true) ∧ Boxed W w.heap.size 4 (.bool true) ∧ Below w.heap.size w W)
    (fun c pre W => c = .exit 0 ∧ (∃ i ∈ pre, winOk (winAt l k (min i (l.length - k))) = false) ∧ Boxed W w.heap.size 4 (.bool false) ∧ Below w.heap.size w W)
    ?hI ?hIx ?h0 (fun i => { tmps := #[Value.int IntKind.i64 ↑k, Value.slice (some { block := b, off := off }) l.length cap, undef,
                      undef, Value.bool false, Value.pointer (some { block := w.heap.size, off := 0 }), winV b off cap k (min i (l.length - k)),
                      Value.int IntKind.i64 ↑k, Value.bool (decide ((k:Int) < 2)), Value.bool (decide ((k:Int) < 2)),
                      Value.slice (some { block := b, off := off }) l.length cap, Value.bool false,
                      Value.bool (decide ((k:Int) < 2)), Value.int IntKind.i64 ↑k,
                      Value.slice (some { block := b, off := off }) l.length cap, Value.int IntKind.i64 ↑l.length,
                      Value.bool (decide (l.length < k)), Value.int IntKind.i64 ↑k,
                      Value.slice (some { block := b, off := off }) l.length cap,
                      Value.func (Fn.func 57) #[]
                        #[Value.pointer (some { block := w.heap.size + 1, off := 0 }),
                          Value.pointer (some { block := w.heap.size + 1 + 1, off := 0 })],
                      winV b off cap k (min i (l.length - k)), undef, undef, undef, undef, undef, undef, undef, undef, undef], defers := [] }) ?assign ?body ?done ?stop
  case hI => exact OwnFrom.and (Own.from (fun _ _ _ _ hs _ _ => hs) _) (OwnFrom.and (fun s A B row hs hg hr => hs.kept hg (fun e => by obtain ⟨hr1, o, ho, hoc⟩ := hr _ e.symm; rw [show A.heap[w.heap.size]? = _ from hs] at ho; cases ho; simp [Obj.isCells] at hoc)) (ownFrom_below (Nat.le_refl _) (by omega)))
  case hIx => exact fun c => OwnFrom.and (Own.from (fun _ _ _ _ hs _ _ => hs) _) (OwnFrom.and (Own.from (fun _ _ _ _ hs _ _ => hs) _) (OwnFrom.and (fun s A B row hs hg hr => hs.kept hg (fun e => by obtain ⟨hr1, o, ho, hoc⟩ := hr _ e.symm; rw [show A.heap[w.heap.size]? = _ from hs] at ho; cases ho; simp [Obj.isCells] at hoc)) (ownFrom_below (Nat.le_refl _) (by omega))))
  case h0 => exact ⟨by simp, hfa, hbel⟩
  case assign =>
    intro l' x W K hK
    generalize decide (l.length < k) = dd at *
    gi_wp2
    exact hK
  case body =>
    rintro l' pre x W ⟨hp, hbx, hB⟩ hlt
    have hw : Ints W w.heap.size (winV b off cap k (min x (l.length - k))) (winAt l k (min x (l.length - k))) := Ints.win hb (fun j hj => (hB.cell (p := ⟨b, off + j, none⟩) hb).trans (hc j hj)) (by omega) h1 h2
    have hcell := hbx.cell
    have hfro := hbx.frozen
    have q0 := inRound (n := 5) l' (SContains_any _ _ 0 _ W hw (by simp [winAt]; omega))
    have q1 := inRound (n := 5) l' (SContains_any _ _ 1 _ W hw (by simp [winAt]; omega))
    have hwo := Lib.hid (show winOk (winAt l k (min x (l.length - k))) = ((winAt l k (min x (l.length - k))).any (fun y => 0 == y) && (winAt l k (min x (l.length - k))).any (fun y => 1 == y)) from rfl)
    have hall : ∀ b, winOk (winAt l k (min x (l.length - k))) = b → (∀ i ∈ pre, winOk (winAt l k (min i (l.length - k))) = true) → b = true → ∀ i ∈ pre ++ [x], winOk (winAt l k (min i (l.length - k))) = true := by
      intro b h1 h2 h3 i hi
      rcases List.mem_append.1 hi with hi | hi
      · exact h2 i hi
      · obtain rfl := List.mem_singleton.1 hi; rw [h1, h3]
    have hsome : ∀ b, winOk (winAt l k (min x (l.length - k))) = b → b = false → ∃ i ∈ pre ++ [x], winOk (winAt l k (min i (l.length - k))) = false := fun b h1 h2 => ⟨x, by simp, by rw [h1, h2]⟩
    have H := Lib.hid (And.intro hp (And.intro hall hsome))
    clear hp hall hsome
    generalize hW : winAt l k (min x (l.length - k)) = wl at *
    generalize winV b off cap k (min x (l.length - k)) = wv at *
    rcases hh0 : wl.any (fun y => 0 == y) with _ | _ <;> rcases hh1 : wl.any (fun y => 1 == y) with _ | _ <;> rw [hh0] at q0 hwo <;> rw [hh1] at q1 hwo <;> clear hh0 hh1
    · gi_wp2_with fail
      refine ⟨trivial, q0.mono ?_⟩; rintro e w' ⟨rfl, rfl⟩; dsimp only
      gi_wp2_with fail
      refine ⟨trivial, ?_⟩
      gi_wp2_with fail
      exact ⟨(KeepsOthers.setCell _ _ _).from _, rfl, H.out.2.2 _ hwo.out rfl, hbx.set _, hB.setCell (p := ⟨w.heap.size, 0, none⟩) (Nat.le_refl _) _⟩
    · gi_wp2_with fail
      refine ⟨trivial, q0.mono ?_⟩; rintro e w' ⟨rfl, rfl⟩; dsimp only
      gi_wp2_with fail
      refine ⟨trivial, ?_⟩
      gi_wp2_with fail
      exact ⟨(KeepsOthers.setCell _ _ _).from _, rfl, H.out.2.2 _ hwo.out rfl, hbx.set _, hB.setCell (p := ⟨w.heap.size, 0, none⟩) (Nat.le_refl _) _⟩
    · gi_wp2_with fail
      refine ⟨trivial, q0.mono ?_⟩; rintro e w' ⟨rfl, rfl⟩; dsimp only
      gi_wp2_with fail
      refine ⟨trivial, q1.mono ?_⟩; rintro e w' ⟨rfl, rfl⟩; dsimp only
      gi_wp2_with fail
      exact ⟨(KeepsOthers.setCell _ _ _).from _, rfl, H.out.2.2 _ hwo.out rfl, hbx.set _, hB.setCell (p := ⟨w.heap.size, 0, none⟩) (Nat.le_refl _) _⟩
    · gi_wp2_with fail
      refine ⟨trivial, q0.mono ?_⟩; rintro e w' ⟨rfl, rfl⟩; dsimp only
      gi_wp2_with fail
      refine ⟨trivial, q1.mono ?_⟩; rintro e w' ⟨rfl, rfl⟩; dsimp only
      gi_wp2_with fail
      exact ⟨(KeepsOthers.setCell _ _ _).from _, KeepX.setCell (X := fun j => j = w.heap.size) (p := ⟨w.heap.size, 0, none⟩) (KeepX.refl _) (.inl rfl) _, H.out.2.1 _ hwo.out H.out.1 rfl, hbx.set _, hB.setCell (p := ⟨w.heap.size, 0, none⟩) (Nat.le_refl _) _⟩
  case done =>
    rintro D ys W hD rfl ⟨hp, hbx, hB⟩ hK
    have hcell := hbx.cell
    have hfro := hbx.frozen
    have Hp := Lib.hid hp
    clear hp
    go_wp2_with fail
    rw [Exit.noGoto_ret]
    refine post_mark rfl hK (results_tmp rfl _ _ _) ?_
    refine ⟨ret_bool ?_, below_put hB (by omega)⟩
    rw [hf.out]
    symm
    rw [List.all_eq_true]
    intro i hi
    have := Hp.out i ((mem_upto _ _ _).2 ⟨i, List.mem_range.1 hi, rfl⟩)
    rwa [Nat.min_eq_left (by have := List.mem_range.1 hi; omega)] at this
  case stop =>
    rintro D c pre W hD ⟨j, hj, rfl⟩ ⟨rfl, hp, hbx, hB⟩ hK
    have hcell := hbx.cell
    have hfro := hbx.frozen
    have Hp := Lib.hid hp
    clear hp
    go_wp2_with fail
    rw [Exit.noGoto_ret]
    refine post_mark rfl hK (results_tmp rfl _ _ _) ?_
    refine ⟨ret_bool ?_, below_put hB (by omega)⟩
    rw [hf.out]
    symm
    rw [List.all_eq_false]
    obtain ⟨i, hi, he⟩ := Hp.out
    obtain ⟨i, hij, rfl⟩ := (mem_upto _ _ _).1 hi
    rw [Nat.min_eq_left (by simp only [id]; omega)] at he
    exact ⟨i, List.mem_range.2 (by omega), by rw [show winOk (winAt l k i) = false from he]; simp⟩

end Go.Proofs.Ytgnckeidekppjaa
