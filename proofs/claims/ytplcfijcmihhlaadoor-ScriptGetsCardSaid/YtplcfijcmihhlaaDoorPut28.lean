/-
  Layer 28: a script's text: the walk of script's Put.
-/
import Derived.Test.YtplcfijcmihhlaaDoorRightB28
namespace Go.Proofs.YtplcfijcmihhlaaDoor
open Go.RowKit Go.Proofs.YtplcfijcmihhlaaDoorW.PrintWords Go.Proofs.YtplcfijcmihhlaaDoorW.PrintLast
set_option linter.unusedVariables false
set_option linter.unusedSimpArgs false
attribute [local go_sem] Oper.semAt_some

/-- A line's bytes. -/
def lineB (key word : ByteArray) : List UInt8 := key.data.toList ++ [32] ++ word.data.toList ++ [10]
theorem lineB_str (key word : ByteArray) : (key ++ ⟨#[32]⟩ ++ word ++ ⟨#[10]⟩ : ByteArray).data.toList = lineB key word := by
  simp [ByteArray.data_append, lineB]

set_option maxHeartbeats 1000000 in
set_option maxRecDepth 100000 in
theorem Line_any {B b : Nat} {v : Value} {txt : List UInt8} (key word : ByteArray) {w : World} (h : Bld B b v (Lib.byteCells txt) w) (hk : key.size ≤ 1000) (hw : word.size ≤ 1000000) (ht : txt.length ≤ 100000000) (hBw : B ≤ w.heap.size) :
    Calls Tryd.prog 52 #[.string key, .string word, .pointer (some ⟨b, 0, none⟩)] w fun e w' => e = .returned (.tuple #[]) ∧ ∃ v', Bld B b v' (Lib.byteCells (txt ++ lineB key word)) w' ∧ BT b v w w' := by
  have q1 : key.size + (⟨#[32]⟩ : ByteArray).size ≤ 9223372036854775807 := by show key.size + 1 ≤ _; omega
  have q2 : (key ++ (⟨#[32]⟩ : ByteArray)).size + word.size ≤ 9223372036854775807 := by rw [ByteArray.size_append]; show key.size + 1 + word.size ≤ _; omega
  have q3 : (key ++ (⟨#[32]⟩ : ByteArray) ++ word).size + (⟨#[10]⟩ : ByteArray).size ≤ 9223372036854775807 := by rw [ByteArray.size_append, ByteArray.size_append]; show key.size + 1 + word.size + 1 ≤ _; omega
  have hs : (key ++ ⟨#[32]⟩ ++ word ++ ⟨#[10]⟩ : ByteArray).size ≤ 2000000 := by rw [ByteArray.size_append, ByteArray.size_append, ByteArray.size_append]; show key.size + 1 + word.size + 1 ≤ _; omega
  have hW := Lib.hid (WriteString_any (key ++ ⟨#[32]⟩ ++ word ++ ⟨#[10]⟩) h (by rw [show (Lib.byteCells txt).length = txt.length by simp [Lib.byteCells]]; omega) hBw)
  clear h hs
  go_enter Tryd.func52, Tryd.ntmps52
  go_wp2_with fail
  refine hW.out.mono ?_; rintro e w1 ⟨rfl, v1, hB1, t1⟩; dsimp only
  have HB1 := Lib.hid hB1
  have HT := Lib.hid t1
  clear hB1 t1 hW
  go_wp2_with fail
  go_end0
  refine ⟨rfl, v1, ?_, HT.out⟩
  have h := HB1.out
  rw [Lib.strCells, lineB_str, show Lib.byteCells txt ++ (lineB key word).map (fun b => Value.int .u8 b.toNat) = Lib.byteCells (txt ++ lineB key word) by simp [Lib.byteCells]] at h
  exact h

/-- A list in pieces of at most n, from the k-th element on. -/
def chunkL (n : Nat) (l : List Int) : List (List Int) := if h : l = [] ∨ n = 0 then [] else l.take n :: chunkL n (l.drop n)
termination_by l.length
decreasing_by
  rw [List.length_drop]
  have : l.length ≠ 0 := fun e => h (.inl (List.length_eq_zero_iff.1 e))
  omega
theorem chunkL_nil (n : Nat) : chunkL n [] = [] := by rw [chunkL]; simp
theorem chunkL_cons {n : Nat} {l : List Int} (hl : l ≠ []) (hn : n ≠ 0) : chunkL n l = l.take n :: chunkL n (l.drop n) := by
  rw [chunkL, dif_neg (by rintro (h | h) <;> contradiction)]

/-- Where the pieces of 60 begin. -/
def offsL (k : Nat) : List Nat := (List.range k).map (60 * ·)
theorem offsL_succ (k : Nat) : offsL (k + 1) = offsL k ++ [60 * k] := by simp [offsL, List.range_succ]
def nOffs (n : Nat) : Nat := (n + 59) / 60
def pieceV (ad : Addr) (n x : Nat) : Value := .slice (some (ad.add x)) (min 60 (n - x)) (min 60 (n - x))

theorem abide_drewN {J : List Nat → World → Prop} {B : Nat} {Y : Nat → Prop} (hJ : AbideY B Y J) {pre : List Nat} {w : World} (h : J pre w) : J pre w.drew :=
  hJ pre w _ none h ⟨rfl, rfl, rfl, Nat.le_refl _, fun _ _ _ => rfl⟩ (fun r e => by cases e)

set_option maxHeartbeats 2000000 in
set_option maxRecDepth 100000 in
theorem chunk1_in (l B1 B2 : Nat) (A : Option Addr) (ad : Addr) (n cap : Nat) (hA : 0 < n → A = some ad) (hn : n ≤ cap) (hsm : n ≤ 1000000) (J Jx : List Nat → World → Prop) (W : World) (hJ : AbideY W.heap.size (fun _ => False) J)
    (hY : ∀ pre x W1, J pre W1 → ((∃ k, k < nOffs n ∧ pre = offsL k ∧ x = 60 * k) ∧ (∃ c, W1.heap[B1]? = some (.cells c 30 (0, 0))) ∧ ∃ c, W1.heap[B2]? = some (.cells c 3 (0, 0))) → YieldAt Fence.wide 6 Tryd.prog l #[pieceV ad n x] W1 fun e W' =>
      (e = .returned (.bool true) ∧ J (pre ++ [x]) W' ∧ (W'.heap[B1]? = W1.heap[B1]? ∧ W'.heap[B2]? = W1.heap[B2]?)) ∨ (e = .returned (.bool false) ∧ Jx (pre ++ [x]) W'))
    (hB1 : W.heap[B1]? = some (.cells #[.slice A n cap] 30 (0, 0))) (hB2 : W.heap[B2]? = some (.cells #[.int .i64 60] 3 (0, 0))) (h0 : J [] W) :
    CallsIn Fence.wide 7 Tryd.prog 73 #[.func (.yield l) #[] #[], .pointer (some ⟨B1, 0, none⟩), .pointer (some ⟨B2, 0, none⟩)] W fun e W' => (∃ v, e = .returned v) ∧
      ((∃ xs, xs = offsL (nOffs n) ∧ J xs W') ∨ (∃ pre, (∃ k, k ≤ nOffs n ∧ pre = offsL k) ∧ Jx pre W')) := by
  refine callsIn_of_wp Tryd.func73 rfl trivial ?_ rfl
  simp only [Tryd.ntmps73, List.size_toArray, List.length_cons, List.length_nil, Nat.reduceAdd, Nat.reduceSub, Array.replicate_succ, Array.replicate_zero, List.push_toArray, List.append_toArray, List.nil_append, List.cons_append]
  gi_wp2_with fail
  gi_loopw [4] (fun i wr => ∃ k : Nat, i = .int .i64 ((60 * k : Nat) : Int) ∧ k ≤ nOffs n ∧ Hid (J (offsL k) wr) ∧ Hid (wr.heap[B1]? = some (.cells #[.slice A n cap] 30 (0, 0))) ∧ Hid (wr.heap[B2]? = some (.cells #[.int .i64 60] 3 (0, 0)))) (fun i _ => n + 60 - (intOf i).toNat)
  case atStart => exact ⟨0, rfl, Nat.zero_le _, Lib.hid h0, Lib.hid hB1, Lib.hid hB2⟩
  case round =>
    obtain ⟨k, rfl, hk, hJk, hX1, hX2⟩ := hrel
    have a1 := cell1 hX1.out
    have a2 := cell1 hX2.out
    by_cases hi : 60 * k < n
    · have hkn : k < nOffs n := by unfold nOffs; omega
      have eA := hA (by omega)
      subst eA
      have p1 : (0 : Int) ≤ ((60 * k : Nat) : Int) := by omega
      have p2 : ((60 * k : Nat) : Int) ≤ (n : Int) := by omega
      have p3 : (n : Int) ≤ (cap : Int) := by omega
      have HN := Lib.hid (show min 60 (n - 60 * k) ≤ n - 60 * k ∧ min 60 (n - 60 * k) ≤ 60 from ⟨by omega, by omega⟩)
      gi_wp2_with fail
      gi_region
      obtain ⟨m, hm⟩ : ∃ m, min 60 (n - 60 * k) = m := ⟨_, rfl⟩
      have hmi : (min 60 ((n - 60 * k : Nat) : Int)) = (m : Int) := by omega
      rw [hmi]
      obtain ⟨m1, m2⟩ := HN.out
      rw [hm] at m1 m2
      have Hm := Lib.hid hm
      have r1 : ((60 * k : Nat) : Int) ≤ ((60 * k : Nat) : Int) + (m : Int) := by omega
      have r2 : ((60 * k : Nat) : Int) + (m : Int) ≤ (cap : Int) := by omega
      have r3 : (0 : Int) ≤ ((60 * k : Nat) : Int) + (m : Int) := by omega
      have r4 : (((60 * k : Nat) : Int) + (m : Int)).toNat - 60 * k = m := by omega
      have r5 : ¬ m = 0 := by omega
      have r6 : ¬ 60 * k + m = 60 * k := by omega
      have hJ2 := Lib.hid (abide_drewN hJ hJk.out)
      have hp : pieceV ad n (60 * k) = .slice (some (ad.add (60 * k))) m m := by unfold pieceV; rw [Hm.out]
      have hY2 := hY (offsL k) (60 * k) wr.drew hJ2.out ⟨⟨k, hkn, rfl, rfl⟩, ⟨_, hX1.out⟩, ⟨_, hX2.out⟩⟩
      rw [hp] at hY2
      obtain ⟨fn, tmps, assign, body, hy, hR⟩ := hY2
      clear hm hmi hp
      gi_wp2_with fail
      refine hR.mono ?_
      rintro e W3 (⟨rfl, hJ3, hk3, hk4⟩ | ⟨rfl, hJx3⟩)
      · have HJ3 := Lib.hid hJ3
        have HB3 := Lib.hid (hk3.trans hX1.out)
        have HB4 := Lib.hid (hk4.trans hX2.out)
        have b2 := cell1 HB4.out
        clear hJ3 hk3 hk4
        gi_wp2_with fail
        go_roundw
        case rel => exact ⟨k + 1, congrArg (Value.int .i64) (by omega), by omega, Lib.hid (by rw [offsL_succ]; exact HJ3.out), HB3, HB4⟩
        case measure =>
          rw [show (60 * (k : Int) + 60) = ((60 * k + 60 : Nat) : Int) by omega]
          simp only [intOf]
          omega
      · have HJx3 := Lib.hid hJx3
        clear hJx3
        gi_wp2_with fail
        refine bodyPost_ret (results_none rfl _ _ _) rfl ?_
        exact ⟨⟨_, rfl⟩, .inr ⟨_, ⟨k + 1, by omega, (offsL_succ k).symm⟩, HJx3.out⟩⟩
    · have hk' : k = nOffs n := by unfold nOffs at *; omega
      have HJ := Lib.hid (show J (offsL (nOffs n)) wr from hk' ▸ hJk.out)
      gi_wp2_with fail
      go_end0
      exact ⟨⟨_, rfl⟩, .inl ⟨_, rfl, HJ.out⟩⟩

/-- The pieces' iterator, its boxes in B1 and B2: it turns no block. -/
theorem chunk_seq (B1 B2 : Nat) (A : Option Addr) (ad : Addr) (n cap : Nat) (hA : 0 < n → A = some ad) (hn : n ≤ cap) (hsm : n ≤ 1000000) (w : World) (h1 : w.heap[B1]? = some (.cells #[.slice A n cap] 30 (0, 0))) (h2 : w.heap[B2]? = some (.cells #[.int .i64 60] 3 (0, 0))) :
    SeqY Tryd.prog 73 #[.pointer (some ⟨B1, 0, none⟩), .pointer (some ⟨B2, 0, none⟩)] (fun x => #[pieceV ad n x]) (fun W W' => W'.heap[B1]? = W.heap[B1]? ∧ W'.heap[B2]? = W.heap[B2]?) (fun _ => False)
      (fun xs => xs = offsL (nOffs n)) (fun pre => ∃ k, k ≤ nOffs n ∧ pre = offsL k) (fun pre x W1 => (∃ k, k < nOffs n ∧ pre = offsL k ∧ x = 60 * k) ∧ (∃ c, W1.heap[B1]? = some (.cells c 30 (0, 0))) ∧ ∃ c, W1.heap[B2]? = some (.cells c 3 (0, 0))) w := fun l J Jx W hW hJ hJx hY h0 =>
  chunk1_in l B1 B2 A ad n cap hA hn hsm J Jx W hJ hY ((hW.block B1 (lt_of_heap h1)).trans h1) ((hW.block B2 (lt_of_heap h2)).trans h2) h0
theorem Chunk_any (A : Option Addr) (n cap : Nat) (w : World) :
    Calls Tryd.prog 55 #[.slice A n cap, .int .i64 60] w fun e w' => e = .returned (.func (.func 73) #[] #[.pointer (some ⟨w.heap.size, 0, none⟩), .pointer (some ⟨w.heap.size + 1, 0, none⟩)]) ∧ (w.alloc (.cells #[.slice A n cap] 30)).alloc (.cells #[.int .i64 60] 3) = w' := by
  go_enter Tryd.func55, Tryd.ntmps55
  go_wp2_with fail
  go_ret
  exact ⟨rfl, rfl⟩

end Go.Proofs.YtplcfijcmihhlaaDoor
