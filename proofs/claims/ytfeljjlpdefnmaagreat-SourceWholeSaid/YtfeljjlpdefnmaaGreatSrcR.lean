/-
  The law SourceWhole: what it asks ahead.
-/
import Derived.Test.YtfeljjlpdefnmaaGreatSrcL
import Derived.LoopTactic
import Derived.Lib.SlBytesConst
import Derived.Laws.BytesArg
namespace Go.Proofs.YtfeljjlpdefnmaaGreat
open Go.RowKit
set_option linter.unusedVariables false
set_option linter.unusedSimpArgs false
attribute [local go_sem] Oper.semAt_some

def gsum (L : List (List UInt8)) : Nat := (L.map fun p => p.length + 1).sum
theorem gsum_take {L : List (List UInt8)} {i : Nat} (h : i < L.length) : gsum (L.take (i + 1)) = gsum (L.take i) + (L[i]?.getD []).length + 1 := by
  unfold gsum
  rw [List.take_add_one, List.getElem?_eq_getElem h]
  simp only [Option.toList_some, List.map_append, List.sum_append, List.map_cons, List.map_nil, List.sum_cons, List.sum_nil, Option.getD_some]
  omega
theorem gsum_le (L : List (List UInt8)) (i : Nat) : gsum (L.take i) ≤ gsum L := by
  unfold gsum
  conv => rhs; rw [← List.take_append_drop i L]
  rw [List.map_append, List.sum_append]
  omega
theorem gsum_flat (L : List (List UInt8)) : gsum L = L.flatten.length + L.length := by
  unfold gsum
  induction L with
  | nil => rfl
  | cons p L ih => simp only [List.map_cons, List.sum_cons, List.flatten_cons, List.length_append, List.length_cons]; omega
set_option maxRecDepth 100000 in
theorem Great_any (v : Value) (L : List (List UInt8)) (hL : L.length ≤ 1000000000000000) (hp : ∀ p ∈ L, p.length ≤ 1000000000000000) (W : World) (hv : PcsIn W v L) :
    Calls Tryz.prog 5 #[v] W fun e w' => e = .returned (.bool (decide (600 < gsum L))) ∧ W = w' := by
  obtain ⟨A, c, rfl, hc, hcm, hj⟩ := hv
  obtain ⟨m, hm⟩ : ∃ m, L.length = m := ⟨_, rfl⟩
  have Hm := Lib.hid hm
  have Hj := Lib.hid hj
  have Hp := Lib.hid hp
  rw [hm] at hc hL ⊢
  clear hm hj hp
  go_enter Tryz.func5, Tryz.ntmps5
  go_wp2_with fail
  go_loopw [3, 4] (fun n i wr => ∃ k g : Nat, k ≤ m ∧ i = .int .i64 k ∧ n = .int .i64 g ∧ Hid (g = gsum (L.take k)) ∧ g ≤ 2000000000000000 ∧ wr = W) (fun _ i _ => m - (intOf i).toNat)
  case atStart => exact ⟨0, 0, Nat.zero_le _, rfl, rfl, Lib.hid (by simp [gsum]), Nat.zero_le _, by first | rfl | trivial⟩
  case round =>
    obtain ⟨k, g, hkm, rfl, rfl, hg, hgm, rfl⟩ := hrel
    by_cases hlt : k < m
    · have p2 : (k : Int) < (m : Int) := by omega
      by_cases hgt : g ≤ 600
      · have p3 : (g : Int) ≤ 600 := by omega
        have hLk : k < L.length := by rw [Hm.out]; exact hlt
        obtain ⟨b, o, rfl, hbl, hjj⟩ := Hj.out (by rintro rfl; simp at hLk)
        obtain ⟨u, hu, Ap, cp, rfl, hp1, hp2, hrd⟩ := hjj k hLk
        obtain ⟨pl, hpl⟩ : ∃ pl, (L[k]?.getD []).length = pl := ⟨_, rfl⟩
        have hplm : pl ≤ 1000000000000000 := by
          rw [← hpl, List.getElem?_eq_getElem hLk]
          exact Hp.out _ (List.getElem_mem hLk)
        have hgs := Lib.hid (gsum_take hLk)
        rw [hpl] at hu hp1 hgs
        have p1 : (0 : Int) ≤ (k : Int) := Int.natCast_nonneg k
        have s1 : IntKind.i64.wrap ((g : Int) + (pl : Int)) = (g : Int) + (pl : Int) := IntWalk.i64_in _ (by omega)
        have s2 : IntKind.i64.wrap ((g : Int) + (pl : Int) + 1) = (g : Int) + (pl : Int) + 1 := IntWalk.i64_in _ (by omega)
        have s3 : IntKind.i64.wrap ((k : Int) + 1) = (k : Int) + 1 := IntWalk.i64_in _ (by omega)
        clear hrd hjj hpl
        go_wp2_with fail
        go_roundw
        case rel => exact ⟨k + 1, g + pl + 1, by omega, by go_num, by go_num, Lib.hid (by rw [hgs.out, ← hg.out]), by omega, by first | rfl | trivial⟩
        case measure => simp [intOf]; try omega
      · have p3 : (600 : Int) < (g : Int) := by omega
        have hE := Lib.hid (show decide (600 < gsum L) = true from decide_eq_true (by have := gsum_le L k; rw [← hg.out] at this; omega))
        have t6 : decide ((600 : Int) < (g : Int)) = true := decide_eq_true p3
        go_wp2_with fail
        go_ret
        exact ⟨ret_bool (by rw [hE.out]), rfl⟩
    · have hkm' : k = m := by omega
      have p2 : (m : Int) ≤ (k : Int) := by omega
      have hE := Lib.hid (show gsum L = g by rw [hg.out, hkm', ← Hm.out, List.take_length])
      go_wp2_with fail
      go_ret
      exact ⟨ret_bool (by rw [hE.out, Bool.eq_iff_iff]; simp only [decide_eq_true_eq]; omega), rfl⟩

def right17 (end_ k s a b c N : Int) : Bool := decide (0 ≤ end_) && decide (end_ ≤ 2) && rightF k s && rightL a b c && decide (1 ≤ N) && decide (N ≤ 65536)
set_option maxRecDepth 100000 in
set_option maxHeartbeats 2000000 in
theorem Right17_any (end_ k s a b c N : Int) (w : World) :
    Calls Tryz.prog 6 #[.int .i64 end_, .agg #[.int .i64 k, .int .u64 s], .agg #[.int .i64 a, .int .i64 b, .int .i64 c], .int .i64 N] w fun e w' => e = .returned (.bool (right17 end_ k s a b c N)) ∧ Below w.heap.size w w' := by
  obtain ⟨W0, e0', hz0, b0, b1, t0⟩ : ∃ W, (w.alloc (.cells #[.int .i64 k, .int .u64 s] 25)).alloc (.cells #[.int .i64 a, .int .i64 b, .int .i64 c] 27) = W ∧ W.heap.size = w.heap.size + 2 ∧
      W.heap[w.heap.size]? = some (.cells #[.int .i64 k, .int .u64 s] 25) ∧ W.heap[w.heap.size + 1]? = some (.cells #[.int .i64 a, .int .i64 b, .int .i64 c] 27) ∧ Below w.heap.size w W :=
    ⟨_, rfl, by simp, by rw [Below.heap_alloc _ _ _ (by simp), World.alloc_heap_new], heap_alloc2_newL _ _ _, ((Below.refl _ w).alloc (Nat.le_refl _) _).alloc (by simp) _⟩
  have hRF := fun W => Lib.hid (RRightF_any k s W)
  have hRL := fun W => Lib.hid (RRightL_any a b c W)
  have cells := fun (W : World) (hb : Below W0.heap.size W0 W) => Lib.hid (show (W.cell? ⟨w.heap.size, 0, none⟩ = some (.int .i64 k) ∧ W.cell? ⟨w.heap.size, 1, none⟩ = some (.int .u64 s)) ∧ W.cell? ⟨w.heap.size + 1, 0, none⟩ = some (.int .i64 a) ∧ W.cell? ⟨w.heap.size + 1, 1, none⟩ = some (.int .i64 b) ∧ W.cell? ⟨w.heap.size + 1, 2, none⟩ = some (.int .i64 c) from by
    have d0 := (hb.block w.heap.size (by omega)).trans b0
    have d1 := (hb.block (w.heap.size + 1) (by omega)).trans b1
    refine ⟨⟨?_, ?_⟩, ?_, ?_, ?_⟩ <;> simp [World.cell?, d0, d1])
  have HB0 := Lib.hid t0
  obtain ⟨⟨x0, x1⟩, x2, x3, x4⟩ := (cells W0 (Below.refl _ _)).out
  have HE := Lib.hid (show right17 end_ k s a b c N = (decide (0 ≤ end_) && decide (end_ ≤ 2) && rightF k s && rightL a b c && decide (1 ≤ N) && decide (N ≤ 65536)) from rfl)
  obtain ⟨rb, hrb⟩ : ∃ rb, right17 end_ k s a b c N = rb := ⟨_, rfl⟩
  obtain ⟨bF, hbF⟩ : ∃ q, rightF k s = q := ⟨_, rfl⟩
  obtain ⟨bL, hbL⟩ : ∃ q, rightL a b c = q := ⟨_, rfl⟩
  rw [hrb, hbF, hbL] at HE
  rw [hrb]
  rw [hbF] at hRF
  rw [hbL] at hRL
  clear t0 b0 b1 hrb hbF hbL
  by_cases h1 : 0 ≤ end_
  · by_cases h2 : end_ ≤ 2
    · have t1 : decide (0 ≤ end_) = true := decide_eq_true h1
      have t2 : decide (end_ ≤ 2) = true := decide_eq_true h2
      rw [t1, t2] at HE
      cases bF with
      | false =>
        go_enter Tryz.func6, Tryz.ntmps6
        go_wp2_with fail
        refine (hRF _).out.mono ?_; rintro e w1 ⟨rfl, hb1⟩; dsimp only
        have HB1 := Lib.hid (HB0.out.trans (hb1.mono (by omega)))
        clear hb1
        go_wp2_with fail
        go_ret
        exact ⟨ret_bool (by rw [HE.out]; rfl), HB1.out⟩
      | true =>
        cases bL with
        | false =>
          go_enter Tryz.func6, Tryz.ntmps6
          go_wp2_with fail
          refine (hRF _).out.mono ?_; rintro e w1 ⟨rfl, hb1⟩; dsimp only
          have HB1 := Lib.hid (HB0.out.trans (hb1.mono (by omega)))
          have hb1' := Lib.hid hb1
          clear hb1 x0 x1 x2 x3 x4
          obtain ⟨⟨x0, x1⟩, x2, x3, x4⟩ := (cells w1 hb1'.out).out
          go_wp2_with fail
          refine (hRL _).out.mono ?_; rintro e w2 ⟨rfl, hb2⟩; dsimp only
          have HB2 := Lib.hid (HB1.out.trans (hb2.mono HB1.out.size))
          clear hb2
          go_wp2_with fail
          go_ret
          exact ⟨ret_bool (by rw [HE.out]; rfl), HB2.out⟩
        | true =>
          by_cases h3 : 1 ≤ N
          all_goals
            go_enter Tryz.func6, Tryz.ntmps6
            go_wp2_with fail
            refine (hRF _).out.mono ?_; rintro e w1 ⟨rfl, hb1⟩; dsimp only
            have HB1 := Lib.hid (HB0.out.trans (hb1.mono (by omega)))
            have hb1' := Lib.hid hb1
            clear hb1 x0 x1 x2 x3 x4
            obtain ⟨⟨x0, x1⟩, x2, x3, x4⟩ := (cells w1 hb1'.out).out
            go_wp2_with fail
            refine (hRL _).out.mono ?_; rintro e w2 ⟨rfl, hb2⟩; dsimp only
            have HB2 := Lib.hid (HB1.out.trans (hb2.mono HB1.out.size))
            clear hb2
            go_wp2_with fail
            all_goals
              go_ret
              exact ⟨ret_bool (by rw [HE.out, Bool.eq_iff_iff]; simp; try omega), HB2.out⟩
    · have h2' : 2 < end_ := by omega
      have HE1 := Lib.hid (show rb = false from by rw [HE.out, decide_eq_false h2]; simp)
      go_enter Tryz.func6, Tryz.ntmps6
      go_wp2_with fail
      go_ret
      exact ⟨ret_bool HE1.out.symm, HB0.out⟩
  · have h1' : end_ < 0 := by omega
    have HE1 := Lib.hid (show rb = false from by rw [HE.out, decide_eq_false h1]; simp)
    go_enter Tryz.func6, Tryz.ntmps6
    go_wp2_with fail
    go_ret
    exact ⟨ret_bool HE1.out.symm, HB0.out⟩
section
variable {W : World} {n0 : Nat} {p : RdrP} {x : Rdr}
theorem RdHolds_any (h : RdrAt W n0 p x) : Calls Tryz.prog 14 #[.pointer (some ⟨p.D, 0, none⟩)] W fun e w' => e = .returned (.int .i64 x.r.held.length) ∧ W = w' := by
  have c2 := h.c2
  have hR := Lib.hid (RLen_any h.ring)
  clear h
  go_enter Tryz.func14, Tryz.ntmps14
  go_wp2_with fail
  refine hR.out.mono ?_; rintro e w1 ⟨rfl, rfl⟩; dsimp only
  go_wp2_with fail
  go_ret
  exact ⟨rfl, rfl⟩
theorem RdOpen_any (h : RdrAt W n0 p x) : Calls Tryz.prog 15 #[.pointer (some ⟨p.D, 0, none⟩)] W fun e w' => e = .returned (.int .i64 x.c.op) ∧ W = w' := by
  have c3 := h.c3
  have hR := Lib.hid (COpen_any h.cred)
  clear h
  go_enter Tryz.func15, Tryz.ntmps15
  go_wp2_with fail
  refine hR.out.mono ?_; rintro e w1 ⟨rfl, rfl⟩; dsimp only
  go_wp2_with fail
  go_ret
  exact ⟨rfl, rfl⟩

def exRd : Rdr := newRd [[97, 98, 99]] 0 3 0 0 0 0 2
def exRd1 : Rdr := ⟨⟨.all false, 2, 2, 0⟩, ⟨[[99]], true, 0, 2, false⟩, ⟨2, 0, [97, 98]⟩, ⟨0, 0, 2, 0⟩, true, false, false, []⟩
theorem exRd_step (e0 e1 e2 e3 e4 e5 : Int) : exRd.step e0 e1 e2 e3 e4 e5 = (3, exRd1) := by rfl
theorem exRd1_step (e0 e1 e2 e3 e4 e5 : Int) : exRd1.step e0 e1 e2 e3 e4 e5 = (1, exRd1) := by rfl
set_option maxHeartbeats 2000000 in
set_option maxRecDepth 100000 in
theorem wakes17_any {e0 e1 e2 e3 e4 e5 : Int} {w : World} (hT : TabR w n0 e0 e1 e2 e3 e4 e5) :
    Calls Tryz.prog 4 #[] w fun e w' => e = .returned (.bool true) ∧ Below w.heap.size w w' := by
  have hcv0 : (convert 39 39 (.slice (some ⟨w.heap.size, 0, none⟩) 3 3)).run Tryz.prog (w.alloc (.cells #[.int .u8 97, .int .u8 98, .int .u8 99] 5)) = .ok (.slice (some ⟨w.heap.size, 0, none⟩) 3 3) (w.alloc (.cells #[.int .u8 97, .int .u8 98, .int .u8 99] 5 (3, 4))) := Lib.run_convert_bytes_const w 39 5 #[.int .u8 97, .int .u8 98, .int .u8 99] 3 3 Tryz.underlying39 Tryz.underlying5
  obtain ⟨W1, eW1, r1, z1, t1⟩ : ∃ W1, w.alloc (.cells #[.int .u8 97, .int .u8 98, .int .u8 99] 5 (3, 4)) = W1 ∧ W1.heap[w.heap.size]? = some (.cells #[.int .u8 97, .int .u8 98, .int .u8 99] 5 (3, 4)) ∧ W1.heap.size = w.heap.size + 1 ∧ Below w.heap.size w W1 := ⟨_, rfl, heap_alloc_new _ _, by simp, (Below.refl _ w).alloc (Nat.le_refl _) _⟩
  have hcv := hcv0
  rw [eW1] at hcv
  clear hcv0
  obtain ⟨W2, eW2, r2, z2, t2⟩ : ∃ W2, W1.alloc (.cells #[.slice (some ⟨w.heap.size, 0, none⟩) 3 3] 39) = W2 ∧ W2.heap[w.heap.size + 1]? = some (.cells #[.slice (some ⟨w.heap.size, 0, none⟩) 3 3] 39) ∧ W2.heap.size = w.heap.size + 2 ∧ Below (w.heap.size + 1) W1 W2 := ⟨_, rfl, by rw [← z1]; exact World.alloc_heap_new _ _, by simp [z1], by rw [← z1]; exact (Below.refl _ W1).alloc (Nat.le_refl _) _⟩
  have hb2 : Below w.heap.size w W2 := t1.trans (t2.mono (by omega))
  have r1' := (t2.block w.heap.size (by omega)).trans r1
  have hpi : PcsIn W2 (.slice (some ⟨w.heap.size + 1, 0, none⟩) 1 1) [[97, 98, 99]] := by
    refine ⟨_, 1, rfl, Nat.le_refl _, by unfold maxLen; decide, fun _ => ⟨_, 0, rfl, by omega, fun j hj => ?_⟩⟩
    obtain rfl : j = 0 := by simp at hj; omega
    refine ⟨_, by simp [World.cell?, r2], some ⟨w.heap.size, 0, none⟩, 3, rfl, by simp, by unfold maxLen; decide, fun _ => ⟨w.heap.size, 0, rfl, by omega, fun i hi => ?_⟩⟩
    have hi' : i = 0 ∨ i = 1 ∨ i = 2 := by simp at hi; omega
    rcases hi' with rfl | rfl | rfl <;> simp [World.cell?, r1', encU]
  have hNew : Calls Tryz.prog 7 #[.agg #[.slice (some ⟨w.heap.size + 1, 0, none⟩) 1 1, .int .i64 0], .agg #[.int .i64 3, .int .u64 0], .agg #[.int .i64 0, .int .i64 0, .int .i64 0], .int .i64 2] W2 (NewRdP W2 n0 exRd) :=
    RdNew_any _ [[97, 98, 99]] 0 3 0 0 0 0 2 (by decide) (by decide) (by decide) (by decide) rfl rfl (by decide) (by decide) n0 W2 (by have := hT.ends.le; omega) hpi
  have HNew := Lib.hid hNew
  have HT2 := Lib.hid (hT.below (hb2.mono hT.ends.le))
  have HB2 := Lib.hid hb2
  clear r1 r2 t1 t2 hb2 r1' hpi hNew hT
  go_enter Tryz.func4, Tryz.ntmps4
  go_wp2_with fail
  unfold NewRdP at HNew
  refine HNew.out.mono ?_; rintro e w3 ⟨p, rfl, h3, hp3, hb3⟩; dsimp only
  have hS1 := Lib.hid (RdStep_any h3 (HT2.out.below (hb3.mono HT2.out.ends.le)) (N := 0) ⟨trivial, by decide, by decide, by decide, by decide⟩ (by decide) (by decide) (by decide) (by decide) ⟨by decide, by decide, by decide, by decide⟩ ⟨by decide, by decide, by decide, by decide⟩ (by decide))
  rw [exRd_step] at hS1
  unfold StepP2 at hS1
  have HB3 := Lib.hid (HB2.out.trans (hb3.mono HB2.out.size))
  have HT3 := Lib.hid (HT2.out.below (hb3.mono HT2.out.ends.le))
  have Hp3 := Lib.hid hp3
  have hz23 := Lib.hid (Nat.le_trans HB2.out.size hb3.size)
  have hn0 := Lib.hid h3.lo
  clear h3 hp3 hb3
  go_wp2_with fail
  refine hS1.out.mono ?_; rintro e w4 ⟨p4, rfl, hpD, h4, hp4, t4⟩; dsimp only
  have hbt : Below n0 w3 w4 := t4.below HT3.out.ends.le (fun k hk => hn0.out k hk)
  have hbw : Below w.heap.size w3 w4 := t4.below hz23.out (fun k hk => Nat.le_trans HB2.out.size (Hp3.out k hk))
  have hHl := Lib.hid (RdHolds_any h4)
  have hOp := Lib.hid (RdOpen_any h4)
  have hS2 := Lib.hid (RdStep_any h4 (HT3.out.below hbt) (N := 2) ⟨trivial, by decide, by decide, by decide, by decide⟩ (by decide) (by decide) (by decide) (by decide) ⟨by decide, by decide, by decide, by decide⟩ ⟨by decide, by decide, by decide, by decide⟩ (by decide))
  rw [hpD] at hHl hOp hS2
  rw [exRd1_step] at hS2
  unfold StepP2 at hS2
  have HB4 := Lib.hid (HB3.out.trans hbw)
  have Hp4 := Lib.hid (show ∀ k, p4.tag k ≠ 0 → w.heap.size ≤ k from fun k hk => by
    rcases hp4 k hk with h | h
    · exact Nat.le_trans HB2.out.size (Hp3.out k h)
    · exact Nat.le_trans hz23.out h)
  clear h4 hp4 t4 hbt hbw
  have hh2 : ((exRd1.r.held.length : Nat) : Int) = 2 := by rfl
  have hop0 : exRd1.c.op = 0 := by rfl
  rw [hh2] at hHl
  rw [hop0] at hOp
  go_wp2_with fail
  refine hHl.out.mono ?_; rintro e w5 ⟨rfl, rfl⟩; dsimp only
  go_wp2_with fail
  refine hOp.out.mono ?_; rintro e w5 ⟨rfl, rfl⟩; dsimp only
  go_wp2_with fail
  refine hS2.out.mono ?_; rintro e w5 ⟨p5, rfl, hpD5, h5, hp5, t5⟩; dsimp only
  have HB5 := Lib.hid (HB4.out.trans (t5.below HB4.out.size (fun k hk => Hp4.out k hk)))
  clear h5 hp5 t5
  go_wp2_with fail
  go_ret
  exact ⟨rfl, HB5.out⟩
end

end Go.Proofs.YtfeljjlpdefnmaaGreat
