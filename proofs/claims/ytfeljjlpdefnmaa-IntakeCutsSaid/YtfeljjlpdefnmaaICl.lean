/-
  The law IntakeCuts, walked.
-/
import Derived.Test.YtfeljjlpdefnmaaIWa
import Derived.Test.YtfeljjlpdefnmaaIfc
import Derived.Test.YtfeljjlpdefnmaaIcut
namespace Go.Proofs.Ytfeljjlpdefnmaa
open Go.RowKit
set_option linter.unusedVariables false
set_option linter.unusedSimpArgs false
attribute [local go_sem] Oper.semAt_some

theorem RdB.drop {W : World} {n : Nat} {b off : Nat} {l : List UInt8} (h : RdB W n (some ⟨b, off, none⟩) l) (k : Nat) : RdB W n (some ⟨b, off + k, none⟩) (l.drop k) := by
  intro hne
  have hk : k < l.length := by
    apply Classical.byContradiction
    intro hk
    exact hne (List.drop_eq_nil_of_le (by omega))
  obtain ⟨b', off', h1, h2, h3⟩ := h (by rintro rfl; simp at hk)
  cases h1
  refine ⟨b, off + k, rfl, h2, fun j hj => ?_⟩
  rw [List.length_drop] at hj
  rw [Nat.add_assoc, h3 (k + j) (by omega), List.getElem?_drop]

theorem flds_len {i : Itk} {N : Int} (h : i.wf N) : i.flds.length ≤ 1000000 := by
  obtain ⟨h0, -⟩ := h
  unfold Itk.flds
  cases ht : i.t with
  | chunk d =>
    rw [ht] at h0
    have := h0.1.s0
    have := h0.1.s1
    dsimp only
    split
    · omega
    · simp
  | all c => simp
  | sized l => simp
section
variable {e0 e1 e2 e3 e4 e5 : Int} {n0 : Nat}
set_option maxHeartbeats 4000000 in
set_option maxRecDepth 100000 in
theorem IntakeCuts_any (k s : Int) (cu : Nat) (hcu : cu ≤ 65535) (hs0 : 0 ≤ s) (A : Option Addr) (cap : Nat) (bs : List UInt8) {w : World} (hc : bs.length ≤ cap) (hcm : cap ≤ maxLen) (hr : RdB w w.heap.size A bs) (hT : TabR w n0 e0 e1 e2 e3 e4 e5) :
    Calls Try.prog 4 #[.agg #[.int .i64 k, .int .u64 s], .slice A bs.length cap, .int .u16 (cu : Int)] w fun e w' => e = .returned (.bool true) ∧ Below w.heap.size w w' := by
  obtain ⟨W0, e0', hz0, b0, t0⟩ : ∃ W, w.alloc (.cells #[.int .i64 k, .int .u64 s] 24) = W ∧ W.heap.size = w.heap.size + 1 ∧
      W.heap[w.heap.size]? = some (.cells #[.int .i64 k, .int .u64 s] 24) ∧ Below w.heap.size w W :=
    ⟨_, rfl, by simp, World.alloc_heap_new _ _, (Below.refl _ w).alloc (Nat.le_refl _) _⟩
  have hWk := Lib.hid (wakesI_any (hT.below (t0.mono hT.ends.le)))
  have hRF := fun W => Lib.hid (RRightF_any k s W)
  have HT := Lib.hid hT
  have HR := Lib.hid hr
  obtain ⟨m, hm⟩ : ∃ m, bs.length = m := ⟨_, rfl⟩
  have Hm := Lib.hid hm
  rw [hm] at hc ⊢
  clear hT hr hm
  have cells := fun (W : World) (hb : Below W0.heap.size W0 W) => Lib.hid (show W.cell? ⟨w.heap.size, 0, none⟩ = some (.int .i64 k) ∧ W.cell? ⟨w.heap.size, 1, none⟩ = some (.int .u64 s) from by
    have d0 := (hb.block w.heap.size (by omega)).trans b0
    refine ⟨?_, ?_⟩ <;> simp [World.cell?, d0])
  have HB0 := Lib.hid t0
  clear t0 b0
  by_cases hlen : 400 < m
  · have l1 : (400 : Int) < (m : Int) := by omega
    go_enter Try.func4, Try.ntmps4
    go_wp2_with fail
    refine hWk.out.mono ?_; rintro e w1 ⟨rfl, hb1⟩; dsimp only
    have HB1 := Lib.hid (HB0.out.trans (hb1.mono (by omega)))
    clear hb1
    go_wp2_with fail
    go_ret
    exact ⟨rfl, HB1.out⟩
  have l1 : (m : Int) ≤ 400 := by omega
  by_cases hF : rightF k s = false
  · rw [hF] at hRF
    go_enter Try.func4, Try.ntmps4
    go_wp2_with fail
    refine hWk.out.mono ?_; rintro e w1 ⟨rfl, hb1⟩; dsimp only
    obtain ⟨x0, x1⟩ := (cells w1 hb1).out
    have HB1 := Lib.hid (HB0.out.trans (hb1.mono (by omega)))
    clear hb1
    go_wp2_with fail
    refine (hRF _).out.mono ?_; rintro e w2 ⟨rfl, hb2⟩; dsimp only
    have HB2 := Lib.hid (HB1.out.trans (hb2.mono HB1.out.size))
    clear hb2
    go_wp2_with fail
    go_ret
    exact ⟨rfl, HB2.out⟩
  have hF : rightF k s = true := by simpa using hF
  have hNew := fun W => Lib.hid (INew_any k s 20 5 200 hF rfl W)
  unfold INewP at hNew
  have hwf := newI_wf (a := 20) (b := 5) (c := 200) hF rfl hs0
  have hie : (newI k s 20 5 200).e = 0 := rfl
  rw [hF] at hRF
  obtain ⟨i, hi⟩ : ∃ i, newI k s 20 5 200 = i := ⟨_, rfl⟩
  rw [hi] at hwf hie
  simp only [hi] at hNew
  clear hF hi
  go_enter Try.func4, Try.ntmps4
  go_wp2_with fail
  refine hWk.out.mono ?_; rintro e w1 ⟨rfl, hb1⟩; dsimp only
  obtain ⟨x0, x1⟩ := (cells w1 hb1).out
  have HB1 := Lib.hid (HB0.out.trans (hb1.mono (by omega)))
  have hb1' := Lib.hid hb1
  clear hb1
  go_wp2_with fail
  refine (hRF _).out.mono ?_; rintro e w2 ⟨rfl, hb2⟩; dsimp only
  clear x0 x1
  have hb2' := Lib.hid (hb1'.out.trans (hb2.mono hb1'.out.size))
  have HB2 := Lib.hid (HB1.out.trans (hb2.mono HB1.out.size))
  have hz2 := HB2.out.size
  have hz2' := hb2'.out.size
  clear hb2 HB1 hb1'
  obtain ⟨W3, eW3, hz3, bL, hb3⟩ : ∃ W, w2.alloc (.cells #[.int .i64 20, .int .i64 5, .int .i64 200] 26) = W ∧ W.heap.size = w2.heap.size + 1 ∧ W.heap[w2.heap.size]? = some (.cells #[.int .i64 20, .int .i64 5, .int .i64 200] 26) ∧ Below w2.heap.size w2 W :=
    ⟨_, rfl, by simp, World.alloc_heap_new _ _, (Below.refl _ w2).alloc (Nat.le_refl _) _⟩
  have cellsL := fun (W : World) (hb : Below W3.heap.size W3 W) => Lib.hid (show W.cell? ⟨w2.heap.size, 0, none⟩ = some (.int .i64 20) ∧ W.cell? ⟨w2.heap.size, 1, none⟩ = some (.int .i64 5) ∧ W.cell? ⟨w2.heap.size, 2, none⟩ = some (.int .i64 200) from by
    have d0 := (hb.block w2.heap.size (by omega)).trans bL
    refine ⟨?_, ?_, ?_⟩ <;> simp [World.cell?, d0])
  have hb3' := Lib.hid (hb2'.out.trans (hb3.mono hz2'))
  have HB3 := Lib.hid (HB2.out.trans (hb3.mono hz2))
  obtain ⟨x0, x1⟩ := (cells W3 hb3'.out).out
  obtain ⟨y0, y1, y2⟩ := (cellsL W3 (Below.refl _ _)).out
  clear bL hb3 hb2' HB2
  go_wp2_with fail
  refine (hNew W3).out.mono ?_; rintro e w4 ⟨I1, S1, G1, rfl, hI1, hG1, hIw1, hb4⟩; dsimp only
  clear x0 x1 y0 y1 y2
  obtain ⟨x0, x1⟩ := (cells w4 (hb3'.out.trans (hb4.mono (by omega)))).out
  obtain ⟨y0, y1, y2⟩ := (cellsL w4 (hb4.mono (Nat.le_refl _))).out
  have HB4 := Lib.hid (HB3.out.trans (hb4.mono (by omega)))
  have hz4 := hb4.size
  have HI1 := Lib.hid hI1
  have hI1l := hI1.lt
  have hG1l := hI1.tak.lt
  clear hb4 HB3 hb3' hI1
  go_wp2_with fail
  refine (hNew w4).out.mono ?_; rintro e w5 ⟨I2, S2, G2, rfl, hI2, hG2, hIw2, hb5⟩; dsimp only
  have HI1' := Lib.hid (HI1.out.below hb5)
  have HB5 := Lib.hid (HB4.out.trans (hb5.mono (by omega)))
  have hz5 := hb5.size
  have HI2 := Lib.hid hI2
  have hI2l := hI2.lt
  have hG2l := hI2.tak.lt
  clear hb5 HB4 hI2 x0 x1 y0 y1 y2 cells cellsL hNew hRF hWk HI1 eW3
  have hT5 := HT.out.below (HB5.out.mono HT.out.ends.le)
  have hR5 := (HR.out.touch (Touch.of_below (HB5.out)) (Nat.le_refl _) (fun _ b off e hb h => by omega)).up (Nat.le_trans (by omega) hz5)
  have hn0 := HT.out.ends.le
  have hnl : ∀ b off, bs ≠ [] → A = some ⟨b, off, none⟩ → b < w.heap.size := fun b off hne e => by
    obtain ⟨b', off', e', hb', -⟩ := HR.out hne
    rw [e] at e'
    cases e'
    exact hb'
  have hP1 := Lib.hid (IPut_any HI1'.out hwf (by omega) A cap bs (by rw [Hm.out]; omega) (by rw [Hm.out]; exact hc) hcm hR5 (fun hne b off e hg => by have := hG1 b hg; have := hnl b off hne e; omega) (fun j hj => by have := hG1 j hj; omega) hT5)
  unfold IPutP at hP1
  rw [Hm.out] at hP1
  go_wp2_with fail
  refine hP1.out.mono ?_; rintro e w6 ⟨G1', vx, rfl, hI6, hvx, hax, hsub1, hT6⟩; dsimp only at hI6 hvx ⊢
  obtain ⟨kk, hkk⟩ : ∃ kk, cu % (m + 1) = kk := ⟨_, rfl⟩
  have hkm : kk ≤ m := by have := Nat.mod_lt cu (show m + 1 > 0 by omega); omega
  have c1 : IntKind.i64.wrap (cu : Int) = (cu : Int) := IntWalk.i64_in _ (by omega)
  have c2 : IntKind.i64.wrap ((m : Int) + 1) = (m : Int) + 1 := IntWalk.i64_in _ (by omega)
  have c3 : Int.tmod (cu : Int) ((m : Int) + 1) = (kk : Int) := by
    rw [show (m : Int) + 1 = ((m + 1 : Nat) : Int) by omega, ← hkk]
    rfl
  have c4 : (((m : Int) + 1) == 0) = false := beq_eq_false_iff_ne.2 (by omega)
  have c5 : IntKind.i64.wrap (kk : Int) = (kk : Int) := IntWalk.i64_in _ (by unfold maxLen at hcm; omega)
  have c6 : (kk : Int) ≤ (cap : Int) := by omega
  go_wp2_with fail
  have HI6 := Lib.hid hI6
  have HVx6 := Lib.hid hvx
  have HAx := Lib.hid hax
  have hz6 := hT6.size
  have hI2_6 := HI2.out.touch hT6 (fun j hj h => by have := hG2 j hj; rcases h with h | h; · have := hG1l j h; omega
                                                    · omega) (fun h => by rcases h with h | h; · have := hG1l I2 h; omega
                                                                          · omega)
  have hR6 := (hR5.touch hT6 (Nat.le_refl _) (fun hne b off e hb h => by have := hnl b off hne e; rcases h with h | h; · have := hG1 b h; omega
                                                                         · omega)).up hz6
  have hT6' := hT5.below (hT6.below (Nat.le_trans hn0 (by omega)) (fun j hj => by rcases hj with h | h; · have := hG1 j h; omega
                                                                                  · omega))
  have htk : (bs.take kk).length = kk := by rw [List.length_take, Hm.out]; omega
  have hP2 := Lib.hid (IPut_any hI2_6 hwf (by omega) A cap (bs.take kk) (by omega) (by omega) hcm (hR6.take kk) (fun hne b off e hg => by have := hG2 b hg; have := hnl b off (by rintro rfl; simp at hne) e; omega) (fun j hj => by have := hG2 j hj; omega) hT6')
  unfold IPutP at hP2
  rw [htk] at hP2
  have hcut := Itk.put_cut (e0 := e0) (e1 := e1) (e2 := e2) (e3 := e3) (e4 := e4) (e5 := e5) i hwf hie (bs.take kk) (bs.drop kk)
  rw [List.take_append_drop, htk] at hcut
  have hw1 := Itk.put_wf (e0 := e0) (e1 := e1) (e2 := e2) (e3 := e3) (e4 := e4) (e5 := e5) hwf (bs.take kk) (M := 400) (by omega)
  have hwX := Itk.put_wf (e0 := e0) (e1 := e1) (e2 := e2) (e3 := e3) (e4 := e4) (e5 := e5) hwf bs (M := 400) (by rw [Hm.out]; omega)
  have hLb := put_wants (e0 := e0) (e1 := e1) (e2 := e2) (e3 := e3) (e4 := e4) (e5 := e5) hwf bs (by rw [Hm.out]; omega)
  obtain ⟨pr, hpr⟩ : ∃ pr, i.put e0 e1 e2 e3 e4 e5 bs = pr := ⟨_, rfl⟩
  obtain ⟨r1, hr1⟩ : ∃ r1, i.put e0 e1 e2 e3 e4 e5 (bs.take kk) = r1 := ⟨_, rfl⟩
  have hcut2 : pr = if r1.2.2.1 = kk ∧ r1.2.2.2 = 0 then ((r1.1.put e0 e1 e2 e3 e4 e5 (bs.drop kk)).1, r1.2.1 ++ (r1.1.put e0 e1 e2 e3 e4 e5 (bs.drop kk)).2.1, kk + (r1.1.put e0 e1 e2 e3 e4 e5 (bs.drop kk)).2.2.1, (r1.1.put e0 e1 e2 e3 e4 e5 (bs.drop kk)).2.2.2) else r1 := by
    rw [← hpr, ← hr1]; exact hcut
  rw [hpr] at hwX hLb HI6 HVx6 ⊢
  rw [hr1] at hP2 hw1
  clear hcut hpr hr1 hI6 hvx hax hP1
  obtain ⟨X, L, nn, pe⟩ := pr
  obtain ⟨i1, d1, n1, p1⟩ := r1
  dsimp only at hcut2 hwX hLb HI6 HVx6 hP2 hw1 ⊢
  rw [Hm.out] at hLb
  refine hP2.out.mono ?_; rintro e w7 ⟨G2', vy, rfl, hI7, hvy, hay, hsub2, hT7⟩; dsimp only at hI7 hvy ⊢
  have hz7 := hT7.size
  have HI7 := Lib.hid hI7
  have HVy7 := Lib.hid hvy
  have HAy := Lib.hid hay
  have hG1p : ∀ j, G1' j → (W3.heap.size ≤ j ∧ j < w4.heap.size) ∨ (w5.heap.size ≤ j ∧ j < w6.heap.size) := fun j hj => by
    have h1 := HI6.out.tak.lt j hj
    rcases hsub1 j hj with h | h
    · exact .inl ⟨hG1 j h, hG1l j h⟩
    · exact .inr ⟨h, h1⟩
  have hG2p : ∀ j, G2' j → (w4.heap.size ≤ j ∧ j < w5.heap.size) ∨ (w6.heap.size ≤ j ∧ j < w7.heap.size) := fun j hj => by
    have h1 := HI7.out.tak.lt j hj
    rcases hsub2 j hj with h | h
    · exact .inl ⟨hG2 j h, hG2l j h⟩
    · exact .inr ⟨h, h1⟩
  have hI1p : W3.heap.size ≤ I1 ∧ I1 < w4.heap.size := ⟨hIw1, hI1l⟩
  have hI2p : w4.heap.size ≤ I2 ∧ I2 < w5.heap.size := ⟨hIw2, hI2l⟩
  have HI7a := Lib.hid (HI6.out.touch hT7 (fun j hj h => by
    have h1 := hG1p j hj
    rcases h with h | h
    · have := hG2 j h; have := hG2l j h; omega
    · omega) (fun h => by
    rcases h with h | h
    · have := hG2 I1 h; omega
    · omega))
  have HVx6lt := Lib.hid (fun (g : Nat) (hg : vx.ownBlock = some g) => own_lt HVx6.out hg)
  have HVx7 := Lib.hid (own_touchL HVx6.out hT7 (fun g hg h => by
    have h1 := own_ge HVx6.out (k := g)
    have h2 : w5.heap.size ≤ g := by
      apply Classical.byContradiction
      intro hlt
      exact h1 (by omega) hg.symm
    rcases h with h | h
    · have := hG2l g h; omega
    · omega))
  have HB7 := Lib.hid ((HB5.out.trans (hT6.below (Nat.le_trans (by omega) hz5) (fun j hj => by rcases hj with h | h; · have := hG1 j h; omega
                                                                                               · omega))).trans (hT7.below (by omega) (fun j hj => by rcases hj with h | h; · have := hG2 j h; omega
                                                                                                                                                      · omega)))
  have hR7 := (hR6.touch hT7 (Nat.le_refl _) (fun hne b off e hb h => by have := hnl b off hne e; rcases h with h | h; · have := hG2 b h; omega
                                                                         · omega)).up hz7
  have hT7' := hT6'.below (hT7.below (Nat.le_trans hn0 (by omega)) (fun j hj => by rcases hj with h | h; · have := hG2 j h; omega
                                                                                   · omega))
  clear hI7 hvy hay hI2_6 HI6 HVx6 HI2 HI1' hP2 hsub1 hsub2
  have hdk : (bs.drop kk).length = m - kk := by rw [List.length_drop, Hm.out]
  have hdk : (bs.drop kk).length = m - kk := by rw [List.length_drop, Hm.out]
  have hdk : (bs.drop kk).length = m - kk := by rw [List.length_drop, Hm.out]
  have hdk : (bs.drop kk).length = m - kk := by rw [List.length_drop, Hm.out]
  by_cases hC : n1 = kk ∧ p1 = 0
  · rw [if_pos hC] at hcut2
    obtain ⟨hC1, hC2⟩ := hC
    have q1 : ((n1 : Int) == (kk : Int)) = true := beq_iff_eq.2 (by omega)
    have q2 : (p1 == 0) = true := beq_iff_eq.2 hC2
    have hP3 := fun (A2 : Option Addr) (c2 : Nat) (hA2 : A2 = A.map (fun x => x.add kk) ∨ bs.drop kk = []) (hc2 : m - kk ≤ c2) (hm2 : c2 ≤ maxLen) => Lib.hid (IPut_any HI7.out hw1 (by omega) A2 c2 (bs.drop kk) (by omega) (by omega) hm2
      (by
        intro hne
        obtain ⟨b, off, rfl, -⟩ := hR7 (by rintro rfl; simp at hne)
        rw [hA2.resolve_right hne]
        simp only [Option.map_some, WideShapes.add_plain]
        exact hR7.drop kk hne)
      (fun hne b off e hg => by
        have hne2 : bs ≠ [] := by rintro rfl; simp at hne
        obtain ⟨b', off', e', -⟩ := hR7 hne2
        have hbl := hnl b' off' hne2 e'
        rw [hA2.resolve_right hne, e'] at e
        simp only [Option.map_some, WideShapes.add_plain] at e
        cases e
        have := hG2p _ hg
        omega) (fun j hj => by have := hG2p j hj; omega) hT7')
    unfold IPutP at hP3
    rw [hdk] at hP3
    generalize i1.put e0 e1 e2 e3 e4 e5 (bs.drop kk) = r2 at hcut2 hP3
    obtain ⟨i2, d2, n2, p2⟩ := r2
    dsimp only at hcut2 hP3
    cases hcut2
    have hLn : (d1 ++ d2).length ≤ 400 := by omega
    clear hC1 hC2 hw1
    go_wp2_with fail
    all_goals
      refine (hP3 _ _ (by first | exact .inl rfl | exact .inr (List.drop_eq_nil_of_le (by rw [Hm.out]; omega))) (by omega) (by omega)).out.mono ?_; rintro e w8 ⟨G3', vz, rfl, hI8, hvz, haz, hsub3, hT8⟩; dsimp only at hI8 hvz ⊢
      have hz8 := hT8.size
      have HVz8 := Lib.hid hvz
      have hG3p : ∀ j, G3' j → (w4.heap.size ≤ j ∧ j < w5.heap.size) ∨ (w6.heap.size ≤ j ∧ j < w7.heap.size) ∨ (w7.heap.size ≤ j ∧ j < w8.heap.size) := fun j hj => by
        have h1 := hI8.tak.lt j hj
        rcases hsub3 j hj with h | h
        · exact (hG2p j h).imp id .inl
        · exact .inr (.inr ⟨h, h1⟩)
      have HI8 := Lib.hid hI8
      have HI8a := Lib.hid (HI7a.out.touch hT8 (fun j hj h => by
        have h1 := hG1p j hj
        rcases h with h | h
        · have := hG2p j h; omega
        · omega) (fun h => by
        rcases h with h | h
        · have := hG2p I1 h; omega
        · omega))
      have HVx8 := Lib.hid (own_touchL HVx7.out hT8 (fun g hg h => by
        have h2 : w5.heap.size ≤ g := by
          apply Classical.byContradiction
          intro hlt
          exact own_ge HVx7.out (by omega) hg.symm
        have h3 : g < w6.heap.size ∨ w6.heap.size ≤ g := by omega
        have h4 := HVx6lt.out g hg
        rcases h with h | h
        · have := hG2p g h; omega
        · omega))
      have HVy8 := Lib.hid (own_touchL HVy7.out hT8 (fun g hg h => by
        have h2 : w6.heap.size ≤ g := by
          apply Classical.byContradiction
          intro hlt
          exact own_ge HVy7.out (by omega) hg.symm
        rcases h with h | h
        · exact HAy.out g hg h
        · omega))
      have HB8 := Lib.hid (HB7.out.trans (hT8.below (by omega) (fun j hj => by
        rcases hj with h | h
        · have := hG2p j h; omega
        · omega)))
      obtain ⟨i0, hi0, hzz0, hzz1, hzz2⟩ := Try.info_u8R
      have R0 := Lib.hid (show (w8.alloc (.cells #[] 5)).ownsRow w8.heap.size 5 1 (.slice (some ⟨w8.heap.size, 0, none⟩) 0 0) 0 [] from ⟨rfl, .inr ⟨_, 0, #[], rfl, Nat.le_refl _, World.alloc_heap_new _ _, Nat.le_refl _, by decide, rfl, rfl⟩⟩)
      have TA := (Touch.refl (fun k => w8.heap.size ≤ k) w8).alloc (.cells #[] 5)
      have HVyA := Lib.hid (own_touchL HVy8.out TA (fun g hg h => by have := own_lt HVy8.out hg; omega))
      have hTA := Lib.hid TA
      have honeB : ∀ l : List UInt8, ∀ u ∈ l.map encU, u.oneCell' = true := fun l u hu => by obtain ⟨y, _, rfl⟩ := List.mem_map.1 hu; rfl
      have hd12 : d1.length + d2.length ≤ 400 := by rw [List.length_append] at hLn; exact hLn
      obtain ⟨l1', hl1'⟩ : ∃ x, d1.length = x := ⟨_, rfl⟩
      obtain ⟨l2', hl2'⟩ : ∃ x, d2.length = x := ⟨_, rfl⟩
      rw [hl1'] at HVyA hd12
      rw [hl2'] at HVz8 hd12
      clear hI8 hvz hT8 TA
      go_wp2_with (at_builtin; first
        | (refine wpList_app_any rfl _ _ 27 rfl w8.heap.size 5 i0 (.int .u8 0) 1 Try.underlying27 hi0 hzz0 hzz1 hzz2 rfl (.slice (some ⟨w8.heap.size, 0, none⟩) 0 0) 0 [] rfl R0.out vy w6.heap.size l1' _ rfl HVyA.out (honeB d1) (by unfold maxLen; omega) (by omega) (by simp) ?_
           intro v1 wa own1 gr1
           have TB := hTA.out.trans (grow_touch R0.out gr1)
           have HVzB := Lib.hid (own_touchL HVz8.out TB (fun g hg h => by have := own_lt HVz8.out hg; omega))
           have HO1 := Lib.hid own1
           have hTB := Lib.hid TB
           clear own1 gr1 TB)
        | (refine wpList_app_any rfl _ _ 27 rfl w8.heap.size 5 i0 (.int .u8 0) 1 Try.underlying27 hi0 hzz0 hzz1 hzz2 rfl _ (0 + l1') _ rfl HO1.out vz w7.heap.size l2' _ rfl HVzB.out (honeB d2) (by unfold maxLen; omega) (by omega) hTB.out.size ?_
           intro v2 w9 own2 gr2
           have HO2 := Lib.hid own2
           have T9 := hTB.out.trans (grow_touch HO1.out gr2)
           have hT9 := Lib.hid T9
           clear own2 gr2 T9))
      have T9 := hT9.out
      have own2 := HO2.out
      have HY9 := Lib.hid (show w9.ownsRow w8.heap.size 5 1 v2 (d1 ++ d2).length ((d1 ++ d2).map encU) from by
        rw [List.length_append, hl1', hl2', List.map_append]
        simpa using own2)
      have HX9 := Lib.hid (own_touchL HVx8.out T9 (fun g hg h => by have := own_lt HVx8.out hg; omega))
      have HIx := Lib.hid (HI8a.out.touch T9 (fun j hj h => by have := HI8a.out.tak.lt j hj; omega) (fun h => by omega))
      have HIy := Lib.hid (HI8.out.touch T9 (fun j hj h => by have := HI8.out.tak.lt j hj; omega) (fun h => by omega))
      have HB9 := Lib.hid (HB8.out.trans (T9.below (by omega) (fun j hj => by omega)))
      have hsep : ∀ j, (G1' j ∨ j = I1) → ¬ (G3' j ∨ j = I2) := fun j h1 h2 => by
        rcases h1 with h1 | h1 <;> rcases h2 with h2 | h2
        · have := hG1p j h1; have := hG3p j h2; omega
        · have := hG1p j h1; omega
        · have := hG3p j h2; omega
        · omega
      have hlow : ∀ j, (G1' j ∨ j = I1) ∨ (G3' j ∨ j = I2) → w.heap.size ≤ j := fun j h => by
        rcases h with (h | h) | (h | h)
        · have := hG1p j h; omega
        · omega
        · have := hG3p j h; omega
        · omega
      clear own2 T9 HO2 hT9 HVx8 HVy8 HVz8 HI8a HI8 HB8 hTA hTB HO1 HVzB HVyA R0 hP3 hR7 hT7' HVx7 HVy7 HI7 HI7a HB7
      have HXw := Lib.hid hwX
      have SM := Lib.hid (SameB_any _ _ _ _ (d1 ++ d2) w9 HX9.out HY9.out (by omega))
      go_wp2_with fail
      refine SM.out.mono ?_; rintro e wA ⟨rfl, qa, rfl⟩; dsimp only
      have HA1 := Lib.hid (HIx.out.drewN qa)
      have HA2 := Lib.hid (HIy.out.drewN qa)
      have HBa := Lib.hid (show Below w.heap.size w (w9.drewN qa) from ⟨HB9.out.os, HB9.out.tape, HB9.out.output, HB9.out.size, HB9.out.block⟩)
      obtain ⟨wA, ewA⟩ : ∃ wA, w9.drewN qa = wA := ⟨_, rfl⟩
      rw [ewA] at HA1 HA2 HBa ⊢
      have hzA : wA.heap.size = w9.heap.size := by rw [← ewA]; rfl
      clear ewA SM
      have hTk1 := Lib.hid (ITaken_any HA1.out)
      have hTk2 := Lib.hid (ITaken_any HA2.out)
      have hDn1 := Lib.hid (IDone_any HA1.out)
      have hDn2 := Lib.hid (IDone_any HA2.out)
      have hFl1 := Lib.hid (IFields_any HA1.out HXw.out)
      go_wp2_with fail
      refine hTk1.out.mono ?_; rintro e wB ⟨rfl, rfl⟩; dsimp only
      go_wp2_with fail
      refine hTk2.out.mono ?_; rintro e wB ⟨rfl, rfl⟩; dsimp only
      go_wp2_with fail
      refine hDn1.out.mono ?_; rintro e wB ⟨rfl, rfl⟩; dsimp only
      go_wp2_with fail
      refine hDn2.out.mono ?_; rintro e wB ⟨rfl, rfl⟩; dsimp only
      go_wp2_with fail
      refine hFl1.out.mono ?_; rintro e wC ⟨f1, rfl, hf1, hbC⟩; dsimp only
      have HC1 := Lib.hid (HA1.out.below hbC)
      have HC2 := Lib.hid (HA2.out.below hbC)
      have HBc := Lib.hid (HBa.out.trans (hbC.mono HBa.out.size))
      have Hf1 := Lib.hid hf1
      clear hf1 hbC hTk1 hTk2 hDn1 hDn2 hFl1
      have hFl2 := Lib.hid (IFields_any HC2.out HXw.out)
      go_wp2_with fail
      refine hFl2.out.mono ?_; rintro e wD ⟨f2, rfl, hf2, hbD⟩; dsimp only
      have HD1 := Lib.hid (HC1.out.below hbD)
      have HD2 := Lib.hid (HC2.out.below hbD)
      have HBd := Lib.hid (HBc.out.trans (hbD.mono HBc.out.size))
      have Hf1' := Lib.hid (own_touchL Hf1.out (Touch.of_new (X := fun _ => False) hbD) (fun _ _ h => h))
      have hFE := Lib.hid (FieldsEq_any f1 f2 _ _ (X).flds wD Hf1'.out hf2 (flds_len HXw.out))
      clear hf2 hbD hFl2 Hf1
      go_wp2_with fail
      refine hFE.out.mono ?_; rintro e wE ⟨rfl, qe, rfl⟩; dsimp only
      have HE1 := Lib.hid (HD1.out.drewN qe)
      have HE2 := Lib.hid (HD2.out.drewN qe)
      have HBe := Lib.hid (show Below w.heap.size w (wD.drewN qe) from ⟨HBd.out.os, HBd.out.tape, HBd.out.output, HBd.out.size, HBd.out.block⟩)
      have hCl1 := Lib.hid (IClose_any HE1.out)
      go_wp2_with fail
      refine hCl1.out.mono ?_; rintro e wF ⟨rfl, hIf, hTf⟩; dsimp only
      have HF2 := HE2.out.touch hTf (fun j hj h => hsep j h (.inl hj)) (fun h => hsep _ h (.inr rfl))
      have HBf := Lib.hid (HBe.out.trans (hTf.below HBe.out.size (fun j hj => hlow j (.inl hj))))
      have hCl2 := Lib.hid (IClose_any HF2)
      clear hIf hTf HF2
      go_wp2_with fail
      refine hCl2.out.mono ?_; rintro e wG ⟨rfl, hIg, hTg⟩; dsimp only
      have HBg := Lib.hid (HBf.out.trans (hTg.below HBf.out.size (fun j hj => hlow j (.inr hj))))
      clear hIg hTg
      go_wp2_with fail
      go_ret
      exact ⟨ret_bool (by simp), HBg.out⟩
  · rw [if_neg hC] at hcut2
    cases hcut2
    have HX9 := HVx7
    have HY9 := HVy7
    have HIx := HI7a
    have HIy := HI7
    have HB9 := HB7
    have hsep : ∀ j, (G1' j ∨ j = I1) → ¬ (G2' j ∨ j = I2) := fun j h1 h2 => by
      rcases h1 with h1 | h1 <;> rcases h2 with h2 | h2
      · have := hG1p j h1; have := hG2p j h2; omega
      · have := hG1p j h1; omega
      · have := hG2p j h2; omega
      · omega
    have hlow : ∀ j, (G1' j ∨ j = I1) ∨ (G2' j ∨ j = I2) → w.heap.size ≤ j := fun j h => by
      rcases h with (h | h) | (h | h)
      · have := hG1p j h; omega
      · omega
      · have := hG2p j h; omega
      · omega
    clear HVx7 HVy7 HI7 HI7a HB7 hR7 hT7'
    by_cases hq : nn = kk
    · have q1 : ((nn : Int) == (kk : Int)) = true := beq_iff_eq.2 (by omega)
      have q2 : (pe == 0) = false := beq_eq_false_iff_ne.2 (fun h => hC ⟨hq, h⟩)
      clear hq hC
      go_wp2_with fail
      have HXw := Lib.hid hwX
      have SM := Lib.hid (SameB_any _ _ _ _ L w7 HX9.out HY9.out (by omega))
      go_wp2_with fail
      refine SM.out.mono ?_; rintro e wA ⟨rfl, qa, rfl⟩; dsimp only
      have HA1 := Lib.hid (HIx.out.drewN qa)
      have HA2 := Lib.hid (HIy.out.drewN qa)
      have HBa := Lib.hid (show Below w.heap.size w (w7.drewN qa) from ⟨HB9.out.os, HB9.out.tape, HB9.out.output, HB9.out.size, HB9.out.block⟩)
      obtain ⟨wA, ewA⟩ : ∃ wA, w7.drewN qa = wA := ⟨_, rfl⟩
      rw [ewA] at HA1 HA2 HBa ⊢
      have hzA : wA.heap.size = w7.heap.size := by rw [← ewA]; rfl
      clear ewA SM
      have hTk1 := Lib.hid (ITaken_any HA1.out)
      have hTk2 := Lib.hid (ITaken_any HA2.out)
      have hDn1 := Lib.hid (IDone_any HA1.out)
      have hDn2 := Lib.hid (IDone_any HA2.out)
      have hFl1 := Lib.hid (IFields_any HA1.out HXw.out)
      go_wp2_with fail
      refine hTk1.out.mono ?_; rintro e wB ⟨rfl, rfl⟩; dsimp only
      go_wp2_with fail
      refine hTk2.out.mono ?_; rintro e wB ⟨rfl, rfl⟩; dsimp only
      go_wp2_with fail
      refine hDn1.out.mono ?_; rintro e wB ⟨rfl, rfl⟩; dsimp only
      go_wp2_with fail
      refine hDn2.out.mono ?_; rintro e wB ⟨rfl, rfl⟩; dsimp only
      go_wp2_with fail
      refine hFl1.out.mono ?_; rintro e wC ⟨f1, rfl, hf1, hbC⟩; dsimp only
      have HC1 := Lib.hid (HA1.out.below hbC)
      have HC2 := Lib.hid (HA2.out.below hbC)
      have HBc := Lib.hid (HBa.out.trans (hbC.mono HBa.out.size))
      have Hf1 := Lib.hid hf1
      clear hf1 hbC hTk1 hTk2 hDn1 hDn2 hFl1
      have hFl2 := Lib.hid (IFields_any HC2.out HXw.out)
      go_wp2_with fail
      refine hFl2.out.mono ?_; rintro e wD ⟨f2, rfl, hf2, hbD⟩; dsimp only
      have HD1 := Lib.hid (HC1.out.below hbD)
      have HD2 := Lib.hid (HC2.out.below hbD)
      have HBd := Lib.hid (HBc.out.trans (hbD.mono HBc.out.size))
      have Hf1' := Lib.hid (own_touchL Hf1.out (Touch.of_new (X := fun _ => False) hbD) (fun _ _ h => h))
      have hFE := Lib.hid (FieldsEq_any f1 f2 _ _ (X).flds wD Hf1'.out hf2 (flds_len HXw.out))
      clear hf2 hbD hFl2 Hf1
      go_wp2_with fail
      refine hFE.out.mono ?_; rintro e wE ⟨rfl, qe, rfl⟩; dsimp only
      have HE1 := Lib.hid (HD1.out.drewN qe)
      have HE2 := Lib.hid (HD2.out.drewN qe)
      have HBe := Lib.hid (show Below w.heap.size w (wD.drewN qe) from ⟨HBd.out.os, HBd.out.tape, HBd.out.output, HBd.out.size, HBd.out.block⟩)
      have hCl1 := Lib.hid (IClose_any HE1.out)
      go_wp2_with fail
      refine hCl1.out.mono ?_; rintro e wF ⟨rfl, hIf, hTf⟩; dsimp only
      have HF2 := HE2.out.touch hTf (fun j hj h => hsep j h (.inl hj)) (fun h => hsep _ h (.inr rfl))
      have HBf := Lib.hid (HBe.out.trans (hTf.below HBe.out.size (fun j hj => hlow j (.inl hj))))
      have hCl2 := Lib.hid (IClose_any HF2)
      clear hIf hTf HF2
      go_wp2_with fail
      refine hCl2.out.mono ?_; rintro e wG ⟨rfl, hIg, hTg⟩; dsimp only
      have HBg := Lib.hid (HBf.out.trans (hTg.below HBf.out.size (fun j hj => hlow j (.inr hj))))
      clear hIg hTg
      go_wp2_with fail
      go_ret
      exact ⟨ret_bool (by simp), HBg.out⟩
    · have q1 : ((nn : Int) == (kk : Int)) = false := beq_eq_false_iff_ne.2 (by omega)
      clear hq hC
      go_wp2_with fail
      have HXw := Lib.hid hwX
      have SM := Lib.hid (SameB_any _ _ _ _ L w7 HX9.out HY9.out (by omega))
      go_wp2_with fail
      refine SM.out.mono ?_; rintro e wA ⟨rfl, qa, rfl⟩; dsimp only
      have HA1 := Lib.hid (HIx.out.drewN qa)
      have HA2 := Lib.hid (HIy.out.drewN qa)
      have HBa := Lib.hid (show Below w.heap.size w (w7.drewN qa) from ⟨HB9.out.os, HB9.out.tape, HB9.out.output, HB9.out.size, HB9.out.block⟩)
      obtain ⟨wA, ewA⟩ : ∃ wA, w7.drewN qa = wA := ⟨_, rfl⟩
      rw [ewA] at HA1 HA2 HBa ⊢
      have hzA : wA.heap.size = w7.heap.size := by rw [← ewA]; rfl
      clear ewA SM
      have hTk1 := Lib.hid (ITaken_any HA1.out)
      have hTk2 := Lib.hid (ITaken_any HA2.out)
      have hDn1 := Lib.hid (IDone_any HA1.out)
      have hDn2 := Lib.hid (IDone_any HA2.out)
      have hFl1 := Lib.hid (IFields_any HA1.out HXw.out)
      go_wp2_with fail
      refine hTk1.out.mono ?_; rintro e wB ⟨rfl, rfl⟩; dsimp only
      go_wp2_with fail
      refine hTk2.out.mono ?_; rintro e wB ⟨rfl, rfl⟩; dsimp only
      go_wp2_with fail
      refine hDn1.out.mono ?_; rintro e wB ⟨rfl, rfl⟩; dsimp only
      go_wp2_with fail
      refine hDn2.out.mono ?_; rintro e wB ⟨rfl, rfl⟩; dsimp only
      go_wp2_with fail
      refine hFl1.out.mono ?_; rintro e wC ⟨f1, rfl, hf1, hbC⟩; dsimp only
      have HC1 := Lib.hid (HA1.out.below hbC)
      have HC2 := Lib.hid (HA2.out.below hbC)
      have HBc := Lib.hid (HBa.out.trans (hbC.mono HBa.out.size))
      have Hf1 := Lib.hid hf1
      clear hf1 hbC hTk1 hTk2 hDn1 hDn2 hFl1
      have hFl2 := Lib.hid (IFields_any HC2.out HXw.out)
      go_wp2_with fail
      refine hFl2.out.mono ?_; rintro e wD ⟨f2, rfl, hf2, hbD⟩; dsimp only
      have HD1 := Lib.hid (HC1.out.below hbD)
      have HD2 := Lib.hid (HC2.out.below hbD)
      have HBd := Lib.hid (HBc.out.trans (hbD.mono HBc.out.size))
      have Hf1' := Lib.hid (own_touchL Hf1.out (Touch.of_new (X := fun _ => False) hbD) (fun _ _ h => h))
      have hFE := Lib.hid (FieldsEq_any f1 f2 _ _ (X).flds wD Hf1'.out hf2 (flds_len HXw.out))
      clear hf2 hbD hFl2 Hf1
      go_wp2_with fail
      refine hFE.out.mono ?_; rintro e wE ⟨rfl, qe, rfl⟩; dsimp only
      have HE1 := Lib.hid (HD1.out.drewN qe)
      have HE2 := Lib.hid (HD2.out.drewN qe)
      have HBe := Lib.hid (show Below w.heap.size w (wD.drewN qe) from ⟨HBd.out.os, HBd.out.tape, HBd.out.output, HBd.out.size, HBd.out.block⟩)
      have hCl1 := Lib.hid (IClose_any HE1.out)
      go_wp2_with fail
      refine hCl1.out.mono ?_; rintro e wF ⟨rfl, hIf, hTf⟩; dsimp only
      have HF2 := HE2.out.touch hTf (fun j hj h => hsep j h (.inl hj)) (fun h => hsep _ h (.inr rfl))
      have HBf := Lib.hid (HBe.out.trans (hTf.below HBe.out.size (fun j hj => hlow j (.inl hj))))
      have hCl2 := Lib.hid (IClose_any HF2)
      clear hIf hTf HF2
      go_wp2_with fail
      refine hCl2.out.mono ?_; rintro e wG ⟨rfl, hIg, hTg⟩; dsimp only
      have HBg := Lib.hid (HBf.out.trans (hTg.below HBf.out.size (fun j hj => hlow j (.inr hj))))
      clear hIg hTg
      go_wp2_with fail
      go_ret
      exact ⟨ret_bool (by simp), HBg.out⟩
end

end Go.Proofs.Ytfeljjlpdefnmaa
