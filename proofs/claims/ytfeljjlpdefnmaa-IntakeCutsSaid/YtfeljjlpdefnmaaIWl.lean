/-
  The law IntakeWants, walked.
-/
import Derived.Test.YtfeljjlpdefnmaaIWa
namespace Go.Proofs.Ytfeljjlpdefnmaa
open Go.RowKit
set_option linter.unusedVariables false
set_option linter.unusedSimpArgs false
attribute [local go_sem] Oper.semAt_some

section
variable {e0 e1 e2 e3 e4 e5 : Int} {n0 : Nat}
set_option maxHeartbeats 2000000 in
set_option maxRecDepth 100000 in
theorem IntakeWants_any (k s a b c : Int) (hs0 : 0 ≤ s) (A : Option Addr) (cap : Nat) (bs : List UInt8) {w : World} (hc : bs.length ≤ cap) (hcm : cap ≤ maxLen) (hr : RdB w w.heap.size A bs) (hT : TabR w n0 e0 e1 e2 e3 e4 e5) :
    Calls Try.prog 3 #[.agg #[.int .i64 k, .int .u64 s], .agg #[.int .i64 a, .int .i64 b, .int .i64 c], .slice A bs.length cap] w fun e w' => e = .returned (.bool true) ∧ Below w.heap.size w w' := by
  obtain ⟨W0, e0', hz0, b0, b1, t0⟩ : ∃ W, (w.alloc (.cells #[.int .i64 k, .int .u64 s] 24)).alloc (.cells #[.int .i64 a, .int .i64 b, .int .i64 c] 26) = W ∧ W.heap.size = w.heap.size + 2 ∧
      W.heap[w.heap.size]? = some (.cells #[.int .i64 k, .int .u64 s] 24) ∧ W.heap[w.heap.size + 1]? = some (.cells #[.int .i64 a, .int .i64 b, .int .i64 c] 26) ∧ Below w.heap.size w W :=
    ⟨_, rfl, by simp, by rw [Below.heap_alloc _ _ _ (by simp), World.alloc_heap_new], heap_alloc2_newL _ _ _, ((Below.refl _ w).alloc (Nat.le_refl _) _).alloc (by simp) _⟩
  have hWk := Lib.hid (wakesI_any (hT.below (t0.mono hT.ends.le)))
  have hRF := fun W => Lib.hid (RRightF_any k s W)
  have hRL := fun W => Lib.hid (RRightL_any a b c W)
  have HT := Lib.hid hT
  have HR := Lib.hid hr
  obtain ⟨m, hm⟩ : ∃ m, bs.length = m := ⟨_, rfl⟩
  have Hm := Lib.hid hm
  rw [hm] at hc ⊢
  clear hT hr hm
  have cells := fun (W : World) (hb : Below W0.heap.size W0 W) => Lib.hid (show (W.cell? ⟨w.heap.size, 0, none⟩ = some (.int .i64 k) ∧ W.cell? ⟨w.heap.size, 1, none⟩ = some (.int .u64 s)) ∧ W.cell? ⟨w.heap.size + 1, 0, none⟩ = some (.int .i64 a) ∧ W.cell? ⟨w.heap.size + 1, 1, none⟩ = some (.int .i64 b) ∧ W.cell? ⟨w.heap.size + 1, 2, none⟩ = some (.int .i64 c) from by
    have d0 := (hb.block w.heap.size (by omega)).trans b0
    have d1 := (hb.block (w.heap.size + 1) (by omega)).trans b1
    refine ⟨⟨?_, ?_⟩, ?_, ?_, ?_⟩ <;> simp [World.cell?, d0, d1])
  have HB0 := Lib.hid t0
  clear t0 b0 b1
  by_cases hlen : 400 < m
  · have l1 : (400 : Int) < (m : Int) := by omega
    go_enter Try.func3, Try.ntmps3
    go_wp2_with fail
    refine hWk.out.mono ?_; rintro e w1 ⟨rfl, hb1⟩; dsimp only
    have HB1 := Lib.hid (HB0.out.trans (hb1.mono (by omega)))
    clear hb1
    go_wp2_with fail
    go_ret
    exact ⟨rfl, HB1.out⟩
  have l1 : (m : Int) ≤ 400 := by omega
  by_cases hF : rightF k s = false
  · rw [hF] at hRF
    go_enter Try.func3, Try.ntmps3
    go_wp2_with fail
    refine hWk.out.mono ?_; rintro e w1 ⟨rfl, hb1⟩; dsimp only
    obtain ⟨⟨x0, x1⟩, x2, x3, x4⟩ := (cells w1 hb1).out
    have HB1 := Lib.hid (HB0.out.trans (hb1.mono (by omega)))
    clear hb1
    go_wp2_with fail
    refine (hRF _).out.mono ?_; rintro e w2 ⟨rfl, hb2⟩; dsimp only
    have HB2 := Lib.hid (HB1.out.trans (hb2.mono HB1.out.size))
    clear hb2
    go_wp2_with fail
    go_ret
    exact ⟨rfl, HB2.out⟩
  have hF : rightF k s = true := by simpa using hF
  by_cases hL : rightL a b c = false
  · rw [hF] at hRF
    rw [hL] at hRL
    go_enter Try.func3, Try.ntmps3
    go_wp2_with fail
    refine hWk.out.mono ?_; rintro e w1 ⟨rfl, hb1⟩; dsimp only
    obtain ⟨⟨x0, x1⟩, x2, x3, x4⟩ := (cells w1 hb1).out
    have HB1 := Lib.hid (HB0.out.trans (hb1.mono (by omega)))
    have hb1' := Lib.hid hb1
    clear hb1
    go_wp2_with fail
    refine (hRF _).out.mono ?_; rintro e w2 ⟨rfl, hb2⟩; dsimp only
    clear x0 x1 x2 x3 x4
    obtain ⟨⟨x0, x1⟩, x2, x3, x4⟩ := (cells w2 (hb1'.out.trans (hb2.mono hb1'.out.size))).out
    have HB2 := Lib.hid (HB1.out.trans (hb2.mono HB1.out.size))
    clear hb2
    go_wp2_with fail
    refine (hRL _).out.mono ?_; rintro e w3 ⟨rfl, hb3⟩; dsimp only
    have HB3 := Lib.hid (HB2.out.trans (hb3.mono HB2.out.size))
    clear hb3
    go_wp2_with fail
    go_ret
    exact ⟨rfl, HB3.out⟩
  have hL : rightL a b c = true := by simpa using hL
  have hNew := fun W => Lib.hid (INew_any k s a b c hF hL W)
  unfold INewP at hNew
  have hwf := newI_wf hF hL hs0
  rw [hF] at hRF
  rw [hL] at hRL
  obtain ⟨i, hi⟩ : ∃ i, newI k s a b c = i := ⟨_, rfl⟩
  rw [hi] at hwf
  simp only [hi] at hNew
  clear hF hL hi
  go_enter Try.func3, Try.ntmps3
  go_wp2_with fail
  refine hWk.out.mono ?_; rintro e w1 ⟨rfl, hb1⟩; dsimp only
  obtain ⟨⟨x0, x1⟩, x2, x3, x4⟩ := (cells w1 hb1).out
  have HB1 := Lib.hid (HB0.out.trans (hb1.mono (by omega)))
  have hb1' := Lib.hid hb1
  clear hb1
  go_wp2_with fail
  refine (hRF _).out.mono ?_; rintro e w2 ⟨rfl, hb2⟩; dsimp only
  clear x0 x1 x2 x3 x4
  have hb2' := Lib.hid (hb1'.out.trans (hb2.mono hb1'.out.size))
  obtain ⟨⟨x0, x1⟩, x2, x3, x4⟩ := (cells w2 hb2'.out).out
  have HB2 := Lib.hid (HB1.out.trans (hb2.mono HB1.out.size))
  clear hb2 HB1 hb1'
  go_wp2_with fail
  refine (hRL _).out.mono ?_; rintro e w3 ⟨rfl, hb3⟩; dsimp only
  clear x0 x1 x2 x3 x4
  have hb3' := Lib.hid (hb2'.out.trans (hb3.mono hb2'.out.size))
  obtain ⟨⟨x0, x1⟩, x2, x3, x4⟩ := (cells w3 hb3'.out).out
  have HB3 := Lib.hid (HB2.out.trans (hb3.mono HB2.out.size))
  clear hb3 HB2 hb2'
  go_wp2_with fail
  refine (hNew _).out.mono ?_; rintro e w4 ⟨I, S, G, rfl, hI, hG, hIw, hb4⟩; dsimp only
  have HB4 := Lib.hid (HB3.out.trans (hb4.mono HB3.out.size))
  have hz3 := HB3.out.size
  have hz4 := HB4.out.size
  clear hb4 HB3 hb3' cells x0 x1 x2 x3 x4 hRF hRL hNew hWk
  have HW := Lib.hid (IWants_any hI)
  have hT4 := HT.out.below (HB4.out.mono HT.out.ends.le)
  have hP := Lib.hid (IPut_any hI hwf (by omega) A cap bs (by rw [Hm.out]; omega) (by rw [Hm.out]; exact hc) hcm ((HR.out.touch (Touch.of_below (HB4.out)) (Nat.le_refl _) (fun _ b off e hb h => by omega)).up hz4)
    (fun hne b off e hg => by
      have h1 := hG b hg
      obtain ⟨b', off', e', hb', -⟩ := HR.out hne
      rw [e] at e'
      cases e'
      omega) (fun j hj => Nat.le_trans (Nat.le_trans HT.out.ends.le hz3) (hG j hj)) hT4)
  unfold IPutP at hP
  have hpw := put_wants (e0 := e0) (e1 := e1) (e2 := e2) (e3 := e3) (e4 := e4) (e5 := e5) hwf bs (by rw [Hm.out]; omega)
  have hwf2 := Itk.put_wf (e0 := e0) (e1 := e1) (e2 := e2) (e3 := e3) (e4 := e4) (e5 := e5) hwf bs (M := 400) (by rw [Hm.out]; omega)
  obtain ⟨pr, hpr⟩ : ∃ pr, i.put e0 e1 e2 e3 e4 e5 bs = pr := ⟨_, rfl⟩
  rw [hpr] at hP hpw hwf2
  rw [Hm.out] at hP hpw
  obtain ⟨pi, pd, pn, pe⟩ := pr
  dsimp only at hP hpw hwf2
  obtain ⟨p1, p2, p3⟩ := hpw
  obtain ⟨wv, hwv⟩ : ∃ wv, i.wants = wv := ⟨_, rfl⟩
  rw [hwv] at HW p1
  have hwi := wants_iff hwf2
  obtain ⟨dl, hdl⟩ : ∃ dl, pd.length = dl := ⟨_, rfl⟩
  rw [hdl] at hP p2
  have u1 : IntKind.u64.wrap (pn : Int) = (pn : Int) := IntWalk.u64_in _ (by omega)
  have p2' : (dl : Int) ≤ (pn : Int) := by omega
  clear hpr hwv hdl hT4 hwf hwf2 hI
  go_wp2_with fail
  refine HW.out.mono ?_; rintro e w5 ⟨rfl, rfl⟩; dsimp only
  go_wp2_with fail
  refine hP.out.mono ?_; rintro e w5 ⟨G', vo, rfl, hI2, hv, _, hsub, hT2⟩; dsimp only
  obtain ⟨ad, cp, rfl⟩ := own_sl hv
  have HB5 := Lib.hid (HB4.out.trans (hT2.below hz4 (fun j hj => by rcases hj with h | rfl; exact Nat.le_trans hz3 (hG j h); exact Nat.le_trans hz3 hIw)))
  have hW2 := Lib.hid (IWants_any hI2)
  have hD2 := Lib.hid (IDone_any hI2)
  have hE2 := Lib.hid (IErr_any hI2)
  obtain ⟨wv2, hwv2⟩ : ∃ wv2, pi.wants = wv2 := ⟨_, rfl⟩
  obtain ⟨dn, hdn⟩ : ∃ dn, pi.done = dn := ⟨_, rfl⟩
  obtain ⟨ev, hev⟩ : ∃ ev, pi.e = ev := ⟨_, rfl⟩
  rw [hwv2] at hW2 hwi
  rw [hdn] at hD2 hwi
  rw [hev] at hE2 hwi
  have Hwi := Lib.hid hwi
  clear hI2 hv hsub hT2 hwv2 hdn hev hwi hP HW hG
  cases dn with
  | true =>
    go_wp2_with fail
    refine hW2.out.mono ?_; rintro e w6 ⟨rfl, rfl⟩; dsimp only
    go_wp2_with fail
    refine hD2.out.mono ?_; rintro e w6 ⟨rfl, rfl⟩; dsimp only
    go_wp2_with fail
    go_ret
    exact ⟨ret_bool (by have h := Hwi.out; simp at h; simp; omega), HB5.out⟩
  | false =>
    go_wp2_with fail
    refine hW2.out.mono ?_; rintro e w6 ⟨rfl, rfl⟩; dsimp only
    go_wp2_with fail
    refine hD2.out.mono ?_; rintro e w6 ⟨rfl, rfl⟩; dsimp only
    go_wp2_with fail
    refine hE2.out.mono ?_; rintro e w6 ⟨rfl, rfl⟩; dsimp only
    go_wp2_with fail
    go_ret
    exact ⟨ret_bool (by have h := Hwi.out; simp at h; simp [h]), HB5.out⟩
end

end Go.Proofs.Ytfeljjlpdefnmaa
