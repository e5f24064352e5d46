/-
  Layer 12 (intake): what a taker takes.
-/
import Derived.Test.YtfeljjlpdefnmaaGreatTak
namespace Go.Proofs.YtfeljjlpdefnmaaGreat
open Go.RowKit
set_option linter.unusedVariables false
set_option linter.unusedSimpArgs false
attribute [local go_sem] Oper.semAt_some

/-- What a taker's Put comes to. -/
def TPutP (e0 e1 e2 e3 e4 e5 : Int) (W : World) (G : Nat → Prop) (S : Nat) (t : Tak) (bs : List UInt8) (e : Ending) (w' : World) : Prop :=
  ∃ (G' : Nat → Prop) (vo : Value), e = .returned (.tuple #[vo, .int .i64 (t.put e0 e1 e2 e3 e4 e5 bs).2.2.1, .int .i64 (t.put e0 e1 e2 e3 e4 e5 bs).2.2.2]) ∧ TakAt w' G' S (t.put e0 e1 e2 e3 e4 e5 bs).1 ∧
    w'.ownsRow W.heap.size 5 1 vo (t.put e0 e1 e2 e3 e4 e5 bs).2.1.length ((t.put e0 e1 e2 e3 e4 e5 bs).2.1.map encU) ∧ (∀ g, vo.ownBlock = some g → ¬ G' g) ∧ (∀ i, G' i → G i ∨ W.heap.size ≤ i) ∧ Touch G W w'
section
variable {W W1 : World} {G : Nat → Prop} {S : Nat} {t : Tak} {e0 e1 e2 e3 e4 e5 : Int} {n0 : Nat}
set_option maxRecDepth 100000 in
theorem APut_any {c : Bool} (h : TakAt W G S (.all c)) (A : Option Addr) (cap : Nat) (bs : List UInt8) (hl : bs.length ≤ 1000000) (hr : RdB W W.heap.size A bs) :
    Calls Tryz.prog 129 #[.pointer (some ⟨S, 0, none⟩), .slice A bs.length cap] W (TPutP e0 e1 e2 e3 e4 e5 W G S (.all c) bs) := by
  have hC := Lib.hid (CloneB_any W W.heap.size A cap bs (Nat.le_refl _) hl hr)
  have H := Lib.hid h
  clear h hr
  go_enter Tryz.func129, Tryz.ntmps129
  go_wp2_with fail
  refine hC.out.mono ?_; rintro e w1 ⟨v, rfl, hv, hb⟩; dsimp only
  have HV := Lib.hid hv
  have HB := Lib.hid hb
  clear hv hb
  go_wp2_with fail
  go_ret3
  exact ⟨G, v, rfl, H.out.below HB.out, HV.out, fun g hg hG => own_ge HV.out (H.out.lt g hG) hg.symm, fun i hi => .inl hi, Touch.of_new HB.out⟩
set_option maxRecDepth 100000 in
theorem SPut_any {left : Int} (h : TakAt W G S (.sized left)) (h0 : 0 ≤ left) (h1 : left ≤ 4611686018427387903) (A : Option Addr) (cap : Nat) (bs : List UInt8) (hl : bs.length ≤ 1000000) (hc : bs.length ≤ cap) (hcm : cap ≤ maxLen) (hr : RdB W W.heap.size A bs) (hA : bs ≠ [] → ∀ b off, A = some ⟨b, off, none⟩ → ¬ G b) :
    Calls Tryz.prog 131 #[.pointer (some ⟨S, 0, none⟩), .slice A bs.length cap] W (TPutP e0 e1 e2 e3 e4 e5 W G S (.sized left) bs) := by
  obtain ⟨hS, hG, hlt⟩ := h
  obtain ⟨nn, rfl⟩ := Int.eq_ofNat_of_zero_le h0
  obtain ⟨m, hm⟩ : ∃ m, bs.length = m := ⟨_, rfl⟩
  obtain ⟨k, hk⟩ : ∃ k, min nn m = k := ⟨_, rfl⟩
  have hs : W.cell? ⟨S, 0, none⟩ = some (.int .u64 (nn : Int)) := by simp [World.cell?, hS]
  have hf : W.frozen? ⟨S, 0, none⟩ = false := by simp [World.frozen?, hS]
  unfold maxLen at hcm
  have hmin : min (nn : Int) (m : Int) = (k : Int) := by omega
  have b1 : IntKind.u64.wrap (m : Int) = (m : Int) := IntWalk.u64_in _ (by omega)
  have b2 : IntKind.i64.wrap (k : Int) = (k : Int) := IntWalk.i64_in _ (by omega)
  have b3 : IntKind.u64.wrap (k : Int) = (k : Int) := IntWalk.u64_in _ (by omega)
  have b4 : IntKind.u64.wrap ((nn : Int) - (k : Int)) = (nn : Int) - k := IntWalk.u64_in _ (by omega)
  have b5 : (k : Int) ≤ (cap : Int) := by omega
  have hT : Touch (fun j => j = S) W (W.setCell ⟨S, 0, none⟩ (.int .u64 ((nn : Int) - k))) := Touch.setCell (X := fun j => j = S) (Touch.refl _ W) (p := ⟨S, 0, none⟩) (.inl rfl) _
  have hN := Lib.hid (show TakAt (W.setCell ⟨S, 0, none⟩ (.int .u64 ((nn : Int) - k))) G S (.sized ((nn : Int) - k)) from ⟨by
    have := Boxed.set (.int .u64 ((nn : Int) - k)) (show Boxed W S 87 (.int .u64 (nn : Int)) from hS)
    exact this, hG, fun i hi => Nat.lt_of_lt_of_le (hlt i hi) hT.size⟩)
  have hlk : (bs.take k).length = k := by rw [List.length_take]; omega
  have hC := Lib.hid (CloneB_any (W.setCell ⟨S, 0, none⟩ (.int .u64 ((nn : Int) - k))) W.heap.size A cap (bs.take k) hT.size (by omega) ((hr.take k).touch hT (Nat.le_refl _) (fun hne b off e _ hx => hA (by rintro rfl; simp at hne) b off e (by rw [hx]; exact hG))))
  rw [hlk] at hC
  have HT := Lib.hid hT
  have HP : Hid (Tak.put e0 e1 e2 e3 e4 e5 bs (.sized (nn : Int)) = (.sized ((nn : Int) - k), bs.take k, k, 0)) := Lib.hid (by
    simp only [Tak.put, Int.toNat_natCast, hm, hk])
  have Hlk := Lib.hid hlk
  have HG := Lib.hid hG
  have Hlt := Lib.hid hlt
  rw [hm]
  clear hT hS hG hlt hr hA hlk hk hm
  go_enter Tryz.func131, Tryz.ntmps131
  go_wp2_with fail
  refine hC.out.mono ?_; rintro e w1 ⟨v, rfl, hv, hb⟩; dsimp only
  have HV := Lib.hid hv
  have HB := Lib.hid hb
  clear hv hb
  go_wp2_with fail
  go_ret3
  unfold TPutP
  rw [HP.out]
  dsimp only
  rw [Hlk.out]
  refine ⟨G, v, rfl, hN.out.below HB.out, own_lower HV.out HT.out.size, fun g hg hG => own_ge HV.out (hN.out.lt g hG) hg.symm, fun i hi => .inl hi, (HT.out.mono (fun i _ e => by rw [e]; exact HG.out)).trans (Touch.of_new HB.out)⟩
theorem TPut_any {N : Int} (h : TakAt W G S t) (hw : t.wf N) (hN : N ≤ 1000000000000) (A : Option Addr) (cap : Nat) (bs : List UInt8) (hl : bs.length ≤ 1000000) (hc : bs.length ≤ cap) (hcm : cap ≤ maxLen) (hr : RdB W W.heap.size A bs) (hA : bs ≠ [] → ∀ b off, A = some ⟨b, off, none⟩ → ¬ G b)
    (hFn : ∀ k, G k → n0 ≤ k) (hT : TabR W n0 e0 e1 e2 e3 e4 e5) :
    Calls Tryz.prog t.putF #[.pointer (some ⟨S, 0, none⟩), .slice A bs.length cap] W (TPutP e0 e1 e2 e3 e4 e5 W G S t bs) := by
  cases t with
  | sized left => exact SPut_any h hw.1 hw.2 A cap bs hl hc hcm hr hA
  | all c => exact APut_any h A cap bs hl hr
  | chunk d =>
    obtain ⟨vl, vf, h⟩ := h
    obtain ⟨w0, w1, w2, w3, w4⟩ := hw
    refine (DPut_any h w0 A cap bs hl hc hcm hr hA w1 (by omega) w3 (by omega) hFn hT).mono ?_
    rintro e w' ⟨F', vl', vf', vo, he, h1, h2, h3, h4, h5⟩
    exact ⟨F', vo, he, ⟨vl', vf', h1⟩, h2, h3, h4, h5⟩
theorem Tak.put_len (t : Tak) (bs : List UInt8) : (t.put e0 e1 e2 e3 e4 e5 bs).2.2.1 ≤ bs.length ∧ (t.put e0 e1 e2 e3 e4 e5 bs).2.1.length ≤ (t.put e0 e1 e2 e3 e4 e5 bs).2.2.1 := by
  cases t with
  | sized l =>
    simp only [Tak.put, List.length_take]
    omega
  | all c => exact ⟨Nat.le_refl _, Nat.le_refl _⟩
  | chunk d => exact runD_len bs d
theorem Tak.put_wf {N M : Int} (h : t.wf N) (bs : List UInt8) (hM : N + bs.length ≤ M) : (t.put e0 e1 e2 e3 e4 e5 bs).1.wf M := by
  cases t with
  | sized l =>
    obtain ⟨h0, h1⟩ := h
    simp only [Tak.put, Tak.wf]
    omega
  | all c => trivial
  | chunk d =>
    obtain ⟨w0, w1, w2, w3, w4⟩ := h
    obtain ⟨r0, r1⟩ := runD_wf (e0 := e0) (e1 := e1) (e2 := e2) (e3 := e3) (e4 := e4) (e5 := e5) bs d w0
    obtain ⟨l0, l1⟩ := runD_len (e0 := e0) (e1 := e1) (e2 := e2) (e3 := e3) (e4 := e4) (e5 := e5) bs d
    refine ⟨⟨r0.p0, r0.p1, r0.n0, r0.n1, r0.n3, r0.c0, r0.c1, r0.c16, r0.l0, r0.s0, r0.s1, r0.p9, r0.x1, r0.f1, r0.b1⟩, ?_, ?_, ?_, ?_⟩
    all_goals (dsimp only; omega)
end

end Go.Proofs.YtfeljjlpdefnmaaGreat
