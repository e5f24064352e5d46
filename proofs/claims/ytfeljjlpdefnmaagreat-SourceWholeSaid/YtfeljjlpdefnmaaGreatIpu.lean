/-
  Layer 12 (intake): Put of an intake.
-/
import Derived.Test.YtfeljjlpdefnmaaGreatIno
namespace Go.Proofs.YtfeljjlpdefnmaaGreat
open Go.RowKit
set_option linter.unusedVariables false
set_option linter.unusedSimpArgs false
attribute [local go_sem] Oper.semAt_some

/-- What an intake's Put comes to. -/
def IPutP (e0 e1 e2 e3 e4 e5 : Int) (W : World) (G : Nat → Prop) (S I : Nat) (i : Itk) (bs : List UInt8) (e : Ending) (w' : World) : Prop :=
  ∃ (G' : Nat → Prop) (vo : Value), e = .returned (.tuple #[vo, .int .i64 (i.put e0 e1 e2 e3 e4 e5 bs).2.2.1, .int .i64 (i.put e0 e1 e2 e3 e4 e5 bs).2.2.2]) ∧ ItkAt w' G' S I (i.put e0 e1 e2 e3 e4 e5 bs).1 ∧
    w'.ownsRow W.heap.size 5 1 vo (i.put e0 e1 e2 e3 e4 e5 bs).2.1.length ((i.put e0 e1 e2 e3 e4 e5 bs).2.1.map encU) ∧ (∀ g, vo.ownBlock = some g → ¬ G' g) ∧ (∀ j, G' j → G j ∨ W.heap.size ≤ j) ∧ Touch (fun j => G j ∨ j = I) W w'
section
variable {W W1 : World} {G : Nat → Prop} {S I : Nat} {i : Itk} {e0 e1 e2 e3 e4 e5 : Int} {n0 : Nat}
set_option maxHeartbeats 1000000 in
set_option maxRecDepth 100000 in
theorem IPut_any {N : Int} (h : ItkAt W G S I i) (hw : i.wf N) (hN : N ≤ 1000000000000) (A : Option Addr) (cap : Nat) (bs : List UInt8) (hl : bs.length ≤ 1000000) (hc : bs.length ≤ cap) (hcm : cap ≤ maxLen) (hr : RdB W W.heap.size A bs) (hA : bs ≠ [] → ∀ b off, A = some ⟨b, off, none⟩ → ¬ G b)
    (hFn : ∀ k, G k → n0 ≤ k) (hT : TabR W n0 e0 e1 e2 e3 e4 e5) :
    Calls Tryz.prog 29 #[.pointer (some ⟨I, 0, none⟩), .slice A bs.length cap] W (IPutP e0 e1 e2 e3 e4 e5 W G S I i bs) := by
  have c0 := h.c0
  have c3 := h.c3
  have hD := Lib.hid (IDone_any h)
  have H := Lib.hid h
  have hm := take_put i.t S
  have hcf := call_put i.t
  have hP := Lib.hid (TPut_any h.tak hw.1 hN A cap bs hl hc hcm hr hA hFn hT)
  have hpl := i.t.put_len (e0 := e0) (e1 := e1) (e2 := e2) (e3 := e3) (e4 := e4) (e5 := e5) bs
  obtain ⟨-, w1, w2, w3, w4⟩ := hw
  by_cases hs : i.e ≠ 0 ∨ i.done = true
  · have HE := Lib.hid (show i.put e0 e1 e2 e3 e4 e5 bs = (i, [], 0, i.e) from if_pos hs)
    have fin : ∀ q, IPutP e0 e1 e2 e3 e4 e5 W G S I i bs (.returned (.tuple #[.slice none 0 0, .int .i64 0, .int .i64 i.e])) (W.drewN q) := by
      intro q
      unfold IPutP
      rw [HE.out]
      exact ⟨G, .slice none 0 0, rfl, H.out.drewN q, World.ownsRow_nil _ _ _ _, fun g hg => (by cases hg), fun j hj => .inl hj, (Touch.refl _ W).drewN q⟩
    have Fin := Lib.hid fin
    have c3k : ∀ q, (W.drewN q).cell? ⟨I, 3, none⟩ = some (.int .i64 i.e) := fun _ => c3
    clear h hr hm hcf hP hpl fin
    by_cases he : i.e = 0
    · have t1 : (i.e != 0) = false := by rw [he]; rfl
      have hd : i.done = true := hs.resolve_left (fun h => h he)
      rw [hd] at hD
      clear hs hd he
      go_enter Tryz.func29, Tryz.ntmps29
      go_wp2_with fail
      refine hD.out.mono ?_; rintro e w1 ⟨rfl, rfl⟩; dsimp only
      go_wp2_with fail
      go_quiet (fail)
      go_wp2_with fail
      go_ret3
      exact Fin.out nq
    · have t1 : (i.e != 0) = true := bne_iff_ne.2 he
      clear hs he
      go_enter Tryz.func29, Tryz.ntmps29
      go_wp2_with fail
      go_quiet (fail)
      go_wp2_with fail
      go_ret3
      exact Fin.out nq
  · have he : i.e = 0 := by
      apply Classical.byContradiction
      intro h; exact hs (.inl h)
    have hd : i.done = false := by
      cases hdd : i.done with
      | false => rfl
      | true => exact absurd (.inr hdd) hs
    have t1 : (i.e != 0) = false := by rw [he]; rfl
    rw [hd] at hD
    obtain ⟨r, hr2⟩ : ∃ r, i.t.put e0 e1 e2 e3 e4 e5 bs = r := ⟨_, rfl⟩
    have HE := Lib.hid (show i.put e0 e1 e2 e3 e4 e5 bs = (⟨r.1, i.taken + r.2.2.1, i.given + r.2.1.length, r.2.2.2⟩, r.2.1, r.2.2.1, r.2.2.2) by unfold Itk.put; rw [if_neg hs, hr2])
    unfold TPutP at hP
    rw [hr2] at hP hpl
    obtain ⟨tt, ht⟩ : ∃ tt, i.t.ty = tt := ⟨_, rfl⟩
    obtain ⟨pf, hpf⟩ : ∃ pf, i.t.putF = pf := ⟨_, rfl⟩
    have htt : r.1.ty = tt := by rw [← hr2, ← ht]; cases i.t <;> rfl
    rw [ht] at hm c0
    rw [hpf] at hm hcf hP
    obtain ⟨rt, rd, rn, re⟩ := r
    dsimp only at HE hP hpl htt
    obtain ⟨dl, hdl⟩ : ∃ dl, rd.length = dl := ⟨_, rfl⟩
    rw [hdl] at hP HE hpl
    have Hdl := Lib.hid hdl
    have b1 : IntKind.i64.wrap (i.taken + (rn : Int)) = i.taken + rn := IntWalk.i64_in _ (by omega)
    have b2 : IntKind.i64.wrap (i.given + (dl : Int)) = i.given + dl := IntWalk.i64_in _ (by omega)
    have Ht := Lib.hid ht
    have Htt := Lib.hid htt
    have Hbox := Lib.hid h.box
    have hap := h.apart
    have hIl := h.lt
    have Hap := Lib.hid hap
    clear h hr hs he hd hr2 hpf hdl ht htt hap
    go_enter Tryz.func29, Tryz.ntmps29
    go_wp2_with fail
    refine hD.out.mono ?_; rintro e w1 ⟨rfl, rfl⟩; dsimp only
    go_wp2_with fail
    refine hP.out.mono ?_; rintro e w1 ⟨G', vo, rfl, hT1, hown, hapo, hsub, htch⟩; dsimp only
    obtain ⟨B, capB, rfl⟩ := own_sl hown
    have hI1 : ItkAt w1 G' S I ⟨rt, i.taken, i.given, i.e⟩ := ⟨by
      have h1 := (htch.block I hIl Hap.out).trans Hbox.out
      rw [Ht.out, ← Htt.out] at h1; exact h1, hT1, fun hG => (hsub I hG).elim Hap.out (fun h => by omega)⟩
    have s3 := hI1.set3 re
    have s1 := s3.set1 (i.taken + rn)
    have s2 := s1.set2 (i.given + dl)
    have u0 := hI1.c3
    have u1 := hI1.f 3
    have u2 := s3.c1
    have u3 := s3.f 1
    have u4 := s1.c2
    have u5 := s1.f 2
    dsimp only at u0 u2 u4
    have HI2 := Lib.hid s2
    have T4 := Lib.hid ((((htch.mono (Y := fun j => G j ∨ j = I) (fun _ _ e => .inl e)).setCell (p := ⟨I, 3, none⟩) (.inl (.inr rfl)) (.int .i64 re)).setCell (p := ⟨I, 1, none⟩) (.inl (.inr rfl)) (.int .i64 (i.taken + rn))).setCell (p := ⟨I, 2, none⟩) (.inl (.inr rfl)) (.int .i64 (i.given + dl)))
    have T5 := Lib.hid ((((Touch.refl (fun j => j = I) w1).setCell (p := ⟨I, 3, none⟩) (.inl rfl) (.int .i64 re)).setCell (p := ⟨I, 1, none⟩) (.inl rfl) (.int .i64 (i.taken + rn))).setCell (p := ⟨I, 2, none⟩) (.inl rfl) (.int .i64 (i.given + dl)))
    have HO := Lib.hid hown
    have HAp := Lib.hid hapo
    have HSub := Lib.hid hsub
    have u6 : ∀ q, ((((w1.setCell ⟨I, 3, none⟩ (.int .i64 re)).setCell ⟨I, 1, none⟩ (.int .i64 (i.taken + rn))).setCell ⟨I, 2, none⟩ (.int .i64 (i.given + dl))).drewN q).cell? ⟨I, 3, none⟩ = some (.int .i64 re) := fun _ => s2.c3
    clear s1 s2 s3 hI1 hown hapo hsub htch hT1
    go_wp2_with fail
    go_quiet (fail)
    go_wp2_with fail
    go_ret3
    unfold IPutP
    rw [HE.out]
    dsimp only
    rw [Hdl.out]
    exact ⟨G', .slice B dl capB, rfl, HI2.out.drewN nq, own_touchL HO.out (T5.out.drewN nq) (fun j hj e => own_ge HO.out (k := I) hIl (by rw [hj, e])), HAp.out, HSub.out, T4.out.drewN nq⟩
theorem Itk.put_wf {N M : Int} (h : i.wf N) (bs : List UInt8) (hM : N + bs.length ≤ M) : (i.put e0 e1 e2 e3 e4 e5 bs).1.wf M := by
  obtain ⟨h0, h1, h2, h3, h4⟩ := h
  have hl := i.t.put_len (e0 := e0) (e1 := e1) (e2 := e2) (e3 := e3) (e4 := e4) (e5 := e5) bs
  unfold Itk.put
  split
  · refine ⟨?_, h1, by dsimp only; omega, h3, by dsimp only; omega⟩
    cases ht : i.t with
    | sized l => rw [ht] at h0; exact h0
    | all c => trivial
    | chunk d => rw [ht] at h0; exact ⟨h0.1, h0.2.1, by have := h0.2.2.1; omega, h0.2.2.2.1, by have := h0.2.2.2.2; omega⟩
  · exact ⟨Tak.put_wf h0 bs hM, by dsimp only; omega, by dsimp only; omega, by dsimp only; omega, by dsimp only; omega⟩
end

end Go.Proofs.YtfeljjlpdefnmaaGreat
