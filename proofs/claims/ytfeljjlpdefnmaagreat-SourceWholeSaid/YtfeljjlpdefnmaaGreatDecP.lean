/-
  Layer 9 (dechunk): a size's byte.
-/
import Derived.Test.YtfeljjlpdefnmaaGreatDecL
namespace Go.Proofs.YtfeljjlpdefnmaaGreat
open Go.RowKit
set_option linter.unusedVariables false
set_option linter.unusedSimpArgs false
attribute [local go_sem] Oper.semAt_some

section
variable {W W1 : World} {F : Nat → Prop} {D : Nat} {vl vf : Value} {d : Dec} {e0 e1 e2 e3 e4 e5 : Int}
def digD (d : Dec) (c : UInt8) : Int × Dec :=
  if 0 ≤ digitV (c.toNat : Int) then
    (if d.count = 16 ∨ (moreV d.n (c.toNat : Int)).2 ≠ 0 then (3, d) else (0, { d with n := (moreV d.n (c.toNat : Int)).1, count := d.count + 1 }))
  else if d.count = 0 then (2, d)
  else if c = 59 then
    (if (extD { d with count := 0, place := 1 } c).1 = 0 then (0, (extD { d with count := 0, place := 1 } c).2) else ((extD { d with count := 0, place := 1 } c).1, { (extD { d with count := 0, place := 1 } c).2 with count := 1, place := 0 }))
  else toD d 2 (decide (c = 13))
set_option maxHeartbeats 2000000 in
set_option maxRecDepth 100000 in
theorem Digit1_any (h : DecAt W F D vl vf d) (c : UInt8) (hn0 : 0 ≤ d.n) (hn1 : d.n ≤ 18446744073709551615) (hc0 : 0 ≤ d.count) (hc1 : d.count ≤ 1000000) (hx1 : d.ext ≤ 1000000) :
    Calls Tryz.prog 77 #[.pointer (some ⟨D, 0, none⟩), .int .u8 (c.toNat : Int)] W (StepP W F D (digD d c)) := by
  have c4 := h.c4
  have c5 := h.c5
  have f4 := h.f 4
  have f5 := h.f 5
  have hcb : ((c.toNat : Nat) : Int) ≤ 255 := by have := c.toNat_lt; omega
  have hG := fun W => Lib.hid (Digit_any (c.toNat : Int) (Int.natCast_nonneg _) hcb W)
  have H := Lib.hid h
  by_cases hd : 0 ≤ digitV (c.toNat : Int)
  · have hM := fun W => Lib.hid (More_any d.n (c.toNat : Int) hn0 hn1 (Int.natCast_nonneg _) hcb W)
    obtain ⟨dv, edv⟩ : ∃ x, digitV (c.toNat : Int) = x := ⟨_, rfl⟩
    obtain ⟨mv, emv⟩ : ∃ x, moreV d.n (c.toNat : Int) = x := ⟨_, rfl⟩
    have HD : Hid (digD d c = if d.count = 16 ∨ mv.2 ≠ 0 then (3, d) else (0, { d with n := mv.1, count := d.count + 1 })) := Lib.hid (by
      unfold digD; rw [if_pos hd, emv])
    rw [edv] at hG hd
    rw [emv] at hM
    have hd2 : decide (dv ≥ 0) = true := decide_eq_true hd
    clear edv emv
    by_cases h16 : d.count = 16
    · have HR := Lib.hid (HD.out.trans (if_pos (.inl h16)))
      have hb : (d.count == 16) = true := by rw [h16]; rfl
      clear h h16 HD
      go_enter Tryz.func77, Tryz.ntmps77
      go_wp2_with fail
      refine (hG _).out.mono ?_; rintro e w1 ⟨rfl, rfl⟩; dsimp only
      go_wp2_with fail
      refine (hM _).out.mono ?_; rintro e w1 ⟨rfl, rfl⟩; dsimp only
      go_wp2_with fail
      go_ret
      rw [HR.out]
      exact ⟨F, vl, vf, rfl, H.out, fun k hk => .inl hk, Touch.refl _ _⟩
    · have hb : (d.count == 16) = false := beq_eq_false_iff_ne.2 h16
      by_cases he : mv.2 = 0
      · have HR := Lib.hid (HD.out.trans (if_neg (by rintro (e | e); exact h16 e; exact e he)))
        have hb2 : (mv.2 != 0) = false := by rw [he]; rfl
        have hs1 : IntKind.i64.wrap (d.count + 1) = d.count + 1 := IntWalk.i64_in _ (by omega)
        have H4 := Lib.hid (h.setN mv.1)
        have T4 := Lib.hid (show Touch F W (W.setCell ⟨D, 4, none⟩ (.int .u64 mv.1)) from (Touch.refl F W).setCell (p := ⟨D, 4, none⟩) (.inl h.hD) _)
        have g5 := H4.out.c5
        have k5 := H4.out.f 5
        clear h h16 HD he
        go_enter Tryz.func77, Tryz.ntmps77
        go_wp2_with fail
        refine (hG _).out.mono ?_; rintro e w1 ⟨rfl, rfl⟩; dsimp only
        go_wp2_with fail
        refine (hM _).out.mono ?_; rintro e w1 ⟨rfl, rfl⟩; dsimp only
        go_wp2_with fail
        go_ret
        rw [HR.out]
        exact ⟨F, vl, vf, rfl, H4.out.setCount (d.count + 1), fun k hk => .inl hk, T4.out.setCell (p := ⟨D, 5, none⟩) (.inl H.out.hD) _⟩
      · have HR := Lib.hid (HD.out.trans (if_pos (.inr he)))
        have hb2 : (mv.2 != 0) = true := bne_iff_ne.2 he
        clear h h16 HD he
        go_enter Tryz.func77, Tryz.ntmps77
        go_wp2_with fail
        refine (hG _).out.mono ?_; rintro e w1 ⟨rfl, rfl⟩; dsimp only
        go_wp2_with fail
        refine (hM _).out.mono ?_; rintro e w1 ⟨rfl, rfl⟩; dsimp only
        go_wp2_with fail
        go_ret
        rw [HR.out]
        exact ⟨F, vl, vf, rfl, H.out, fun k hk => .inl hk, Touch.refl _ _⟩
  · have HD0 : Hid (digD d c = if d.count = 0 then (2, d) else _) := Lib.hid (by unfold digD; rw [if_neg hd])
    obtain ⟨dv, edv⟩ : ∃ x, digitV (c.toNat : Int) = x := ⟨_, rfl⟩
    rw [edv] at hG hd
    have hd2 : decide (dv ≥ 0) = false := decide_eq_false hd
    have hd3 : dv < 0 := by omega
    clear edv
    by_cases h0 : d.count = 0
    · have HR := Lib.hid (HD0.out.trans (if_pos h0))
      have hb : (d.count == 0) = true := by rw [h0]; rfl
      clear h h0 HD0 hd
      go_enter Tryz.func77, Tryz.ntmps77
      go_wp2_with fail
      refine (hG _).out.mono ?_; rintro e w1 ⟨rfl, rfl⟩; dsimp only
      go_wp2_with fail
      go_ret
      rw [HR.out]
      exact ⟨F, vl, vf, rfl, H.out, fun k hk => .inl hk, Touch.refl _ _⟩
    · have HD1 := Lib.hid (HD0.out.trans (if_neg h0))
      have hb : (d.count == 0) = false := beq_eq_false_iff_ne.2 h0
      by_cases h59 : c = 59
      · have hb2 : (((c.toNat : Nat) : Int) == 59) = true := by rw [show (59 : Int) = (((59 : UInt8).toNat : Nat) : Int) from rfl, eqb]; exact decide_eq_true h59
        have HR0 := Lib.hid (HD1.out.trans (if_pos h59))
        have H5 := Lib.hid (h.setCount 0)
        have H3 := Lib.hid ((h.setCount 0).setPlace 1)
        have T3 := Lib.hid (show Touch F W ((W.setCell ⟨D, 5, none⟩ (.int .i64 0)).setCell ⟨D, 3, none⟩ (.int .i64 1)) from ((Touch.refl F W).setCell (p := ⟨D, 5, none⟩) (.inl h.hD) _).setCell (p := ⟨D, 3, none⟩) (.inl h.hD) _)
        have hE := Lib.hid (Extended_any H3.out c (by show (0 : Int) ≤ 0; omega) hx1)
        have g3 := H5.out.c3
        have k3 := H5.out.f 3
        obtain ⟨rx, erx⟩ : ∃ x, extD { d with count := 0, place := 1 } c = x := ⟨_, rfl⟩
        rw [erx] at HR0
        change Hid (Calls _ _ _ _ (StepP _ _ _ (extD { d with count := 0, place := 1 } c))) at hE
        rw [erx] at hE
        clear h h0 HD0 HD1 hd h59 erx
        by_cases hr : rx.1 = 0
        · have HR := Lib.hid (HR0.out.trans (if_pos hr))
          go_enter Tryz.func77, Tryz.ntmps77
          go_wp2_with fail
          refine (hG _).out.mono ?_; rintro e w1 ⟨rfl, rfl⟩; dsimp only
          go_wp2_with fail
          refine hE.out.mono ?_; rintro e w1 ⟨F', vl', vf', rfl, hD1, hF1, hT1⟩; dsimp only at hD1 ⊢
          have HD1 := Lib.hid hD1
          have HF1 := Lib.hid hF1
          have HT1 := Lib.hid hT1
          clear hD1 hF1 hT1
          rw [hr]
          go_wp2_with fail
          go_ret
          rw [HR.out]
          have hst : StepP ((W.setCell ⟨D, 5, none⟩ (.int .i64 0)).setCell ⟨D, 3, none⟩ (.int .i64 1)) F D (0, rx.2) (.returned (.int .i64 0)) w1 := ⟨F', vl', vf', rfl, HD1.out, HF1.out, HT1.out⟩
          exact hst.after T3.out
        · have HR := Lib.hid (HR0.out.trans (if_neg hr))
          have hr2 : (rx.1 != 0) = true := bne_iff_ne.2 hr
          clear hr
          go_enter Tryz.func77, Tryz.ntmps77
          go_wp2_with fail
          refine (hG _).out.mono ?_; rintro e w1 ⟨rfl, rfl⟩; dsimp only
          go_wp2_with fail
          refine hE.out.mono ?_; rintro e w1 ⟨F', vl', vf', rfl, hD1, hF1, hT1⟩; dsimp only at hD1 ⊢
          have HD1 := Lib.hid hD1
          have HF1 := Lib.hid hF1
          have HT1 := Lib.hid hT1
          have m5 := hD1.c5
          have n5 := hD1.f 5
          have H6 := Lib.hid (hD1.setCount 1)
          have m3 := H6.out.c3
          have n3 := H6.out.f 3
          clear hD1 hF1 hT1
          go_wp2_with fail
          go_ret
          rw [HR.out]
          have hst : StepP ((W.setCell ⟨D, 5, none⟩ (.int .i64 0)).setCell ⟨D, 3, none⟩ (.int .i64 1)) F D (rx.1, { rx.2 with count := 1, place := 0 }) (.returned (.int .i64 rx.1)) ((w1.setCell ⟨D, 5, none⟩ (.int .i64 1)).setCell ⟨D, 3, none⟩ (.int .i64 0)) :=
            ⟨F', vl', vf', rfl, H6.out.setPlace 0, HF1.out, (HT1.out.setCell (p := ⟨D, 5, none⟩) (.inl H.out.hD) _).setCell (p := ⟨D, 3, none⟩) (.inl H.out.hD) _⟩
          exact hst.after T3.out
      · have hb2 : (((c.toNat : Nat) : Int) == 59) = false := by rw [show (59 : Int) = (((59 : UInt8).toNat : Nat) : Int) from rfl, eqb]; exact decide_eq_false h59
        have HR := Lib.hid (HD1.out.trans (if_neg h59))
        have hb3 : (((c.toNat : Nat) : Int) == 13) = decide (c = 13) := by rw [show (13 : Int) = (((13 : UInt8).toNat : Nat) : Int) from rfl, eqb]
        have hT := Lib.hid (To_any h 2 (decide (c = 13)))
        clear h h0 HD0 HD1 hd h59
        go_enter Tryz.func77, Tryz.ntmps77
        go_wp2_with fail
        refine (hG _).out.mono ?_; rintro e w1 ⟨rfl, rfl⟩; dsimp only
        go_wp2_with fail
        refine hT.out.mono ?_; rintro e w1 hS
        have hS2 := Lib.hid hS
        obtain ⟨F', vl', vf', rfl, hrest⟩ := hS
        dsimp only
        clear hrest
        go_wp2_with fail
        go_ret
        rw [HR.out]
        exact hS2.out
end

end Go.Proofs.YtfeljjlpdefnmaaGreat
