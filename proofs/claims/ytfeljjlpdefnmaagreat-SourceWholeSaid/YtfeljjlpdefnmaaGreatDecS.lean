/-
  Layer 9 (dechunk): what each place takes.
-/
import Derived.Test.YtfeljjlpdefnmaaGreatDec
import Derived.Laws.BytesArg
namespace Go.Proofs.YtfeljjlpdefnmaaGreat
open Go.RowKit
set_option linter.unusedVariables false
set_option linter.unusedSimpArgs false
attribute [local go_sem] Oper.semAt_some

theorem strOne (c : UInt8) : strOfNums [(c.toNat : Int)] = ⟨#[c]⟩ := by
  simp [strOfNums]
theorem conv1 (c : UInt8) (W : World) : (convert 39 9 (.slice (some ⟨W.heap.size, 0, none⟩) 1 1)).run Tryz.prog (W.alloc (.cells #[.int .u8 (c.toNat : Int)] 5)) = .ok (.string ⟨#[c]⟩) (W.alloc (.cells #[.int .u8 (c.toNat : Int)] 5)) := by
  have h := run_convert_bytes_arg (P := Tryz.prog) (W.alloc (.cells #[.int .u8 (c.toNat : Int)] 5)) 39 5 Tryz.underlying39 Tryz.underlying5 W.heap.size 0 1 1 [(c.toNat : Int)] rfl (fun i hi => by
    obtain rfl : i = 0 := by omega
    rw [World.cell?_alloc_new]; rfl) 9 Tryz.underlying9
  rw [strOne] at h
  exact h
theorem txt1 (c : UInt8) : isTxt ⟨#[c]⟩ = txtB c := by simp [isTxt, allB]
theorem tok1 (e0 e1 e2 e3 e4 e5 : Int) (c : UInt8) : isTok e0 e1 e2 e3 e4 e5 ⟨#[c]⟩ = tokB e0 e1 e2 e3 e4 e5 c := by
  unfold isTok allB
  have : (⟨#[c]⟩ : ByteArray).size = 1 := rfl
  rw [this]
  simp
theorem eqb {c : UInt8} {k : UInt8} : (((c.toNat : Int)) == ((k.toNat : Nat) : Int)) = decide (c = k) := by
  rw [Bool.eq_iff_iff, beq_iff_eq, decide_eq_true_iff]
  exact ⟨fun h => UInt8.toNat_inj.1 (by omega), fun h => by rw [h]⟩

section
variable {W W1 : World} {F : Nat → Prop} {D : Nat} {vl vf : Value} {d : Dec}
/-- A step behind a beginning that turns nothing. -/
theorem StepP.after {r : Int × Dec} {e : Ending} {w' : World} (h : StepP W1 F D r e w') (hT : Touch F W W1) : StepP W F D r e w' := by
  obtain ⟨F', vl', vf', he, hd, hF, ht⟩ := h
  exact ⟨F', vl', vf', he, hd, fun k hk => (hF k hk).imp id (fun h => Nat.le_trans hT.size h), hT.trans ht⟩

def extD (d : Dec) (c : UInt8) : Int × Dec := if c = 13 then (0, { d with place := 2 }) else if txtB c = false then (2, d) else if d.count ≥ d.ext then (5, d) else (0, { d with count := d.count + 1 })
set_option maxHeartbeats 1000000 in
set_option maxRecDepth 100000 in
theorem Extended_any (h : DecAt W F D vl vf d) (c : UInt8) (hc0 : 0 ≤ d.count) (hc1 : d.ext ≤ 1000000) :
    Calls Tryz.prog 78 #[.pointer (some ⟨D, 0, none⟩), .int .u8 (c.toNat : Int)] W (StepP W F D (extD d c)) := by
  have H := Lib.hid h
  have hcv := conv1 c
  by_cases h13 : c = 13
  · have HM := Lib.hid (show extD d c = toD d 2 true from if_pos h13)
    have hT := Lib.hid (To_any h 2 true)
    subst h13
    clear h hcv
    go_enter Tryz.func78, Tryz.ntmps78
    go_wp2_with fail
    refine hT.out.mono ?_; rintro e w1 hS
    have hS2 := Lib.hid hS
    obtain ⟨F', vl', vf', rfl, hrest⟩ := hS
    dsimp only
    clear hrest
    go_wp2_with fail
    go_ret
    rw [HM.out]
    exact hS2.out
  · have hb : (((c.toNat : Nat) : Int) == 13) = false := by rw [show (13 : Int) = (((13 : UInt8).toNat : Nat) : Int) from rfl, eqb]; exact decide_eq_false h13
    have hx := fun W => Lib.hid (Text_any ⟨#[c]⟩ (by show 1 ≤ _; omega) W)
    rw [txt1] at hx
    cases ht : txtB c with
    | false =>
      have HM := Lib.hid (show extD d c = (2, d) by unfold extD; rw [if_neg h13, if_pos ht])
      rw [ht] at hx
      clear h h13 ht
      go_enter Tryz.func78, Tryz.ntmps78
      go_wp2_with fail
      refine (hx _).out.mono ?_; rintro e w1 ⟨rfl, hb1⟩; dsimp only
      have HB := Lib.hid (show Below W.heap.size W w1 from ((Below.refl _ W).alloc (Nat.le_refl _) _).trans (hb1.mono (by simp)))
      clear hb1
      go_wp2_with fail
      go_ret
      rw [HM.out]
      exact ⟨F, vl, vf, rfl, H.out.below HB.out, fun k hk => .inl hk, Touch.of_new HB.out⟩
    | true =>
      rw [ht] at hx
      by_cases hge : d.count ≥ d.ext
      · have HM := Lib.hid (show extD d c = (5, d) by unfold extD; rw [if_neg h13, if_neg (by rw [ht]; simp), if_pos hge])
        have hle : d.ext ≤ d.count := hge
        clear h h13 ht hge
        go_enter Tryz.func78, Tryz.ntmps78
        go_wp2_with fail
        refine (hx _).out.mono ?_; rintro e w1 ⟨rfl, hb1⟩; dsimp only
        have HB := Lib.hid (show Below W.heap.size W w1 from ((Below.refl _ W).alloc (Nat.le_refl _) _).trans (hb1.mono (by simp)))
        have c0 := (H.out.below HB.out).c0
        have c5 := (H.out.below HB.out).c5
        clear hb1
        go_wp2_with fail
        go_quiet (fail)
        go_wp2_with fail
        go_ret
        rw [HM.out]
        exact ⟨F, vl, vf, rfl, (H.out.below HB.out).drewN _, fun k hk => .inl hk, (Touch.of_new HB.out).drewN _⟩
      · have HM := Lib.hid (show extD d c = (0, { d with count := d.count + 1 }) by unfold extD; rw [if_neg h13, if_neg (by rw [ht]; simp), if_neg hge])
        have hlt : d.count < d.ext := by omega
        have hle2 : decide (d.ext ≤ d.count) = false := decide_eq_false hge
        clear h h13 ht hge
        go_enter Tryz.func78, Tryz.ntmps78
        go_wp2_with fail
        refine (hx _).out.mono ?_; rintro e w1 ⟨rfl, hb1⟩; dsimp only
        have HB := Lib.hid (show Below W.heap.size W w1 from ((Below.refl _ W).alloc (Nat.le_refl _) _).trans (hb1.mono (by simp)))
        have c0 := (H.out.below HB.out).c0
        have c5 := (H.out.below HB.out).c5
        clear hb1
        go_wp2_with fail
        go_quiet (fail)
        have f5 : (w1.drewN nq).frozen? ⟨D, 5, none⟩ = false := (H.out.below HB.out).f 5
        go_wp2_with fail
        go_ret
        rw [HM.out]
        exact ⟨F, vl, vf, rfl, ((H.out.below HB.out).drewN nq).setCount (d.count + 1), fun k hk => .inl hk, ((Touch.of_new HB.out).drewN nq).setCell (p := ⟨D, 5, none⟩) (.inl H.out.hD) _⟩

def begD (d : Dec) (c : UInt8) : Int × Dec := if d.n = 0 then toD d 6 (decide (c = 10)) else toD d 3 (decide (c = 10))
theorem Begun_any (h : DecAt W F D vl vf d) (c : UInt8) :
    Calls Tryz.prog 79 #[.pointer (some ⟨D, 0, none⟩), .int .u8 (c.toNat : Int)] W (StepP W F D (begD d c)) := by
  have c4 := h.c4
  have hb : (((c.toNat : Nat) : Int) == 10) = decide (c = 10) := by rw [show (10 : Int) = (((10 : UInt8).toNat : Nat) : Int) from rfl, eqb]
  by_cases hn : d.n = 0
  · have hT := Lib.hid (To_any h 6 (decide (c = 10)))
    have HM := Lib.hid (show begD d c = toD d 6 (decide (c = 10)) from if_pos hn)
    have hn1 : (d.n == 0) = true := by rw [hn]; rfl
    clear h hn
    go_enter Tryz.func79, Tryz.ntmps79
    go_wp2_with fail
    refine hT.out.mono ?_; rintro e w1 hS
    have hS2 := Lib.hid hS
    obtain ⟨F', vl', vf', rfl, hrest⟩ := hS
    dsimp only
    clear hrest
    go_wp2_with fail
    go_ret
    rw [HM.out]
    exact hS2.out
  · have hT := Lib.hid (To_any h 3 (decide (c = 10)))
    have HM := Lib.hid (show begD d c = toD d 3 (decide (c = 10)) from if_neg hn)
    have hn1 : (d.n == 0) = false := beq_eq_false_iff_ne.2 hn
    clear h hn
    go_enter Tryz.func79, Tryz.ntmps79
    go_wp2_with fail
    refine hT.out.mono ?_; rintro e w1 hS
    have hS2 := Lib.hid hS
    obtain ⟨F', vl', vf', rfl, hrest⟩ := hS
    dsimp only
    clear hrest
    go_wp2_with fail
    go_ret
    rw [HM.out]
    exact hS2.out
theorem Closed_any (h : DecAt W F D vl vf d) (c : UInt8) :
    Calls Tryz.prog 81 #[.pointer (some ⟨D, 0, none⟩), .int .u8 (c.toNat : Int)] W (StepP W F D (toD d 5 (decide (c = 13)))) := by
  have hb : (((c.toNat : Nat) : Int) == 13) = decide (c = 13) := by rw [show (13 : Int) = (((13 : UInt8).toNat : Nat) : Int) from rfl, eqb]
  have hT := Lib.hid (To_any h 5 (decide (c = 13)))
  clear h
  go_enter Tryz.func81, Tryz.ntmps81
  go_wp2_with fail
  refine hT.out.mono ?_; rintro e w1 hS
  have hS2 := Lib.hid hS
  obtain ⟨F', vl', vf', rfl, hrest⟩ := hS
  dsimp only
  clear hrest
  go_wp2_with fail
  go_ret
  exact hS2.out
theorem Finish_any (h : DecAt W F D vl vf d) (c : UInt8) :
    Calls Tryz.prog 87 #[.pointer (some ⟨D, 0, none⟩), .int .u8 (c.toNat : Int)] W (StepP W F D (toD d 11 (decide (c = 10)))) := by
  have hb : (((c.toNat : Nat) : Int) == 10) = decide (c = 10) := by rw [show (10 : Int) = (((10 : UInt8).toNat : Nat) : Int) from rfl, eqb]
  have hT := Lib.hid (To_any h 11 (decide (c = 10)))
  clear h
  go_enter Tryz.func87, Tryz.ntmps87
  go_wp2_with fail
  refine hT.out.mono ?_; rintro e w1 hS
  have hS2 := Lib.hid hS
  obtain ⟨F', vl', vf', rfl, hrest⟩ := hS
  dsimp only
  clear hrest
  go_wp2_with fail
  go_ret
  exact hS2.out
theorem Again_any (h : DecAt W F D vl vf d) (c : UInt8) :
    Calls Tryz.prog 82 #[.pointer (some ⟨D, 0, none⟩), .int .u8 (c.toNat : Int)] W (StepP W F D (toD { d with count := 0 } 0 (decide (c = 10)))) := by
  have hb : (((c.toNat : Nat) : Int) == 10) = decide (c = 10) := by rw [show (10 : Int) = (((10 : UInt8).toNat : Nat) : Int) from rfl, eqb]
  have c5 := h.c5
  have f5 := h.f 5
  have hT := Lib.hid (To_any (h.setCount 0) 0 (decide (c = 10)))
  have hTt := Lib.hid (show Touch F W (W.setCell ⟨D, 5, none⟩ (.int .i64 0)) from (Touch.refl F W).setCell (p := ⟨D, 5, none⟩) (.inl h.hD) _)
  clear h
  go_enter Tryz.func82, Tryz.ntmps82
  go_wp2_with fail
  refine hT.out.mono ?_; rintro e w1 hS
  have hS2 := Lib.hid hS
  obtain ⟨F', vl', vf', rfl, hrest⟩ := hS
  dsimp only
  clear hrest
  go_wp2_with fail
  go_ret
  exact hS2.out.after hTt.out

/-! ### A field's line -/
def valdD (d : Dec) (c : UInt8) : Int × Dec := if c = 13 then moreD d c 9 else if txtB c = false then (2, d) else moreD d c 8
def namdD (e0 e1 e2 e3 e4 e5 : Int) (d : Dec) (c : UInt8) : Int × Dec := if c = 58 then moreD d c 8 else if tokB e0 e1 e2 e3 e4 e5 c = false then (2, d) else moreD d c 7

set_option maxHeartbeats 1000000 in
set_option maxRecDepth 100000 in
theorem Valued_any (h : DecAt W F D vl vf d) (c : UInt8) (hs0 : 0 ≤ d.size) (hs1 : d.byt ≤ 1000000) (hl : d.line.length ≤ 1000000) :
    Calls Tryz.prog 85 #[.pointer (some ⟨D, 0, none⟩), .int .u8 (c.toNat : Int)] W (StepP W F D (valdD d c)) := by
  have H := Lib.hid h
  have hcv := conv1 c
  by_cases h13 : c = 13
  · have HM := Lib.hid (show valdD d c = moreD d c 9 from if_pos h13)
    have hT := Lib.hid (More1_any h c 9 hs0 hs1 hl)
    have hb : (((c.toNat : Nat) : Int) == 13) = true := by rw [show (13 : Int) = (((13 : UInt8).toNat : Nat) : Int) from rfl, eqb]; exact decide_eq_true h13
    clear h hcv h13
    go_enter Tryz.func85, Tryz.ntmps85
    go_wp2_with fail
    refine hT.out.mono ?_; rintro e w1 hS
    have hS2 := Lib.hid hS
    obtain ⟨F', vl', vf', rfl, hrest⟩ := hS
    dsimp only
    clear hrest
    go_wp2_with fail
    go_ret
    rw [HM.out]
    exact hS2.out
  · have hb : (((c.toNat : Nat) : Int) == 13) = false := by rw [show (13 : Int) = (((13 : UInt8).toNat : Nat) : Int) from rfl, eqb]; exact decide_eq_false h13
    have hx := Lib.hid (Text_any ⟨#[c]⟩ (by show 1 ≤ _; omega) (W.alloc (.cells #[.int .u8 (c.toNat : Int)] 5)))
    rw [txt1] at hx
    cases ht : txtB c with
    | false =>
      have HM := Lib.hid (show valdD d c = (2, d) by unfold valdD; rw [if_neg h13, if_pos ht])
      rw [ht] at hx
      clear h h13 ht
      go_enter Tryz.func85, Tryz.ntmps85
      go_wp2_with fail
      refine hx.out.mono ?_; rintro e w1 ⟨rfl, hb1⟩; dsimp only
      have HB := Lib.hid (show Below W.heap.size W w1 from ((Below.refl _ W).alloc (Nat.le_refl _) _).trans (hb1.mono (by simp)))
      clear hb1
      go_wp2_with fail
      go_ret
      rw [HM.out]
      exact ⟨F, vl, vf, rfl, H.out.below HB.out, fun k hk => .inl hk, Touch.of_new HB.out⟩
    | true =>
      have HM := Lib.hid (show valdD d c = moreD d c 8 by unfold valdD; rw [if_neg h13, if_neg (by rw [ht]; simp)])
      rw [ht] at hx
      clear h h13 ht
      go_enter Tryz.func85, Tryz.ntmps85
      go_wp2_with fail
      refine hx.out.mono ?_; rintro e w1 ⟨rfl, hb1⟩; dsimp only
      have HB := Lib.hid (show Below W.heap.size W w1 from ((Below.refl _ W).alloc (Nat.le_refl _) _).trans (hb1.mono (by simp)))
      clear hb1
      have hT := Lib.hid (More1_any (H.out.below HB.out) c 8 hs0 hs1 hl)
      go_wp2_with fail
      refine hT.out.mono ?_; rintro e w2 hS
      have hS2 := Lib.hid hS
      obtain ⟨F', vl', vf', rfl, hrest⟩ := hS
      dsimp only
      clear hrest
      go_wp2_with fail
      go_ret
      rw [HM.out]
      exact hS2.out.after (Touch.of_new HB.out)

set_option maxHeartbeats 1000000 in
set_option maxRecDepth 100000 in
theorem Named_any {e0 e1 e2 e3 e4 e5 : Int} (h : DecAt W F D vl vf d) (c : UInt8) (hs0 : 0 ≤ d.size) (hs1 : d.byt ≤ 1000000) (hl : d.line.length ≤ 1000000) (hE : EndsT W W.heap.size e0 e1 e2 e3 e4 e5) :
    Calls Tryz.prog 84 #[.pointer (some ⟨D, 0, none⟩), .int .u8 (c.toNat : Int)] W (StepP W F D (namdD e0 e1 e2 e3 e4 e5 d c)) := by
  have H := Lib.hid h
  have hcv := conv1 c
  by_cases h13 : c = 58
  · have HM := Lib.hid (show namdD e0 e1 e2 e3 e4 e5 d c = moreD d c 8 from if_pos h13)
    have hT := Lib.hid (More1_any h c 8 hs0 hs1 hl)
    have hb : (((c.toNat : Nat) : Int) == 58) = true := by rw [show (58 : Int) = (((58 : UInt8).toNat : Nat) : Int) from rfl, eqb]; exact decide_eq_true h13
    clear h hcv h13
    go_enter Tryz.func84, Tryz.ntmps84
    go_wp2_with fail
    refine hT.out.mono ?_; rintro e w1 hS
    have hS2 := Lib.hid hS
    obtain ⟨F', vl', vf', rfl, hrest⟩ := hS
    dsimp only
    clear hrest
    go_wp2_with fail
    go_ret
    rw [HM.out]
    exact hS2.out
  · have hb : (((c.toNat : Nat) : Int) == 58) = false := by rw [show (58 : Int) = (((58 : UInt8).toNat : Nat) : Int) from rfl, eqb]; exact decide_eq_false h13
    have hx := Lib.hid (Token_any (e0 := e0) (e1 := e1) (e2 := e2) (e3 := e3) (e4 := e4) (e5 := e5) ⟨#[c]⟩ (by show 1 ≤ _; omega) (w := W.alloc (.cells #[.int .u8 (c.toNat : Int)] 5)) ((hE.below ((Below.refl _ W).alloc (Nat.le_refl _) _)).up (by simp) (Nat.le_refl _)))
    rw [tok1] at hx
    cases ht : tokB e0 e1 e2 e3 e4 e5 c with
    | false =>
      have HM := Lib.hid (show namdD e0 e1 e2 e3 e4 e5 d c = (2, d) by unfold namdD; rw [if_neg h13, if_pos ht])
      rw [ht] at hx
      clear h h13 ht
      go_enter Tryz.func84, Tryz.ntmps84
      go_wp2_with fail
      refine hx.out.mono ?_; rintro e w1 ⟨rfl, hb1⟩; dsimp only
      have HB := Lib.hid (show Below W.heap.size W w1 from ((Below.refl _ W).alloc (Nat.le_refl _) _).trans (hb1.mono (by simp)))
      clear hb1
      go_wp2_with fail
      go_ret
      rw [HM.out]
      exact ⟨F, vl, vf, rfl, H.out.below HB.out, fun k hk => .inl hk, Touch.of_new HB.out⟩
    | true =>
      have HM := Lib.hid (show namdD e0 e1 e2 e3 e4 e5 d c = moreD d c 7 by unfold namdD; rw [if_neg h13, if_neg (by rw [ht]; simp)])
      rw [ht] at hx
      clear h h13 ht
      go_enter Tryz.func84, Tryz.ntmps84
      go_wp2_with fail
      refine hx.out.mono ?_; rintro e w1 ⟨rfl, hb1⟩; dsimp only
      have HB := Lib.hid (show Below W.heap.size W w1 from ((Below.refl _ W).alloc (Nat.le_refl _) _).trans (hb1.mono (by simp)))
      clear hb1
      have hT := Lib.hid (More1_any (H.out.below HB.out) c 7 hs0 hs1 hl)
      go_wp2_with fail
      refine hT.out.mono ?_; rintro e w2 hS
      have hS2 := Lib.hid hS
      obtain ⟨F', vl', vf', rfl, hrest⟩ := hS
      dsimp only
      clear hrest
      go_wp2_with fail
      go_ret
      rw [HM.out]
      exact hS2.out.after (Touch.of_new HB.out)

def firD (e0 e1 e2 e3 e4 e5 : Int) (d : Dec) (c : UInt8) : Int × Dec :=
  if c = 13 then toD d 10 true else if tokB e0 e1 e2 e3 e4 e5 c = false then (2, d) else if d.lines ≥ d.fls then (5, d) else
    if (moreD d c 7).1 = 0 then (0, { (moreD d c 7).2 with lines := d.lines + 1 }) else moreD d c 7
theorem moreD_lines (d : Dec) (c : UInt8) (p : Int) : (moreD d c p).2.lines = d.lines := by unfold moreD; split <;> rfl
set_option maxHeartbeats 1000000 in
set_option maxRecDepth 100000 in
theorem First_any {e0 e1 e2 e3 e4 e5 : Int} (h : DecAt W F D vl vf d) (c : UInt8) (hs0 : 0 ≤ d.size) (hs1 : d.byt ≤ 1000000) (hl : d.line.length ≤ 1000000) (hn0 : 0 ≤ d.lines) (hn1 : d.fls ≤ 1000000) (hE : EndsT W W.heap.size e0 e1 e2 e3 e4 e5) :
    Calls Tryz.prog 83 #[.pointer (some ⟨D, 0, none⟩), .int .u8 (c.toNat : Int)] W (StepP W F D (firD e0 e1 e2 e3 e4 e5 d c)) := by
  have H := Lib.hid h
  have hcv := conv1 c
  by_cases h13 : c = 13
  · have HM := Lib.hid (show firD e0 e1 e2 e3 e4 e5 d c = toD d 10 true from if_pos h13)
    have hT := Lib.hid (To_any h 10 true)
    have hb : (((c.toNat : Nat) : Int) == 13) = true := by rw [show (13 : Int) = (((13 : UInt8).toNat : Nat) : Int) from rfl, eqb]; exact decide_eq_true h13
    clear h hcv h13
    go_enter Tryz.func83, Tryz.ntmps83
    go_wp2_with fail
    refine hT.out.mono ?_; rintro e w1 hS
    have hS2 := Lib.hid hS
    obtain ⟨F', vl', vf', rfl, hrest⟩ := hS
    dsimp only
    clear hrest
    go_wp2_with fail
    go_ret
    rw [HM.out]
    exact hS2.out
  · have hb : (((c.toNat : Nat) : Int) == 13) = false := by rw [show (13 : Int) = (((13 : UInt8).toNat : Nat) : Int) from rfl, eqb]; exact decide_eq_false h13
    have hx := Lib.hid (Token_any (e0 := e0) (e1 := e1) (e2 := e2) (e3 := e3) (e4 := e4) (e5 := e5) ⟨#[c]⟩ (by show 1 ≤ _; omega) (w := W.alloc (.cells #[.int .u8 (c.toNat : Int)] 5)) ((hE.below ((Below.refl _ W).alloc (Nat.le_refl _) _)).up (by simp) (Nat.le_refl _)))
    rw [tok1] at hx
    cases ht : tokB e0 e1 e2 e3 e4 e5 c with
    | false =>
      have HM := Lib.hid (show firD e0 e1 e2 e3 e4 e5 d c = (2, d) by unfold firD; rw [if_neg h13, if_pos ht])
      rw [ht] at hx
      clear h h13 ht
      go_enter Tryz.func83, Tryz.ntmps83
      go_wp2_with fail
      refine hx.out.mono ?_; rintro e w1 ⟨rfl, hb1⟩; dsimp only
      have HB := Lib.hid (show Below W.heap.size W w1 from ((Below.refl _ W).alloc (Nat.le_refl _) _).trans (hb1.mono (by simp)))
      clear hb1
      go_wp2_with fail
      go_ret
      rw [HM.out]
      exact ⟨F, vl, vf, rfl, H.out.below HB.out, fun k hk => .inl hk, Touch.of_new HB.out⟩
    | true =>
      rw [ht] at hx
      by_cases hge : d.lines ≥ d.fls
      · have HM := Lib.hid (show firD e0 e1 e2 e3 e4 e5 d c = (5, d) by unfold firD; rw [if_neg h13, if_neg (by rw [ht]; simp), if_pos hge])
        have hle : d.fls ≤ d.lines := hge
        clear h h13 ht hge
        go_enter Tryz.func83, Tryz.ntmps83
        go_wp2_with fail
        refine hx.out.mono ?_; rintro e w1 ⟨rfl, hb1⟩; dsimp only
        have HB := Lib.hid (show Below W.heap.size W w1 from ((Below.refl _ W).alloc (Nat.le_refl _) _).trans (hb1.mono (by simp)))
        have c1 := (H.out.below HB.out).c1
        have c6 := (H.out.below HB.out).c6
        clear hb1
        go_wp2_with fail
        go_quiet (fail)
        go_wp2_with fail
        go_ret
        rw [HM.out]
        exact ⟨F, vl, vf, rfl, (H.out.below HB.out).drewN _, fun k hk => .inl hk, (Touch.of_new HB.out).drewN _⟩
      · have HM := Lib.hid (show firD e0 e1 e2 e3 e4 e5 d c = if (moreD d c 7).1 = 0 then (0, { (moreD d c 7).2 with lines := d.lines + 1 }) else moreD d c 7 by unfold firD; rw [if_neg h13, if_neg (by rw [ht]; simp), if_neg hge])
        have hlt : d.lines < d.fls := by omega
        have hle2 : decide (d.fls ≤ d.lines) = false := decide_eq_false hge
        clear h h13 ht hge
        go_enter Tryz.func83, Tryz.ntmps83
        go_wp2_with fail
        refine hx.out.mono ?_; rintro e w1 ⟨rfl, hb1⟩; dsimp only
        have HB := Lib.hid (show Below W.heap.size W w1 from ((Below.refl _ W).alloc (Nat.le_refl _) _).trans (hb1.mono (by simp)))
        have c1 := (H.out.below HB.out).c1
        have c6 := (H.out.below HB.out).c6
        clear hb1
        go_wp2_with fail
        go_quiet (fail)
        have hT := Lib.hid (More1_any ((H.out.below HB.out).drewN nq) c 7 hs0 hs1 hl)
        have HTb := Lib.hid (show Touch F W (w1.drewN nq) from (Touch.of_new HB.out).drewN _)
        have hlin := moreD_lines d c 7
        obtain ⟨m, hm⟩ : ∃ m, moreD d c 7 = m := ⟨_, rfl⟩
        rw [hm] at hT HM hlin
        clear hm
        obtain ⟨me, md⟩ := m
        dsimp only at HM hlin
        go_wp2_with fail
        refine hT.out.mono ?_; rintro e w2 hS
        obtain ⟨F', vl', vf', rfl, hD2, hF2, hT2⟩ := hS
        dsimp only at hD2 ⊢
        have r6 := hD2.c6
        have q6 := hD2.f 6
        rw [hlin] at r6
        have HS := Lib.hid hD2
        have HF := Lib.hid hF2
        have HT2 := Lib.hid hT2
        clear hD2 hF2 hT2
        by_cases hme : me = 0
        · subst hme
          go_wp2_with fail
          go_ret
          rw [HM.out, if_pos (by trivial)]
          have hst : StepP (w1.drewN nq) F D (0, { md with lines := d.lines + 1 }) (.returned (.int .i64 0)) (w2.setCell ⟨D, 6, none⟩ (.int .i64 (d.lines + 1))) :=
            ⟨F', vl', vf', rfl, HS.out.setLines (d.lines + 1), HF.out, HT2.out.setCell (p := ⟨D, 6, none⟩) (.inl H.out.hD) _⟩
          exact hst.after HTb.out
        · have hme2 : (me == 0) = false := beq_eq_false_iff_ne.2 hme
          have Hme := Lib.hid hme
          clear hme
          go_wp2_with fail
          go_ret
          rw [HM.out, if_neg Hme.out]
          have hst : StepP (w1.drewN nq) F D (me, md) (.returned (.int .i64 me)) w2 := ⟨F', vl', vf', rfl, HS.out, HF.out, HT2.out⟩
          exact hst.after HTb.out
end

end Go.Proofs.YtfeljjlpdefnmaaGreat
