/-
  Layer 12 (intake): Close.
-/
import Derived.Test.YtfeljjlpdefnmaaGreatInw
namespace Go.Proofs.YtfeljjlpdefnmaaGreat
open Go.RowKit
set_option linter.unusedVariables false
set_option linter.unusedSimpArgs false
attribute [local go_sem] Oper.semAt_some

/-- What Close comes to. -/
def Itk.close (i : Itk) : Int × Itk := if i.e ≠ 0 ∨ i.done = true then (i.e, i) else match i.t with | .all _ => (0, { i with t := .all true }) | _ => (4, { i with e := 4 })
theorem assert_al (c : Bool) (S : Nat) (w : World) : (Instr.typeAssert (.iface (Tak.all c).ty (.pointer (some ⟨S, 0, none⟩))) 72 82 true).run Tryz.prog w = .ok (.tuple #[.pointer (some ⟨S, 0, none⟩), .bool true]) w := by kernel_rfl
theorem assert_nal (t : Tak) (ht : t.ty ≠ 82) (S : Nat) (w : World) : (Instr.typeAssert (.iface t.ty (.pointer (some ⟨S, 0, none⟩))) 72 82 true).run Tryz.prog w = .ok (.tuple #[.pointer none, .bool false]) w := by
  cases t with
  | all c => exact absurd rfl ht
  | chunk d => kernel_rfl
  | sized d => kernel_rfl
section
variable {W W1 : World} {G : Nat → Prop} {S I D : Nat} {i : Itk}
set_option maxHeartbeats 1000000 in
set_option maxRecDepth 100000 in
theorem IClose_any (h : ItkAt W G S I i) :
    Calls Tryz.prog 44 #[.pointer (some ⟨I, 0, none⟩)] W fun e w' => e = .returned (.int .i64 i.close.1) ∧ ItkAt w' G S I i.close.2 ∧ Touch (fun j => G j ∨ j = I) W w' := by
  have c0 := h.c0
  have c3 := h.c3
  have f3 := h.f 3
  have hD := Lib.hid (IDone_any h)
  have H := Lib.hid h
  by_cases hs : i.e ≠ 0 ∨ i.done = true
  · have HE := Lib.hid (show i.close = (i.e, i) from if_pos hs)
    by_cases he : i.e = 0
    · have t1 : (i.e != 0) = false := by rw [he]; rfl
      have hd : i.done = true := hs.resolve_left (fun h => h he)
      rw [hd] at hD
      clear hs hd he h
      go_enter Tryz.func44, Tryz.ntmps44
      go_wp2_with fail
      refine hD.out.mono ?_; rintro e w1 ⟨rfl, rfl⟩; dsimp only
      go_wp2_with fail
      go_ret
      rw [HE.out]
      exact ⟨rfl, H.out, Touch.refl _ _⟩
    · have t1 : (i.e != 0) = true := bne_iff_ne.2 he
      clear hs he h
      go_enter Tryz.func44, Tryz.ntmps44
      go_wp2_with fail
      go_ret
      rw [HE.out]
      exact ⟨rfl, H.out, Touch.refl _ _⟩
  · have he : i.e = 0 := by
      apply Classical.byContradiction
      intro h; exact hs (.inl h)
    have hd : i.done = false := by
      cases hdd : i.done with
      | false => rfl
      | true => exact absurd (.inr hdd) hs
    have t1 : (i.e != 0) = false := by rw [he]; rfl
    rw [hd] at hD
    have HE0 := Lib.hid (show i.close = match i.t with | .all _ => (0, { i with t := .all true }) | _ => (4, { i with e := 4 }) from if_neg hs)
    have H4 := Lib.hid (h.set3 4)
    have g3 := H4.out.c3
    dsimp only at g3
    have T4 := Lib.hid (show Touch (fun j => G j ∨ j = I) W (W.setCell ⟨I, 3, none⟩ (.int .i64 4)) from (Touch.refl _ W).setCell (p := ⟨I, 3, none⟩) (.inl (.inr rfl)) _)
    have htk := h.tak
    have hap := h.apart
    have hbx := h.box
    cases ht : i.t with
    | all c =>
      have HE := Lib.hid (show i.close = (0, { i with t := .all true }) by rw [HE0.out, ht])
      rw [ht] at c0 htk hbx
      have ha := assert_al c S
      obtain ⟨tt, htt⟩ : ∃ tt, (Tak.all c).ty = tt := ⟨_, rfl⟩
      rw [htt] at c0 ha
      have s0 : W.cell? ⟨S, 0, none⟩ = some (.bool c) := by simp [World.cell?, htk.1]
      have sf : W.frozen? ⟨S, 0, none⟩ = false := by simp [World.frozen?, htk.1]
      have hT := Lib.hid (show Touch (fun j => j = S) W (W.setCell ⟨S, 0, none⟩ (.bool true)) from (Touch.refl (fun j => j = S) W).setCell (p := ⟨S, 0, none⟩) (.inl rfl) _)
      have hN := Lib.hid (show ItkAt (W.setCell ⟨S, 0, none⟩ (.bool true)) G S I { i with t := .all true } from
        ⟨(hT.out.block I (lt_of_heap hbx) (fun e => hap (by rw [e]; exact htk.2.1))).trans hbx, ⟨Boxed.set (.bool true) (show Boxed W S 84 (.bool c) from htk.1), htk.2.1, fun j hj => Nat.lt_of_lt_of_le (htk.2.2 j hj) hT.out.size⟩, hap⟩)
      have hG := Lib.hid htk.2.1
      clear h hs he hd ht htt htk hbx hap
      go_enter Tryz.func44, Tryz.ntmps44
      go_wp2_with fail
      refine hD.out.mono ?_; rintro e w1 ⟨rfl, rfl⟩; dsimp only
      go_wp2_with fail
      go_ret
      rw [HE.out]
      exact ⟨rfl, hN.out, hT.out.mono (fun j _ e => .inl (by rw [e]; exact hG.out))⟩
    | chunk d =>
      have HE := Lib.hid (show i.close = (4, { i with e := 4 }) by rw [HE0.out, ht])
      rw [ht] at c0
      have ha := assert_nal (.chunk d) (by show ¬ (79 = 82); decide) S
      obtain ⟨tt, htt⟩ : ∃ tt, (Tak.chunk d).ty = tt := ⟨_, rfl⟩
      rw [htt] at c0 ha
      clear h hs he hd ht htt htk hbx hap
      go_enter Tryz.func44, Tryz.ntmps44
      go_wp2_with fail
      refine hD.out.mono ?_; rintro e w1 ⟨rfl, rfl⟩; dsimp only
      go_wp2_with fail
      go_ret
      rw [HE.out]
      exact ⟨rfl, H4.out, T4.out⟩
    | sized d =>
      have HE := Lib.hid (show i.close = (4, { i with e := 4 }) by rw [HE0.out, ht])
      rw [ht] at c0
      have ha := assert_nal (.sized d) (by show ¬ (85 = 82); decide) S
      obtain ⟨tt, htt⟩ : ∃ tt, (Tak.sized d).ty = tt := ⟨_, rfl⟩
      rw [htt] at c0 ha
      clear h hs he hd ht htt htk hbx hap
      go_enter Tryz.func44, Tryz.ntmps44
      go_wp2_with fail
      refine hD.out.mono ?_; rintro e w1 ⟨rfl, rfl⟩; dsimp only
      go_wp2_with fail
      go_ret
      rw [HE.out]
      exact ⟨rfl, H4.out, T4.out⟩
end

end Go.Proofs.YtfeljjlpdefnmaaGreat
