/-
  Layer 12 (intake): trailers, and the end of a connection.
-/
import Derived.Test.YtfeljjlpdefnmaaSameR
namespace Go.Proofs.Ytfeljjlpdefnmaa
open Go.RowKit
set_option linter.unusedVariables false
set_option linter.unusedSimpArgs false
attribute [local go_sem] Oper.semAt_some

theorem Try.eql_nilF (a : Option Addr) (l c : Nat) (w : World) : (binOp .eql 44 (.slice a l c) (.slice none 0 0)).run Try.prog w = .ok (.bool a.isNone) w  := by cases a <;> kernel_rfl
theorem fldC_len (l : List (ByteArray × ByteArray)) : (fldC l).length = l.length * 2 := by
  induction l with
  | nil => rfl
  | cons a l ih => simp [fldC] at ih ⊢; omega
theorem fldC_one (l : List (ByteArray × ByteArray)) : ∀ u ∈ fldC l, u.oneCell' = true := by
  intro u hu
  unfold fldC at hu
  obtain ⟨f, _, hf⟩ := List.mem_flatMap.1 hu
  simp at hf
  rcases hf with rfl | rfl <;> rfl
set_option maxRecDepth 100000 in
theorem CloneF_any (w : World) (base : Nat) (v : Value) (l : List (ByteArray × ByteArray)) (hl : l.length ≤ 1000000) (hv : w.ownsRow base 61 2 v l.length (fldC l)) :
    Calls Try.prog 25 #[v] w fun e w' => ∃ v', e = .returned v' ∧ w'.ownsRow w.heap.size 61 2 v' l.length (fldC l) ∧ Below w.heap.size w w' := by
  obtain ⟨i0, hi, hz0, hz1, hz2⟩ := Try.info_fldR
  have hq := Try.eql_nilF
  rcases hv.2 with ⟨rfl, hz⟩ | ⟨g, cap, cur, rfl, _⟩
  · have hl0 : l = [] := List.eq_nil_of_length_eq_zero hz
    subst hl0
    clear hv
    go_enter Try.func25, Try.ntmps25
    go_wp2_with fail
    go_ret
    exact ⟨_, rfl, World.ownsRow_nil _ _ _ _, Below.refl _ _⟩
  · have row0 : (w.alloc (.cells #[] 61)).ownsRow w.heap.size 61 2 (.slice (some ⟨w.heap.size, 0, none⟩) 0 0) 0 [] :=
      ⟨rfl, .inr ⟨_, 0, #[], rfl, Nat.le_refl _, World.alloc_heap_new _ _, Nat.le_refl _, by decide, rfl, rfl⟩⟩
    have R0 := Lib.hid row0
    have hv1 := own_touchL hv ((Touch.refl (fun _ => False) w).alloc (.cells #[] 61)) (fun _ _ h => h)
    have HN := Lib.hid (fun (j : Nat) (u : Value) (hu : (fldC l)[j]? = some u) => hv1.cells (g := g) rfl j u hu)
    have hT0 := Lib.hid (show Touch (fun k => w.heap.size ≤ k) w (w.alloc (.cells #[] 61)) from (Touch.refl _ w).alloc _)
    obtain ⟨m, hm⟩ : ∃ m, l.length = m := ⟨_, rfl⟩
    have hfl := fldC_len l
    rw [hm] at hl hfl ⊢
    clear row0 hv hv1 hm
    go_enter Try.func25, Try.ntmps25
    go_wp2_with (at_builtin; refine wpList_app rfl _ _ 44 rfl w.heap.size 61 i0 _ 2 32 Try.underlying44 hi hz0 hz1 hz2 rfl (by decide) _ 0 [] rfl R0.out ⟨g, 0, none⟩ m cap (fldC l) rfl hfl HN.out (fldC_one l) (by unfold maxLen; omega) (by omega) (by rw [World.size_alloc]; omega) ?_; intro v' w2 own2 gr2; have HO := Lib.hid own2; have HT := Lib.hid (hT0.out.trans (grow_touch R0.out gr2)); clear own2 gr2)
    go_ret
    exact ⟨_, rfl, by simpa using HO.out, HT.out.below (Nat.le_refl _) (fun _ h => h)⟩

/-- The trailers of an intake. -/
def Itk.flds (i : Itk) : List (ByteArray × ByteArray) := match i.t with | .chunk d => if i.done = true then d.fields else [] | _ => []
/-- What Close comes to. -/
def Itk.close (i : Itk) : Int × Itk := if i.e ≠ 0 ∨ i.done = true then (i.e, i) else match i.t with | .all _ => (0, { i with t := .all true }) | _ => (4, { i with e := 4 })
theorem assert_dc (d : Dec) (S : Nat) (w : World) : (Instr.typeAssert (.iface (Tak.chunk d).ty (.pointer (some ⟨S, 0, none⟩))) 51 47 true).run Try.prog w = .ok (.tuple #[.pointer (some ⟨S, 0, none⟩), .bool true]) w := by kernel_rfl
theorem assert_ndc (t : Tak) (ht : t.ty ≠ 47) (S : Nat) (w : World) : (Instr.typeAssert (.iface t.ty (.pointer (some ⟨S, 0, none⟩))) 51 47 true).run Try.prog w = .ok (.tuple #[.pointer none, .bool false]) w := by
  cases t with
  | chunk d => exact absurd rfl ht
  | all c => kernel_rfl
  | sized d => kernel_rfl
theorem assert_al (c : Bool) (S : Nat) (w : World) : (Instr.typeAssert (.iface (Tak.all c).ty (.pointer (some ⟨S, 0, none⟩))) 51 54 true).run Try.prog w = .ok (.tuple #[.pointer (some ⟨S, 0, none⟩), .bool true]) w := by kernel_rfl
theorem assert_nal (t : Tak) (ht : t.ty ≠ 54) (S : Nat) (w : World) : (Instr.typeAssert (.iface t.ty (.pointer (some ⟨S, 0, none⟩))) 51 54 true).run Try.prog w = .ok (.tuple #[.pointer none, .bool false]) w := by
  cases t with
  | all c => exact absurd rfl ht
  | chunk d => kernel_rfl
  | sized d => kernel_rfl
section
variable {W W1 : World} {G : Nat → Prop} {S I D : Nat} {i : Itk} {F : Nat → Prop} {vl vf : Value} {d : Dec}
set_option maxRecDepth 100000 in
theorem DFields_any (h : DecAt W F D vl vf d) (hp : d.place = 11) (hl : d.fields.length ≤ 1000000) :
    Calls Try.prog 21 #[.pointer (some ⟨D, 0, none⟩)] W fun e w' => ∃ v', e = .returned v' ∧ w'.ownsRow W.heap.size 61 2 v' d.fields.length (fldC d.fields) ∧ Below W.heap.size W w' := by
  have hD : Calls Try.prog 24 #[.pointer (some ⟨D, 0, none⟩)] W fun e w' => e = .returned (.bool true) ∧ W = w' := by
    have := TDone_any (t := .chunk d) (show TakAt W F D (.chunk d) from ⟨vl, vf, h⟩)
    have h1 : Tak.done (.chunk d) = true := by show (d.place == 11) = true; rw [hp]; rfl
    rw [h1] at this
    exact this
  have HD := Lib.hid hD
  have c9 := h.c9
  have hC := Lib.hid (CloneF_any W 0 vf d.fields hl h.fld)
  clear h hD
  go_enter Try.func21, Try.ntmps21
  go_wp2_with fail
  refine HD.out.mono ?_; rintro e w1 ⟨rfl, rfl⟩; dsimp only
  go_wp2_with fail
  refine hC.out.mono ?_; rintro e w1 ⟨v, rfl, hv, hb⟩; dsimp only
  have HV := Lib.hid hv
  have HB := Lib.hid hb
  clear hv hb
  go_wp2_with fail
  go_ret
  exact ⟨v, rfl, HV.out, HB.out⟩
set_option maxHeartbeats 1000000 in
set_option maxRecDepth 100000 in
theorem IFields_any {N : Int} (h : ItkAt W G S I i) (hw : i.wf N) :
    Calls Try.prog 16 #[.pointer (some ⟨I, 0, none⟩)] W fun e w' => ∃ v', e = .returned v' ∧ w'.ownsRow W.heap.size 61 2 v' i.flds.length (fldC i.flds) ∧ Below W.heap.size W w' := by
  have c0 := h.c0
  have hD := Lib.hid (IDone_any h)
  have htk := h.tak
  cases ht : i.t with
  | chunk d =>
    rw [ht] at c0 htk
    have hwd := hw.1
    rw [ht] at hwd
    have ha := assert_dc d S
    obtain ⟨tt, htt⟩ : ∃ tt, (Tak.chunk d).ty = tt := ⟨_, rfl⟩
    rw [htt] at c0 ha
    by_cases hd : i.done = true
    · have HE := Lib.hid (show i.flds = d.fields by unfold Itk.flds; rw [ht]; exact if_pos hd)
      rw [hd] at hD
      have hp : d.place = 11 := by
        unfold Itk.done at hd
        rw [ht, Bool.and_eq_true] at hd
        simpa [Tak.done] using hd.2
      obtain ⟨vl, vf, hdec⟩ := htk
      have hF := Lib.hid (DFields_any hdec hp (by have := hwd.1.s0; have := hwd.1.s1; omega))
      clear h hw ht hwd htt hd hp hdec
      go_enter Try.func16, Try.ntmps16
      go_wp2_with fail
      refine hD.out.mono ?_; rintro e w1 ⟨rfl, rfl⟩; dsimp only
      go_wp2_with fail
      refine hF.out.mono ?_; rintro e w1 ⟨v, rfl, hv, hb⟩; dsimp only
      have HV := Lib.hid hv
      have HB := Lib.hid hb
      clear hv hb
      go_wp2_with fail
      go_ret
      rw [HE.out]
      exact ⟨v, rfl, HV.out, HB.out⟩
    · have hd' : i.done = false := by simpa using hd
      have HE := Lib.hid (show i.flds = [] by unfold Itk.flds; rw [ht]; exact if_neg hd)
      rw [hd'] at hD
      clear h hw ht hwd htt hd hd' htk
      go_enter Try.func16, Try.ntmps16
      go_wp2_with fail
      refine hD.out.mono ?_; rintro e w1 ⟨rfl, rfl⟩; dsimp only
      go_wp2_with fail
      go_ret
      rw [HE.out]
      exact ⟨_, rfl, World.ownsRow_nil _ _ _ _, Below.refl _ _⟩
  | all c =>
    rw [ht] at c0
    have ha := assert_ndc (.all c) (by show ¬ (54 = 47); decide) S
    obtain ⟨tt, htt⟩ : ∃ tt, (Tak.all c).ty = tt := ⟨_, rfl⟩
    rw [htt] at c0 ha
    have HE := Lib.hid (show i.flds = [] by unfold Itk.flds; rw [ht])
    clear h hw ht htt htk
    go_enter Try.func16, Try.ntmps16
    go_wp2_with fail
    go_ret
    rw [HE.out]
    exact ⟨_, rfl, World.ownsRow_nil _ _ _ _, Below.refl _ _⟩
  | sized c =>
    rw [ht] at c0
    have ha := assert_ndc (.sized c) (by show ¬ (57 = 47); decide) S
    obtain ⟨tt, htt⟩ : ∃ tt, (Tak.sized c).ty = tt := ⟨_, rfl⟩
    rw [htt] at c0 ha
    have HE := Lib.hid (show i.flds = [] by unfold Itk.flds; rw [ht])
    clear h hw ht htt htk
    go_enter Try.func16, Try.ntmps16
    go_wp2_with fail
    go_ret
    rw [HE.out]
    exact ⟨_, rfl, World.ownsRow_nil _ _ _ _, Below.refl _ _⟩
set_option maxHeartbeats 1000000 in
set_option maxRecDepth 100000 in
theorem IClose_any (h : ItkAt W G S I i) :
    Calls Try.prog 17 #[.pointer (some ⟨I, 0, none⟩)] W fun e w' => e = .returned (.int .i64 i.close.1) ∧ ItkAt w' G S I i.close.2 ∧ Touch (fun j => G j ∨ j = I) W w' := by
  have c0 := h.c0
  have c3 := h.c3
  have f3 := h.f 3
  have hD := Lib.hid (IDone_any h)
  have H := Lib.hid h
  by_cases hs : i.e ≠ 0 ∨ i.done = true
  · have HE := Lib.hid (show i.close = (i.e, i) from if_pos hs)
    by_cases he : i.e = 0
    · have t1 : (i.e != 0) = false := by rw [he]; rfl
      have hd : i.done = true := hs.resolve_left (fun h => h he)
      rw [hd] at hD
      clear hs hd he h
      go_enter Try.func17, Try.ntmps17
      go_wp2_with fail
      refine hD.out.mono ?_; rintro e w1 ⟨rfl, rfl⟩; dsimp only
      go_wp2_with fail
      go_ret
      rw [HE.out]
      exact ⟨rfl, H.out, Touch.refl _ _⟩
    · have t1 : (i.e != 0) = true := bne_iff_ne.2 he
      clear hs he h
      go_enter Try.func17, Try.ntmps17
      go_wp2_with fail
      go_ret
      rw [HE.out]
      exact ⟨rfl, H.out, Touch.refl _ _⟩
  · have he : i.e = 0 := by
      apply Classical.byContradiction
      intro h; exact hs (.inl h)
    have hd : i.done = false := by
      cases hdd : i.done with
      | false => rfl
      | true => exact absurd (.inr hdd) hs
    have t1 : (i.e != 0) = false := by rw [he]; rfl
    rw [hd] at hD
    have HE0 := Lib.hid (show i.close = match i.t with | .all _ => (0, { i with t := .all true }) | _ => (4, { i with e := 4 }) from if_neg hs)
    have H4 := Lib.hid (h.set3 4)
    have g3 := H4.out.c3
    dsimp only at g3
    have T4 := Lib.hid (show Touch (fun j => G j ∨ j = I) W (W.setCell ⟨I, 3, none⟩ (.int .i64 4)) from (Touch.refl _ W).setCell (p := ⟨I, 3, none⟩) (.inl (.inr rfl)) _)
    have htk := h.tak
    have hap := h.apart
    have hbx := h.box
    cases ht : i.t with
    | all c =>
      have HE := Lib.hid (show i.close = (0, { i with t := .all true }) by rw [HE0.out, ht])
      rw [ht] at c0 htk hbx
      have ha := assert_al c S
      obtain ⟨tt, htt⟩ : ∃ tt, (Tak.all c).ty = tt := ⟨_, rfl⟩
      rw [htt] at c0 ha
      have s0 : W.cell? ⟨S, 0, none⟩ = some (.bool c) := by simp [World.cell?, htk.1]
      have sf : W.frozen? ⟨S, 0, none⟩ = false := by simp [World.frozen?, htk.1]
      have hT := Lib.hid (show Touch (fun j => j = S) W (W.setCell ⟨S, 0, none⟩ (.bool true)) from (Touch.refl (fun j => j = S) W).setCell (p := ⟨S, 0, none⟩) (.inl rfl) _)
      have hN := Lib.hid (show ItkAt (W.setCell ⟨S, 0, none⟩ (.bool true)) G S I { i with t := .all true } from
        ⟨(hT.out.block I (lt_of_heap hbx) (fun e => hap (by rw [e]; exact htk.2.1))).trans hbx, ⟨Boxed.set (.bool true) (show Boxed W S 56 (.bool c) from htk.1), htk.2.1, fun j hj => Nat.lt_of_lt_of_le (htk.2.2 j hj) hT.out.size⟩, hap⟩)
      have hG := Lib.hid htk.2.1
      clear h hs he hd ht htt htk hbx hap
      go_enter Try.func17, Try.ntmps17
      go_wp2_with fail
      refine hD.out.mono ?_; rintro e w1 ⟨rfl, rfl⟩; dsimp only
      go_wp2_with fail
      go_ret
      rw [HE.out]
      exact ⟨rfl, hN.out, hT.out.mono (fun j _ e => .inl (by rw [e]; exact hG.out))⟩
    | chunk d =>
      have HE := Lib.hid (show i.close = (4, { i with e := 4 }) by rw [HE0.out, ht])
      rw [ht] at c0
      have ha := assert_nal (.chunk d) (by show ¬ (47 = 54); decide) S
      obtain ⟨tt, htt⟩ : ∃ tt, (Tak.chunk d).ty = tt := ⟨_, rfl⟩
      rw [htt] at c0 ha
      clear h hs he hd ht htt htk hbx hap
      go_enter Try.func17, Try.ntmps17
      go_wp2_with fail
      refine hD.out.mono ?_; rintro e w1 ⟨rfl, rfl⟩; dsimp only
      go_wp2_with fail
      go_ret
      rw [HE.out]
      exact ⟨rfl, H4.out, T4.out⟩
    | sized d =>
      have HE := Lib.hid (show i.close = (4, { i with e := 4 }) by rw [HE0.out, ht])
      rw [ht] at c0
      have ha := assert_nal (.sized d) (by show ¬ (57 = 54); decide) S
      obtain ⟨tt, htt⟩ : ∃ tt, (Tak.sized d).ty = tt := ⟨_, rfl⟩
      rw [htt] at c0 ha
      clear h hs he hd ht htt htk hbx hap
      go_enter Try.func17, Try.ntmps17
      go_wp2_with fail
      refine hD.out.mono ?_; rintro e w1 ⟨rfl, rfl⟩; dsimp only
      go_wp2_with fail
      go_ret
      rw [HE.out]
      exact ⟨rfl, H4.out, T4.out⟩
end

end Go.Proofs.Ytfeljjlpdefnmaa
