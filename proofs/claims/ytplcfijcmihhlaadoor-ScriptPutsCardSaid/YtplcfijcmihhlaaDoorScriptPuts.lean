/-
  The walk of the law ScriptPuts.
-/
import Derived.Test.YtplcfijcmihhlaaDoorRPut28
import Derived.Test.YtplcfijcmihhlaaDoorScriptLines
import Derived.Test.YtplcfijcmihhlaaDoorWLast
namespace Go.Proofs.YtplcfijcmihhlaaDoor
open Go.RowKit Go.Proofs.YtplcfijcmihhlaaDoorW.PrintWords Go.Proofs.YtplcfijcmihhlaaDoorW.PrintLast
set_option linter.unusedVariables false
set_option linter.unusedSimpArgs false
attribute [local go_sem] Oper.semAt_some

/-- A script that is got, as a value. -/
theorem got_scr {W : World} {base : Nat} {vp vt vk : Value} {x : Scr} (h : Rows3 W base vp vt vk x) : ∃ A0 c0 A2 c2 A4 c4, vp = .slice A0 x.pieces.length c0 ∧ vt = .slice A2 x.takes.length c2 ∧ vk = .slice A4 x.picks.length c4 ∧ ScrC W A0 c0 x.pieces A2 c2 x.takes A4 c4 x.picks := by
  obtain ⟨A0, c0, rfl⟩ := Kd.R_slice h.pie
  obtain ⟨A2, c2, rfl⟩ := Kd.R_slice h.tak
  obtain ⟨A4, c4, rfl⟩ := Kd.R_slice h.pic
  obtain ⟨-, k0, r0⟩ := Kd.R_reads' h.pie
  obtain ⟨-, k2, r2⟩ := Kd.R_reads' h.tak
  obtain ⟨-, k4, r4⟩ := Kd.R_reads' h.pic
  exact ⟨A0, c0, A2, c2, A4, c4, rfl, rfl, rfl, r0, k0, r2, k2, r4, k4⟩

section
variable {A0 : Option Addr} {c0 : Nat} {l0 : List (List Int)} {e0 : Int} {A2 : Option Addr} {c2 : Nat} {l2 : List Int} {s0 : Int} {A4 : Option Addr} {c4 : Nat} {l4 : List Int} {W : World}
set_option maxHeartbeats 4000000 in
set_option maxRecDepth 100000 in
theorem ScriptPuts_any (h : ScrC W A0 c0 l0 A2 c2 l2 A4 c4 l4) (f0 : Fits l0) (hT : Tabs W W.heap.size) :
    Calls Tryd.prog 7 #[.agg #[.slice A0 l0.length c0, .int .i64 e0, .slice A2 l2.length c2, .int .i64 s0, .slice A4 l4.length c4]] W fun x w' => x = .returned (.bool true) ∧ Below W.heap.size W w' := by
  obtain ⟨V, eV, hV, v0, hz⟩ : ∃ V, W.alloc (.cells #[.slice A0 l0.length c0, .int .i64 e0, .slice A2 l2.length c2, .int .i64 s0, .slice A4 l4.length c4] 49) = V ∧ Below W.heap.size W V ∧ V.heap[W.heap.size]? = some (.cells #[.slice A0 l0.length c0, .int .i64 e0, .slice A2 l2.length c2, .int .i64 s0, .slice A4 l4.length c4] 49 (0, 0)) ∧ V.heap.size = W.heap.size + 1 :=
    ⟨_, rfl, (Below.refl _ W).alloc (Nat.le_refl _) _, World.alloc_heap_new _ _, by simp⟩
  have hv0 := lt_of_heap v0
  obtain ⟨r0, hr0, hL0⟩ := Long_any (e0 := e0) (s0 := s0) h f0
  have HV := Lib.hid hV
  have H := Lib.hid (h.below hV)
  have V0 := Lib.hid v0
  have HL0 := Lib.hid hL0
  have Hr0 := Lib.hid hr0
  have HT := Lib.hid ((hT.below hV).up hV.size (Nat.le_refl _))
  have hWk := Lib.hid (wakes_any V HT.out)
  have HF := Lib.hid f0
  clear h hV v0 hL0 hr0 hT f0
  go_enter Tryd.func7, Tryd.ntmps7
  go_wp2_with fail
  refine hWk.out.mono ?_; rintro e w1 ⟨rfl, hb1⟩; dsimp only
  obtain ⟨x0, x1, x2, x3, x4⟩ := cells5 ((hb1.block _ hv0).trans V0.out)
  have HB1 := Lib.hid hb1
  have hC0 := Lib.hid (HL0.out w1 (HV.out.trans (hb1.mono HV.out.size)))
  clear hb1 hWk
  go_wp2_with fail
  refine hC0.out.mono ?_; rintro e w2 ⟨rfl, hb2⟩; dsimp only
  have HB2 := Lib.hid (HB1.out.trans (hb2.mono HB1.out.size))
  clear hb2 hC0
  cases r0
  case true =>
    go_wp2_with fail
    go_ret
    exact ⟨rfl, HV.out.trans (HB2.out.mono HV.out.size)⟩
  have hs := Hr0.out rfl
  have HS := Lib.hid hs
  clear hs
  obtain ⟨x0, x1, x2, x3, x4⟩ := cells5 ((HB2.out.block _ hv0).trans V0.out)
  have mkS : Hid (∀ w', Below V.heap.size V w' → (Below V.heap.size V w' ∧ (w'.cell? ⟨W.heap.size, 0, none⟩ = some (.slice A0 l0.length c0) ∧ w'.cell? ⟨W.heap.size, 1, none⟩ = some (.int .i64 e0) ∧ w'.cell? ⟨W.heap.size, 2, none⟩ = some (.slice A2 l2.length c2) ∧ w'.cell? ⟨W.heap.size, 3, none⟩ = some (.int .i64 s0) ∧ w'.cell? ⟨W.heap.size, 4, none⟩ = some (.slice A4 l4.length c4)))) :=
    Lib.hid fun w' hB => ⟨hB, cells5 ((hB.block _ hv0).trans V0.out)⟩
  have cO := fun V' (hB : Below V.heap.size V V') => Lib.hid ((of_any A0 l0.length c0 e0 A2 l2.length c2 s0 A4 l4.length c4 V').mono fun e w' h => (⟨h.1, hB.trans (h.2.mono hB.size)⟩ : e = _ ∧ Below V.heap.size V w'))
  go_wp2_with fail
  refine (of_any _ _ _ _ _ _ _ _ _ _ _ _).mono ?_; rintro e w4 ⟨rfl, hb4⟩; dsimp only
  have HB4 := Lib.hid (HB2.out.trans (hb4.mono HB2.out.size))
  clear hb4
  cases hrr : rightB e0 s0 l2 l4
  · have Hrr := Lib.hid hrr
    clear hrr
    have cR := fun V' (hB : Below V.heap.size V V') => Lib.hid ((Right_any (e0 := e0) (s0 := s0) (H.out.below hB)).mono fun e w' h => (⟨h.1.trans (by rw [Hrr.out]), hB.trans (h.2.mono hB.size)⟩ : e = .returned (.bool false) ∧ Below V.heap.size V w'))
    have cQ := fun V' (hB : Below V.heap.size V V') => Lib.hid ((RRight_any (e0 := e0) (s0 := s0) (H.out.below hB) HS.out).mono fun e w' h => (⟨h.1.trans (by rw [Hrr.out]), hB.trans (h.2.mono hB.size)⟩ : e = .returned (.bool false) ∧ Below V.heap.size V w'))
    have hP := Lib.hid (Put_no (H.out.below HB4.out) Hrr.out)
    go_wp2_with fail
    refine hP.out.mono ?_; rintro e w5 ⟨rfl, hb5⟩; dsimp only
    have HB5 := Lib.hid (HB4.out.trans (hb5.mono HB4.out.size))
    clear hb5 hP
    go_wp2_with fail
    refine start_ (n := 6) (S := fun w' => Below V.heap.size V w' ∧ w'.cell? ⟨W.heap.size, 0, none⟩ = some (.slice A0 l0.length c0) ∧ w'.cell? ⟨W.heap.size, 1, none⟩ = some (.int .i64 e0) ∧ w'.cell? ⟨W.heap.size, 2, none⟩ = some (.slice A2 l2.length c2) ∧ w'.cell? ⟨W.heap.size, 3, none⟩ = some (.int .i64 s0) ∧ w'.cell? ⟨W.heap.size, 4, none⟩ = some (.slice A4 l4.length c4)) (ds := []) #[false, false, false, false, false, false] (by kernel_rfl) rfl rfl ⟨(mkS.out _ HB5.out.drew).1, (mkS.out _ HB5.out.drew).2.1, (mkS.out _ HB5.out.drew).2.2.1, (mkS.out _ HB5.out.drew).2.2.2.1, (mkS.out _ HB5.out.drew).2.2.2.2.1, (mkS.out _ HB5.out.drew).2.2.2.2.2⟩ (fun hHeld => ?_)
    refine take_ (i := 0) (N := some 18) (v := ?_) (a' := ?_) #[true, false, false, false, false, false] rfl rfl (by kernel_rfl) (fun _ _ _ h => h) (Or.inl ⟨by rfl, ?_⟩) hHeld ?_ ?_
    rotate_left
    · rintro w' ⟨s0, s1, s2, s3, s4, s5⟩
      go_simp
      with_reducible rfl
    rotate_left
    · simp only [Act.put, List.setIfInBounds_toArray, List.set_cons_zero, List.set_cons_succ, i64_w, i32_w]
      rfl
    refine take_ (i := 3) (N := some 21) (v := ?_) (a' := ?_) #[true, false, false, true, false, false] rfl rfl (by kernel_rfl) (fun _ _ _ h => h) (Or.inl ⟨by rfl, ?_⟩) hHeld ?_ ?_
    rotate_left
    · rintro w' ⟨s0, s1, s2, s3, s4, s5⟩
      go_simp
      with_reducible rfl
    rotate_left
    · simp only [Act.put, List.setIfInBounds_toArray, List.set_cons_zero, List.set_cons_succ, i64_w, i32_w]
      rfl
    refine one_ (i := 1) (N := some 19) #[true, true, false, true, false, false] rfl rfl (by kernel_rfl) (by decide) (fun K hK => ?_)
    refine goes_ Tryd.func26 (by kernel_rfl) rfl #[.agg #[.slice A0 l0.length c0, .int .i64 e0, .slice A2 l2.length c2, .int .i64 s0, .slice A4 l4.length c4]] (by rfl) rfl rfl (by simp only [List.map_toArray, List.map_cons, List.map_nil]; rfl) ?_
    with_reducible refine ((cO _ hHeld.1).out).mono ?_
    rintro e w3 ⟨rfl, hb⟩
    refine ⟨_, rfl, ?_⟩
    refine hK.out _ _ ⟨(mkS.out _ hb).1, (mkS.out _ hb).2.1, (mkS.out _ hb).2.2.1, (mkS.out _ hb).2.2.2.1, (mkS.out _ hb).2.2.2.2.1, (mkS.out _ hb).2.2.2.2.2⟩ (fun hHeld => ?_)
    clear hK K
    refine norm_ (a' := ?_) ?_ ?_
    rotate_left
    · show Act.put _ (some 19) _ = _
      simp only [Act.put, List.setIfInBounds_toArray, List.set_cons_zero, List.set_cons_succ, i64_w, i32_w]
      rfl
    refine one_ (i := 2) (N := some 20) #[true, true, true, true, false, false] rfl rfl (by kernel_rfl) (by decide) (fun K hK => ?_)
    refine goes_ Tryd.func29 (by kernel_rfl) rfl #[.agg #[.slice A0 l0.length c0, .int .i64 e0, .slice A2 l2.length c2, .int .i64 s0, .slice A4 l4.length c4]] (by rfl) rfl rfl (by simp only [List.map_toArray, List.map_cons, List.map_nil]; rfl) ?_
    with_reducible refine ((cR _ hHeld.1).out).mono ?_
    rintro e w3 ⟨rfl, hb⟩
    refine ⟨_, rfl, ?_⟩
    refine hK.out _ _ ⟨(mkS.out _ hb).1, (mkS.out _ hb).2.1, (mkS.out _ hb).2.2.1, (mkS.out _ hb).2.2.2.1, (mkS.out _ hb).2.2.2.2.1, (mkS.out _ hb).2.2.2.2.2⟩ (fun hHeld => ?_)
    clear hK K
    refine norm_ (a' := ?_) ?_ ?_
    rotate_left
    · show Act.put _ (some 20) _ = _
      simp only [Act.put, List.setIfInBounds_toArray, List.set_cons_zero, List.set_cons_succ, i64_w, i32_w]
      rfl
    refine one_ (i := 4) (N := some 22) #[true, true, true, true, true, false] rfl rfl (by kernel_rfl) (by decide) (fun K hK => ?_)
    refine goes_ Tryd.func30 (by kernel_rfl) rfl #[.agg #[.slice A0 l0.length c0, .int .i64 e0, .slice A2 l2.length c2, .int .i64 s0, .slice A4 l4.length c4]] (by rfl) rfl rfl (by simp only [List.map_toArray, List.map_cons, List.map_nil]; rfl) ?_
    with_reducible refine ((cQ _ hHeld.1).out).mono ?_
    rintro e w3 ⟨rfl, hb⟩
    refine ⟨_, rfl, ?_⟩
    refine hK.out _ _ ⟨(mkS.out _ hb).1, (mkS.out _ hb).2.1, (mkS.out _ hb).2.2.1, (mkS.out _ hb).2.2.2.1, (mkS.out _ hb).2.2.2.2.1, (mkS.out _ hb).2.2.2.2.2⟩ (fun hHeld => ?_)
    clear hK K
    refine norm_ (a' := ?_) ?_ ?_
    rotate_left
    · show Act.put _ (some 22) _ = _
      simp only [Act.put, List.setIfInBounds_toArray, List.set_cons_zero, List.set_cons_succ, i64_w, i32_w]
      rfl
    refine pure_ (i := 5) (N := some 23) (v := ?_) (a' := ?_) #[true, true, true, true, true, true] rfl rfl (by kernel_rfl) (fun _ _ _ h => h) (Or.inl ⟨by rfl, ?_⟩) ?_ ?_
    rotate_left
    · intro w'
      go_simp
      with_reducible rfl
    rotate_left
    · simp only [Act.put, List.setIfInBounds_toArray, List.set_cons_zero, List.set_cons_succ, i64_w, i32_w]
      rfl
    refine done_ (by kernel_rfl) ?_
    have HB6 := Lib.hid hHeld.1
    obtain ⟨x0, x1, x2, x3, x4⟩ := cells5 ((HB6.out.block _ hv0).trans V0.out)
    go_wp2_with fail
    refine (cQ _ HB6.out).out.mono ?_; rintro e w7 ⟨rfl, hb7⟩; dsimp only
    have HB7 := Lib.hid hb7
    clear hb7
    go_wp2_with fail
    go_ret
    exact ⟨rfl, HV.out.trans (HB7.out.mono HV.out.size)⟩
  · have Hrr := Lib.hid hrr
    clear hrr
    have cR := fun V' (hB : Below V.heap.size V V') => Lib.hid ((Right_any (e0 := e0) (s0 := s0) (H.out.below hB)).mono fun e w' h => (⟨h.1.trans (by rw [Hrr.out]), hB.trans (h.2.mono hB.size)⟩ : e = .returned (.bool true) ∧ Below V.heap.size V w'))
    have cQ := fun V' (hB : Below V.heap.size V V') => Lib.hid ((RRight_any (e0 := e0) (s0 := s0) (H.out.below hB) HS.out).mono fun e w' h => (⟨h.1.trans (by rw [Hrr.out]), hB.trans (h.2.mono hB.size)⟩ : e = .returned (.bool true) ∧ Below V.heap.size V w'))
    have hP := Lib.hid (Put_any (H.out.below HB4.out) HF.out.1 HS.out ((HT.out.below HB4.out).up HB4.out.size (Nat.le_refl _)) Hrr.out)
    obtain ⟨st, est⟩ : ∃ st : ByteArray, strL (putT l0 e0 l2 s0 l4) = st := ⟨_, rfl⟩
    have Est := Lib.hid est
    have hst : (⟨(putT l0 e0 l2 s0 l4).toArray⟩ : ByteArray) = st := est
    rw [hst] at hP
    clear est hst
    go_wp2_with fail
    refine hP.out.mono ?_; rintro e w5 ⟨rfl, hb5⟩; dsimp only
    have HB5 := Lib.hid (HB4.out.trans (hb5.mono HB4.out.size))
    clear hb5 hP
    go_wp2_with fail
    refine start_ (n := 6) (S := fun w' => Below V.heap.size V w' ∧ w'.cell? ⟨W.heap.size, 0, none⟩ = some (.slice A0 l0.length c0) ∧ w'.cell? ⟨W.heap.size, 1, none⟩ = some (.int .i64 e0) ∧ w'.cell? ⟨W.heap.size, 2, none⟩ = some (.slice A2 l2.length c2) ∧ w'.cell? ⟨W.heap.size, 3, none⟩ = some (.int .i64 s0) ∧ w'.cell? ⟨W.heap.size, 4, none⟩ = some (.slice A4 l4.length c4)) (ds := []) #[false, false, false, false, false, false] (by kernel_rfl) rfl rfl ⟨(mkS.out _ HB5.out.drew).1, (mkS.out _ HB5.out.drew).2.1, (mkS.out _ HB5.out.drew).2.2.1, (mkS.out _ HB5.out.drew).2.2.2.1, (mkS.out _ HB5.out.drew).2.2.2.2.1, (mkS.out _ HB5.out.drew).2.2.2.2.2⟩ (fun hHeld => ?_)
    refine take_ (i := 0) (N := some 18) (v := ?_) (a' := ?_) #[true, false, false, false, false, false] rfl rfl (by kernel_rfl) (fun _ _ _ h => h) (Or.inl ⟨by rfl, ?_⟩) hHeld ?_ ?_
    rotate_left
    · rintro w' ⟨s0, s1, s2, s3, s4, s5⟩
      go_simp
      with_reducible rfl
    rotate_left
    · simp only [Act.put, List.setIfInBounds_toArray, List.set_cons_zero, List.set_cons_succ, i64_w, i32_w]
      rfl
    refine take_ (i := 3) (N := some 21) (v := ?_) (a' := ?_) #[true, false, false, true, false, false] rfl rfl (by kernel_rfl) (fun _ _ _ h => h) (Or.inl ⟨by rfl, ?_⟩) hHeld ?_ ?_
    rotate_left
    · rintro w' ⟨s0, s1, s2, s3, s4, s5⟩
      go_simp
      with_reducible rfl
    rotate_left
    · simp only [Act.put, List.setIfInBounds_toArray, List.set_cons_zero, List.set_cons_succ, i64_w, i32_w]
      rfl
    refine one_ (i := 1) (N := some 19) #[true, true, false, true, false, false] rfl rfl (by kernel_rfl) (by decide) (fun K hK => ?_)
    refine goes_ Tryd.func26 (by kernel_rfl) rfl #[.agg #[.slice A0 l0.length c0, .int .i64 e0, .slice A2 l2.length c2, .int .i64 s0, .slice A4 l4.length c4]] (by rfl) rfl rfl (by simp only [List.map_toArray, List.map_cons, List.map_nil]; rfl) ?_
    with_reducible refine ((cO _ hHeld.1).out).mono ?_
    rintro e w3 ⟨rfl, hb⟩
    refine ⟨_, rfl, ?_⟩
    refine hK.out _ _ ⟨(mkS.out _ hb).1, (mkS.out _ hb).2.1, (mkS.out _ hb).2.2.1, (mkS.out _ hb).2.2.2.1, (mkS.out _ hb).2.2.2.2.1, (mkS.out _ hb).2.2.2.2.2⟩ (fun hHeld => ?_)
    clear hK K
    refine norm_ (a' := ?_) ?_ ?_
    rotate_left
    · show Act.put _ (some 19) _ = _
      simp only [Act.put, List.setIfInBounds_toArray, List.set_cons_zero, List.set_cons_succ, i64_w, i32_w]
      rfl
    refine one_ (i := 2) (N := some 20) #[true, true, true, true, false, false] rfl rfl (by kernel_rfl) (by decide) (fun K hK => ?_)
    refine goes_ Tryd.func29 (by kernel_rfl) rfl #[.agg #[.slice A0 l0.length c0, .int .i64 e0, .slice A2 l2.length c2, .int .i64 s0, .slice A4 l4.length c4]] (by rfl) rfl rfl (by simp only [List.map_toArray, List.map_cons, List.map_nil]; rfl) ?_
    with_reducible refine ((cR _ hHeld.1).out).mono ?_
    rintro e w3 ⟨rfl, hb⟩
    refine ⟨_, rfl, ?_⟩
    refine hK.out _ _ ⟨(mkS.out _ hb).1, (mkS.out _ hb).2.1, (mkS.out _ hb).2.2.1, (mkS.out _ hb).2.2.2.1, (mkS.out _ hb).2.2.2.2.1, (mkS.out _ hb).2.2.2.2.2⟩ (fun hHeld => ?_)
    clear hK K
    refine norm_ (a' := ?_) ?_ ?_
    rotate_left
    · show Act.put _ (some 20) _ = _
      simp only [Act.put, List.setIfInBounds_toArray, List.set_cons_zero, List.set_cons_succ, i64_w, i32_w]
      rfl
    refine one_ (i := 4) (N := some 22) #[true, true, true, true, true, false] rfl rfl (by kernel_rfl) (by decide) (fun K hK => ?_)
    refine goes_ Tryd.func30 (by kernel_rfl) rfl #[.agg #[.slice A0 l0.length c0, .int .i64 e0, .slice A2 l2.length c2, .int .i64 s0, .slice A4 l4.length c4]] (by rfl) rfl rfl (by simp only [List.map_toArray, List.map_cons, List.map_nil]; rfl) ?_
    with_reducible refine ((cQ _ hHeld.1).out).mono ?_
    rintro e w3 ⟨rfl, hb⟩
    refine ⟨_, rfl, ?_⟩
    refine hK.out _ _ ⟨(mkS.out _ hb).1, (mkS.out _ hb).2.1, (mkS.out _ hb).2.2.1, (mkS.out _ hb).2.2.2.1, (mkS.out _ hb).2.2.2.2.1, (mkS.out _ hb).2.2.2.2.2⟩ (fun hHeld => ?_)
    clear hK K
    refine norm_ (a' := ?_) ?_ ?_
    rotate_left
    · show Act.put _ (some 22) _ = _
      simp only [Act.put, List.setIfInBounds_toArray, List.set_cons_zero, List.set_cons_succ, i64_w, i32_w]
      rfl
    refine pure_ (i := 5) (N := some 23) (v := ?_) (a' := ?_) #[true, true, true, true, true, true] rfl rfl (by kernel_rfl) (fun _ _ _ h => h) (Or.inl ⟨by rfl, ?_⟩) ?_ ?_
    rotate_left
    · intro w'
      go_simp
      with_reducible rfl
    rotate_left
    · simp only [Act.put, List.setIfInBounds_toArray, List.set_cons_zero, List.set_cons_succ, i64_w, i32_w]
      rfl
    refine done_ (by kernel_rfl) ?_
    have HB6 := Lib.hid hHeld.1
    obtain ⟨x0, x1, x2, x3, x4⟩ := cells5 ((HB6.out.block _ hv0).trans V0.out)
    go_wp2_with fail
    refine (cQ _ HB6.out).out.mono ?_; rintro e w7 ⟨rfl, hb7⟩; dsimp only
    have HB7 := Lib.hid hb7
    clear hb7
    have hG := Lib.hid (Get_any st (by rw [← Est.out, strL_size]; have := putT_len (l0 := l0) (e := e0) (s := s0) HS.out Hrr.out; omega) w7 ((HT.out.below HB7.out).up HB7.out.size (Nat.le_refl _)))
    have hgp : getS st = (⟨l0, e0, l2, s0, l4⟩, 0, 0) := by rw [← Est.out]; exact get_put HF.out.1 (right_of Hrr.out)
    rw [hgp] at hG
    clear hgp
    go_wp2_with fail
    refine hG.out.mono ?_; rintro e w8 ⟨vp, vt, vk, rfl, hR8, hb8⟩; dsimp only
    obtain ⟨B0, d0, B2, d2, B4, d4, rfl, rfl, rfl, hk⟩ := got_scr hR8
    dsimp only at hk
    have HB8 := Lib.hid (HB7.out.trans (hb8.mono HB7.out.size))
    have HK := Lib.hid hk
    clear hb8 hG hR8 hk
    obtain ⟨U, eU, hU, u0⟩ : ∃ U, w8.alloc (.cells #[.slice B0 l0.length d0, .int .i64 e0, .slice B2 l2.length d2, .int .i64 s0, .slice B4 l4.length d4] 57) = U ∧ Below V.heap.size V U ∧ U.heap[w8.heap.size]? = some (.cells #[.slice B0 l0.length d0, .int .i64 e0, .slice B2 l2.length d2, .int .i64 s0, .slice B4 l4.length d4] 57 (0, 0)) :=
      ⟨_, rfl, HB8.out.alloc HB8.out.size _, World.alloc_heap_new _ _⟩
    have hKU := Lib.hid (HK.out.below (show Below w8.heap.size w8 U from eU ▸ (Below.refl _ w8).alloc (Nat.le_refl _) _))
    have HVU := Lib.hid hU
    have HU := Lib.hid (Below.refl U.heap.size U)
    have hu0 := lt_of_heap u0
    have U0 := Lib.hid u0
    have hv1 : W.heap.size < U.heap.size := by have := hU.size; omega
    have V1 := Lib.hid ((hU.block _ hv0).trans V0.out)
    clear hU u0 HK
    have mkU : Hid (∀ w', Below U.heap.size U w' → (Below U.heap.size U w' ∧ (w'.cell? ⟨W.heap.size, 0, none⟩ = some (.slice A0 l0.length c0) ∧ w'.cell? ⟨W.heap.size, 1, none⟩ = some (.int .i64 e0) ∧ w'.cell? ⟨W.heap.size, 2, none⟩ = some (.slice A2 l2.length c2) ∧ w'.cell? ⟨W.heap.size, 3, none⟩ = some (.int .i64 s0) ∧ w'.cell? ⟨W.heap.size, 4, none⟩ = some (.slice A4 l4.length c4)) ∧
        (w'.cell? ⟨w8.heap.size, 0, none⟩ = some (.slice B0 l0.length d0) ∧ w'.cell? ⟨w8.heap.size, 1, none⟩ = some (.int .i64 e0) ∧ w'.cell? ⟨w8.heap.size, 2, none⟩ = some (.slice B2 l2.length d2) ∧ w'.cell? ⟨w8.heap.size, 3, none⟩ = some (.int .i64 s0) ∧ w'.cell? ⟨w8.heap.size, 4, none⟩ = some (.slice B4 l4.length d4)))) :=
      Lib.hid fun w' hB => ⟨hB, cells5 ((hB.block _ hv1).trans V1.out), cells5 ((hB.block _ hu0).trans U0.out)⟩
    have uO := fun V' (hB : Below U.heap.size U V') => Lib.hid ((of_any A0 l0.length c0 e0 A2 l2.length c2 s0 A4 l4.length c4 V').mono fun e w' h => (⟨h.1, hB.trans (h.2.mono hB.size)⟩ : e = _ ∧ Below U.heap.size U w'))
    have uP := fun V' (hB : Below U.heap.size U V') => Lib.hid ((RPut_any (e0 := e0) (s0 := s0) (H.out.below (HVU.out.trans (hB.mono HVU.out.size))) HF.out.1 HS.out (right_of Hrr.out)).mono fun e w' h => (⟨h.1.trans (by rw [Est.out]), hB.trans (h.2.mono hB.size)⟩ : e = .returned (.string st) ∧ Below U.heap.size U w'))
    have uE := fun V' (hB : Below U.heap.size U V') => Lib.hid ((LSame_any (e0 := e0) (s0 := s0) (e1 := e0) (s1 := s0) (hKU.out.below hB) (H.out.below (HVU.out.trans (hB.mono HVU.out.size))) HS.out).mono fun e w' h => (⟨h.1.trans (by simp [sameS]), hB.trans (h.2.mono hB.size)⟩ : e = .returned (.bool true) ∧ Below U.heap.size U w'))
    go_wp2_with fail
    refine start_ (n := 23) (S := fun w' => Below U.heap.size U w' ∧ w'.cell? ⟨W.heap.size, 0, none⟩ = some (.slice A0 l0.length c0) ∧ w'.cell? ⟨W.heap.size, 1, none⟩ = some (.int .i64 e0) ∧ w'.cell? ⟨W.heap.size, 2, none⟩ = some (.slice A2 l2.length c2) ∧ w'.cell? ⟨W.heap.size, 3, none⟩ = some (.int .i64 s0) ∧ w'.cell? ⟨W.heap.size, 4, none⟩ = some (.slice A4 l4.length c4) ∧ w'.cell? ⟨w8.heap.size, 0, none⟩ = some (.slice B0 l0.length d0) ∧ w'.cell? ⟨w8.heap.size, 1, none⟩ = some (.int .i64 e0) ∧ w'.cell? ⟨w8.heap.size, 2, none⟩ = some (.slice B2 l2.length d2) ∧ w'.cell? ⟨w8.heap.size, 3, none⟩ = some (.int .i64 s0) ∧ w'.cell? ⟨w8.heap.size, 4, none⟩ = some (.slice B4 l4.length d4)) (ds := []) #[false, false, false, false, false, false, false, false, false, false, false, false, false, false, false, false, false, false, false, false, false, false, false] (by kernel_rfl) rfl rfl ⟨(mkU.out _ HU.out.drew).1, (mkU.out _ HU.out.drew).2.1.1, (mkU.out _ HU.out.drew).2.1.2.1, (mkU.out _ HU.out.drew).2.1.2.2.1, (mkU.out _ HU.out.drew).2.1.2.2.2.1, (mkU.out _ HU.out.drew).2.1.2.2.2.2, (mkU.out _ HU.out.drew).2.2.1, (mkU.out _ HU.out.drew).2.2.2.1, (mkU.out _ HU.out.drew).2.2.2.2.1, (mkU.out _ HU.out.drew).2.2.2.2.2.1, (mkU.out _ HU.out.drew).2.2.2.2.2.2⟩ (fun hHeld => ?_)
    refine pure_ (i := 0) (N := some 39) (v := ?_) (a' := ?_) #[true, false, false, false, false, false, false, false, false, false, false, false, false, false, false, false, false, false, false, false, false, false, false] rfl rfl (by kernel_rfl) (fun _ _ _ h => h) (Or.inl ⟨by rfl, ?_⟩) ?_ ?_
    rotate_left
    · intro w'
      go_simp
      with_reducible rfl
    rotate_left
    · simp only [Act.put, List.setIfInBounds_toArray, List.set_cons_zero, List.set_cons_succ, i64_w, i32_w]
      rfl
    refine take_ (i := 1) (N := some 40) (v := ?_) (a' := ?_) #[true, true, false, false, false, false, false, false, false, false, false, false, false, false, false, false, false, false, false, false, false, false, false] rfl rfl (by kernel_rfl) (fun _ _ _ h => h) (Or.inl ⟨by rfl, ?_⟩) hHeld ?_ ?_
    rotate_left
    · rintro w' ⟨s0, s1, s2, s3, s4, s5, s6, s7, s8, s9, s10⟩
      go_simp
      with_reducible rfl
    rotate_left
    · simp only [Act.put, List.setIfInBounds_toArray, List.set_cons_zero, List.set_cons_succ, i64_w, i32_w]
      rfl
    refine one_ (i := 2) (N := some 41) #[true, true, true, false, false, false, false, false, false, false, false, false, false, false, false, false, false, false, false, false, false, false, false] rfl rfl (by kernel_rfl) (by decide) (fun K hK => ?_)
    refine goes_ Tryd.func32 (by kernel_rfl) rfl #[.agg #[.slice A0 l0.length c0, .int .i64 e0, .slice A2 l2.length c2, .int .i64 s0, .slice A4 l4.length c4]] (by rfl) rfl rfl (by simp only [List.map_toArray, List.map_cons, List.map_nil]; rfl) ?_
    with_reducible refine ((uP _ hHeld.1).out).mono ?_
    rintro e w3 ⟨rfl, hb⟩
    refine ⟨_, rfl, ?_⟩
    refine hK.out _ _ ⟨(mkU.out _ hb).1, (mkU.out _ hb).2.1.1, (mkU.out _ hb).2.1.2.1, (mkU.out _ hb).2.1.2.2.1, (mkU.out _ hb).2.1.2.2.2.1, (mkU.out _ hb).2.1.2.2.2.2, (mkU.out _ hb).2.2.1, (mkU.out _ hb).2.2.2.1, (mkU.out _ hb).2.2.2.2.1, (mkU.out _ hb).2.2.2.2.2.1, (mkU.out _ hb).2.2.2.2.2.2⟩ (fun hHeld => ?_)
    clear hK K
    refine norm_ (a' := ?_) ?_ ?_
    rotate_left
    · show Act.put _ (some 41) _ = _
      simp only [Act.put, List.setIfInBounds_toArray, List.set_cons_zero, List.set_cons_succ, i64_w, i32_w]
      rfl
    refine pure_ (i := 3) (N := some 42) (v := ?_) (a' := ?_) #[true, true, true, true, false, false, false, false, false, false, false, false, false, false, false, false, false, false, false, false, false, false, false] rfl rfl (by kernel_rfl) (fun _ _ _ h => h) (Or.inl ⟨by rfl, ?_⟩) ?_ ?_
    rotate_left
    · intro w'
      go_simp
      with_reducible rfl
    rotate_left
    · simp only [Act.put, List.setIfInBounds_toArray, List.set_cons_zero, List.set_cons_succ, i64_w, i32_w]
      rfl
    refine pure_ (i := 4) (N := some 43) (v := ?_) (a' := ?_) #[true, true, true, true, true, false, false, false, false, false, false, false, false, false, false, false, false, false, false, false, false, false, false] rfl rfl (by kernel_rfl) (fun _ _ _ h => h) (Or.inl ⟨by rfl, ?_⟩) ?_ ?_
    rotate_left
    · intro w'
      go_simp
      with_reducible rfl
    rotate_left
    · simp only [Act.put, List.setIfInBounds_toArray, List.set_cons_zero, List.set_cons_succ, i64_w, i32_w]
      rfl
    refine pure_ (i := 5) (N := some 44) (v := ?_) (a' := ?_) #[true, true, true, true, true, true, false, false, false, false, false, false, false, false, false, false, false, false, false, false, false, false, false] rfl rfl (by kernel_rfl) (fun _ _ _ h => h) (Or.inl ⟨by rfl, ?_⟩) ?_ ?_
    rotate_left
    · intro w'
      go_simp
      with_reducible rfl
    rotate_left
    · simp only [Act.put, List.setIfInBounds_toArray, List.set_cons_zero, List.set_cons_succ, i64_w, i32_w]
      rfl
    refine pure_ (i := 6) (N := some 45) (v := ?_) (a' := ?_) #[true, true, true, true, true, true, true, false, false, false, false, false, false, false, false, false, false, false, false, false, false, false, false] rfl rfl (by kernel_rfl) (fun _ _ _ h => h) (Or.inl ⟨by rfl, ?_⟩) ?_ ?_
    rotate_left
    · intro w'
      go_simp
      with_reducible rfl
    rotate_left
    · simp only [Act.put, List.setIfInBounds_toArray, List.set_cons_zero, List.set_cons_succ, i64_w, i32_w]
      rfl
    refine pure_ (i := 7) (N := some 46) (v := ?_) (a' := ?_) #[true, true, true, true, true, true, true, true, false, false, false, false, false, false, false, false, false, false, false, false, false, false, false] rfl rfl (by kernel_rfl) (fun _ _ _ h => h) (Or.inl ⟨by rfl, ?_⟩) ?_ ?_
    rotate_left
    · intro w'
      go_simp
      with_reducible rfl
    rotate_left
    · simp only [Act.put, List.setIfInBounds_toArray, List.set_cons_zero, List.set_cons_succ, i64_w, i32_w]
      rfl
    refine pure_ (i := 8) (N := some 47) (v := ?_) (a' := ?_) #[true, true, true, true, true, true, true, true, true, false, false, false, false, false, false, false, false, false, false, false, false, false, false] rfl rfl (by kernel_rfl) (fun _ _ _ h => h) (Or.inl ⟨by rfl, ?_⟩) ?_ ?_
    rotate_left
    · intro w'
      go_simp
      with_reducible rfl
    rotate_left
    · simp only [Act.put, List.setIfInBounds_toArray, List.set_cons_zero, List.set_cons_succ, i64_w, i32_w]
      rfl
    refine pure_ (i := 9) (N := some 48) (v := ?_) (a' := ?_) #[true, true, true, true, true, true, true, true, true, true, false, false, false, false, false, false, false, false, false, false, false, false, false] rfl rfl (by kernel_rfl) (fun _ _ _ h => h) (Or.inl ⟨by rfl, ?_⟩) ?_ ?_
    rotate_left
    · intro w'
      go_simp
      with_reducible rfl
    rotate_left
    · simp only [Act.put, List.setIfInBounds_toArray, List.set_cons_zero, List.set_cons_succ, i64_w, i32_w]
      rfl
    refine pure_ (i := 10) (N := some 49) (v := ?_) (a' := ?_) #[true, true, true, true, true, true, true, true, true, true, true, false, false, false, false, false, false, false, false, false, false, false, false] rfl rfl (by kernel_rfl) (fun _ _ _ h => h) (Or.inl ⟨by rfl, ?_⟩) ?_ ?_
    rotate_left
    · intro w'
      go_simp
      with_reducible rfl
    rotate_left
    · simp only [Act.put, List.setIfInBounds_toArray, List.set_cons_zero, List.set_cons_succ, i64_w, i32_w]
      rfl
    refine pure_ (i := 11) (N := some 50) (v := ?_) (a' := ?_) #[true, true, true, true, true, true, true, true, true, true, true, true, false, false, false, false, false, false, false, false, false, false, false] rfl rfl (by kernel_rfl) (fun _ _ _ h => h) (Or.inl ⟨by rfl, ?_⟩) ?_ ?_
    rotate_left
    · intro w'
      go_simp
      with_reducible rfl
    rotate_left
    · simp only [Act.put, List.setIfInBounds_toArray, List.set_cons_zero, List.set_cons_succ, i64_w, i32_w]
      rfl
    refine pure_ (i := 12) (N := some 51) (v := ?_) (a' := ?_) #[true, true, true, true, true, true, true, true, true, true, true, true, true, false, false, false, false, false, false, false, false, false, false] rfl rfl (by kernel_rfl) (fun _ _ _ h => h) (Or.inl ⟨by rfl, ?_⟩) ?_ ?_
    rotate_left
    · intro w'
      go_simp
      with_reducible rfl
    rotate_left
    · simp only [Act.put, List.setIfInBounds_toArray, List.set_cons_zero, List.set_cons_succ, i64_w, i32_w]
      rfl
    refine pure_ (i := 13) (N := some 52) (v := ?_) (a' := ?_) #[true, true, true, true, true, true, true, true, true, true, true, true, true, true, false, false, false, false, false, false, false, false, false] rfl rfl (by kernel_rfl) (fun _ _ _ h => h) (Or.inl ⟨by rfl, ?_⟩) ?_ ?_
    rotate_left
    · intro w'
      go_simp
      with_reducible rfl
    rotate_left
    · simp only [Act.put, List.setIfInBounds_toArray, List.set_cons_zero, List.set_cons_succ, i64_w, i32_w]
      rfl
    refine pure_ (i := 14) (N := some 53) (v := ?_) (a' := ?_) #[true, true, true, true, true, true, true, true, true, true, true, true, true, true, true, false, false, false, false, false, false, false, false] rfl rfl (by kernel_rfl) (fun _ _ _ h => h) (Or.inl ⟨by rfl, ?_⟩) ?_ ?_
    rotate_left
    · intro w'
      go_simp
      with_reducible rfl
    rotate_left
    · simp only [Act.put, List.setIfInBounds_toArray, List.set_cons_zero, List.set_cons_succ, i64_w, i32_w]
      rfl
    refine pure_ (i := 15) (N := some 54) (v := ?_) (a' := ?_) #[true, true, true, true, true, true, true, true, true, true, true, true, true, true, true, true, false, false, false, false, false, false, false] rfl rfl (by kernel_rfl) (fun _ _ _ h => h) (Or.inl ⟨by rfl, ?_⟩) ?_ ?_
    rotate_left
    · intro w'
      go_simp
      with_reducible rfl
    rotate_left
    · simp only [Act.put, List.setIfInBounds_toArray, List.set_cons_zero, List.set_cons_succ, i64_w, i32_w]
      rfl
    refine pure_ (i := 16) (N := some 55) (v := ?_) (a' := ?_) #[true, true, true, true, true, true, true, true, true, true, true, true, true, true, true, true, true, false, false, false, false, false, false] rfl rfl (by kernel_rfl) (fun _ _ _ h => h) (Or.inl ⟨by rfl, ?_⟩) ?_ ?_
    rotate_left
    · intro w'
      go_simp
      with_reducible rfl
    rotate_left
    · simp only [Act.put, List.setIfInBounds_toArray, List.set_cons_zero, List.set_cons_succ, i64_w, i32_w]
      rfl
    refine take_ (i := 17) (N := some 56) (v := ?_) (a' := ?_) #[true, true, true, true, true, true, true, true, true, true, true, true, true, true, true, true, true, true, false, false, false, false, false] rfl rfl (by kernel_rfl) (fun _ _ _ h => h) (Or.inl ⟨by rfl, ?_⟩) hHeld ?_ ?_
    rotate_left
    · rintro w' ⟨s0, s1, s2, s3, s4, s5, s6, s7, s8, s9, s10⟩
      go_simp
      with_reducible rfl
    rotate_left
    · simp only [Act.put, List.setIfInBounds_toArray, List.set_cons_zero, List.set_cons_succ, i64_w, i32_w]
      rfl
    refine take_ (i := 18) (N := some 57) (v := ?_) (a' := ?_) #[true, true, true, true, true, true, true, true, true, true, true, true, true, true, true, true, true, true, true, false, false, false, false] rfl rfl (by kernel_rfl) (fun _ _ _ h => h) (Or.inl ⟨by rfl, ?_⟩) hHeld ?_ ?_
    rotate_left
    · rintro w' ⟨s0, s1, s2, s3, s4, s5, s6, s7, s8, s9, s10⟩
      go_simp
      with_reducible rfl
    rotate_left
    · simp only [Act.put, List.setIfInBounds_toArray, List.set_cons_zero, List.set_cons_succ, i64_w, i32_w]
      rfl
    refine one_ (i := 19) (N := some 58) #[true, true, true, true, true, true, true, true, true, true, true, true, true, true, true, true, true, true, true, true, false, false, false] rfl rfl (by kernel_rfl) (by decide) (fun K hK => ?_)
    refine goes_ Tryd.func26 (by kernel_rfl) rfl #[.agg #[.slice A0 l0.length c0, .int .i64 e0, .slice A2 l2.length c2, .int .i64 s0, .slice A4 l4.length c4]] (by rfl) rfl rfl (by simp only [List.map_toArray, List.map_cons, List.map_nil]; rfl) ?_
    with_reducible refine ((uO _ hHeld.1).out).mono ?_
    rintro e w3 ⟨rfl, hb⟩
    refine ⟨_, rfl, ?_⟩
    refine hK.out _ _ ⟨(mkU.out _ hb).1, (mkU.out _ hb).2.1.1, (mkU.out _ hb).2.1.2.1, (mkU.out _ hb).2.1.2.2.1, (mkU.out _ hb).2.1.2.2.2.1, (mkU.out _ hb).2.1.2.2.2.2, (mkU.out _ hb).2.2.1, (mkU.out _ hb).2.2.2.1, (mkU.out _ hb).2.2.2.2.1, (mkU.out _ hb).2.2.2.2.2.1, (mkU.out _ hb).2.2.2.2.2.2⟩ (fun hHeld => ?_)
    clear hK K
    refine norm_ (a' := ?_) ?_ ?_
    rotate_left
    · show Act.put _ (some 58) _ = _
      simp only [Act.put, List.setIfInBounds_toArray, List.set_cons_zero, List.set_cons_succ, i64_w, i32_w]
      rfl
    refine one_ (i := 20) (N := some 59) #[true, true, true, true, true, true, true, true, true, true, true, true, true, true, true, true, true, true, true, true, true, false, false] rfl rfl (by kernel_rfl) (by decide) (fun K hK => ?_)
    refine goes_ Tryd.func27 (by kernel_rfl) rfl #[.agg #[.slice B0 l0.length d0, .int .i64 e0, .slice B2 l2.length d2, .int .i64 s0, .slice B4 l4.length d4], .agg #[.slice A0 l0.length c0, .int .i64 e0, .slice A2 l2.length c2, .int .i64 s0, .slice A4 l4.length c4]] (by rfl) rfl rfl (by simp only [List.map_toArray, List.map_cons, List.map_nil]; rfl) ?_
    with_reducible refine ((uE _ hHeld.1).out).mono ?_
    rintro e w3 ⟨rfl, hb⟩
    refine ⟨_, rfl, ?_⟩
    refine hK.out _ _ ⟨(mkU.out _ hb).1, (mkU.out _ hb).2.1.1, (mkU.out _ hb).2.1.2.1, (mkU.out _ hb).2.1.2.2.1, (mkU.out _ hb).2.1.2.2.2.1, (mkU.out _ hb).2.1.2.2.2.2, (mkU.out _ hb).2.2.1, (mkU.out _ hb).2.2.2.1, (mkU.out _ hb).2.2.2.2.1, (mkU.out _ hb).2.2.2.2.2.1, (mkU.out _ hb).2.2.2.2.2.2⟩ (fun hHeld => ?_)
    clear hK K
    refine norm_ (a' := ?_) ?_ ?_
    rotate_left
    · show Act.put _ (some 59) _ = _
      simp only [Act.put, List.setIfInBounds_toArray, List.set_cons_zero, List.set_cons_succ, i64_w, i32_w]
      rfl
    refine pure_ (i := 21) (N := some 60) (v := ?_) (a' := ?_) #[true, true, true, true, true, true, true, true, true, true, true, true, true, true, true, true, true, true, true, true, true, true, false] rfl rfl (by kernel_rfl) (fun _ _ _ h => h) (Or.inl ⟨by rfl, ?_⟩) ?_ ?_
    rotate_left
    · intro w'
      go_simp
      with_reducible rfl
    rotate_left
    · simp only [Act.put, List.setIfInBounds_toArray, List.set_cons_zero, List.set_cons_succ, i64_w, i32_w]
      rfl
    refine pure_ (i := 22) (N := some 2) (v := ?_) (a' := ?_) #[true, true, true, true, true, true, true, true, true, true, true, true, true, true, true, true, true, true, true, true, true, true, true] rfl rfl (by kernel_rfl) (fun _ _ _ h => h) (Or.inl ⟨by rfl, ?_⟩) ?_ ?_
    rotate_left
    · intro w'
      go_simp
      with_reducible rfl
    rotate_left
    · simp only [Act.put, List.setIfInBounds_toArray, List.set_cons_zero, List.set_cons_succ, i64_w, i32_w]
      rfl
    refine done_ (by kernel_rfl) ?_
    have HB9 := Lib.hid hHeld.1
    go_wp2_with fail
    go_ret
    exact ⟨rfl, HV.out.trans ((HVU.out.trans (HB9.out.mono HVU.out.size)).mono HV.out.size)⟩
end

end Go.Proofs.YtplcfijcmihhlaaDoor
