/-
  The walk of the law ScriptSame.
-/
import Derived.Test.YtplcfijcmihhlaaDoorEq28
import Derived.Test.YtplcfijcmihhlaaDoorSameLaw28
import Derived.Test.YtplcfijcmihhlaaDoorWLast

namespace Go.Proofs.YtplcfijcmihhlaaDoor
open Go.RowKit Go.Proofs.YtplcfijcmihhlaaDoorW.PrintWords Go.Proofs.YtplcfijcmihhlaaDoorW.PrintLast
set_option linter.unusedVariables false
set_option linter.unusedSimpArgs false
attribute [local go_sem] Oper.semAt_some

/-- What an argument of the laws holds. -/
def Fits (l0 : List (List Int)) : Prop := (∀ x ∈ l0, InB x) ∧ l0.length ≤ 1000000000000000 ∧ ∀ x ∈ l0, x.length ≤ 1000000000000000

section
variable {A0 : Option Addr} {c0 : Nat} {l0 : List (List Int)} {e0 : Int} {A2 : Option Addr} {c2 : Nat} {l2 : List Int} {s0 : Int} {A4 : Option Addr} {c4 : Nat} {l4 : List Int} {B0 : Option Addr} {d0 : Nat} {m0 : List (List Int)} {e1 : Int} {B2 : Option Addr} {d2 : Nat} {m2 : List Int} {s1 : Int} {B4 : Option Addr} {d4 : Nat} {m4 : List Int} {W : World}
theorem Long_any (h : ScrC W A0 c0 l0 A2 c2 l2 A4 c4 l4) (hf : Fits l0) : ∃ r, (r = false → SmallS l0 l2 l4) ∧ ∀ V, Below W.heap.size W V →
    Calls Tryd.prog 24 #[.agg #[.slice A0 l0.length c0, .int .i64 e0, .slice A2 l2.length c2, .int .i64 s0, .slice A4 l4.length c4]] V fun e w' => e = .returned (.bool r) ∧ Below V.heap.size V w' := by
  obtain ⟨r, er, hr⟩ := refLong l0 e0 l2 s0 l4 hf.2.1 hf.2.2
  refine ⟨r, hr, fun V hV => ?_⟩
  have k := h.below hV
  exact Plong.catchpitlaw28_long.calls _ A0 c0 l0 e0 A2 c2 l2 s0 A4 c4 l4 r V k.r0 k.k0 k.r2 k.k2 k.r4 k.k4 er
theorem LSame_any (h : ScrC W A0 c0 l0 A2 c2 l2 A4 c4 l4) (k : ScrC W B0 d0 m0 B2 d2 m2 B4 d4 m4) (hs : SmallS l0 l2 l4) :
    Calls Tryd.prog 27 #[.agg #[.slice A0 l0.length c0, .int .i64 e0, .slice A2 l2.length c2, .int .i64 s0, .slice A4 l4.length c4], .agg #[.slice B0 m0.length d0, .int .i64 e1, .slice B2 m2.length d2, .int .i64 s1, .slice B4 m4.length d4]] W fun x w' =>
      x = .returned (.bool (sameS l0 e0 l2 s0 l4 m0 e1 m2 s1 m4)) ∧ Below W.heap.size W w' := by
  obtain ⟨h1, h2, h3⟩ := hs
  have hb := bulk_len l0
  exact Psame.catchpitlaw28_same.calls _ A0 c0 l0 e0 A2 c2 l2 s0 A4 c4 l4 B0 d0 m0 e1 B2 d2 m2 s1 B4 d4 m4 _ W h.r0 h.k0 h.r2 h.k2 h.r4 h.k4 k.r0 k.k0 k.r2 k.k2 k.r4 k.k4
    (refSame28 l0 e0 l2 s0 l4 m0 e1 m2 s1 m4 (by omega) (fun x hx => by have := hb.2 x hx; omega) (by omega) (by omega))

set_option maxHeartbeats 4000000 in
set_option maxRecDepth 100000 in
theorem ScriptSame_any (h : ScrC W A0 c0 l0 A2 c2 l2 A4 c4 l4) (k : ScrC W B0 d0 m0 B2 d2 m2 B4 d4 m4) (f0 : Fits l0) (f1 : Fits m0) (hT : Tabs W W.heap.size) :
    Calls Tryd.prog 6 #[.agg #[.slice A0 l0.length c0, .int .i64 e0, .slice A2 l2.length c2, .int .i64 s0, .slice A4 l4.length c4], .agg #[.slice B0 m0.length d0, .int .i64 e1, .slice B2 m2.length d2, .int .i64 s1, .slice B4 m4.length d4]] W fun x w' =>
      x = .returned (.bool true) ∧ Below W.heap.size W w' := by
  obtain ⟨V, eV, hV, v0, v1⟩ : ∃ V, (W.alloc (.cells #[.slice A0 l0.length c0, .int .i64 e0, .slice A2 l2.length c2, .int .i64 s0, .slice A4 l4.length c4] 49)).alloc (.cells #[.slice B0 m0.length d0, .int .i64 e1, .slice B2 m2.length d2, .int .i64 s1, .slice B4 m4.length d4] 49) = V ∧ Below W.heap.size W V ∧
      V.heap[W.heap.size]? = some (.cells #[.slice A0 l0.length c0, .int .i64 e0, .slice A2 l2.length c2, .int .i64 s0, .slice A4 l4.length c4] 49 (0, 0)) ∧ V.heap[W.heap.size + 1]? = some (.cells #[.slice B0 m0.length d0, .int .i64 e1, .slice B2 m2.length d2, .int .i64 s1, .slice B4 m4.length d4] 49 (0, 0)) :=
    ⟨_, rfl, ((Below.refl _ W).alloc (Nat.le_refl _) _).alloc (by simp) _, by rw [Below.heap_alloc _ _ _ (by simp), World.alloc_heap_new], heap_alloc2_newL _ _ _⟩
  have hv0 := lt_of_heap v0
  have hv1 := lt_of_heap v1
  obtain ⟨r0, hr0, hL0⟩ := Long_any (e0 := e0) (s0 := s0) h f0
  obtain ⟨r1, hr1, hL1⟩ := Long_any (e0 := e1) (s0 := s1) k f1
  have HV := Lib.hid hV
  have H := Lib.hid (h.below hV)
  have K := Lib.hid (k.below hV)
  have V0 := Lib.hid v0
  have V1 := Lib.hid v1
  have HL0 := Lib.hid hL0
  have HL1 := Lib.hid hL1
  have Hr0 := Lib.hid hr0
  have Hr1 := Lib.hid hr1
  have hWk := Lib.hid (wakes_any V ((hT.below hV).up hV.size (Nat.le_refl _)))
  clear h k hV v0 v1 hL0 hL1 hr0 hr1 hT
  go_enter Tryd.func6, Tryd.ntmps6
  go_wp2_with fail
  refine hWk.out.mono ?_; rintro e w1 ⟨rfl, hb1⟩; dsimp only
  have hs1 := hb1.size
  obtain ⟨x0, x1, x2, x3, x4⟩ := cells5 ((hb1.block _ hv0).trans V0.out)
  obtain ⟨y0, y1, y2, y3, y4⟩ := cells5 ((hb1.block _ hv1).trans V1.out)
  have HB1 := Lib.hid (show Below V.heap.size V w1.drew from hb1.drew)
  clear hb1 hWk
  have cL0 := fun V' (hB : Below V.heap.size V V') => Lib.hid ((HL0.out V' (HV.out.trans (hB.mono HV.out.size))).mono fun e w' h => (⟨h.1, hB.trans (h.2.mono hB.size)⟩ : e = .returned (.bool r0) ∧ Below V.heap.size V w'))
  have cL1 := fun V' (hB : Below V.heap.size V V') => Lib.hid ((HL1.out V' (HV.out.trans (hB.mono HV.out.size))).mono fun e w' h => (⟨h.1, hB.trans (h.2.mono hB.size)⟩ : e = .returned (.bool r1) ∧ Below V.heap.size V w'))
  have cO0 := fun V' (hB : Below V.heap.size V V') => Lib.hid ((of_any A0 l0.length c0 e0 A2 l2.length c2 s0 A4 l4.length c4 V').mono fun e w' h => (⟨h.1, hB.trans (h.2.mono hB.size)⟩ : e = _ ∧ Below V.heap.size V w'))
  have cO1 := fun V' (hB : Below V.heap.size V V') => Lib.hid ((of_any B0 m0.length d0 e1 B2 m2.length d2 s1 B4 m4.length d4 V').mono fun e w' h => (⟨h.1, hB.trans (h.2.mono hB.size)⟩ : e = _ ∧ Below V.heap.size V w'))
  have cS := fun V' (hB : Below V.heap.size V V') => Lib.hid ((SSame_any (e0 := e0) (s0 := s0) (e1 := e1) (s1 := s1) (H.out.below hB) (K.out.below hB) f0.1 f1.1).mono fun e w' h => (⟨h.1, hB.trans (h.2.mono hB.size)⟩ : e = _ ∧ Below V.heap.size V w'))
  have cE := fun (hs : SmallS l0 l2 l4) V' (hB : Below V.heap.size V V') => Lib.hid ((LSame_any (e0 := e0) (s0 := s0) (e1 := e1) (s1 := s1) (H.out.below hB) (K.out.below hB) hs).mono fun e w' h => (⟨h.1, hB.trans (h.2.mono hB.size)⟩ : e = _ ∧ Below V.heap.size V w'))
  have mkS : Hid (∀ w', Below V.heap.size V w' → (Below V.heap.size V w' ∧ (w'.cell? ⟨W.heap.size, 0, none⟩ = some (.slice A0 l0.length c0) ∧ w'.cell? ⟨W.heap.size, 1, none⟩ = some (.int .i64 e0) ∧ w'.cell? ⟨W.heap.size, 2, none⟩ = some (.slice A2 l2.length c2) ∧ w'.cell? ⟨W.heap.size, 3, none⟩ = some (.int .i64 s0) ∧ w'.cell? ⟨W.heap.size, 4, none⟩ = some (.slice A4 l4.length c4)) ∧
      (w'.cell? ⟨W.heap.size + 1, 0, none⟩ = some (.slice B0 m0.length d0) ∧ w'.cell? ⟨W.heap.size + 1, 1, none⟩ = some (.int .i64 e1) ∧ w'.cell? ⟨W.heap.size + 1, 2, none⟩ = some (.slice B2 m2.length d2) ∧ w'.cell? ⟨W.heap.size + 1, 3, none⟩ = some (.int .i64 s1) ∧ w'.cell? ⟨W.heap.size + 1, 4, none⟩ = some (.slice B4 m4.length d4)))) :=
    Lib.hid fun w' hB => ⟨hB, cells5 ((hB.block _ hv0).trans V0.out), cells5 ((hB.block _ hv1).trans V1.out)⟩
  have k1 := HB1.out
  go_wp2_with fail
  cases r0
  · cases r1
    · have Hs := Hr0.out rfl
      refine start_ (n := 20) (S := fun w' => Below V.heap.size V w' ∧ w'.cell? ⟨W.heap.size, 0, none⟩ = some (.slice A0 l0.length c0) ∧ w'.cell? ⟨W.heap.size, 1, none⟩ = some (.int .i64 e0) ∧ w'.cell? ⟨W.heap.size, 2, none⟩ = some (.slice A2 l2.length c2) ∧ w'.cell? ⟨W.heap.size, 3, none⟩ = some (.int .i64 s0) ∧ w'.cell? ⟨W.heap.size, 4, none⟩ = some (.slice A4 l4.length c4) ∧ w'.cell? ⟨W.heap.size + 1, 0, none⟩ = some (.slice B0 m0.length d0) ∧ w'.cell? ⟨W.heap.size + 1, 1, none⟩ = some (.int .i64 e1) ∧ w'.cell? ⟨W.heap.size + 1, 2, none⟩ = some (.slice B2 m2.length d2) ∧ w'.cell? ⟨W.heap.size + 1, 3, none⟩ = some (.int .i64 s1) ∧ w'.cell? ⟨W.heap.size + 1, 4, none⟩ = some (.slice B4 m4.length d4)) (ds := []) #[false, false, false, false, false, false, false, false, false, false, false, false, false, false, false, false, false, false, false, false] (by kernel_rfl) rfl rfl ⟨(mkS.out _ HB1.out).1, (mkS.out _ HB1.out).2.1.1, (mkS.out _ HB1.out).2.1.2.1, (mkS.out _ HB1.out).2.1.2.2.1, (mkS.out _ HB1.out).2.1.2.2.2.1, (mkS.out _ HB1.out).2.1.2.2.2.2, (mkS.out _ HB1.out).2.2.1, (mkS.out _ HB1.out).2.2.2.1, (mkS.out _ HB1.out).2.2.2.2.1, (mkS.out _ HB1.out).2.2.2.2.2.1, (mkS.out _ HB1.out).2.2.2.2.2.2⟩ (fun hHeld => ?_)
      refine take_ (i := 0) (N := some 7) (v := ?_) (a' := ?_) #[true, false, false, false, false, false, false, false, false, false, false, false, false, false, false, false, false, false, false, false] rfl rfl (by kernel_rfl) (fun _ _ _ h => h) (Or.inl ⟨by rfl, ?_⟩) hHeld ?_ ?_
      rotate_left
      · rintro w' ⟨s0, s1, s2, s3, s4, s5, s6, s7, s8, s9, s10⟩
        go_simp
        with_reducible rfl
      rotate_left
      · simp only [Act.put, List.setIfInBounds_toArray, List.set_cons_zero, List.set_cons_succ, i64_w, i32_w]
        rfl
      refine one_ (i := 1) (N := some 8) #[true, true, false, false, false, false, false, false, false, false, false, false, false, false, false, false, false, false, false, false] rfl rfl (by kernel_rfl) (by decide) (fun K hK => ?_)
      refine goes_ Tryd.func24 (by kernel_rfl) rfl #[.agg #[.slice A0 l0.length c0, .int .i64 e0, .slice A2 l2.length c2, .int .i64 s0, .slice A4 l4.length c4]] (by rfl) rfl rfl (by simp only [List.map_toArray, List.map_cons, List.map_nil]; rfl) ?_
      with_reducible refine ((cL0 _ hHeld.1).out).mono ?_
      rintro e w3 ⟨rfl, hb⟩
      refine ⟨_, rfl, ?_⟩
      refine hK.out _ _ ⟨(mkS.out _ hb).1, (mkS.out _ hb).2.1.1, (mkS.out _ hb).2.1.2.1, (mkS.out _ hb).2.1.2.2.1, (mkS.out _ hb).2.1.2.2.2.1, (mkS.out _ hb).2.1.2.2.2.2, (mkS.out _ hb).2.2.1, (mkS.out _ hb).2.2.2.1, (mkS.out _ hb).2.2.2.2.1, (mkS.out _ hb).2.2.2.2.2.1, (mkS.out _ hb).2.2.2.2.2.2⟩ (fun hHeld => ?_)
      clear hK K
      refine norm_ (a' := ?_) ?_ ?_
      rotate_left
      · show Act.put _ (some 8) _ = _
        simp only [Act.put, List.setIfInBounds_toArray, List.set_cons_zero, List.set_cons_succ, i64_w, i32_w]
        rfl
      refine pure_ (i := 2) (N := some 9) (v := ?_) (a' := ?_) #[true, true, true, false, false, false, false, false, false, false, false, false, false, false, false, false, false, false, false, false] rfl rfl (by kernel_rfl) (fun _ _ _ h => h) (Or.inl ⟨by rfl, ?_⟩) ?_ ?_
      rotate_left
      · intro w'
        go_simp
        with_reducible rfl
      rotate_left
      · simp only [Act.put, List.setIfInBounds_toArray, List.set_cons_zero, List.set_cons_succ, i64_w, i32_w]
        rfl
      refine take_ (i := 3) (N := some 10) (v := ?_) (a' := ?_) #[true, true, true, true, false, false, false, false, false, false, false, false, false, false, false, false, false, false, false, false] rfl rfl (by kernel_rfl) (fun _ _ _ h => h) (Or.inl ⟨by rfl, ?_⟩) hHeld ?_ ?_
      rotate_left
      · rintro w' ⟨s0, s1, s2, s3, s4, s5, s6, s7, s8, s9, s10⟩
        go_simp
        with_reducible rfl
      rotate_left
      · simp only [Act.put, List.setIfInBounds_toArray, List.set_cons_zero, List.set_cons_succ, i64_w, i32_w]
        rfl
      refine one_ (i := 4) (N := some 11) #[true, true, true, true, true, false, false, false, false, false, false, false, false, false, false, false, false, false, false, false] rfl rfl (by kernel_rfl) (by decide) (fun K hK => ?_)
      refine goes_ Tryd.func24 (by kernel_rfl) rfl #[.agg #[.slice B0 m0.length d0, .int .i64 e1, .slice B2 m2.length d2, .int .i64 s1, .slice B4 m4.length d4]] (by rfl) rfl rfl (by simp only [List.map_toArray, List.map_cons, List.map_nil]; rfl) ?_
      with_reducible refine ((cL1 _ hHeld.1).out).mono ?_
      rintro e w3 ⟨rfl, hb⟩
      refine ⟨_, rfl, ?_⟩
      refine hK.out _ _ ⟨(mkS.out _ hb).1, (mkS.out _ hb).2.1.1, (mkS.out _ hb).2.1.2.1, (mkS.out _ hb).2.1.2.2.1, (mkS.out _ hb).2.1.2.2.2.1, (mkS.out _ hb).2.1.2.2.2.2, (mkS.out _ hb).2.2.1, (mkS.out _ hb).2.2.2.1, (mkS.out _ hb).2.2.2.2.1, (mkS.out _ hb).2.2.2.2.2.1, (mkS.out _ hb).2.2.2.2.2.2⟩ (fun hHeld => ?_)
      clear hK K
      refine norm_ (a' := ?_) ?_ ?_
      rotate_left
      · show Act.put _ (some 11) _ = _
        simp only [Act.put, List.setIfInBounds_toArray, List.set_cons_zero, List.set_cons_succ, i64_w, i32_w]
        rfl
      refine pure_ (i := 5) (N := some 12) (v := ?_) (a' := ?_) #[true, true, true, true, true, true, false, false, false, false, false, false, false, false, false, false, false, false, false, false] rfl rfl (by kernel_rfl) (fun _ _ _ h => h) (Or.inl ⟨by rfl, ?_⟩) ?_ ?_
      rotate_left
      · intro w'
        go_simp
        with_reducible rfl
      rotate_left
      · simp only [Act.put, List.setIfInBounds_toArray, List.set_cons_zero, List.set_cons_succ, i64_w, i32_w]
        rfl
      refine pure_ (i := 6) (N := some 13) (v := ?_) (a' := ?_) #[true, true, true, true, true, true, true, false, false, false, false, false, false, false, false, false, false, false, false, false] rfl rfl (by kernel_rfl) (fun _ _ _ h => h) (Or.inl ⟨by rfl, ?_⟩) ?_ ?_
      rotate_left
      · intro w'
        go_simp
        with_reducible rfl
      rotate_left
      · simp only [Act.put, List.setIfInBounds_toArray, List.set_cons_zero, List.set_cons_succ, i64_w, i32_w]
        rfl
      refine take_ (i := 7) (N := some 14) (v := ?_) (a' := ?_) #[true, true, true, true, true, true, true, true, false, false, false, false, false, false, false, false, false, false, false, false] rfl rfl (by kernel_rfl) (fun _ _ _ h => h) (Or.inl ⟨by rfl, ?_⟩) hHeld ?_ ?_
      rotate_left
      · rintro w' ⟨s0, s1, s2, s3, s4, s5, s6, s7, s8, s9, s10⟩
        go_simp
        with_reducible rfl
      rotate_left
      · simp only [Act.put, List.setIfInBounds_toArray, List.set_cons_zero, List.set_cons_succ, i64_w, i32_w]
        rfl
      refine take_ (i := 9) (N := some 16) (v := ?_) (a' := ?_) #[true, true, true, true, true, true, true, true, false, true, false, false, false, false, false, false, false, false, false, false] rfl rfl (by kernel_rfl) (fun _ _ _ h => h) (Or.inl ⟨by rfl, ?_⟩) hHeld ?_ ?_
      rotate_left
      · rintro w' ⟨s0, s1, s2, s3, s4, s5, s6, s7, s8, s9, s10⟩
        go_simp
        with_reducible rfl
      rotate_left
      · simp only [Act.put, List.setIfInBounds_toArray, List.set_cons_zero, List.set_cons_succ, i64_w, i32_w]
        rfl
      refine take_ (i := 12) (N := some 19) (v := ?_) (a' := ?_) #[true, true, true, true, true, true, true, true, false, true, false, false, true, false, false, false, false, false, false, false] rfl rfl (by kernel_rfl) (fun _ _ _ h => h) (Or.inl ⟨by rfl, ?_⟩) hHeld ?_ ?_
      rotate_left
      · rintro w' ⟨s0, s1, s2, s3, s4, s5, s6, s7, s8, s9, s10⟩
        go_simp
        with_reducible rfl
      rotate_left
      · simp only [Act.put, List.setIfInBounds_toArray, List.set_cons_zero, List.set_cons_succ, i64_w, i32_w]
        rfl
      refine take_ (i := 14) (N := some 21) (v := ?_) (a' := ?_) #[true, true, true, true, true, true, true, true, false, true, false, false, true, false, true, false, false, false, false, false] rfl rfl (by kernel_rfl) (fun _ _ _ h => h) (Or.inl ⟨by rfl, ?_⟩) hHeld ?_ ?_
      rotate_left
      · rintro w' ⟨s0, s1, s2, s3, s4, s5, s6, s7, s8, s9, s10⟩
        go_simp
        with_reducible rfl
      rotate_left
      · simp only [Act.put, List.setIfInBounds_toArray, List.set_cons_zero, List.set_cons_succ, i64_w, i32_w]
        rfl
      refine one_ (i := 8) (N := some 15) #[true, true, true, true, true, true, true, true, true, true, false, false, true, false, true, false, false, false, false, false] rfl rfl (by kernel_rfl) (by decide) (fun K hK => ?_)
      refine goes_ Tryd.func26 (by kernel_rfl) rfl #[.agg #[.slice A0 l0.length c0, .int .i64 e0, .slice A2 l2.length c2, .int .i64 s0, .slice A4 l4.length c4]] (by rfl) rfl rfl (by simp only [List.map_toArray, List.map_cons, List.map_nil]; rfl) ?_
      with_reducible refine ((cO0 _ hHeld.1).out).mono ?_
      rintro e w3 ⟨rfl, hb⟩
      refine ⟨_, rfl, ?_⟩
      refine hK.out _ _ ⟨(mkS.out _ hb).1, (mkS.out _ hb).2.1.1, (mkS.out _ hb).2.1.2.1, (mkS.out _ hb).2.1.2.2.1, (mkS.out _ hb).2.1.2.2.2.1, (mkS.out _ hb).2.1.2.2.2.2, (mkS.out _ hb).2.2.1, (mkS.out _ hb).2.2.2.1, (mkS.out _ hb).2.2.2.2.1, (mkS.out _ hb).2.2.2.2.2.1, (mkS.out _ hb).2.2.2.2.2.2⟩ (fun hHeld => ?_)
      clear hK K
      refine norm_ (a' := ?_) ?_ ?_
      rotate_left
      · show Act.put _ (some 15) _ = _
        simp only [Act.put, List.setIfInBounds_toArray, List.set_cons_zero, List.set_cons_succ, i64_w, i32_w]
        rfl
      refine one_ (i := 10) (N := some 17) #[true, true, true, true, true, true, true, true, true, true, true, false, true, false, true, false, false, false, false, false] rfl rfl (by kernel_rfl) (by decide) (fun K hK => ?_)
      refine goes_ Tryd.func26 (by kernel_rfl) rfl #[.agg #[.slice B0 m0.length d0, .int .i64 e1, .slice B2 m2.length d2, .int .i64 s1, .slice B4 m4.length d4]] (by rfl) rfl rfl (by simp only [List.map_toArray, List.map_cons, List.map_nil]; rfl) ?_
      with_reducible refine ((cO1 _ hHeld.1).out).mono ?_
      rintro e w3 ⟨rfl, hb⟩
      refine ⟨_, rfl, ?_⟩
      refine hK.out _ _ ⟨(mkS.out _ hb).1, (mkS.out _ hb).2.1.1, (mkS.out _ hb).2.1.2.1, (mkS.out _ hb).2.1.2.2.1, (mkS.out _ hb).2.1.2.2.2.1, (mkS.out _ hb).2.1.2.2.2.2, (mkS.out _ hb).2.2.1, (mkS.out _ hb).2.2.2.1, (mkS.out _ hb).2.2.2.2.1, (mkS.out _ hb).2.2.2.2.2.1, (mkS.out _ hb).2.2.2.2.2.2⟩ (fun hHeld => ?_)
      clear hK K
      refine norm_ (a' := ?_) ?_ ?_
      rotate_left
      · show Act.put _ (some 17) _ = _
        simp only [Act.put, List.setIfInBounds_toArray, List.set_cons_zero, List.set_cons_succ, i64_w, i32_w]
        rfl
      refine one_ (i := 11) (N := some 18) #[true, true, true, true, true, true, true, true, true, true, true, true, true, false, true, false, false, false, false, false] rfl rfl (by kernel_rfl) (by decide) (fun K hK => ?_)
      refine goes_ Tryd.func25 (by kernel_rfl) rfl #[.agg #[.slice A0 l0.length c0, .int .i64 e0, .slice A2 l2.length c2, .int .i64 s0, .slice A4 l4.length c4], .agg #[.slice B0 m0.length d0, .int .i64 e1, .slice B2 m2.length d2, .int .i64 s1, .slice B4 m4.length d4]] (by rfl) rfl rfl (by simp only [List.map_toArray, List.map_cons, List.map_nil]; rfl) ?_
      with_reducible refine ((cS _ hHeld.1).out).mono ?_
      rintro e w3 ⟨rfl, hb⟩
      refine ⟨_, rfl, ?_⟩
      refine hK.out _ _ ⟨(mkS.out _ hb).1, (mkS.out _ hb).2.1.1, (mkS.out _ hb).2.1.2.1, (mkS.out _ hb).2.1.2.2.1, (mkS.out _ hb).2.1.2.2.2.1, (mkS.out _ hb).2.1.2.2.2.2, (mkS.out _ hb).2.2.1, (mkS.out _ hb).2.2.2.1, (mkS.out _ hb).2.2.2.2.1, (mkS.out _ hb).2.2.2.2.2.1, (mkS.out _ hb).2.2.2.2.2.2⟩ (fun hHeld => ?_)
      clear hK K
      refine norm_ (a' := ?_) ?_ ?_
      rotate_left
      · show Act.put _ (some 18) _ = _
        simp only [Act.put, List.setIfInBounds_toArray, List.set_cons_zero, List.set_cons_succ, i64_w, i32_w]
        rfl
      refine one_ (i := 13) (N := some 20) #[true, true, true, true, true, true, true, true, true, true, true, true, true, true, true, false, false, false, false, false] rfl rfl (by kernel_rfl) (by decide) (fun K hK => ?_)
      refine goes_ Tryd.func26 (by kernel_rfl) rfl #[.agg #[.slice A0 l0.length c0, .int .i64 e0, .slice A2 l2.length c2, .int .i64 s0, .slice A4 l4.length c4]] (by rfl) rfl rfl (by simp only [List.map_toArray, List.map_cons, List.map_nil]; rfl) ?_
      with_reducible refine ((cO0 _ hHeld.1).out).mono ?_
      rintro e w3 ⟨rfl, hb⟩
      refine ⟨_, rfl, ?_⟩
      refine hK.out _ _ ⟨(mkS.out _ hb).1, (mkS.out _ hb).2.1.1, (mkS.out _ hb).2.1.2.1, (mkS.out _ hb).2.1.2.2.1, (mkS.out _ hb).2.1.2.2.2.1, (mkS.out _ hb).2.1.2.2.2.2, (mkS.out _ hb).2.2.1, (mkS.out _ hb).2.2.2.1, (mkS.out _ hb).2.2.2.2.1, (mkS.out _ hb).2.2.2.2.2.1, (mkS.out _ hb).2.2.2.2.2.2⟩ (fun hHeld => ?_)
      clear hK K
      refine norm_ (a' := ?_) ?_ ?_
      rotate_left
      · show Act.put _ (some 20) _ = _
        simp only [Act.put, List.setIfInBounds_toArray, List.set_cons_zero, List.set_cons_succ, i64_w, i32_w]
        rfl
      refine one_ (i := 15) (N := some 22) #[true, true, true, true, true, true, true, true, true, true, true, true, true, true, true, true, false, false, false, false] rfl rfl (by kernel_rfl) (by decide) (fun K hK => ?_)
      refine goes_ Tryd.func26 (by kernel_rfl) rfl #[.agg #[.slice B0 m0.length d0, .int .i64 e1, .slice B2 m2.length d2, .int .i64 s1, .slice B4 m4.length d4]] (by rfl) rfl rfl (by simp only [List.map_toArray, List.map_cons, List.map_nil]; rfl) ?_
      with_reducible refine ((cO1 _ hHeld.1).out).mono ?_
      rintro e w3 ⟨rfl, hb⟩
      refine ⟨_, rfl, ?_⟩
      refine hK.out _ _ ⟨(mkS.out _ hb).1, (mkS.out _ hb).2.1.1, (mkS.out _ hb).2.1.2.1, (mkS.out _ hb).2.1.2.2.1, (mkS.out _ hb).2.1.2.2.2.1, (mkS.out _ hb).2.1.2.2.2.2, (mkS.out _ hb).2.2.1, (mkS.out _ hb).2.2.2.1, (mkS.out _ hb).2.2.2.2.1, (mkS.out _ hb).2.2.2.2.2.1, (mkS.out _ hb).2.2.2.2.2.2⟩ (fun hHeld => ?_)
      clear hK K
      refine norm_ (a' := ?_) ?_ ?_
      rotate_left
      · show Act.put _ (some 22) _ = _
        simp only [Act.put, List.setIfInBounds_toArray, List.set_cons_zero, List.set_cons_succ, i64_w, i32_w]
        rfl
      refine one_ (i := 16) (N := some 23) #[true, true, true, true, true, true, true, true, true, true, true, true, true, true, true, true, true, false, false, false] rfl rfl (by kernel_rfl) (by decide) (fun K hK => ?_)
      refine goes_ Tryd.func27 (by kernel_rfl) rfl #[.agg #[.slice A0 l0.length c0, .int .i64 e0, .slice A2 l2.length c2, .int .i64 s0, .slice A4 l4.length c4], .agg #[.slice B0 m0.length d0, .int .i64 e1, .slice B2 m2.length d2, .int .i64 s1, .slice B4 m4.length d4]] (by rfl) rfl rfl (by simp only [List.map_toArray, List.map_cons, List.map_nil]; rfl) ?_
      with_reducible refine ((cE Hs _ hHeld.1).out).mono ?_
      rintro e w3 ⟨rfl, hb⟩
      refine ⟨_, rfl, ?_⟩
      refine hK.out _ _ ⟨(mkS.out _ hb).1, (mkS.out _ hb).2.1.1, (mkS.out _ hb).2.1.2.1, (mkS.out _ hb).2.1.2.2.1, (mkS.out _ hb).2.1.2.2.2.1, (mkS.out _ hb).2.1.2.2.2.2, (mkS.out _ hb).2.2.1, (mkS.out _ hb).2.2.2.1, (mkS.out _ hb).2.2.2.2.1, (mkS.out _ hb).2.2.2.2.2.1, (mkS.out _ hb).2.2.2.2.2.2⟩ (fun hHeld => ?_)
      clear hK K
      refine norm_ (a' := ?_) ?_ ?_
      rotate_left
      · show Act.put _ (some 23) _ = _
        simp only [Act.put, List.setIfInBounds_toArray, List.set_cons_zero, List.set_cons_succ, i64_w, i32_w]
        rfl
      refine pure_ (i := 17) (N := some 24) (v := ?_) (a' := ?_) #[true, true, true, true, true, true, true, true, true, true, true, true, true, true, true, true, true, true, false, false] rfl rfl (by kernel_rfl) (fun _ _ _ h => h) (Or.inl ⟨by rfl, ?_⟩) ?_ ?_
      rotate_left
      · intro w'
        go_simp
        with_reducible rfl
      rotate_left
      · simp only [Act.put, List.setIfInBounds_toArray, List.set_cons_zero, List.set_cons_succ, i64_w, i32_w]
        rfl
      refine pure_ (i := 18) (N := some 25) (v := ?_) (a' := ?_) #[true, true, true, true, true, true, true, true, true, true, true, true, true, true, true, true, true, true, true, false] rfl rfl (by kernel_rfl) (fun _ _ _ h => h) (Or.inl ⟨by rfl, ?_⟩) ?_ ?_
      rotate_left
      · intro w'
        go_simp
        with_reducible rfl
      rotate_left
      · simp only [Act.put, List.setIfInBounds_toArray, List.set_cons_zero, List.set_cons_succ, i64_w, i32_w]
        rfl
      refine pure_ (i := 19) (N := some 4) (v := ?_) (a' := ?_) #[true, true, true, true, true, true, true, true, true, true, true, true, true, true, true, true, true, true, true, true] rfl rfl (by kernel_rfl) (fun _ _ _ h => h) (Or.inl ⟨by rfl, ?_⟩) ?_ ?_
      rotate_left
      · intro w'
        go_simp
        with_reducible rfl
      rotate_left
      · simp only [Act.put, List.setIfInBounds_toArray, List.set_cons_zero, List.set_cons_succ, i64_w, i32_w]
        rfl
      refine done_ (by kernel_rfl) ?_
      have hB9 := hHeld.1
      go_wp2_with fail
      go_ret
      exact ⟨by simp, HV.out.trans (hB9.mono HV.out.size)⟩
    · skip
      refine start_ (n := 20) (S := fun w' => Below V.heap.size V w' ∧ w'.cell? ⟨W.heap.size, 0, none⟩ = some (.slice A0 l0.length c0) ∧ w'.cell? ⟨W.heap.size, 1, none⟩ = some (.int .i64 e0) ∧ w'.cell? ⟨W.heap.size, 2, none⟩ = some (.slice A2 l2.length c2) ∧ w'.cell? ⟨W.heap.size, 3, none⟩ = some (.int .i64 s0) ∧ w'.cell? ⟨W.heap.size, 4, none⟩ = some (.slice A4 l4.length c4) ∧ w'.cell? ⟨W.heap.size + 1, 0, none⟩ = some (.slice B0 m0.length d0) ∧ w'.cell? ⟨W.heap.size + 1, 1, none⟩ = some (.int .i64 e1) ∧ w'.cell? ⟨W.heap.size + 1, 2, none⟩ = some (.slice B2 m2.length d2) ∧ w'.cell? ⟨W.heap.size + 1, 3, none⟩ = some (.int .i64 s1) ∧ w'.cell? ⟨W.heap.size + 1, 4, none⟩ = some (.slice B4 m4.length d4)) (ds := []) #[false, false, false, false, false, false, false, false, false, false, false, false, false, false, false, false, false, false, false, false] (by kernel_rfl) rfl rfl ⟨(mkS.out _ HB1.out).1, (mkS.out _ HB1.out).2.1.1, (mkS.out _ HB1.out).2.1.2.1, (mkS.out _ HB1.out).2.1.2.2.1, (mkS.out _ HB1.out).2.1.2.2.2.1, (mkS.out _ HB1.out).2.1.2.2.2.2, (mkS.out _ HB1.out).2.2.1, (mkS.out _ HB1.out).2.2.2.1, (mkS.out _ HB1.out).2.2.2.2.1, (mkS.out _ HB1.out).2.2.2.2.2.1, (mkS.out _ HB1.out).2.2.2.2.2.2⟩ (fun hHeld => ?_)
      refine take_ (i := 0) (N := some 7) (v := ?_) (a' := ?_) #[true, false, false, false, false, false, false, false, false, false, false, false, false, false, false, false, false, false, false, false] rfl rfl (by kernel_rfl) (fun _ _ _ h => h) (Or.inl ⟨by rfl, ?_⟩) hHeld ?_ ?_
      rotate_left
      · rintro w' ⟨s0, s1, s2, s3, s4, s5, s6, s7, s8, s9, s10⟩
        go_simp
        with_reducible rfl
      rotate_left
      · simp only [Act.put, List.setIfInBounds_toArray, List.set_cons_zero, List.set_cons_succ, i64_w, i32_w]
        rfl
      refine one_ (i := 1) (N := some 8) #[true, true, false, false, false, false, false, false, false, false, false, false, false, false, false, false, false, false, false, false] rfl rfl (by kernel_rfl) (by decide) (fun K hK => ?_)
      refine goes_ Tryd.func24 (by kernel_rfl) rfl #[.agg #[.slice A0 l0.length c0, .int .i64 e0, .slice A2 l2.length c2, .int .i64 s0, .slice A4 l4.length c4]] (by rfl) rfl rfl (by simp only [List.map_toArray, List.map_cons, List.map_nil]; rfl) ?_
      with_reducible refine ((cL0 _ hHeld.1).out).mono ?_
      rintro e w3 ⟨rfl, hb⟩
      refine ⟨_, rfl, ?_⟩
      refine hK.out _ _ ⟨(mkS.out _ hb).1, (mkS.out _ hb).2.1.1, (mkS.out _ hb).2.1.2.1, (mkS.out _ hb).2.1.2.2.1, (mkS.out _ hb).2.1.2.2.2.1, (mkS.out _ hb).2.1.2.2.2.2, (mkS.out _ hb).2.2.1, (mkS.out _ hb).2.2.2.1, (mkS.out _ hb).2.2.2.2.1, (mkS.out _ hb).2.2.2.2.2.1, (mkS.out _ hb).2.2.2.2.2.2⟩ (fun hHeld => ?_)
      clear hK K
      refine norm_ (a' := ?_) ?_ ?_
      rotate_left
      · show Act.put _ (some 8) _ = _
        simp only [Act.put, List.setIfInBounds_toArray, List.set_cons_zero, List.set_cons_succ, i64_w, i32_w]
        rfl
      refine pure_ (i := 2) (N := some 9) (v := ?_) (a' := ?_) #[true, true, true, false, false, false, false, false, false, false, false, false, false, false, false, false, false, false, false, false] rfl rfl (by kernel_rfl) (fun _ _ _ h => h) (Or.inl ⟨by rfl, ?_⟩) ?_ ?_
      rotate_left
      · intro w'
        go_simp
        with_reducible rfl
      rotate_left
      · simp only [Act.put, List.setIfInBounds_toArray, List.set_cons_zero, List.set_cons_succ, i64_w, i32_w]
        rfl
      refine take_ (i := 3) (N := some 10) (v := ?_) (a' := ?_) #[true, true, true, true, false, false, false, false, false, false, false, false, false, false, false, false, false, false, false, false] rfl rfl (by kernel_rfl) (fun _ _ _ h => h) (Or.inl ⟨by rfl, ?_⟩) hHeld ?_ ?_
      rotate_left
      · rintro w' ⟨s0, s1, s2, s3, s4, s5, s6, s7, s8, s9, s10⟩
        go_simp
        with_reducible rfl
      rotate_left
      · simp only [Act.put, List.setIfInBounds_toArray, List.set_cons_zero, List.set_cons_succ, i64_w, i32_w]
        rfl
      refine one_ (i := 4) (N := some 11) #[true, true, true, true, true, false, false, false, false, false, false, false, false, false, false, false, false, false, false, false] rfl rfl (by kernel_rfl) (by decide) (fun K hK => ?_)
      refine goes_ Tryd.func24 (by kernel_rfl) rfl #[.agg #[.slice B0 m0.length d0, .int .i64 e1, .slice B2 m2.length d2, .int .i64 s1, .slice B4 m4.length d4]] (by rfl) rfl rfl (by simp only [List.map_toArray, List.map_cons, List.map_nil]; rfl) ?_
      with_reducible refine ((cL1 _ hHeld.1).out).mono ?_
      rintro e w3 ⟨rfl, hb⟩
      refine ⟨_, rfl, ?_⟩
      refine hK.out _ _ ⟨(mkS.out _ hb).1, (mkS.out _ hb).2.1.1, (mkS.out _ hb).2.1.2.1, (mkS.out _ hb).2.1.2.2.1, (mkS.out _ hb).2.1.2.2.2.1, (mkS.out _ hb).2.1.2.2.2.2, (mkS.out _ hb).2.2.1, (mkS.out _ hb).2.2.2.1, (mkS.out _ hb).2.2.2.2.1, (mkS.out _ hb).2.2.2.2.2.1, (mkS.out _ hb).2.2.2.2.2.2⟩ (fun hHeld => ?_)
      clear hK K
      refine norm_ (a' := ?_) ?_ ?_
      rotate_left
      · show Act.put _ (some 11) _ = _
        simp only [Act.put, List.setIfInBounds_toArray, List.set_cons_zero, List.set_cons_succ, i64_w, i32_w]
        rfl
      refine pure_ (i := 5) (N := some 12) (v := ?_) (a' := ?_) #[true, true, true, true, true, true, false, false, false, false, false, false, false, false, false, false, false, false, false, false] rfl rfl (by kernel_rfl) (fun _ _ _ h => h) (Or.inl ⟨by rfl, ?_⟩) ?_ ?_
      rotate_left
      · intro w'
        go_simp
        with_reducible rfl
      rotate_left
      · simp only [Act.put, List.setIfInBounds_toArray, List.set_cons_zero, List.set_cons_succ, i64_w, i32_w]
        rfl
      refine pure_ (i := 6) (N := some 13) (v := ?_) (a' := ?_) #[true, true, true, true, true, true, true, false, false, false, false, false, false, false, false, false, false, false, false, false] rfl rfl (by kernel_rfl) (fun _ _ _ h => h) (Or.inl ⟨by rfl, ?_⟩) ?_ ?_
      rotate_left
      · intro w'
        go_simp
        with_reducible rfl
      rotate_left
      · simp only [Act.put, List.setIfInBounds_toArray, List.set_cons_zero, List.set_cons_succ, i64_w, i32_w]
        rfl
      refine pure_ (i := 7) (N := some 14) (v := undef) (a' := ?_) #[true, true, true, true, true, true, true, true, false, false, false, false, false, false, false, false, false, false, false, false] rfl rfl (by kernel_rfl) (fun _ _ _ h => h) (Or.inr ⟨by rfl, rfl⟩) ?_ ?_
      rotate_left
      · simp only [Act.put, List.setIfInBounds_toArray, List.set_cons_zero, List.set_cons_succ, i64_w, i32_w]
        rfl
      refine pure_ (i := 8) (N := some 15) (v := undef) (a' := ?_) #[true, true, true, true, true, true, true, true, true, false, false, false, false, false, false, false, false, false, false, false] rfl rfl (by kernel_rfl) (fun _ _ _ h => h) (Or.inr ⟨by rfl, rfl⟩) ?_ ?_
      rotate_left
      · simp only [Act.put, List.setIfInBounds_toArray, List.set_cons_zero, List.set_cons_succ, i64_w, i32_w]
        rfl
      refine pure_ (i := 9) (N := some 16) (v := undef) (a' := ?_) #[true, true, true, true, true, true, true, true, true, true, false, false, false, false, false, false, false, false, false, false] rfl rfl (by kernel_rfl) (fun _ _ _ h => h) (Or.inr ⟨by rfl, rfl⟩) ?_ ?_
      rotate_left
      · simp only [Act.put, List.setIfInBounds_toArray, List.set_cons_zero, List.set_cons_succ, i64_w, i32_w]
        rfl
      refine pure_ (i := 10) (N := some 17) (v := undef) (a' := ?_) #[true, true, true, true, true, true, true, true, true, true, true, false, false, false, false, false, false, false, false, false] rfl rfl (by kernel_rfl) (fun _ _ _ h => h) (Or.inr ⟨by rfl, rfl⟩) ?_ ?_
      rotate_left
      · simp only [Act.put, List.setIfInBounds_toArray, List.set_cons_zero, List.set_cons_succ, i64_w, i32_w]
        rfl
      refine pure_ (i := 11) (N := some 18) (v := undef) (a' := ?_) #[true, true, true, true, true, true, true, true, true, true, true, true, false, false, false, false, false, false, false, false] rfl rfl (by kernel_rfl) (fun _ _ _ h => h) (Or.inr ⟨by rfl, rfl⟩) ?_ ?_
      rotate_left
      · simp only [Act.put, List.setIfInBounds_toArray, List.set_cons_zero, List.set_cons_succ, i64_w, i32_w]
        rfl
      refine pure_ (i := 12) (N := some 19) (v := undef) (a' := ?_) #[true, true, true, true, true, true, true, true, true, true, true, true, true, false, false, false, false, false, false, false] rfl rfl (by kernel_rfl) (fun _ _ _ h => h) (Or.inr ⟨by rfl, rfl⟩) ?_ ?_
      rotate_left
      · simp only [Act.put, List.setIfInBounds_toArray, List.set_cons_zero, List.set_cons_succ, i64_w, i32_w]
        rfl
      refine pure_ (i := 13) (N := some 20) (v := undef) (a' := ?_) #[true, true, true, true, true, true, true, true, true, true, true, true, true, true, false, false, false, false, false, false] rfl rfl (by kernel_rfl) (fun _ _ _ h => h) (Or.inr ⟨by rfl, rfl⟩) ?_ ?_
      rotate_left
      · simp only [Act.put, List.setIfInBounds_toArray, List.set_cons_zero, List.set_cons_succ, i64_w, i32_w]
        rfl
      refine pure_ (i := 14) (N := some 21) (v := undef) (a' := ?_) #[true, true, true, true, true, true, true, true, true, true, true, true, true, true, true, false, false, false, false, false] rfl rfl (by kernel_rfl) (fun _ _ _ h => h) (Or.inr ⟨by rfl, rfl⟩) ?_ ?_
      rotate_left
      · simp only [Act.put, List.setIfInBounds_toArray, List.set_cons_zero, List.set_cons_succ, i64_w, i32_w]
        rfl
      refine pure_ (i := 15) (N := some 22) (v := undef) (a' := ?_) #[true, true, true, true, true, true, true, true, true, true, true, true, true, true, true, true, false, false, false, false] rfl rfl (by kernel_rfl) (fun _ _ _ h => h) (Or.inr ⟨by rfl, rfl⟩) ?_ ?_
      rotate_left
      · simp only [Act.put, List.setIfInBounds_toArray, List.set_cons_zero, List.set_cons_succ, i64_w, i32_w]
        rfl
      refine pure_ (i := 16) (N := some 23) (v := undef) (a' := ?_) #[true, true, true, true, true, true, true, true, true, true, true, true, true, true, true, true, true, false, false, false] rfl rfl (by kernel_rfl) (fun _ _ _ h => h) (Or.inr ⟨by rfl, rfl⟩) ?_ ?_
      rotate_left
      · simp only [Act.put, List.setIfInBounds_toArray, List.set_cons_zero, List.set_cons_succ, i64_w, i32_w]
        rfl
      refine pure_ (i := 17) (N := some 24) (v := undef) (a' := ?_) #[true, true, true, true, true, true, true, true, true, true, true, true, true, true, true, true, true, true, false, false] rfl rfl (by kernel_rfl) (fun _ _ _ h => h) (Or.inr ⟨by rfl, rfl⟩) ?_ ?_
      rotate_left
      · simp only [Act.put, List.setIfInBounds_toArray, List.set_cons_zero, List.set_cons_succ, i64_w, i32_w]
        rfl
      refine pure_ (i := 18) (N := some 25) (v := ?_) (a' := ?_) #[true, true, true, true, true, true, true, true, true, true, true, true, true, true, true, true, true, true, true, false] rfl rfl (by kernel_rfl) (fun _ _ _ h => h) (Or.inl ⟨by rfl, ?_⟩) ?_ ?_
      rotate_left
      · intro w'
        go_simp
        with_reducible rfl
      rotate_left
      · simp only [Act.put, List.setIfInBounds_toArray, List.set_cons_zero, List.set_cons_succ, i64_w, i32_w]
        rfl
      refine pure_ (i := 19) (N := some 4) (v := ?_) (a' := ?_) #[true, true, true, true, true, true, true, true, true, true, true, true, true, true, true, true, true, true, true, true] rfl rfl (by kernel_rfl) (fun _ _ _ h => h) (Or.inl ⟨by rfl, ?_⟩) ?_ ?_
      rotate_left
      · intro w'
        go_simp
        with_reducible rfl
      rotate_left
      · simp only [Act.put, List.setIfInBounds_toArray, List.set_cons_zero, List.set_cons_succ, i64_w, i32_w]
        rfl
      refine done_ (by kernel_rfl) ?_
      have hB9 := hHeld.1
      go_wp2_with fail
      go_ret
      exact ⟨by simp, HV.out.trans (hB9.mono HV.out.size)⟩
  · skip
    refine start_ (n := 20) (S := fun w' => Below V.heap.size V w' ∧ w'.cell? ⟨W.heap.size, 0, none⟩ = some (.slice A0 l0.length c0) ∧ w'.cell? ⟨W.heap.size, 1, none⟩ = some (.int .i64 e0) ∧ w'.cell? ⟨W.heap.size, 2, none⟩ = some (.slice A2 l2.length c2) ∧ w'.cell? ⟨W.heap.size, 3, none⟩ = some (.int .i64 s0) ∧ w'.cell? ⟨W.heap.size, 4, none⟩ = some (.slice A4 l4.length c4) ∧ w'.cell? ⟨W.heap.size + 1, 0, none⟩ = some (.slice B0 m0.length d0) ∧ w'.cell? ⟨W.heap.size + 1, 1, none⟩ = some (.int .i64 e1) ∧ w'.cell? ⟨W.heap.size + 1, 2, none⟩ = some (.slice B2 m2.length d2) ∧ w'.cell? ⟨W.heap.size + 1, 3, none⟩ = some (.int .i64 s1) ∧ w'.cell? ⟨W.heap.size + 1, 4, none⟩ = some (.slice B4 m4.length d4)) (ds := []) #[false, false, false, false, false, false, false, false, false, false, false, false, false, false, false, false, false, false, false, false] (by kernel_rfl) rfl rfl ⟨(mkS.out _ HB1.out).1, (mkS.out _ HB1.out).2.1.1, (mkS.out _ HB1.out).2.1.2.1, (mkS.out _ HB1.out).2.1.2.2.1, (mkS.out _ HB1.out).2.1.2.2.2.1, (mkS.out _ HB1.out).2.1.2.2.2.2, (mkS.out _ HB1.out).2.2.1, (mkS.out _ HB1.out).2.2.2.1, (mkS.out _ HB1.out).2.2.2.2.1, (mkS.out _ HB1.out).2.2.2.2.2.1, (mkS.out _ HB1.out).2.2.2.2.2.2⟩ (fun hHeld => ?_)
    refine take_ (i := 0) (N := some 7) (v := ?_) (a' := ?_) #[true, false, false, false, false, false, false, false, false, false, false, false, false, false, false, false, false, false, false, false] rfl rfl (by kernel_rfl) (fun _ _ _ h => h) (Or.inl ⟨by rfl, ?_⟩) hHeld ?_ ?_
    rotate_left
    · rintro w' ⟨s0, s1, s2, s3, s4, s5, s6, s7, s8, s9, s10⟩
      go_simp
      with_reducible rfl
    rotate_left
    · simp only [Act.put, List.setIfInBounds_toArray, List.set_cons_zero, List.set_cons_succ, i64_w, i32_w]
      rfl
    refine one_ (i := 1) (N := some 8) #[true, true, false, false, false, false, false, false, false, false, false, false, false, false, false, false, false, false, false, false] rfl rfl (by kernel_rfl) (by decide) (fun K hK => ?_)
    refine goes_ Tryd.func24 (by kernel_rfl) rfl #[.agg #[.slice A0 l0.length c0, .int .i64 e0, .slice A2 l2.length c2, .int .i64 s0, .slice A4 l4.length c4]] (by rfl) rfl rfl (by simp only [List.map_toArray, List.map_cons, List.map_nil]; rfl) ?_
    with_reducible refine ((cL0 _ hHeld.1).out).mono ?_
    rintro e w3 ⟨rfl, hb⟩
    refine ⟨_, rfl, ?_⟩
    refine hK.out _ _ ⟨(mkS.out _ hb).1, (mkS.out _ hb).2.1.1, (mkS.out _ hb).2.1.2.1, (mkS.out _ hb).2.1.2.2.1, (mkS.out _ hb).2.1.2.2.2.1, (mkS.out _ hb).2.1.2.2.2.2, (mkS.out _ hb).2.2.1, (mkS.out _ hb).2.2.2.1, (mkS.out _ hb).2.2.2.2.1, (mkS.out _ hb).2.2.2.2.2.1, (mkS.out _ hb).2.2.2.2.2.2⟩ (fun hHeld => ?_)
    clear hK K
    refine norm_ (a' := ?_) ?_ ?_
    rotate_left
    · show Act.put _ (some 8) _ = _
      simp only [Act.put, List.setIfInBounds_toArray, List.set_cons_zero, List.set_cons_succ, i64_w, i32_w]
      rfl
    refine pure_ (i := 2) (N := some 9) (v := ?_) (a' := ?_) #[true, true, true, false, false, false, false, false, false, false, false, false, false, false, false, false, false, false, false, false] rfl rfl (by kernel_rfl) (fun _ _ _ h => h) (Or.inl ⟨by rfl, ?_⟩) ?_ ?_
    rotate_left
    · intro w'
      go_simp
      with_reducible rfl
    rotate_left
    · simp only [Act.put, List.setIfInBounds_toArray, List.set_cons_zero, List.set_cons_succ, i64_w, i32_w]
      rfl
    refine pure_ (i := 3) (N := some 10) (v := undef) (a' := ?_) #[true, true, true, true, false, false, false, false, false, false, false, false, false, false, false, false, false, false, false, false] rfl rfl (by kernel_rfl) (fun _ _ _ h => h) (Or.inr ⟨by rfl, rfl⟩) ?_ ?_
    rotate_left
    · simp only [Act.put, List.setIfInBounds_toArray, List.set_cons_zero, List.set_cons_succ, i64_w, i32_w]
      rfl
    refine pure_ (i := 4) (N := some 11) (v := undef) (a' := ?_) #[true, true, true, true, true, false, false, false, false, false, false, false, false, false, false, false, false, false, false, false] rfl rfl (by kernel_rfl) (fun _ _ _ h => h) (Or.inr ⟨by rfl, rfl⟩) ?_ ?_
    rotate_left
    · simp only [Act.put, List.setIfInBounds_toArray, List.set_cons_zero, List.set_cons_succ, i64_w, i32_w]
      rfl
    refine pure_ (i := 5) (N := some 12) (v := ?_) (a' := ?_) #[true, true, true, true, true, true, false, false, false, false, false, false, false, false, false, false, false, false, false, false] rfl rfl (by kernel_rfl) (fun _ _ _ h => h) (Or.inl ⟨by rfl, ?_⟩) ?_ ?_
    rotate_left
    · intro w'
      go_simp
      with_reducible rfl
    rotate_left
    · simp only [Act.put, List.setIfInBounds_toArray, List.set_cons_zero, List.set_cons_succ, i64_w, i32_w]
      rfl
    refine pure_ (i := 6) (N := some 13) (v := ?_) (a' := ?_) #[true, true, true, true, true, true, true, false, false, false, false, false, false, false, false, false, false, false, false, false] rfl rfl (by kernel_rfl) (fun _ _ _ h => h) (Or.inl ⟨by rfl, ?_⟩) ?_ ?_
    rotate_left
    · intro w'
      go_simp
      with_reducible rfl
    rotate_left
    · simp only [Act.put, List.setIfInBounds_toArray, List.set_cons_zero, List.set_cons_succ, i64_w, i32_w]
      rfl
    refine pure_ (i := 7) (N := some 14) (v := undef) (a' := ?_) #[true, true, true, true, true, true, true, true, false, false, false, false, false, false, false, false, false, false, false, false] rfl rfl (by kernel_rfl) (fun _ _ _ h => h) (Or.inr ⟨by rfl, rfl⟩) ?_ ?_
    rotate_left
    · simp only [Act.put, List.setIfInBounds_toArray, List.set_cons_zero, List.set_cons_succ, i64_w, i32_w]
      rfl
    refine pure_ (i := 8) (N := some 15) (v := undef) (a' := ?_) #[true, true, true, true, true, true, true, true, true, false, false, false, false, false, false, false, false, false, false, false] rfl rfl (by kernel_rfl) (fun _ _ _ h => h) (Or.inr ⟨by rfl, rfl⟩) ?_ ?_
    rotate_left
    · simp only [Act.put, List.setIfInBounds_toArray, List.set_cons_zero, List.set_cons_succ, i64_w, i32_w]
      rfl
    refine pure_ (i := 9) (N := some 16) (v := undef) (a' := ?_) #[true, true, true, true, true, true, true, true, true, true, false, false, false, false, false, false, false, false, false, false] rfl rfl (by kernel_rfl) (fun _ _ _ h => h) (Or.inr ⟨by rfl, rfl⟩) ?_ ?_
    rotate_left
    · simp only [Act.put, List.setIfInBounds_toArray, List.set_cons_zero, List.set_cons_succ, i64_w, i32_w]
      rfl
    refine pure_ (i := 10) (N := some 17) (v := undef) (a' := ?_) #[true, true, true, true, true, true, true, true, true, true, true, false, false, false, false, false, false, false, false, false] rfl rfl (by kernel_rfl) (fun _ _ _ h => h) (Or.inr ⟨by rfl, rfl⟩) ?_ ?_
    rotate_left
    · simp only [Act.put, List.setIfInBounds_toArray, List.set_cons_zero, List.set_cons_succ, i64_w, i32_w]
      rfl
    refine pure_ (i := 11) (N := some 18) (v := undef) (a' := ?_) #[true, true, true, true, true, true, true, true, true, true, true, true, false, false, false, false, false, false, false, false] rfl rfl (by kernel_rfl) (fun _ _ _ h => h) (Or.inr ⟨by rfl, rfl⟩) ?_ ?_
    rotate_left
    · simp only [Act.put, List.setIfInBounds_toArray, List.set_cons_zero, List.set_cons_succ, i64_w, i32_w]
      rfl
    refine pure_ (i := 12) (N := some 19) (v := undef) (a' := ?_) #[true, true, true, true, true, true, true, true, true, true, true, true, true, false, false, false, false, false, false, false] rfl rfl (by kernel_rfl) (fun _ _ _ h => h) (Or.inr ⟨by rfl, rfl⟩) ?_ ?_
    rotate_left
    · simp only [Act.put, List.setIfInBounds_toArray, List.set_cons_zero, List.set_cons_succ, i64_w, i32_w]
      rfl
    refine pure_ (i := 13) (N := some 20) (v := undef) (a' := ?_) #[true, true, true, true, true, true, true, true, true, true, true, true, true, true, false, false, false, false, false, false] rfl rfl (by kernel_rfl) (fun _ _ _ h => h) (Or.inr ⟨by rfl, rfl⟩) ?_ ?_
    rotate_left
    · simp only [Act.put, List.setIfInBounds_toArray, List.set_cons_zero, List.set_cons_succ, i64_w, i32_w]
      rfl
    refine pure_ (i := 14) (N := some 21) (v := undef) (a' := ?_) #[true, true, true, true, true, true, true, true, true, true, true, true, true, true, true, false, false, false, false, false] rfl rfl (by kernel_rfl) (fun _ _ _ h => h) (Or.inr ⟨by rfl, rfl⟩) ?_ ?_
    rotate_left
    · simp only [Act.put, List.setIfInBounds_toArray, List.set_cons_zero, List.set_cons_succ, i64_w, i32_w]
      rfl
    refine pure_ (i := 15) (N := some 22) (v := undef) (a' := ?_) #[true, true, true, true, true, true, true, true, true, true, true, true, true, true, true, true, false, false, false, false] rfl rfl (by kernel_rfl) (fun _ _ _ h => h) (Or.inr ⟨by rfl, rfl⟩) ?_ ?_
    rotate_left
    · simp only [Act.put, List.setIfInBounds_toArray, List.set_cons_zero, List.set_cons_succ, i64_w, i32_w]
      rfl
    refine pure_ (i := 16) (N := some 23) (v := undef) (a' := ?_) #[true, true, true, true, true, true, true, true, true, true, true, true, true, true, true, true, true, false, false, false] rfl rfl (by kernel_rfl) (fun _ _ _ h => h) (Or.inr ⟨by rfl, rfl⟩) ?_ ?_
    rotate_left
    · simp only [Act.put, List.setIfInBounds_toArray, List.set_cons_zero, List.set_cons_succ, i64_w, i32_w]
      rfl
    refine pure_ (i := 17) (N := some 24) (v := undef) (a' := ?_) #[true, true, true, true, true, true, true, true, true, true, true, true, true, true, true, true, true, true, false, false] rfl rfl (by kernel_rfl) (fun _ _ _ h => h) (Or.inr ⟨by rfl, rfl⟩) ?_ ?_
    rotate_left
    · simp only [Act.put, List.setIfInBounds_toArray, List.set_cons_zero, List.set_cons_succ, i64_w, i32_w]
      rfl
    refine pure_ (i := 18) (N := some 25) (v := ?_) (a' := ?_) #[true, true, true, true, true, true, true, true, true, true, true, true, true, true, true, true, true, true, true, false] rfl rfl (by kernel_rfl) (fun _ _ _ h => h) (Or.inl ⟨by rfl, ?_⟩) ?_ ?_
    rotate_left
    · intro w'
      go_simp
      with_reducible rfl
    rotate_left
    · simp only [Act.put, List.setIfInBounds_toArray, List.set_cons_zero, List.set_cons_succ, i64_w, i32_w]
      rfl
    refine pure_ (i := 19) (N := some 4) (v := ?_) (a' := ?_) #[true, true, true, true, true, true, true, true, true, true, true, true, true, true, true, true, true, true, true, true] rfl rfl (by kernel_rfl) (fun _ _ _ h => h) (Or.inl ⟨by rfl, ?_⟩) ?_ ?_
    rotate_left
    · intro w'
      go_simp
      with_reducible rfl
    rotate_left
    · simp only [Act.put, List.setIfInBounds_toArray, List.set_cons_zero, List.set_cons_succ, i64_w, i32_w]
      rfl
    refine done_ (by kernel_rfl) ?_
    have hB9 := hHeld.1
    go_wp2_with fail
    go_ret
    exact ⟨by simp, HV.out.trans (hB9.mono HV.out.size)⟩
end

end Go.Proofs.YtplcfijcmihhlaaDoor
