/-
  The walk of the law ScriptGets.
-/
import Derived.Test.YtplcfijcmihhlaaDoorRGet28
import Derived.Test.YtplcfijcmihhlaaDoorScriptSame
import Derived.Test.YtplcfijcmihhlaaDoorWLast
namespace Go.Proofs.YtplcfijcmihhlaaDoor
open Go.RowKit Go.Proofs.YtplcfijcmihhlaaDoorW.PrintWords Go.Proofs.YtplcfijcmihhlaaDoorW.PrintLast
set_option linter.unusedVariables false
set_option linter.unusedSimpArgs false
attribute [local go_sem] Oper.semAt_some

theorem get_small (t : ByteArray) (ht : t.size ≤ 1500) : SmallS (getS t).1.pieces (getS t).1.takes (getS t).1.picks := by
  by_cases h : (getS t).2.2 = 0
  · obtain ⟨-, -, -, h1, h2, h3, -⟩ := put_get h rfl
    exact ⟨by omega, by omega, by omega⟩
  · have hz : (getS t).1 = zeroS := by
      unfold getS at h ⊢
      split
      · rfl
      · split
        · rfl
        · rename_i h1 h2
          rw [if_neg h1, if_neg h2] at h
          exact absurd rfl h
    rw [hz]
    exact ⟨by decide, by decide, by decide⟩
set_option maxHeartbeats 4000000 in
set_option maxRecDepth 100000 in
theorem ScriptGets_any (t : ByteArray) (W : World) (hT : Tabs W W.heap.size) :
    Calls Tryd.prog 8 #[.string t] W fun x w' => x = .returned (.bool true) ∧ Below W.heap.size W w' := by
  have HT := Lib.hid hT
  have hWk := Lib.hid (wakes_any W HT.out)
  clear hT
  go_enter Tryd.func8, Tryd.ntmps8
  go_wp2_with fail
  refine hWk.out.mono ?_; rintro e w1 ⟨rfl, hb1⟩; dsimp only
  have HB1 := Lib.hid hb1
  clear hb1 hWk
  by_cases hl : 1500 < t.size
  · have hl2 : (1500 : Int) < (t.size : Int) := by omega
    go_wp2_with fail
    go_ret
    exact ⟨rfl, HB1.out⟩
  have hl2 : (t.size : Int) ≤ 1500 := by omega
  have Hl := Lib.hid (show t.size ≤ 1500 by omega)
  have hG := Lib.hid (Get_any t (by omega) w1 ((HT.out.below HB1.out).up HB1.out.size (Nat.le_refl _)))
  clear hl
  go_wp2_with fail
  refine hG.out.mono ?_; rintro e w2 ⟨vp, vt, vk, rfl, hR2, hb2⟩; dsimp only
  obtain ⟨gs, hgs⟩ : ∃ gs, getS t = gs := ⟨_, rfl⟩
  have Hgs := Lib.hid hgs
  have hsm := get_small t Hl.out
  rw [hgs] at hR2 hsm ⊢
  obtain ⟨x, ln, er⟩ := gs
  obtain ⟨l0, e0, l2, s0, l4⟩ := x
  dsimp only at hR2 hsm ⊢
  obtain ⟨A0, c0, A2, c2, A4, c4, rfl, rfl, rfl, hk⟩ := got_scr hR2
  dsimp only at hk
  have HS := Lib.hid hsm
  have HB2 := Lib.hid (HB1.out.trans (hb2.mono HB1.out.size))
  have HK := Lib.hid hk
  clear hb2 hG hR2 hk hgs hsm
  obtain ⟨U, eU, hU, u0⟩ : ∃ U, w2.alloc (.cells #[.slice A0 l0.length c0, .int .i64 e0, .slice A2 l2.length c2, .int .i64 s0, .slice A4 l4.length c4] 57) = U ∧ Below w2.heap.size w2 U ∧ U.heap[w2.heap.size]? = some (.cells #[.slice A0 l0.length c0, .int .i64 e0, .slice A2 l2.length c2, .int .i64 s0, .slice A4 l4.length c4] 57 (0, 0)) :=
    ⟨_, rfl, (Below.refl _ w2).alloc (Nat.le_refl _) _, World.alloc_heap_new _ _⟩
  have hRG := Lib.hid (RGet_any t Hl.out U)
  have HKU := Lib.hid (HK.out.below hU)
  have HBU := Lib.hid (HB2.out.trans (hU.mono HB2.out.size))
  have HU0 := Lib.hid u0
  have hu0 := lt_of_heap u0
  clear hU u0 HK
  go_wp2_with fail
  refine hRG.out.mono ?_; rintro e w3 ⟨vq, vu, vl, rfl, hR3, hb3⟩; dsimp only
  rw [Hgs.out] at hR3 ⊢
  dsimp only at hR3 ⊢
  obtain ⟨B0, d0, B2, d2, B4, d4, rfl, rfl, rfl, hk⟩ := got_scr hR3
  dsimp only at hk
  have HB3 := Lib.hid (HBU.out.trans (hb3.mono HBU.out.size))
  have HUB := Lib.hid hb3
  have HM := Lib.hid hk
  obtain ⟨X, eX, hX, x0⟩ : ∃ X, w3.alloc (.cells #[.slice B0 l0.length d0, .int .i64 e0, .slice B2 l2.length d2, .int .i64 s0, .slice B4 l4.length d4, .int .i64 ln, .int .i64 er] 68) = X ∧ Below w3.heap.size w3 X ∧ X.heap[w3.heap.size]? = some (.cells #[.slice B0 l0.length d0, .int .i64 e0, .slice B2 l2.length d2, .int .i64 s0, .slice B4 l4.length d4, .int .i64 ln, .int .i64 er] 68 (0, 0)) :=
    ⟨_, rfl, (Below.refl _ w3).alloc (Nat.le_refl _) _, World.alloc_heap_new _ _⟩
  have HX0 := Lib.hid x0
  have hx0 := lt_of_heap x0
  have HMX := Lib.hid (HM.out.below hX)
  have HKX := Lib.hid (HKU.out.below (HUB.out.trans (hX.mono HUB.out.size)))
  have HBX := Lib.hid (HB3.out.trans (hX.mono HB3.out.size))
  have HUX := Lib.hid ((HUB.out.block _ hu0).trans HU0.out |> fun h => (hX.block _ (Nat.lt_of_lt_of_le hu0 HUB.out.size)).trans h)
  have HX := Lib.hid (Below.refl X.heap.size X)
  have hux := lt_of_heap HUX.out
  clear hb3 hR3 hRG hk hX x0
  have mkX : Hid (∀ w', Below X.heap.size X w' → (Below X.heap.size X w' ∧ (w'.cell? ⟨w2.heap.size, 0, none⟩ = some (.slice A0 l0.length c0) ∧ w'.cell? ⟨w2.heap.size, 1, none⟩ = some (.int .i64 e0) ∧ w'.cell? ⟨w2.heap.size, 2, none⟩ = some (.slice A2 l2.length c2) ∧ w'.cell? ⟨w2.heap.size, 3, none⟩ = some (.int .i64 s0) ∧ w'.cell? ⟨w2.heap.size, 4, none⟩ = some (.slice A4 l4.length c4)) ∧
      (w'.cell? ⟨w3.heap.size, 0, none⟩ = some (.slice B0 l0.length d0) ∧ w'.cell? ⟨w3.heap.size, 1, none⟩ = some (.int .i64 e0) ∧ w'.cell? ⟨w3.heap.size, 2, none⟩ = some (.slice B2 l2.length d2) ∧ w'.cell? ⟨w3.heap.size, 3, none⟩ = some (.int .i64 s0) ∧ w'.cell? ⟨w3.heap.size, 4, none⟩ = some (.slice B4 l4.length d4) ∧ w'.cell? ⟨w3.heap.size, 5, none⟩ = some (.int .i64 ln) ∧ w'.cell? ⟨w3.heap.size, 6, none⟩ = some (.int .i64 er)))) :=
    Lib.hid fun w' hB => ⟨hB, cells5 ((hB.block _ hux).trans HUX.out), cells7 ((hB.block _ hx0).trans HX0.out)⟩
  have uO := fun V' (hB : Below X.heap.size X V') => Lib.hid ((of_any B0 l0.length d0 e0 B2 l2.length d2 s0 B4 l4.length d4 V').mono fun e w' h => (⟨h.1, hB.trans (h.2.mono hB.size)⟩ : e = _ ∧ Below X.heap.size X w'))
  have uE := fun V' (hB : Below X.heap.size X V') => Lib.hid ((LSame_any (e0 := e0) (s0 := s0) (e1 := e0) (s1 := s0) (HKX.out.below hB) (HMX.out.below hB) HS.out).mono fun e w' h => (⟨h.1.trans (by simp [sameS]), hB.trans (h.2.mono hB.size)⟩ : e = .returned (.bool true) ∧ Below X.heap.size X w'))
  go_wp2_with fail
  refine start_ (n := 18) (S := fun w' => Below X.heap.size X w' ∧ w'.cell? ⟨w2.heap.size, 0, none⟩ = some (.slice A0 l0.length c0) ∧ w'.cell? ⟨w2.heap.size, 1, none⟩ = some (.int .i64 e0) ∧ w'.cell? ⟨w2.heap.size, 2, none⟩ = some (.slice A2 l2.length c2) ∧ w'.cell? ⟨w2.heap.size, 3, none⟩ = some (.int .i64 s0) ∧ w'.cell? ⟨w2.heap.size, 4, none⟩ = some (.slice A4 l4.length c4) ∧ w'.cell? ⟨w3.heap.size, 0, none⟩ = some (.slice B0 l0.length d0) ∧ w'.cell? ⟨w3.heap.size, 1, none⟩ = some (.int .i64 e0) ∧ w'.cell? ⟨w3.heap.size, 2, none⟩ = some (.slice B2 l2.length d2) ∧ w'.cell? ⟨w3.heap.size, 3, none⟩ = some (.int .i64 s0) ∧ w'.cell? ⟨w3.heap.size, 4, none⟩ = some (.slice B4 l4.length d4) ∧ w'.cell? ⟨w3.heap.size, 5, none⟩ = some (.int .i64 ln) ∧ w'.cell? ⟨w3.heap.size, 6, none⟩ = some (.int .i64 er)) (ds := []) #[false, false, false, false, false, false, false, false, false, false, false, false, false, false, false, false, false, false] (by kernel_rfl) rfl rfl ⟨(mkX.out _ HX.out.drew).1, (mkX.out _ HX.out.drew).2.1.1, (mkX.out _ HX.out.drew).2.1.2.1, (mkX.out _ HX.out.drew).2.1.2.2.1, (mkX.out _ HX.out.drew).2.1.2.2.2.1, (mkX.out _ HX.out.drew).2.1.2.2.2.2, (mkX.out _ HX.out.drew).2.2.1, (mkX.out _ HX.out.drew).2.2.2.1, (mkX.out _ HX.out.drew).2.2.2.2.1, (mkX.out _ HX.out.drew).2.2.2.2.2.1, (mkX.out _ HX.out.drew).2.2.2.2.2.2.1, (mkX.out _ HX.out.drew).2.2.2.2.2.2.2.1, (mkX.out _ HX.out.drew).2.2.2.2.2.2.2.2⟩ (fun hHeld => ?_)
  refine pure_ (i := 0) (N := some 22) (v := ?_) (a' := ?_) #[true, false, false, false, false, false, false, false, false, false, false, false, false, false, false, false, false, false] rfl rfl (by kernel_rfl) (fun _ _ _ h => h) (Or.inl ⟨by rfl, ?_⟩) ?_ ?_
  rotate_left
  · intro w'
    go_simp
    with_reducible rfl
  rotate_left
  · simp only [Act.put, List.setIfInBounds_toArray, List.set_cons_zero, List.set_cons_succ, i64_w, i32_w]
    rfl
  refine pure_ (i := 1) (N := some 23) (v := ?_) (a' := ?_) #[true, true, false, false, false, false, false, false, false, false, false, false, false, false, false, false, false, false] rfl rfl (by kernel_rfl) (fun _ _ _ h => h) (Or.inl ⟨by rfl, ?_⟩) ?_ ?_
  rotate_left
  · intro w'
    go_simp
    with_reducible rfl
  rotate_left
  · simp only [Act.put, List.setIfInBounds_toArray, List.set_cons_zero, List.set_cons_succ, i64_w, i32_w]
    rfl
  refine take_ (i := 2) (N := some 24) (v := ?_) (a' := ?_) #[true, true, true, false, false, false, false, false, false, false, false, false, false, false, false, false, false, false] rfl rfl (by kernel_rfl) (fun _ _ _ h => h) (Or.inl ⟨by rfl, ?_⟩) hHeld ?_ ?_
  rotate_left
  · rintro w' ⟨s0, s1, s2, s3, s4, s5, s6, s7, s8, s9, s10, s11, s12⟩
    go_simp
    with_reducible rfl
  rotate_left
  · simp only [Act.put, List.setIfInBounds_toArray, List.set_cons_zero, List.set_cons_succ, i64_w, i32_w]
    rfl
  refine pure_ (i := 3) (N := some 25) (v := ?_) (a' := ?_) #[true, true, true, true, false, false, false, false, false, false, false, false, false, false, false, false, false, false] rfl rfl (by kernel_rfl) (fun _ _ _ h => h) (Or.inl ⟨by rfl, ?_⟩) ?_ ?_
  rotate_left
  · intro w'
    go_simp
    with_reducible rfl
  rotate_left
  · simp only [Act.put, List.setIfInBounds_toArray, List.set_cons_zero, List.set_cons_succ, i64_w, i32_w]
    rfl
  refine pure_ (i := 4) (N := some 26) (v := ?_) (a' := ?_) #[true, true, true, true, true, false, false, false, false, false, false, false, false, false, false, false, false, false] rfl rfl (by kernel_rfl) (fun _ _ _ h => h) (Or.inl ⟨by rfl, ?_⟩) ?_ ?_
  rotate_left
  · intro w'
    go_simp
    with_reducible rfl
  rotate_left
  · simp only [Act.put, List.setIfInBounds_toArray, List.set_cons_zero, List.set_cons_succ, i64_w, i32_w]
    rfl
  refine pure_ (i := 5) (N := some 27) (v := ?_) (a' := ?_) #[true, true, true, true, true, true, false, false, false, false, false, false, false, false, false, false, false, false] rfl rfl (by kernel_rfl) (fun _ _ _ h => h) (Or.inl ⟨by rfl, ?_⟩) ?_ ?_
  rotate_left
  · intro w'
    go_simp
    with_reducible rfl
  rotate_left
  · simp only [Act.put, List.setIfInBounds_toArray, List.set_cons_zero, List.set_cons_succ, i64_w, i32_w]
    rfl
  refine pure_ (i := 6) (N := some 28) (v := ?_) (a' := ?_) #[true, true, true, true, true, true, true, false, false, false, false, false, false, false, false, false, false, false] rfl rfl (by kernel_rfl) (fun _ _ _ h => h) (Or.inl ⟨by rfl, ?_⟩) ?_ ?_
  rotate_left
  · intro w'
    go_simp
    with_reducible rfl
  rotate_left
  · simp only [Act.put, List.setIfInBounds_toArray, List.set_cons_zero, List.set_cons_succ, i64_w, i32_w]
    rfl
  refine take_ (i := 7) (N := some 29) (v := ?_) (a' := ?_) #[true, true, true, true, true, true, true, true, false, false, false, false, false, false, false, false, false, false] rfl rfl (by kernel_rfl) (fun _ _ _ h => h) (Or.inl ⟨by rfl, ?_⟩) hHeld ?_ ?_
  rotate_left
  · rintro w' ⟨s0, s1, s2, s3, s4, s5, s6, s7, s8, s9, s10, s11, s12⟩
    go_simp
    with_reducible rfl
  rotate_left
  · simp only [Act.put, List.setIfInBounds_toArray, List.set_cons_zero, List.set_cons_succ, i64_w, i32_w]
    rfl
  refine pure_ (i := 8) (N := some 30) (v := ?_) (a' := ?_) #[true, true, true, true, true, true, true, true, true, false, false, false, false, false, false, false, false, false] rfl rfl (by kernel_rfl) (fun _ _ _ h => h) (Or.inl ⟨by rfl, ?_⟩) ?_ ?_
  rotate_left
  · intro w'
    go_simp
    with_reducible rfl
  rotate_left
  · simp only [Act.put, List.setIfInBounds_toArray, List.set_cons_zero, List.set_cons_succ, i64_w, i32_w]
    rfl
  refine pure_ (i := 9) (N := some 31) (v := ?_) (a' := ?_) #[true, true, true, true, true, true, true, true, true, true, false, false, false, false, false, false, false, false] rfl rfl (by kernel_rfl) (fun _ _ _ h => h) (Or.inl ⟨by rfl, ?_⟩) ?_ ?_
  rotate_left
  · intro w'
    go_simp
    with_reducible rfl
  rotate_left
  · simp only [Act.put, List.setIfInBounds_toArray, List.set_cons_zero, List.set_cons_succ, i64_w, i32_w]
    rfl
  refine pure_ (i := 10) (N := some 32) (v := ?_) (a' := ?_) #[true, true, true, true, true, true, true, true, true, true, true, false, false, false, false, false, false, false] rfl rfl (by kernel_rfl) (fun _ _ _ h => h) (Or.inl ⟨by rfl, ?_⟩) ?_ ?_
  rotate_left
  · intro w'
    go_simp
    with_reducible rfl
  rotate_left
  · simp only [Act.put, List.setIfInBounds_toArray, List.set_cons_zero, List.set_cons_succ, i64_w, i32_w]
    rfl
  refine pure_ (i := 12) (N := some 34) (v := ?_) (a' := ?_) #[true, true, true, true, true, true, true, true, true, true, true, false, true, false, false, false, false, false] rfl rfl (by kernel_rfl) (fun _ _ _ h => h) (Or.inl ⟨by rfl, ?_⟩) ?_ ?_
  rotate_left
  · intro w'
    go_simp
    with_reducible rfl
  rotate_left
  · simp only [Act.put, List.setIfInBounds_toArray, List.set_cons_zero, List.set_cons_succ, i64_w, i32_w]
    rfl
  refine take_ (i := 11) (N := some 33) (v := ?_) (a' := ?_) #[true, true, true, true, true, true, true, true, true, true, true, true, true, false, false, false, false, false] rfl rfl (by kernel_rfl) (fun _ _ _ h => h) (Or.inl ⟨by rfl, ?_⟩) hHeld ?_ ?_
  rotate_left
  · rintro w' ⟨s0, s1, s2, s3, s4, s5, s6, s7, s8, s9, s10, s11, s12⟩
    go_simp
    with_reducible rfl
  rotate_left
  · simp only [Act.put, List.setIfInBounds_toArray, List.set_cons_zero, List.set_cons_succ, i64_w, i32_w]
    rfl
  refine take_ (i := 13) (N := some 35) (v := ?_) (a' := ?_) #[true, true, true, true, true, true, true, true, true, true, true, true, true, true, false, false, false, false] rfl rfl (by kernel_rfl) (fun _ _ _ h => h) (Or.inl ⟨by rfl, ?_⟩) hHeld ?_ ?_
  rotate_left
  · rintro w' ⟨s0, s1, s2, s3, s4, s5, s6, s7, s8, s9, s10, s11, s12⟩
    go_simp
    with_reducible rfl
  rotate_left
  · simp only [Act.put, List.setIfInBounds_toArray, List.set_cons_zero, List.set_cons_succ, i64_w, i32_w]
    rfl
  refine one_ (i := 14) (N := some 36) #[true, true, true, true, true, true, true, true, true, true, true, true, true, true, true, false, false, false] rfl rfl (by kernel_rfl) (by decide) (fun K hK => ?_)
  refine goes_ Tryd.func26 (by kernel_rfl) rfl #[.agg #[.slice B0 l0.length d0, .int .i64 e0, .slice B2 l2.length d2, .int .i64 s0, .slice B4 l4.length d4]] (by rfl) rfl rfl (by simp only [List.map_toArray, List.map_cons, List.map_nil]; rfl) ?_
  with_reducible refine ((uO _ hHeld.1).out).mono ?_
  rintro e w3' ⟨rfl, hb⟩
  refine ⟨_, rfl, ?_⟩
  refine hK.out _ _ ⟨(mkX.out _ hb).1, (mkX.out _ hb).2.1.1, (mkX.out _ hb).2.1.2.1, (mkX.out _ hb).2.1.2.2.1, (mkX.out _ hb).2.1.2.2.2.1, (mkX.out _ hb).2.1.2.2.2.2, (mkX.out _ hb).2.2.1, (mkX.out _ hb).2.2.2.1, (mkX.out _ hb).2.2.2.2.1, (mkX.out _ hb).2.2.2.2.2.1, (mkX.out _ hb).2.2.2.2.2.2.1, (mkX.out _ hb).2.2.2.2.2.2.2.1, (mkX.out _ hb).2.2.2.2.2.2.2.2⟩ (fun hHeld => ?_)
  clear hK K
  refine norm_ (a' := ?_) ?_ ?_
  rotate_left
  · show Act.put _ (some 36) _ = _
    simp only [Act.put, List.setIfInBounds_toArray, List.set_cons_zero, List.set_cons_succ, i64_w, i32_w]
    rfl
  refine one_ (i := 15) (N := some 37) #[true, true, true, true, true, true, true, true, true, true, true, true, true, true, true, true, false, false] rfl rfl (by kernel_rfl) (by decide) (fun K hK => ?_)
  refine goes_ Tryd.func27 (by kernel_rfl) rfl #[.agg #[.slice A0 l0.length c0, .int .i64 e0, .slice A2 l2.length c2, .int .i64 s0, .slice A4 l4.length c4], .agg #[.slice B0 l0.length d0, .int .i64 e0, .slice B2 l2.length d2, .int .i64 s0, .slice B4 l4.length d4]] (by rfl) rfl rfl (by simp only [List.map_toArray, List.map_cons, List.map_nil]; rfl) ?_
  with_reducible refine ((uE _ hHeld.1).out).mono ?_
  rintro e w3' ⟨rfl, hb⟩
  refine ⟨_, rfl, ?_⟩
  refine hK.out _ _ ⟨(mkX.out _ hb).1, (mkX.out _ hb).2.1.1, (mkX.out _ hb).2.1.2.1, (mkX.out _ hb).2.1.2.2.1, (mkX.out _ hb).2.1.2.2.2.1, (mkX.out _ hb).2.1.2.2.2.2, (mkX.out _ hb).2.2.1, (mkX.out _ hb).2.2.2.1, (mkX.out _ hb).2.2.2.2.1, (mkX.out _ hb).2.2.2.2.2.1, (mkX.out _ hb).2.2.2.2.2.2.1, (mkX.out _ hb).2.2.2.2.2.2.2.1, (mkX.out _ hb).2.2.2.2.2.2.2.2⟩ (fun hHeld => ?_)
  clear hK K
  refine norm_ (a' := ?_) ?_ ?_
  rotate_left
  · show Act.put _ (some 37) _ = _
    simp only [Act.put, List.setIfInBounds_toArray, List.set_cons_zero, List.set_cons_succ, i64_w, i32_w]
    rfl
  refine pure_ (i := 16) (N := some 38) (v := ?_) (a' := ?_) #[true, true, true, true, true, true, true, true, true, true, true, true, true, true, true, true, true, false] rfl rfl (by kernel_rfl) (fun _ _ _ h => h) (Or.inl ⟨by rfl, ?_⟩) ?_ ?_
  rotate_left
  · intro w'
    go_simp
    with_reducible rfl
  rotate_left
  · simp only [Act.put, List.setIfInBounds_toArray, List.set_cons_zero, List.set_cons_succ, i64_w, i32_w]
    rfl
  refine pure_ (i := 17) (N := some 39) (v := ?_) (a' := ?_) #[true, true, true, true, true, true, true, true, true, true, true, true, true, true, true, true, true, true] rfl rfl (by kernel_rfl) (fun _ _ _ h => h) (Or.inl ⟨by rfl, ?_⟩) ?_ ?_
  rotate_left
  · intro w'
    go_simp
    with_reducible rfl
  rotate_left
  · simp only [Act.put, List.setIfInBounds_toArray, List.set_cons_zero, List.set_cons_succ, i64_w, i32_w]
    rfl
  refine done_ (by kernel_rfl) ?_
  have HB9 := Lib.hid hHeld.1
  obtain ⟨z0, z1, z2, z3, z4, z5, z6⟩ := (mkX.out _ HB9.out).2.2
  obtain ⟨y0, y1, y2, y3, y4⟩ := (mkX.out _ HB9.out).2.1
  by_cases her : er = 0
  · have Her := Lib.hid her
    subst her
    obtain ⟨p1, p2, p3, p4, p5, p6, p7⟩ := put_get (t := t) (x := ⟨l0, e0, l2, s0, l4⟩) (by rw [Hgs.out]) (by rw [Hgs.out])
    have hP := Lib.hid (Put_any (HKX.out.below HB9.out) p2 HS.out ((HT.out.below (HBX.out.trans (HB9.out.mono HBX.out.size))).up (HBX.out.trans (HB9.out.mono HBX.out.size)).size (Nat.le_refl _)) (of_right p3))
    dsimp only at p1
    rw [p1, ba_eta] at hP
    have htt : (t.toList == t.toList) = true := by simp
    clear p1 p2 p3 p4 p5 p6 p7
    go_wp2_with fail
    refine hP.out.mono ?_; rintro e w9 ⟨rfl, hb9⟩; dsimp only
    have HB10 := Lib.hid (HB9.out.trans (hb9.mono HB9.out.size))
    clear hb9 hP
    go_wp2_with fail
    go_ret
    exact ⟨rfl, HBX.out.trans (HB10.out.mono HBX.out.size)⟩
  · have her2 : (er != 0) = true := by rw [bne_iff_ne]; exact her
    go_wp2_with fail
    go_ret
    exact ⟨rfl, HBX.out.trans (HB9.out.mono HBX.out.size)⟩

end Go.Proofs.YtplcfijcmihhlaaDoor
