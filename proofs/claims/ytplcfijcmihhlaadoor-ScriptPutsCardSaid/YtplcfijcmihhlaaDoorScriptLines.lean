/-
  The walk of the law ScriptLines.
-/
import Derived.Test.YtplcfijcmihhlaaDoorCount28
import Derived.Test.YtplcfijcmihhlaaDoorRightLaw28
import Derived.Test.YtplcfijcmihhlaaDoorScriptSame
namespace Go.Proofs.YtplcfijcmihhlaaDoor
open Go.RowKit Go.Proofs.YtplcfijcmihhlaaDoorW.PrintWords
set_option linter.unusedVariables false
set_option linter.unusedSimpArgs false
attribute [local go_sem] Oper.semAt_some

theorem putT_len {l0 : List (List Int)} {e : Int} {l2 : List Int} {s : Int} {l4 : List Int} (hs : SmallS l0 l2 l4) (hr : rightB e s l2 l4 = true) : (putT l0 e l2 s l4).length ≤ 60000 := by
  have h1 := upsT_len l0
  have h2 := hs.1
  have h3 := takesT_len l2 (by
    intro y hy
    unfold rightB at hr
    simp only [Bool.and_eq_true] at hr
    have h2 := List.all_eq_true.1 hr.1.2 _ hy
    unfold inTo at h2
    simpa using h2)
  have h4 := hs.2.1
  have h5 := picks_len l4 (offsL (nOffs l4.length))
  have h6 : (offsL (nOffs l4.length)).length = nOffs l4.length := by simp [offsL]
  have h7 : nOffs l4.length ≤ 26 := by have := hs.2.2; unfold nOffs; omega
  have h8 : (endW e).size ≤ 6 := by unfold endW; split; decide; split; decide; decide
  have h9 : (stopW s).size ≤ 6 := by unfold stopW; split; decide; split; decide; decide
  have ha : sEnd.size = 3 := rfl
  have hb : sStop.size = 4 := rfl
  unfold putT picksT
  rw [List.length_append, List.length_append, List.length_append, List.length_append, lineB_len, lineB_len]; omega

section
variable {A0 : Option Addr} {c0 : Nat} {l0 : List (List Int)} {e0 : Int} {A2 : Option Addr} {c2 : Nat} {l2 : List Int} {s0 : Int} {A4 : Option Addr} {c4 : Nat} {l4 : List Int} {W : World}
theorem RRight_any (h : ScrC W A0 c0 l0 A2 c2 l2 A4 c4 l4) (hs : SmallS l0 l2 l4) :
    Calls Tryd.prog 30 #[.agg #[.slice A0 l0.length c0, .int .i64 e0, .slice A2 l2.length c2, .int .i64 s0, .slice A4 l4.length c4]] W fun e w' => e = .returned (.bool (rightB e0 s0 l2 l4)) ∧ Below W.heap.size W w' :=
  PRight.catchpitref28_Right.calls _ A0 c0 l0 e0 A2 c2 l2 s0 A4 c4 l4 _ W h.r0 h.k0 h.r2 h.k2 h.r4 h.k4 (refRight l0 e0 l2 s0 l4 (by have := hs.2.1; omega) (by have := hs.2.2; omega))

set_option maxHeartbeats 4000000 in
set_option maxRecDepth 100000 in
theorem ScriptLines_any (h : ScrC W A0 c0 l0 A2 c2 l2 A4 c4 l4) (f0 : Fits l0) (hT : Tabs W W.heap.size) :
    Calls Tryd.prog 9 #[.agg #[.slice A0 l0.length c0, .int .i64 e0, .slice A2 l2.length c2, .int .i64 s0, .slice A4 l4.length c4]] W fun x w' => x = .returned (.bool true) ∧ Below W.heap.size W w' := by
  obtain ⟨V, eV, hV, v0, hz⟩ : ∃ V, W.alloc (.cells #[.slice A0 l0.length c0, .int .i64 e0, .slice A2 l2.length c2, .int .i64 s0, .slice A4 l4.length c4] 49) = V ∧ Below W.heap.size W V ∧ V.heap[W.heap.size]? = some (.cells #[.slice A0 l0.length c0, .int .i64 e0, .slice A2 l2.length c2, .int .i64 s0, .slice A4 l4.length c4] 49 (0, 0)) ∧ V.heap.size = W.heap.size + 1 :=
    ⟨_, rfl, (Below.refl _ W).alloc (Nat.le_refl _) _, World.alloc_heap_new _ _, by simp⟩
  have hv0 := lt_of_heap v0
  obtain ⟨r0, hr0, hL0⟩ := Long_any (e0 := e0) (s0 := s0) h f0
  have HV := Lib.hid hV
  have H := Lib.hid (h.below hV)
  have V0 := Lib.hid v0
  have HL0 := Lib.hid hL0
  have Hr0 := Lib.hid hr0
  have HT := Lib.hid ((hT.below hV).up hV.size (Nat.le_refl _))
  have hWk := Lib.hid (wakes_any V HT.out)
  clear h hV v0 hL0 hr0 hT
  go_enter Tryd.func9, Tryd.ntmps9
  go_wp2_with fail
  refine hWk.out.mono ?_; rintro e w1 ⟨rfl, hb1⟩; dsimp only
  obtain ⟨x0, x1, x2, x3, x4⟩ := cells5 ((hb1.block _ hv0).trans V0.out)
  have HB1 := Lib.hid hb1
  have hC0 := Lib.hid (HL0.out w1 (HV.out.trans (hb1.mono HV.out.size)))
  clear hb1 hWk
  go_wp2_with fail
  refine hC0.out.mono ?_; rintro e w2 ⟨rfl, hb2⟩; dsimp only
  have HB2 := Lib.hid (HB1.out.trans (hb2.mono HB1.out.size))
  clear hb2 hC0
  cases r0
  case true =>
    go_wp2_with fail
    go_ret
    exact ⟨rfl, HV.out.trans (HB2.out.mono HV.out.size)⟩
  have hs := Hr0.out rfl
  obtain ⟨x0, x1, x2, x3, x4⟩ := cells5 ((HB2.out.block _ hv0).trans V0.out)
  have hR := Lib.hid (RRight_any (e0 := e0) (s0 := s0) (H.out.below HB2.out) hs)
  go_wp2_with fail
  refine hR.out.mono ?_; rintro e w3 ⟨rfl, hb3⟩; dsimp only
  have HB3 := Lib.hid (HB2.out.trans (hb3.mono HB2.out.size))
  clear hb3 hR
  cases hrr : rightB e0 s0 l2 l4
  · go_wp2_with fail
    go_ret
    exact ⟨rfl, HV.out.trans (HB3.out.mono HV.out.size)⟩
  have Hrr := Lib.hid hrr
  clear hrr
  obtain ⟨x0, x1, x2, x3, x4⟩ := cells5 ((HB3.out.block _ hv0).trans V0.out)
  go_wp2_with fail
  refine (of_any _ _ _ _ _ _ _ _ _ _ _ _).mono ?_; rintro e w4 ⟨rfl, hb4⟩; dsimp only
  have HB4 := Lib.hid (HB3.out.trans (hb4.mono HB3.out.size))
  clear hb4
  have hP := Lib.hid (Put_any (H.out.below HB4.out) f0.1 hs ((HT.out.below HB4.out).up HB4.out.size (Nat.le_refl _)) Hrr.out)
  go_wp2_with fail
  refine hP.out.mono ?_; rintro e w5 ⟨rfl, hb5⟩; dsimp only
  have HB5 := Lib.hid (HB4.out.trans (hb5.mono HB4.out.size))
  have hcnt := count_put l0 e0 l2 s0 l4 f0.1
  obtain ⟨tx, etx⟩ : ∃ tx, putT l0 e0 l2 s0 l4 = tx := ⟨_, rfl⟩
  have hpl := putT_len (s := s0) hs Hrr.out
  rw [etx] at hcnt hpl ⊢
  have Hc := Lib.hid hcnt
  obtain ⟨st, est⟩ : ∃ st : ByteArray, (⟨tx.toArray⟩ : ByteArray) = st := ⟨_, rfl⟩
  have Hst := Lib.hid (show st.data.toList = tx by rw [← est])
  rw [est]
  obtain ⟨x0, x1, x2, x3, x4⟩ := cells5 ((HB5.out.block _ hv0).trans V0.out)
  clear hb5 hP hcnt etx est
  have hsz : st.data.toList.length = st.size := by simp
  have hsm : st.size ≤ 100000000 := by
    have h1 := congrArg List.length Hst.out
    omega
  go_wp2_with fail
  go_loopw [5, 24] (fun n i wr => ∃ k : Nat, k ≤ st.size ∧ i = .int .i64 (k : Nat) ∧ n = .int .i64 (((st.data.toList.take k).count 10 : Nat) : Int) ∧ Hid (wr = w5)) (fun _ i _ => st.size - (intOf i).toNat)
  case atStart => exact ⟨0, Nat.zero_le _, rfl, rfl, Lib.hid rfl⟩
  case round =>
    obtain ⟨k, hk, rfl, rfl, hW⟩ := hrel
    have hW' := hW.out
    subst hW'
    clear hW
    by_cases hlk : k < st.size
    · have hlk2 : k < st.data.toList.length := by omega
      have p1 : (0 : Int) ≤ (k : Int) := Int.natCast_nonneg k
      have p2 : (k : Int) < (st.size : Int) := by omega
      have Hn := Lib.hid (show (st.data.toList.take (k + 1)).count 10 = (st.data.toList.take k).count 10 + (if st.data.toList[k] = 10 then 1 else 0) by
        rw [List.take_succ_eq_append_getElem hlk2, List.count_append, List.count_singleton]
        simp)
      have hcl := List.count_le_length (a := (10 : UInt8)) (l := st.data.toList.take k)
      have hlt := List.length_take_le k st.data.toList
      have hnat : (st.data.toList[k] = 10) ↔ (((st.data.toList[k]).toNat : Int) = 10) := ⟨fun h => by rw [h]; rfl, fun h => UInt8.toNat_inj.1 (by show _ = 10; omega)⟩
      go_wp2_with fail
      all_goals
        go_roundw
        case rel =>
          refine ⟨k + 1, by omega, by go_num, congrArg (Value.int .i64) ?_, by first | exact Lib.hid rfl | exact Lib.hid trivial⟩
          rename_i hb
          have hn := Hn.out
          have hb2 : (((st.data.toList[k]).toNat : Int) == 10) = _ := hb
          rw [hn]
          have hcb : (((st.data.toList.take k).count 10 : Nat) : Int) + 1 ≤ 100000001 := by omega
          by_cases h10 : st.data.toList[k] = 10
          · have h11 := hnat.1 h10
            rw [if_pos h10]
            first
              | (exfalso; rw [h11] at hb2; exact absurd hb2 (by decide))
              | (have hw := IntWalk.wrap64_in ((((st.data.toList.take k).count 10 : Nat) : Int) + 1) (by omega); omega)
          · have h11 := fun e => h10 (hnat.2 e)
            rw [if_neg h10]
            first
              | omega
              | (exfalso; exact h11 (by simpa using hb2))
        case measure => simp [intOf]; omega
    · have hk' : k = st.size := by omega
      have hcn := Hc.out
      rw [← Hst.out] at hcn
      rw [hk', ← hsz, List.take_length, hcn]
      have hl0 := (bulk_len l0).1
      have hl1 := hs.1
      have hl2 := hs.2.1
      have hl4 := hs.2.2
      go_wp2_with fail
      go_ret
      refine ⟨congrArg (fun b => Ending.returned (Value.bool b)) (?_ : ((l0.length : Int) + (l2.length : Int) + 2 + ((nOffs l4.length : Nat) : Int) == (l0.length : Int) + (l2.length : Int) + 2 + ((l4.length : Int) + 59) / 60) = true), HV.out.trans (HB5.out.mono HV.out.size)⟩
      have hq : ((l4.length : Int) + 59) / 60 = ((nOffs l4.length : Nat) : Int) := by unfold nOffs; omega
      rw [hq]; simp
end

end Go.Proofs.YtplcfijcmihhlaaDoor
