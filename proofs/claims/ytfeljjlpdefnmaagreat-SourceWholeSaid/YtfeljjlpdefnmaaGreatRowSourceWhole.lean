/-
  The law SourceWhole holds of the program: what the intake took, and the rest behind it, are the first bytes of all that came; a body that has a size is never read beyond it. It returns true of every case and every uint8 (what it reads weighs no more than the row's reach, as the statement says).
-/
import Derived.Test.YtfeljjlpdefnmaaGreatKitSrc
namespace Go.Proofs.YtfeljjlpdefnmaaGreat
open Go.ChangeShapes Go.WideShapes Go.ChangeAt Go.RowKit Go.ChangeMaps
set_option linter.unusedVariables false
set_option linter.unusedSimpArgs false

set_option maxRecDepth 100000 in
theorem sourceWhole_lifted (os : Os) (started : os.Started) (H : Type) (enc : TypeId × Value → H) :
    ReturnsInHanded {} Tryz.checked os 3 .any (Rows.sourceWholeSpec.pre6 enc Tryz.prog Tryz.f3 Rows.sourceWholeRow.domain false) (Rows.sourceWholeSpec.post enc Tryz.prog Tryz.f3 false true false false) := by
  refine returnsInHanded_of_change_shaped (C := Tryz.checked) Tryz.own started (by kernel_rfl) Tryz.func3
    (ChangeSpec.witness6 (enc := enc) (C := Tryz.checked) false ⟨#[], #[.agg #[.slice none 0 0, .int .i64 0, .int .i64 0, .int .u64 0, .int .i64 0, .int .i64 0, .int .i64 0, .int .i64 0], .int .u8 0], []⟩ 8 (by kernel_rfl) (by kernel_rfl) (by kernel_rfl) (by kernel_rfl)) ?_
  intro W base args ds gs before hval0 hW hcnd hwt hsh _
  have hval : ∀ (j : Nat) t v, Tryz.f3.params[j]? = some t → args[j]? = some v → Value.okWide Tryz.prog W .any base t v := hval0
  have hW' := hW
  obtain ⟨p, q, hA0, hV, rfl, hfz, hnd⟩ := hW
  have hA : DataW.TrodAll enc Tryz.prog W 0 (fun _ => true) true Tryz.f3.params.toList args.toList ds p := hA0
  rw [Tryz.params3] at hA hval
  obtain ⟨v0, v1, d0, d1, p0, p1, rfl, rfl, rfl, h0, h1⟩ := trodAll_two hA
  obtain ⟨rfl, rfl⟩ := trodVars_none hV
  have hw0 : Weighs Tryz.prog 29 d0 := by
    intro x hx
    have h := List.all_eq_true.1 hwt x (by
      show x ∈ DataW.weightsEach Tryz.prog (Tryz.f3.params.toList ++ _) ([d0, d1] ++ [])
      rw [Tryz.params3]
      simp only [List.cons_append, DataW.weightsEach, List.mem_append]
      exact .inl hx)
    exact of_decide_eq_true h
  obtain ⟨x, L, en, k, s, a, b, c, N, rfl, hs0, HP, HN, HL, Hp⟩ := open_case (hval 0 29 v0 rfl rfl) h0 hw0
  obtain ⟨a2, rfl, rfl, rfl, w4⟩ := open_int Tryz.underlying5 (hval 1 5 v1 rfl rfl) h1
  obtain ⟨w5, w6⟩ := bounds_u8 w4
  obtain ⟨T, rfl⟩ := Int.eq_ofNat_of_zero_le w5
  obtain ⟨e0, e1, e2, e3, e4, e5, hT⟩ := ends_of_shaped hsh
  clear hA0 hval0
  simp only [List.append_nil] at hW'
  refine (SourceWhole_any x L en k s a b c N T (by omega) hs0 HL Hp HP HN hT).mono fun e W' ⟨he, hb⟩ => ?_
  have hlt : ∀ x ∈ p0, x.block < W.heap.size := fun x hx => by simpa using hW'.lt x (by simpa using hx)
  subst he
  exact ⟨_, rfl, post_of_below (pa := _) (pv := []) hW' (fun _ _ _ => trodAll_mk1 (shut_bool Tryz.underlying4 _))
    (fun spb sp => trodAll_mk2 (WideElems.Trod_stays Tryz.laidOut (by kernel_rfl) (of_decide_eq_true (by kernel_rfl)) h0 (fun x hx => hb.same (hlt x (by simp [hx]))) (fun x hx => sp x (by simp [hx])))
      (shut_int Tryz.underlying5 w4)) (fun _ _ => rfl) (by simp)
    hb (ok_one (by kernel_rfl) rfl (okWide_bool_mk Tryz.underlying4 _))⟩

theorem sourceWhole_holds : Rows.SourceWholeSaid :=
  OpenClaim.holds_of_wide 3 Tryz.f3 rfl rfl rfl rfl rfl rfl rfl ⟨rfl, rfl, rfl, rfl, rfl⟩ rfl rfl rfl rfl rfl (by kernel_rfl) Tryz.func3 (by kernel_rfl)
    (of_decide_eq_true (by kernel_rfl)) (by unfold Func.isWrapper; first | (rw [if_pos (by decide +kernel)]; kernel_rfl) | (rw [if_neg (by decide +kernel)]; exact ⟨rfl, rfl⟩))
    (fun os started H enc _ => sourceWhole_lifted os started H enc)
#print axioms sourceWhole_holds

end Go.Proofs.YtfeljjlpdefnmaaGreat
