/-
  The law IntakeCuts holds of the program: however bytes are cut in two, what is taken, the data, the error, and the trailers are the same. It returns true of every framing, slice of bytes and uint16.
-/
import Derived.Test.YtfeljjlpdefnmaaKitItk
import Derived.Test.YtfeljjlpdefnmaaICl
namespace Go.Proofs.Ytfeljjlpdefnmaa
open Go.ChangeShapes Go.WideShapes Go.ChangeAt Go.RowKit Go.ChangeMaps
set_option linter.unusedVariables false
set_option linter.unusedSimpArgs false

set_option maxRecDepth 100000 in
theorem intakeCuts_lifted (os : Os) (started : os.Started) (H : Type) (enc : TypeId × Value → H) :
    ReturnsInHanded {} Try.checked os 4 .any (Rows.intakeCutsSpec.pre6 enc Try.prog Try.f4 Rows.intakeCutsRow.domain false) (Rows.intakeCutsSpec.post enc Try.prog Try.f4 false true false false) := by
  refine returnsInHanded_of_change_shaped (C := Try.checked) Try.own started (by kernel_rfl) Try.func4
    (ChangeSpec.witness6 (enc := enc) (C := Try.checked) false ⟨#[], #[.agg #[.int .i64 0, .int .u64 0], .slice none 0 0, .int .u16 0], []⟩ 8 (by kernel_rfl) (by kernel_rfl) (by kernel_rfl) (by kernel_rfl)) ?_
  intro W base args ds gs before hval0 hW hcnd _ hsh _
  have hval : ∀ (j : Nat) t v, Try.f4.params[j]? = some t → args[j]? = some v → Value.okWide Try.prog W .any base t v := hval0
  have hW' := hW
  obtain ⟨p, q, hA0, hV, rfl, hfz, hnd⟩ := hW
  have hA : DataW.TrodAll enc Try.prog W 0 (fun _ => true) true Try.f4.params.toList args.toList ds p := hA0
  rw [Try.params4] at hA hval
  obtain ⟨v0, v1, v2, d0, d1, d2, p0, p1, p2, rfl, rfl, rfl, h0, h1, h2⟩ := trodAll_three hA
  obtain ⟨rfl, rfl⟩ := trodVars_none hV
  obtain ⟨k, s, rfl, ws, _⟩ := open_framing (hval 0 24 v0 rfl rfl) h0
  obtain ⟨l, w2, w3⟩ := open_bytesR Try.underlying27 Try.underlying5 (by kernel_rfl) (hval 1 27 v1 rfl rfl) h1
  obtain ⟨a2, rfl, rfl, rfl, w4⟩ := open_int Try.underlying40 (hval 2 40 v2 rfl rfl) h2
  have w5 := w4
  simp [Lit.wf, IntKind.min, IntKind.max, IntKind.signed, IntKind.bits] at w5
  obtain ⟨cu, rfl⟩ := Int.eq_ofNat_of_zero_le w5.1
  obtain ⟨A, cap, rfl, hc, hcm, hr⟩ := rdB_of w2 w3
  obtain ⟨e0, e1, e2, e3, e4, e5, hT⟩ := ends_of_shaped hsh
  clear hA0 hval0
  simp only [List.append_nil] at hW'
  refine (IntakeCuts_any k s cu (by omega) ws A cap (toB l) hc hcm hr hT).mono fun e W' ⟨he, hb⟩ => ?_
  have hlt : ∀ x ∈ p0 ++ p1, x.block < W.heap.size := fun x hx => by simpa using hW'.lt x (by simpa using hx)
  subst he
  exact ⟨_, rfl, post_of_below (pa := _) (pv := []) hW' (fun _ _ _ => trodAll_mk1 (shut_bool Try.underlying4 _))
    (fun spb sp => trodAll_mk3 (WideElems.Trod_stays Try.laidOut (by kernel_rfl) (of_decide_eq_true (by kernel_rfl)) h0 (fun x hx => hb.same (hlt x (by simp [hx]))) (fun x hx => sp x (by simp [hx])))
      (WideElems.Trod_stays Try.laidOut (by kernel_rfl) (of_decide_eq_true (by kernel_rfl)) h1 (fun x hx => hb.same (hlt x (by simp [hx]))) (fun x hx => sp x (by simp [hx])))
      (shut_int Try.underlying40 w4)) (fun _ _ => rfl) (by simp)
    hb (ok_one (by kernel_rfl) rfl (okWide_bool_mk Try.underlying4 _))⟩

theorem intakeCuts_holds : Rows.IntakeCutsSaid :=
  OpenClaim.holds_of_wide 4 Try.f4 rfl rfl rfl rfl rfl rfl rfl ⟨rfl, rfl, rfl, rfl, rfl⟩ rfl rfl rfl rfl rfl (by kernel_rfl) Try.func4 (by kernel_rfl)
    (of_decide_eq_true (by kernel_rfl)) (by unfold Func.isWrapper; first | (rw [if_pos (by decide +kernel)]; kernel_rfl) | (rw [if_neg (by decide +kernel)]; exact ⟨rfl, rfl⟩))
    (fun os started H enc _ => intakeCuts_lifted os started H enc)
#print axioms intakeCuts_holds

end Go.Proofs.Ytfeljjlpdefnmaa
