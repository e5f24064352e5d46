/-
  Layer 28: how many lines a script's text has.
-/
import Derived.Test.YtplcfijcmihhlaaDoorPutW28
namespace Go.Proofs.YtplcfijcmihhlaaDoor
open Go.RowKit Go.Proofs.YtplcfijcmihhlaaDoorW.PrintWords
set_option linter.unusedVariables false
set_option linter.unusedSimpArgs false

def NoNl (l : List UInt8) : Prop := (10 : UInt8) ∉ l
theorem count_line {key word : ByteArray} (hk : NoNl key.data.toList) (hw : NoNl word.data.toList) : (lineB key word).count 10 = 1 := by
  unfold lineB NoNl at *
  rw [List.count_append, List.count_append, List.count_append, List.count_eq_zero.2 hk, List.count_eq_zero.2 hw]
  rfl
theorem hexd_ne (n : Nat) (h : n < 16) : hexd n ≠ 10 := by
  have : ∀ k : Fin 16, hexd k.val ≠ 10 := by decide
  exact this ⟨n, h⟩
theorem noNl_hexL : ∀ (b : List Int), InB b → NoNl (hexL b)
  | [], _ => by simp [NoNl, hexL]
  | x :: b, h => by
    have ih := noNl_hexL b (fun y hy => h y (List.mem_cons_of_mem _ hy))
    have hx := h x List.mem_cons_self
    have e : hexL (x :: b) = hexd (x.toNat / 16) :: hexd (x.toNat % 16) :: hexL b := by simp [hexL]
    have h1 := hexd_ne (x.toNat / 16) (by omega)
    have h2 := hexd_ne (x.toNat % 16) (by omega)
    unfold NoNl at *
    rw [e]
    simp only [List.mem_cons, not_or]
    exact ⟨h1.symm, h2.symm, ih⟩
theorem noNl_hexS (b : List Int) (h : InB b) : NoNl (hexS b).data.toList := by
  unfold hexS
  split
  · simp [NoNl]
  · exact noNl_hexL b h
theorem noNl_lett (l : List Int) : NoNl (l.map lett) := by
  intro h
  obtain ⟨p, _, hp⟩ := List.mem_map.1 h
  unfold lett at hp
  split at hp
  · exact absurd hp (by decide)
  · split at hp <;> exact absurd hp (by decide)
theorem noNl_endW (e : Int) : NoNl (endW e).data.toList := by unfold endW NoNl; split; decide; split <;> decide
theorem noNl_stopW (e : Int) : NoNl (stopW e).data.toList := by unfold stopW NoNl; split; decide; split <;> decide

theorem dig48 (n : Nat) (h : n < 10) : UInt8.ofNat (48 + n) ≠ 10 := by
  have : ∀ k : Fin 10, UInt8.ofNat (48 + k.val) ≠ 10 := by decide
  exact this ⟨n, h⟩
theorem noNl_dec (u : Nat) : NoNl (Lib.decDigits u) := by
  induction u using Nat.strongRecOn with
  | _ u ih =>
    unfold NoNl
    rw [Lib.decDigits]
    split
    · rename_i h
      simp only [List.mem_singleton]
      exact (dig48 u h).symm
    · rename_i h
      rw [List.mem_append, not_or]
      refine ⟨ih (u / 10) (by omega), ?_⟩
      simp only [List.mem_singleton]
      exact (dig48 (u % 10) (by omega)).symm
theorem noNl_itoa (n : Int) : NoNl (Lib.itoa n) := by
  unfold Lib.itoa
  split
  · unfold NoNl
    simp only [List.mem_cons, not_or]
    exact ⟨by decide, noNl_dec _⟩
  · exact noNl_dec _
theorem count_ups : ∀ (l : List (List Int)), (∀ x ∈ l, InB x) → (upsT l).count 10 = l.length
  | [], _ => by simp [upsT]
  | p :: l, h => by
    have ih := count_ups l (fun y hy => h y (List.mem_cons_of_mem _ hy))
    have e : upsT (p :: l) = lineB sUp (hexS p) ++ upsT l := rfl
    rw [e, List.count_append, ih, count_line (by unfold NoNl; decide) (noNl_hexS p (h p List.mem_cons_self)), List.length_cons]; omega
theorem count_takes : ∀ (l : List Int), (takesT l).count 10 = l.length
  | [] => by simp [takesT]
  | n :: l => by
    have ih := count_takes l
    have e : takesT (n :: l) = lineB sTake ⟨(Lib.itoa n).toArray⟩ ++ takesT l := rfl
    rw [e, List.count_append, ih, count_line (by unfold NoNl; decide) (noNl_itoa n), List.length_cons]; omega
theorem count_picks (l : List Int) : ∀ (os : List Nat), (os.flatMap fun x => lineB sPick (pieceW l x)).count 10 = os.length
  | [] => by simp
  | x :: os => by
    have ih := count_picks l os
    rw [List.flatMap_cons, List.count_append, ih, count_line (by unfold NoNl; decide) (noNl_lett _), List.length_cons]; omega
theorem count_put (l0 : List (List Int)) (e : Int) (l2 : List Int) (s : Int) (l4 : List Int) (h : ∀ x ∈ l0, InB x) : (putT l0 e l2 s l4).count 10 = l0.length + l2.length + 2 + nOffs l4.length := by
  unfold putT picksT
  rw [List.count_append, List.count_append, List.count_append, List.count_append, count_ups l0 h, count_line (by unfold NoNl; decide) (noNl_endW e), count_takes, count_line (by unfold NoNl; decide) (noNl_stopW s), count_picks]
  simp only [offsL, List.length_map, List.length_range]; omega

end Go.Proofs.YtplcfijcmihhlaaDoor
