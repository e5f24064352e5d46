/-
  Bytes cut in two, in plain Lean: an intake takes them as it takes them at once.
-/
import Derived.Test.YtfeljjlpdefnmaaInw
namespace Go.Proofs.Ytfeljjlpdefnmaa
open Go.RowKit
set_option linter.unusedVariables false
set_option linter.unusedSimpArgs false

def setTG (a b : Int) (d : Dec) : Dec := { d with taken := a, given := b }
section
variable {e0 e1 e2 e3 e4 e5 : Int}
theorem toD_TG (a b : Int) (d : Dec) (p : Int) (ok : Bool) : toD (setTG a b d) p ok = ((toD d p ok).1, setTG a b (toD d p ok).2) := by unfold toD; split <;> rfl
theorem moreD_TG (a b : Int) (d : Dec) (c : UInt8) (p : Int) : moreD (setTG a b d) c p = ((moreD d c p).1, setTG a b (moreD d c p).2) := by
  unfold moreD
  show (if d.size ≥ d.byt then _ else _) = _
  split <;> rfl
theorem extD_TG (a b : Int) (d : Dec) (c : UInt8) : extD (setTG a b d) c = ((extD d c).1, setTG a b (extD d c).2) := by
  unfold extD
  show (if c = 13 then _ else if txtB c = false then _ else if d.count ≥ d.ext then _ else _) = _
  split
  · rfl
  · split
    · rfl
    · split <;> rfl
theorem stepD_TG (a b : Int) (d : Dec) (c : UInt8) : stepD e0 e1 e2 e3 e4 e5 (setTG a b d) c = ((stepD e0 e1 e2 e3 e4 e5 d c).1, setTG a b (stepD e0 e1 e2 e3 e4 e5 d c).2) := by
  unfold stepD
  show (if d.place = 0 then _ else if d.place = 1 then _ else if d.place = 2 then _ else if d.place = 4 then _ else if d.place = 5 then _ else if d.place = 6 then _ else if d.place = 7 then _ else if d.place = 8 then _ else if d.place = 9 then _ else _) = _
  split
  · unfold digD
    show (if 0 ≤ digitV (c.toNat : Int) then (if d.count = 16 ∨ (moreV d.n (c.toNat : Int)).2 ≠ 0 then _ else _) else if d.count = 0 then _ else if c = 59 then _ else _) = _
    split
    · split <;> rfl
    · split
      · rfl
      · split
        · have h := extD_TG a b { d with count := 0, place := 1 } c
          have h2 : ({ setTG a b d with count := 0, place := 1 } : Dec) = setTG a b { d with count := 0, place := 1 } := rfl
          rw [h2, h]
          dsimp only
          split <;> rfl
        · exact toD_TG a b d 2 _
  split
  · exact extD_TG a b d c
  split
  · unfold begD
    show (if d.n = 0 then _ else _) = _
    split <;> exact toD_TG a b d _ _
  split
  · exact toD_TG a b d 5 _
  split
  · exact toD_TG a b { d with count := 0 } 0 _
  split
  · unfold firD
    have h := moreD_TG a b d c 7
    show (if c = 13 then _ else if tokB e0 e1 e2 e3 e4 e5 c = false then _ else if d.lines ≥ d.fls then _ else _) = _
    split
    · exact toD_TG a b d 10 _
    · split
      · rfl
      · split
        · rfl
        · rw [h]
          dsimp only
          split <;> rfl
  split
  · unfold namdD
    split
    · exact moreD_TG a b d c 8
    · split
      · rfl
      · exact moreD_TG a b d c 7
  split
  · unfold valdD
    split
    · exact moreD_TG a b d c 9
    · split
      · rfl
      · exact moreD_TG a b d c 8
  split
  · unfold linD
    have h := moreD_TG a b d c 6
    split
    · rw [h]
      dsimp only
      split <;> rfl
    · rfl
  · exact toD_TG a b d 11 _
theorem runD_TG (a b : Int) : ∀ (cs : List UInt8) (d : Dec), runD e0 e1 e2 e3 e4 e5 (setTG a b d) cs = (setTG a b (runD e0 e1 e2 e3 e4 e5 d cs).1, (runD e0 e1 e2 e3 e4 e5 d cs).2.1, (runD e0 e1 e2 e3 e4 e5 d cs).2.2) := by
  intro cs
  induction cs with
  | nil => intro d; rfl
  | cons c cs ih =>
    intro d
    rw [runD, runD]
    show (if d.e ≠ 0 ∨ d.place = 11 then _ else if d.place = 3 then _ else _) = _
    split
    · rfl
    · split
      · have h1 : datD (setTG a b d) = setTG a b (datD d) := rfl
        rw [h1, ih]
      · have h1 : putE (stepD e0 e1 e2 e3 e4 e5 (setTG a b d) c) = setTG a b (putE (stepD e0 e1 e2 e3 e4 e5 d c)) := by rw [stepD_TG]; rfl
        have h2 : (stepD e0 e1 e2 e3 e4 e5 (setTG a b d) c).1 = (stepD e0 e1 e2 e3 e4 e5 d c).1 := by rw [stepD_TG]
        rw [h1, h2, ih]
        split <;> rfl
theorem Tak.put_cut (t : Tak) {N : Int} (hw : t.wf N) (xs ys : List UInt8) :
    t.put e0 e1 e2 e3 e4 e5 (xs ++ ys) = if (t.put e0 e1 e2 e3 e4 e5 xs).2.2.1 = xs.length ∧ (t.put e0 e1 e2 e3 e4 e5 xs).2.2.2 = 0 then
      (((t.put e0 e1 e2 e3 e4 e5 xs).1.put e0 e1 e2 e3 e4 e5 ys).1, (t.put e0 e1 e2 e3 e4 e5 xs).2.1 ++ ((t.put e0 e1 e2 e3 e4 e5 xs).1.put e0 e1 e2 e3 e4 e5 ys).2.1, xs.length + ((t.put e0 e1 e2 e3 e4 e5 xs).1.put e0 e1 e2 e3 e4 e5 ys).2.2.1, ((t.put e0 e1 e2 e3 e4 e5 xs).1.put e0 e1 e2 e3 e4 e5 ys).2.2.2)
    else t.put e0 e1 e2 e3 e4 e5 xs := by
  cases t with
  | sized l =>
    obtain ⟨h0, h1⟩ := hw
    obtain ⟨n, rfl⟩ := Int.eq_ofNat_of_zero_le h0
    simp only [Tak.put, Int.toNat_natCast, and_true, List.length_append]
    split
    · rename_i h
      have e : ((n : Int) - ((min n xs.length : Nat) : Int)).toNat = n - xs.length := by omega
      have e2 : (n : Int) - ((min n (xs.length + ys.length) : Nat) : Int) = (n : Int) - ((min n xs.length : Nat) : Int) - ((min (n - xs.length) ys.length : Nat) : Int) := by omega
      have e3 : min n (xs.length + ys.length) = xs.length + min (n - xs.length) ys.length := by omega
      rw [e, e2, h, e3, List.take_length, List.take_length_add_append]
    · rename_i h
      have e3 : min n (xs.length + ys.length) = min n xs.length := by omega
      rw [e3, List.take_append_of_le_length (by omega)]
  | all c =>
    simp [Tak.put]
  | chunk d =>
    have ha := runD_append (e0 := e0) (e1 := e1) (e2 := e2) (e3 := e3) (e4 := e4) (e5 := e5) xs ys d
    have hT := fun a b rd => runD_TG (e0 := e0) (e1 := e1) (e2 := e2) (e3 := e3) (e4 := e4) (e5 := e5) a b ys rd
    unfold setTG at hT
    by_cases hf : (Tak.put e0 e1 e2 e3 e4 e5 xs (.chunk d)).2.2.1 = xs.length ∧ (Tak.put e0 e1 e2 e3 e4 e5 xs (.chunk d)).2.2.2 = 0
    · rw [if_pos hf]
      obtain ⟨h1, h2⟩ : (runD e0 e1 e2 e3 e4 e5 d xs).2.2 = xs.length ∧ (runD e0 e1 e2 e3 e4 e5 d xs).1.e = 0 := hf
      rw [if_pos h1] at ha
      simp only [Tak.put]
      rw [ha, hT (d.taken + (runD e0 e1 e2 e3 e4 e5 d xs).2.2) (d.given + (runD e0 e1 e2 e3 e4 e5 d xs).2.1.length) (runD e0 e1 e2 e3 e4 e5 d xs).1]
      dsimp only
      rw [h1]
      simp only [List.length_append, Int.natCast_add, Int.add_assoc]
    · rw [if_neg hf]
      have h3 : ¬ ((runD e0 e1 e2 e3 e4 e5 d xs).2.2 = xs.length ∧ (runD e0 e1 e2 e3 e4 e5 d xs).1.e = 0) := hf
      have ha2 : runD e0 e1 e2 e3 e4 e5 d (xs ++ ys) = runD e0 e1 e2 e3 e4 e5 d xs := by
        rw [ha]
        split
        · rename_i h1
          have h2 : (runD e0 e1 e2 e3 e4 e5 d xs).1.e ≠ 0 := fun h => h3 ⟨h1, h⟩
          rw [runD_stop (.inr (.inl h2))]
          simp [← h1]
        · rfl
      simp only [Tak.put]
      rw [ha2]
theorem Itk.put_cut (i : Itk) {N : Int} (hw : i.wf N) (he : i.e = 0) (xs ys : List UInt8) :
    i.put e0 e1 e2 e3 e4 e5 (xs ++ ys) = if (i.put e0 e1 e2 e3 e4 e5 xs).2.2.1 = xs.length ∧ (i.put e0 e1 e2 e3 e4 e5 xs).2.2.2 = 0 then
      (((i.put e0 e1 e2 e3 e4 e5 xs).1.put e0 e1 e2 e3 e4 e5 ys).1, (i.put e0 e1 e2 e3 e4 e5 xs).2.1 ++ ((i.put e0 e1 e2 e3 e4 e5 xs).1.put e0 e1 e2 e3 e4 e5 ys).2.1, xs.length + ((i.put e0 e1 e2 e3 e4 e5 xs).1.put e0 e1 e2 e3 e4 e5 ys).2.2.1, ((i.put e0 e1 e2 e3 e4 e5 xs).1.put e0 e1 e2 e3 e4 e5 ys).2.2.2)
    else i.put e0 e1 e2 e3 e4 e5 xs := by
  by_cases hd : i.done = true
  · have hp : ∀ zs, i.put e0 e1 e2 e3 e4 e5 zs = (i, [], 0, i.e) := fun zs => if_pos (.inr hd)
    rw [hp, hp]
    dsimp only
    rw [hp]
    split
    · rename_i h
      rw [← h.1]
      rfl
    · rfl
  · have hs : ¬ (i.e ≠ 0 ∨ i.done = true) := by rintro (h | h); exact h he; exact hd h
    have hp : ∀ zs, i.put e0 e1 e2 e3 e4 e5 zs = (⟨(i.t.put e0 e1 e2 e3 e4 e5 zs).1, i.taken + (i.t.put e0 e1 e2 e3 e4 e5 zs).2.2.1, i.given + (i.t.put e0 e1 e2 e3 e4 e5 zs).2.1.length, (i.t.put e0 e1 e2 e3 e4 e5 zs).2.2.2⟩, (i.t.put e0 e1 e2 e3 e4 e5 zs).2.1, (i.t.put e0 e1 e2 e3 e4 e5 zs).2.2.1, (i.t.put e0 e1 e2 e3 e4 e5 zs).2.2.2) := fun zs => if_neg hs
    have hc := Tak.put_cut (e0 := e0) (e1 := e1) (e2 := e2) (e3 := e3) (e4 := e4) (e5 := e5) i.t hw.1 xs ys
    rw [hp, hp]
    dsimp only
    by_cases hf : (i.t.put e0 e1 e2 e3 e4 e5 xs).2.2.1 = xs.length ∧ (i.t.put e0 e1 e2 e3 e4 e5 xs).2.2.2 = 0
    · rw [if_pos hf] at hc ⊢
      have hw1 := Tak.put_wf (e0 := e0) (e1 := e1) (e2 := e2) (e3 := e3) (e4 := e4) (e5 := e5) hw.1 xs (Int.le_refl _)
      rw [hc]
      dsimp only
      by_cases hd1 : Itk.done ⟨(i.t.put e0 e1 e2 e3 e4 e5 xs).1, i.taken + (i.t.put e0 e1 e2 e3 e4 e5 xs).2.2.1, i.given + (i.t.put e0 e1 e2 e3 e4 e5 xs).2.1.length, (i.t.put e0 e1 e2 e3 e4 e5 xs).2.2.2⟩ = true
      · have h1 : ((i.t.put e0 e1 e2 e3 e4 e5 xs).1.put e0 e1 e2 e3 e4 e5 ys) = ((i.t.put e0 e1 e2 e3 e4 e5 xs).1, [], 0, 0) := by
          unfold Itk.done at hd1
          dsimp only at hd1
          rw [Bool.and_eq_true] at hd1
          have hd2 := hd1.2
          cases ht : i.t with
          | sized l =>
            rw [ht] at hd2 hw1
            simp only [Tak.put, Tak.done, beq_iff_eq] at hd2 ⊢
            rw [hd2]
            simp
          | all c =>
            rw [ht] at hd2
            simp only [Tak.put, Tak.done] at hd2
            exfalso
            apply hd
            unfold Itk.done
            rw [he, ht]
            simp [Tak.done, hd2]
          | chunk d =>
            rw [ht] at hd2 hf
            simp only [Tak.put, Tak.done, beq_iff_eq] at hd2 hf ⊢
            have h5 : ∀ D : Dec, D.place = 11 → runD e0 e1 e2 e3 e4 e5 D ys = (D, [], 0) := fun D h => runD_stop (.inr (.inr h))
            rw [h5]
            · simp [hf.2]
            · exact hd2
        rw [h1]
        rw [show Itk.put e0 e1 e2 e3 e4 e5 ys _ = _ from if_pos (.inr hd1)]
        dsimp only
        rw [hf.1, hf.2]
        simp
      · rw [show Itk.put e0 e1 e2 e3 e4 e5 ys ⟨(i.t.put e0 e1 e2 e3 e4 e5 xs).1, i.taken + (i.t.put e0 e1 e2 e3 e4 e5 xs).2.2.1, i.given + (i.t.put e0 e1 e2 e3 e4 e5 xs).2.1.length, (i.t.put e0 e1 e2 e3 e4 e5 xs).2.2.2⟩ = _ from if_neg (by rintro (h | h); exact h hf.2; exact hd1 h)]
        dsimp only
        rw [hf.1]
        simp only [List.length_append, Int.natCast_add, Int.add_assoc]
    · rw [if_neg hf] at hc ⊢
      rw [hc]
end

end Go.Proofs.Ytfeljjlpdefnmaa
