/-
  The plain law of layer 17: what the intake took, and the rest behind it, are the first bytes of all that came.
-/
import Derived.Test.YtfeljjlpdefnmaaGreatSrcS
namespace Go.Proofs.YtfeljjlpdefnmaaGreat
open Go.RowKit
set_option linter.unusedVariables false
set_option linter.unusedSimpArgs false

section
variable {e0 e1 e2 e3 e4 e5 : Int}
theorem readP_spec (s0 : Src) (n : Nat) (end_ reads : Int) (shut : Bool) : ∀ (L : List (List UInt8)) (b : Bool), (readP s0 n end_ reads shut b L).1 ++ (readP s0 n end_ reads shut b L).2.2.pcs.flatten = L.flatten ∧ (readP s0 n end_ reads shut b L).2.2.reads = reads + (readP s0 n end_ reads shut b L).1.length ∧
    ((readP s0 n end_ reads shut b L).2.1 ≠ 0 → (readP s0 n end_ reads shut b L).1 = []) := by
  intro L
  induction L with
  | nil => intro b; simp [readP]
  | cons p L ih =>
    intro b
    cases p with
    | nil =>
      rw [readP]
      split
      · have := ih false
        simpa using this
      · simp
    | cons c p =>
      rw [readP]
      refine ⟨?_, rfl, fun h => absurd rfl h⟩
      show (c :: p).take n ++ ((c :: p).drop n :: L).flatten = ((c :: p) :: L).flatten
      rw [List.flatten_cons, List.flatten_cons, ← List.append_assoc, List.take_append_drop]
theorem Src.read_spec (s : Src) (n : Nat) : (s.read n).1 ++ (s.read n).2.2.pcs.flatten = s.pcs.flatten ∧ (s.read n).2.2.reads = s.reads + (s.read n).1.length ∧ ((s.read n).2.1 ≠ 0 → (s.read n).1 = []) := by
  unfold Src.read
  split
  · simp
  · exact readP_spec _ n _ _ _ _ _
theorem runD_halt : ∀ (bs : List UInt8) (d : Dec), (runD e0 e1 e2 e3 e4 e5 d bs).2.2 < bs.length → (runD e0 e1 e2 e3 e4 e5 d bs).1.e ≠ 0 ∨ (runD e0 e1 e2 e3 e4 e5 d bs).1.place = 11 := by
  intro bs
  induction bs with
  | nil => intro d h; simp at h
  | cons c cs ih =>
    intro d h
    rw [runD] at h ⊢
    split at h <;> rename_i h1
    · rw [if_pos h1]; exact h1
    · rw [if_neg h1]
      split at h <;> rename_i h2
      · rw [if_pos h2]
        exact ih _ (by simp only [List.length_cons] at h; omega)
      · rw [if_neg h2]
        split at h <;> rename_i h3
        · rw [if_pos h3]
          exact ih _ (by simp only [List.length_cons] at h; omega)
        · rw [if_neg h3]
          exact .inl h3
theorem Itk.put_spec {i : Itk} {N : Int} (hw : i.wf N) (he : i.e = 0) (hd : i.done = false) (bs : List UInt8) :
    (i.put e0 e1 e2 e3 e4 e5 bs).1.taken = i.taken + (i.put e0 e1 e2 e3 e4 e5 bs).2.2.1 ∧ ((i.put e0 e1 e2 e3 e4 e5 bs).2.2.1 < bs.length → (i.put e0 e1 e2 e3 e4 e5 bs).1.e ≠ 0 ∨ (i.put e0 e1 e2 e3 e4 e5 bs).1.done = true) ∧
    ((∃ l, (i.put e0 e1 e2 e3 e4 e5 bs).1.t = .sized l) → (bs.length : Int) ≤ i.wants → (i.put e0 e1 e2 e3 e4 e5 bs).2.2.1 = bs.length) := by
  have hn : ¬ (i.e ≠ 0 ∨ i.done = true) := by simp [he, hd]
  unfold Itk.wants
  rw [if_neg hn]
  unfold Itk.put
  rw [if_neg hn]
  refine ⟨rfl, ?_, ?_⟩
  · dsimp only
    intro h
    unfold Itk.done
    dsimp only
    obtain ⟨h0, -⟩ := hw
    cases ht : i.t with
    | sized l =>
      rw [ht] at h h0
      obtain ⟨h1, h2⟩ := h0
      change min l.toNat bs.length < bs.length at h
      right
      show ((0 : Int) == 0 && (l - ((min l.toNat bs.length : Nat) : Int) == 0)) = true
      rw [show l - ((min l.toNat bs.length : Nat) : Int) = 0 by omega]
      rfl
    | all c =>
      rw [ht] at h
      simp [Tak.put] at h
    | chunk d =>
      rw [ht] at h
      simp only [Tak.put] at h ⊢
      rcases runD_halt bs d h with h1 | h1
      · exact .inl h1
      · by_cases h2 : (runD e0 e1 e2 e3 e4 e5 d bs).1.e = 0
        · right
          simp [Tak.done, h1, h2]
        · exact .inl h2
  · rintro ⟨l', hl'⟩ hle
    dsimp only at hl' ⊢
    cases ht : i.t with
    | sized l =>
      rw [ht] at hle
      change (bs.length : Int) ≤ l at hle
      show min l.toNat bs.length = bs.length
      omega
    | all c => rw [ht] at hl'; simp [Tak.put] at hl'
    | chunk d => rw [ht] at hl'; simp [Tak.put] at hl'
theorem Itk.put_szd {i : Itk} (he : i.e = 0) (hd : i.done = false) (bs : List UInt8) (h : ∃ l, (i.put e0 e1 e2 e3 e4 e5 bs).1.t = .sized l) : ∃ l, i.t = .sized l := by
  have hn : ¬ (i.e ≠ 0 ∨ i.done = true) := by simp [he, hd]
  obtain ⟨l', hl'⟩ := h
  unfold Itk.put at hl'
  rw [if_neg hn] at hl'
  dsimp only at hl'
  cases ht : i.t with
  | sized l => exact ⟨l, rfl⟩
  | all c => rw [ht] at hl'; simp [Tak.put] at hl'
  | chunk d => rw [ht] at hl'; simp [Tak.put] at hl'
theorem Itk.close_spec {i : Itk} {N : Int} (hw : i.wf N) : i.close.2.wf N ∧ i.close.2.taken = i.taken ∧ ((∃ l, i.close.2.t = .sized l) → ∃ l, i.t = .sized l) := by
  unfold Itk.close
  split
  · exact ⟨hw, rfl, fun h => h⟩
  · cases ht : i.t with
    | sized l => exact ⟨by obtain ⟨h0, h1⟩ := hw; rw [ht] at h0; exact ⟨h0, h1⟩, rfl, fun _ => ⟨l, rfl⟩⟩
    | all c => exact ⟨⟨trivial, hw.2⟩, rfl, fun ⟨l, h⟩ => by cases h⟩
    | chunk d => exact ⟨by obtain ⟨h0, h1⟩ := hw; rw [ht] at h0; exact ⟨h0, h1⟩, rfl, fun ⟨l, h⟩ => by cases h⟩
/-- Where a reader stands in all that came. -/
structure SrcOk (all : List UInt8) (x : Rdr) : Prop where
  head : ∃ h : List UInt8, all = h ++ (x.rest ++ x.s.pcs.flatten) ∧ x.i.taken = h.length ∧ x.s.reads = (h.length + x.rest.length : Nat)
  stop : x.rest ≠ [] → x.i.e ≠ 0 ∨ x.i.done = true
  iw : x.i.wf x.s.reads
  cw : x.c.wf
  rw : x.r.wf
  szd : (∃ l, x.i.t = .sized l) → x.rest = []
theorem Cred.wf_c1 {x : Rdr} (h : x.c.wf) : x.c1.wf := Cred.wf_move h _ (.inl ⟨rfl, rfl⟩)
theorem SrcOk.step {all : List UInt8} {x : Rdr} (h : SrcOk all x) : SrcOk all (x.step e0 e1 e2 e3 e4 e5).2 := by
  obtain ⟨⟨hd, hall, htk, hrd⟩, hstop, hiw, hcw, hrw, hsz⟩ := h
  unfold Rdr.step
  by_cases hs : x.stopped = true
  · rw [if_pos hs]; exact ⟨⟨hd, hall, htk, hrd⟩, hstop, hiw, hcw, hrw, hsz⟩
  rw [if_neg hs]
  by_cases hop : x.c.op = 0
  · rw [if_pos hop]; exact ⟨⟨hd, hall, htk, hrd⟩, hstop, hiw, hcw, hrw, hsz⟩
  rw [if_neg hop]
  have hs' : x.i.done = false ∧ x.i.e = 0 := by
    unfold Rdr.stopped at hs
    simp only [Bool.or_eq_true, not_or, Bool.not_eq_true, bne_eq_false_iff_eq] at hs
    exact ⟨hs.1.2, hs.2⟩
  obtain ⟨hdn, hie⟩ := hs'
  have hre : x.rest = [] := by
    apply Classical.byContradiction
    intro hne
    rcases hstop hne with h1 | h1
    · exact h1 hie
    · rw [hdn] at h1; cases h1
  have hrs := x.s.read_spec x.n
  have hrl := x.s.read_len x.n
  obtain ⟨rd, hrdv⟩ : ∃ rd, x.s.read x.n = rd := ⟨_, rfl⟩
  rw [hrdv] at hrs hrl ⊢
  obtain ⟨bs, er, s'⟩ := rd
  dsimp only at hrs hrl ⊢
  obtain ⟨r1, r2, r3⟩ := hrs
  have hc1 := Cred.wf_c1 hcw
  have hc2 : (x.c1.move x.n 1 0).2.wf := Cred.wf_move hc1 _ (.inr (.inr (.inl ⟨rfl, rfl⟩)))
  by_cases her : er = 0
  · rw [if_neg (by simpa using her)]
    by_cases hbs : bs = []
    · rw [if_pos hbs]
      subst hbs
      rw [List.nil_append] at r1
      simp only [List.length_nil] at r2
      have r2' : s'.reads = x.s.reads := by omega
      exact ⟨⟨hd, by dsimp only; rw [r1]; exact hall, htk, by dsimp only; rw [r2']; exact hrd⟩, hstop, by dsimp only; rw [r2']; exact hiw, hc2, hrw, hsz⟩
    · rw [if_neg hbs]
      have hp1 := Itk.put_spec (e0 := e0) (e1 := e1) (e2 := e2) (e3 := e3) (e4 := e4) (e5 := e5) hiw hie hdn bs
      have hp2 := Itk.put_szd (e0 := e0) (e1 := e1) (e2 := e2) (e3 := e3) (e4 := e4) (e5 := e5) hie hdn bs
      have hp3 := x.i.put_len (e0 := e0) (e1 := e1) (e2 := e2) (e3 := e3) (e4 := e4) (e5 := e5) bs
      have hp4 := Itk.put_wf (e0 := e0) (e1 := e1) (e2 := e2) (e3 := e3) (e4 := e4) (e5 := e5) hiw bs (M := s'.reads) (by rw [r2]; omega)
      have hwp := Itk.wants_pos hiw hie hdn
      have hnw : (bs.length : Int) ≤ x.i.wants := by
        have : (x.n : Int) ≤ x.i.wants := by unfold Rdr.n; have := hcw.1; omega
        omega
      unfold Rdr.moved
      obtain ⟨pt, hpt⟩ : ∃ pt, x.i.put e0 e1 e2 e3 e4 e5 bs = pt := ⟨_, rfl⟩
      rw [hpt] at hp1 hp2 hp3 hp4 ⊢
      obtain ⟨i', dt, k, pe⟩ := pt
      dsimp only at hp1 hp2 hp3 hp4 ⊢
      obtain ⟨q1, q2, q3⟩ := hp1
      refine ⟨⟨hd ++ bs.take k, ?_, ?_, ?_⟩, ?_, hp4, ?_, Rg.write_wf hrw dt, ?_⟩
      · dsimp only
        rw [hre, List.nil_append, hall, hre, List.nil_append, ← r1, List.append_assoc, ← List.append_assoc (bs.take k), List.take_append_drop]
      · dsimp only
        rw [q1, htk, List.length_append, List.length_take]
        omega
      · dsimp only
        rw [r2, hrd, hre, List.nil_append, List.length_append, List.length_take, List.length_drop]
        simp only [List.length_nil]
        omega
      · dsimp only
        intro hne
        refine q2 ?_
        rw [hre, List.nil_append] at hne
        have : 0 < (bs.drop k).length := List.length_pos_iff.2 hne
        rw [List.length_drop] at this
        omega
      · dsimp only
        exact Cred.wf_move (Cred.wf_move hc1 _ (.inr (.inl ⟨rfl, rfl⟩))) _ (.inr (.inr (.inl ⟨rfl, rfl⟩)))
      · dsimp only
        intro hl
        rw [hre, List.nil_append, q3 hl hnw, List.drop_length]
  · rw [if_pos her]
    have hb := r3 her
    subst hb
    rw [List.nil_append] at r1
    simp only [List.length_nil] at r2
    have r2' : s'.reads = x.s.reads := by omega
    obtain ⟨k1, k2, k3⟩ := Itk.close_spec hiw
    dsimp only
    unfold Rdr.ended
    split
    · exact ⟨⟨hd, by dsimp only; rw [r1]; exact hall, htk, by dsimp only; rw [r2']; exact hrd⟩, hstop, by dsimp only; rw [r2']; exact hiw, hc2, hrw, hsz⟩
    · exact ⟨⟨hd, by dsimp only; rw [r1]; exact hall, by dsimp only; rw [k2]; exact htk, by dsimp only; rw [r2']; exact hrd⟩, fun hne => absurd hre hne, by dsimp only; rw [r2']; exact k1, hc2, hrw, fun hl => hsz (k3 hl)⟩
theorem SrcOk.take {all : List UInt8} {x : Rdr} (h : SrcOk all x) (n : Nat) : SrcOk all { x with r := x.r.drop n } := ⟨h.head, h.stop, h.iw, h.cw, Rg.drop_wf h.rw n, h.szd⟩
theorem Cred.give_wf {c : Cred} (h : c.wf) (n : Int) : (c.give n).2.wf := by
  have := Cred.wf_move h n (f := 2) (t := 0) (.inr (.inr (.inr ⟨rfl, rfl⟩)))
  unfold Cred.give
  split
  · exact this
  · exact this
theorem SrcOk.give {all : List UInt8} {x : Rdr} (h : SrcOk all x) (n : Nat) : SrcOk all (x.give n).2 := by
  unfold Rdr.give
  split
  · exact h
  · exact ⟨h.head, h.stop, h.iw, Cred.give_wf h.cw n, h.rw, h.szd⟩
theorem Itk.put_sized {i : Itk} (bs : List UInt8) (h : ∃ l, i.t = .sized l) : ∃ l, (i.put e0 e1 e2 e3 e4 e5 bs).1.t = .sized l := by
  obtain ⟨l, hl⟩ := h
  unfold Itk.put
  split
  · exact ⟨l, hl⟩
  · dsimp only
    rw [hl]
    exact ⟨_, rfl⟩
theorem Itk.close_sized {i : Itk} (h : ∃ l, i.t = .sized l) : ∃ l, i.close.2.t = .sized l := by
  obtain ⟨l, hl⟩ := h
  unfold Itk.close
  split
  · exact ⟨l, hl⟩
  · rw [hl]
    exact ⟨l, rfl⟩
theorem Rdr.step_sized {x : Rdr} (h : ∃ l, x.i.t = .sized l) : ∃ l, (x.step e0 e1 e2 e3 e4 e5).2.i.t = .sized l := by
  unfold Rdr.step
  split
  · exact h
  · split
    · exact h
    · split
      · dsimp only
        unfold Rdr.ended
        split
        · exact h
        · exact Itk.close_sized h
      · split
        · exact h
        · exact Itk.put_sized _ h
theorem Cred.move_gr (c : Cred) (n f t : Int) : (c.move n f t).2.gr = c.gr := by
  unfold Cred.move Cred.set
  repeat' split
  all_goals rfl
theorem Rdr.step_gr (x : Rdr) : (x.step e0 e1 e2 e3 e4 e5).2.c.gr = x.c.gr := by
  unfold Rdr.step
  split
  · rfl
  · split
    · rfl
    · split
      · dsimp only
        unfold Rdr.ended
        split
        · show (x.c1.move _ 1 0).2.gr = _
          rw [Cred.move_gr]; exact Cred.move_gr _ _ _ _
        · show (x.c1.move _ 1 0).2.gr = _
          rw [Cred.move_gr]; exact Cred.move_gr _ _ _ _
      · split
        · show (x.c1.move _ 1 0).2.gr = _
          rw [Cred.move_gr]; exact Cred.move_gr _ _ _ _
        · show ((x.c1.move _ 1 2).2.move _ 1 0).2.gr = _
          rw [Cred.move_gr, Cred.move_gr]; exact Cred.move_gr _ _ _ _
theorem Rdr.give_gr (x : Rdr) (n : Nat) : x.c.gr ≤ (x.give n).2.c.gr ∧ (x.give n).2.c.gr ≤ x.c.gr + n := by
  unfold Rdr.give Cred.give
  split
  · exact ⟨Int.le_refl _, by dsimp only; omega⟩
  · dsimp only
    split
    · dsimp only; rw [Cred.move_gr]; omega
    · rw [Cred.move_gr]; omega
theorem Rdr.give_i (x : Rdr) (n : Nat) : (x.give n).2.i = x.i := by
  unfold Rdr.give
  split <;> rfl
end

end Go.Proofs.YtfeljjlpdefnmaaGreat
