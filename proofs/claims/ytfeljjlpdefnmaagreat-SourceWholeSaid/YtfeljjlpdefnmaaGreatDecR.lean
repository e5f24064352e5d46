/-
  Layer 9 (dechunk): the bytes one by one, in plain Lean.
-/
import Derived.Test.YtfeljjlpdefnmaaGreatDecW
namespace Go.Proofs.YtfeljjlpdefnmaaGreat
open Go.RowKit
set_option linter.unusedVariables false
set_option linter.unusedSimpArgs false

def stepD (e0 e1 e2 e3 e4 e5 : Int) (d : Dec) (c : UInt8) : Int × Dec :=
  if d.place = 0 then digD d c else if d.place = 1 then extD d c else if d.place = 2 then begD d c else if d.place = 4 then toD d 5 (decide (c = 13))
  else if d.place = 5 then toD { d with count := 0 } 0 (decide (c = 10)) else if d.place = 6 then firD e0 e1 e2 e3 e4 e5 d c else if d.place = 7 then namdD e0 e1 e2 e3 e4 e5 d c
  else if d.place = 8 then valdD d c else if d.place = 9 then linD e0 e1 e2 e3 e4 e5 d c else toD d 11 (decide (c = 10))
def datD (d : Dec) : Dec := { d with n := d.n - 1, place := if d.n = 1 then 4 else 3 }
def putE (r : Int × Dec) : Dec := { r.2 with e := r.1 }
/-- What is taken of bytes: the decoder behind them, the data, and how many were taken. -/
def runD (e0 e1 e2 e3 e4 e5 : Int) (d : Dec) : List UInt8 → Dec × List UInt8 × Nat
  | [] => (d, [], 0)
  | c :: cs =>
    if d.e ≠ 0 ∨ d.place = 11 then (d, [], 0)
    else if d.place = 3 then ((runD e0 e1 e2 e3 e4 e5 (datD d) cs).1, c :: (runD e0 e1 e2 e3 e4 e5 (datD d) cs).2.1, (runD e0 e1 e2 e3 e4 e5 (datD d) cs).2.2 + 1)
    else if (stepD e0 e1 e2 e3 e4 e5 d c).1 = 0 then
      ((runD e0 e1 e2 e3 e4 e5 (putE (stepD e0 e1 e2 e3 e4 e5 d c)) cs).1, (runD e0 e1 e2 e3 e4 e5 (putE (stepD e0 e1 e2 e3 e4 e5 d c)) cs).2.1, (runD e0 e1 e2 e3 e4 e5 (putE (stepD e0 e1 e2 e3 e4 e5 d c)) cs).2.2 + 1)
    else (putE (stepD e0 e1 e2 e3 e4 e5 d c), [], 0)

structure WfD (d : Dec) : Prop where
  p0 : 0 ≤ d.place
  p1 : d.place ≤ 11
  n0 : 0 ≤ d.n
  n1 : d.n ≤ 4611686018427387903
  n3 : d.place = 3 → 0 < d.n
  c0 : 0 ≤ d.count
  c1 : d.count ≤ 1000000
  c16 : d.place = 0 → d.count ≤ 16
  l0 : 0 ≤ d.lines
  s0 : (d.line.length : Int) + d.fields.length ≤ d.size
  s1 : d.size ≤ 1000000
  p9 : d.place = 9 → 1 ≤ d.line.length
  x1 : d.ext ≤ 1000000
  f1 : d.fls ≤ 1000000
  b1 : d.byt ≤ 1000000

section
variable {e0 e1 e2 e3 e4 e5 : Int} {d : Dec}
theorem WfD.goTo (h : WfD d) (p : Int) (ok : Bool) (h0 : 0 ≤ p) (h1 : p ≤ 11) (h3 : p = 3 → 0 < d.n) (h16 : p = 0 → d.count ≤ 16) (h9 : p = 9 → 1 ≤ d.line.length) : WfD (toD d p ok).2 := by
  unfold toD
  split
  · exact ⟨h0, h1, h.n0, h.n1, h3, h.c0, h.c1, h16, h.l0, h.s0, h.s1, h9, h.x1, h.f1, h.b1⟩
  · exact h
theorem WfD.more (h : WfD d) (c : UInt8) (p : Int) (h0 : 0 ≤ p) (h1 : p ≤ 11) (h3 : p ≠ 3) (h16 : p ≠ 0) : WfD (moreD d c p).2 := by
  unfold moreD
  split
  · exact h
  · rename_i hs
    have := h.s0
    have := h.b1
    exact ⟨h0, h1, h.n0, h.n1, fun e => absurd e h3, h.c0, h.c1, fun e => absurd e h16, h.l0, by simp; omega, by simp; omega, fun _ => by simp, h.x1, h.f1, h.b1⟩
theorem moreV_bd (n c : Int) (hn : 0 ≤ n) : 0 ≤ (moreV n c).1 ∧ (moreV n c).1 ≤ 4611686018427387903 := by
  have := digitV_bd c
  unfold moreV
  split
  · simp
  · split
    · simp; omega
    · simp
theorem WfD.ext (h : WfD d) (c : UInt8) (hp : d.place = 1) : WfD (extD d c).2 := by
  unfold extD
  split
  · exact ⟨by simp, by simp, h.n0, h.n1, by simp, h.c0, h.c1, by simp, h.l0, h.s0, h.s1, by simp, h.x1, h.f1, h.b1⟩
  · split
    · exact h
    · split
      · exact h
      · rename_i hc
        have := h.c0
        have := h.x1
        exact ⟨h.p0, h.p1, h.n0, h.n1, h.n3, by simp; omega, by simp; omega, fun e => by simp [hp] at e, h.l0, h.s0, h.s1, h.p9, h.x1, h.f1, h.b1⟩
theorem WfD.dat (h : WfD d) (hp : d.place = 3) : WfD (datD d) := by
  have := h.n3 hp
  have := h.n1
  unfold datD
  refine ⟨?_, ?_, by simp; omega, by simp; omega, ?_, h.c0, h.c1, ?_, h.l0, h.s0, h.s1, ?_, h.x1, h.f1, h.b1⟩
  all_goals (dsimp only; split <;> simp <;> try omega)
theorem WfD.dig (h : WfD d) (c : UInt8) (hp : d.place = 0) : WfD (digD d c).2 := by
  have hc := h.c0
  unfold digD
  split
  · split
    · exact h
    · rename_i hn
      have h16 := h.c16 hp
      have h17 : d.count ≠ 16 := fun e => hn (.inl e)
      obtain ⟨m0, m1⟩ := moreV_bd d.n c.toNat h.n0
      exact ⟨h.p0, h.p1, m0, m1, fun e => by simp [hp] at e, by simp; omega, by simp; omega, fun _ => by simp; omega, h.l0, h.s0, h.s1, h.p9, h.x1, h.f1, h.b1⟩
  · split
    · exact h
    · split
      · have h1 : WfD { d with count := 0, place := 1 } := ⟨by simp, by simp, h.n0, h.n1, by simp, by simp, by simp, by simp, h.l0, h.s0, h.s1, by simp, h.x1, h.f1, h.b1⟩
        have h2 := h1.ext c rfl
        split
        · exact h2
        · exact ⟨by simp, by simp, h2.n0, h2.n1, by simp, by simp, by simp, by simp, h2.l0, h2.s0, h2.s1, by simp, h2.x1, h2.f1, h2.b1⟩
      · exact h.goTo 2 _ (by omega) (by omega) (by omega) (by omega) (by omega)
theorem WfD.lin (h : WfD d) (c : UInt8) : WfD (linD e0 e1 e2 e3 e4 e5 d c).2 := by
  unfold linD
  split
  · split
    · rename_i hm
      have h1 := h.more c 6 (by omega) (by omega) (by omega) (by omega)
      unfold moreD at hm h1 ⊢
      split at hm
      · simp at hm
      · rename_i hs
        rw [if_neg hs] at h1 ⊢
        have a := h1.s0
        simp only [List.length_append, List.length_singleton] at a
        exact ⟨by simp, by simp, h1.n0, h1.n1, by simp, h1.c0, h1.c1, by simp, h1.l0, by simp; omega, h1.s1, by simp, h1.x1, h1.f1, h1.b1⟩
    · exact h.more c 6 (by omega) (by omega) (by omega) (by omega)
  · exact h
theorem WfD.fir (h : WfD d) (c : UInt8) : WfD (firD e0 e1 e2 e3 e4 e5 d c).2 := by
  unfold firD
  split
  · exact h.goTo 10 _ (by omega) (by omega) (by omega) (by omega) (by omega)
  · split
    · exact h
    · split
      · exact h
      · have h1 := h.more c 7 (by omega) (by omega) (by omega) (by omega)
        have := h.l0
        split
        · exact ⟨h1.p0, h1.p1, h1.n0, h1.n1, h1.n3, h1.c0, h1.c1, h1.c16, by simp; omega, h1.s0, h1.s1, h1.p9, h1.x1, h1.f1, h1.b1⟩
        · exact h1
theorem stepD_wf (h : WfD d) (c : UInt8) (hp : d.place ≠ 3) : WfD (stepD e0 e1 e2 e3 e4 e5 d c).2 := by
  have g : ∀ p ok, 0 ≤ p → p ≤ 11 → p ≠ 3 → p ≠ 0 → p ≠ 9 → WfD (toD d p ok).2 := fun p ok h0 h1 h3 h16 h9 => h.goTo p ok h0 h1 (fun e => absurd e h3) (fun e => absurd e h16) (fun e => absurd e h9)
  unfold stepD
  split
  · exact h.dig c (by assumption)
  split
  · exact h.ext c (by assumption)
  split
  · unfold begD
    split
    · exact g 6 _ (by omega) (by omega) (by omega) (by omega) (by omega)
    · have := h.n0
      exact h.goTo 3 _ (by omega) (by omega) (fun _ => by omega) (by omega) (by omega)
  split
  · exact g 5 _ (by omega) (by omega) (by omega) (by omega) (by omega)
  split
  · rename_i h5
    have h1 : WfD { d with count := 0 } := ⟨h.p0, h.p1, h.n0, h.n1, h.n3, by simp, by simp, by simp, h.l0, h.s0, h.s1, h.p9, h.x1, h.f1, h.b1⟩
    exact h1.goTo 0 _ (by omega) (by omega) (by omega) (fun _ => by simp) (by omega)
  split
  · exact h.fir c
  split
  · unfold namdD
    split
    · exact h.more c 8 (by omega) (by omega) (by omega) (by omega)
    · split
      · exact h
      · exact h.more c 7 (by omega) (by omega) (by omega) (by omega)
  split
  · unfold valdD
    split
    · exact h.more c 9 (by omega) (by omega) (by omega) (by omega)
    · split
      · exact h
      · exact h.more c 8 (by omega) (by omega) (by omega) (by omega)
  split
  · exact h.lin c
  · exact g 11 _ (by omega) (by omega) (by omega) (by omega) (by omega)
theorem WfD.putE {r : Int × Dec} (h : WfD r.2) : WfD (putE r) := ⟨h.p0, h.p1, h.n0, h.n1, h.n3, h.c0, h.c1, h.c16, h.l0, h.s0, h.s1, h.p9, h.x1, h.f1, h.b1⟩

/-- What a step keeps. -/
def keptD (a b : Dec) : Prop := b.taken = a.taken ∧ b.given = a.given ∧ b.ext = a.ext ∧ b.fls = a.fls ∧ b.byt = a.byt
theorem keptD.trans {a b c : Dec} (h : keptD a b) (k : keptD b c) : keptD a c := ⟨k.1.trans h.1, k.2.1.trans h.2.1, k.2.2.1.trans h.2.2.1, k.2.2.2.1.trans h.2.2.2.1, k.2.2.2.2.trans h.2.2.2.2⟩
theorem keptD_to (d : Dec) (p : Int) (ok : Bool) : keptD d (toD d p ok).2 := by unfold toD; split <;> exact ⟨rfl, rfl, rfl, rfl, rfl⟩
theorem keptD_more (d : Dec) (c : UInt8) (p : Int) : keptD d (moreD d c p).2 := by unfold moreD; split <;> exact ⟨rfl, rfl, rfl, rfl, rfl⟩
theorem keptD_ext (d : Dec) (c : UInt8) : keptD d (extD d c).2 := by unfold extD; repeat' split
                                                                     all_goals exact ⟨rfl, rfl, rfl, rfl, rfl⟩
theorem stepD_kept (d : Dec) (c : UInt8) : keptD d (stepD e0 e1 e2 e3 e4 e5 d c).2 := by
  unfold stepD
  split
  · unfold digD
    split
    · split <;> exact ⟨rfl, rfl, rfl, rfl, rfl⟩
    · split
      · exact ⟨rfl, rfl, rfl, rfl, rfl⟩
      · split
        · have h := keptD_ext { d with count := 0, place := 1 } c
          split <;> exact h
        · exact keptD_to _ _ _
  split
  · exact keptD_ext _ _
  split
  · unfold begD; split <;> exact keptD_to _ _ _
  split
  · exact keptD_to _ _ _
  split
  · exact keptD_to { d with count := 0 } _ _
  split
  · unfold firD
    split
    · exact keptD_to _ _ _
    · split
      · exact ⟨rfl, rfl, rfl, rfl, rfl⟩
      · split
        · exact ⟨rfl, rfl, rfl, rfl, rfl⟩
        · split
          · exact keptD_more d c 7
          · exact keptD_more d c 7
  split
  · unfold namdD; repeat' split
    · exact keptD_more _ _ _
    · exact ⟨rfl, rfl, rfl, rfl, rfl⟩
    · exact keptD_more _ _ _
  split
  · unfold valdD; repeat' split
    · exact keptD_more _ _ _
    · exact ⟨rfl, rfl, rfl, rfl, rfl⟩
    · exact keptD_more _ _ _
  split
  · unfold linD
    split
    · split
      · exact keptD_more d c 6
      · exact keptD_more d c 6
    · exact ⟨rfl, rfl, rfl, rfl, rfl⟩
  · exact keptD_to _ _ _

/-- Many bytes of data at once. -/
theorem runD_data : ∀ (k : Nat) (d : Dec) (cs : List UInt8), d.e = 0 → d.place = 3 → 1 ≤ k → (k : Int) ≤ d.n → k ≤ cs.length →
    runD e0 e1 e2 e3 e4 e5 d cs = ((runD e0 e1 e2 e3 e4 e5 { d with n := d.n - k, place := if d.n = k then 4 else 3 } (cs.drop k)).1,
      cs.take k ++ (runD e0 e1 e2 e3 e4 e5 { d with n := d.n - k, place := if d.n = k then 4 else 3 } (cs.drop k)).2.1,
      k + (runD e0 e1 e2 e3 e4 e5 { d with n := d.n - k, place := if d.n = k then 4 else 3 } (cs.drop k)).2.2) := by
  intro k
  induction k with
  | zero => intro d cs _ _ h; omega
  | succ k ih =>
    intro d cs he hp _ hn hl
    match cs, hl with
    | c :: cs, hl =>
      rw [runD, if_neg (by rw [he, hp]; simp), if_pos hp]
      by_cases hk : k = 0
      · subst hk
        have hd : datD d = { d with n := d.n - ((0 + 1 : Nat) : Int), place := if d.n = ((0 + 1 : Nat) : Int) then 4 else 3 } := rfl
        rw [hd]
        simp [Nat.add_comm]
      · have hn1 : d.n ≠ 1 := by omega
        have hd : datD d = { d with n := d.n - 1, place := 3 } := by unfold datD; rw [if_neg hn1]
        have h := ih (datD d) cs (by rw [hd]; exact he) (by rw [hd]) (by omega) (by rw [hd]; show (k : Int) ≤ d.n - 1; omega) (by simpa using hl)
        have hq : ({ datD d with n := (datD d).n - (k : Int), place := if (datD d).n = (k : Int) then 4 else 3 } : Dec) = { d with n := d.n - ((k + 1 : Nat) : Int), place := if d.n = ((k + 1 : Nat) : Int) then 4 else 3 } := by
          rw [hd]
          have h1 : d.n - 1 - (k : Int) = d.n - ((k + 1 : Nat) : Int) := by omega
          have h2 : (d.n - 1 = (k : Int)) = (d.n = ((k + 1 : Nat) : Int)) := by apply propext; omega
          simp only [h1, h2]
        rw [hq] at h
        rw [h]
        simp [List.drop_succ_cons, List.take_succ_cons]
        omega
theorem runD_stop {cs : List UInt8} (h : cs = [] ∨ d.e ≠ 0 ∨ d.place = 11) : runD e0 e1 e2 e3 e4 e5 d cs = (d, [], 0) := by
  match cs with
  | [] => rfl
  | c :: cs =>
    rcases h with h | h
    · cases h
    · rw [runD, if_pos h]
theorem runD_step {c : UInt8} {cs : List UInt8} (he : d.e = 0) (hp : d.place ≠ 11) (h3 : d.place ≠ 3) (h0 : (stepD e0 e1 e2 e3 e4 e5 d c).1 = 0) :
    runD e0 e1 e2 e3 e4 e5 d (c :: cs) = ((runD e0 e1 e2 e3 e4 e5 (putE (stepD e0 e1 e2 e3 e4 e5 d c)) cs).1, (runD e0 e1 e2 e3 e4 e5 (putE (stepD e0 e1 e2 e3 e4 e5 d c)) cs).2.1, (runD e0 e1 e2 e3 e4 e5 (putE (stepD e0 e1 e2 e3 e4 e5 d c)) cs).2.2 + 1) := by
  rw [runD, if_neg (by simp [he, hp]), if_neg h3, if_pos h0]
theorem runD_bad {c : UInt8} {cs : List UInt8} (he : d.e = 0) (hp : d.place ≠ 11) (h3 : d.place ≠ 3) (h0 : (stepD e0 e1 e2 e3 e4 e5 d c).1 ≠ 0) :
    runD e0 e1 e2 e3 e4 e5 d (c :: cs) = (putE (stepD e0 e1 e2 e3 e4 e5 d c), [], 0) := by
  rw [runD, if_neg (by simp [he, hp]), if_neg h3, if_neg h0]
theorem runD_len : ∀ (cs : List UInt8) (d : Dec), (runD e0 e1 e2 e3 e4 e5 d cs).2.2 ≤ cs.length ∧ (runD e0 e1 e2 e3 e4 e5 d cs).2.1.length ≤ (runD e0 e1 e2 e3 e4 e5 d cs).2.2 := by
  intro cs
  induction cs with
  | nil => intro d; simp [runD]
  | cons c cs ih =>
    intro d
    rw [runD]
    split
    · simp
    · split
      · have := ih (datD d); simp; omega
      · split
        · have := ih (putE (stepD e0 e1 e2 e3 e4 e5 d c)); simp; omega
        · simp
/-- Bytes cut in two. -/
theorem runD_append : ∀ (xs ys : List UInt8) (d : Dec), runD e0 e1 e2 e3 e4 e5 d (xs ++ ys) =
    if (runD e0 e1 e2 e3 e4 e5 d xs).2.2 = xs.length then
      ((runD e0 e1 e2 e3 e4 e5 (runD e0 e1 e2 e3 e4 e5 d xs).1 ys).1, (runD e0 e1 e2 e3 e4 e5 d xs).2.1 ++ (runD e0 e1 e2 e3 e4 e5 (runD e0 e1 e2 e3 e4 e5 d xs).1 ys).2.1, xs.length + (runD e0 e1 e2 e3 e4 e5 (runD e0 e1 e2 e3 e4 e5 d xs).1 ys).2.2)
    else runD e0 e1 e2 e3 e4 e5 d xs := by
  intro xs
  induction xs with
  | nil => intro ys d; simp [runD]
  | cons c cs ih =>
    intro ys d
    rw [List.cons_append, runD, runD]
    split
    · simp
    · split
      · have h := ih ys (datD d)
        rw [h]
        split <;> simp_all [Nat.add_right_comm]
      · split
        · have h := ih ys (putE (stepD e0 e1 e2 e3 e4 e5 d c))
          rw [h]
          split <;> simp_all [Nat.add_right_comm]
        · simp
theorem runD_wf : ∀ (cs : List UInt8) (d : Dec), WfD d → WfD (runD e0 e1 e2 e3 e4 e5 d cs).1 ∧ keptD d (runD e0 e1 e2 e3 e4 e5 d cs).1 := by
  intro cs
  induction cs with
  | nil => intro d h; exact ⟨h, rfl, rfl, rfl, rfl, rfl⟩
  | cons c cs ih =>
    intro d h
    rw [runD]
    split
    · exact ⟨h, rfl, rfl, rfl, rfl, rfl⟩
    · split
      · have := ih (datD d) (h.dat (by assumption))
        exact ⟨this.1, this.2⟩
      · have hw : WfD (putE (stepD e0 e1 e2 e3 e4 e5 d c)) := (stepD_wf h c (by assumption)).putE
        have hk : keptD d (putE (stepD e0 e1 e2 e3 e4 e5 d c)) := stepD_kept d c
        split
        · have := ih _ hw
          exact ⟨this.1, hk.trans this.2⟩
        · exact ⟨hw, hk⟩
end

end Go.Proofs.YtfeljjlpdefnmaaGreat
