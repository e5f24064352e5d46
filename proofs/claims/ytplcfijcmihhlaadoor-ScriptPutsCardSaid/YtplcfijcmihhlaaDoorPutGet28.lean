/-
  Layer 28: what is put is got as it was: the plain law.
-/
import Derived.Test.YtplcfijcmihhlaaDoorCount28
namespace Go.Proofs.YtplcfijcmihhlaaDoor
open Go.RowKit Go.Proofs.YtplcfijcmihhlaaDoorW.PrintWords
set_option linter.unusedVariables false
set_option linter.unusedSimpArgs false

theorem ib_hit : ∀ (a : List UInt8) (c : UInt8) (r : List UInt8), c ∉ a → Lib.indexByte (a ++ c :: r) c = a.length
  | [], c, r, _ => by simp [Lib.indexByte]
  | b :: a, c, r, h => by
    have h1 : (b == c) = false := by
      rw [beq_eq_false_iff_ne]; exact fun e => h (e ▸ List.mem_cons_self)
    have ih := ib_hit a c r (fun e => h (List.mem_cons_of_mem _ e))
    have h2 : (((a.length : Nat) : Int) == -1) = false := by rw [beq_eq_false_iff_ne]; omega
    rw [List.cons_append, Lib.indexByte, h1, ih, h2]
    simp
theorem ib_miss : ∀ (a : List UInt8) (c : UInt8), c ∉ a → Lib.indexByte a c = -1
  | [], c, _ => rfl
  | b :: a, c, h => by
    have h1 : (b == c) = false := by
      rw [beq_eq_false_iff_ne]; exact fun e => h (e ▸ List.mem_cons_self)
    have ih := ib_miss a c (fun e => h (List.mem_cons_of_mem _ e))
    rw [Lib.indexByte, h1, ih]
    simp

/-! ### Lines of two words -/
def NoSp (l : List UInt8) : Prop := (32 : UInt8) ∉ l
def OkL (p : ByteArray × ByteArray) : Prop := NoNl p.1.data.toList ∧ NoNl p.2.data.toList ∧ NoSp p.1.data.toList ∧ NoSp p.2.data.toList
def textL (ls : List (ByteArray × ByteArray)) : List UInt8 := ls.flatMap fun p => lineB p.1 p.2
def lineA (p : ByteArray × ByteArray) : ByteArray := ⟨(lineB p.1 p.2).toArray⟩

theorem lineLen_line (y r : List UInt8) (h : NoNl y) : lineLen (y ++ 10 :: r) = y.length + 1 := by
  unfold lineLen
  rw [ib_hit y 10 r h, if_pos (by omega)]; omega
theorem linesL_text : ∀ (ls : List (ByteArray × ByteArray)), (∀ p ∈ ls, OkL p) → linesL (textL ls) = ls.map lineA
  | [], _ => linesL_nil
  | p :: ls, h => by
    have ih := linesL_text ls (fun y hy => h y (List.mem_cons_of_mem _ hy))
    obtain ⟨h1, h2, h3, h4⟩ := h p List.mem_cons_self
    have e : textL (p :: ls) = (p.1.data.toList ++ [32] ++ p.2.data.toList) ++ 10 :: textL ls := by
      simp [textL, lineB]
    have hn : NoNl (p.1.data.toList ++ [32] ++ p.2.data.toList) := by
      unfold NoNl at *
      simp only [List.mem_append, List.mem_singleton, not_or]
      exact ⟨⟨h1, by decide⟩, h2⟩
    have hl := lineLen_line _ (textL ls) hn
    have hq : textL (p :: ls) = lineB p.1 p.2 ++ textL ls := rfl
    have hll : lineLen (textL (p :: ls)) = (lineB p.1 p.2).length := by
      rw [e, hl, lineB_len]
      simp only [List.length_append, List.length_cons, List.length_nil]
      rw [Lib.size_eq, Lib.size_eq]; omega
    rw [linesL_step (l := textL (p :: ls)) (x := lineA p) (r := textL ls) (by rw [e]; simp) hll (by
      rw [hq, List.take_append_of_le_length (Nat.le_refl _), List.take_of_length_le (Nat.le_refl _)]
      rfl) (by
      rw [hq, List.drop_append_of_le_length (Nat.le_refl _), List.drop_of_length_le (Nat.le_refl _), List.nil_append]), ih]
    rfl

def bodyA (p : ByteArray × ByteArray) : ByteArray := ⟨(p.1.data.toList ++ [32] ++ p.2.data.toList).toArray⟩
theorem lineA_suffix (p : ByteArray × ByteArray) : Lib.hasSuffix (lineA p).data.toList [10] = true := by
  unfold Lib.hasSuffix
  rw [List.isSuffixOf_iff_suffix]
  exact ⟨p.1.data.toList ++ [32] ++ p.2.data.toList, rfl⟩
theorem ended_line (p : ByteArray × ByteArray) : endedS (lineA p) = true := lineA_suffix p
theorem body_line (p : ByteArray × ByteArray) : bodyS (lineA p) = bodyA p := by
  unfold bodyS Lib.trimSuffix
  rw [if_pos (lineA_suffix p)]
  apply congrArg ByteArray.mk
  apply congrArg List.toArray
  show (lineB p.1 p.2).take _ = _
  unfold lineB
  rw [List.take_append_of_le_length (by simp [lineA, lineB]), List.take_of_length_le (by simp [lineA, lineB])]
theorem words_line (p : ByteArray × ByteArray) (h : OkL p) : wordsS (bodyA p) = [p.1, p.2] := by
  obtain ⟨-, -, h3, h4⟩ := h
  have hd : (bodyA p).data.toList = p.1.data.toList ++ 32 :: p.2.data.toList := by simp [bodyA]
  have hi : Lib.indexB (bodyA p) ⟨#[32]⟩ = ((p.1.size : Nat) : Int) := by
    show Lib.index (bodyA p).data.toList [32] = _
    rw [Lib.index_one, hd, ib_hit _ _ _ h3, Lib.size_eq]
  have hsz : p.1.data.toList.length = p.1.size := (Lib.size_eq _).symm
  have h1 : (bodyA p).extract (p.1.size + (⟨#[32]⟩ : ByteArray).size) (bodyA p).size = p.2 := by
    apply WideShapes.bytes_inj
    rw [Lib.extract_to_end, hd]
    show List.drop (p.1.size + 1) _ = _
    rw [← hsz, List.drop_append, List.drop_of_length_le (by omega)]
    simp
  have h0 : (bodyA p).extract 0 (p.1.size + 0) = p.1 := by
    apply WideShapes.bytes_inj
    rw [Lib.extract_from_zero, hd, ← hsz, Nat.add_zero, List.take_append_of_le_length (by omega), List.take_of_length_le (by omega)]
  have hm : Lib.indexB p.2 ⟨#[32]⟩ = -1 := by
    show Lib.index p.2.data.toList [32] = _
    rw [Lib.index_one, ib_miss _ _ h4]
  have hc : Lib.countB (bodyA p) ⟨#[32]⟩ = 0 + 1 := by
    rw [Lib.countB_hit _ _ _ (by decide) hi, h1, Lib.countB_miss _ _ hm]
  unfold wordsS
  rw [hc, Lib.splitB_hit _ _ _ _ _ hi, h0, h1]
  rfl
theorem kw_line (p : ByteArray × ByteArray) (h : OkL p) : keyS (bodyA p) = p.1 ∧ wordS (bodyA p) = p.2 ∧ twoS (bodyA p) = true := by
  have hw := words_line p h
  unfold keyS wordS twoS
  rw [hw]
  exact ⟨rfl, rfl, rfl⟩
theorem step_line {p : ByteArray × ByteArray} (h : OkL p) {x x' : Scr} {q q' : Int} (n : Int) (hl : lineS x q p.1 p.2 true = (0, x', q')) : stepS ⟨0, x, q, n⟩ (lineA p) = ⟨0, x', q', n + 1⟩ := by
  obtain ⟨h1, h2, h3⟩ := kw_line p h
  unfold stepS
  rw [if_pos rfl, if_pos (ended_line p), body_line, h1, h2, h3, hl]
  rfl

/-! ### The words -/
theorem hexd_facts (n : Nat) (h : n < 16) : digitV (hexd n).toNat = n ∧ hexd n ≠ 32 ∧ hexd n ≠ 10 := by
  have : ∀ k : Fin 16, digitV (hexd k.val).toNat = k.val ∧ hexd k.val ≠ 32 ∧ hexd k.val ≠ 10 := by decide +kernel
  exact this ⟨n, h⟩
theorem hexL_cons (x : Int) (l : List Int) : hexL (x :: l) = hexd (x.toNat / 16) :: hexd (x.toNat % 16) :: hexL l := by simp [hexL]
theorem pairs_hexL : ∀ (l : List Int), InB l → pairs (hexL l) = l
  | [], _ => rfl
  | x :: l, h => by
    have hx := h x List.mem_cons_self
    rw [hexL_cons, pairs, pairs_hexL l (fun y hy => h y (List.mem_cons_of_mem _ hy))]
    congr 1
    unfold pairV
    rw [(hexd_facts _ (by omega)).1, (hexd_facts _ (by omega)).1]; omega
theorem allDig_hexL : ∀ (l : List Int), InB l → allDig (hexL l) = true
  | [], _ => rfl
  | x :: l, h => by
    have hx := h x List.mem_cons_self
    have ih := allDig_hexL l (fun y hy => h y (List.mem_cons_of_mem _ hy))
    rw [hexL_cons]
    unfold allDig at *
    rw [List.all_cons, List.all_cons, ih, (hexd_facts _ (by omega)).1, (hexd_facts _ (by omega)).1]
    simp only [Bool.and_true, Bool.and_eq_true, decide_eq_true_eq]
    omega
theorem noSp_hexL : ∀ (l : List Int), InB l → NoSp (hexL l)
  | [], _ => by simp [NoSp, hexL]
  | x :: l, h => by
    have hx := h x List.mem_cons_self
    have ih := noSp_hexL l (fun y hy => h y (List.mem_cons_of_mem _ hy))
    rw [hexL_cons]
    unfold NoSp at *
    simp only [List.mem_cons, not_or]
    exact ⟨(hexd_facts _ (by omega)).2.1.symm, (hexd_facts _ (by omega)).2.1.symm, ih⟩
theorem noSp_hexS (b : List Int) (h : InB b) : NoSp (hexS b).data.toList := by
  unfold hexS
  split
  · simp [NoSp]
  · exact noSp_hexL b h
theorem bytesS_hexS (b : List Int) (h : InB b) : bytesS (hexS b) = some b := by
  by_cases hb : b = []
  · subst hb; rfl
  · have e : hexS b = ⟨(hexL b).toArray⟩ := if_neg hb
    have hd : (hexS b).data.toList = hexL b := by rw [e]
    unfold bytesS
    rw [if_neg (by rw [hd]; intro e2; have := congrArg List.length e2; rw [hexL_len] at this; simp at this; omega), hd, pairs_hexL b h, if_pos ⟨allDig_take _ _ (allDig_hexL b h), rfl⟩]
theorem endW_idx (e : Int) (h0 : 0 ≤ e) (h2 : e ≤ 2) : idx3 wSilent wClosed wReset (endW e).data.toList = e := by
  obtain rfl | rfl | rfl : e = 0 ∨ e = 1 ∨ e = 2 := by omega
  all_goals rfl
theorem stopW_idx (e : Int) (h0 : 0 ≤ e) (h2 : e ≤ 2) : idx3 wStuck wFree wReset (stopW e).data.toList = e := by
  obtain rfl | rfl | rfl : e = 0 ∨ e = 1 ∨ e = 2 := by omega
  all_goals rfl
theorem noSp_endW (e : Int) : NoSp (endW e).data.toList := by unfold endW NoSp; split; decide; split <;> decide
theorem noSp_stopW (e : Int) : NoSp (stopW e).data.toList := by unfold stopW NoSp; split; decide; split <;> decide
theorem dig_facts (n : Nat) (h : n < 10) : UInt8.ofNat (48 + n) ≠ 32 ∧ isDec (UInt8.ofNat (48 + n)) = true ∧ (UInt8.ofNat (48 + n)).toNat = 48 + n := by
  have : ∀ k : Fin 10, UInt8.ofNat (48 + k.val) ≠ 32 ∧ isDec (UInt8.ofNat (48 + k.val)) = true ∧ (UInt8.ofNat (48 + k.val)).toNat = 48 + k.val := by decide
  exact this ⟨n, h⟩
theorem dec_facts (u : Nat) (hu : u ≤ 1152921504606846975) : NoSp (Lib.decDigits u) ∧ allDec (Lib.decDigits u) = true ∧ numFold (Lib.decDigits u) = ((u : Int), false) ∧ Lib.decDigits u ≠ [] := by
  induction u using Nat.strongRecOn with
  | _ u ih =>
    rw [Lib.decDigits]
    split
    · rename_i h
      obtain ⟨h1, h2, h3⟩ := dig_facts u h
      refine ⟨?_, ?_, ?_, by simp⟩
      · unfold NoSp; simp only [List.mem_singleton]; exact h1.symm
      · unfold allDec; simp only [List.all_cons, List.all_nil, Bool.and_true]; exact h2
      · show numStep (0, false) _ = _
        unfold numStep
        rw [h3, if_neg (by simp; omega)]
        simp; omega
    · rename_i h
      obtain ⟨i1, i2, i3, i4⟩ := ih (u / 10) (by omega) (by omega)
      obtain ⟨h1, h2, h3⟩ := dig_facts (u % 10) (by omega)
      refine ⟨?_, ?_, ?_, by simp⟩
      · unfold NoSp at *
        rw [List.mem_append, not_or]
        exact ⟨i1, by simp only [List.mem_singleton]; exact h1.symm⟩
      · rw [allDec_app, i2]
        unfold allDec; simp only [List.all_cons, List.all_nil, Bool.and_true, Bool.true_and]; exact h2
      · rw [numFold_snoc, i3]
        unfold numStep
        rw [h3, if_neg (by simp; omega)]
        simp; omega
theorem isTake_itoa (n : Int) (h0 : 0 ≤ n) (h1 : n ≤ 1073741824) : numS (Lib.itoa n) = (n, 0) ∧ isTake ⟨(Lib.itoa n).toArray⟩ = true ∧ NoSp (Lib.itoa n) := by
  have e : Lib.itoa n = Lib.decDigits n.toNat := by unfold Lib.itoa; rw [if_neg (by omega)]
  obtain ⟨i1, i2, i3, i4⟩ := dec_facts n.toNat (by omega)
  have hn : numS (Lib.decDigits n.toNat) = (n, 0) := by
    unfold numS
    rw [if_pos i2, if_neg i4, i3, if_neg (by simp)]
    simp; omega
  rw [e]
  refine ⟨hn, ?_, i1⟩
  unfold isTake
  show decide ((numS (Lib.decDigits n.toNat)).2 = 0 ∧ (numS (Lib.decDigits n.toNat)).1 ≤ 1073741824 ∧ Lib.decDigits (numS (Lib.decDigits n.toNat)).1.toNat = Lib.decDigits n.toNat) = true
  rw [hn]
  simp; exact h1
theorem lett_facts (p : Int) (h0 : 0 ≤ p) (h2 : p ≤ 2) : pickI (lett p) = p ∧ lett p ≠ 32 := by
  obtain rfl | rfl | rfl : p = 0 ∨ p = 1 ∨ p = 2 := by omega
  all_goals exact ⟨rfl, by decide⟩
theorem letts_facts : ∀ (l : List Int), (∀ p ∈ l, 0 ≤ p ∧ p ≤ 2) → turnsV (l.map lett) = l ∧ allPick (l.map lett) = true ∧ NoSp (l.map lett)
  | [], _ => ⟨rfl, rfl, by simp [NoSp]⟩
  | p :: l, h => by
    obtain ⟨i1, i2, i3⟩ := letts_facts l (fun y hy => h y (List.mem_cons_of_mem _ hy))
    obtain ⟨p1, p2⟩ := h p List.mem_cons_self
    obtain ⟨j1, j2⟩ := lett_facts p p1 p2
    refine ⟨?_, ?_, ?_⟩
    · rw [List.map_cons]
      unfold turnsV at *
      rw [List.map_cons, i1, j1]
    · rw [List.map_cons]
      unfold allPick at *
      rw [List.all_cons, i2, j1]
      simp; exact p1
    · rw [List.map_cons]
      unfold NoSp at *
      simp only [List.mem_cons, not_or]
      exact ⟨j2.symm, i3⟩

/-! ### The run -/
theorem nlUp : NoNl sUp.data.toList ∧ NoSp sUp.data.toList := by unfold NoNl NoSp; decide
theorem nlEnd : NoNl sEnd.data.toList ∧ NoSp sEnd.data.toList := by unfold NoNl NoSp; decide
theorem nlTake : NoNl sTake.data.toList ∧ NoSp sTake.data.toList := by unfold NoNl NoSp; decide
theorem nlStop : NoNl sStop.data.toList ∧ NoSp sStop.data.toList := by unfold NoNl NoSp; decide
theorem nlPick : NoNl sPick.data.toList ∧ NoSp sPick.data.toList := by unfold NoNl NoSp; decide
theorem run_ups : ∀ (l : List (List Int)) (x : Scr) (n : Int), (∀ b ∈ l, InB b) → ∃ n', (l.map fun p => lineA (sUp, hexS p)).foldl stepS ⟨0, x, 0, n⟩ = ⟨0, { x with pieces := x.pieces ++ l }, 0, n'⟩
  | [], x, n, _ => ⟨n, by simp⟩
  | p :: l, x, n, h => by
    have hp := h p List.mem_cons_self
    obtain ⟨n', ih⟩ := run_ups l { x with pieces := x.pieces ++ [p] } (n + 1) (fun y hy => h y (List.mem_cons_of_mem _ hy))
    refine ⟨n', ?_⟩
    rw [List.map_cons, List.foldl_cons, step_line (p := (sUp, hexS p)) ⟨nlUp.1, noNl_hexS p hp, nlUp.2, noSp_hexS p hp⟩ n (lineS_up_ok (b := p) rfl rfl rfl (bytesS_hexS p hp)), ih]
    simp
theorem run_takes : ∀ (l : List Int) (x : Scr) (n : Int), (∀ b ∈ l, 0 ≤ b ∧ b ≤ 1073741824) → ∃ n', (l.map fun p => lineA (sTake, ⟨(Lib.itoa p).toArray⟩)).foldl stepS ⟨0, x, 1, n⟩ = ⟨0, { x with takes := x.takes ++ l }, 1, n'⟩
  | [], x, n, _ => ⟨n, by simp⟩
  | p :: l, x, n, h => by
    obtain ⟨p1, p2⟩ := h p List.mem_cons_self
    obtain ⟨t1, t2, t3⟩ := isTake_itoa p p1 p2
    obtain ⟨n', ih⟩ := run_takes l { x with takes := x.takes ++ [p] } (n + 1) (fun y hy => h y (List.mem_cons_of_mem _ hy))
    refine ⟨n', ?_⟩
    rw [List.map_cons, List.foldl_cons, step_line (p := (sTake, ⟨(Lib.itoa p).toArray⟩)) ⟨nlTake.1, noNl_itoa p, nlTake.2, t3⟩ n (x' := { x with takes := x.takes ++ [p] }) (q' := 1) (by
      rw [lineS_take rfl, if_pos ⟨t2, rfl, rfl⟩]
      show ((0 : Int), ({ x with takes := x.takes ++ [(numS (Lib.itoa p)).1] } : Scr), (1 : Int)) = _
      rw [t1]), ih]
    simp
theorem run_picks (l : List Int) (h : ∀ b ∈ l, 0 ≤ b ∧ b ≤ 2) (x : Scr) (n : Int) : ∀ (k : Nat), k ≤ nOffs l.length →
    ∃ n' q', ((offsL k).map fun o => lineA (sPick, pieceW l o)).foldl stepS ⟨0, x, 2, n⟩ = ⟨0, { x with picks := x.picks ++ l.take (60 * k) }, q', n'⟩ ∧ (60 * k ≤ l.length → q' = 2) ∧ 2 ≤ q'
  | 0, _ => ⟨n, 2, by simp [offsL], fun _ => rfl, Int.le_refl _⟩
  | k + 1, hk => by
    obtain ⟨n', q', ih, hq, h2⟩ := run_picks l h x n k (by omega)
    have hlt : 60 * k < l.length := by unfold nOffs at hk; omega
    have hq' := hq (by omega)
    subst hq'
    have hm : ∀ b ∈ (l.drop (60 * k)).take 60, 0 ≤ b ∧ b ≤ 2 := fun b hb => h b (List.mem_of_mem_drop (List.mem_of_mem_take hb))
    obtain ⟨t1, t2, t3⟩ := letts_facts _ hm
    have hsz : (pieceW l (60 * k)).size = min 60 (l.length - 60 * k) := by
      show (List.toArray _).size = _
      rw [List.size_toArray, List.length_map, List.length_take, List.length_drop]
    have hip : isPicks (pieceW l (60 * k)) = true := by
      unfold isPicks
      rw [show (pieceW l (60 * k)).data.toList = ((l.drop (60 * k)).take 60).map lett from rfl, t2, hsz]
      simp; omega
    have htk : l.take (60 * (k + 1)) = l.take (60 * k) ++ (l.drop (60 * k)).take 60 := by
      rw [show 60 * (k + 1) = 60 * k + 60 by omega, List.take_add]
    refine ⟨n' + 1, if (pieceW l (60 * k)).size < 60 then 3 else 2, ?_, ?_, ?_⟩
    · rw [offsL_succ, List.map_append, List.foldl_append, ih, List.map_cons, List.map_nil, List.foldl_cons, List.foldl_nil]
      refine step_line (p := (sPick, pieceW l (60 * k))) ⟨nlPick.1, noNl_lett _, nlPick.2, t3⟩ n' ?_
      rw [lineS_pick rfl, if_pos ⟨hip, rfl, rfl⟩]
      show ((0 : Int), ({ x with picks := x.picks ++ l.take (60 * k) ++ turnsV (((l.drop (60 * k)).take 60).map lett) } : Scr), (if (pieceW l (60 * k)).size < 60 then (3 : Int) else 2)) = _
      rw [t1, htk, List.append_assoc]
    · intro h6
      rw [hsz, if_neg (by omega)]
    · split <;> omega

/-- A script's lines. -/
def linesP (l0 : List (List Int)) (e : Int) (l2 : List Int) (s : Int) (l4 : List Int) : List (ByteArray × ByteArray) :=
  (l0.map fun p => (sUp, hexS p)) ++ [(sEnd, endW e)] ++ (l2.map fun p => (sTake, ⟨(Lib.itoa p).toArray⟩)) ++ [(sStop, stopW s)] ++ ((offsL (nOffs l4.length)).map fun o => (sPick, pieceW l4 o))
theorem text_linesP (l0 : List (List Int)) (e : Int) (l2 : List Int) (s : Int) (l4 : List Int) : textL (linesP l0 e l2 s l4) = putT l0 e l2 s l4 := by
  unfold linesP textL putT upsT takesT picksT
  simp only [List.flatMap_append, List.flatMap_cons, List.flatMap_nil, List.append_nil, List.flatMap_map]

structure RightS (e s : Int) (l2 l4 : List Int) : Prop where
  e0 : 0 ≤ e
  e2 : e ≤ 2
  s0 : 0 ≤ s
  s2 : s ≤ 2
  tk : ∀ b ∈ l2, 0 ≤ b ∧ b ≤ 1073741824
  pk : ∀ b ∈ l4, 0 ≤ b ∧ b ≤ 2
theorem right_of {e s : Int} {l2 l4 : List Int} (h : rightB e s l2 l4 = true) : RightS e s l2 l4 := by
  unfold rightB inTo at h
  simp only [Bool.and_eq_true, decide_eq_true_eq, List.all_eq_true] at h
  obtain ⟨⟨⟨h1, h2⟩, h3⟩, h4⟩ := h
  exact ⟨h1.1, h1.2, h2.1, h2.2, h3, h4⟩
theorem of_right {e s : Int} {l2 l4 : List Int} (h : RightS e s l2 l4) : rightB e s l2 l4 = true := by
  unfold rightB inTo
  simp only [Bool.and_eq_true, decide_eq_true_eq, List.all_eq_true]
  exact ⟨⟨⟨⟨h.e0, h.e2⟩, ⟨h.s0, h.s2⟩⟩, h.tk⟩, h.pk⟩

theorem okL_linesP {l0 : List (List Int)} {e : Int} {l2 : List Int} {s : Int} {l4 : List Int} (h0 : ∀ b ∈ l0, InB b) (h : RightS e s l2 l4) : ∀ p ∈ linesP l0 e l2 s l4, OkL p := by
  intro p hp
  unfold linesP at hp
  simp only [List.mem_append, List.mem_map, List.mem_singleton] at hp
  rcases hp with (((⟨b, hb, rfl⟩ | rfl) | ⟨b, hb, rfl⟩) | rfl) | ⟨o, ho, rfl⟩
  · exact ⟨nlUp.1, noNl_hexS b (h0 b hb), nlUp.2, noSp_hexS b (h0 b hb)⟩
  · exact ⟨nlEnd.1, noNl_endW e, nlEnd.2, noSp_endW e⟩
  · exact ⟨nlTake.1, noNl_itoa b, nlTake.2, (isTake_itoa b (h.tk b hb).1 (h.tk b hb).2).2.2⟩
  · exact ⟨nlStop.1, noNl_stopW s, nlStop.2, noSp_stopW s⟩
  · exact ⟨nlPick.1, noNl_lett _, nlPick.2, (letts_facts _ (fun b hb => h.pk b (List.mem_of_mem_drop (List.mem_of_mem_take hb)))).2.2⟩

/-- What is put is got as it was. -/
theorem get_put {l0 : List (List Int)} {e : Int} {l2 : List Int} {s : Int} {l4 : List Int} (h0 : ∀ b ∈ l0, InB b) (h : RightS e s l2 l4) : getS ⟨(putT l0 e l2 s l4).toArray⟩ = (⟨l0, e, l2, s, l4⟩, 0, 0) := by
  have hok := okL_linesP (l0 := l0) h0 h
  have hl : linesL (putT l0 e l2 s l4) = (linesP l0 e l2 s l4).map lineA := by rw [← text_linesP, linesL_text _ hok]
  have hr : ∃ n' q', runS ((linesP l0 e l2 s l4).map lineA) = ⟨0, ⟨l0, e, l2, s, l4⟩, q', n'⟩ ∧ 2 ≤ q' := by
    unfold runS linesP
    obtain ⟨n1, r1⟩ := run_ups l0 zeroS 0 h0
    have r2 := step_line (p := (sEnd, endW e)) ⟨nlEnd.1, noNl_endW e, nlEnd.2, noSp_endW e⟩ (x := { zeroS with pieces := zeroS.pieces ++ l0 }) (q := 0) (x' := ⟨l0, e, [], 0, []⟩) (q' := 1) n1 (by
      rw [lineS_end rfl, endW_idx e h.e0 h.e2, if_pos ⟨h.e0, rfl, rfl⟩]; rfl)
    obtain ⟨n3, r3⟩ := run_takes l2 ⟨l0, e, [], 0, []⟩ (n1 + 1) h.tk
    have r4 := step_line (p := (sStop, stopW s)) ⟨nlStop.1, noNl_stopW s, nlStop.2, noSp_stopW s⟩ (x := ⟨l0, e, l2, 0, []⟩) (q := 1) (x' := ⟨l0, e, l2, s, []⟩) (q' := 2) n3 (by
      rw [lineS_stop rfl, stopW_idx s h.s0 h.s2, if_pos ⟨h.s0, rfl, rfl⟩])
    obtain ⟨n5, q5, r5, -, hq⟩ := run_picks l4 h.pk ⟨l0, e, l2, s, []⟩ (n3 + 1) (nOffs l4.length) (Nat.le_refl _)
    refine ⟨n5, q5, ?_, hq⟩
    rw [List.map_append, List.map_append, List.map_append, List.map_append, List.map_map, List.map_map, List.map_map, List.foldl_append, List.foldl_append, List.foldl_append, List.foldl_append]
    rw [show (lineA ∘ fun p : List Int => (sUp, hexS p)) = fun p => lineA (sUp, hexS p) from rfl, r1, List.map_cons, List.map_nil, List.foldl_cons, List.foldl_nil, r2]
    rw [show (lineA ∘ fun p : Int => (sTake, (⟨(Lib.itoa p).toArray⟩ : ByteArray))) = fun p => lineA (sTake, ⟨(Lib.itoa p).toArray⟩) from rfl, r3, List.map_cons, List.map_nil, List.foldl_cons, List.foldl_nil]
    rw [show (⟨0, { (⟨l0, e, [], 0, []⟩ : Scr) with takes := [] ++ l2 }, 1, n3⟩ : RunS) = ⟨0, ⟨l0, e, l2, 0, []⟩, 1, n3⟩ from rfl, r4]
    rw [show (lineA ∘ fun o : Nat => (sPick, pieceW l4 o)) = fun o => lineA (sPick, pieceW l4 o) from rfl, r5]
    rw [List.take_of_length_le (by unfold nOffs; omega)]
    rfl
  obtain ⟨n', q', hr, hq⟩ := hr
  unfold getS
  rw [show (⟨(putT l0 e l2 s l4).toArray⟩ : ByteArray).data.toList = putT l0 e l2 s l4 from rfl, hl, hr, if_neg (by simp), if_neg (by show ¬ q' < 2; omega)]

end Go.Proofs.YtplcfijcmihhlaaDoor
