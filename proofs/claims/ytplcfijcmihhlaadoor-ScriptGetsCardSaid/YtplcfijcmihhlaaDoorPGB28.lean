/-
  Layer 28: put and got; the reference's numbers.
-/
import Derived.Test.YtplcfijcmihhlaaDoorCount28
import Derived.Test.YtplcfijcmihhlaaDoorPGetx1
import Derived.Test.YtplcfijcmihhlaaDoorEq28
namespace Go.Proofs.YtplcfijcmihhlaaDoor
open Go.RowKit Go.Proofs.YtplcfijcmihhlaaDoorW.PrintWords
set_option linter.unusedVariables false
set_option linter.unusedSimpArgs false

theorem ib_hit : ∀ (a : List UInt8) (c : UInt8) (r : List UInt8), c ∉ a → Lib.indexByte (a ++ c :: r) c = a.length
  | [], c, r, _ => by simp [Lib.indexByte]
  | b :: a, c, r, h => by
    have h1 : (b == c) = false := by
      rw [beq_eq_false_iff_ne]; exact fun e => h (e ▸ List.mem_cons_self)
    have ih := ib_hit a c r (fun e => h (List.mem_cons_of_mem _ e))
    have h2 : (((a.length : Nat) : Int) == -1) = false := by rw [beq_eq_false_iff_ne]; omega
    rw [List.cons_append, Lib.indexByte, h1, ih, h2]
    simp
theorem ib_miss : ∀ (a : List UInt8) (c : UInt8), c ∉ a → Lib.indexByte a c = -1
  | [], c, _ => rfl
  | b :: a, c, h => by
    have h1 : (b == c) = false := by
      rw [beq_eq_false_iff_ne]; exact fun e => h (e ▸ List.mem_cons_self)
    have ih := ib_miss a c (fun e => h (List.mem_cons_of_mem _ e))
    rw [Lib.indexByte, h1, ih]
    simp

/-! ### Lines of two words -/
def NoSp (l : List UInt8) : Prop := (32 : UInt8) ∉ l
def OkL (p : ByteArray × ByteArray) : Prop := NoNl p.1.data.toList ∧ NoNl p.2.data.toList ∧ NoSp p.1.data.toList ∧ NoSp p.2.data.toList
def textL (ls : List (ByteArray × ByteArray)) : List UInt8 := ls.flatMap fun p => lineB p.1 p.2
def lineA (p : ByteArray × ByteArray) : ByteArray := ⟨(lineB p.1 p.2).toArray⟩

theorem lineLen_line (y r : List UInt8) (h : NoNl y) : lineLen (y ++ 10 :: r) = y.length + 1 := by
  unfold lineLen
  rw [ib_hit y 10 r h, if_pos (by omega)]; omega
theorem linesL_text : ∀ (ls : List (ByteArray × ByteArray)), (∀ p ∈ ls, OkL p) → linesL (textL ls) = ls.map lineA
  | [], _ => linesL_nil
  | p :: ls, h => by
    have ih := linesL_text ls (fun y hy => h y (List.mem_cons_of_mem _ hy))
    obtain ⟨h1, h2, h3, h4⟩ := h p List.mem_cons_self
    have e : textL (p :: ls) = (p.1.data.toList ++ [32] ++ p.2.data.toList) ++ 10 :: textL ls := by
      simp [textL, lineB]
    have hn : NoNl (p.1.data.toList ++ [32] ++ p.2.data.toList) := by
      unfold NoNl at *
      simp only [List.mem_append, List.mem_singleton, not_or]
      exact ⟨⟨h1, by decide⟩, h2⟩
    have hl := lineLen_line _ (textL ls) hn
    have hq : textL (p :: ls) = lineB p.1 p.2 ++ textL ls := rfl
    have hll : lineLen (textL (p :: ls)) = (lineB p.1 p.2).length := by
      rw [e, hl, lineB_len]
      simp only [List.length_append, List.length_cons, List.length_nil]
      rw [Lib.size_eq, Lib.size_eq]; omega
    rw [linesL_step (l := textL (p :: ls)) (x := lineA p) (r := textL ls) (by rw [e]; simp) hll (by
      rw [hq, List.take_append_of_le_length (Nat.le_refl _), List.take_of_length_le (Nat.le_refl _)]
      rfl) (by
      rw [hq, List.drop_append_of_le_length (Nat.le_refl _), List.drop_of_length_le (Nat.le_refl _), List.nil_append]), ih]
    rfl

def bodyA (p : ByteArray × ByteArray) : ByteArray := ⟨(p.1.data.toList ++ [32] ++ p.2.data.toList).toArray⟩
theorem lineA_suffix (p : ByteArray × ByteArray) : Lib.hasSuffix (lineA p).data.toList [10] = true := by
  unfold Lib.hasSuffix
  rw [List.isSuffixOf_iff_suffix]
  exact ⟨p.1.data.toList ++ [32] ++ p.2.data.toList, rfl⟩
theorem ended_line (p : ByteArray × ByteArray) : endedS (lineA p) = true := lineA_suffix p
theorem body_line (p : ByteArray × ByteArray) : bodyS (lineA p) = bodyA p := by
  unfold bodyS Lib.trimSuffix
  rw [if_pos (lineA_suffix p)]
  apply congrArg ByteArray.mk
  apply congrArg List.toArray
  show (lineB p.1 p.2).take _ = _
  unfold lineB
  rw [List.take_append_of_le_length (by simp [lineA, lineB]), List.take_of_length_le (by simp [lineA, lineB])]
theorem words_line (p : ByteArray × ByteArray) (h : OkL p) : wordsS (bodyA p) = [p.1, p.2] := by
  obtain ⟨-, -, h3, h4⟩ := h
  have hd : (bodyA p).data.toList = p.1.data.toList ++ 32 :: p.2.data.toList := by simp [bodyA]
  have hi : Lib.indexB (bodyA p) ⟨#[32]⟩ = ((p.1.size : Nat) : Int) := by
    show Lib.index (bodyA p).data.toList [32] = _
    rw [Lib.index_one, hd, ib_hit _ _ _ h3, Lib.size_eq]
  have hsz : p.1.data.toList.length = p.1.size := (Lib.size_eq _).symm
  have h1 : (bodyA p).extract (p.1.size + (⟨#[32]⟩ : ByteArray).size) (bodyA p).size = p.2 := by
    apply WideShapes.bytes_inj
    rw [Lib.extract_to_end, hd]
    show List.drop (p.1.size + 1) _ = _
    rw [← hsz, List.drop_append, List.drop_of_length_le (by omega)]
    simp
  have h0 : (bodyA p).extract 0 (p.1.size + 0) = p.1 := by
    apply WideShapes.bytes_inj
    rw [Lib.extract_from_zero, hd, ← hsz, Nat.add_zero, List.take_append_of_le_length (by omega), List.take_of_length_le (by omega)]
  have hm : Lib.indexB p.2 ⟨#[32]⟩ = -1 := by
    show Lib.index p.2.data.toList [32] = _
    rw [Lib.index_one, ib_miss _ _ h4]
  have hc : Lib.countB (bodyA p) ⟨#[32]⟩ = 0 + 1 := by
    rw [Lib.countB_hit _ _ _ (by decide) hi, h1, Lib.countB_miss _ _ hm]
  unfold wordsS
  rw [hc, Lib.splitB_hit _ _ _ _ _ hi, h0, h1]
  rfl
theorem kw_line (p : ByteArray × ByteArray) (h : OkL p) : keyS (bodyA p) = p.1 ∧ wordS (bodyA p) = p.2 ∧ twoS (bodyA p) = true := by
  have hw := words_line p h
  unfold keyS wordS twoS
  rw [hw]
  exact ⟨rfl, rfl, rfl⟩
theorem step_line {p : ByteArray × ByteArray} (h : OkL p) {x x' : Scr} {q q' : Int} (n : Int) (hl : lineS x q p.1 p.2 true = (0, x', q')) : stepS ⟨0, x, q, n⟩ (lineA p) = ⟨0, x', q', n + 1⟩ := by
  obtain ⟨h1, h2, h3⟩ := kw_line p h
  unfold stepS
  rw [if_pos rfl, if_pos (ended_line p), body_line, h1, h2, h3, hl]
  rfl

/-! ### The words -/
theorem hexd_facts (n : Nat) (h : n < 16) : digitV (hexd n).toNat = n ∧ hexd n ≠ 32 ∧ hexd n ≠ 10 := by
  have : ∀ k : Fin 16, digitV (hexd k.val).toNat = k.val ∧ hexd k.val ≠ 32 ∧ hexd k.val ≠ 10 := by decide +kernel
  exact this ⟨n, h⟩
theorem hexL_cons (x : Int) (l : List Int) : hexL (x :: l) = hexd (x.toNat / 16) :: hexd (x.toNat % 16) :: hexL l := by simp [hexL]
theorem pairs_hexL : ∀ (l : List Int), InB l → pairs (hexL l) = l
  | [], _ => rfl
  | x :: l, h => by
    have hx := h x List.mem_cons_self
    rw [hexL_cons, pairs, pairs_hexL l (fun y hy => h y (List.mem_cons_of_mem _ hy))]
    congr 1
    unfold pairV
    rw [(hexd_facts _ (by omega)).1, (hexd_facts _ (by omega)).1]; omega
theorem allDig_hexL : ∀ (l : List Int), InB l → allDig (hexL l) = true
  | [], _ => rfl
  | x :: l, h => by
    have hx := h x List.mem_cons_self
    have ih := allDig_hexL l (fun y hy => h y (List.mem_cons_of_mem _ hy))
    rw [hexL_cons]
    unfold allDig at *
    rw [List.all_cons, List.all_cons, ih, (hexd_facts _ (by omega)).1, (hexd_facts _ (by omega)).1]
    simp only [Bool.and_true, Bool.and_eq_true, decide_eq_true_eq]
    omega
theorem noSp_hexL : ∀ (l : List Int), InB l → NoSp (hexL l)
  | [], _ => by simp [NoSp, hexL]
  | x :: l, h => by
    have hx := h x List.mem_cons_self
    have ih := noSp_hexL l (fun y hy => h y (List.mem_cons_of_mem _ hy))
    rw [hexL_cons]
    unfold NoSp at *
    simp only [List.mem_cons, not_or]
    exact ⟨(hexd_facts _ (by omega)).2.1.symm, (hexd_facts _ (by omega)).2.1.symm, ih⟩
theorem noSp_hexS (b : List Int) (h : InB b) : NoSp (hexS b).data.toList := by
  unfold hexS
  split
  · simp [NoSp]
  · exact noSp_hexL b h
theorem bytesS_hexS (b : List Int) (h : InB b) : bytesS (hexS b) = some b := by
  by_cases hb : b = []
  · subst hb; rfl
  · have e : hexS b = ⟨(hexL b).toArray⟩ := if_neg hb
    have hd : (hexS b).data.toList = hexL b := by rw [e]
    unfold bytesS
    rw [if_neg (by rw [hd]; intro e2; have := congrArg List.length e2; rw [hexL_len] at this; simp at this; omega), hd, pairs_hexL b h, if_pos ⟨allDig_take _ _ (allDig_hexL b h), rfl⟩]
theorem endW_idx (e : Int) (h0 : 0 ≤ e) (h2 : e ≤ 2) : idx3 wSilent wClosed wReset (endW e).data.toList = e := by
  obtain rfl | rfl | rfl : e = 0 ∨ e = 1 ∨ e = 2 := by omega
  all_goals rfl
theorem stopW_idx (e : Int) (h0 : 0 ≤ e) (h2 : e ≤ 2) : idx3 wStuck wFree wReset (stopW e).data.toList = e := by
  obtain rfl | rfl | rfl : e = 0 ∨ e = 1 ∨ e = 2 := by omega
  all_goals rfl
theorem noSp_endW (e : Int) : NoSp (endW e).data.toList := by unfold endW NoSp; split; decide; split <;> decide
theorem noSp_stopW (e : Int) : NoSp (stopW e).data.toList := by unfold stopW NoSp; split; decide; split <;> decide
theorem dig_facts (n : Nat) (h : n < 10) : UInt8.ofNat (48 + n) ≠ 32 ∧ isDec (UInt8.ofNat (48 + n)) = true ∧ (UInt8.ofNat (48 + n)).toNat = 48 + n := by
  have : ∀ k : Fin 10, UInt8.ofNat (48 + k.val) ≠ 32 ∧ isDec (UInt8.ofNat (48 + k.val)) = true ∧ (UInt8.ofNat (48 + k.val)).toNat = 48 + k.val := by decide
  exact this ⟨n, h⟩
theorem dec_facts (u : Nat) (hu : u ≤ 1152921504606846975) : NoSp (Lib.decDigits u) ∧ allDec (Lib.decDigits u) = true ∧ numFold (Lib.decDigits u) = ((u : Int), false) ∧ Lib.decDigits u ≠ [] := by
  induction u using Nat.strongRecOn with
  | _ u ih =>
    rw [Lib.decDigits]
    split
    · rename_i h
      obtain ⟨h1, h2, h3⟩ := dig_facts u h
      refine ⟨?_, ?_, ?_, by simp⟩
      · unfold NoSp; simp only [List.mem_singleton]; exact h1.symm
      · unfold allDec; simp only [List.all_cons, List.all_nil, Bool.and_true]; exact h2
      · show numStep (0, false) _ = _
        unfold numStep
        rw [h3, if_neg (by simp; omega)]
        simp; omega
    · rename_i h
      obtain ⟨i1, i2, i3, i4⟩ := ih (u / 10) (by omega) (by omega)
      obtain ⟨h1, h2, h3⟩ := dig_facts (u % 10) (by omega)
      refine ⟨?_, ?_, ?_, by simp⟩
      · unfold NoSp at *
        rw [List.mem_append, not_or]
        exact ⟨i1, by simp only [List.mem_singleton]; exact h1.symm⟩
      · rw [allDec_app, i2]
        unfold allDec; simp only [List.all_cons, List.all_nil, Bool.and_true, Bool.true_and]; exact h2
      · rw [numFold_snoc, i3]
        unfold numStep
        rw [h3, if_neg (by simp; omega)]
        simp; omega
theorem isTake_itoa (n : Int) (h0 : 0 ≤ n) (h1 : n ≤ 1073741824) : numS (Lib.itoa n) = (n, 0) ∧ isTake ⟨(Lib.itoa n).toArray⟩ = true ∧ NoSp (Lib.itoa n) := by
  have e : Lib.itoa n = Lib.decDigits n.toNat := by unfold Lib.itoa; rw [if_neg (by omega)]
  obtain ⟨i1, i2, i3, i4⟩ := dec_facts n.toNat (by omega)
  have hn : numS (Lib.decDigits n.toNat) = (n, 0) := by
    unfold numS
    rw [if_pos i2, if_neg i4, i3, if_neg (by simp)]
    simp; omega
  rw [e]
  refine ⟨hn, ?_, i1⟩
  unfold isTake
  show decide ((numS (Lib.decDigits n.toNat)).2 = 0 ∧ (numS (Lib.decDigits n.toNat)).1 ≤ 1073741824 ∧ Lib.decDigits (numS (Lib.decDigits n.toNat)).1.toNat = Lib.decDigits n.toNat) = true
  rw [hn]
  simp; exact h1
theorem lett_facts (p : Int) (h0 : 0 ≤ p) (h2 : p ≤ 2) : pickI (lett p) = p ∧ lett p ≠ 32 := by
  obtain rfl | rfl | rfl : p = 0 ∨ p = 1 ∨ p = 2 := by omega
  all_goals exact ⟨rfl, by decide⟩
theorem letts_facts : ∀ (l : List Int), (∀ p ∈ l, 0 ≤ p ∧ p ≤ 2) → turnsV (l.map lett) = l ∧ allPick (l.map lett) = true ∧ NoSp (l.map lett)
  | [], _ => ⟨rfl, rfl, by simp [NoSp]⟩
  | p :: l, h => by
    obtain ⟨i1, i2, i3⟩ := letts_facts l (fun y hy => h y (List.mem_cons_of_mem _ hy))
    obtain ⟨p1, p2⟩ := h p List.mem_cons_self
    obtain ⟨j1, j2⟩ := lett_facts p p1 p2
    refine ⟨?_, ?_, ?_⟩
    · rw [List.map_cons]
      unfold turnsV at *
      rw [List.map_cons, i1, j1]
    · rw [List.map_cons]
      unfold allPick at *
      rw [List.all_cons, i2, j1]
      simp; exact p1
    · rw [List.map_cons]
      unfold NoSp at *
      simp only [List.mem_cons, not_or]
      exact ⟨j2.symm, i3⟩

/-! ### The run -/
theorem nlUp : NoNl sUp.data.toList ∧ NoSp sUp.data.toList := by unfold NoNl NoSp; decide
theorem nlEnd : NoNl sEnd.data.toList ∧ NoSp sEnd.data.toList := by unfold NoNl NoSp; decide
theorem nlTake : NoNl sTake.data.toList ∧ NoSp sTake.data.toList := by unfold NoNl NoSp; decide
theorem nlStop : NoNl sStop.data.toList ∧ NoSp sStop.data.toList := by unfold NoNl NoSp; decide
theorem nlPick : NoNl sPick.data.toList ∧ NoSp sPick.data.toList := by unfold NoNl NoSp; decide
theorem run_ups : ∀ (l : List (List Int)) (x : Scr) (n : Int), (∀ b ∈ l, InB b) → ∃ n', (l.map fun p => lineA (sUp, hexS p)).foldl stepS ⟨0, x, 0, n⟩ = ⟨0, { x with pieces := x.pieces ++ l }, 0, n'⟩
  | [], x, n, _ => ⟨n, by simp⟩
  | p :: l, x, n, h => by
    have hp := h p List.mem_cons_self
    obtain ⟨n', ih⟩ := run_ups l { x with pieces := x.pieces ++ [p] } (n + 1) (fun y hy => h y (List.mem_cons_of_mem _ hy))
    refine ⟨n', ?_⟩
    rw [List.map_cons, List.foldl_cons, step_line (p := (sUp, hexS p)) ⟨nlUp.1, noNl_hexS p hp, nlUp.2, noSp_hexS p hp⟩ n (lineS_up_ok (b := p) rfl rfl rfl (bytesS_hexS p hp)), ih]
    simp
theorem run_takes : ∀ (l : List Int) (x : Scr) (n : Int), (∀ b ∈ l, 0 ≤ b ∧ b ≤ 1073741824) → ∃ n', (l.map fun p => lineA (sTake, ⟨(Lib.itoa p).toArray⟩)).foldl stepS ⟨0, x, 1, n⟩ = ⟨0, { x with takes := x.takes ++ l }, 1, n'⟩
  | [], x, n, _ => ⟨n, by simp⟩
  | p :: l, x, n, h => by
    obtain ⟨p1, p2⟩ := h p List.mem_cons_self
    obtain ⟨t1, t2, t3⟩ := isTake_itoa p p1 p2
    obtain ⟨n', ih⟩ := run_takes l { x with takes := x.takes ++ [p] } (n + 1) (fun y hy => h y (List.mem_cons_of_mem _ hy))
    refine ⟨n', ?_⟩
    rw [List.map_cons, List.foldl_cons, step_line (p := (sTake, ⟨(Lib.itoa p).toArray⟩)) ⟨nlTake.1, noNl_itoa p, nlTake.2, t3⟩ n (x' := { x with takes := x.takes ++ [p] }) (q' := 1) (by
      rw [lineS_take rfl, if_pos ⟨t2, rfl, rfl⟩]
      show ((0 : Int), ({ x with takes := x.takes ++ [(numS (Lib.itoa p)).1] } : Scr), (1 : Int)) = _
      rw [t1]), ih]
    simp
theorem run_picks (l : List Int) (h : ∀ b ∈ l, 0 ≤ b ∧ b ≤ 2) (x : Scr) (n : Int) : ∀ (k : Nat), k ≤ nOffs l.length →
    ∃ n' q', ((offsL k).map fun o => lineA (sPick, pieceW l o)).foldl stepS ⟨0, x, 2, n⟩ = ⟨0, { x with picks := x.picks ++ l.take (60 * k) }, q', n'⟩ ∧ (60 * k ≤ l.length → q' = 2) ∧ 2 ≤ q'
  | 0, _ => ⟨n, 2, by simp [offsL], fun _ => rfl, Int.le_refl _⟩
  | k + 1, hk => by
    obtain ⟨n', q', ih, hq, h2⟩ := run_picks l h x n k (by omega)
    have hlt : 60 * k < l.length := by unfold nOffs at hk; omega
    have hq' := hq (by omega)
    subst hq'
    have hm : ∀ b ∈ (l.drop (60 * k)).take 60, 0 ≤ b ∧ b ≤ 2 := fun b hb => h b (List.mem_of_mem_drop (List.mem_of_mem_take hb))
    obtain ⟨t1, t2, t3⟩ := letts_facts _ hm
    have hsz : (pieceW l (60 * k)).size = min 60 (l.length - 60 * k) := by
      show (List.toArray _).size = _
      rw [List.size_toArray, List.length_map, List.length_take, List.length_drop]
    have hip : isPicks (pieceW l (60 * k)) = true := by
      unfold isPicks
      rw [show (pieceW l (60 * k)).data.toList = ((l.drop (60 * k)).take 60).map lett from rfl, t2, hsz]
      simp; omega
    have htk : l.take (60 * (k + 1)) = l.take (60 * k) ++ (l.drop (60 * k)).take 60 := by
      rw [show 60 * (k + 1) = 60 * k + 60 by omega, List.take_add]
    refine ⟨n' + 1, if (pieceW l (60 * k)).size < 60 then 3 else 2, ?_, ?_, ?_⟩
    · rw [offsL_succ, List.map_append, List.foldl_append, ih, List.map_cons, List.map_nil, List.foldl_cons, List.foldl_nil]
      refine step_line (p := (sPick, pieceW l (60 * k))) ⟨nlPick.1, noNl_lett _, nlPick.2, t3⟩ n' ?_
      rw [lineS_pick rfl, if_pos ⟨hip, rfl, rfl⟩]
      show ((0 : Int), ({ x with picks := x.picks ++ l.take (60 * k) ++ turnsV (((l.drop (60 * k)).take 60).map lett) } : Scr), (if (pieceW l (60 * k)).size < 60 then (3 : Int) else 2)) = _
      rw [t1, htk, List.append_assoc]
    · intro h6
      rw [hsz, if_neg (by omega)]
    · split <;> omega

/-- A script's lines. -/
def linesP (l0 : List (List Int)) (e : Int) (l2 : List Int) (s : Int) (l4 : List Int) : List (ByteArray × ByteArray) :=
  (l0.map fun p => (sUp, hexS p)) ++ [(sEnd, endW e)] ++ (l2.map fun p => (sTake, ⟨(Lib.itoa p).toArray⟩)) ++ [(sStop, stopW s)] ++ ((offsL (nOffs l4.length)).map fun o => (sPick, pieceW l4 o))
theorem text_linesP (l0 : List (List Int)) (e : Int) (l2 : List Int) (s : Int) (l4 : List Int) : textL (linesP l0 e l2 s l4) = putT l0 e l2 s l4 := by
  unfold linesP textL putT upsT takesT picksT
  simp only [List.flatMap_append, List.flatMap_cons, List.flatMap_nil, List.append_nil, List.flatMap_map]

structure RightS (e s : Int) (l2 l4 : List Int) : Prop where
  e0 : 0 ≤ e
  e2 : e ≤ 2
  s0 : 0 ≤ s
  s2 : s ≤ 2
  tk : ∀ b ∈ l2, 0 ≤ b ∧ b ≤ 1073741824
  pk : ∀ b ∈ l4, 0 ≤ b ∧ b ≤ 2
theorem right_of {e s : Int} {l2 l4 : List Int} (h : rightB e s l2 l4 = true) : RightS e s l2 l4 := by
  unfold rightB inTo at h
  simp only [Bool.and_eq_true, decide_eq_true_eq, List.all_eq_true] at h
  obtain ⟨⟨⟨h1, h2⟩, h3⟩, h4⟩ := h
  exact ⟨h1.1, h1.2, h2.1, h2.2, h3, h4⟩
theorem of_right {e s : Int} {l2 l4 : List Int} (h : RightS e s l2 l4) : rightB e s l2 l4 = true := by
  unfold rightB inTo
  simp only [Bool.and_eq_true, decide_eq_true_eq, List.all_eq_true]
  exact ⟨⟨⟨⟨h.e0, h.e2⟩, ⟨h.s0, h.s2⟩⟩, h.tk⟩, h.pk⟩

theorem okL_linesP {l0 : List (List Int)} {e : Int} {l2 : List Int} {s : Int} {l4 : List Int} (h0 : ∀ b ∈ l0, InB b) (h : RightS e s l2 l4) : ∀ p ∈ linesP l0 e l2 s l4, OkL p := by
  intro p hp
  unfold linesP at hp
  simp only [List.mem_append, List.mem_map, List.mem_singleton] at hp
  rcases hp with (((⟨b, hb, rfl⟩ | rfl) | ⟨b, hb, rfl⟩) | rfl) | ⟨o, ho, rfl⟩
  · exact ⟨nlUp.1, noNl_hexS b (h0 b hb), nlUp.2, noSp_hexS b (h0 b hb)⟩
  · exact ⟨nlEnd.1, noNl_endW e, nlEnd.2, noSp_endW e⟩
  · exact ⟨nlTake.1, noNl_itoa b, nlTake.2, (isTake_itoa b (h.tk b hb).1 (h.tk b hb).2).2.2⟩
  · exact ⟨nlStop.1, noNl_stopW s, nlStop.2, noSp_stopW s⟩
  · exact ⟨nlPick.1, noNl_lett _, nlPick.2, (letts_facts _ (fun b hb => h.pk b (List.mem_of_mem_drop (List.mem_of_mem_take hb)))).2.2⟩

/-- What is put is got as it was. -/
theorem get_put {l0 : List (List Int)} {e : Int} {l2 : List Int} {s : Int} {l4 : List Int} (h0 : ∀ b ∈ l0, InB b) (h : RightS e s l2 l4) : getS ⟨(putT l0 e l2 s l4).toArray⟩ = (⟨l0, e, l2, s, l4⟩, 0, 0) := by
  have hok := okL_linesP (l0 := l0) h0 h
  have hl : linesL (putT l0 e l2 s l4) = (linesP l0 e l2 s l4).map lineA := by rw [← text_linesP, linesL_text _ hok]
  have hr : ∃ n' q', runS ((linesP l0 e l2 s l4).map lineA) = ⟨0, ⟨l0, e, l2, s, l4⟩, q', n'⟩ ∧ 2 ≤ q' := by
    unfold runS linesP
    obtain ⟨n1, r1⟩ := run_ups l0 zeroS 0 h0
    have r2 := step_line (p := (sEnd, endW e)) ⟨nlEnd.1, noNl_endW e, nlEnd.2, noSp_endW e⟩ (x := { zeroS with pieces := zeroS.pieces ++ l0 }) (q := 0) (x' := ⟨l0, e, [], 0, []⟩) (q' := 1) n1 (by
      rw [lineS_end rfl, endW_idx e h.e0 h.e2, if_pos ⟨h.e0, rfl, rfl⟩]; rfl)
    obtain ⟨n3, r3⟩ := run_takes l2 ⟨l0, e, [], 0, []⟩ (n1 + 1) h.tk
    have r4 := step_line (p := (sStop, stopW s)) ⟨nlStop.1, noNl_stopW s, nlStop.2, noSp_stopW s⟩ (x := ⟨l0, e, l2, 0, []⟩) (q := 1) (x' := ⟨l0, e, l2, s, []⟩) (q' := 2) n3 (by
      rw [lineS_stop rfl, stopW_idx s h.s0 h.s2, if_pos ⟨h.s0, rfl, rfl⟩])
    obtain ⟨n5, q5, r5, -, hq⟩ := run_picks l4 h.pk ⟨l0, e, l2, s, []⟩ (n3 + 1) (nOffs l4.length) (Nat.le_refl _)
    refine ⟨n5, q5, ?_, hq⟩
    rw [List.map_append, List.map_append, List.map_append, List.map_append, List.map_map, List.map_map, List.map_map, List.foldl_append, List.foldl_append, List.foldl_append, List.foldl_append]
    rw [show (lineA ∘ fun p : List Int => (sUp, hexS p)) = fun p => lineA (sUp, hexS p) from rfl, r1, List.map_cons, List.map_nil, List.foldl_cons, List.foldl_nil, r2]
    rw [show (lineA ∘ fun p : Int => (sTake, (⟨(Lib.itoa p).toArray⟩ : ByteArray))) = fun p => lineA (sTake, ⟨(Lib.itoa p).toArray⟩) from rfl, r3, List.map_cons, List.map_nil, List.foldl_cons, List.foldl_nil]
    rw [show (⟨0, { (⟨l0, e, [], 0, []⟩ : Scr) with takes := [] ++ l2 }, 1, n3⟩ : RunS) = ⟨0, ⟨l0, e, l2, 0, []⟩, 1, n3⟩ from rfl, r4]
    rw [show (lineA ∘ fun o : Nat => (sPick, pieceW l4 o)) = fun o => lineA (sPick, pieceW l4 o) from rfl, r5]
    rw [List.take_of_length_le (by unfold nOffs; omega)]
    rfl
  obtain ⟨n', q', hr, hq⟩ := hr
  unfold getS
  rw [show (⟨(putT l0 e l2 s l4).toArray⟩ : ByteArray).data.toList = putT l0 e l2 s l4 from rfl, hl, hr, if_neg (by simp), if_neg (by show ¬ q' < 2; omega)]

end Go.Proofs.YtplcfijcmihhlaaDoor

namespace Go.Proofs.YtplcfijcmihhlaaDoor
open Go.RowKit Go.Proofs.YtplcfijcmihhlaaDoorW.PrintWords
set_option linter.unusedVariables false
set_option linter.unusedSimpArgs false

theorem ba_eta (s : ByteArray) : (⟨s.data.toList.toArray⟩ : ByteArray) = s := WideShapes.bytes_inj (by simp)
theorem ba_of {s : ByteArray} {l : List UInt8} (h : s.data.toList = l) : s = ⟨l.toArray⟩ := by rw [← h, ba_eta]

/-- A line of two words is its words with one byte 20 between. -/
theorem words_join (s : ByteArray) (h : twoS s = true) : s.data.toList = (keyS s).data.toList ++ [32] ++ (wordS s).data.toList := by
  have h2 : (wordsS s).length = 2 := of_decide_eq_true h
  have hc : Lib.countB s ⟨#[32]⟩ = 0 + 1 := by have := wordsS_len s; omega
  rcases Lib.indexB_cases s ⟨#[32]⟩ with hm | ⟨i, hi, hle⟩
  · rw [Lib.countB_miss _ _ hm] at hc; omega
  · have hw : wordsS s = [s.extract 0 (i + 0), s.extract (i + (⟨#[32]⟩ : ByteArray).size) s.size] := by
      unfold wordsS
      rw [hc, Lib.splitB_hit _ _ _ _ _ hi, Lib.splitB_zero]
    have hk : keyS s = s.extract 0 (i + 0) := by unfold keyS; rw [hw]; rfl
    have hv : wordS s = s.extract (i + (⟨#[32]⟩ : ByteArray).size) s.size := by unfold wordS; rw [if_pos h2, hw]; rfl
    have hi2 : Lib.indexByte s.data.toList 32 = ((i : Nat) : Int) := by
      rw [← Lib.index_one]; exact hi
    have hg := (Lib.indexByte_some hi2).1
    obtain ⟨hlt, hge⟩ := List.getElem?_eq_some_iff.1 hg
    rw [hk, hv, Lib.extract_from_zero, Lib.extract_to_end]
    show _ = _ ++ [32] ++ s.data.toList.drop (i + 1)
    rw [Nat.add_zero, List.append_assoc, ← hge, List.singleton_append, ← List.drop_eq_getElem_cons hlt, List.take_append_drop]

/-! ### A word is the text of what it says -/
theorem hex_of_bytes {w : ByteArray} {b : List Int} (h : bytesS w = some b) : hexS b = w ∧ InB b := by
  unfold bytesS at h
  split at h
  · rename_i h45
    injection h with h; subst h
    exact ⟨(ba_of h45).symm, by intro x hx; cases hx⟩
  · split at h
    · rename_i hc
      injection h with h; subst h
      refine ⟨hc.2, ?_⟩
      have h1 := hc.1
      rw [Lib.size_eq] at h1
      exact pairs_bd _ h1
    · cases h
theorem idx3_of {a b c w : List UInt8} (h : 0 ≤ idx3 a b c w) : (idx3 a b c w = 0 ∧ w = a) ∨ (idx3 a b c w = 1 ∧ w = b) ∨ (idx3 a b c w = 2 ∧ w = c) := by
  unfold idx3 at *
  by_cases h1 : w = a
  · rw [if_pos h1]; exact .inl ⟨rfl, h1⟩
  · rw [if_neg h1] at h ⊢
    by_cases h2 : w = b
    · rw [if_pos h2]; exact .inr (.inl ⟨rfl, h2⟩)
    · rw [if_neg h2] at h ⊢
      by_cases h3 : w = c
      · rw [if_pos h3]; exact .inr (.inr ⟨rfl, h3⟩)
      · rw [if_neg h3] at h; exact absurd h (by decide)
theorem end_of_idx {w : ByteArray} (h : 0 ≤ idx3 wSilent wClosed wReset w.data.toList) : endW (idx3 wSilent wClosed wReset w.data.toList) = w ∧ idx3 wSilent wClosed wReset w.data.toList ≤ 2 := by
  rcases idx3_of h with ⟨e, hw⟩ | ⟨e, hw⟩ | ⟨e, hw⟩
  all_goals
    rw [e]
    exact ⟨(ba_of hw).symm, by decide⟩
theorem stop_of_idx {w : ByteArray} (h : 0 ≤ idx3 wStuck wFree wReset w.data.toList) : stopW (idx3 wStuck wFree wReset w.data.toList) = w ∧ idx3 wStuck wFree wReset w.data.toList ≤ 2 := by
  rcases idx3_of h with ⟨e, hw⟩ | ⟨e, hw⟩ | ⟨e, hw⟩
  all_goals
    rw [e]
    exact ⟨(ba_of hw).symm, by decide⟩
theorem numFold_nonneg (l : List UInt8) (h : allDec l = true) : 0 ≤ (numFold l).1 ∧ (numFold l).1 ≤ 4611686018427387903 := by
  suffices H : ∀ (p : Int × Bool), 0 ≤ p.1 → p.1 ≤ 4611686018427387903 → 0 ≤ (l.foldl numStep p).1 ∧ (l.foldl numStep p).1 ≤ 4611686018427387903 from H (0, false) (by decide) (by decide)
  induction l with
  | nil => exact fun p h1 h2 => ⟨h1, h2⟩
  | cons a l ih =>
    intro p h1 h2
    unfold allDec at h
    rw [List.all_cons, Bool.and_eq_true] at h
    obtain ⟨b1, b2⟩ := numStep_bd p a h1 h2 h.1
    exact ih h.2 _ b1 b2
theorem numS_nonneg (l : List UInt8) : 0 ≤ (numS l).1 := by
  unfold numS
  split
  · rename_i h
    split
    · decide
    · split
      · decide
      · exact (numFold_nonneg l h).1
  · decide
theorem take_of_is {w : ByteArray} (h : isTake w = true) : (⟨(Lib.itoa (numS w.data.toList).1).toArray⟩ : ByteArray) = w ∧ 0 ≤ (numS w.data.toList).1 ∧ (numS w.data.toList).1 ≤ 1073741824 := by
  unfold isTake at h
  obtain ⟨h1, h2, h3⟩ := of_decide_eq_true h
  have h0 := numS_nonneg w.data.toList
  refine ⟨?_, h0, h2⟩
  have e : Lib.itoa (numS w.data.toList).1 = Lib.decDigits (numS w.data.toList).1.toNat := by unfold Lib.itoa; rw [if_neg (by omega)]
  rw [e, h3, ba_eta]
theorem pick_of (c : UInt8) (h : 0 ≤ pickI c) : lett (pickI c) = c ∧ pickI c ≤ 2 := by
  refine ⟨?_, (pickI_bd c).2⟩
  unfold pickI at *
  by_cases h1 : c = 114
  · rw [if_pos h1, h1]; rfl
  · rw [if_neg h1] at h ⊢
    by_cases h2 : c = 119
    · rw [if_pos h2, h2]; rfl
    · rw [if_neg h2] at h ⊢
      by_cases h3 : c = 116
      · rw [if_pos h3, h3]; rfl
      · rw [if_neg h3] at h; exact absurd h (by decide)
theorem picks_of : ∀ (l : List UInt8), allPick l = true → (turnsV l).map lett = l ∧ ∀ b ∈ turnsV l, 0 ≤ b ∧ b ≤ 2
  | [], _ => ⟨rfl, fun b hb => by cases hb⟩
  | c :: l, h => by
    unfold allPick at h
    rw [List.all_cons, Bool.and_eq_true] at h
    obtain ⟨i1, i2⟩ := picks_of l h.2
    have hc : 0 ≤ pickI c := of_decide_eq_true h.1
    obtain ⟨j1, j2⟩ := pick_of c hc
    have e : turnsV (c :: l) = pickI c :: turnsV l := rfl
    rw [e]
    refine ⟨by rw [List.map_cons, i1, j1], fun b hb => ?_⟩
    rcases List.mem_cons.1 hb with rfl | hb
    · exact ⟨hc, j2⟩
    · exact i2 b hb

/-! ### The texts grow by lines -/
theorem upsT_snoc (l : List (List Int)) (b : List Int) : upsT (l ++ [b]) = upsT l ++ lineB sUp (hexS b) := by simp [upsT]
theorem takesT_snoc (l : List Int) (n : Int) : takesT (l ++ [n]) = takesT l ++ lineB sTake ⟨(Lib.itoa n).toArray⟩ := by simp [takesT]
theorem picksT_app {l c : List Int} {m : Nat} (hl : l.length = 60 * m) (h0 : 0 < c.length) (h1 : c.length ≤ 60) : picksT (l ++ c) (nOffs (l ++ c).length) = picksT l (nOffs l.length) ++ lineB sPick ⟨(c.map lett).toArray⟩ := by
  have n1 : nOffs l.length = m := by unfold nOffs; omega
  have n2 : nOffs (l ++ c).length = m + 1 := by rw [List.length_append]; unfold nOffs; omega
  rw [n1, n2, picksT_succ]
  have hp : pieceW (l ++ c) (60 * m) = ⟨(c.map lett).toArray⟩ := by
    unfold pieceW
    rw [← hl, List.drop_append, List.drop_of_length_le (Nat.le_refl _), Nat.sub_self, List.drop_zero, List.nil_append, List.take_of_length_le h1]
  rw [hp]
  congr 1
  unfold picksT
  have : ∀ (j : Nat), j ≤ m → (offsL j).flatMap (fun x => lineB sPick (pieceW (l ++ c) x)) = (offsL j).flatMap (fun x => lineB sPick (pieceW l x)) := by
    intro j
    induction j with
    | zero => intro _; rfl
    | succ j ih =>
      intro hj
      rw [offsL_succ, List.flatMap_append, List.flatMap_append, ih (by omega)]
      congr 1
      simp only [List.flatMap_cons, List.flatMap_nil, List.append_nil]
      have : pieceW (l ++ c) (60 * j) = pieceW l (60 * j) := by
        unfold pieceW
        rw [List.drop_append, show 60 * j - l.length = 0 by omega, List.drop_zero, List.take_append_of_le_length (by rw [List.length_drop]; omega)]
      rw [this]
  exact this m (Nat.le_refl _)

/-- A script's text as far as it stands. -/
def putQ (x : Scr) (q : Int) : List UInt8 :=
  if q = 0 then upsT x.pieces else if q = 1 then upsT x.pieces ++ lineB sEnd (endW x.en) ++ takesT x.takes else putT x.pieces x.en x.takes x.st x.picks
structure GotI (x : Scr) (q : Int) (txt : List UInt8) : Prop where
  txt : txt = putQ x q
  q0 : 0 ≤ q
  q3 : q ≤ 3
  inb : ∀ b ∈ x.pieces, InB b
  tk : ∀ b ∈ x.takes, 0 ≤ b ∧ b ≤ 1073741824
  pk : ∀ b ∈ x.picks, 0 ≤ b ∧ b ≤ 2
  en : 1 ≤ q → 0 ≤ x.en ∧ x.en ≤ 2
  st : 2 ≤ q → 0 ≤ x.st ∧ x.st ≤ 2
  tk0 : q = 0 → x.takes = []
  pk0 : q ≤ 1 → x.picks = []
  full : q = 2 → ∃ m, x.picks.length = 60 * m

theorem got_step {x x' : Scr} {q q' : Int} {txt : List UInt8} {key word : ByteArray} (h : GotI x q txt) (hl : lineS x q key word true = (0, x', q')) : GotI x' q' (txt ++ lineB key word) := by
  have ht := h.txt
  unfold lineS at hl
  split at hl
  · rename_i hk
    split at hl
    · rename_i hq
      obtain ⟨rfl, -⟩ := hq
      split at hl
      · rename_i b hb
        obtain ⟨h1, h2⟩ := hex_of_bytes hb
        injection hl with _ hl; injection hl with hx hq'; subst hx hq'
        refine ⟨?_, h.q0, h.q3, ?_, h.tk, h.pk, fun h => absurd h (by decide), fun h => absurd h (by decide), h.tk0, h.pk0, fun h => absurd h (by decide)⟩
        · rw [ht]
          unfold putQ
          rw [if_pos rfl, if_pos rfl]
          show _ = upsT (x.pieces ++ [b])
          rw [upsT_snoc, h1, show key = sUp from ba_of hk]
        · intro y hy
          rcases List.mem_append.1 hy with hy | hy
          · exact h.inb y hy
          · rw [List.mem_singleton.1 hy]; exact h2
      · exact absurd (congrArg Prod.fst hl) (show ¬ (2 : Int) = 0 by decide)
    · exact absurd (congrArg Prod.fst hl) (show ¬ (2 : Int) = 0 by decide)
  · split at hl
    · rename_i hk
      split at hl
      · rename_i hq
        obtain ⟨hit, rfl, -⟩ := hq
        obtain ⟨h1, h2, h3⟩ := take_of_is hit
        injection hl with _ hl; injection hl with hx hq'; subst hx hq'
        refine ⟨?_, h.q0, h.q3, h.inb, ?_, h.pk, h.en, h.st, fun h => absurd h (by decide), h.pk0, fun h => absurd h (by decide)⟩
        · rw [ht]
          unfold putQ
          rw [if_neg (by decide), if_pos rfl, if_neg (by decide), if_pos rfl]
          show _ = _ ++ takesT (x.takes ++ [_])
          rw [takesT_snoc, h1, show key = sTake from ba_of hk, ← List.append_assoc]
        · intro y hy
          rcases List.mem_append.1 hy with hy | hy
          · exact h.tk y hy
          · rw [List.mem_singleton.1 hy]; exact ⟨h2, h3⟩
      · exact absurd (congrArg Prod.fst hl) (show ¬ (2 : Int) = 0 by decide)
    · split at hl
      · rename_i hk
        split at hl
        · rename_i hq
          obtain ⟨hix, rfl, -⟩ := hq
          obtain ⟨h1, h2⟩ := end_of_idx hix
          injection hl with _ hl; injection hl with hx hq'; subst hx hq'
          have htk := h.tk0 rfl
          refine ⟨?_, by decide, by decide, h.inb, h.tk, h.pk, fun _ => ⟨hix, h2⟩, fun h => absurd h (by decide), fun h => absurd h (by decide), fun _ => h.pk0 (by decide), fun h => absurd h (by decide)⟩
          rw [ht]
          unfold putQ
          rw [if_pos rfl, if_neg (by decide), if_pos rfl]
          show _ = _ ++ lineB sEnd (endW (idx3 wSilent wClosed wReset word.data.toList)) ++ takesT x.takes
          rw [h1, htk, show key = sEnd from ba_of hk, show takesT [] = [] from rfl, List.append_nil]
        · exact absurd (congrArg Prod.fst hl) (show ¬ (2 : Int) = 0 by decide)
      · split at hl
        · rename_i hk
          split at hl
          · rename_i hq
            obtain ⟨hix, rfl, -⟩ := hq
            obtain ⟨h1, h2⟩ := stop_of_idx hix
            injection hl with _ hl; injection hl with hx hq'; subst hx hq'
            have hpk := h.pk0 (by decide)
            refine ⟨?_, by decide, by decide, h.inb, h.tk, h.pk, fun _ => h.en (by decide), fun _ => ⟨hix, h2⟩, fun h => absurd h (by decide), fun h => absurd h (by decide), fun _ => ⟨0, by show x.picks.length = _; rw [hpk]; rfl⟩⟩
            rw [ht]
            unfold putQ
            rw [if_neg (by decide), if_pos rfl, if_neg (by decide), if_neg (by decide)]
            unfold putT
            show _ = _ ++ lineB sStop (stopW (idx3 wStuck wFree wReset word.data.toList)) ++ picksT x.picks _
            rw [h1, hpk, show key = sStop from ba_of hk, show picksT [] (nOffs ([] : List Int).length) = [] from rfl, List.append_nil]
          · exact absurd (congrArg Prod.fst hl) (show ¬ (2 : Int) = 0 by decide)
        · split at hl
          · rename_i hk
            split at hl
            · rename_i hq
              obtain ⟨hip, rfl, -⟩ := hq
              injection hl with _ hl; injection hl with hx hq'; subst hx hq'
              unfold isPicks at hip
              rw [Bool.and_eq_true] at hip
              obtain ⟨ha, hb⟩ := hip
              have hb := of_decide_eq_true hb
              obtain ⟨p1, p2⟩ := picks_of _ ha
              obtain ⟨m, hm⟩ := h.full rfl
              have hlen : (turnsV word.data.toList).length = word.size := by simp [turnsV]
              have q23 : (if word.size < 60 then (3 : Int) else 2) ≤ 3 ∧ 2 ≤ (if word.size < 60 then (3 : Int) else 2) ∧ ((if word.size < 60 then (3 : Int) else 2) = 2 → word.size = 60) := by
                split
                · exact ⟨by decide, by decide, fun h => absurd h (by decide)⟩
                · exact ⟨by decide, by decide, fun _ => by omega⟩
              refine ⟨?_, by omega, q23.1, h.inb, h.tk, ?_, fun _ => h.en (by decide), fun _ => h.st (by decide), fun h => by omega, fun h => by omega, fun hq => ⟨m + 1, by
                show (x.picks ++ turnsV word.data.toList).length = _
                rw [List.length_append, hlen, q23.2.2 hq]; omega⟩⟩
              · rw [ht]
                unfold putQ
                rw [if_neg (by decide), if_neg (by decide), if_neg (by omega), if_neg (by omega)]
                unfold putT
                show _ = _ ++ picksT (x.picks ++ turnsV word.data.toList) (nOffs (x.picks ++ turnsV word.data.toList).length)
                rw [picksT_app hm (by omega) (by omega), p1, ba_eta, show key = sPick from ba_of hk, ← List.append_assoc]
              · intro y hy
                rcases List.mem_append.1 hy with hy | hy
                · exact h.pk y hy
                · exact p2 y hy
            · exact absurd (congrArg Prod.fst hl) (show ¬ (2 : Int) = 0 by decide)
          · exact absurd (congrArg Prod.fst hl) (show ¬ (10 : Int) = 0 by decide)

theorem lineS_one (x : Scr) (q : Int) (key word : ByteArray) (h : (lineS x q key word false).1 = 0) : False := by
  have h2 : (lineS x q key word false).1 = 2 ∨ (lineS x q key word false).1 = 10 := by
    unfold lineS
    split
    · rw [if_neg (by simp)]; exact .inl rfl
    · split
      · rw [if_neg (by simp)]; exact .inl rfl
      · split
        · rw [if_neg (by simp)]; exact .inl rfl
        · split
          · rw [if_neg (by simp)]; exact .inl rfl
          · split
            · rw [if_neg (by simp)]; exact .inl rfl
            · exact .inr rfl
  omega
def flatA (ls : List ByteArray) : List UInt8 := ls.flatMap fun l => l.data.toList
theorem ended_body {ln : ByteArray} (h : endedS ln = true) : ln.data.toList = (bodyS ln).data.toList ++ [10] := by
  unfold bodyS Lib.trimSuffix
  have h' : Lib.hasSuffix ln.data.toList [10] = true := h
  rw [if_pos h']
  unfold Lib.hasSuffix at h'
  rw [List.isSuffixOf_iff_suffix] at h'
  obtain ⟨t, ht⟩ := h'
  show _ = ln.data.toList.take _ ++ [10]
  rw [← ht]
  simp
theorem got_run (ls : List ByteArray) : ∀ r : RunS, runS ls = r → r.e = 0 → GotI r.x r.q (flatA ls) := by
  suffices H : ∀ (ls : List ByteArray) (r0 : RunS) (txt : List UInt8), r0.e = 0 → GotI r0.x r0.q txt → ∀ r, ls.foldl stepS r0 = r → r.e = 0 → GotI r.x r.q (txt ++ flatA ls) by
    intro r hr he
    have h0 : GotI zeroS 0 [] := ⟨rfl, by decide, by decide, fun b hb => (by cases hb), fun b hb => (by cases hb), fun b hb => (by cases hb), fun h => absurd h (by decide), fun h => absurd h (by decide), fun _ => rfl, fun _ => rfl, fun h => absurd h (by decide)⟩
    have := H ls ⟨0, zeroS, 0, 0⟩ [] rfl h0 r hr he
    rwa [List.nil_append] at this
  intro ls
  induction ls with
  | nil =>
    intro r0 txt h0 hG r hr he
    subst hr
    rw [show flatA [] = [] from rfl, List.append_nil]; exact hG
  | cons a ls ih =>
    intro r0 txt h0 hG r hr he
    rw [List.foldl_cons] at hr
    by_cases hs : (stepS r0 a).e = 0
    · have hG2 : GotI (stepS r0 a).x (stepS r0 a).q (txt ++ a.data.toList) := by
        unfold stepS at hs ⊢
        rw [if_pos h0] at hs ⊢
        by_cases hen : endedS a = true
        · rw [if_pos hen] at hs ⊢
          by_cases hl : (lineS r0.x r0.q (keyS (bodyS a)) (wordS (bodyS a)) (twoS (bodyS a))).1 = 0
          · rw [if_pos hl]
            have htwo : twoS (bodyS a) = true := by
              by_cases ht : twoS (bodyS a) = true
              · exact ht
              · exfalso
                have ht : twoS (bodyS a) = false := by simpa using ht
                rw [ht] at hl
                exact lineS_one _ _ _ _ hl
            have hj := words_join _ htwo
            rw [htwo] at hl ⊢
            have hb := ended_body hen
            have := got_step (key := keyS (bodyS a)) (word := wordS (bodyS a)) hG (x' := (lineS r0.x r0.q (keyS (bodyS a)) (wordS (bodyS a)) true).2.1) (q' := (lineS r0.x r0.q (keyS (bodyS a)) (wordS (bodyS a)) true).2.2) (by
              rw [← hl])
            rw [hb, hj]
            exact this
          · rw [if_neg hl] at hs
            exact absurd hs hl
        · rw [if_neg hen] at hs
          exact absurd hs (by show ¬ (4 : Int) = 0; decide)
      have := ih _ _ hs hG2 r hr he
      rw [show flatA (a :: ls) = a.data.toList ++ flatA ls from rfl, ← List.append_assoc]; exact this
    · rw [stepS_stop hs] at hr
      rw [← hr] at he
      exact absurd he hs
theorem flat_lines : ∀ (n : Nat) (l : List UInt8), l.length ≤ n → flatA (linesL l) = l := by
  intro n
  induction n with
  | zero =>
    intro l h
    have : l = [] := List.length_eq_zero_iff.1 (by omega)
    subst this
    rw [linesL_nil]; rfl
  | succ n ih =>
    intro l h
    by_cases hl : l = []
    · subst hl; rw [linesL_nil]; rfl
    · rw [linesL_cons l hl]
      have h1 := lineLen_pos l hl
      show l.take (lineLen l) ++ flatA (linesL (l.drop (lineLen l))) = l
      rw [ih _ (by rw [List.length_drop]; omega), List.take_append_drop]

theorem bulk_ups : ∀ (l : List (List Int)), bulk l ≤ (upsT l).length
  | [] => by simp [bulk]
  | p :: l => by
    have ih := bulk_ups l
    have e : upsT (p :: l) = lineB sUp (hexS p) ++ upsT l := rfl
    have h1 : p.length ≤ (hexS p).size := by
      unfold hexS
      split
      · rename_i h; rw [h]; simp
      · show p.length ≤ (List.toArray _).size
        rw [List.size_toArray, hexL_len]; omega
    rw [e, List.length_append, lineB_len]
    have : bulk (p :: l) = p.length + 1 + bulk l := by simp [bulk]
    omega
theorem takes_low : ∀ (l : List Int), l.length ≤ (takesT l).length
  | [] => by simp
  | n :: l => by
    have ih := takes_low l
    have e : takesT (n :: l) = lineB sTake ⟨(Lib.itoa n).toArray⟩ ++ takesT l := rfl
    rw [e, List.length_append, lineB_len, List.length_cons]; omega
theorem picks_low (l : List Int) : ∀ (k : Nat), (l.take (60 * k)).length ≤ (picksT l k).length
  | 0 => by simp
  | k + 1 => by
    have ih := picks_low l k
    have hsz : (pieceW l (60 * k)).size = min 60 (l.length - 60 * k) := by
      show (List.toArray _).size = _
      rw [List.size_toArray, List.length_map, List.length_take, List.length_drop]
    rw [picksT_succ, List.length_append, lineB_len, hsz]
    rw [List.length_take] at ih ⊢
    omega

/-- What is got has just that text. -/
theorem put_get {t : ByteArray} (h : (getS t).2.2 = 0) {x : Scr} (hx : (getS t).1 = x) :
    putT x.pieces x.en x.takes x.st x.picks = t.data.toList ∧ (∀ b ∈ x.pieces, InB b) ∧ RightS x.en x.st x.takes x.picks ∧ bulk x.pieces ≤ t.size ∧ x.takes.length ≤ t.size ∧ x.picks.length ≤ t.size ∧ (getS t).2.1 = 0 := by
  obtain ⟨r, hr⟩ : ∃ r, runS (linesL t.data.toList) = r := ⟨_, rfl⟩
  have hg : getS t = if r.e ≠ 0 then (zeroS, r.n, r.e) else if r.q < 2 then (zeroS, r.n + 1, 4) else (r.x, 0, 0) := by unfold getS; rw [hr]
  rw [hg] at h hx ⊢
  by_cases he : r.e = 0
  · rw [if_neg (by simp [he])] at h hx ⊢
    by_cases hq : r.q < 2
    · rw [if_pos hq] at h; exact absurd h (show ¬ (4 : Int) = 0 by decide)
    · rw [if_neg hq] at hx ⊢
      have hx : r.x = x := hx
      have hG := got_run _ r hr he
      rw [flat_lines _ _ (Nat.le_refl _), hx] at hG
      have ht := hG.txt
      unfold putQ at ht
      rw [if_neg (by omega), if_neg (by omega)] at ht
      have hlen : t.data.toList.length = t.size := (Lib.size_eq t).symm
      have hl2 := congrArg List.length ht
      have b1 := bulk_ups x.pieces
      have b2 := takes_low x.takes
      have b3 := picks_low x.picks (nOffs x.picks.length)
      rw [List.take_of_length_le (by unfold nOffs; omega)] at b3
      unfold putT at hl2
      simp only [List.length_append] at hl2
      exact ⟨ht.symm, hG.inb, ⟨(hG.en (by omega)).1, (hG.en (by omega)).2, (hG.st (by omega)).1, (hG.st (by omega)).2, hG.tk, hG.pk⟩, by omega, by omega, by omega, rfl⟩
  · rw [if_pos he] at h
    exact absurd h he

end Go.Proofs.YtplcfijcmihhlaaDoor

namespace Go.Proofs.YtplcfijcmihhlaaDoor
open Go.RowKit Go.Proofs.YtplcfijcmihhlaaDoorW.PrintWords
set_option linter.unusedVariables false
set_option linter.unusedSimpArgs false

theorem strL_size (l : List UInt8) : (strL l).size = l.length := by
  show l.toArray.size = _
  rw [List.size_toArray]
theorem refNumber : ∀ (k u : Nat), u < 18446744073709551616 → u < k → PGet.catchpitref27_Number.f k (u : Int) = some (strL (Lib.decDigits u))
  | 0, u, _, h => absurd h (by omega)
  | k + 1, u, hu, hk => by
    have e1 : Int.tmod (u : Int) 10 = ((u % 10 : Nat) : Int) := rfl
    have e2 : Int.tdiv (u : Int) 10 = ((u / 10 : Nat) : Int) := rfl
    have w1 : IntKind.u64.wrap (48 + ((u % 10 : Nat) : Int)) = ((48 + u % 10 : Nat) : Int) := by rw [IntWalk.u64_in _ (by omega)]; omega
    have w2 : IntKind.u64.wrap ((u / 10 : Nat) : Int) = ((u / 10 : Nat) : Int) := IntWalk.u64_in _ (by omega)
    have w3 : strOfNums [(((48 + u % 10 : Nat) : Int) % 256)] = strL [UInt8.ofNat (48 + u % 10)] := by
      rw [show (((48 + u % 10 : Nat) : Int) % 256) = ((48 + u % 10 : Nat) : Int) by omega]
      rfl
    rw [PGet.catchpitref27_Number.f, Option.bind_some, e1, e2, w1, w2, w3]
    by_cases h : u < 10
    · rw [if_neg (by omega), Lib.decDigits, dif_pos h, Nat.mod_eq_of_lt h]
    · have hlen : (Lib.decDigits (u / 10)).length ≤ 25 := by
        have := Lib.itoa_length_le ((u / 10 : Nat) : Int) (by omega) (by omega)
        rw [Lib.itoa_nonneg] at this; omega
      rw [if_pos (by omega), refNumber k (u / 10) (by omega) (by omega), Option.bind_some, if_pos (by rw [strL_size, strL_size]; simp only [List.length_cons, List.length_nil]; omega), strL_app]
      conv => rhs; rw [Lib.decDigits, dif_neg h]

end Go.Proofs.YtplcfijcmihhlaaDoor

namespace Go.Proofs.YtplcfijcmihhlaaDoor
open Go.RowKit Go.Proofs.YtplcfijcmihhlaaDoorW.PrintWords
set_option linter.unusedVariables false
set_option linter.unusedSimpArgs false

/-- A script that is got, as a value. -/
theorem got_scr {W : World} {base : Nat} {vp vt vk : Value} {x : Scr} (h : Rows3 W base vp vt vk x) : ∃ A0 c0 A2 c2 A4 c4, vp = .slice A0 x.pieces.length c0 ∧ vt = .slice A2 x.takes.length c2 ∧ vk = .slice A4 x.picks.length c4 ∧ ScrC W A0 c0 x.pieces A2 c2 x.takes A4 c4 x.picks := by
  obtain ⟨A0, c0, rfl⟩ := Kd.R_slice h.pie
  obtain ⟨A2, c2, rfl⟩ := Kd.R_slice h.tak
  obtain ⟨A4, c4, rfl⟩ := Kd.R_slice h.pic
  obtain ⟨-, k0, r0⟩ := Kd.R_reads' h.pie
  obtain ⟨-, k2, r2⟩ := Kd.R_reads' h.tak
  obtain ⟨-, k4, r4⟩ := Kd.R_reads' h.pic
  exact ⟨A0, c0, A2, c2, A4, c4, rfl, rfl, rfl, r0, k0, r2, k2, r4, k4⟩

end Go.Proofs.YtplcfijcmihhlaaDoor
