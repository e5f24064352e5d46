/-
  The plain law of the order of hexadecimal texts, and the laws HexaPuts and HexaOrder.
-/
import Derived.Test.YtgnckeidekppjaaDoorHexaFmt
namespace Go.Proofs.YtgnckeidekppjaaDoor
open Go.RowKit
set_option linter.unusedVariables false
set_option linter.unusedSimpArgs false

theorem hexT_hi (n : Nat) : n < 16 ^ (hexT n).length := by
  induction n using Nat.strongRecOn with
  | _ n ih =>
    rw [hexT]
    by_cases h : n < 16
    · rw [if_pos h]; simpa using h
    · rw [if_neg h]
      have := ih (n / 16) (by omega)
      simp only [List.length_append, List.length_singleton, Nat.pow_succ]
      omega

theorem hexT_lo (n : Nat) (h : 16 ≤ n) : 16 ^ ((hexT n).length - 1) ≤ n := by
  induction n using Nat.strongRecOn with
  | _ n ih =>
    rw [hexT, if_neg (by omega)]
    simp only [List.length_append, List.length_singleton, Nat.add_sub_cancel]
    by_cases h2 : n / 16 < 16
    · rw [hexT, if_pos h2]; simpa using h
    · have := ih (n / 16) (by omega) (by omega)
      have hp : 0 < (hexT (n / 16)).length := List.length_pos_iff.2 (hexT_ne _)
      rw [show (hexT (n / 16)).length = (hexT (n / 16)).length - 1 + 1 by omega, Nat.pow_succ]
      omega

theorem hexT_len_one (n : Nat) (h : n < 16) : (hexT n).length = 1 := by rw [hexT, if_pos h]; rfl
theorem hexT_len_more (n : Nat) (h : 16 ≤ n) : (hexT n).length = (hexT (n / 16)).length + 1 := by rw [hexT, if_neg (by omega)]; simp

theorem longer (a b : Nat) (h : (hexT b).length < (hexT a).length) : b < a := by
  have hp : 0 < (hexT b).length := List.length_pos_iff.2 (hexT_ne _)
  have ha : 16 ≤ a := by
    apply Classical.byContradiction
    intro hc
    rw [hexT_len_one a (by omega)] at h
    omega
  have h1 := hexT_hi b
  have h2 := hexT_lo a ha
  have h3 : 16 ^ (hexT b).length ≤ 16 ^ ((hexT a).length - 1) := Nat.pow_le_pow_right (by decide) (by omega)
  omega

theorem less_snoc : ∀ (l m : List UInt8) (c d : UInt8), l.length = m.length → Op.bytesLess (l ++ [c]) (m ++ [d]) = (Op.bytesLess l m || (l == m && decide (c < d)))
  | [], [], c, d, _ => by simp [Op.bytesLess]
  | a :: l, b :: m, c, d, h => by
    have ih := less_snoc l m c d (by simpa using h)
    simp only [List.cons_append, Op.bytesLess, ih]
    by_cases e : a = b
    · subst e; simp
    · have e' : (a == b) = false := by simpa using e
      simp [e']

theorem tab_less : ∀ i j : Fin 16, (tabS.getD i.val 0 < tabS.getD j.val 0 ↔ i.val < j.val) ∧ (tabS.getD i.val 0 = tabS.getD j.val 0 ↔ i.val = j.val) := by decide +kernel
theorem tab_lt (i j : Nat) (hi : i < 16) (hj : j < 16) : decide (tabS.getD i 0 < tabS.getD j 0) = decide (i < j) := by
  have := (tab_less ⟨i, hi⟩ ⟨j, hj⟩).1
  exact decide_eq_decide.2 this

theorem hexT_inj (a b : Nat) (h : hexT a = hexT b) : a = b := by
  have := congrArg valL h
  rw [hexT_val, hexT_val] at this
  omega
theorem hexT_eq (a b : Nat) : (hexT a == hexT b) = decide (a = b) := by
  by_cases h : a = b
  · subst h; simp
  · have : hexT a ≠ hexT b := fun e => h (hexT_inj a b e)
    simp [h, this]

theorem hexT_less (a : Nat) : ∀ b, (hexT a).length = (hexT b).length → Op.bytesLess (hexT a) (hexT b) = decide (a < b) := by
  induction a using Nat.strongRecOn with
  | _ a ih =>
    intro b hl
    have hpa : 0 < (hexT (a / 16)).length := List.length_pos_iff.2 (hexT_ne _)
    have hpb : 0 < (hexT (b / 16)).length := List.length_pos_iff.2 (hexT_ne _)
    by_cases ha : a < 16
    · have hb : b < 16 := by
        apply Classical.byContradiction
        intro hc
        rw [hexT_len_one a ha, hexT_len_more b (by omega)] at hl
        omega
      rw [hexT, if_pos ha, hexT, if_pos hb]
      have := tab_lt a b ha hb
      simpa [Op.bytesLess] using this
    · have hb : 16 ≤ b := by
        apply Classical.byContradiction
        intro hc
        rw [hexT_len_one b (by omega), hexT_len_more a (by omega)] at hl
        omega
      rw [hexT_len_more a (by omega), hexT_len_more b hb] at hl
      have h1 := ih (a / 16) (by omega) (b / 16) (by omega)
      rw [hexT, if_neg ha, hexT.eq_1 b, if_neg (by omega), less_snoc _ _ _ _ (by omega), h1, hexT_eq, tab_lt _ _ (by omega) (by omega), Bool.eq_iff_iff]
      simp only [Bool.or_eq_true, Bool.and_eq_true, decide_eq_true_eq]
      omega

theorem ba_toList (l : List UInt8) : (ba l).toList = l := by rw [ByteArray.toList_eq]; exact ba_list l

set_option maxHeartbeats 400000 in
set_option maxRecDepth 100000 in
theorem HexaPuts_any (n : Nat) (hn : n ≤ 18446744073709551615) (w : World) (h : w.cell? ⟨2, 15, none⟩ = some (.int .u8 4)) :
    Calls Tryd.prog 3 #[.int .u64 n] w fun e w' => e = .returned (.bool true) ∧ Below w.heap.size w w' := by
  have hlen := hexT_len 15 n (by omega)
  have c1 := fun W h => Lib.hid (Put_any n hn W h)
  have c2 := fun W => Parse_any (ba (hexT n)) W (by rw [ba_size]; unfold maxLen; omega)
  rw [ba_list, parseV_hexT] at c2
  have c3 := fun W => Lib.hid (RPut_any n W hn)
  have hne : ((ba (hexT n)).toList == (ba (hexT n)).toList) = true := by simp
  generalize ba (hexT n) = s at *
  by_cases hb : (n : Int) ≤ 4611686018427387903
  · rw [if_pos hb] at c2
    have C2 := fun W => Lib.hid (c2 W)
    clear c2
    go_enter Tryd.func3, Tryd.ntmps3
    go_wp2_with fail
    refine (wakes_any _).mono ?_; rintro e w1 ⟨rfl, hb1⟩; dsimp only
    go_wp2_with fail
    refine (c1 _ ((hb1.cell (p := ⟨2, 15, none⟩) (cell_lt h)).trans h)).out.mono ?_; rintro e w2 ⟨rfl, hb2⟩; dsimp only
    go_wp2_with fail
    refine (C2 _).out.mono ?_; rintro e w3 ⟨rfl, hb3⟩; dsimp only
    go_wp2_with fail
    refine (c3 _).out.mono ?_; rintro e w' ⟨rfl, ⟨nd, rfl⟩⟩; dsimp only
    go_wp2_with fail
    go_ret
    exact ⟨rfl, below_drewN ((hb1.trans (hb2.mono hb1.size)).trans (hb3.mono (by have := hb1.size; have := hb2.size; omega))) _⟩
  · rw [if_neg hb] at c2
    have C2 := fun W => Lib.hid (c2 W)
    clear c2
    go_enter Tryd.func3, Tryd.ntmps3
    go_wp2_with fail
    refine (wakes_any _).mono ?_; rintro e w1 ⟨rfl, hb1⟩; dsimp only
    go_wp2_with fail
    refine (c1 _ ((hb1.cell (p := ⟨2, 15, none⟩) (cell_lt h)).trans h)).out.mono ?_; rintro e w2 ⟨rfl, hb2⟩; dsimp only
    go_wp2_with fail
    refine (C2 _).out.mono ?_; rintro e w3 ⟨rfl, hb3⟩; dsimp only
    go_wp2_with fail
    refine (c3 _).out.mono ?_; rintro e w' ⟨rfl, ⟨nd, rfl⟩⟩; dsimp only
    go_wp2_with fail
    go_ret
    exact ⟨rfl, below_drewN ((hb1.trans (hb2.mono hb1.size)).trans (hb3.mono (by have := hb1.size; have := hb2.size; omega))) _⟩

set_option maxHeartbeats 1000000 in
set_option maxRecDepth 100000 in
theorem HexaOrder_any (a b : Nat) (ha : a ≤ 18446744073709551615) (hb : b ≤ 18446744073709551615) (w : World) (h : w.cell? ⟨2, 15, none⟩ = some (.int .u8 4)) :
    Calls Tryd.prog 4 #[.int .u64 a, .int .u64 b] w fun e w' => e = .returned (.bool true) ∧ Below w.heap.size w w' := by
  have la := hexT_len 15 a (by omega)
  have lb := hexT_len 15 b (by omega)
  have c1 := fun W h => Lib.hid (Put_any a ha W h)
  have c2 := fun W h => Lib.hid (Put_any b hb W h)
  have o1 := longer a b
  have o2 := longer b a
  have o3 : ((ba (hexT a)).toList == (ba (hexT b)).toList) = decide (a = b) := by rw [ba_toList, ba_toList]; exact hexT_eq a b
  have o4 : (hexT a).length = (hexT b).length → Op.bytesLess (ba (hexT a)).toList (ba (hexT b)).toList = decide (a < b) := fun e => by rw [ba_toList, ba_toList]; exact hexT_less a b e
  have o5 : a = b → (hexT a).length = (hexT b).length := fun e => by rw [e]
  rw [← ba_size, ← ba_size] at o1 o2 o4 o5
  rw [← ba_size] at la lb
  generalize ba (hexT a) = s at *
  generalize ba (hexT b) = t at *
  generalize hs : (s.toList == t.toList) = eq at *
  generalize hl : Op.bytesLess s.toList t.toList = lt at *
  have Hs := Lib.hid hs
  have Hl := Lib.hid hl
  clear hs hl
  have key : (s.size = t.size ∧ eq = decide (a = b) ∧ lt = decide (a < b)) ∨ (s.size < t.size ∧ a < b ∧ eq = false) ∨ (t.size < s.size ∧ b < a ∧ eq = false) := by
    rcases Nat.lt_trichotomy s.size t.size with hh | hh | hh
    · have := o2 hh
      exact .inr (.inl ⟨hh, this, by rw [o3]; simp; omega⟩)
    · exact .inl ⟨hh, o3, o4 hh⟩
    · have := o1 hh
      exact .inr (.inr ⟨hh, this, by rw [o3]; simp; omega⟩)
  clear o1 o2 o3 o4 o5
  rcases key with ⟨hsz, rfl, rfl⟩ | ⟨hsz, hab, rfl⟩ | ⟨hsz, hab, rfl⟩
  · have hsz1 : (s.size : Int) = t.size := by omega
    rcases Nat.lt_trichotomy a b with hh | hh | hh
    · have d1 : decide (a = b) = false := by simp; omega
      have d2 : decide (a < b) = true := by simpa using hh
      rw [d1] at Hs; rw [d2] at Hl
      have hs := Hs.out
      have hl := Hl.out
      clear d1 d2
      go_enter Tryd.func4, Tryd.ntmps4
      go_wp2_with fail
      refine (wakes_any _).mono ?_; rintro e w1 ⟨rfl, hb1⟩; dsimp only
      go_wp2_with fail
      refine (c1 _ ((hb1.cell (p := ⟨2, 15, none⟩) (cell_lt h)).trans h)).out.mono ?_; rintro e w2 ⟨rfl, hb2⟩; dsimp only
      have hB2 := hb1.trans (hb2.mono hb1.size)
      go_wp2_with fail
      refine (c2 _ ((hB2.cell (p := ⟨2, 15, none⟩) (cell_lt h)).trans h)).out.mono ?_; rintro e w3 ⟨rfl, hb3⟩; dsimp only
      go_wp2_with fail
      go_ret
      refine ⟨ret_bool ?_, hB2.trans (hb3.mono hB2.size)⟩
      have e1 : ((a : Int) == (b : Int)) = decide (a = b) := by rw [Bool.eq_iff_iff]; simp; omega
      simp [e1]; try omega
    · subst hh
      have d1 : decide (a = a) = true := by simp
      have d2 : decide (a < a) = false := by simp
      rw [d1] at Hs; rw [d2] at Hl
      have hs := Hs.out
      have hl := Hl.out
      clear d1 d2
      go_enter Tryd.func4, Tryd.ntmps4
      go_wp2_with fail
      refine (wakes_any _).mono ?_; rintro e w1 ⟨rfl, hb1⟩; dsimp only
      go_wp2_with fail
      refine (c1 _ ((hb1.cell (p := ⟨2, 15, none⟩) (cell_lt h)).trans h)).out.mono ?_; rintro e w2 ⟨rfl, hb2⟩; dsimp only
      have hB2 := hb1.trans (hb2.mono hb1.size)
      go_wp2_with fail
      refine (c2 _ ((hB2.cell (p := ⟨2, 15, none⟩) (cell_lt h)).trans h)).out.mono ?_; rintro e w3 ⟨rfl, hb3⟩; dsimp only
      go_wp2_with fail
      go_ret
      refine ⟨ret_bool ?_, hB2.trans (hb3.mono hB2.size)⟩
      simp
    · have d1 : decide (a = b) = false := by simp; omega
      have d2 : decide (a < b) = false := by simp; omega
      rw [d1] at Hs; rw [d2] at Hl
      have hs := Hs.out
      have hl := Hl.out
      clear d1 d2
      go_enter Tryd.func4, Tryd.ntmps4
      go_wp2_with fail
      refine (wakes_any _).mono ?_; rintro e w1 ⟨rfl, hb1⟩; dsimp only
      go_wp2_with fail
      refine (c1 _ ((hb1.cell (p := ⟨2, 15, none⟩) (cell_lt h)).trans h)).out.mono ?_; rintro e w2 ⟨rfl, hb2⟩; dsimp only
      have hB2 := hb1.trans (hb2.mono hb1.size)
      go_wp2_with fail
      refine (c2 _ ((hB2.cell (p := ⟨2, 15, none⟩) (cell_lt h)).trans h)).out.mono ?_; rintro e w3 ⟨rfl, hb3⟩; dsimp only
      go_wp2_with fail
      go_ret
      refine ⟨ret_bool ?_, hB2.trans (hb3.mono hB2.size)⟩
      have e1 : ((a : Int) == (b : Int)) = decide (a = b) := by rw [Bool.eq_iff_iff]; simp; omega
      simp [e1]; try omega
  · have hsz1 : (s.size : Int) < t.size := by omega
    have hs := Hs.out
    go_enter Tryd.func4, Tryd.ntmps4
    go_wp2_with fail
    refine (wakes_any _).mono ?_; rintro e w1 ⟨rfl, hb1⟩; dsimp only
    go_wp2_with fail
    refine (c1 _ ((hb1.cell (p := ⟨2, 15, none⟩) (cell_lt h)).trans h)).out.mono ?_; rintro e w2 ⟨rfl, hb2⟩; dsimp only
    have hB2 := hb1.trans (hb2.mono hb1.size)
    go_wp2_with fail
    refine (c2 _ ((hB2.cell (p := ⟨2, 15, none⟩) (cell_lt h)).trans h)).out.mono ?_; rintro e w3 ⟨rfl, hb3⟩; dsimp only
    go_wp2_with fail
    go_ret
    refine ⟨ret_bool ?_, hB2.trans (hb3.mono hB2.size)⟩
    have e1 : ((a : Int) == (b : Int)) = decide (a = b) := by rw [Bool.eq_iff_iff]; simp; omega
    simp [e1]; try omega
  · have hsz1 : (t.size : Int) < s.size := by omega
    have hs := Hs.out
    go_enter Tryd.func4, Tryd.ntmps4
    go_wp2_with fail
    refine (wakes_any _).mono ?_; rintro e w1 ⟨rfl, hb1⟩; dsimp only
    go_wp2_with fail
    refine (c1 _ ((hb1.cell (p := ⟨2, 15, none⟩) (cell_lt h)).trans h)).out.mono ?_; rintro e w2 ⟨rfl, hb2⟩; dsimp only
    have hB2 := hb1.trans (hb2.mono hb1.size)
    go_wp2_with fail
    refine (c2 _ ((hB2.cell (p := ⟨2, 15, none⟩) (cell_lt h)).trans h)).out.mono ?_; rintro e w3 ⟨rfl, hb3⟩; dsimp only
    go_wp2_with fail
    go_ret
    refine ⟨ret_bool ?_, hB2.trans (hb3.mono hB2.size)⟩
    have e1 : ((a : Int) == (b : Int)) = decide (a = b) := by rw [Bool.eq_iff_iff]; simp; omega
    simp [e1]; try omega

/-- The laws, at the arguments as the rows open them. -/
theorem hexaPuts_of (a : Int) (wa : (Lit.int .u64 a).wf = true) (w : World) (h : w.cell? ⟨2, 15, none⟩ = some (.int .u8 4)) :
    Calls Tryd.prog 3 #[.int .u64 a] w fun e w' => e = .returned (.bool true) ∧ Below w.heap.size w w' := by
  simp [Lit.wf, IntKind.min, IntKind.max, IntKind.signed, IntKind.bits] at wa
  obtain ⟨n, rfl⟩ := Int.eq_ofNat_of_zero_le wa.1
  exact HexaPuts_any n (by omega) w h
theorem hexaOrder_of (a : Int) (wa : (Lit.int .u64 a).wf = true) (b : Int) (wb : (Lit.int .u64 b).wf = true) (w : World) (h : w.cell? ⟨2, 15, none⟩ = some (.int .u8 4)) :
    Calls Tryd.prog 4 #[.int .u64 a, .int .u64 b] w fun e w' => e = .returned (.bool true) ∧ Below w.heap.size w w' := by
  simp [Lit.wf, IntKind.min, IntKind.max, IntKind.signed, IntKind.bits] at wa wb
  obtain ⟨n, rfl⟩ := Int.eq_ofNat_of_zero_le wa.1
  obtain ⟨m, rfl⟩ := Int.eq_ofNat_of_zero_le wb.1
  exact HexaOrder_any n m (by omega) (by omega) w h

end Go.Proofs.YtgnckeidekppjaaDoor
