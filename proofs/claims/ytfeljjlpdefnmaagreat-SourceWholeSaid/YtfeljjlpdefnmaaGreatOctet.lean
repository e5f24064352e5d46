/-
  Layer 2 (octet): words and texts, at any table of the bounds of letters and digits.
-/
import Derived.Test.YtfeljjlpdefnmaaGreatBaseR
import Derived.Test.YtfeljjlpdefnmaaGreatShelfP
import Derived.KernelRfl
import Derived.Outline
import Derived.Lib.ConvBytes
import Derived.Deep.QuietTactic
import Derived.BigQuiet
import Derived.Laws.EntriesVeiled
namespace Go.Proofs.YtfeljjlpdefnmaaGreat
open Go.RowKit
set_option linter.unusedVariables false
set_option linter.unusedSimpArgs false
attribute [local go_sem] Oper.semAt_some

/-- The six bounds, as the world lays them. -/
structure EndsT (W : World) (n : Nat) (e0 e1 e2 e3 e4 e5 : Int) : Prop where
  c0 : W.cell? ⟨0, 0, none⟩ = some (.int .u8 e0)
  c1 : W.cell? ⟨0, 1, none⟩ = some (.int .u8 e1)
  c2 : W.cell? ⟨0, 2, none⟩ = some (.int .u8 e2)
  c3 : W.cell? ⟨0, 3, none⟩ = some (.int .u8 e3)
  c4 : W.cell? ⟨0, 4, none⟩ = some (.int .u8 e4)
  c5 : W.cell? ⟨0, 5, none⟩ = some (.int .u8 e5)
  lt : 0 < n
  le : n ≤ W.heap.size
theorem EndsT.below {W W' : World} {n : Nat} {e0 e1 e2 e3 e4 e5 : Int} (h : EndsT W n e0 e1 e2 e3 e4 e5) (hb : Below n W W') : EndsT W' n e0 e1 e2 e3 e4 e5 :=
  ⟨(hb.cell (p := ⟨0, 0, none⟩) h.lt).trans h.c0, (hb.cell (p := ⟨0, 1, none⟩) h.lt).trans h.c1, (hb.cell (p := ⟨0, 2, none⟩) h.lt).trans h.c2, (hb.cell (p := ⟨0, 3, none⟩) h.lt).trans h.c3, (hb.cell (p := ⟨0, 4, none⟩) h.lt).trans h.c4, (hb.cell (p := ⟨0, 5, none⟩) h.lt).trans h.c5, h.lt, Nat.le_trans h.le hb.size⟩

def othersL : List UInt8 := [33, 35, 36, 37, 38, 39, 42, 43, 45, 46, 94, 95, 96, 124, 126]
def inE (a b c : Int) : Bool := decide (a ≤ c) && decide (c ≤ b)
/-- A token's byte, by the bounds. -/
def tokB (e0 e1 e2 e3 e4 e5 : Int) (c : UInt8) : Bool := inE e0 e1 c.toNat || inE e2 e3 c.toNat || inE e4 e5 c.toNat || decide (0 ≤ Lib.indexByte othersL c)
/-- A text's byte. -/
def txtB (c : UInt8) : Bool := decide (c.toNat = 32) || decide (c.toNat = 9) || (decide (32 < c.toNat) && decide (c.toNat ≠ 127))

theorem Blank_any (c : Int) (w : World) :
    Calls Tryz.prog 97 #[.int .u8 c] w fun e w' => e = .returned (.bool (c == 32 || c == 9)) ∧ w = w' := by
  go_enter Tryz.func97, Tryz.ntmps97
  by_cases h : c = 32
  · subst h
    go_wp2_with fail
    go_ret
    exact ⟨rfl, rfl⟩
  · have h1 : (c == 32) = false := by simpa using h
    go_wp2_with fail
    go_ret
    exact ⟨by rw [h1]; rfl, rfl⟩

theorem TextB_any (c : UInt8) (w : World) :
    Calls Tryz.prog 96 #[.int .u8 (c.toNat : Int)] w fun e w' => e = .returned (.bool (txtB c)) ∧ w = w' := by
  obtain ⟨n, hn⟩ : ∃ n, c.toNat = n := ⟨_, rfl⟩
  have hB := fun W => Lib.hid (Blank_any (n : Int) W)
  unfold txtB
  rw [hn]
  have Hn := Lib.hid hn
  clear hn
  by_cases h1 : n = 32
  · subst h1
    go_enter Tryz.func96, Tryz.ntmps96
    go_wp2_with fail
    refine (hB _).out.mono ?_; rintro e w1 ⟨rfl, rfl⟩; dsimp only
    go_wp2_with fail
    go_ret
    exact ⟨rfl, rfl⟩
  · by_cases h2 : n = 9
    · subst h2
      go_enter Tryz.func96, Tryz.ntmps96
      go_wp2_with fail
      refine (hB _).out.mono ?_; rintro e w1 ⟨rfl, rfl⟩; dsimp only
      go_wp2_with fail
      go_ret
      exact ⟨rfl, rfl⟩
    · have e1 : (((n : Int) == 32) || ((n : Int) == 9)) = false := by simp; omega
      have d1 : decide (n = 32) = false := decide_eq_false h1
      have d2 : decide (n = 9) = false := decide_eq_false h2
      rw [d1, d2]
      by_cases h3 : 32 < n
      · have g3 : (32 : Int) < (n : Int) := by omega
        have d3 : decide (32 < n) = true := decide_eq_true h3
        rw [d3]
        clear h1 h2 h3 d1 d2 d3
        by_cases h4 : n = 127
        · subst h4
          go_enter Tryz.func96, Tryz.ntmps96
          go_wp2_with fail
          refine (hB _).out.mono ?_; rintro e w1 ⟨rfl, rfl⟩; dsimp only
          go_wp2_with fail
          go_ret
          exact ⟨rfl, rfl⟩
        · have g4 : ((n : Int) != 127) = true := by rw [bne_iff_ne]; omega
          have d4 : decide (n ≠ 127) = true := decide_eq_true h4
          rw [d4]
          clear h4 d4
          go_enter Tryz.func96, Tryz.ntmps96
          go_wp2_with fail
          refine (hB _).out.mono ?_; rintro e w1 ⟨rfl, rfl⟩; dsimp only
          rw [e1]
          go_wp2_with fail
          go_ret
          exact ⟨rfl, rfl⟩
      · have g3 : decide ((32 : Int) < (n : Int)) = false := decide_eq_false (by omega)
        have g3' : (n : Int) ≤ 32 := by omega
        have d3 : decide (32 < n) = false := decide_eq_false h3
        rw [d3]
        clear h1 h2 h3 d1 d2 d3
        go_enter Tryz.func96, Tryz.ntmps96
        go_wp2_with fail
        refine (hB _).out.mono ?_; rintro e w1 ⟨rfl, rfl⟩; dsimp only
        rw [e1]
        go_wp2_with fail
        go_ret
        exact ⟨rfl, rfl⟩

set_option maxHeartbeats 1000000 in
set_option maxRecDepth 100000 in
theorem TokenB_any {e0 e1 e2 e3 e4 e5 : Int} (c : UInt8) {w : World} {n : Nat} (hE : EndsT w n e0 e1 e2 e3 e4 e5) :
    Calls Tryz.prog 98 #[.int .u8 (c.toNat : Int)] w fun e w' => e = .returned (.bool (tokB e0 e1 e2 e3 e4 e5 c)) ∧ Below w.heap.size w w' := by
  have i0 := hE.c0
  have i1 := hE.c1
  have i2 := hE.c2
  have i3 := hE.c3
  have i4 := hE.c4
  have i5 := hE.c5
  have j0 : ∀ w, (Instr.index 142 (.agg #[.int .u8 e0, .int .u8 e1, .int .u8 e2, .int .u8 e3, .int .u8 e4, .int .u8 e5]) (.int .i64 0)).run Tryz.prog w = .ok (.agg #[.int .u8 e0, .int .u8 e1]) w := fun _ => by kernel_rfl
  have j1 : ∀ w, (Instr.index 142 (.agg #[.int .u8 e0, .int .u8 e1, .int .u8 e2, .int .u8 e3, .int .u8 e4, .int .u8 e5]) (.int .i64 1)).run Tryz.prog w = .ok (.agg #[.int .u8 e2, .int .u8 e3]) w := fun _ => by kernel_rfl
  have j2 : ∀ w, (Instr.index 142 (.agg #[.int .u8 e0, .int .u8 e1, .int .u8 e2, .int .u8 e3, .int .u8 e4, .int .u8 e5]) (.int .i64 2)).run Tryz.prog w = .ok (.agg #[.int .u8 e4, .int .u8 e5]) w := fun _ => by kernel_rfl
  clear hE
  obtain ⟨x, hx⟩ : ∃ x : Int, (c.toNat : Int) = x := ⟨_, rfl⟩
  have hI := fun W => Lib.hid (Tryz.strings_IndexByte ⟨#[33, 35, 36, 37, 38, 39, 42, 43, 45, 46, 94, 95, 96, 124, 126]⟩ x W)
  have hxc : x.toNat.toUInt8 = c := by rw [← hx]; simp
  have HT := Lib.hid (show tokB e0 e1 e2 e3 e4 e5 c = (inE e0 e1 x || inE e2 e3 x || inE e4 e5 x || decide (0 ≤ Lib.indexByte othersL c)) by rw [← hx]; rfl)
  rw [hxc] at hI
  rw [hx]
  clear hx hxc
  go_enter Tryz.func98, Tryz.ntmps98
  go_wp2_with fail
  go_loopw [6] (fun i wr => ∃ k : Nat, k ≤ 3 ∧ i = .int .i64 (k : Nat) ∧ Hid ((0 < k → inE e0 e1 x = false) ∧ (1 < k → inE e2 e3 x = false) ∧ (2 < k → inE e4 e5 x = false)) ∧ Hid (Below w.heap.size w wr)) (fun i _ => 3 - (intOf i).toNat)
  case atStart => exact ⟨0, Nat.zero_le _, rfl, Lib.hid ⟨fun h => by omega, fun h => by omega, fun h => by omega⟩, Lib.hid (Below.refl _ _)⟩
  case round =>
    obtain ⟨k, hk, rfl, hno, hW⟩ := hrel
    have hWa := fun o => Lib.hid (hW.out.alloc hW.out.size o)
    clear i0 i1 i2 i3 i4 i5
    obtain rfl | rfl | rfl | rfl : k = 0 ∨ k = 1 ∨ k = 2 ∨ k = 3 := by omega
    · by_cases ha : e0 ≤ x
      · by_cases hb : x ≤ e1
        · have H0 := Lib.hid (show inE e0 e1 x = true by unfold inE; rw [decide_eq_true ha, decide_eq_true hb]; rfl)
          go_wp2_with fail
          go_ret
          exact ⟨ret_bool (by rw [HT.out, H0.out]; rfl), (hWa _).out⟩
        · have H0 := Lib.hid (show inE e0 e1 x = false by unfold inE; rw [decide_eq_false hb, Bool.and_false])
          have hb2 : decide (x ≤ e1) = false := decide_eq_false hb
          have hb3 : e1 < x := by omega
          go_wp2_with fail
          go_roundw
          case rel => exact ⟨1, by omega, rfl, Lib.hid ⟨fun _ => H0.out, fun h => by omega, fun h => by omega⟩, hWa _⟩
          case measure => simp [intOf]
      · have H0 := Lib.hid (show inE e0 e1 x = false by unfold inE; rw [decide_eq_false ha, Bool.false_and])
        have hb2 : decide (e0 ≤ x) = false := decide_eq_false ha
        have hb3 : x < e0 := by omega
        go_wp2_with fail
        go_roundw
        case rel => exact ⟨1, by omega, rfl, Lib.hid ⟨fun _ => H0.out, fun h => by omega, fun h => by omega⟩, hWa _⟩
        case measure => simp [intOf]
    · by_cases ha : e2 ≤ x
      · by_cases hb : x ≤ e3
        · have H0 := Lib.hid (show inE e2 e3 x = true by unfold inE; rw [decide_eq_true ha, decide_eq_true hb]; rfl)
          go_wp2_with fail
          go_ret
          exact ⟨ret_bool (by rw [HT.out, H0.out, Bool.or_true, Bool.true_or, Bool.true_or]), (hWa _).out⟩
        · have H0 := Lib.hid (show inE e2 e3 x = false by unfold inE; rw [decide_eq_false hb, Bool.and_false])
          have hb2 : decide (x ≤ e3) = false := decide_eq_false hb
          have hb3 : e3 < x := by omega
          go_wp2_with fail
          go_roundw
          case rel => exact ⟨2, by omega, rfl, Lib.hid ⟨fun _ => hno.out.1 (by omega), fun _ => H0.out, fun h => by omega⟩, hWa _⟩
          case measure => simp [intOf]
      · have H0 := Lib.hid (show inE e2 e3 x = false by unfold inE; rw [decide_eq_false ha, Bool.false_and])
        have hb2 : decide (e2 ≤ x) = false := decide_eq_false ha
        have hb3 : x < e2 := by omega
        go_wp2_with fail
        go_roundw
        case rel => exact ⟨2, by omega, rfl, Lib.hid ⟨fun _ => hno.out.1 (by omega), fun _ => H0.out, fun h => by omega⟩, hWa _⟩
        case measure => simp [intOf]
    · by_cases ha : e4 ≤ x
      · by_cases hb : x ≤ e5
        · have H0 := Lib.hid (show inE e4 e5 x = true by unfold inE; rw [decide_eq_true ha, decide_eq_true hb]; rfl)
          go_wp2_with fail
          go_ret
          exact ⟨ret_bool (by rw [HT.out, H0.out, Bool.or_true, Bool.true_or]), (hWa _).out⟩
        · have H0 := Lib.hid (show inE e4 e5 x = false by unfold inE; rw [decide_eq_false hb, Bool.and_false])
          have hb2 : decide (x ≤ e5) = false := decide_eq_false hb
          have hb3 : e5 < x := by omega
          go_wp2_with fail
          go_roundw
          case rel => exact ⟨3, by omega, rfl, Lib.hid ⟨fun _ => hno.out.1 (by omega), fun _ => hno.out.2.1 (by omega), fun _ => H0.out⟩, hWa _⟩
          case measure => simp [intOf]
      · have H0 := Lib.hid (show inE e4 e5 x = false by unfold inE; rw [decide_eq_false ha, Bool.false_and])
        have hb2 : decide (e4 ≤ x) = false := decide_eq_false ha
        have hb3 : x < e4 := by omega
        go_wp2_with fail
        go_roundw
        case rel => exact ⟨3, by omega, rfl, Lib.hid ⟨fun _ => hno.out.1 (by omega), fun _ => hno.out.2.1 (by omega), fun _ => H0.out⟩, hWa _⟩
        case measure => simp [intOf]
    · obtain ⟨n0, n1, n2⟩ := hno.out
      have HN := Lib.hid (show tokB e0 e1 e2 e3 e4 e5 c = decide (0 ≤ Lib.indexByte othersL c) by rw [HT.out, n0 (by omega), n1 (by omega), n2 (by omega)]; rfl)
      clear n0 n1 n2
      go_wp2_with fail
      refine (hI _).out.mono ?_; rintro e w1 ⟨rfl, rfl⟩; dsimp only
      go_wp2_with fail
      go_ret
      exact ⟨ret_bool (by rw [HN.out]; rfl), hW.out⟩

theorem below_bytesR (w : World) (e : TypeId) (s : ByteArray) : Below w.heap.size w (Lib.bytesWorld w e s) :=
  ⟨rfl, rfl, rfl, by rw [Lib.bytesWorld_size]; omega, fun k hk => Lib.bytesWorld_at_old w e s k hk⟩
def allB (p : UInt8 → Bool) (l : List UInt8) : Bool := l.all p
set_option maxHeartbeats 1000000 in
set_option maxRecDepth 100000 in
theorem All_any (s : ByteArray) (hs : s.size ≤ 1000000) (g : Nat) (p : UInt8 → Bool) (w : World) (hcf : ∀ args W, (callFunc g args).run Tryz.prog W = .ok (.enter g args) W)
    (hp : ∀ (c : UInt8) W, Below w.heap.size w W → Calls Tryz.prog g #[.int .u8 (c.toNat : Int)] W fun e w' => e = .returned (.bool (p c)) ∧ Below W.heap.size W w') :
    Calls Tryz.prog 95 #[.string s, .func (.func g) #[] #[]] w fun e w' => e = .returned (.bool (allB p s.data.toList)) ∧ Below w.heap.size w w' := by
  have hcv := fun (W : World) => Lib.run_convert_string_bytes (P := Tryz.prog) W 9 39 5 s Tryz.underlying9 Tryz.underlying39 Tryz.underlying5
  have HP := Lib.hid hp
  clear hp
  go_enter Tryz.func95, Tryz.ntmps95
  go_wp2_with fail
  clear hcv
  have HBW := Lib.hid (below_bytesR w 5 s)
  have HCELL := Lib.hid (fun j (hj : j < s.size) => Lib.bytesWorld_cell w 5 s j hj)
  have hW1 := Lib.bytesWorld_size w 5 s
  generalize Lib.bytesWorld w 5 s = wb at *
  have Hsz := Lib.hid (show s.data.toList.length = s.size by simp)
  go_loopw [10] (fun i wr => ∃ k : Nat, k ≤ s.size ∧ i = .int .i64 (k : Nat) ∧ Hid (allB p (s.data.toList.take k) = true) ∧ Hid (Below wb.heap.size wb wr)) (fun i _ => s.size - (intOf i).toNat)
  case atStart => exact ⟨0, by omega, rfl, Lib.hid rfl, Lib.hid (Below.refl _ _)⟩
  case round =>
    obtain ⟨k, hk, rfl, hD, hW⟩ := hrel
    by_cases hlt : k < s.size
    · have hkl : k < s.data.toList.length := by have := Hsz.out; omega
      have hcell := (hW.out.cell (p := ⟨w.heap.size, k, none⟩) (by show w.heap.size < _; omega)).trans (HCELL.out k hlt)
      have ec : (s.data.toList.getD k 0) = s.data.toList[k] := by rw [List.getD_eq_getElem?_getD, List.getElem?_eq_getElem hkl]; rfl
      rw [ec] at hcell
      have p1 : (0 : Int) ≤ (k : Int) := Int.natCast_nonneg k
      have p2 : (k : Int) < (s.size : Int) := by omega
      have hC := Lib.hid (HP.out s.data.toList[k] _ (HBW.out.trans (hW.out.mono (by omega))))
      have HS := Lib.hid (show allB p (s.data.toList.take (k + 1)) = p s.data.toList[k] by have h := hD.out; unfold allB at *; rw [List.take_succ_eq_append_getElem hkl, List.all_append, h]; simp)
      have HF := Lib.hid (show p s.data.toList[k] = false → allB p s.data.toList = false from fun h => by unfold allB; rw [List.all_eq_false]; exact ⟨_, List.getElem_mem hkl, by rw [h]; simp⟩)
      clear ec
      generalize s.data.toList[k] = c at *
      go_wp2_with fail
      refine hC.out.mono ?_; rintro e w1 ⟨rfl, hb1⟩; dsimp only
      have HB1 := Lib.hid (hW.out.trans (hb1.mono hW.out.size))
      clear hb1
      obtain ⟨b, hb⟩ : ∃ b, p c = b := ⟨_, rfl⟩
      rw [hb] at HS HF ⊢
      cases b with
      | true =>
        go_wp2_with fail
        go_roundw
        case rel => exact ⟨k + 1, by omega, by go_num, HS, HB1⟩
        case measure => simp [intOf]; omega
      | false =>
        go_wp2_with fail
        go_ret
        exact ⟨ret_bool (HF.out (by first | rfl | trivial)).symm, HBW.out.trans (HB1.out.mono (by omega))⟩
    · have hk' : k = s.size := by omega
      have ha := hD.out
      rw [List.take_of_length_le (by have := Hsz.out; omega)] at ha
      have Ha := Lib.hid ha
      clear ha
      go_wp2_with fail
      go_ret
      exact ⟨ret_bool Ha.out.symm, HBW.out.trans (hW.out.mono (by omega))⟩

def isTok (e0 e1 e2 e3 e4 e5 : Int) (s : ByteArray) : Bool := decide (s.size ≠ 0) && allB (tokB e0 e1 e2 e3 e4 e5) s.data.toList
def isTxt (s : ByteArray) : Bool := allB txtB s.data.toList
theorem Text_any (s : ByteArray) (hs : s.size ≤ 1000000) (w : World) :
    Calls Tryz.prog 91 #[.string s] w fun e w' => e = .returned (.bool (isTxt s)) ∧ Below w.heap.size w w' := by
  have hA := Lib.hid (All_any s hs 96 txtB w (enters_of Tryz.func96 (by kernel_rfl) rfl) (fun c W _ => (TextB_any c W).mono fun e w' h => ⟨h.1, h.2 ▸ Below.refl _ _⟩))
  go_enter Tryz.func91, Tryz.ntmps91
  go_wp2_with fail
  refine hA.out.mono ?_; rintro e w1 ⟨rfl, hb⟩; dsimp only
  have HB := Lib.hid hb
  clear hb
  go_wp2_with fail
  go_ret
  exact ⟨rfl, HB.out⟩
theorem Token_any {e0 e1 e2 e3 e4 e5 : Int} (s : ByteArray) (hs : s.size ≤ 1000000) {w : World} (hE : EndsT w w.heap.size e0 e1 e2 e3 e4 e5) :
    Calls Tryz.prog 92 #[.string s] w fun e w' => e = .returned (.bool (isTok e0 e1 e2 e3 e4 e5 s)) ∧ Below w.heap.size w w' := by
  have hA := Lib.hid (All_any s hs 98 (tokB e0 e1 e2 e3 e4 e5) w (enters_of Tryz.func98 (by kernel_rfl) rfl) (fun c W hb => TokenB_any c (hE.below hb)))
  have HI := Lib.hid (show isTok e0 e1 e2 e3 e4 e5 s = (decide (s.size ≠ 0) && allB (tokB e0 e1 e2 e3 e4 e5) s.data.toList) from rfl)
  clear hE
  by_cases h0 : s.size = 0
  · have hn : s.toList.isEmpty = true := by rw [Lib.toList_data, List.isEmpty_iff]; exact List.length_eq_zero_iff.1 (by rw [← h0]; simp)
    have hn2 : (s.toList != []) = false := by rw [List.isEmpty_iff.1 hn]; rfl
    have hn3 := List.isEmpty_iff.1 hn
    have Hd := Lib.hid (show decide (s.size ≠ 0) = false from decide_eq_false (fun h => h h0))
    clear h0
    go_enter Tryz.func92, Tryz.ntmps92
    go_wp2_with fail
    go_ret
    exact ⟨ret_bool (by rw [HI.out, Hd.out]; rfl), Below.refl _ _⟩
  · have hne : s.data.toList ≠ [] := fun e => h0 (by
      have h1 : s.data.toList.length = s.size := by simp
      rw [e] at h1
      exact h1.symm)
    have hn : s.toList.isEmpty = false := by rw [Lib.toList_data]; simpa using hne
    have hn2 : (s.toList != []) = true := by rw [Lib.toList_data]; exact bne_iff_ne.2 hne
    have Hd := Lib.hid (show decide (s.size ≠ 0) = true from decide_eq_true h0)
    clear h0 hne
    go_enter Tryz.func92, Tryz.ntmps92
    go_wp2_with fail
    refine hA.out.mono ?_; rintro e w1 ⟨rfl, hb⟩; dsimp only
    have HB := Lib.hid hb
    clear hb
    go_wp2_with fail
    go_ret
    exact ⟨ret_bool (by rw [HI.out, Hd.out, Bool.true_and]), HB.out⟩

end Go.Proofs.YtfeljjlpdefnmaaGreat
