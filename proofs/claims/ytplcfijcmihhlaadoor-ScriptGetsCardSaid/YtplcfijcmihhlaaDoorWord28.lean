/-
  Layer 28, words: numbers, hexadecimal words, picks, as the program walks them and as plain words say.
-/
import Derived.WalkKit
import Derived.Laws.BitsAllLaws
import Derived.Test.YtplcfijcmihhlaaDoorProg
import Derived.Test.YtplcfijcmihhlaaDoorBase28
import Derived.Test.YtplcfijcmihhlaaDoorShelfD
import Derived.Lib.ConvBytes
import Derived.BigQuiet
import Derived.Deep.QuietTactic
import Derived.Lib.Walk
import Derived.Lib.ItoaMem
import Derived.KernelRfl
import Derived.Test.YtplcfijcmihhlaaDoorWWords
import Derived.LoopTactic
import Derived.Outline
namespace Go.Proofs.YtplcfijcmihhlaaDoor
open Go.RowKit
set_option linter.unusedVariables false
set_option linter.unusedSimpArgs false

/-- A digit's value, as the code reckons it. -/
def digitV (c : Int) : Int :=
  if 48 ≤ c ∧ c ≤ 57 then c - 48 else if 97 ≤ Go.bits .or .u8 c 32 ∧ Go.bits .or .u8 c 32 ≤ 102 then Go.bits .or .u8 c 32 - 87 else -1

theorem or32_bd (c : Int) (h0 : 0 ≤ c) (h1 : c ≤ 255) : 0 ≤ Go.bits .or .u8 c 32 ∧ Go.bits .or .u8 c 32 ≤ 255 := by
  rw [u8_or c 32 h0 (by omega) (by omega) (by omega)]
  have : c.toNat ||| (32 : Int).toNat < 2 ^ 8 := Nat.or_lt_two_pow (by omega) (by decide)
  omega

theorem digitV_bd (c : Int) : -1 ≤ digitV c ∧ digitV c ≤ 15 := by
  unfold digitV
  split
  · omega
  · split <;> omega

def isDig (c : UInt8) : Bool := decide (0 ≤ digitV c.toNat)

def digs (l : List UInt8) : Nat := (l.takeWhile isDig).length

theorem digs_le (l : List UInt8) : digs l ≤ l.length := by
  unfold digs
  induction l with
  | nil => simp
  | cons a l ih => simp only [List.takeWhile_cons]; split <;> simp <;> omega

theorem digs_at : ∀ (l : List UInt8) (k : Nat) (_ : k ≤ digs l) (h : k < l.length), (k < digs l ↔ 0 ≤ digitV l[k].toNat)
  | [], k, _, h => by simp at h
  | a :: l, 0, _, _ => by
    simp only [digs, List.takeWhile_cons, List.getElem_cons_zero, isDig]
    by_cases ha : 0 ≤ digitV a.toNat <;> simp [ha]
  | a :: l, k + 1, hk, h => by
    simp only [digs, List.takeWhile_cons, List.getElem_cons_succ, isDig] at hk ⊢
    by_cases ha : 0 ≤ digitV a.toNat
    · simp only [ha, decide_true, if_true, List.length_cons, Nat.add_le_add_iff_right, Nat.add_lt_add_iff_right] at hk ⊢
      exact digs_at l k hk (by simpa using h)
    · simp [ha] at hk

/-- All of a text's bytes are digits. -/
theorem digs_all {l : List UInt8} (h : l.length ≤ digs l) (k : Nat) (hk : k < l.length) : 0 ≤ digitV l[k].toNat :=
  (digs_at l k (by omega) hk).1 (by omega)

/-- One digit more, refused where it is too great. -/
def moreV (n c : Int) : Int × Int :=
  if digitV c < 0 then (0, 2) else if 16 * n + digitV c ≤ 4611686018427387903 then (16 * n + digitV c, 0) else (0, 3)

/-- The number that a text says, however great. -/
def valL (l : List UInt8) : Int := l.foldl (fun n c => 16 * n + digitV c.toNat) 0

theorem valL_snoc (l : List UInt8) (c : UInt8) : valL (l ++ [c]) = 16 * valL l + digitV c.toNat := by simp [valL]

def parseV (l : List UInt8) : Int × Int :=
  if l = [] ∨ digs l < l.length then (0, 2) else if valL l ≤ 4611686018427387903 then (valL l, 0) else (0, 3)

theorem take_snoc (s : ByteArray) (k : Nat) (h : k < s.size) : s.data.toList.take (k + 1) = s.data.toList.take k ++ [s[k]] := by
  rw [List.take_succ_eq_append_getElem (by simpa using h)]; rfl

theorem valL_pos {l : List UInt8} (h : l.length ≤ digs l) : ∀ k, k ≤ l.length → 0 ≤ valL (l.take k) := by
  intro k
  induction k with
  | zero => intro _; simp [valL]
  | succ k ih =>
    intro hk
    rw [List.take_succ_eq_append_getElem (by omega), valL_snoc]
    have h1 := digs_all h k (by omega)
    have h2 := ih (by omega)
    omega

/-- What is too great stays so. -/
theorem valL_mono {l : List UInt8} (h : l.length ≤ digs l) (k : Nat) : ∀ j, k ≤ j → j ≤ l.length → valL (l.take k) ≤ valL (l.take j) := by
  intro j
  induction j with
  | zero => intro h1 _; rw [show k = 0 from by omega]; exact Int.le_refl _
  | succ j ih =>
    intro h1 h2
    by_cases e : k = j + 1
    · rw [e]; exact Int.le_refl _
    · have h3 := ih (by omega) (by omega)
      have h4 := digs_all h j (by omega)
      have h5 := valL_pos h j (by omega)
      rw [List.take_succ_eq_append_getElem (show j < l.length by omega), valL_snoc]
      omega

/-! the reference's digits -/
def tabS : List UInt8 := [48, 49, 50, 51, 52, 53, 54, 55, 56, 57, 97, 98, 99, 100, 101, 102]
def tabG : List UInt8 := [48, 49, 50, 51, 52, 53, 54, 55, 56, 57, 65, 66, 67, 68, 69, 70]

theorem tab_digit : ∀ j : Fin 16, digitV (tabS.getD j.val 0).toNat = j.val ∧ digitV (tabG.getD j.val 0).toNat = j.val := by decide +kernel

theorem tab_none_fin : ∀ c : Fin 256, (∀ j : Fin 16, ((tabS.getD j.val 0).toNat : Int) ≠ c.val ∧ ((tabG.getD j.val 0).toNat : Int) ≠ c.val) → digitV c.val = -1 := by decide +kernel

theorem tab_none (c : Int) (h0 : 0 ≤ c) (h1 : c ≤ 255) (h : ∀ j, j < 16 → ((tabS.getD j 0).toNat : Int) ≠ c ∧ ((tabG.getD j 0).toNat : Int) ≠ c) : digitV c = -1 := by
  obtain ⟨n, rfl⟩ := Int.eq_ofNat_of_zero_le h0
  exact tab_none_fin ⟨n, by omega⟩ (fun j => h j.val j.isLt)

/-- A number's shortest text, in small letters. -/
def hexT (n : Nat) : List UInt8 := if n < 16 then [tabS.getD n 0] else hexT (n / 16) ++ [tabS.getD (n % 16) 0]
decreasing_by omega

theorem digit_tab (d : Nat) (h : d < 16) : digitV (tabS.getD d 0).toNat = d := (tab_digit ⟨d, h⟩).1

theorem digs_snoc (l : List UInt8) (c : UInt8) : (l ++ [c]).length ≤ digs (l ++ [c]) ↔ l.length ≤ digs l ∧ 0 ≤ digitV c.toNat := by
  unfold digs
  induction l with
  | nil => by_cases h : 0 ≤ digitV c.toNat <;> simp [List.takeWhile_cons, isDig, h]
  | cons a l ih =>
    by_cases ha : 0 ≤ digitV a.toNat
    · simp only [List.cons_append, List.takeWhile_cons, isDig, ha, decide_true, if_true, List.length_cons, Nat.add_le_add_iff_right]
      exact ih
    · simp [List.takeWhile_cons, isDig, ha]

theorem hexT_ne (n : Nat) : hexT n ≠ [] := by
  unfold hexT
  split <;> simp

theorem hexT_len (k : Nat) : ∀ n, n < 16 ^ (k + 1) → (hexT n).length ≤ k + 1 := by
  induction k with
  | zero => intro n h; unfold hexT; rw [if_pos (by simpa using h)]; simp
  | succ k ih =>
    intro n h
    unfold hexT
    split
    · simp
    · have h2 : n / 16 < 16 ^ (k + 1) := by rw [Nat.pow_succ] at h; omega
      have := ih (n / 16) h2
      simp; omega

theorem hexT_digs (n : Nat) : (hexT n).length ≤ digs (hexT n) := by
  induction n using Nat.strongRecOn with
  | _ n ih =>
    unfold hexT
    split
    · rename_i h
      have := (digs_snoc [] (tabS.getD n 0)).2 ⟨by simp, by rw [digit_tab n h]; omega⟩
      simpa using this
    · rename_i h
      exact (digs_snoc _ _).2 ⟨ih (n / 16) (by omega), by rw [digit_tab _ (by omega)]; omega⟩

theorem hexT_val (n : Nat) : valL (hexT n) = n := by
  induction n using Nat.strongRecOn with
  | _ n ih =>
    unfold hexT
    split
    · rename_i h
      have h1 : valL [tabS.getD n 0] = 16 * 0 + digitV (tabS.getD n 0).toNat := rfl
      rw [h1, digit_tab n h]; omega
    · rename_i h
      rw [valL_snoc, ih (n / 16) (by omega), digit_tab _ (by omega)]
      omega

/-- What is parsed of a text all of whose bytes are digits. -/
theorem parseV_of {l : List UInt8} (h0 : l ≠ []) (h : l.length ≤ digs l) : parseV l = if valL l ≤ 4611686018427387903 then (valL l, 0) else (0, 3) := by
  unfold parseV
  rw [if_neg (by simp only [not_or]; exact ⟨h0, by omega⟩)]

theorem parseV_hexT (n : Nat) : parseV (hexT n) = if (n : Int) ≤ 4611686018427387903 then ((n : Int), 0) else (0, 3) := by
  rw [parseV_of (hexT_ne n) (hexT_digs n), hexT_val]

theorem parseV_more (n : Nat) (c : UInt8) (h : 0 ≤ digitV c.toNat) : parseV (hexT n ++ [c]) = moreV n c.toNat := by
  have hv : valL (hexT n ++ [c]) = 16 * n + digitV c.toNat := by rw [valL_snoc, hexT_val]
  rw [parseV_of (by simp) ((digs_snoc _ _).2 ⟨hexT_digs n, h⟩), hv]
  unfold moreV
  rw [if_neg (show ¬ digitV c.toNat < 0 by omega)]

end Go.Proofs.YtplcfijcmihhlaaDoor

namespace Go.Proofs.YtplcfijcmihhlaaDoor
open Go.RowKit
set_option linter.unusedVariables false
set_option linter.unusedSimpArgs false

theorem below_bytes (w : World) (e : TypeId) (s : ByteArray) : Below w.heap.size w (Lib.bytesWorld w e s) :=
  ⟨rfl, rfl, rfl, by rw [Lib.bytesWorld_size]; omega, fun k hk => Lib.bytesWorld_at_old w e s k hk⟩

theorem take_snocL (l : List UInt8) (k : Nat) (h : k < l.length) : l.take (k + 1) = l.take k ++ [l[k]] := by rw [List.take_succ_eq_append_getElem h]

/-- What two bytes are as hexadecimal digits. -/
def allDig (l : List UInt8) : Bool := l.all fun c => decide (0 ≤ digitV c.toNat)
theorem valL_two (l : List UInt8) (k : Nat) (hk : k ≤ 1) (hd : allDig (l.take k) = true) : 0 ≤ valL (l.take k) ∧ valL (l.take k) ≤ 15 := by
  cases l with
  | nil => simp [valL]
  | cons a l =>
    rcases Nat.lt_or_ge k 1 with h | h
    · have : k = 0 := by omega
      subst this; simp [valL]
    · have : k = 1 := by omega
      subst this
      have := digitV_bd a.toNat
      simp [allDig] at hd
      simp [valL]; omega
theorem allDig_app (a b : List UInt8) : allDig (a ++ b) = (allDig a && allDig b) := by simp [allDig]
theorem allDig_not (l : List UInt8) (k : Nat) (hk : k < l.length) (h : digitV (l[k].toNat : Int) < 0) : allDig l = false := by
  cases he : allDig l with
  | false => rfl
  | true =>
    have := List.all_eq_true.1 he l[k] (List.getElem_mem hk)
    simp at this; omega
def In16 (s : ByteArray) (W : World) (e : Ending) (w' : World) : Prop :=
  Below W.heap.size W w' ∧ ((allDig s.data.toList = true ∧ e = .returned (.tuple #[.int .u64 (valL s.data.toList), .nilIface])) ∨ (allDig s.data.toList = false ∧ e = .returned (.tuple #[.int .u64 0, .iface 156 (.int .i64 2)])))

set_option maxHeartbeats 2000000 in
set_option maxRecDepth 100000 in
theorem inner16 (s : ByteArray) (hs : s.size = 2) (W : World) :
    Calls Tryd.prog 70 #[.string s, .int .i64 16, .int .i64 8] W (In16 s W) := by
  have hne : (s.toList == ([] : List UInt8)) = false := by
    cases h : s.toList with
    | nil => rw [Lib.toList_data] at h; have : s.data.toList.length = 2 := by simpa using hs
             rw [h] at this; simp at this
    | cons a l => rfl
  have hcv := fun (W : World) => Lib.run_convert_string_bytes (P := Tryd.prog) W 9 25 5 s Tryd.underlying9 Tryd.underlying25 Tryd.underlying5
  go_enter Tryd.func70, Tryd.ntmps70
  go_wp2_with fail
  clear hcv
  have HBW := Lib.hid (below_bytes W 5 s)
  have HCELL := Lib.hid (fun j (hj : j < s.size) => Lib.bytesWorld_cell W 5 s j hj)
  generalize Lib.bytesWorld W 5 s = wb at *
  have hsz : s.data.toList.length = 2 := by simpa using hs
  have Hsz := Lib.hid hsz
  have Hs := Lib.hid hs
  clear hsz hs hne
  have hs2 : (s.size : Int) ≤ 2 := by have := Hs.out; omega
  have hs3 : (2 : Int) ≤ s.size := by have := Hs.out; omega
  go_loop [12, 13, 101] (fun u n i => ∃ k : Nat, k ≤ 2 ∧ u = .bool false ∧ i = .int .i64 k ∧ n = .int .u64 (valL (s.data.toList.take k)) ∧ allDig (s.data.toList.take k) = true) (fun _ _ i => 2 - (intOf i).toNat)
  case atStart => exact ⟨0, by omega, rfl, rfl, by simp [valL], rfl⟩
  case round =>
    obtain ⟨k, hk, rfl, rfl, rfl, hd⟩ := hrel
    have HD := Lib.hid hd
    clear hd
    by_cases hlt : k < 2
    · have hks : k < s.size := by have := Hs.out; omega
      have hlt1 : decide ((k : Int) < (s.size : Int)) = true := by simpa using hks
      have hcell := HCELL.out k hks
      have hkl : k < s.data.toList.length := by have := Hsz.out; omega
      have ec : (s.data.toList.getD k 0) = s.data.toList[k] := by rw [List.getD_eq_getElem?_getD, List.getElem?_eq_getElem hkl]; rfl
      rw [ec] at hcell
      have hx0 : (0 : Int) ≤ (s.data.toList[k].toNat : Int) := Int.natCast_nonneg _
      have hx1 : (s.data.toList[k].toNat : Int) ≤ 255 := by have := s.data.toList[k].toNat_lt; omega
      have HS := Lib.hid (take_snocL s.data.toList k hkl)
      have hv := valL_two s.data.toList k (by omega) HD.out
      clear ec
      have HN := Lib.hid (fun (h : digitV (s.data.toList[k].toNat : Int) < 0) => allDig_not s.data.toList k hkl h)
      have HV := Lib.hid (show valL (s.data.toList.take (k + 1)) = 16 * valL (s.data.toList.take k) + digitV (s.data.toList[k].toNat : Int) by rw [HS.out, valL_snoc])
      have HD1 := Lib.hid (fun (h : 0 ≤ digitV (s.data.toList[k].toNat : Int)) => show allDig (s.data.toList.take (k + 1)) = true by rw [HS.out, allDig_app, HD.out, Bool.true_and]; unfold allDig; rw [List.all_cons, List.all_nil, Bool.and_true, decide_eq_true h])
      generalize (s.data.toList[k].toNat : Int) = x at *
      generalize valL (s.data.toList.take k) = m at *
      obtain ⟨hv0, hv1⟩ := hv
      obtain ⟨hb0, hb1⟩ := or32_bd x hx0 hx1
      have e95 : (x == 95) = true ∨ (x == 95) = false := by cases (x == 95) <;> simp
      by_cases a : 48 ≤ x ∧ x ≤ 57
      · have hd : digitV x = x - 48 := by unfold digitV; rw [if_pos a]
        have Hd := Lib.hid hd
        clear hd
        obtain ⟨a1, a2⟩ := a
        have e95 : (x == 95) = false := by simp; omega
        go_wp2_with fail
        go_round
        case rel => exact ⟨k + 1, by omega, rfl, by go_num, by rw [HV.out, Hd.out]; go_num, HD1.out (by rw [Hd.out]; omega)⟩
        case measure => simp [intOf]; omega
      · by_cases b : 97 ≤ Go.bits .or .u8 x 32 ∧ Go.bits .or .u8 x 32 ≤ 102
        · have hd : digitV x = Go.bits .or .u8 x 32 - 87 := by unfold digitV; rw [if_neg a, if_pos b]
          have Hd := Lib.hid hd
          clear hd
          obtain ⟨b1, b2⟩ := b
          by_cases a1 : 48 ≤ x <;> rcases e95 with e95 | e95
          all_goals
            go_wp2_with (go_at_call 96; refine (Tryd.internal_strconv_lower _ _).mono ?_; rintro e w' ⟨rfl, rfl⟩)
            go_round
            case rel => exact ⟨k + 1, by omega, rfl, by go_num, by rw [HV.out, Hd.out]; go_num, HD1.out (by rw [Hd.out]; omega)⟩
            case measure => simp [intOf]; omega
        · have hd : digitV x = -1 := by unfold digitV; rw [if_neg a, if_neg b]
          have hall := Lib.hid (HN.out (by rw [hd]; omega))
          clear hd
          by_cases a1 : 48 ≤ x <;> by_cases b1 : 97 ≤ Go.bits .or .u8 x 32 <;> by_cases b2 : Go.bits .or .u8 x 32 ≤ 122 <;> rcases e95 with e95 | e95
          all_goals
            go_wp2_with (go_at_call 96; refine (Tryd.internal_strconv_lower _ _).mono ?_; rintro e w' ⟨rfl, rfl⟩)
            all_goals (go_ret2; exact ⟨HBW.out, .inr ⟨hall.out, rfl⟩⟩)
    · go_wp2_with fail
      go_ret2
      have hk2 : k = 2 := by omega
      have ht : s.data.toList.take k = s.data.toList := List.take_of_length_le (by rw [Hsz.out]; omega)
      have hd := HD.out
      rw [ht] at hd ⊢
      exact ⟨HBW.out, .inl ⟨hd, rfl⟩⟩

def Out16 (s : ByteArray) (W : World) (e : Ending) (w' : World) : Prop :=
  Below W.heap.size W w' ∧ ((allDig s.data.toList = true ∧ e = .returned (.tuple #[.int .u64 (valL s.data.toList), .nilIface])) ∨ (allDig s.data.toList = false ∧ ∃ N, e = .returned (.tuple #[.int .u64 0, .iface 158 (.pointer (some ⟨N, 0, none⟩))])))

theorem Tryd.neq_num (w : World) : (binOp .neq 91 (.iface 156 (.int .i64 2)) .nilIface).run Tryd.prog w = .ok (.bool true) w := by kernel_rfl
set_option maxHeartbeats 2000000 in
set_option maxRecDepth 100000 in
theorem Parse16_any (s : ByteArray) (hs : s.size = 2) (ev : Value) (W : World) (hv : W.cell? ⟨2, 0, none⟩ = some ev) (hev : ev = .nilIface ∨ ∃ te pe, ev = .iface te pe) (hg : 2 < W.heap.size) :
    Calls Tryd.prog 45 #[.string s, .int .i64 16, .int .i64 8] W (Out16 s W) := by
  have h1 := Lib.hid (inner16 s hs W)
  have Hs := Lib.hid hs
  have Hv := Lib.hid hv
  have Hev := Lib.hid hev
  clear hs hv hev
  go_enter Tryd.func45, Tryd.ntmps45
  go_wp2_with fail
  refine h1.out.mono ?_; rintro e w1 ⟨hb, ⟨hd, rfl⟩ | ⟨hd, rfl⟩⟩
  · have HD := Lib.hid hd
    clear hd
    dsimp only
    go_wp2_with fail
    go_ret2
    exact ⟨hb, .inl ⟨HD.out, rfl⟩⟩
  · have HD := Lib.hid hd
    clear hd
    dsimp only
    have hT := Lib.hid (Tryd.strconv_toError_syntax ⟨#[80, 97, 114, 115, 101, 85, 105, 110, 116]⟩ s 16 8 ev w1 (by have := Hs.out; omega) ((hb.cell (p := ⟨2, 0, none⟩) hg).trans Hv.out) Hev.out)
    have hnn := Tryd.neq_num
    go_wp2_with fail
    refine hT.out.mono ?_; rintro e w2 ⟨N, rfl, _, _, hb2⟩; dsimp only
    go_wp2_with fail
    go_ret2
    exact ⟨hb.trans (hb2.mono hb.size), .inr ⟨HD.out, N, rfl⟩⟩

end Go.Proofs.YtplcfijcmihhlaaDoor

namespace Go.Proofs.YtplcfijcmihhlaaDoor
open Go.RowKit Go.Sort Go.Lib
set_option linter.unusedVariables false
set_option linter.unusedSimpArgs false

theorem holds_zero0 (w : World) (T : TypeId) (nd : Nat) (hs : nd ≤ 24) : Holds (fun (b : UInt8) => Value.int .u8 (b.toNat : Int)) (w.alloc (.cells Lib.zeros24 T)) w.heap.size 0 (Array.replicate nd (0 : UInt8)) := fun j hj => by
  have hj' : j < nd := by simpa using hj
  refine ⟨?_, World.frozen?_alloc_new _ _ _ _⟩
  rw [World.cell?_alloc_new, Lib.zeros24_at _ (by omega), getElem!_pos _ j hj]
  simp
theorem fin_pos0 (w : World) (o : Obj) (dk : Array UInt8) (k : Nat) : ∃ os, (putRow (fun (b : UInt8) => Value.int .u8 (b.toNat : Int)) (w.alloc o) w.heap.size 0 dk).drewN k = grow (w.drewN k) os := by
  rw [alloc_eq_grow]
  obtain ⟨os', _, e⟩ := putRow_grow_new (fun (b : UInt8) => Value.int .u8 (b.toNat : Int)) w #[o] w.heap.size 0 dk (Nat.le_refl _)
  exact ⟨os', by rw [e]; rfl⟩
theorem below_grow (w : World) (k : Nat) (os : Array Obj) : Below w.heap.size w (grow (w.drewN k) os) :=
  ⟨rfl, rfl, rfl, by simp [grow], fun i hi => by simp [grow, Array.getElem?_append, hi, World.drewN]⟩
theorem tab_below {P : Program} {w w' : World} {name : String} {k : IntKind} {zs : List Int} {n : Nat} (h : TabIs P w name k zs) (hb : Below n w w') (hg : ∀ g, P.globalNamed name = some g → g < n) : TabIs P w' name k zs := by
  unfold TabIs World.var? at *
  cases hq : P.globalNamed name with
  | none => simp [hq] at h
  | some g =>
    simp only [hq, Option.bind_some] at h ⊢
    rw [hb.block g (hg g hq)]
    exact h

set_option maxHeartbeats 4000000 in
set_option maxRecDepth 100000 in
theorem fmt10_inner (u : Nat) (hu64 : u < 18446744073709551616) (w : World) (htab : Lib.TabIs Tryd.prog w "internal/strconv.uint64pow10" .u64 Lib.pow10Tab) :
    Calls Tryd.prog 107 #[.int .u64 u, .int .i64 10] w fun e w' => e = .returned (.string ⟨(Lib.decDigits u).toArray⟩) ∧ Below w.heap.size w w' := by
  by_cases hs : u < 100
  · have hs' : (u : Int) < 100 := by omega
    go_enter Tryd.func107, Tryd.ntmps107
    go_wp2_with (go_at_call 118; refine (Tryd.internal_strconv_small u hs _).mono ?_; rintro e w' ⟨rfl, rfl⟩)
    go_ret
    exact ⟨rfl, Below.refl _ _⟩
  · have hs' : (100 : Int) ≤ (u : Int) := by omega
    have hu1 : 1 ≤ u := by omega
    have hnd20 : Lib.nDigits u ≤ 20 := by have := Lib.numDigits_eq u hu1 hu64; split at this <;> omega
    have hal : Tryd.prog.arrayLen 178 = 24 := by simp [Program.arrayLen, Tryd.underlying178]
    have hsl1 : ∀ W, (Instr.sliceAt 178 (.pointer (some ⟨w.heap.size, 0, none⟩)) none (some (.int .i64 (Lib.nDigits u : Int))) none).run Tryd.prog W = .ok (.slice (some ⟨w.heap.size, 0, none⟩) (Lib.nDigits u) 24) W := fun W => by
      rw [run_sliceAt_array_h W 178 ⟨w.heap.size, 0, none⟩ (by simp [Program.arrayLen, Program.elem, Tryd.underlying178]) .i64 (Lib.nDigits u : Int) (by omega) (by rw [hal]; omega)]
      go_simp
    have hH0 := holds_zero0 w 178 (Lib.nDigits u) (by omega)
    have hfmt := Tryd.internal_strconv_formatBase10 w.heap.size 0 24 u (Array.replicate (Lib.nDigits u) 0) (w.alloc (.cells Lib.zeros24 178)) hH0 (by rw [Array.size_replicate]; exact Lib.lt_pow_nDigits u) hu64 (by rw [Array.size_replicate]; omega)
    rw [Array.size_replicate] at hfmt
    have HH0 := Lib.hid hH0
    have HF := Lib.hid hfmt
    have hn0 : (0 : Int) ≤ (Lib.nDigits u : Int) := Int.natCast_nonneg _
    clear hH0 hal hfmt
    go_enter Tryd.func107, Tryd.ntmps107
    go_wp2_with fail
    refine (Tryd.internal_strconv_numDigits u hu1 hu64 _ (Lib.tabIs_alloc htab _)).mono ?_; rintro e w' ⟨rfl, rfl⟩; dsimp only
    go_wp2_with fail
    refine HF.out.mono ?_
    rintro e w' ⟨rfl, k, v', dk, rfl, hF⟩; dsimp only
    have hcv : (convert 25 9 (.slice (some ⟨w.heap.size, 0, none⟩) (Lib.nDigits u) 24)).run Tryd.prog ((putRow (fun (b : UInt8) => Value.int .u8 (b.toNat : Int)) (w.alloc (.cells Lib.zeros24 178)) w.heap.size 0 dk).drewN k) = .ok (.string ⟨(Lib.decDigits u).toArray⟩) ((putRow (fun (b : UInt8) => Value.int .u8 (b.toNat : Int)) (w.alloc (.cells Lib.zeros24 178)) w.heap.size 0 dk).drewN k) := by
      have h := run_convert_bytes_back (P := Tryd.prog) ((putRow (fun (b : UInt8) => Value.int .u8 (b.toNat : Int)) (w.alloc (.cells Lib.zeros24 178)) w.heap.size 0 dk).drewN k) 25 9 5 ⟨w.heap.size, 0, none⟩ 24 (Lib.decDigits u) Tryd.underlying25 Tryd.underlying5 Tryd.underlying9 (fun j hj => by
        rw [Lib.row_is_numeral hF j hj, Lib.add_plain, World.cell?_drewN]
        exact cell?_putRow (fun (b : UInt8) => Value.int .u8 (b.toNat : Int)) _ w.heap.size 0 _ dk HH0.out (by rw [hF.size, Array.size_replicate]) j (by rw [hF.size]; rw [Lib.decDigits_length] at hj; exact hj))
      rw [Lib.decDigits_length] at h
      exact h
    go_wp2_with fail
    go_ret
    obtain ⟨os, eo⟩ := fin_pos0 w (.cells Lib.zeros24 178) dk k
    refine ⟨rfl, ?_⟩
    have hb := below_grow w k os
    rw [← eo] at hb
    exact hb

theorem FormatUint10 (u : Nat) (hu64 : u < 18446744073709551616) (w : World) (htab : Lib.TabIs Tryd.prog w "internal/strconv.uint64pow10" .u64 Lib.pow10Tab) :
    Calls Tryd.prog 82 #[.int .u64 u, .int .i64 10] w fun e w' => e = .returned (.string ⟨(Lib.decDigits u).toArray⟩) ∧ Below w.heap.size w w' := by
  have h1 := Lib.hid (fmt10_inner u hu64 w htab)
  go_enter Tryd.func82, Tryd.ntmps82
  go_wp2_with fail
  refine h1.out.mono ?_; rintro e w1 ⟨rfl, hb⟩; dsimp only
  have HB := Lib.hid hb
  clear hb
  go_wp2_with fail
  go_ret
  exact ⟨rfl, HB.out⟩

end Go.Proofs.YtplcfijcmihhlaaDoor

namespace Go.Proofs.YtplcfijcmihhlaaDoor
open Go.RowKit
set_option linter.unusedVariables false
set_option linter.unusedSimpArgs false

def isDec (c : UInt8) : Bool := decide (48 ≤ (c.toNat : Int) ∧ (c.toNat : Int) ≤ 57)
def allDec (l : List UInt8) : Bool := l.all isDec
def numStep (p : Int × Bool) (c : UInt8) : Int × Bool :=
  if p.2 = true ∨ p.1 > (4611686018427387903 - ((c.toNat : Int) - 48)) / 10 then (p.1, true) else (10 * p.1 + ((c.toNat : Int) - 48), false)
def numFold (l : List UInt8) : Int × Bool := l.foldl numStep (0, false)
/-- The number that a text says, and what is wrong with it. -/
def numS (l : List UInt8) : Int × Int := if allDec l = true then (if l = [] then (0, 2) else if (numFold l).2 = true then (0, 3) else ((numFold l).1, 0)) else (0, 2)
theorem numFold_snoc (l : List UInt8) (c : UInt8) : numFold (l ++ [c]) = numStep (numFold l) c := by simp [numFold]
theorem allDec_app (a b : List UInt8) : allDec (a ++ b) = (allDec a && allDec b) := by simp [allDec]
theorem allDec_take (l : List UInt8) (n : Nat) (h : allDec l = true) : allDec (l.take n) = true := by
  unfold allDec at *
  rw [List.all_eq_true] at *
  exact fun x hx => h x (List.mem_of_mem_take hx)
theorem numStep_bd (p : Int × Bool) (c : UInt8) (h0 : 0 ≤ p.1) (h1 : p.1 ≤ 4611686018427387903) (hc : isDec c = true) : 0 ≤ (numStep p c).1 ∧ (numStep p c).1 ≤ 4611686018427387903 := by
  unfold isDec at hc
  have := of_decide_eq_true hc
  unfold numStep
  split
  · exact ⟨h0, h1⟩
  · rename_i h
    have h2 : ¬ p.1 > (4611686018427387903 - ((c.toNat : Int) - 48)) / 10 := fun e => h (.inr e)
    constructor
    · show 0 ≤ 10 * p.1 + _; omega
    · show 10 * p.1 + _ ≤ _; omega
theorem ret_ui {a b c d : Int} (h : a = b) (h' : c = d) : Ending.returned (.tuple #[.int .u64 a, .int .i64 c]) = .returned (.tuple #[.int .u64 b, .int .i64 d]) := by rw [h, h']

set_option maxHeartbeats 2000000 in
set_option maxRecDepth 100000 in
theorem Number_any (s : ByteArray) (hs : s.size ≤ 100000) (W : World) :
    Calls Tryd.prog 81 #[.string s] W fun e w' => e = .returned (.tuple #[.int .u64 (numS s.data.toList).1, .int .i64 (numS s.data.toList).2]) ∧ Below W.heap.size W w' := by
  have hcv := fun (W : World) => Lib.run_convert_string_bytes (P := Tryd.prog) W 9 25 5 s Tryd.underlying9 Tryd.underlying25 Tryd.underlying5
  go_enter Tryd.func81, Tryd.ntmps81
  go_wp2_with fail
  clear hcv
  have HBW := Lib.hid (below_bytes W 5 s)
  have HCELL := Lib.hid (fun j (hj : j < s.size) => Lib.bytesWorld_cell W 5 s j hj)
  generalize Lib.bytesWorld W 5 s = wb at *
  have Hsz := Lib.hid (show s.data.toList.length = s.size by simp)
  go_loop [4, 5, 12] (fun n b i => ∃ k : Nat, k ≤ s.size ∧ i = .int .i64 (k : Nat) ∧ n = .int .u64 (numFold (s.data.toList.take k)).1 ∧ b = .bool (numFold (s.data.toList.take k)).2 ∧ Hid (allDec (s.data.toList.take k) = true) ∧ 0 ≤ (numFold (s.data.toList.take k)).1 ∧ (numFold (s.data.toList.take k)).1 ≤ 4611686018427387903) (fun _ _ i => s.size - (intOf i).toNat)
  case atStart => exact ⟨0, by omega, rfl, rfl, rfl, Lib.hid rfl, by simp [numFold], by simp [numFold]⟩
  case round =>
    obtain ⟨k, hk, rfl, rfl, rfl, hD, hn0, hn1⟩ := hrel
    by_cases hlt : k < s.size
    · have hlt1 : decide ((k : Int) < (s.size : Int)) = true := by simpa using hlt
      have hkl : k < s.data.toList.length := by have := Hsz.out; omega
      have hcell := HCELL.out k hlt
      have ec : (s.data.toList.getD k 0) = s.data.toList[k] := by rw [List.getD_eq_getElem?_getD, List.getElem?_eq_getElem hkl]; rfl
      rw [ec] at hcell
      have HS := Lib.hid (take_snocL s.data.toList k hkl)
      clear ec
      have hx0 : (0 : Int) ≤ (s.data.toList[k].toNat : Int) := Int.natCast_nonneg _
      have hx1 : (s.data.toList[k].toNat : Int) ≤ 255 := by have := s.data.toList[k].toNat_lt; omega
      generalize s.data.toList[k] = c at *
      by_cases hc : 48 ≤ (c.toNat : Int) ∧ (c.toNat : Int) ≤ 57
      · have HF := Lib.hid (show numFold (s.data.toList.take (k + 1)) = numStep (numFold (s.data.toList.take k)) c by rw [HS.out, numFold_snoc])
        have HD1 := Lib.hid (show allDec (s.data.toList.take (k + 1)) = true by rw [HS.out, allDec_app, hD.out]; simp [allDec, isDec, hc])
        have hbd := numStep_bd (numFold (s.data.toList.take k)) c hn0 hn1 (by unfold isDec; exact decide_eq_true hc)
        have HBD := Lib.hid hbd
        clear hbd
        obtain ⟨c0, c1⟩ := hc
        have hcases : ((numFold (s.data.toList.take k)).2 = true ∨ (numFold (s.data.toList.take k)).1 > (4611686018427387903 - ((c.toNat : Int) - 48)) / 10) ∨ ¬ ((numFold (s.data.toList.take k)).2 = true ∨ (numFold (s.data.toList.take k)).1 > (4611686018427387903 - ((c.toNat : Int) - 48)) / 10) := Classical.em _
        rcases hcases with hbig | hsm
        · have Hst := Lib.hid (show numStep (numFold (s.data.toList.take k)) c = ((numFold (s.data.toList.take k)).1, true) by unfold numStep; rw [if_pos hbig])
          generalize (numFold (s.data.toList.take k)) = p at *
          obtain ⟨n, b⟩ := p
          dsimp only at hbig hn0 hn1 Hst ⊢
          generalize hx : (c.toNat : Int) = x at *
          clear hx
          cases b with
          | true =>
            clear hbig
            go_wp2_with fail
            go_round
            case rel => exact ⟨k + 1, by omega, by go_num, by rw [HF.out, Hst.out], by rw [HF.out, Hst.out], HD1, by rw [HF.out]; exact HBD.out.1, by rw [HF.out]; exact HBD.out.2⟩
            case measure => simp [intOf]; omega
          | false =>
            have hb2 : n > (4611686018427387903 - (x - 48)) / 10 := by rcases hbig with h | h; cases h; exact h
            have hb4 : decide ((4611686018427387903 - (x - 48)) / 10 < n) = true := decide_eq_true (by omega)
            clear hbig hb2
            go_wp2_with fail
            go_round
            case rel => exact ⟨k + 1, by omega, by go_num, by rw [HF.out, Hst.out], by rw [HF.out, Hst.out], HD1, by rw [HF.out]; exact HBD.out.1, by rw [HF.out]; exact HBD.out.2⟩
            case measure => simp [intOf]; omega
        · have Hst := Lib.hid (show numStep (numFold (s.data.toList.take k)) c = (10 * (numFold (s.data.toList.take k)).1 + ((c.toNat : Int) - 48), false) by unfold numStep; rw [if_neg hsm])
          generalize (numFold (s.data.toList.take k)) = p at *
          obtain ⟨n, b⟩ := p
          dsimp only at hsm hn0 hn1 Hst ⊢
          generalize hx : (c.toNat : Int) = x at *
          clear hx
          cases b with
          | true => exact absurd (.inl rfl) hsm
          | false =>
            have hb2 : n ≤ (4611686018427387903 - (x - 48)) / 10 := by
              rcases Int.lt_or_le ((4611686018427387903 - (x - 48)) / 10) n with h | h
              · exact absurd (.inr h) hsm
              · exact h
            have hb3 : 10 * n + (x - 48) ≤ 4611686018427387903 := by omega
            have hb4 : decide ((4611686018427387903 - (x - 48)) / 10 < n) = false := decide_eq_false (by omega)
            clear hsm hb2
            go_wp2_with fail
            go_round
            case rel => exact ⟨k + 1, by omega, by go_num, by rw [HF.out, Hst.out], by rw [HF.out, Hst.out], HD1, by rw [HF.out]; exact HBD.out.1, by rw [HF.out]; exact HBD.out.2⟩
            case measure => simp [intOf]; omega
      · have HNo := Lib.hid (show numS s.data.toList = (0, 2) by
          unfold numS
          rw [if_neg]
          intro h
          have h2 := allDec_take _ (k + 1) h
          rw [HS.out, allDec_app] at h2
          simp [allDec, isDec, hc] at h2)
        generalize (numFold (s.data.toList.take k)) = p at *
        obtain ⟨n, b⟩ := p
        generalize hx : (c.toNat : Int) = x at *
        clear hx
        by_cases h48 : 48 ≤ x
        all_goals
          go_wp2_with fail
          go_ret2
          exact ⟨ret_ui (by rw [HNo.out]) (by rw [HNo.out]), HBW.out⟩
    · have hks : k = s.size := by omega
      have ht : s.data.toList.take k = s.data.toList := List.take_of_length_le (by rw [Hsz.out]; omega)
      have hd := hD.out
      rw [ht] at hd hn0 hn1 ⊢
      have hnum : numS s.data.toList = if s.data.toList = [] then (0, 2) else if (numFold s.data.toList).2 = true then (0, 3) else ((numFold s.data.toList).1, 0) := by
        unfold numS; rw [if_pos hd]
      have Hn := Lib.hid hnum
      have Hks := Lib.hid hks
      clear hnum hd hks ht hD
      by_cases he : s.data.toList = []
      · have he1 : (s.toList == ([] : List UInt8)) = true := by rw [Lib.toList_data, he]; rfl
        have HN := Lib.hid (show numS s.data.toList = (0, 2) by rw [Hn.out, if_pos he])
        clear he
        generalize (numFold s.data.toList) = p at *
        obtain ⟨n, b⟩ := p
        go_wp2_with fail
        go_ret2
        exact ⟨ret_ui (by rw [HN.out]) (by rw [HN.out]), HBW.out⟩
      · have he1 : (s.toList == ([] : List UInt8)) = false := by rw [Lib.toList_data]; simpa using he
        have HN := Lib.hid (show numS s.data.toList = if (numFold s.data.toList).2 = true then (0, 3) else ((numFold s.data.toList).1, 0) by rw [Hn.out, if_neg he])
        clear he
        generalize (numFold s.data.toList) = p at *
        obtain ⟨n, b⟩ := p
        dsimp only at *
        cases b
        all_goals
          go_wp2_with fail
          go_ret2
          exact ⟨ret_ui (by rw [HN.out]; rfl) (by rw [HN.out]; rfl), HBW.out⟩

end Go.Proofs.YtplcfijcmihhlaaDoor

namespace Go.Proofs.YtplcfijcmihhlaaDoor
open Go.RowKit Go.Proofs.YtplcfijcmihhlaaDoorW.PrintWords
set_option linter.unusedVariables false
set_option linter.unusedSimpArgs false

def hexd (n : Nat) : UInt8 := if n < 10 then UInt8.ofNat (48 + n) else UInt8.ofNat (87 + n)
def hexL (l : List Int) : List UInt8 := l.flatMap fun x => [hexd (x.toNat / 16), hexd (x.toNat % 16)]
def hexS (l : List Int) : ByteArray := if l = [] then ⟨#[45]⟩ else ⟨(hexL l).toArray⟩
theorem hexL_snoc (l : List Int) (x : Int) : hexL (l ++ [x]) = hexL l ++ [hexd (x.toNat / 16), hexd (x.toNat % 16)] := by simp [hexL]
theorem hexL_len (l : List Int) : (hexL l).length = 2 * l.length := by
  induction l with
  | nil => rfl
  | cons a l ih => simp only [hexL, List.flatMap_cons, List.length_append, List.length_cons, List.length_nil] at *; omega
def hexTab : ByteArray := ⟨#[48, 49, 50, 51, 52, 53, 54, 55, 56, 57, 97, 98, 99, 100, 101, 102]⟩
theorem hexTab_at (n : Nat) (h : n < 16) : (hexTab.data[n]?.getD 0) = hexd n := by
  have : ∀ k : Fin 16, (hexTab.data[k.val]?.getD 0) = hexd k.val := by decide
  exact this ⟨n, h⟩
theorem hexd_lt (n : Nat) (h : n < 16) : (hexd n).toNat < 128 := by
  have : ∀ k : Fin 16, (hexd k.val).toNat < 128 := by decide
  exact this ⟨n, h⟩
theorem byteCells_app (a : List UInt8) (b c : UInt8) : Lib.byteCells a ++ [.int .u8 (b.toNat : Int)] ++ [.int .u8 (c.toNat : Int)] = Lib.byteCells (a ++ [b, c]) := by simp [Lib.byteCells]

theorem kd_at {q : IntKind} {w : World} {A : Option Addr} {n : Nat} {xs : List Int} (h : (Kd.int q).C w A n xs) {k : Nat} (hk : k < n) : ∃ ad, A = some ad ∧ w.cell? (ad.add k) = some (.int q (rd xs k)) := by
  obtain ⟨ad, e, hc⟩ := Kd.at_int h (k : Int) (by omega) (by omega)
  rw [Int.toNat_natCast] at hc
  exact ⟨ad, e, hc⟩
theorem rd_get {xs : List Int} {k : Nat} (hk : k < xs.length) : rd xs (k : Int) = xs[k] := by simp [rd, List.getD_eq_getElem?_getD, hk]

theorem shr4 (x : Int) (h0 : 0 ≤ x) (h1 : x ≤ 255) : IntKind.u8.wrap (x / 16) = x / 16 := IntWalk.u8_in _ (by omega)

set_option maxHeartbeats 1000000 in
set_option maxRecDepth 100000 in
theorem Hex_any {A : Option Addr} {c : Nat} {l : List Int} {W : World} (hr : Kd.C (Kd.int .u8) W A l.length l) (hb : ∀ x ∈ l, 0 ≤ x ∧ x ≤ 255) (hl : l.length ≤ 1000000) :
    Calls Tryd.prog 19 #[.slice A l.length c] W fun e w' => e = .returned (.string (hexS l)) ∧ Below W.heap.size W w' := by
  by_cases h0 : l = []
  · subst h0
    go_enter Tryd.func19, Tryd.ntmps19
    go_wp2_with fail
    go_ret
    exact ⟨rfl, Below.refl _ _⟩
  · have hpos : ((l.length : Int) == 0) = false := by
      have : l.length ≠ 0 := by simpa using h0
      simp; omega
    go_enter Tryd.func19, Tryd.ntmps19
    go_wp2_with fail
    have HF := Lib.hid (Bld.fresh W)
    go_loopw [11] (fun i wr => ∃ k v, k ≤ l.length ∧ i = .int .i64 (k : Nat) ∧ Hid (Bld W.heap.size W.heap.size v (Lib.byteCells (hexL (l.take k))) wr) ∧ Hid (Below W.heap.size W wr)) (fun i _ => l.length - (intOf i).toNat)
    case atStart => exact ⟨0, _, Nat.zero_le _, rfl, HF, Lib.hid ((Below.refl _ _).alloc (Nat.le_refl _) _)⟩
    case round =>
      obtain ⟨k, v, hk, rfl, hB, hW⟩ := hrel
      by_cases hlt : k < l.length
      · have hlt' : decide ((k : Int) < (l.length : Int)) = true := by simpa using hlt
        obtain ⟨ad, eA, hcell⟩ := kd_at (Kd.C_below hr hW.out) hlt
        subst eA
        have hx : 0 ≤ rd l k ∧ rd l k ≤ 255 := by
          rw [rd_get hlt]; exact hb _ (List.getElem_mem hlt)
        have p1 : (0 : Int) ≤ (k : Int) := Int.natCast_nonneg k
        have p2 : (k : Int) < (l.length : Int) := by omega
        obtain ⟨x0, x1⟩ := hx
        have hx2 := rd_get hlt
        generalize rd l (k : Int) = x at *
        have Hx2 := Lib.hid hx2.symm
        clear hx2
        have hlen := hexL_len (l.take k)
        have hlk : (l.take k).length ≤ k := List.length_take_le _ _
        have hz := hW.out.size
        go_wp2_with fail
        refine (WriteByte_any _ hB.out (by simp [Lib.byteCells]; omega) hz).mono ?_; rintro e w1 ⟨rfl, v1, hB1, t1⟩; dsimp only
        have hz1 := t1.size
        have HB1 := Lib.hid hB1
        have HT1 := Lib.hid t1
        clear hB1 t1
        go_wp2_with fail
        refine (WriteByte_any _ HB1.out (by simp [Lib.byteCells]; omega) (by omega)).mono ?_; rintro e w2 ⟨rfl, v2, hB2, t2⟩; dsimp only
        have hz2 := t2.size
        have HB2 := Lib.hid hB2
        have HT2 := Lib.hid t2
        clear hB2 t2
        go_wp2_with fail
        have key : ∀ (i : Nat) (h : i < (⟨#[48, 49, 50, 51, 52, 53, 54, 55, 56, 57, 97, 98, 99, 100, 101, 102]⟩ : ByteArray).size), ((⟨#[48, 49, 50, 51, 52, 53, 54, 55, 56, 57, 97, 98, 99, 100, 101, 102]⟩ : ByteArray)[i]'h) = hexd i := by decide
        have hB3 := HB2.out
        simp only [key] at hB3
        have e3 : hexL (l.take (k + 1)) = hexL (l.take k) ++ [hexd (x / 16).toNat, hexd (x % 16).toNat] := by
          rw [List.take_succ_eq_append_getElem hlt, hexL_snoc, Hx2.out]
          have i1 : (x / 16).toNat = x.toNat / 16 := by omega
          have i2 : (x % 16).toNat = x.toNat % 16 := by omega
          rw [i1, i2]
        rw [byteCells_app, ← e3] at hB3
        have HB3 := Lib.hid hB3
        have HW3 := Lib.hid (hW.out.trans ((BT.below HT1.out hB.out hz).trans (BT.below HT2.out HB1.out (by omega))))
        clear hB3 e3 key
        go_roundw
        case rel => exact ⟨k + 1, v2, by omega, rfl, HB3, HW3⟩
        case measure => simp [intOf]; omega
      · have hz := hW.out.size
        have hk' : k = l.length := by omega
        have HC := Lib.hid (Tryd.Builder_String_any _ _ _ _ hB.out.is hz)
        go_wp2_with fail
        refine HC.out.mono ?_; rintro e w1 ⟨rfl, hb1⟩; dsimp only
        go_wp2_with fail
        go_ret
        refine ⟨ret_str ?_, hW.out.trans hb1⟩
        rw [hk', List.take_length]; simp [hexS, h0]

end Go.Proofs.YtplcfijcmihhlaaDoor

namespace Go.Proofs.YtplcfijcmihhlaaDoor
open Go.RowKit Go.Proofs.YtplcfijcmihhlaaDoorW.PrintWords
set_option linter.unusedVariables false
set_option linter.unusedSimpArgs false

def pairV (a b : UInt8) : Int := 16 * digitV a.toNat + digitV b.toNat
def pairs : List UInt8 → List Int
  | a :: b :: r => pairV a b :: pairs r
  | _ => []
/-- A word's bytes. -/
def bytesS (s : ByteArray) : Option (List Int) :=
  if s.data.toList = [45] then some [] else
    if allDig (s.data.toList.take (2 * (s.size / 2))) = true ∧ hexS (pairs s.data.toList) = s then some (pairs s.data.toList) else none

theorem pairs_step : ∀ (l : List UInt8) (k : Nat) {x y : UInt8} (hx : l[2 * k]? = some x) (hy : l[2 * k + 1]? = some y), pairs (l.take (2 * (k + 1))) = pairs (l.take (2 * k)) ++ [pairV x y]
  | [], k, x, y, hx, hy => by simp at hx
  | [a], 0, x, y, hx, hy => by simp at hy
  | [a], k + 1, x, y, hx, hy => by simp at hx
  | a :: b :: r, 0, x, y, hx, hy => by simp at hx hy; subst hx; subst hy; simp [pairs]
  | a :: b :: r, k + 1, x, y, hx, hy => by
    have ih := pairs_step r k (x := x) (y := y) (by rw [← hx]; rfl) (by rw [← hy]; rfl)
    rw [show 2 * (k + 1 + 1) = 2 * (k + 1) + 2 by omega, show 2 * (k + 1) = 2 * k + 2 by omega]
    simp only [List.take_succ_cons, pairs, List.cons_append, List.cons.injEq, true_and]
    rw [show 2 * k + 2 = 2 * (k + 1) by omega, ih]
theorem extract_two (s : ByteArray) (m : Nat) {x y : UInt8} (hx : s.data.toList[m]? = some x) (hy : s.data.toList[m + 1]? = some y) : (s.extract m (m + 2)).data.toList = [x, y] := by
  have hl : m + 1 < s.data.toList.length := (List.getElem?_eq_some_iff.1 hy).1
  have e : (s.extract m (m + 2)).data.toList = (s.data.toList.drop m).take 2 := by
    rw [ByteArray.data_extract, Array.toList_extract]
    simp [List.extract_eq_take_drop]
  rw [e]
  have h1 : s.data.toList.drop m = x :: y :: s.data.toList.drop (m + 2) := by
    rw [List.drop_eq_getElem_cons (by omega), List.drop_eq_getElem_cons hl]
    rw [List.getElem?_eq_getElem (by omega)] at hx
    rw [List.getElem?_eq_getElem hl] at hy
    injection hx with hx; injection hy with hy
    rw [hx, hy]
  rw [h1]; rfl
theorem pairs_len : ∀ (l : List UInt8), (pairs l).length = l.length / 2
  | [] => rfl
  | [a] => by simp [pairs]
  | a :: b :: r => by simp only [pairs, List.length_cons]; rw [pairs_len r]; omega
theorem pairs_take : ∀ (l : List UInt8), pairs (l.take (2 * (l.length / 2))) = pairs l
  | [] => rfl
  | [a] => by simp [pairs]
  | a :: b :: r => by
    rw [show 2 * ((a :: b :: r).length / 2) = 2 * (r.length / 2) + 2 by simp only [List.length_cons]; omega]
    simp only [List.take_succ_cons, pairs]; rw [pairs_take r]
theorem pairV_bd {a b : UInt8} (ha : 0 ≤ digitV a.toNat) (hb : 0 ≤ digitV b.toNat) : 0 ≤ pairV a b ∧ pairV a b ≤ 255 := by
  have := digitV_bd a.toNat
  have := digitV_bd b.toNat
  unfold pairV; omega
theorem allDig_two (a b : UInt8) : allDig [a, b] = true → 0 ≤ digitV a.toNat ∧ 0 ≤ digitV b.toNat := by
  intro h; simp [allDig] at h; exact h
theorem pairs_bd : ∀ (l : List UInt8), allDig (l.take (2 * (l.length / 2))) = true → ∀ x ∈ pairs l, 0 ≤ x ∧ x ≤ 255
  | [], _, x, h => by cases h
  | [a], _, x, h => by cases h
  | a :: b :: r, hd, x, h => by
    rw [show 2 * ((a :: b :: r).length / 2) = 2 * (r.length / 2) + 2 by simp only [List.length_cons]; omega] at hd
    simp only [List.take_succ_cons] at hd
    rw [show a :: b :: r.take (2 * (r.length / 2)) = [a, b] ++ r.take (2 * (r.length / 2)) from rfl, allDig_app, Bool.and_eq_true] at hd
    rcases List.mem_cons.1 h with rfl | h
    · exact pairV_bd (allDig_two a b hd.1).1 (allDig_two a b hd.1).2
    · exact pairs_bd r hd.2 x h

theorem allDig_take (l : List UInt8) (n : Nat) (h : allDig l = true) : allDig (l.take n) = true := by
  unfold allDig at *
  rw [List.all_eq_true] at *
  exact fun x hx => h x (List.mem_of_mem_take hx)
theorem toList_eq (s : ByteArray) : s.toList = s.data.toList := Lib.toList_data s
theorem Tryd.neq_numi (N : Nat) (w : World) : (binOp .neq 91 (.iface 158 (.pointer (some ⟨N, 0, none⟩))) .nilIface).run Tryd.prog w = .ok (.bool true) w := by kernel_rfl
set_option maxHeartbeats 2000000 in
set_option maxRecDepth 100000 in
theorem Bytes_any (s : ByteArray) (hs : s.size ≤ 100000) (ev : Value) (W : World) (hv : W.cell? ⟨2, 0, none⟩ = some ev) (hev : ev = .nilIface ∨ ∃ te pe, ev = .iface te pe) (hg : 2 < W.heap.size) :
    Calls Tryd.prog 20 #[.string s] W fun e w' => ∃ v, e = .returned (.tuple #[v, .bool (bytesS s).isSome]) ∧ Kd.R (Kd.int .u8) 5 w' W.heap.size (fun _ => True) v ((bytesS s).getD []) ∧ Below W.heap.size W w' := by
  have Hev := Lib.hid hev
  have Hv := Lib.hid hv
  clear hev hv
  by_cases hd : s.toList = [45]
  · have hne : (s.toList == [45]) = true := by simpa using hd
    have HH := Lib.hid (Hex_any (A := none) (c := 0) (l := []) (W := W) ⟨rfl, by decide, fun h => by simp at h⟩ (by simp) (by simp))
    have e1 : ((hexS []).toList == s.toList) = true := by rw [hd, toList_eq]; rfl
    have Hr : Hid (bytesS s = some []) := Lib.hid (by unfold bytesS; rw [if_pos (by rw [← toList_eq]; exact hd)])
    clear hd
    go_enter Tryd.func20, Tryd.ntmps20
    go_wp2_with fail
    refine HH.out.mono ?_; rintro e w1 ⟨rfl, hb1⟩; dsimp only
    have HB1 := Lib.hid hb1
    clear hb1
    go_wp2_with fail
    go_ret2
    rw [Hr.out]
    exact ⟨_, rfl, Kd.R_nil _ _ _ _ _, HB1.out⟩
  · have hne : (s.toList == [45]) = false := by simpa using hd
    go_enter Tryd.func20, Tryd.ntmps20
    go_wp2_with fail
    go_loopw [4, 5] (fun o i wr => ∃ k m : Nat, m ≤ s.size ∧ i = .int .i64 (m : Nat) ∧ Hid (m = 2 * k) ∧ Hid (allDig (s.data.toList.take (2 * k)) = true) ∧ Hid (Kd.R (Kd.int .u8) 5 wr W.heap.size (fun _ => True) o (pairs (s.data.toList.take (2 * k)))) ∧ Hid (Below W.heap.size W wr)) (fun _ i _ => s.size - (intOf i).toNat)
    case atStart => exact ⟨0, 0, by omega, rfl, Lib.hid rfl, Lib.hid rfl, Lib.hid (Kd.R_nil _ _ _ _ _), Lib.hid (Below.refl _ _)⟩
    case round =>
      obtain ⟨k, m, hk, rfl, Hm, hD, hR, hW⟩ := hrel
      by_cases hlt : m + 1 < s.size
      · have p1 : (0 : Int) ≤ (m : Int) := Int.natCast_nonneg _
        have p2 : (m : Int) ≤ (m : Int) + 2 := by omega
        have p3 : (m : Int) + 2 ≤ (s.size : Int) := by omega
        have p4 : (0 : Int) ≤ (m : Int) + 2 := by omega
        go_wp2_with fail
        obtain ⟨x, hx⟩ : ∃ x, s.data.toList[m]? = some x := ⟨_, List.getElem?_eq_getElem (by simp; omega)⟩
        obtain ⟨y, hy⟩ : ∃ y, s.data.toList[m + 1]? = some y := ⟨_, List.getElem?_eq_getElem (by simp; omega)⟩
        have he := extract_two s m hx hy
        have hsz : (s.extract m (m + 2)).size = 2 := by rw [ByteArray.size_extract]; omega
        have HP := Lib.hid (Parse16_any (s.extract m (m + 2)) hsz ev wr ((hW.out.cell (p := ⟨2, 0, none⟩) hg).trans Hv.out) Hev.out (Nat.lt_of_lt_of_le hg hW.out.size))
        have Hx := Lib.hid hx
        have Hy := Lib.hid hy
        have He := Lib.hid he
        clear hx hy he hsz
        refine HP.out.mono ?_; rintro e w1 ⟨hb1, ⟨hd1, rfl⟩ | ⟨hd1, N, rfl⟩⟩
        · rw [He.out] at hd1 ⊢
          have hxy := allDig_two x y hd1
          have hpv := pairV_bd hxy.1 hxy.2
          have hval : valL [x, y] = pairV x y := by simp [valL, pairV]
          have HSt := Lib.hid (pairs_step s.data.toList k (x := x) (y := y) (by rw [← Hm.out]; exact Hx.out) (by rw [← Hm.out]; exact Hy.out))
          have HD1 := Lib.hid (show allDig (s.data.toList.take (2 * (k + 1))) = true by
            rw [show 2 * (k + 1) = 2 * k + 1 + 1 by omega, List.take_add_one, List.take_add_one, ← Hm.out, Hx.out, Hy.out, allDig_app, allDig_app, Hm.out, hD.out]
            simpa [allDig] using hd1)
          rw [hval]
          have HB1 := Lib.hid hb1
          clear hd1 hxy hval hb1
          generalize pairV x y = pv at *
          obtain ⟨q0, q1⟩ := hpv
          dsimp only
          have HO := Kd.R_below hR.out HB1.out
          have HB := hW.out.trans (HB1.out.mono hW.out.size)
          have hz := HB.size
          have hlen : (pairs (s.data.toList.take (2 * k))).length ≤ 100000 := by
            rw [pairs_len]; have h2 := List.length_take_le' (2 * k) s.data.toList; have h3 : s.data.toList.length = s.size := by simp
            omega
          clear hR hW
          go_wp2_with (at_builtin; go_loud (refine Kd.R_append (w0 := W) (Kd.int .u8) W.heap.size rfl _ _ 25 5 (.int .u8 0) 1 rfl Tryd.underlying25 Tryd.bld_info8 rfl (by decide) (by decide) u4 (pairs (s.data.toList.take (2 * k))) pv [.int .u8 pv] (fun _ => True) (fun _ => False) rfl rfl rfl (fun k h => h.elim) (fun _ _ => trivial) HO HB hz (by omega) ?_))
          intro v1 w2 hO1 hB1 _ _
          have HO1 := Lib.hid hO1
          have HB1' := Lib.hid hB1
          clear hO1 hB1 HO HB
          go_wp2_with fail
          go_roundw
          case rel => exact ⟨k + 1, m + 2, by omega, rfl, Lib.hid (by have := Hm.out; omega), HD1, by rw [HSt.out]; exact HO1, HB1'⟩
          case measure => simp [intOf]; omega
        · have HD1 := Lib.hid hd1
          have HB1 := Lib.hid hb1
          clear hd1 hb1
          dsimp only
          have hni := Tryd.neq_numi N
          go_wp2_with fail
          go_ret2
          have hno : bytesS s = none := by
            unfold bytesS
            rw [if_neg (by rw [← toList_eq]; exact hd), if_neg]
            rintro ⟨h1, _⟩
            have h2 := allDig_take (s.data.toList.take (2 * (s.size / 2))) (2 * k + 2) h1
            rw [List.take_take, Nat.min_eq_left (by have := Hm.out; omega), show 2 * k + 2 = 2 * k + 1 + 1 by omega, List.take_add_one, List.take_add_one, ← Hm.out, Hx.out, Hy.out, allDig_app, allDig_app] at h2
            have h3 := HD1.out
            rw [He.out] at h3
            simp [allDig] at h2 h3
            have := h3 h2.1.2; omega
          rw [hno]
          exact ⟨_, rfl, Kd.R_nil _ _ _ _ _, hW.out.trans (HB1.out.mono hW.out.size)⟩
      · have hke : 2 * k = 2 * (s.size / 2) := by have := Hm.out; omega
        have hks : s.data.toList.length = s.size := by simp
        have hd1 : allDig (s.data.toList.take (2 * (s.size / 2))) = true := by rw [← hke]; exact hD.out
        have hp : pairs (s.data.toList.take (2 * k)) = pairs s.data.toList := by rw [hke, ← hks]; exact pairs_take _
        have hbd := pairs_bd s.data.toList (by rw [hks]; exact hd1)
        have hR' := hR.out
        rw [hp] at hR'
        obtain ⟨A, c, rfl, hlc, hC⟩ := Kd.R_reads hR'
        have hpl : (pairs s.data.toList).length ≤ 1000000 := by rw [pairs_len]; omega
        have HH := Lib.hid (Hex_any (c := c) hC hbd hpl)
        have HR := Lib.hid hR'
        have hfin : bytesS s = if hexS (pairs s.data.toList) = s then some (pairs s.data.toList) else none := by
          unfold bytesS
          rw [if_neg (by rw [← toList_eq]; exact hd)]
          by_cases e : hexS (pairs s.data.toList) = s
          · rw [if_pos ⟨hd1, e⟩, if_pos e]
          · rw [if_neg (fun h => e h.2), if_neg e]
        have Hfin := Lib.hid hfin
        clear hR hR' hC hbd hp hd1 hks hke hfin
        by_cases e : hexS (pairs s.data.toList) = s
        · have He := Lib.hid e
          have e1 : ((hexS (pairs s.data.toList)).toList == s.toList) = true := by rw [e]; simp
          have Hr : Hid (bytesS s = some (pairs s.data.toList)) := Lib.hid (by rw [Hfin.out, if_pos e])
          clear e Hfin
          go_wp2_with fail
          refine HH.out.mono ?_; rintro e w1 ⟨rfl, hb1⟩; dsimp only
          have HB1 := Lib.hid hb1
          clear hb1
          go_wp2_with fail
          go_ret2
          rw [Hr.out]
          exact ⟨_, rfl, Kd.R_below HR.out HB1.out, hW.out.trans (HB1.out.mono hW.out.size)⟩
        · have e1 : ((hexS (pairs s.data.toList)).toList == s.toList) = false := by
            simp only [beq_eq_false_iff_ne, ne_eq]
            intro h
            rw [toList_eq, toList_eq] at h
            exact e (WideShapes.bytes_inj h)
          have Hr : Hid (bytesS s = none) := Lib.hid (by rw [Hfin.out, if_neg e])
          clear e Hfin
          go_wp2_with fail
          refine HH.out.mono ?_; rintro e w1 ⟨rfl, hb1⟩; dsimp only
          have HB1 := Lib.hid hb1
          clear hb1
          go_wp2_with fail
          go_ret2
          rw [Hr.out]
          exact ⟨_, rfl, Kd.R_nil _ _ _ _ _, hW.out.trans (HB1.out.mono hW.out.size)⟩

end Go.Proofs.YtplcfijcmihhlaaDoor

namespace Go.Proofs.YtplcfijcmihhlaaDoor
open Go.RowKit Go.Proofs.YtplcfijcmihhlaaDoorW.PrintWords
set_option linter.unusedVariables false
set_option linter.unusedSimpArgs false
attribute [local go_sem] Oper.semAt_some

def strL (l : List UInt8) : ByteArray := ⟨l.toArray⟩
theorem strL_app (a b : List UInt8) : strL a ++ strL b = strL (a ++ b) := by
  apply WideShapes.bytes_inj
  rw [ByteArray.data_append]
  simp [strL]
theorem hex_sub (n : Nat) (h : n < 16) : (⟨#[48, 49, 50, 51, 52, 53, 54, 55, 56, 57, 97, 98, 99, 100, 101, 102]⟩ : ByteArray).extract n (n + 1) = strL [hexd n] := by
  apply WideShapes.bytes_inj
  have : ∀ k : Fin 16, ((⟨#[48, 49, 50, 51, 52, 53, 54, 55, 56, 57, 97, 98, 99, 100, 101, 102]⟩ : ByteArray).extract k.val (k.val + 1)).data.toList = [hexd k.val] := by decide
  exact this ⟨n, h⟩

set_option maxHeartbeats 1000000 in
set_option maxRecDepth 100000 in
theorem RHex_any {A : Option Addr} {c : Nat} {l : List Int} {W : World} (hr : Kd.C (Kd.int .u8) W A l.length l) (hb : ∀ x ∈ l, 0 ≤ x ∧ x ≤ 255) (hl : l.length ≤ 1000000) :
    Calls Tryd.prog 22 #[.slice A l.length c] W fun e w' => e = .returned (.string (hexS l)) ∧ Below W.heap.size W w' := by
  go_enter Tryd.func22, Tryd.ntmps22
  go_wp2_with fail
  go_loopw [4, 5] (fun s i wr => ∃ k, k ≤ l.length ∧ i = .int .i64 (k : Nat) ∧ s = .string (strL (hexL (l.take k))) ∧ Hid (Below W.heap.size W wr)) (fun _ i _ => l.length - (intOf i).toNat)
  case atStart => exact ⟨0, Nat.zero_le _, rfl, rfl, Lib.hid (Below.refl _ _)⟩
  case round =>
    obtain ⟨k, hk, rfl, rfl, hW⟩ := hrel
    by_cases hlt : k < l.length
    · have hlt' : decide ((k : Int) < (l.length : Int)) = true := by simpa using hlt
      obtain ⟨ad, eA, hcell⟩ := kd_at (Kd.C_below hr hW.out) hlt
      subst eA
      have hx : 0 ≤ rd l k ∧ rd l k ≤ 255 := by
        rw [rd_get hlt]; exact hb _ (List.getElem_mem hlt)
      have p1 : (0 : Int) ≤ (k : Int) := Int.natCast_nonneg k
      have p2 : (k : Int) < (l.length : Int) := by omega
      obtain ⟨x0, x1⟩ := hx
      have hx2 := rd_get hlt
      generalize rd l (k : Int) = x at *
      have Hx2 := Lib.hid hx2.symm
      clear hx2
      go_wp2_with fail
      go_region
      obtain ⟨a, ha⟩ : ∃ a : Nat, x / 16 = (a : Int) := ⟨(x / 16).toNat, by omega⟩
      obtain ⟨b, hb2⟩ : ∃ b : Nat, x % 16 = (b : Int) := ⟨(x % 16).toNat, by omega⟩
      have ha16 : a < 16 := by omega
      have hb16 : b < 16 := by omega
      have hia : x.toNat / 16 = a := by omega
      have hib : x.toNat % 16 = b := by omega
      rw [ha, hb2]
      have e3 : hexL (l.take (k + 1)) = hexL (l.take k) ++ [hexd a] ++ [hexd b] := by
        rw [List.take_succ_eq_append_getElem hlt, hexL_snoc, Hx2.out, hia, hib, List.append_assoc]; rfl
      have E3 := Lib.hid e3
      clear ha hb2 hia hib e3
      have hlk : (l.take k).length ≤ k := List.length_take_le _ _
      have q0 : (strL (hexL (l.take k))).size = 2 * (l.take k).length := by
        show (hexL (l.take k)).toArray.size = _
        rw [List.size_toArray, hexL_len]
      have q1 : (strL (hexL (l.take k))).size + ((⟨#[48, 49, 50, 51, 52, 53, 54, 55, 56, 57, 97, 98, 99, 100, 101, 102]⟩ : ByteArray).extract a (a + 1)).size ≤ 9223372036854775807 := by
        rw [q0, hex_sub a ha16]; show 2 * (l.take k).length + 1 ≤ _; omega
      have q2 : (strL (hexL (l.take k)) ++ (⟨#[48, 49, 50, 51, 52, 53, 54, 55, 56, 57, 97, 98, 99, 100, 101, 102]⟩ : ByteArray).extract a (a + 1)).size + ((⟨#[48, 49, 50, 51, 52, 53, 54, 55, 56, 57, 97, 98, 99, 100, 101, 102]⟩ : ByteArray).extract b (b + 1)).size ≤ 9223372036854775807 := by
        rw [ByteArray.size_append, q0, hex_sub a ha16, hex_sub b hb16]; show 2 * (l.take k).length + 1 + 1 ≤ _; omega
      have j1 : (a : Int) ≤ (a : Int) + 1 := by omega
      have j2 : (a : Int) + 1 ≤ 16 := by omega
      have j3 : (b : Int) ≤ (b : Int) + 1 := by omega
      have j4 : (b : Int) + 1 ≤ 16 := by omega
      have j5 : (0 : Int) ≤ (a : Int) := by omega
      have j6 : (0 : Int) ≤ (b : Int) := by omega
      go_wp2_with fail
      go_region
      go_wp2_with fail
      go_roundw
      case rel => 
        refine ⟨k + 1, by omega, by go_num, ?_, Lib.hid hW.out.drew.drew⟩
        rw [hex_sub a ha16, hex_sub b hb16, strL_app, strL_app, E3.out]
      case measure => simp [intOf]; omega
    · have hk' : k = l.length := by omega
      have hlt' : decide ((k : Int) < (l.length : Int)) = false := by simpa using hlt
      rw [hk', List.take_length]
      have hs : ((strL (hexL l)).size : Int) = 2 * (l.length : Int) := by
        show (((hexL l).toArray.size : Nat) : Int) = _
        rw [List.size_toArray, hexL_len]; omega
      have Hs := Lib.hid hs
      by_cases h0 : l = []
      · subst h0
        clear hs hlt'
        go_wp2_with fail
        go_ret
        exact ⟨rfl, hW.out⟩
      · have hpos : (2 * (l.length : Int) == 0) = false := by
          have : l.length ≠ 0 := by simpa using h0
          simp; omega
        clear hk' 
        go_wp2_with fail
        go_ret
        exact ⟨ret_str (by unfold hexS; rw [if_neg h0]; rfl), hW.out⟩

end Go.Proofs.YtplcfijcmihhlaaDoor

namespace Go.Proofs.YtplcfijcmihhlaaDoor
open Go.RowKit Go.Proofs.YtplcfijcmihhlaaDoorW.PrintWords
set_option linter.unusedVariables false
set_option linter.unusedSimpArgs false

def pickI (c : UInt8) : Int := if c = 114 then 0 else if c = 119 then 1 else if c = 116 then 2 else -1
def turnsV (l : List UInt8) : List Int := l.map pickI
def allPick (l : List UInt8) : Bool := l.all fun c => decide (0 ≤ pickI c)
theorem pick_index (c : UInt8) : Lib.indexByte [114, 119, 116] c = pickI c := by
  unfold pickI
  by_cases h1 : c = 114
  · subst h1; rfl
  · by_cases h2 : c = 119
    · subst h2; rfl
    · by_cases h3 : c = 116
      · subst h3; rfl
      · rw [if_neg h1, if_neg h2, if_neg h3]
        have e1 : (114 == c) = false := by simp only [beq_eq_false_iff_ne, ne_eq]; exact fun h => h1 h.symm
        have e2 : (119 == c) = false := by simp only [beq_eq_false_iff_ne, ne_eq]; exact fun h => h2 h.symm
        have e3 : (116 == c) = false := by simp only [beq_eq_false_iff_ne, ne_eq]; exact fun h => h3 h.symm
        simp [Lib.indexByte, e1, e2, e3]
theorem pickI_bd (c : UInt8) : -1 ≤ pickI c ∧ pickI c ≤ 2 := by unfold pickI; split <;> (try split) <;> (try split) <;> omega
theorem allPick_app (a b : List UInt8) : allPick (a ++ b) = (allPick a && allPick b) := by simp [allPick]

theorem ret_vb {v v' : Value} {a b : Bool} (hv : v = v') (h : a = b) : Ending.returned (.tuple #[v, .bool a]) = .returned (.tuple #[v', .bool b]) := by rw [hv, h]

def TurnsP (s : ByteArray) (W : World) (e : Ending) (w' : World) : Prop :=
  Below W.heap.size W w' ∧ ((allPick s.data.toList = true ∧ ∃ v, e = .returned (.tuple #[v, .bool (decide (0 < s.size ∧ s.size ≤ 60))]) ∧ Kd.R (Kd.int .i64) 3 w' W.heap.size (fun _ => True) v (turnsV s.data.toList)) ∨
    (allPick s.data.toList = false ∧ e = .returned (.tuple #[.slice none 0 0, .bool false])))

theorem Tryd.info_i64 : (Tryd.prog.info? 3).map (fun i => (i.zero, i.size, i.bytes)) = some (some (.int .i64 0), 1, 8) := by kernel_rfl

set_option maxHeartbeats 2000000 in
set_option maxRecDepth 100000 in
theorem turns_any (s : ByteArray) (hs : s.size ≤ 100000) (W : World) :
    Calls Tryd.prog 84 #[.string s] W (TurnsP s W) := by
  have hcv := fun (W : World) => Lib.run_convert_string_bytes (P := Tryd.prog) W 9 25 5 s Tryd.underlying9 Tryd.underlying25 Tryd.underlying5
  go_enter Tryd.func84, Tryd.ntmps84
  go_wp2_with fail
  clear hcv
  have HBW := Lib.hid (below_bytes W 5 s)
  have HCELL := Lib.hid (fun j (hj : j < s.size) => Lib.bytesWorld_cell W 5 s j hj)
  have hW1 := Lib.bytesWorld_size W 5 s
  generalize Lib.bytesWorld W 5 s = wb at *
  have Hsz := Lib.hid (show s.data.toList.length = s.size by simp)
  go_loopw [4, 11] (fun o i wr => ∃ k : Nat, k ≤ s.size ∧ i = .int .i64 (k : Nat) ∧ Hid (allPick (s.data.toList.take k) = true) ∧ Hid (Kd.R (Kd.int .i64) 3 wr W.heap.size (fun k => k ≠ W.heap.size) o (turnsV (s.data.toList.take k))) ∧ Hid (Below W.heap.size W wr) ∧ Hid (wr.heap[W.heap.size]? = wb.heap[W.heap.size]?)) (fun _ i _ => s.size - (intOf i).toNat)
  case atStart => exact ⟨0, by omega, rfl, Lib.hid rfl, Lib.hid (Kd.R_nil _ _ _ _ _), HBW, Lib.hid rfl⟩
  case round =>
    obtain ⟨k, hk, rfl, hD, hR, hW, hC⟩ := hrel
    by_cases hlt : k < s.size
    · have hlt1 : decide ((k : Int) < (s.size : Int)) = true := by simpa using hlt
      have hkl : k < s.data.toList.length := by have := Hsz.out; omega
      have hcell := (World.cell?_of_block (a := ⟨W.heap.size, k, none⟩) hC.out).trans (HCELL.out k hlt)
      have ec : (s.data.toList.getD k 0) = s.data.toList[k] := by rw [List.getD_eq_getElem?_getD, List.getElem?_eq_getElem hkl]; rfl
      rw [ec] at hcell
      have HS := Lib.hid (take_snocL s.data.toList k hkl)
      clear ec
      generalize s.data.toList[k] = c at *
      have HI := fun w => Lib.hid (Tryd.strings_IndexByte ⟨#[114, 119, 116]⟩ (c.toNat : Int) w)
      have hci : ((c.toNat : Int).toNat.toUInt8) = c := by simp
      have Hci := Lib.hid hci
      clear hci
      go_wp2_with fail
      refine (HI _).out.mono ?_; rintro e w1 ⟨rfl, rfl⟩; dsimp only
      rw [Hci.out, pick_index]
      have hpb := pickI_bd c
      by_cases hp : 0 ≤ pickI c
      · have HS1 := Lib.hid (show turnsV (s.data.toList.take (k + 1)) = turnsV (s.data.toList.take k) ++ [pickI c] by rw [HS.out]; simp [turnsV])
        have HD1 := Lib.hid (show allPick (s.data.toList.take (k + 1)) = true by rw [HS.out, allPick_app, hD.out]; simp [allPick, hp])
        generalize pickI c = p at *
        obtain ⟨q0, q1⟩ := hpb
        have HO := hR.out
        have HB := hW.out
        have hz := HB.size
        have hlen : (turnsV (s.data.toList.take k)).length ≤ 100000 := by
          have h2 := List.length_take_le' k s.data.toList
          have := Hsz.out
          simp only [turnsV, List.length_map]; omega
        have hwz : W.heap.size < w1.heap.size := by
          have h3 : wb.heap[W.heap.size]?.isSome = true := by rw [Array.getElem?_eq_getElem (by omega)]; rfl
          rw [← hC.out] at h3
          rcases Nat.lt_or_ge W.heap.size w1.heap.size with h | h
          · exact h
          · rw [Array.getElem?_eq_none h] at h3; cases h3
        have HHC := Lib.hid hcell
        clear hR hW hcell
        go_wp2_with (at_builtin; refine Kd.R_append (w0 := W) (Kd.int .i64) W.heap.size rfl _ _ 30 3 (.int .i64 0) 8 rfl Tryd.underlying30 Tryd.info_i64 rfl (by decide) (by decide) u4 (turnsV (s.data.toList.take k)) p [.int .i64 p] (fun k => k ≠ W.heap.size) (fun _ => False) rfl rfl rfl (fun k h => h.elim) (fun k hk => by omega) HO HB hz (by omega) ?_)
        intro v1 w2 hO1 hB1 hg1 _
        have HO1 := Lib.hid hO1
        have HB1' := Lib.hid hB1
        have HC1 := Lib.hid ((hg1.block W.heap.size hwz (fun e => HO.1 _ e.symm rfl)).trans hC.out)
        clear hO1 hB1 HO HB hg1
        go_wp2_with fail
        go_roundw
        case rel => exact ⟨k + 1, by omega, by go_num, HD1, by rw [HS1.out]; exact HO1, HB1', HC1⟩
        case measure => simp [intOf]; omega
      · have HD1 : Hid (allPick s.data.toList = false) := Lib.hid (by
          cases he : allPick s.data.toList with
          | false => rfl
          | true =>
            have h2 : allPick (s.data.toList.take (k + 1)) = true := by
              unfold allPick at *
              rw [List.all_eq_true] at *
              exact fun x hx => he x (List.mem_of_mem_take hx)
            rw [HS.out, allPick_app] at h2
            simp [allPick] at h2; omega)
        have hp' : pickI c < 0 := by omega
        generalize pickI c = p at *
        go_wp2_with fail
        go_ret2
        exact ⟨hW.out, .inr ⟨HD1.out, rfl⟩⟩
    · have hks : k = s.size := by omega
      have ht : s.data.toList.take k = s.data.toList := List.take_of_length_le (by rw [Hsz.out]; omega)
      have hd := hD.out
      have hr := hR.out
      rw [ht] at hd hr
      have HD1 := Lib.hid hd
      have hlen : (turnsV s.data.toList).length = s.size := by simp [turnsV]
      obtain ⟨A, c, rfl, hlc, _⟩ := Kd.R_reads hr
      rw [hlen] at hlc hr ⊢
      have HR1 := Lib.hid (Kd.R_mono hr (fun _ _ => trivial) : Kd.R (Kd.int .i64) 3 wr W.heap.size (fun _ => True) _ _)
      clear hr hd hR hD ht hlen hks
      by_cases h0 : 0 < s.size
      · have e0 : decide ((s.size : Int) > 0) = true := by simpa using h0
        by_cases h6 : s.size ≤ 60
        · have e6 : decide ((s.size : Int) ≤ 60) = true := by simp; omega
          go_wp2_with fail
          repeat (go_quiet (fail); try go_wp2_with fail)
          go_ret2
          exact ⟨hW.out, .inl ⟨HD1.out, _, ret_vb rfl (by simp [h0, h6]), HR1.out⟩⟩
        · have e6 : decide ((s.size : Int) ≤ 60) = false := by simp; omega
          go_wp2_with fail
          repeat (go_quiet (fail); try go_wp2_with fail)
          go_ret2
          exact ⟨hW.out, .inl ⟨HD1.out, _, ret_vb rfl (by simp [h0, h6]), HR1.out⟩⟩
      · have e0 : decide ((s.size : Int) > 0) = false := decide_eq_false (by omega)
        go_wp2_with fail
        repeat (go_quiet (fail); try go_wp2_with fail)
        go_ret2
        exact ⟨hW.out, .inl ⟨HD1.out, _, ret_vb rfl (by simp [h0]), HR1.out⟩⟩

end Go.Proofs.YtplcfijcmihhlaaDoor
