/-
  The law HexaNoughts: its walk and its plain law.
-/
import Derived.Test.YtgnckeidekppjaaHexaPut
import Derived.OwnWalk
namespace Go.Proofs.Ytgnckeidekppjaa
open Go.RowKit
set_option linter.unusedVariables false
set_option linter.unusedSimpArgs false

/-! the plain law -/
theorem digs_iff (l : List UInt8) : l.length ≤ digs l ↔ ∀ c ∈ l, 0 ≤ digitV c.toNat := by
  unfold digs
  induction l with
  | nil => simp
  | cons a l ih =>
    by_cases ha : 0 ≤ digitV a.toNat
    · simp only [List.takeWhile_cons, isDig, ha, decide_true, if_true, List.length_cons, Nat.add_le_add_iff_right, List.mem_cons, forall_eq_or_imp, true_and]
      exact ih
    · simp [isDig, ha]

theorem valL_map (l : List UInt8) : valL l = (l.map fun c : UInt8 => digitV c.toNat).foldl (fun n d => 16 * n + d) 0 := by
  simp [valL, List.foldl_map]

theorem valL_zeros (m : Nat) (l : List UInt8) : valL (List.replicate m 48 ++ l) = valL l := by
  have h : ∀ m, valL (List.replicate m 48) = 0 := by
    intro m
    have := valL_noughts (l := List.replicate m 48) m (by simp) (fun j hj _ => by simp)
    rwa [List.take_of_length_le (by simp)] at this
  have h2 : valL (List.replicate m 48 ++ l) = l.foldl (fun n c => 16 * n + digitV c.toNat) (valL (List.replicate m 48)) := by simp [valL]
  rw [h2, h]; rfl

/-- One byte in great letters, if the number says so. -/
def flipAt (k i : Nat) (c : UInt8) : UInt8 := if 97 ≤ c.toNat ∧ (k + i) % 2 = 0 then UInt8.ofNat (c.toNat - 32) else c
def flips (k : Nat) (l : List UInt8) (i : Nat) : List UInt8 := (List.range i).map fun j => flipAt k j (l.getD j 0)

theorem flips_succ (k : Nat) (l : List UInt8) (i : Nat) : flips k l (i + 1) = flips k l i ++ [flipAt k i (l.getD i 0)] := by
  simp [flips, List.range_succ]

theorem flip_digit : ∀ c : Fin 256, 0 ≤ digitV c.val → 97 ≤ c.val → digitV ((c.val - 32 : Nat) : Int) = digitV c.val := by decide +kernel

theorem flipAt_digit (k i : Nat) (c : UInt8) (h : 0 ≤ digitV c.toNat) : digitV (flipAt k i c).toNat = digitV c.toNat := by
  unfold flipAt
  split
  · rename_i hc
    have := flip_digit ⟨c.toNat, c.toNat_lt⟩ h hc.1
    have e : (UInt8.ofNat (c.toNat - 32)).toNat = c.toNat - 32 := by rw [UInt8.toNat_ofNat']; have := c.toNat_lt; omega
    rw [e]; exact this
  · rfl

theorem flips_map (k : Nat) (l : List UInt8) (h : ∀ c ∈ l, 0 ≤ digitV c.toNat) : (flips k l l.length).map (fun c : UInt8 => digitV c.toNat) = l.map fun c : UInt8 => digitV c.toNat := by
  apply List.ext_getElem
  · simp [flips]
  · intro i h1 h2
    have hi : i < l.length := by simpa using h2
    simp only [flips, List.getElem_map, List.getElem_range]
    rw [show l.getD i 0 = l[i] by simp [hi]]
    exact flipAt_digit k i _ (h _ (List.getElem_mem hi))

theorem noughts_law (m k : Nat) (n : Nat) : parseV (List.replicate m 48 ++ flips k (hexT n) (hexT n).length) = parseV (hexT n) := by
  have hd := (digs_iff _).1 (hexT_digs n)
  have hm := flips_map k (hexT n) hd
  have hv : valL (flips k (hexT n) (hexT n).length) = valL (hexT n) := by rw [valL_map, hm, ← valL_map]
  have hall : (List.replicate m 48 ++ flips k (hexT n) (hexT n).length).length ≤ digs (List.replicate m 48 ++ flips k (hexT n) (hexT n).length) := by
    rw [digs_iff]
    intro c hc
    rcases List.mem_append.1 hc with h | h
    · rw [(List.mem_replicate.1 h).2]; decide
    · have h2 : digitV c.toNat ∈ (flips k (hexT n) (hexT n).length).map (fun c : UInt8 => digitV c.toNat) := List.mem_map.2 ⟨c, h, rfl⟩
      rw [hm] at h2
      obtain ⟨c', h3, h4⟩ := List.mem_map.1 h2
      rw [← h4]; exact hd c' h3
  have hne : List.replicate m 48 ++ flips k (hexT n) (hexT n).length ≠ [] := by
    intro h
    have := congrArg List.length h
    simp [flips] at this
    exact hexT_ne n this.2
  rw [parseV_of hne hall, parseV_of (hexT_ne n) (hexT_digs n), valL_zeros, hv]

theorem own_flip {W : World} {B : Nat} {v : Value} {m k j : Nat} {L : List UInt8} {x : UInt8} {q : Int} (hs : flips k L (j + 1) = flips k L j ++ [x])
    (h : W.ownsRow B 5 1 v (m + j + 1) (bvals (List.replicate m 48 ++ flips k L j) ++ [.int .u8 q])) (hq : q = x.toNat) :
    W.ownsRow B 5 1 v (m + (j + 1)) (bvals (List.replicate m 48 ++ flips k L (j + 1))) := by
  subst hq
  rw [hs, ← List.append_assoc, bvals_append]
  exact h

set_option maxHeartbeats 1000000 in
set_option maxRecDepth 100000 in
theorem HexaNoughts_any (n k : Nat) (hn : n ≤ 18446744073709551615) (hk : k ≤ 255) (w : World) :
    Calls Try.prog 5 #[.int .u64 n, .int .u8 k] w fun e w' => e = .returned (.bool true) ∧ Below w.heap.size w w' := by
  have c2 := fun W => Lib.hid (RPut_any n W hn)
  have hlen := hexT_len 15 n (by omega)
  obtain ⟨L, hL⟩ : ∃ L, hexT n = L := ⟨_, rfl⟩
  obtain ⟨m, hm⟩ : ∃ m, k % 40 = m := ⟨_, rfl⟩
  have hm' : (k : Int) % 40 = m := by omega
  have hm40 : m < 40 := by omega
  have hlaw := Lib.hid (noughts_law m k n)
  rw [hL] at hlaw hlen
  simp only [hL] at c2
  clear hL hm
  obtain ⟨i0, hi, hz0, hz1, hz2⟩ := info_parts Try.info_u8
  go_enter Try.func5, Try.ntmps5
  go_wp2_with fail
  refine (wakes_any _).mono ?_; rintro e w1 ⟨rfl, hb1⟩; dsimp only
  go_wp2_with fail
  refine (c2 _).out.mono ?_; rintro e w' ⟨rfl, ⟨nd, rfl⟩⟩; dsimp only
  go_wp2_with fail
  rw [hm']
  go_loopw [6, 21] (fun v i wr => ∃ j : Nat, j ≤ m ∧ i = .int .i64 j ∧ wr.ownsRow w.heap.size 5 1 v j (bvals (List.replicate j 48)) ∧ Below w.heap.size w wr) (fun _ i _ => m - (intOf i).toNat)
  case atStart =>
    refine ⟨0, by omega, rfl, ⟨rfl, .inr ⟨w1.heap.size, 0, #[], rfl, hb1.size, heap_alloc_new (w1.drewN nd) _, Nat.le_refl _, by decide, rfl, rfl⟩⟩, (below_drewN hb1 nd).alloc hb1.size _⟩
  case round =>
    obtain ⟨j, hj, rfl, hown, hbw⟩ := hrel
    by_cases hlt : j < m
    · go_wp2_with (at_builtin; refine wpList_append_own _ rfl (.tmp 23) (.tmp 24) 34 rfl w.heap.size 5 i0 (.int .u8 0) 1 1 Try.underlying34 hi hz0 hz1 hz2 rfl (by decide) _ _ _ rfl (hown.alloc _) ⟨wr.heap.size, 0, none⟩ 1 1 [.int .u8 48] rfl rfl ?c1 ?c2 ?c3 ?c4 ?c5 ?_)
      case c1 => exact cell_one_new _ _ _
      case c2 => simp [Value.oneCell']
      case c3 => unfold maxLen; omega
      case c4 => omega
      case c5 => have := hbw.size; simp; omega
      intro v' w2 hown' hgrow _
      have hb2 := (hbw.alloc hbw.size (.cells #[.int .u8 48] 5)).grown hgrow (by have := hbw.size; simp; omega) (fun k hk => (hown.lt k hk).1)
      have hown2 : w2.ownsRow w.heap.size 5 1 v' (j + 1) (bvals (List.replicate (j + 1) 48)) := by
        rw [List.replicate_succ', bvals_append]; exact hown'
      clear hown' hgrow hown
      go_wp2
      go_roundw
      case rel => exact ⟨j + 1, by omega, by go_num, hown2, hb2⟩
      case measure => simp [intOf]; omega
    · obtain rfl : m = j := by omega
      go_wp2_with fail
      rw [ba_size]
      clear hj hlt hb1
      go_loopw [6, 29] (fun v i wr' => ∃ j : Nat, j ≤ L.length ∧ i = .int .i64 j ∧ wr'.ownsRow w.heap.size 5 1 v (m + j) (bvals (List.replicate m 48 ++ flips k L j)) ∧ Below w.heap.size w wr') (fun _ i _ => L.length - (intOf i).toNat)
      case atStart => exact ⟨0, by omega, rfl, by simpa [flips] using hown, hbw⟩
      case round =>
        clear hown hbw
        obtain ⟨j, hj, rfl, hown, hbw⟩ := hrel
        by_cases hlt : j < L.length
        · obtain ⟨c, hc⟩ : ∃ c, L.getD j 0 = c := ⟨_, rfl⟩
          have hx2 : ∀ h, (ba L).data[j]'h = c := fun h => by rw [← hc]; simp [ba, hlt]
          have hx1 : ∀ h, (ba L)[j]'h = c := fun h => hx2 h
          have hsz : (ba L).size = L.length := ba_size L
          have hsucc := flips_succ k L j
          rw [hc] at hsucc
          clear hc
          have hcb := byte_le c
          have Hs := Lib.hid hsucc
          clear hsucc
          by_cases a : 97 ≤ c.toNat
          · by_cases b : (k + j) % 2 = 0
            · have hfl : flipAt k j c = UInt8.ofNat (c.toNat - 32) := by unfold flipAt; rw [if_pos ⟨a, b⟩]
              have hb2 : (((k : Int) + j) % 2 == 0) = true := beq_iff_eq.2 (by omega)
              have Hf := Lib.hid hfl
              clear hfl b
              go_wp2_with (at_builtin; refine wpList_append_own _ rfl (.tmp 47) (.tmp 49) 34 rfl w.heap.size 5 i0 (.int .u8 0) 1 1 Try.underlying34 hi hz0 hz1 hz2 rfl (by decide) _ _ _ rfl (hown.alloc _) ⟨wr.heap.size, 0, none⟩ 1 1 [.int .u8 ((c.toNat : Int) - 32)] rfl rfl ?d1 ?d2 ?d3 ?d4 ?d5 ?_)
              case d1 => exact cell_one_new _ _ _
              case d2 => simp [Value.oneCell']
              case d3 => unfold maxLen; omega
              case d4 => omega
              case d5 => have := hbw.size; simp; omega
              intro v' w2 hown' hgrow _
              have hb2' := (hbw.alloc hbw.size (.cells #[.int .u8 ((c.toNat : Int) - 32)] 5)).grown hgrow (by have := hbw.size; simp; omega) (fun k hk => (hown.lt k hk).1)
              have hown2 := own_flip Hs.out hown' (by rw [Hf.out]; have := c.toNat_lt; rw [UInt8.toNat_ofNat']; omega)
              clear hown' hgrow hown
              go_wp2
              go_roundw
              case rel => exact ⟨j + 1, by omega, by go_num, hown2, hb2'⟩
              case measure => simp [intOf]; omega
            · have hfl : flipAt k j c = c := by unfold flipAt; rw [if_neg (fun h => b h.2)]
              have hb2 : (((k : Int) + j) % 2 == 0) = false := beq_eq_false_iff_ne.2 (by omega)
              have Hf := Lib.hid hfl
              clear hfl b
              go_wp2_with (at_builtin; refine wpList_append_own _ rfl (.tmp 47) (.tmp 49) 34 rfl w.heap.size 5 i0 (.int .u8 0) 1 1 Try.underlying34 hi hz0 hz1 hz2 rfl (by decide) _ _ _ rfl (hown.alloc _) ⟨wr.heap.size, 0, none⟩ 1 1 [.int .u8 (c.toNat : Int)] rfl rfl ?e1 ?e2 ?e3 ?e4 ?e5 ?_)
              case e1 => exact cell_one_new _ _ _
              case e2 => simp [Value.oneCell']
              case e3 => unfold maxLen; omega
              case e4 => omega
              case e5 => have := hbw.size; simp; omega
              intro v' w2 hown' hgrow _
              have hb2' := (hbw.alloc hbw.size (.cells #[.int .u8 (c.toNat : Int)] 5)).grown hgrow (by have := hbw.size; simp; omega) (fun k hk => (hown.lt k hk).1)
              have hown2 := own_flip Hs.out hown' (by rw [Hf.out])
              clear hown' hgrow hown
              go_wp2
              go_roundw
              case rel => exact ⟨j + 1, by omega, by go_num, hown2, hb2'⟩
              case measure => simp [intOf]; omega
          · have hfl : flipAt k j c = c := by unfold flipAt; rw [if_neg (fun h => a h.1)]
            have Hf := Lib.hid hfl
            have a2 : (c.toNat : Int) < 97 := by omega
            clear a
            clear hfl
            go_wp2_with (at_builtin; refine wpList_append_own _ rfl (.tmp 47) (.tmp 49) 34 rfl w.heap.size 5 i0 (.int .u8 0) 1 1 Try.underlying34 hi hz0 hz1 hz2 rfl (by decide) _ _ _ rfl (hown.alloc _) ⟨wr.heap.size, 0, none⟩ 1 1 [.int .u8 (c.toNat : Int)] rfl rfl ?f1 ?f2 ?f3 ?f4 ?f5 ?_)
            case f2 => simp [Value.oneCell']
            case f3 => unfold maxLen; omega
            case f4 => omega
            case f5 => have := hbw.size; simp; omega
            intro v' w2 hown' hgrow _
            have hb2' := (hbw.alloc hbw.size (.cells #[.int .u8 (c.toNat : Int)] 5)).grown hgrow (by have := hbw.size; simp; omega) (fun k hk => (hown.lt k hk).1)
            have hown2 := own_flip Hs.out hown' (by rw [Hf.out])
            clear hown' hgrow hown
            go_wp2
            go_roundw
            case rel => exact ⟨j + 1, by omega, by go_num, hown2, hb2'⟩
            case measure => simp [intOf]; omega
        · obtain rfl : j = L.length := by omega
          have hlr : (List.replicate m 48 ++ flips k L L.length).length = m + L.length := by simp [flips]
          rw [← hlr] at hown
          have c3 := fun W => Parse_any (ba (List.replicate m 48 ++ flips k L L.length)) W (by rw [ba_size, hlr]; unfold maxLen; omega)
          have c4 := fun W => Parse_any (ba L) W (by rw [ba_size]; unfold maxLen; omega)
          rw [ba_list, hlaw.out] at c3
          rw [ba_list] at c4
          have C3 := fun W => Lib.hid (c3 W)
          have C4 := fun W => Lib.hid (c4 W)
          have hbs := hbw.size
          clear c3 c4 hlr
          go_wp2_with fail
          refine (C4 _).out.mono ?_; rintro e w3 ⟨rfl, hb3⟩; dsimp only
          have hcv := conv_own (own_below hown hb3)
          go_wp2_with fail
          refine (C3 _).out.mono ?_; rintro e w4 ⟨rfl, hb4⟩; dsimp only
          go_wp2_with fail
          go_ret
          exact ⟨rfl, (hbw.trans (hb3.mono hbs)).trans (hb4.mono (Nat.le_trans hbs hb3.size))⟩

/-- The law, at the arguments as the row opens them. -/
theorem hexaNoughts_of (a : Int) (wa : (Lit.int .u64 a).wf = true) (c : Int) (wc : (Lit.int .u8 c).wf = true) (w : World) :
    Calls Try.prog 5 #[.int .u64 a, .int .u8 c] w fun e w' => e = .returned (.bool true) ∧ Below w.heap.size w w' := by
  simp [Lit.wf, IntKind.min, IntKind.max, IntKind.signed, IntKind.bits] at wa wc
  obtain ⟨n, rfl⟩ := Int.eq_ofNat_of_zero_le wa.1
  obtain ⟨k, rfl⟩ := Int.eq_ofNat_of_zero_le wc.1
  exact HexaNoughts_any n k (by omega) (by omega) w

end Go.Proofs.Ytgnckeidekppjaa
