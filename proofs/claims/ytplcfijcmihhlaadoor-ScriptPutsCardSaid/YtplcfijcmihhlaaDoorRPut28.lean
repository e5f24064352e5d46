/-
  Layer 28: the reference's Put: the walk, and that it comes to the script's text.
-/
import Derived.Test.YtplcfijcmihhlaaDoorPutGet28
import Derived.Test.YtplcfijcmihhlaaDoorPGetx1
import Derived.Outline
namespace Go.Proofs.YtplcfijcmihhlaaDoor
open Go.RowKit Go.Proofs.YtplcfijcmihhlaaDoorW.PrintWords
set_option linter.unusedVariables false
set_option linter.unusedSimpArgs false
attribute [local go_sem] Oper.semAt_some

/-! ### The picks, one by one -/
def rpStep (l : List Int) (k : Nat) : List UInt8 := (if k % 60 = 0 then [112, 105, 99, 107, 32] else []) ++ [lett (rd l k)] ++ (if k % 60 = 59 ∨ k + 1 = l.length then [10] else [])
def rpT (l : List Int) : Nat → List UInt8
  | 0 => []
  | k + 1 => rpT l k ++ rpStep l k
theorem rp_len (l : List Int) : ∀ k, (rpT l k).length ≤ 7 * k
  | 0 => by simp [rpT]
  | k + 1 => by
    have ih := rp_len l k
    have h1 : (rpStep l k).length ≤ 7 := by
      unfold rpStep
      rw [List.length_append, List.length_append]
      have a : (if k % 60 = 0 then ([112, 105, 99, 107, 32] : List UInt8) else []).length ≤ 5 := by split <;> simp
      have b : (if k % 60 = 59 ∨ k + 1 = l.length then ([10] : List UInt8) else []).length ≤ 1 := by split <;> simp
      simp only [List.length_cons, List.length_nil]; omega
    rw [rpT, List.length_append]; omega
theorem rp_in (l : List Int) (j : Nat) (hj : rpT l (60 * j) = picksT l j) : ∀ r, r ≤ 60 → 60 * j + r ≤ l.length →
    rpT l (60 * j + r) = picksT l j ++ (if r = 0 then [] else [112, 105, 99, 107, 32] ++ ((l.drop (60 * j)).take r).map lett ++ (if r = 60 ∨ 60 * j + r = l.length then [10] else []))
  | 0, _, _ => by rw [Nat.add_zero, if_pos rfl, hj, List.append_nil]
  | r + 1, hr, hl => by
    have ih := rp_in l j hj r (by omega) (by omega)
    have hm : (60 * j + r) % 60 = r := by omega
    have htk : ((l.drop (60 * j)).take (r + 1)).map lett = ((l.drop (60 * j)).take r).map lett ++ [lett (rd l ((60 * j + r : Nat) : Int))] := by
      rw [rd_get (by omega), List.take_succ_eq_append_getElem (by rw [List.length_drop]; omega), List.map_append, List.getElem_drop]
      rfl
    have hend : (if (60 * j + r) % 60 = 59 ∨ 60 * j + r + 1 = l.length then ([10] : List UInt8) else []) = (if r + 1 = 60 ∨ 60 * j + (r + 1) = l.length then [10] else []) := by
      rw [hm]
      by_cases h1 : r = 59
      · rw [if_pos (.inl h1), if_pos (.inl (by omega))]
      · by_cases h2 : 60 * j + r + 1 = l.length
        · rw [if_pos (.inr h2), if_pos (.inr (by omega))]
        · rw [if_neg (by omega), if_neg (by omega)]
    rw [show 60 * j + (r + 1) = (60 * j + r) + 1 by omega, rpT, ih]
    unfold rpStep
    rw [hend, if_neg (show ¬ r + 1 = 0 by omega), htk, hm]
    by_cases h0 : r = 0
    · subst h0
      simp
    · rw [if_neg h0, if_neg (show ¬ (r = 60 ∨ 60 * j + r = l.length) by omega)]
      simp [Nat.add_assoc, h0]
theorem rp_full (l : List Int) : ∀ j, 60 * j ≤ l.length → rpT l (60 * j) = picksT l j
  | 0, _ => rfl
  | j + 1, h => by
    have ih := rp_full l j (by omega)
    have := rp_in l j ih 60 (Nat.le_refl _) (by omega)
    rw [show 60 * (j + 1) = 60 * j + 60 by omega, this, picksT_succ, if_neg (by decide), if_pos (.inl rfl)]
    unfold lineB pieceW sPick
    simp
theorem rp_all (l : List Int) : rpT l l.length = picksT l (nOffs l.length) := by
  obtain ⟨j, r, hr, hl⟩ : ∃ j r, r < 60 ∧ l.length = 60 * j + r := ⟨l.length / 60, l.length % 60, by omega, by omega⟩
  have hf := rp_full l j (by omega)
  have := rp_in l j hf r (by omega) (by omega)
  rw [← hl] at this
  rw [this]
  by_cases h0 : r = 0
  · rw [if_pos h0, List.append_nil, show nOffs l.length = j by unfold nOffs; omega]
  · rw [if_neg h0, if_pos (.inr rfl), show nOffs l.length = j + 1 by unfold nOffs; omega, picksT_succ]
    have hd : (l.drop (60 * j)).take r = (l.drop (60 * j)).take 60 := by
      rw [List.take_of_length_le (by rw [List.length_drop]; omega), List.take_of_length_le (by rw [List.length_drop]; omega)]
    rw [hd]
    unfold lineB pieceW sPick
    simp

/-! ### A number's digits -/
theorem strL_size (l : List UInt8) : (strL l).size = l.length := by
  show l.toArray.size = _
  rw [List.size_toArray]
theorem refNumber : ∀ (k u : Nat), u < 18446744073709551616 → u < k → PGet.catchpitref27_Number.f k (u : Int) = some (strL (Lib.decDigits u))
  | 0, u, _, h => absurd h (by omega)
  | k + 1, u, hu, hk => by
    have e1 : Int.tmod (u : Int) 10 = ((u % 10 : Nat) : Int) := rfl
    have e2 : Int.tdiv (u : Int) 10 = ((u / 10 : Nat) : Int) := rfl
    have w1 : IntKind.u64.wrap (48 + ((u % 10 : Nat) : Int)) = ((48 + u % 10 : Nat) : Int) := by rw [IntWalk.u64_in _ (by omega)]; omega
    have w2 : IntKind.u64.wrap ((u / 10 : Nat) : Int) = ((u / 10 : Nat) : Int) := IntWalk.u64_in _ (by omega)
    have w3 : strOfNums [(((48 + u % 10 : Nat) : Int) % 256)] = strL [UInt8.ofNat (48 + u % 10)] := by
      rw [show (((48 + u % 10 : Nat) : Int) % 256) = ((48 + u % 10 : Nat) : Int) by omega]
      rfl
    rw [PGet.catchpitref27_Number.f, Option.bind_some, e1, e2, w1, w2, w3]
    by_cases h : u < 10
    · rw [if_neg (by omega), Lib.decDigits, dif_pos h, Nat.mod_eq_of_lt h]
    · have hlen : (Lib.decDigits (u / 10)).length ≤ 25 := by
        have := Lib.itoa_length_le ((u / 10 : Nat) : Int) (by omega) (by omega)
        rw [Lib.itoa_nonneg] at this; omega
      rw [if_pos (by omega), refNumber k (u / 10) (by omega) (by omega), Option.bind_some, if_pos (by rw [strL_size, strL_size]; simp only [List.length_cons, List.length_nil]; omega), strL_app]
      conv => rhs; rw [Lib.decDigits, dif_neg h]

theorem cat_line (T : List UInt8) (key word : ByteArray) : strL T ++ (key ++ ⟨#[32]⟩) ++ word ++ ⟨#[10]⟩ = strL (T ++ lineB key word) := by
  apply WideShapes.bytes_inj
  simp [ByteArray.data_append, strL, lineB]
theorem kEndS : (⟨#[101, 110, 100, 32]⟩ : ByteArray) = sEnd ++ ⟨#[32]⟩ := by rfl
theorem kStopS : (⟨#[115, 116, 111, 112, 32]⟩ : ByteArray) = sStop ++ ⟨#[32]⟩ := by rfl
theorem kTakeS : (⟨#[116, 97, 107, 101, 32]⟩ : ByteArray) = sTake ++ ⟨#[32]⟩ := by rfl
theorem lett_sub (n : Nat) (h : n < 3) : (⟨#[114, 119, 116]⟩ : ByteArray).extract n (n + 1) = strL [lett (n : Int)] := by
  obtain rfl | rfl | rfl : n = 0 ∨ n = 1 ∨ n = 2 := by omega
  all_goals rfl

section
variable {A0 : Option Addr} {c0 : Nat} {l0 : List (List Int)} {e0 : Int} {A2 : Option Addr} {c2 : Nat} {l2 : List Int} {s0 : Int} {A4 : Option Addr} {c4 : Nat} {l4 : List Int} {W : World}
set_option maxHeartbeats 4000000 in
set_option maxRecDepth 100000 in
theorem RPut_any (h : ScrC W A0 c0 l0 A2 c2 l2 A4 c4 l4) (hb : ∀ x ∈ l0, InB x) (hs : SmallS l0 l2 l4) (hr : RightS e0 s0 l2 l4) :
    Calls Tryd.prog 32 #[.agg #[.slice A0 l0.length c0, .int .i64 e0, .slice A2 l2.length c2, .int .i64 s0, .slice A4 l4.length c4]] W fun x w' => x = .returned (.string (strL (putT l0 e0 l2 s0 l4))) ∧ Below W.heap.size W w' := by
  obtain ⟨V, eV, hV, v0, hz⟩ : ∃ V, W.alloc (.cells #[.slice A0 l0.length c0, .int .i64 e0, .slice A2 l2.length c2, .int .i64 s0, .slice A4 l4.length c4] 49) = V ∧ Below W.heap.size W V ∧ V.heap[W.heap.size]? = some (.cells #[.slice A0 l0.length c0, .int .i64 e0, .slice A2 l2.length c2, .int .i64 s0, .slice A4 l4.length c4] 49 (0, 0)) ∧ V.heap.size = W.heap.size + 1 :=
    ⟨_, rfl, (Below.refl _ W).alloc (Nat.le_refl _) _, World.alloc_heap_new _ _, by simp⟩
  have HV := Lib.hid hV
  have H := Lib.hid (h.below hV)
  have V0 := Lib.hid v0
  have hv0 := lt_of_heap v0
  have HB := Lib.hid hb
  have HS := Lib.hid hs
  have HR := Lib.hid hr
  have hl0 : l0.length ≤ 1500 := Nat.le_trans (bulk_len l0).1 hs.1
  clear h hV hb hs hr
  go_enter Tryd.func32, Tryd.ntmps32
  go_wp2_with fail
  go_loopw [3, 4] (fun t i wr => ∃ k : Nat, k ≤ l0.length ∧ i = .int .i64 (k : Nat) ∧ t = .string (strL (upsT (l0.take k))) ∧ Hid (Below V.heap.size V wr)) (fun _ i _ => l0.length - (intOf i).toNat)
  case atStart => exact ⟨0, Nat.zero_le _, rfl, rfl, Lib.hid (Below.refl _ _)⟩
  case round =>
    obtain ⟨k, hk, rfl, rfl, hW⟩ := hrel
    obtain ⟨x0, x1, x2, x3, x4⟩ := cells5 ((hW.out.block _ hv0).trans V0.out)
    by_cases hlk : k < l0.length
    · obtain ⟨ad, A', c', eA, hc1, hq, hC⟩ := kbb_at H.out.r0 hlk
      subst eA
      have hc := (hW.out.cell (p := ad.add k) (World.block_lt_of_cell? V _ hc1)).trans hc1
      have p1 : (0 : Int) ≤ (k : Int) := Int.natCast_nonneg k
      have p2 : (k : Int) < (l0.length : Int) := by omega
      have hk1 := (bulk_len l0).2 _ (List.getElem_mem hlk)
      have hk2 := HS.out.1
      have hk3 := hexS_le l0[k]
      have hk4 := upsT_len (l0.take k)
      have hk5 := bulk_take l0 k
      have hH := fun V' (hB : Below V.heap.size V V') => Lib.hid (RHex_any (c := c') (Kd.C_below hC hB) (HB.out _ (List.getElem_mem hlk)) (by omega))
      have Hup := Lib.hid (upsT_succ hlk)
      have hsz := strL_size (upsT (l0.take k))
      have q1 : (strL (upsT (l0.take k))).size + (⟨#[117, 112, 32]⟩ : ByteArray).size ≤ 9223372036854775807 := by rw [hsz]; show _ + 3 ≤ _; omega
      have q2 : (strL (upsT (l0.take k)) ++ (⟨#[117, 112, 32]⟩ : ByteArray)).size + (hexS l0[k]).size ≤ 9223372036854775807 := by rw [ByteArray.size_append, hsz]; show _ + 3 + _ ≤ _; omega
      have q3 : (strL (upsT (l0.take k)) ++ (⟨#[117, 112, 32]⟩ : ByteArray) ++ hexS l0[k]).size + (⟨#[10]⟩ : ByteArray).size ≤ 9223372036854775807 := by rw [ByteArray.size_append, ByteArray.size_append, hsz]; show _ + 3 + _ + 1 ≤ _; omega
      clear hC hc1 hsz
      go_wp2_with fail
      refine (hH _ hW.out).out.mono ?_; rintro e w1 ⟨rfl, hb1⟩; dsimp only
      have HB1 := Lib.hid (hW.out.trans (hb1.mono hW.out.size))
      clear hb1
      go_wp2_with fail
      go_roundw
      case rel =>
        refine ⟨k + 1, by omega, by go_num, ?_, HB1⟩
        rw [Hup.out]
        apply congrArg Value.string
        apply WideShapes.bytes_inj
        simp [ByteArray.data_append, strL, lineB, sUp]
      case measure => simp [intOf]; omega
    · have hk' : k = l0.length := by omega
      subst hk'
      rw [List.take_length]
      have hk2 := HS.out.1
      have hk4 := upsT_len l0
      obtain ⟨je, hje, hj2⟩ : ∃ j : Nat, e0 = (j : Int) ∧ j < 3 := ⟨e0.toNat, by have := HR.out.e0; omega, by have := HR.out.e0; have := HR.out.e2; omega⟩
      have HE := Lib.hid hje
      subst hje
      have hew : (endW (je : Int)).size ≤ 6 := by unfold endW; split; decide; split; decide; decide
      have hcE : ∀ w : World, (w.alloc (.cells #[.string ⟨#[115, 105, 108, 101, 110, 116]⟩, .string ⟨#[99, 108, 111, 115, 101, 100]⟩, .string ⟨#[114, 101, 115, 101, 116]⟩] 9)).cell? ⟨w.heap.size, je, none⟩ = some (.string (endW (je : Int))) := by
        intro w
        rw [World.cell?_alloc_new]
        rcases je with _ | _ | _ | je
        · rfl
        · rfl
        · rfl
        · omega
      have p1 : (0 : Int) ≤ (je : Int) := Int.natCast_nonneg je
      have p2 : (je : Int) < 3 := by omega
      have hsz := strL_size (upsT l0)
      have q1 : (strL (upsT l0)).size + (⟨#[101, 110, 100, 32]⟩ : ByteArray).size ≤ 9223372036854775807 := by rw [hsz]; show _ + 4 ≤ _; omega
      have q2 : (strL (upsT l0) ++ (⟨#[101, 110, 100, 32]⟩ : ByteArray)).size + (endW (je : Int)).size ≤ 9223372036854775807 := by rw [ByteArray.size_append, hsz]; show _ + 4 + _ ≤ _; omega
      have q3 : (strL (upsT l0) ++ (⟨#[101, 110, 100, 32]⟩ : ByteArray) ++ endW (je : Int)).size + (⟨#[10]⟩ : ByteArray).size ≤ 9223372036854775807 := by rw [ByteArray.size_append, ByteArray.size_append, hsz]; show _ + 4 + _ + 1 ≤ _; omega
      have hzw : W.heap.size < wr.heap.size := by have := hW.out.size; omega
      clear hsz
      go_wp2_with fail
      rw [kEndS, cat_line]
      obtain ⟨T0, eT0⟩ : ∃ T0, upsT l0 ++ lineB sEnd (endW ((je : Nat) : Int)) = T0 := ⟨_, rfl⟩
      have hT0 : T0.length ≤ 11000 := by
        rw [← eT0, List.length_append, lineB_len]
        have h4 : sEnd.size = 3 := rfl
        omega
      rw [eT0]
      have HW1 := Lib.hid (show Below V.heap.size V (wr.alloc (.cells #[.string ⟨#[115, 105, 108, 101, 110, 116]⟩, .string ⟨#[99, 108, 111, 115, 101, 100]⟩, .string ⟨#[114, 101, 115, 101, 116]⟩] 9)) from hW.out.alloc hW.out.size _)
      have hl2 : l2.length ≤ 1500 := HS.out.2.1
      clear x0 x1 x2 x3 x4 q1 q2 q3 hcE hzw
      go_loopw [3, 5] (fun t i wr => ∃ k : Nat, k ≤ l2.length ∧ i = .int .i64 (k : Nat) ∧ t = .string (strL (T0 ++ takesT (l2.take k))) ∧ Hid (Below V.heap.size V wr)) (fun _ i _ => l2.length - (intOf i).toNat)
      case atStart => exact ⟨0, Nat.zero_le _, rfl, by rw [show takesT (l2.take 0) = [] from rfl, List.append_nil], HW1⟩
      case round =>
        clear hW HW1
        rename_i wr0 _
        obtain ⟨k, hk, rfl, rfl, hW⟩ := hrel
        obtain ⟨x0, x1, x2, x3, x4⟩ := cells5 ((hW.out.block _ hv0).trans V0.out)
        by_cases hlk : k < l2.length
        · obtain ⟨ad, eA, hc1⟩ := kd_at H.out.r2 hlk
          subst eA
          rw [rd_get hlk] at hc1
          have hc := (hW.out.cell (p := ad.add k) (World.block_lt_of_cell? V _ hc1)).trans hc1
          have p1 : (0 : Int) ≤ (k : Int) := Int.natCast_nonneg k
          have p2 : (k : Int) < (l2.length : Int) := by omega
          have hx := HR.out.tk _ (List.getElem_mem hlk)
          have Hup := Lib.hid (takesT_succ hlk)
          have hti := takesT_len (l2.take k) (fun y hy => HR.out.tk y (List.mem_of_mem_take hy))
          have hlt2 := List.length_take_le k l2
          have hil := Lib.itoa_length_le l2[k] (by omega) (by omega)
          obtain ⟨u, hu⟩ : ∃ u : Nat, l2[k] = (u : Int) := ⟨l2[k].toNat, by omega⟩
          rw [hu] at hc hx hil Hup
          rw [Lib.itoa_nonneg] at hil Hup
          have hN := fun V' => Lib.hid (PGet.catchpitref27_Number.calls (u + 1) (u : Int) _ V' (refNumber (u + 1) u (by omega) (by omega)))
          have hsz := strL_size (T0 ++ takesT (l2.take k))
          rw [List.length_append] at hsz
          have hnz := strL_size (Lib.decDigits u)
          have q1 : (strL (T0 ++ takesT (l2.take k))).size + (⟨#[116, 97, 107, 101, 32]⟩ : ByteArray).size ≤ 9223372036854775807 := by rw [hsz]; show _ + 5 ≤ _; omega
          have q2 : (strL (T0 ++ takesT (l2.take k)) ++ (⟨#[116, 97, 107, 101, 32]⟩ : ByteArray)).size + (strL (Lib.decDigits u)).size ≤ 9223372036854775807 := by rw [ByteArray.size_append, hsz, hnz]; show _ + 5 + _ ≤ _; omega
          have q3 : (strL (T0 ++ takesT (l2.take k)) ++ (⟨#[116, 97, 107, 101, 32]⟩ : ByteArray) ++ strL (Lib.decDigits u)).size + (⟨#[10]⟩ : ByteArray).size ≤ 9223372036854775807 := by rw [ByteArray.size_append, ByteArray.size_append, hsz, hnz]; show _ + 5 + _ + 1 ≤ _; omega
          have hx0 : (0 : Int) ≤ (u : Int) := hx.1
          have hx1 : (u : Int) ≤ 1073741824 := hx.2
          clear hc1 hsz hnz hu hx
          go_wp2_with fail
          refine (hN _).out.mono ?_; rintro e w1 ⟨rfl, hb1⟩; dsimp only
          have HB1 := Lib.hid (hW.out.trans (hb1.mono hW.out.size))
          clear hb1
          go_wp2_with fail
          rw [kTakeS, cat_line]
          go_roundw
          case rel =>
            refine ⟨k + 1, by omega, by go_num, ?_, HB1⟩
            rw [Hup.out, List.append_assoc]
            rfl
          case measure => simp [intOf]; omega
        · have hk' : k = l2.length := by omega
          subst hk'
          rw [List.take_length]
          have hti := takesT_len l2 (fun y hy => HR.out.tk y hy)
          obtain ⟨js, hjs, hj3⟩ : ∃ j : Nat, s0 = (j : Int) ∧ j < 3 := ⟨s0.toNat, by have := HR.out.s0; omega, by have := HR.out.s0; have := HR.out.s2; omega⟩
          subst hjs
          have hsw : (stopW (js : Int)).size ≤ 6 := by unfold stopW; split; decide; split; decide; decide
          have hcS : ∀ w : World, (w.alloc (.cells #[.string ⟨#[115, 116, 117, 99, 107]⟩, .string ⟨#[102, 114, 101, 101]⟩, .string ⟨#[114, 101, 115, 101, 116]⟩] 9)).cell? ⟨w.heap.size, js, none⟩ = some (.string (stopW (js : Int))) := by
            intro w
            rw [World.cell?_alloc_new]
            rcases js with _ | _ | _ | js
            · rfl
            · rfl
            · rfl
            · omega
          have p3 : (0 : Int) ≤ (js : Int) := Int.natCast_nonneg js
          have p4 : (js : Int) < 3 := by omega
          obtain ⟨T1, eT1⟩ : ∃ T1, T0 ++ takesT l2 = T1 := ⟨_, rfl⟩
          have hT1 : T1.length ≤ 56000 := by rw [← eT1, List.length_append]; omega
          rw [eT1]
          have hsz := strL_size T1
          have q1 : (strL T1).size + (⟨#[115, 116, 111, 112, 32]⟩ : ByteArray).size ≤ 9223372036854775807 := by rw [hsz]; show _ + 5 ≤ _; omega
          have q2 : (strL T1 ++ (⟨#[115, 116, 111, 112, 32]⟩ : ByteArray)).size + (stopW (js : Int)).size ≤ 9223372036854775807 := by rw [ByteArray.size_append, hsz]; show _ + 5 + _ ≤ _; omega
          have q3 : (strL T1 ++ (⟨#[115, 116, 111, 112, 32]⟩ : ByteArray) ++ stopW (js : Int)).size + (⟨#[10]⟩ : ByteArray).size ≤ 9223372036854775807 := by rw [ByteArray.size_append, ByteArray.size_append, hsz]; show _ + 5 + _ + 1 ≤ _; omega
          have hzw : W.heap.size < wr.heap.size := by have := hW.out.size; omega
          clear hsz
          go_wp2_with fail
          rw [kStopS, cat_line]
          obtain ⟨T2, eT2⟩ : ∃ T2, T1 ++ lineB sStop (stopW ((js : Nat) : Int)) = T2 := ⟨_, rfl⟩
          have hT2 : T2.length ≤ 57000 := by
            rw [← eT2, List.length_append, lineB_len]
            have h4 : sStop.size = 4 := rfl
            omega
          rw [eT2]
          have HW1 := Lib.hid (show Below V.heap.size V (wr.alloc (.cells #[.string ⟨#[115, 116, 117, 99, 107]⟩, .string ⟨#[102, 114, 101, 101]⟩, .string ⟨#[114, 101, 115, 101, 116]⟩] 9)) from hW.out.alloc hW.out.size _)
          have hl4 : l4.length ≤ 1500 := HS.out.2.2
          clear x0 x1 x2 x3 x4 q1 q2 q3 hcS hzw
          go_loopw [3, 6] (fun t i wr => ∃ k : Nat, k ≤ l4.length ∧ i = .int .i64 (k : Nat) ∧ t = .string (strL (T2 ++ rpT l4 k)) ∧ Hid (Below V.heap.size V wr)) (fun _ i _ => l4.length - (intOf i).toNat)
          case atStart => exact ⟨0, Nat.zero_le _, rfl, by rw [show rpT l4 0 = [] from rfl, List.append_nil], HW1⟩
          case round =>
            clear hW HW1
            obtain ⟨k, hk, rfl, rfl, hW⟩ := hrel
            obtain ⟨x0, x1, x2, x3, x4⟩ := cells5 ((hW.out.block _ hv0).trans V0.out)
            by_cases hlk : k < l4.length
            · obtain ⟨ad, eA, hc1⟩ := kd_at H.out.r4 hlk
              subst eA
              have hc := (hW.out.cell (p := ad.add k) (World.block_lt_of_cell? V _ hc1)).trans hc1
              have p1 : (0 : Int) ≤ (k : Int) := Int.natCast_nonneg k
              have p2 : (k : Int) < (l4.length : Int) := by omega
              have hx := HR.out.pk _ (List.getElem_mem hlk)
              rw [← rd_get hlk] at hx
              have hrl := rp_len l4 k
              have hst : rpT l4 (k + 1) = rpT l4 k ++ ((if k % 60 = 0 then [112, 105, 99, 107, 32] else []) ++ [lett (rd l4 k)] ++ (if k % 60 = 59 ∨ k + 1 = l4.length then [10] else [])) := rfl
              obtain ⟨jp, hjp⟩ : ∃ j : Nat, rd l4 (k : Int) = (j : Int) := ⟨(rd l4 (k : Int)).toNat, by omega⟩
              rw [hjp] at hc hx hst
              have hj3 : jp < 3 := by omega
              have hz3 : (strL (T2 ++ rpT l4 k)).size ≤ 70000 := by rw [strL_size, List.length_append]; omega
              have hz1 : ((⟨#[114, 119, 116]⟩ : ByteArray).extract jp (jp + 1)).size = 1 := by rw [lett_sub jp hj3]; rfl
              obtain ⟨T3, eT3⟩ : ∃ T3, strL (T2 ++ rpT l4 k) = T3 := ⟨_, rfl⟩
              rw [eT3] at hz3 ⊢
              have E3 := Lib.hid eT3
              have j1 : (jp : Int) ≤ (jp : Int) + 1 := by omega
              have j2 : (jp : Int) + 1 ≤ 3 := by omega
              have j5 : (0 : Int) ≤ (jp : Int) := by omega
              have q1 : T3.size + (⟨#[112, 105, 99, 107, 32]⟩ : ByteArray).size ≤ 9223372036854775807 := by show _ + 5 ≤ _; omega
              have q2 : (T3 ++ (⟨#[112, 105, 99, 107, 32]⟩ : ByteArray)).size + ((⟨#[114, 119, 116]⟩ : ByteArray).extract jp (jp + 1)).size ≤ 9223372036854775807 := by rw [ByteArray.size_append, hz1]; show _ + 5 + 1 ≤ _; omega
              have q3 : (T3 ++ (⟨#[112, 105, 99, 107, 32]⟩ : ByteArray) ++ (⟨#[114, 119, 116]⟩ : ByteArray).extract jp (jp + 1)).size + (⟨#[10]⟩ : ByteArray).size ≤ 9223372036854775807 := by rw [ByteArray.size_append, ByteArray.size_append, hz1]; show _ + 5 + 1 + 1 ≤ _; omega
              have q4 : T3.size + ((⟨#[114, 119, 116]⟩ : ByteArray).extract jp (jp + 1)).size ≤ 9223372036854775807 := by rw [hz1]; omega
              have q5 : (T3 ++ (⟨#[114, 119, 116]⟩ : ByteArray).extract jp (jp + 1)).size + (⟨#[10]⟩ : ByteArray).size ≤ 9223372036854775807 := by rw [ByteArray.size_append, hz1]; show _ + 1 + 1 ≤ _; omega
              have m1 : decide (k + 1 < l4.length) = true ∨ k + 1 = l4.length := by by_cases h : k + 1 < l4.length; exact .inl (decide_eq_true h); exact .inr (by omega)
              clear hjp hc1 eT3 hz1
              by_cases h60 : k % 60 = 0
              · have m60 : ((k : Int) % 60 == 0) = true := by rw [beq_iff_eq]; omega
                have m59 : ((k : Int) % 60 == 59) = false := by rw [beq_eq_false_iff_ne]; omega
                rw [if_pos h60] at hst
                by_cases hle : k + 1 = l4.length
                · have me : ((k : Int) == (l4.length : Int) - 1) = true := by rw [beq_iff_eq]; omega
                  rw [if_pos (.inr hle)] at hst
                  have Hst := Lib.hid hst
                  clear hst m1 h60
                  go_wp2_with fail
                  go_region
                  go_wp2_with fail
                  go_roundw
                  case rel =>
                    refine ⟨k + 1, by omega, by go_num, ?_, Lib.hid hW.out.drew⟩
                    rw [Hst.out, ← E3.out, lett_sub jp hj3]
                    apply congrArg Value.string
                    apply WideShapes.bytes_inj
                    simp [ByteArray.data_append, strL]
                  case measure => simp [intOf]; omega
                · have me : ((k : Int) == (l4.length : Int) - 1) = false := by rw [beq_eq_false_iff_ne]; omega
                  rw [if_neg (by omega)] at hst
                  have Hst := Lib.hid hst
                  clear hst m1 h60
                  go_wp2_with fail
                  go_region
                  go_wp2_with fail
                  go_roundw
                  case rel =>
                    refine ⟨k + 1, by omega, by go_num, ?_, Lib.hid hW.out.drew⟩
                    rw [Hst.out, ← E3.out, lett_sub jp hj3]
                    apply congrArg Value.string
                    apply WideShapes.bytes_inj
                    simp [ByteArray.data_append, strL]
                  case measure => simp [intOf]; omega
              · have m60 : ((k : Int) % 60 == 0) = false := by rw [beq_eq_false_iff_ne]; omega
                rw [if_neg h60] at hst
                by_cases h59 : k % 60 = 59
                · have m59 : ((k : Int) % 60 == 59) = true := by rw [beq_iff_eq]; omega
                  rw [if_pos (.inl h59)] at hst
                  have Hst := Lib.hid hst
                  clear hst m1 h60 h59
                  go_wp2_with fail
                  go_region
                  go_wp2_with fail
                  go_roundw
                  case rel =>
                    refine ⟨k + 1, by omega, by go_num, ?_, Lib.hid hW.out.drew⟩
                    rw [Hst.out, ← E3.out, lett_sub jp hj3]
                    apply congrArg Value.string
                    apply WideShapes.bytes_inj
                    simp [ByteArray.data_append, strL]
                  case measure => simp [intOf]; omega
                · have m59 : ((k : Int) % 60 == 59) = false := by rw [beq_eq_false_iff_ne]; omega
                  by_cases hle : k + 1 = l4.length
                  · have me : ((k : Int) == (l4.length : Int) - 1) = true := by rw [beq_iff_eq]; omega
                    rw [if_pos (.inr hle)] at hst
                    have Hst := Lib.hid hst
                    clear hst m1 h60 h59
                    go_wp2_with fail
                    go_region
                    go_wp2_with fail
                    go_roundw
                    case rel =>
                      refine ⟨k + 1, by omega, by go_num, ?_, Lib.hid hW.out.drew⟩
                      rw [Hst.out, ← E3.out, lett_sub jp hj3]
                      apply congrArg Value.string
                      apply WideShapes.bytes_inj
                      simp [ByteArray.data_append, strL]
                    case measure => simp [intOf]; omega
                  · have me : ((k : Int) == (l4.length : Int) - 1) = false := by rw [beq_eq_false_iff_ne]; omega
                    rw [if_neg (by omega)] at hst
                    have Hst := Lib.hid hst
                    clear hst m1 h60 h59
                    go_wp2_with fail
                    go_region
                    go_wp2_with fail
                    go_roundw
                    case rel =>
                      refine ⟨k + 1, by omega, by go_num, ?_, Lib.hid hW.out.drew⟩
                      rw [Hst.out, ← E3.out, lett_sub jp hj3]
                      apply congrArg Value.string
                      apply WideShapes.bytes_inj
                      simp [ByteArray.data_append, strL]
                    case measure => simp [intOf]; omega
            · have hk' : k = l4.length := by omega
              subst hk'
              rw [rp_all]
              go_wp2_with fail
              go_ret
              refine ⟨ret_str ?_, HV.out.trans (hW.out.mono HV.out.size)⟩
              unfold putT
              rw [← eT2, ← eT1, ← eT0]
end

end Go.Proofs.YtplcfijcmihhlaaDoor
