/-
  Layer 3 (ring): the iterator of what is held.
-/
import Derived.Test.YtfeljjlpdefnmaaGreatRinW
import Derived.Sort.QuietIn
namespace Go.Proofs.YtfeljjlpdefnmaaGreat
open Go.RowKit
set_option linter.unusedVariables false
set_option linter.unusedSimpArgs false
attribute [local go_sem] Oper.semAt_some

section
variable {W W1 : World} {R a : Nat} {r : Rg}
theorem RAll_any (W : World) : Calls Tryz.prog 51 #[.pointer (some ⟨R, 0, none⟩)] W fun e w' => e = .returned (.func (.func 52) #[] #[.pointer (some ⟨W.heap.size, 0, none⟩)]) ∧ W.alloc (.cells #[.pointer (some ⟨R, 0, none⟩)] 46) = w' := by
  go_enter Tryz.func51, Tryz.ntmps51
  go_wp2_with fail
  go_ret
  exact ⟨rfl, rfl⟩
theorem idx2_0 (x y : Value) (w : World) : (Instr.index 107 (.agg #[x, y]) (.int .i64 0)).run Tryz.prog w = .ok x w := by kernel_rfl
theorem idx2_1 (x y : Value) (w : World) : (Instr.index 107 (.agg #[x, y]) (.int .i64 1)).run Tryz.prog w = .ok y w := by kernel_rfl
/-- What the iterator tells of the i-th byte. -/
def rgEnc (r : Rg) (i : Nat) : Array Value := #[.int .i64 ((r.head + i) % r.N : Nat), encU (r.held[i]?.getD 0)]
set_option maxRecDepth 100000 in
set_option maxHeartbeats 4000000 in
theorem all1_in (l q n₀ : Nat) (X : Nat → Prop) (hXq : ¬ X q) (hXR : ¬ X R) (hXa : ¬ X a) (hqn : q < n₀) (hRn : R < n₀) (han : a < n₀) (J Jx : List Nat → World → Prop) (W : World)
    (hY : ∀ pre x W1, J pre W1 → pre.length < r.held.length → YieldAt Fence.wide 6 Tryz.prog l (rgEnc r x) W1 fun e W' =>
      (e = .returned (.bool true) ∧ J (pre ++ [x]) W' ∧ KeepX n₀ X W1 W') ∨ (e = .returned (.bool false) ∧ Jx (pre ++ [x]) W'))
    (hJ : AbidesFrom W.heap.size J) (hq : W.cell? ⟨q, 0, none⟩ = some (.pointer (some ⟨R, 0, none⟩))) (h : RgAt W R a r) (hw : r.wf) (h0 : J [] W) :
    CallsIn Fence.wide 7 Tryz.prog 52 #[.func (.yield l) #[] #[], .pointer (some ⟨q, 0, none⟩)] W fun e W' => (∃ v, e = .returned v) ∧
      ((∃ ys, ys = upto id r.held.length ∧ J ys W') ∨ (∃ pre, (∃ j, j ≤ r.held.length ∧ pre = upto id j) ∧ Jx pre W')) := by
  have c0 := h.c0
  have c1 := h.c1
  have c2 := h.c2
  have d1 : ∀ m, (W.drewN m).cell? ⟨R, 1, none⟩ = some (.int .i64 (r.head : Int)) := fun _ => c1
  have d2 : ∀ m, (W.drewN m).cell? ⟨R, 2, none⟩ = some (.int .i64 (r.held.length : Int)) := fun _ => c2
  have dq : ∀ m, (W.drewN m).cell? ⟨q, 0, none⟩ = some (.pointer (some ⟨R, 0, none⟩)) := fun _ => hq
  have hP := fun m => Lib.hid (RParts_any (h.drewN m) hw r.head r.held.length (by have := hw.hd; have := hw.n2; omega) hw.len)
  have hf : r.head % r.N = r.head := Nat.mod_eq_of_lt hw.hd
  rw [hf] at hP
  obtain ⟨k1, hk1⟩ : ∃ k1, min r.held.length (r.N - r.head) = k1 := ⟨_, rfl⟩
  obtain ⟨k2, hk2⟩ : ∃ k2, r.held.length - k1 = k2 := ⟨_, rfl⟩
  rw [hk1, hk2] at hP
  unfold PartsP partsV at hP
  obtain ⟨A1, hA1⟩ : ∃ A1, (some ⟨a, if k1 = 0 then 0 else r.head, none⟩ : Option Addr) = A1 := ⟨_, rfl⟩
  rw [hA1] at hP
  refine callsIn_of_wp Tryz.func52 rfl trivial ?_ rfl
  simp only [Tryz.ntmps52, List.size_toArray, List.length_cons, List.length_nil, Nat.reduceAdd, Nat.reduceSub, Array.replicate_succ, Array.replicate_zero, List.push_toArray, List.append_toArray, List.nil_append, List.cons_append]
  gi_wp2_with fail
  refine wpIn_wide.2 ?_
  go_quiet ((refine (hP _).out.mono ?_; rintro e w2 ⟨rfl, q2, rfl⟩; exact ⟨rfl, _, World.drewN_drewN _ _ _⟩))
  gi_wp2_with fail
  clear hP
  have hk1l : k1 ≤ r.held.length := by omega
  have hk1N : r.head + k1 ≤ r.N := by have := hw.hd; omega
  have hk12 : k1 + k2 = r.held.length := by omega
  have hseg1 : ∀ j, j < k1 → A1 = some ⟨a, r.head, none⟩ ∧ W.cell? ⟨a, r.head + j, none⟩ = some (encU (r.held[0 + j]?.getD 0)) := fun j hj => by
    refine ⟨by rw [← hA1, if_neg (by omega)], ?_⟩
    obtain ⟨cur, hg, hcl, hcr⟩ := h.row
    have := hcr j (by omega)
    rw [rpos, if_pos (by omega)] at this
    rw [Nat.zero_add]
    simpa [World.cell?, hg] using this
  have hseg2 : ∀ j, j < k2 → (some ⟨a, 0, none⟩ : Option Addr) = some ⟨a, 0, none⟩ ∧ W.cell? ⟨a, j, none⟩ = some (encU (r.held[k1 + j]?.getD 0)) := fun j hj => by
    refine ⟨rfl, ?_⟩
    obtain ⟨cur, hg, hcl, hcr⟩ := h.row
    have := hcr (k1 + j) (by omega)
    rw [rpos, if_neg (by omega), show r.head + (k1 + j) - r.N = j by omega] at this
    simpa [World.cell?, hg] using this
  have HS1 := Lib.hid hseg1
  have HS2 := Lib.hid hseg2
  have hJ1 : ∀ m, J [] (W.drewN m) := fun m => hJ _ _ _ none h0 ⟨rfl, rfl, rfl, Nat.le_refl _, fun k hk _ => rfl⟩ (fun r e => by cases e)
  have HY := Lib.hid hY
  have HJ1 := Lib.hid hJ1
  have hN1 := hw.n1
  have hN2 := hw.n2
  have hHd := hw.hd
  have hLN := hw.len
  unfold rgEnc at HY
  obtain ⟨N, hN⟩ : ∃ N, r.N = N := ⟨_, rfl⟩
  obtain ⟨H, hH⟩ : ∃ H, r.head = H := ⟨_, rfl⟩
  obtain ⟨L, hL⟩ : ∃ L, r.held.length = L := ⟨_, rfl⟩
  have HL := Lib.hid hL
  simp only [hN, hH, hL] at c0 c1 c2 d1 d2 HY HS1 HS2 hk1l hk1N hk12 hN1 hN2 hHd hLN ⊢
  clear h hw hY hJ h0 hf hk1 hk2 hA1 hseg1 hseg2 hJ1 hN hH hL
  have hz1 : (N : Int) ≠ 0 := by omega
  gi_loopw [3, 30] (fun pl kk wr => ∃ (k : Int) (c : Nat), k ≤ 2 ∧ kk = .int .i64 k ∧ pl = .int .i64 ((H + c : Nat) : Int) ∧ ((k = 0 ∧ 0 = c) ∨ (k = 1 ∧ k1 = c) ∨ (k = 2 ∧ L = c)) ∧ Hid (J (upto id c) wr) ∧ Hid (KeepX n₀ X W wr)) (fun _ kk _ => 2 - (intOf kk).toNat)
  case atStart => exact ⟨0, 0, by omega, rfl, rfl, .inl ⟨rfl, rfl⟩, Lib.hid (HJ1.out _), Lib.hid ((KeepX.refl _).drewN _)⟩
  case round =>
    obtain ⟨k, c, hk, rfl, rfl, hkc, hJs, hK⟩ := hrel
    have i0 := idx2_0 (.slice A1 k1 k1) (.slice (some ⟨a, 0, none⟩) k2 k2)
    have i1 := idx2_1 (.slice A1 k1 k1) (.slice (some ⟨a, 0, none⟩) k2 k2)
    rcases hkc with ⟨rfl, rfl⟩ | ⟨rfl, rfl⟩ | ⟨rfl, rfl⟩
    · gi_wp2_with fail
      gi_loopw [3, 35] (fun pl jj wr => ∃ j p : Nat, j ≤ k1 ∧ p = H + (0 + j) ∧ jj = .int .i64 j ∧ pl = .int .i64 (p : Int) ∧ Hid (J (upto id (0 + j)) wr) ∧ Hid (KeepX n₀ X W wr)) (fun _ jj _ => k1 - (intOf jj).toNat)
      case atStart => exact ⟨0, H + 0, by omega, by omega, rfl, rfl, hJs, hK⟩
      case round =>
        obtain ⟨j, p, hj, hp, rfl, rfl, hJs, hK⟩ := hrel
        by_cases hlt : j < k1
        · obtain ⟨hA, hce⟩ := HS1.out j hlt
          subst hA
          have hce' := (hK.out.cell (p := ⟨a, H + j, none⟩) han hXa).trans hce
          have hq' := (hK.out.cell (p := ⟨q, 0, none⟩) hqn hXq).trans hq
          have hr0 := (hK.out.cell (p := ⟨R, 0, none⟩) hRn hXR).trans c0
          have hy0 := HY.out _ (0 + j) wr hJs.out (by rw [upto_length]; omega)
          obtain ⟨pm, hpm⟩ : ∃ pm, (H + (0 + j)) % N = pm := ⟨_, rfl⟩
          have s0 : Int.tmod (p : Int) (N : Int) = (pm : Int) := by rw [← hpm, ← hp, Int.tmod_eq_emod_of_nonneg (Int.natCast_nonneg _)]; omega
          have s1 : IntKind.i64.wrap (pm : Int) = (pm : Int) := IntWalk.i64_in _ (by have := Nat.mod_lt (H + (0 + j)) (show N > 0 by omega); omega)
          have s2 : IntKind.i64.wrap ((p : Int) + 1) = (p : Int) + 1 := IntWalk.i64_in _ (by omega)
          have s3 : IntKind.i64.wrap ((j : Int) + 1) = (j : Int) + 1 := IntWalk.i64_in _ (by omega)
          have p1 : (0 : Int) ≤ (j : Int) := Int.natCast_nonneg j
          have p2 : (j : Int) < (k1 : Int) := by omega
          rw [hpm] at hy0
          have Ht := Lib.hid (show upto id (0 + j) ++ [0 + j] = upto id (0 + (j + 1)) from (upto_succ id (0 + j)).symm)
          generalize encU (r.held[0 + j]?.getD 0) = bv at *
          have Hp := Lib.hid hp
          have hpb : p ≤ 200000 := by omega
          clear hpm hce hp
          obtain ⟨fn, tmps, assign, body, hy, hR⟩ := hy0
          gi_wp2_with fail
          refine hR.mono ?_
          rintro e W3 (⟨rfl, hJ3, hk3⟩ | ⟨rfl, hJx3⟩)
          · have hJ3' := Lib.hid hJ3
            have hk3' := Lib.hid hk3
            clear hJ3 hk3
            gi_wp2_with fail
            go_roundw
            case rel => exact ⟨j + 1, p + 1, by omega, by have := Hp.out; omega, by go_num, by go_num, Lib.hid (by rw [← Ht.out]; exact hJ3'.out), Lib.hid (hK.out.trans hk3'.out)⟩
            case measure => simp [intOf]; omega
          · have hJx3' := Lib.hid hJx3
            clear hJx3
            gi_wp2_with fail
            refine bodyPost_ret (results_none rfl _ _ _) rfl ?_
            exact ⟨⟨_, rfl⟩, .inr ⟨_, ⟨0 + (j + 1), by rw [HL.out]; omega, Ht.out⟩, hJx3'.out⟩⟩
        · have hend : k1 ≤ j := by omega
          have Hj := Lib.hid (show 0 + j = k1 by omega)
          have hpv : (p : Int) = ((H + k1 : Nat) : Int) := by omega
          clear hlt
          gi_wp2_with fail
          go_roundw
          case rel => exact ⟨1, k1, by omega, by go_num, by rw [hpv], by omega, Lib.hid (by rw [← Hj.out]; exact hJs.out), hK⟩
          case measure => simp [intOf]
    · gi_wp2_with fail
      gi_loopw [3, 35] (fun pl jj wr => ∃ j p : Nat, j ≤ k2 ∧ p = H + (k1 + j) ∧ jj = .int .i64 j ∧ pl = .int .i64 (p : Int) ∧ Hid (J (upto id (k1 + j)) wr) ∧ Hid (KeepX n₀ X W wr)) (fun _ jj _ => k2 - (intOf jj).toNat)
      case atStart => exact ⟨0, H + k1, by omega, by omega, rfl, rfl, hJs, hK⟩
      case round =>
        obtain ⟨j, p, hj, hp, rfl, rfl, hJs, hK⟩ := hrel
        by_cases hlt : j < k2
        · obtain ⟨hA, hce⟩ := HS2.out j hlt
          clear hA
          have hce' := (hK.out.cell (p := ⟨a, j, none⟩) han hXa).trans hce
          have hq' := (hK.out.cell (p := ⟨q, 0, none⟩) hqn hXq).trans hq
          have hr0 := (hK.out.cell (p := ⟨R, 0, none⟩) hRn hXR).trans c0
          have hy0 := HY.out _ (k1 + j) wr hJs.out (by rw [upto_length]; omega)
          obtain ⟨pm, hpm⟩ : ∃ pm, (H + (k1 + j)) % N = pm := ⟨_, rfl⟩
          have s0 : Int.tmod (p : Int) (N : Int) = (pm : Int) := by rw [← hpm, ← hp, Int.tmod_eq_emod_of_nonneg (Int.natCast_nonneg _)]; omega
          have s1 : IntKind.i64.wrap (pm : Int) = (pm : Int) := IntWalk.i64_in _ (by have := Nat.mod_lt (H + (k1 + j)) (show N > 0 by omega); omega)
          have s2 : IntKind.i64.wrap ((p : Int) + 1) = (p : Int) + 1 := IntWalk.i64_in _ (by omega)
          have s3 : IntKind.i64.wrap ((j : Int) + 1) = (j : Int) + 1 := IntWalk.i64_in _ (by omega)
          have p1 : (0 : Int) ≤ (j : Int) := Int.natCast_nonneg j
          have p2 : (j : Int) < (k2 : Int) := by omega
          rw [hpm] at hy0
          have Ht := Lib.hid (show upto id (k1 + j) ++ [k1 + j] = upto id (k1 + (j + 1)) from (upto_succ id (k1 + j)).symm)
          generalize encU (r.held[k1 + j]?.getD 0) = bv at *
          have Hp := Lib.hid hp
          have hpb : p ≤ 200000 := by omega
          clear hpm hce hp
          obtain ⟨fn, tmps, assign, body, hy, hR⟩ := hy0
          gi_wp2_with fail
          refine hR.mono ?_
          rintro e W3 (⟨rfl, hJ3, hk3⟩ | ⟨rfl, hJx3⟩)
          · have hJ3' := Lib.hid hJ3
            have hk3' := Lib.hid hk3
            clear hJ3 hk3
            gi_wp2_with fail
            go_roundw
            case rel => exact ⟨j + 1, p + 1, by omega, by have := Hp.out; omega, by go_num, by go_num, Lib.hid (by rw [← Ht.out]; exact hJ3'.out), Lib.hid (hK.out.trans hk3'.out)⟩
            case measure => simp [intOf]; omega
          · have hJx3' := Lib.hid hJx3
            clear hJx3
            gi_wp2_with fail
            refine bodyPost_ret (results_none rfl _ _ _) rfl ?_
            exact ⟨⟨_, rfl⟩, .inr ⟨_, ⟨k1 + (j + 1), by rw [HL.out]; omega, Ht.out⟩, hJx3'.out⟩⟩
        · have hend : k2 ≤ j := by omega
          have Hj := Lib.hid (show k1 + j = L by omega)
          have hpv : (p : Int) = ((H + L : Nat) : Int) := by omega
          clear hlt
          gi_wp2_with fail
          go_roundw
          case rel => exact ⟨2, L, by omega, by go_num, by rw [hpv], by omega, Lib.hid (by rw [← Hj.out]; exact hJs.out), hK⟩
          case measure => simp [intOf]
    · gi_wp2_with fail
      go_end0
      exact ⟨⟨_, rfl⟩, .inl ⟨_, rfl, by rw [HL.out]; exact hJs.out⟩⟩
end

end Go.Proofs.YtfeljjlpdefnmaaGreat
