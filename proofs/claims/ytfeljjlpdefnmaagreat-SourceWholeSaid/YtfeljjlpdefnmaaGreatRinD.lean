/-
  Layer 3 (ring): Drop, Read, Len.
-/
import Derived.Test.YtfeljjlpdefnmaaGreatRinQ
namespace Go.Proofs.YtfeljjlpdefnmaaGreat
open Go.RowKit
set_option linter.unusedVariables false
set_option linter.unusedSimpArgs false
attribute [local go_sem] Oper.semAt_some

def Rg.drop (r : Rg) (n : Nat) : Rg := ⟨r.N, (r.head + min n r.held.length) % r.N, r.held.drop n⟩
theorem Rg.drop_wf {r : Rg} (h : r.wf) (n : Nat) : (r.drop n).wf := ⟨h.n1, h.n2, Nat.mod_lt _ h.n1, by
  have := h.len
  show (r.held.drop n).length ≤ r.N
  rw [List.length_drop]; omega⟩
section
variable {W W1 : World} {R a : Nat} {r : Rg}
theorem RLen_any (h : RgAt W R a r) : Calls Tryz.prog 33 #[.pointer (some ⟨R, 0, none⟩)] W fun e w' => e = .returned (.int .i64 r.held.length) ∧ W = w' := by
  have c2 := h.c2
  clear h
  go_enter Tryz.func33, Tryz.ntmps33
  go_wp2_with fail
  go_ret
  exact ⟨rfl, rfl⟩
theorem RgAt.dropped (h : RgAt W R a r) (hw : r.wf) (n : Nat) (W1 : World) (ht : Touch (· = R) W W1)
    (hb : W1.heap[R]? = some (.cells #[.slice (some ⟨a, 0, none⟩) r.N r.N, .int .i64 ((r.head + min n r.held.length) % r.N : Nat), .int .i64 (r.held.length - min n r.held.length : Nat)] 89 (0, 0))) : RgAt W1 R a (r.drop n) := by
  have hdl : (r.held.drop n).length = r.held.length - min n r.held.length := by rw [List.length_drop]; omega
  refine ⟨by rw [hb]; unfold Rg.drop; dsimp only; rw [hdl], ?_, h.ne⟩
  obtain ⟨cur, hg, hcl, hcr⟩ := h.row
  refine ⟨cur, (ht.block a h.ltA h.ne).trans hg, hcl, fun i hi => ?_⟩
  have hi' : i < (r.held.drop n).length := hi
  rw [hdl] at hi'
  have hm : min n r.held.length = n := by omega
  have := hcr (n + i) (by omega)
  rw [show (r.drop n).held[i]?.getD 0 = r.held[n + i]?.getD 0 from by unfold Rg.drop; dsimp only; rw [List.getElem?_drop], ← this]
  have h1 := hw.hd
  have h2 := hw.len
  show cur[rpos r.N ((r.head + min n r.held.length) % r.N) i]? = _
  rw [hm]
  have hv : (r.head + n < r.N ∧ (r.head + n) % r.N = r.head + n) ∨ (r.N ≤ r.head + n ∧ (r.head + n) % r.N = r.head + n - r.N) := by
    by_cases hlt : r.head + n < r.N
    · exact .inl ⟨hlt, Nat.mod_eq_of_lt hlt⟩
    · exact .inr ⟨by omega, by rw [Nat.mod_eq_sub_mod (by omega), Nat.mod_eq_of_lt (by omega)]⟩
  congr 1
  unfold rpos
  split <;> split <;> omega
set_option maxRecDepth 100000 in
set_option maxHeartbeats 4000000 in
theorem RDrop_any (h : RgAt W R a r) (hw : r.wf) (n : Nat) (hn : n ≤ 1000000) :
    Calls Tryz.prog 48 #[.pointer (some ⟨R, 0, none⟩), .int .i64 n] W fun e w' => e = .returned (.int .i64 (min n r.held.length : Nat)) ∧ RgAt w' R a (r.drop n) ∧ Touch (· = R) W w' := by
  have c0 := h.c0
  have c1 := h.c1
  have c2 := h.c2
  have f1 := h.f 1
  have f2 := h.f 2
  have hD := h.dropped hw n
  obtain ⟨m, hm⟩ : ∃ m, min n r.held.length = m := ⟨_, rfl⟩
  rw [hm] at hD ⊢
  have s0 : max (n : Int) 0 = (n : Int) := by omega
  have s1 : min (n : Int) (r.held.length : Int) = (m : Int) := by omega
  have n1 := hw.n1
  have n2 := hw.n2
  have hhd := hw.hd
  have hll := hw.len
  have Hbox := Lib.hid h.box
  obtain ⟨N, hN⟩ : ∃ N, r.N = N := ⟨_, rfl⟩
  obtain ⟨H, hH⟩ : ∃ H, r.head = H := ⟨_, rfl⟩
  obtain ⟨L, hL⟩ : ∃ L, r.held.length = L := ⟨_, rfl⟩
  simp only [hN, hH, hL] at c0 c1 c2 hD s1 n1 n2 hhd hll hm Hbox
  obtain ⟨p, hp⟩ : ∃ p, (H + m) % N = p := ⟨_, rfl⟩
  rw [hp] at hD
  have hpN : p < N := by rw [← hp]; exact Nat.mod_lt _ n1
  have a1 : IntKind.i64.wrap ((H : Int) + (m : Int)) = ((H + m : Nat) : Int) := by rw [IntWalk.i64_in _ (by omega)]; omega
  have a2 : Int.tmod ((H : Int) + (m : Int)) (N : Int) = (p : Int) := by rw [← hp, Int.tmod_eq_emod_of_nonneg (by omega), Int.natCast_emod, Int.natCast_add]
  have a2' : ((H : Int) + (m : Int)) % (N : Int) = (p : Int) := by rw [← hp, Int.natCast_emod, Int.natCast_add]
  have a3 : IntKind.i64.wrap (p : Int) = (p : Int) := IntWalk.i64_in _ (by omega)
  have a4 : IntKind.i64.wrap ((L : Int) - (m : Int)) = ((L - m : Nat) : Int) := by rw [IntWalk.i64_in _ (by omega)]; omega
  have z1 : (N : Int) ≠ 0 := by omega
  have z2 : ¬ N = 0 := by omega
  have HD := Lib.hid hD
  have hx1 := Lib.hid (setBoxR (j := 1) (.int .i64 (p : Int)) Hbox.out)
  clear h hw hD hN hH hL hp
  go_enter Tryz.func48, Tryz.ntmps48
  go_wp2_with fail
  go_region_law (fail)
  all_goals
    obtain ⟨W2, eW2⟩ : ∃ W2, (W.setCell ⟨R, 1, none⟩ (.int .i64 (p : Int))).drew = W2 := ⟨_, rfl⟩
    rw [eW2]
    have hB2 : W2.heap[R]? = some (.cells #[.slice (some ⟨a, 0, none⟩) N N, .int .i64 p, .int .i64 L] 89 (0, 0)) := by rw [← eW2]; exact hx1.out
    have T2 : Touch (· = R) W W2 := by rw [← eW2]; exact ((Touch.refl (· = R) W).setCell (p := ⟨R, 1, none⟩) (.inl rfl) _).drew
    have d2 : W2.cell? ⟨R, 2, none⟩ = some (.int .i64 L) := by simp [World.cell?, hB2]
    have g2 : W2.frozen? ⟨R, 2, none⟩ = false := by simp [World.frozen?, hB2]
    have hB3 := setBoxR (j := 2) (.int .i64 ((L - m : Nat) : Int)) hB2
    have T3 := Lib.hid (T2.setCell (p := ⟨R, 2, none⟩) (.inl rfl) (.int .i64 ((L - m : Nat) : Int)))
    have HF := Lib.hid (HD.out _ T3.out hB3)
    clear eW2 hB2 T2 hB3 c0 c1 c2 f1 f2
    go_wp2_with fail
    go_ret
    exact ⟨rfl, HF.out, T3.out⟩
set_option maxRecDepth 100000 in
theorem RRead_any (h : RgAt W R a r) (hw : r.wf) (n : Nat) (hn : n ≤ 1000000) :
    Calls Tryz.prog 35 #[.pointer (some ⟨R, 0, none⟩), .int .i64 n] W fun e w' => ∃ vo, e = .returned vo ∧ w'.ownsRow W.heap.size 5 1 vo (min n r.held.length) ((r.held.take n).map encU) ∧ RgAt w' R a (r.drop n) ∧ Touch (· = R) W w' := by
  have hP := Lib.hid (RPeek_any h hw n hn)
  have H := Lib.hid h
  have Hw := Lib.hid hw
  have Hn := Lib.hid hn
  clear h hw hn
  go_enter Tryz.func35, Tryz.ntmps35
  go_wp2_with fail
  refine hP.out.mono ?_; rintro e w1 ⟨vo, rfl, hown, hb⟩; dsimp only
  have HO := Lib.hid hown
  have HB := Lib.hid hb
  have hDr := Lib.hid (RDrop_any (H.out.below hb) Hw.out n Hn.out)
  clear hown hb
  go_wp2_with fail
  refine hDr.out.mono ?_; rintro e w2 ⟨rfl, hr2, ht2⟩; dsimp only
  have HR2 := Lib.hid hr2
  have HT2 := Lib.hid ht2
  clear hr2 ht2
  go_wp2_with fail
  go_ret
  exact ⟨vo, rfl, own_touchL HO.out HT2.out (fun k hk e => own_ge HO.out (k := R) H.out.ltR (by rw [hk, e])), HR2.out, (Touch.of_new HB.out).trans HT2.out⟩
end

end Go.Proofs.YtfeljjlpdefnmaaGreat
