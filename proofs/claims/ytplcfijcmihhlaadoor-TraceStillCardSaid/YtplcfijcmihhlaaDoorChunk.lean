/-
  The walk of body's chunk over a body that stops behind its first data.
-/
import Derived.Test.YtplcfijcmihhlaaDoorReader
import Derived.Deep.CutBlock
import Derived.Deep.CutRange
namespace Go.Proofs.YtplcfijcmihhlaaDoor
open Go.RowKit
set_option linter.unusedVariables false
set_option linter.unusedSimpArgs false

def enc8 (x : Int) : Value := .int .u8 x

theorem Tryd.info_u8 : ∃ i, Tryd.prog.info? 5 = some i ∧ i.zero = some (.int .u8 0) ∧ i.size = 1 ∧ i.bytes = 1 := by
  have h : (Tryd.prog.info? 5).map (fun i => (i.zero, i.size, i.bytes)) = some (some (.int .u8 0), 1, 1) := by kernel_rfl
  obtain ⟨i, hi, he⟩ := Option.map_eq_some_iff.1 h
  simp only [Prod.mk.injEq] at he
  exact ⟨i, hi, he.1, he.2.1, he.2.2⟩

section
variable {W : World} {R : Nat} {s : Value} {a b c at' : Int} {data : Value}
theorem RAt.setData (h : RAt W R s a b c at' data) (v : Value) : RAt (W.setCell ⟨R, 5, none⟩ v) R s a b c at' v := by
  obtain ⟨hlt, hk⟩ := Array.getElem?_eq_some_iff.1 h.box
  refine ⟨?_⟩
  show (W.heap.modify R _)[R]? = _
  rw [Array.getElem?_eq_getElem (by rw [Array.size_modify]; exact hlt), Array.getElem_modify_self, hk]
  rfl

set_option maxHeartbeats 8000000 in
set_option maxRecDepth 100000 in
theorem chunk_stop {g o d cap : Nat} {l : List Int} (h : RAt W R (.slice (some ⟨g, o, none⟩) (d + 3) cap) a b c 0 (.slice none 0 0)) (hd0 : 1 ≤ d) (hd1 : d ≤ 9) (hcap : d + 3 ≤ cap) (hcm : cap ≤ maxLen) (hg : g ≠ R) (hgl : g < W.heap.size)
    (hl : l.length = d + 3) (h0 : l[0]?.getD (0 : Int) = (48 + (d : Int) : Int)) (h1 : l[1]?.getD (0 : Int) = 13) (h2 : l[2]?.getD (0 : Int) = 10) (hc : ∀ j, j < d + 3 → W.cell? ⟨g, o + j, none⟩ = some (enc8 (l[j]?.getD 0))) :
    Calls Tryd.prog 89 #[.pointer (some ⟨R, 0, none⟩)] W fun e w' => e = .panicked [stopP (d + 3 : Nat) 4] ∧
      ∃ v, RAt w' R (.slice (some ⟨g, o, none⟩) (d + 3) cap) a b c (d + 3 : Nat) v ∧ w'.ownsRow W.heap.size 5 1 v d ((l.drop 3).map enc8) ∧ Touch (· = R) W w' := by
  obtain ⟨i0, hi, hz0, hz1, hz2⟩ := Tryd.info_u8
  unfold maxLen at hcm
  have y0 : W.cell? ⟨g, o + 0, none⟩ = some (.int .u8 (48 + d)) := by rw [hc 0 (by omega), h0]; rfl
  have y1 : W.cell? ⟨g, o + (0 + 1), none⟩ = some (.int .u8 13) := by rw [hc (0 + 1) (by omega)]; show some (enc8 (l[1]?.getD 0)) = _; rw [h1]; rfl
  have y2 : W.cell? ⟨g, o + (1 + 1), none⟩ = some (.int .u8 10) := by rw [hc (1 + 1) (by omega)]; show some (enc8 (l[2]?.getD 0)) = _; rw [h2]; rfl
  have hS := Lib.hid (size_ok (i := 0) h (by omega) (by omega) hg hgl (by omega) (by omega) y0 y1)
  have HC := Lib.hid hc
  have HRl := lt_of_heap h.box
  clear h hc y0
  go_enter Tryd.func89, Tryd.ntmps89
  go_wp2_with fail
  refine hS.out.mono ?_; rintro e w1 ⟨rfl, k1, t1⟩; dsimp only
  have hE := Lib.hid (extension_no k1 (by omega) ((t1.cell (p := ⟨g, o + (0 + 1), none⟩) hgl hg).trans y1))
  have K1 := Lib.hid k1
  have T1 := Lib.hid t1
  clear k1 t1
  go_wp2_with fail
  refine hE.out.mono ?_; rintro e w2 ⟨rfl, q, rfl⟩; dsimp only
  have hN := Lib.hid (end_ok (K1.out.drewN q) (by omega) (by omega) hg (Nat.lt_of_lt_of_le hgl T1.out.size) ((T1.out.cell (p := ⟨g, o + (0 + 1), none⟩) hgl hg).trans y1) ((T1.out.cell (p := ⟨g, o + (1 + 1), none⟩) hgl hg).trans y2))
  clear y1 y2
  go_wp2_with fail
  refine hN.out.mono ?_; rintro e w3 ⟨rfl, k3, t3⟩; dsimp only
  have T3 := Lib.hid ((T1.out.drewN q).trans t3)
  have K3 := Lib.hid k3
  have n0 : ∀ k, (w3.drewN k).cell? ⟨R, 0, none⟩ = some (.slice (some ⟨g, o, none⟩) (d + 3) cap) := fun _ => k3.c0
  have n4 : ∀ k, (w3.drewN k).cell? ⟨R, 4, none⟩ = some (.int .i64 3) := fun _ => k3.c4
  have n5 : ∀ k, (w3.drewN k).cell? ⟨R, 5, none⟩ = some (.slice none 0 0) := fun _ => k3.c5
  have hdz : ((48 + (d : Int) - 48 : Int)) = d := by omega
  have b1 : IntKind.u64.wrap (d : Int) = d := IntWalk.u64_in _ (by omega)
  have b2 : IntKind.i64.wrap (d : Int) = d := IntWalk.i64_in _ (by omega)
  have b3 : IntKind.i64.wrap ((d : Int) + 3 - 3) = d := by rw [show (d : Int) + 3 - 3 = d by omega]; exact b2
  rw [hdz]
  have hne : ((d : Int) == 0) = false := by simp; omega
  clear k3 t3
  go_wp2_with fail
  go_quiet (fail)
  have k4 := K3.out.drewN nq
  have T4 := Lib.hid (T3.out.drewN nq)
  obtain ⟨w4, e4⟩ : ∃ w, w3.drewN nq = w := ⟨_, rfl⟩
  rw [e4] at k4 T4 ⊢
  have K4 := Lib.hid k4
  have m0 := k4.c0
  have m4 := k4.c4
  have m5 := k4.c5
  clear k4 n0 n4 n5 e4 hN hE hS K1 K3
  change w4.cell? ⟨R, 4, none⟩ = some (.int .i64 3) at m4
  have c1 : IntKind.i64.wrap (3 + (d : Int)) = 3 + d := IntWalk.i64_in _ (by omega)
  go_wp2_with fail
  have hlen3 : (l.drop 3).length = d := by rw [List.length_drop]; omega
  have hnews : ∀ j u, ((l.drop 3).map enc8)[j]? = some u → w4.drew.cell? ((⟨g, o + 3, none⟩ : Addr).add j) = some u := by
    intro j u hu
    have hj : j < d := by
      have := (List.getElem?_eq_some_iff.1 hu).1; rw [List.length_map, hlen3] at this; exact this
    rw [WideShapes.add_plain]
    have h5 := (T4.out.cell (p := ⟨g, o + (3 + j), none⟩) hgl hg).trans (HC.out (3 + j) (by omega))
    rw [← Nat.add_assoc] at h5
    refine Eq.trans (show w4.cell? _ = _ from h5) ?_
    rw [List.getElem?_map, List.getElem?_drop] at hu
    rw [← hu, List.getElem?_eq_getElem (by omega)]
    rfl
  have HN := Lib.hid hnews
  have HS := T4.out.size
  clear hnews
  have hne3 : ¬ cap = 3 := by omega
  have hs1 : (3 : Int) + (d : Int) ≤ (cap : Int) := by omega
  have hs2 : (3 : Int) ≤ 3 + (d : Int) := by omega
  have hs3 : (0 : Int) ≤ 3 + (d : Int) := by omega
  go_cut [] from 26 to 49 (fun wx => ∃ gg cap' w5, Hid (RAt (w5.setCell ⟨R, 5, none⟩ (.slice (some ⟨gg, 0, none⟩) d cap')) R (.slice (some ⟨g, o, none⟩) (d + 3) cap) a b c 3 (.slice (some ⟨gg, 0, none⟩) d cap')) ∧ Hid (w5.ownsRow w4.heap.size 5 1 (.slice (some ⟨gg, 0, none⟩) d cap') d ((l.drop 3).map enc8)) ∧ Hid (w4.drew.grownBy w5 none) ∧ wx = w5.setCell ⟨R, 5, none⟩ (.slice (some ⟨gg, 0, none⟩) d cap'))
  case first =>
    go_region_law ((refine step_append_lies _ (by rfl) _ _ _ (by rfl) w4.heap.size 5 i0 _ 1 1 Tryd.underlying25 hi hz0 hz1 hz2 rfl (by decide) (.slice none 0 0) 0 [] (by rfl) (World.ownsRow_nil _ _ _ _) ⟨g, o + 3, none⟩ (3 + d - 3) (cap - 3) ((l.drop 3).map enc8) (by rfl) (by rw [List.length_map, hlen3]; omega) HN.out (by intro u hu; obtain ⟨y, _, rfl⟩ := List.mem_map.1 hu; rfl) (by omega) (by unfold maxLen; omega) (by omega) (Nat.le_refl _) w4.heap.size rfl ?_; intro gg cap' w5 hown1 hgrow hat hglt; rw [show 0 + (3 + d - 3) = d by omega] at hown1 ⊢; have hR5 := RAt.mk (((hgrow.block R (Nat.lt_of_lt_of_le HRl HS) (by simp [Value.ownBlock])).trans K4.out.box)); have j5 := hR5.c5; have f5 := hR5.f 5; have HR6 := Lib.hid (hR5.setData (.slice (some ⟨gg, 0, none⟩) d cap')); have HO := Lib.hid hown1; have HG := Lib.hid hgrow; clear hR5 hown1 hgrow hat))
    all_goals (go_wp2_with fail; go_meet; case rel => exact ⟨gg, cap', w5, HR6, HO, HG, rfl⟩)
  case rest =>
    obtain ⟨gg, cap', w5, HR6, HO, HG, rfl⟩ := hcut
    have hR6 := HR6.out
    have q4 := hR6.c4
    have p4 := hR6.f 4
    have hR7 : RAt ((w5.setCell ⟨R, 5, none⟩ (.slice (some ⟨gg, 0, none⟩) d cap')).setCell ⟨R, 4, none⟩ (.int .i64 (3 + (d : Int)))) R (.slice (some ⟨g, o, none⟩) (d + 3) cap) a b c ((d + 3 : Nat) : Int) (.slice (some ⟨gg, 0, none⟩) d cap') := by
      have := hR6.setAt (3 + (d : Int))
      rwa [show (3 + (d : Int)) = ((d + 3 : Nat) : Int) by omega] at this ⊢
    have HR7 := Lib.hid hR7
    have HM := Lib.hid (must_ok (.pointer (some ⟨R, 0, none⟩)) 4 ((w5.setCell ⟨R, 5, none⟩ (.slice (some ⟨gg, 0, none⟩) d cap')).setCell ⟨R, 4, none⟩ (.int .i64 (3 + (d : Int)))))
    have HE := Lib.hid (end_no hR7 (Nat.le_refl _))
    have hTb : Touch (fun k => k = R) w5 ((w5.setCell ⟨R, 5, none⟩ (.slice (some ⟨gg, 0, none⟩) d cap')).setCell ⟨R, 4, none⟩ (.int .i64 (3 + (d : Int)))) := ((Touch.refl (fun k => k = R) w5).setCell (p := ⟨R, 5, none⟩) (.inl rfl) _).setCell (p := ⟨R, 4, none⟩) (.inl rfl) _
    have hTa : Touch (fun k => k = R) w4 w5 := ⟨HG.out.os, HG.out.tape, HG.out.output, HG.out.size, fun k hk _ => HG.out.block k hk (by simp [Value.ownBlock])⟩
    have HT7 := Lib.hid ((T4.out.trans hTa).trans hTb)
    have HO7 := Lib.hid (own_touchL HO.out hTb (fun k hk e => own_ge HO.out (k := R) (by have := T4.out.size; omega) (by rw [hk, e])))
    clear hR6 hR7 hTa hTb m0 m4 m5
    go_wp2_with fail
    refine HM.out.mono ?_; rintro e w8 ⟨rfl, rfl⟩; dsimp only
    go_wp2_with fail
    refine HE.out.mono ?_; rintro e w8 ⟨rfl, q8, rfl⟩; dsimp only
    refine ⟨rfl, rfl, _, HR7.out.drewN q8, ?_, HT7.out.drewN q8⟩
    have h9 := own_touchL HO7.out ((Touch.refl (fun _ => False) _).drewN q8) (fun _ _ h => h)
    exact own_lower (by simpa using h9) (T4.out.size)
end

end Go.Proofs.YtplcfijcmihhlaaDoor
