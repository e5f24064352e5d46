/-
  Layer 16 (wire): Read.
-/
import Derived.Test.YtfeljjlpdefnmaaGreatWire
import Derived.LoopTactic
import Derived.Deep.LoopGhost
import Derived.StillTailTactics
namespace Go.Proofs.YtfeljjlpdefnmaaGreat
open Go.RowKit
set_option linter.unusedVariables false
set_option linter.unusedSimpArgs false
attribute [local go_sem] Oper.semAt_some

theorem results_tmp2 {fn : Func} {t u : Tmp} (h : fn.results = #[.tmp t, .tmp u]) (tmps : Array Value) (P : Program) (w : World) :
    (results fn tmps).run P w = .ok (.tuple #[tmps.getD t undef, tmps.getD u undef]) w := by
  simp [results, h]
def srcM (S : Nat) (wr : World) : Nat := match wr.cell? ⟨S, 0, none⟩ with | some (.slice _ n _) => n | _ => 0
theorem srcM_of {S : Nat} {wr : World} {A : Option Addr} {n c : Nat} (h : wr.cell? ⟨S, 0, none⟩ = some (.slice A n c)) : srcM S wr = n := by unfold srcM; rw [h]
/-- What a Read comes to, in memory. -/
def RdPP (W : World) (F : Nat → Prop) (S : Nat) (s : Src) (n : Nat) (e : Ending) (w' : World) : Prop :=
  ∃ vp' vo, e = .returned (.tuple #[vo, .int .i64 (s.read n).2.1]) ∧ SrcAt w' F S vp' (s.read n).2.2 ∧ w'.ownsRow W.heap.size 5 1 vo (s.read n).1.length ((s.read n).1.map encU) ∧ Touch F W w'
section
variable {W W1 : World} {F : Nat → Prop} {S : Nat} {vp : Value} {s : Src}
theorem SrcAt.drewN (h : SrcAt W F S vp s) (q : Nat) : SrcAt (W.drewN q) F S vp s := h.touch (X := fun _ => False) ((Touch.refl _ W).drewN q) (fun _ _ h => h)
set_option maxHeartbeats 4000000 in
set_option maxRecDepth 100000 in
theorem SRead_any (h : SrcAt W F S vp s) (n : Nat) (hn : 1 ≤ n) (hn2 : n ≤ 65536) (hr0 : 0 ≤ s.reads) (hr1 : s.reads ≤ 1000000000000) (hp : ∀ p ∈ s.pcs, p.length ≤ 1000000) :
    Calls Tryz.prog 26 #[.pointer (some ⟨S, 0, none⟩), .int .i64 (n : Int)] W (RdPP W F S s n) := by
  have hn' : (1 : Int) ≤ (n : Int) := by omega
  have c4 := h.c4
  have H := Lib.hid h
  cases hs : s.shut with
  | true =>
    have HE := Lib.hid (show s.read n = ([], 8, s) by unfold Src.read; rw [if_pos hs])
    rw [hs] at c4
    clear h hs
    refine calls_of_wp_marks Tryz.func26 rfl ?_
    simp only [Tryz.ntmps26, List.size_toArray, List.length_cons, List.length_nil, Nat.reduceAdd, Nat.reduceSub, Array.replicate_succ, Array.replicate_zero, List.push_toArray, List.append_toArray, List.nil_append, List.cons_append]
    go_wp2_with fail
    go_step3
    go_wp2_with fail
    rw [Exit.noGoto_ret]
    refine post_nomark rfl (results_tmp2 rfl _ _ _) ?_
    unfold RdPP
    rw [HE.out]
    exact ⟨vp, .slice none 0 0, rfl, H.out, World.ownsRow_nil _ _ _ _, Touch.refl _ _⟩
  | false =>
    refine calls_of_wp_marks Tryz.func26 rfl ?_
    simp only [Tryz.ntmps26, List.size_toArray, List.length_cons, List.length_nil, Nat.reduceAdd, Nat.reduceSub, Array.replicate_succ, Array.replicate_zero, List.push_toArray, List.append_toArray, List.nil_append, List.cons_append]
    rw [hs] at c4
    go_wp2_with fail
    go_step3
    go_wp2_with fail
    go_step3
    go_wp2_with fail
    have HS0 := Lib.hid hs
    have Hp := Lib.hid hp
    have HE := Lib.hid (show s.read n = readP s n s.end_ s.reads s.shut s.begun s.pcs by unfold Src.read; rw [if_neg (by rw [hs]; simp)])
    clear h hs hp c4
    go_loopw [4, 5] (fun o e wr => o = .slice none 0 0 ∧ e = .int .i64 0 ∧ ∃ (vp' : Value) (b : Bool) (L : List (List UInt8)), Hid (SrcAt wr F S vp' ⟨L, b, s.end_, s.reads, s.shut⟩) ∧ Hid (s.read n = readP s n s.end_ s.reads s.shut b L) ∧ Hid (Touch F W wr) ∧ Hid (∀ p ∈ L, p.length ≤ 1000000)) (fun _ _ wr => srcM S wr)
    case atStart => exact ⟨rfl, rfl, vp, s.begun, s.pcs, H, HE, Lib.hid (Touch.refl _ _), Hp⟩
    case round =>
      obtain ⟨rfl, rfl, vp', b, L, hS, hE, hT, hL⟩ := hrel
      have c0 := hS.out.c0
      have c1 := hS.out.c1
      have c2 := hS.out.c2
      dsimp only at c1 c2
      by_cases hnil : L = []
      · subst hnil
        obtain ⟨A, c, rfl, -⟩ := hS.out.pc
        have hE2 := Lib.hid (hE.out.trans (by rw [readP]))
        go_wp2_with fail
        all_goals
          refine post_nomark rfl (results_tmp2 rfl _ _ _) ?_
          unfold RdPP
          rw [hE2.out]
          dsimp only
          refine ⟨_, .slice none 0 0, ?_, hS.out, World.ownsRow_nil _ _ _ _, hT.out⟩
          simp_all
      · obtain ⟨g, o, c, u, cur, rfl, hc, hcm, hFg, hgS, hgb, hcell, hpc, htl, hput⟩ := hS.out.pc.first hnil
        obtain ⟨p, L', rfl⟩ : ∃ p L', L = p :: L' := by
          cases L with
          | nil => exact absurd rfl hnil
          | cons p L' => exact ⟨p, L', rfl⟩
        obtain ⟨m, hm⟩ : ∃ m, (p :: L').length = m := ⟨_, rfl⟩
        have hm1 : L'.length + 1 = m := by rw [← hm]; rfl
        dsimp only at hc hpc htl hput c0
        rw [hm] at hc c0 htl
        simp only [List.getElem?_cons_zero, Option.getD_some, List.drop_one, List.tail_cons] at hpc htl hput
        have m1 : (0 : Int) < (m : Int) := by omega
        unfold maxLen at hcm
        have m2 : (1 : Int) ≤ (c : Int) := by omega
        have m3 : (1 : Int) ≤ (m : Int) := by omega
        by_cases hp0 : p = []
        · subst hp0
          obtain ⟨A', c', rfl, -⟩ := hpc
          have f0 := hS.out.f 0
          have f1 := hS.out.f 1
          have hL2 := Lib.hid (fun p hp => hL.out p (List.mem_cons_of_mem _ hp))
          by_cases hc1 : c = 1
          · subst hc1
            obtain rfl : m = 1 := by omega
            have HN := Lib.hid (hS.out.set 0 (.slice (some ⟨g, o, none⟩) 0 0) _ ⟨L', b, s.end_, s.reads, s.shut⟩ rfl (htl _ (.inr rfl)))
            have HTn := Lib.hid (hT.out.setCell (p := ⟨S, 0, none⟩) (.inl H.out.hS) (Value.slice (some ⟨g, o, none⟩) 0 0))
            cases b with
            | true =>
              have hE2 := Lib.hid (hE.out.trans (show _ = readP s n s.end_ s.reads s.shut false L' by rw [readP, if_pos rfl]))
              clear htl hput hnil
              go_wp2_with fail
              refine ⟨⟨rfl, rfl, _, false, L', Lib.hid (HN.out.set 1 (.bool false) _ ⟨L', false, s.end_, s.reads, s.shut⟩ rfl HN.out.pc), hE2, Lib.hid (HTn.out.setCell (p := ⟨S, 1, none⟩) (.inl H.out.hS) (.bool false)), hL2⟩, ?_⟩
              rw [srcM_of (HN.out.set 1 (.bool false) _ ⟨L', false, s.end_, s.reads, s.shut⟩ rfl HN.out.pc).c0, srcM_of c0]
              omega
            | false =>
              have hE2 := Lib.hid (hE.out.trans (show _ = ([], 0, ⟨L', false, s.end_, s.reads, s.shut⟩) by rw [readP, if_neg (by simp)]))
              clear htl hput hnil
              go_wp2_with fail
              refine post_nomark rfl (results_tmp2 rfl _ _ _) ?_
              unfold RdPP
              rw [hE2.out]
              exact ⟨_, .slice none 0 0, rfl, HN.out, World.ownsRow_nil _ _ _ _, HTn.out⟩
          · have hc2 : ¬ c = 1 := hc1
            have hc3 : (1 : Int) < (c : Int) := by omega
            have HN := Lib.hid (hS.out.set 0 (.slice (some ⟨g, o + 1, none⟩) (m - 1) (c - 1)) _ ⟨L', b, s.end_, s.reads, s.shut⟩ rfl (htl _ (.inl rfl)))
            have HTn := Lib.hid (hT.out.setCell (p := ⟨S, 0, none⟩) (.inl H.out.hS) (Value.slice (some ⟨g, o + 1, none⟩) (m - 1) (c - 1)))
            cases b with
            | true =>
              have hE2 := Lib.hid (hE.out.trans (show _ = readP s n s.end_ s.reads s.shut false L' by rw [readP, if_pos rfl]))
              clear htl hput hnil
              go_wp2_with fail
              refine ⟨⟨rfl, rfl, _, false, L', Lib.hid (HN.out.set 1 (.bool false) _ ⟨L', false, s.end_, s.reads, s.shut⟩ rfl HN.out.pc), hE2, Lib.hid (HTn.out.setCell (p := ⟨S, 1, none⟩) (.inl H.out.hS) (.bool false)), hL2⟩, ?_⟩
              rw [srcM_of (HN.out.set 1 (.bool false) _ ⟨L', false, s.end_, s.reads, s.shut⟩ rfl HN.out.pc).c0, srcM_of c0]
              omega
            | false =>
              have hE2 := Lib.hid (hE.out.trans (show _ = ([], 0, ⟨L', false, s.end_, s.reads, s.shut⟩) by rw [readP, if_neg (by simp)]))
              clear htl hput hnil
              go_wp2_with fail
              refine post_nomark rfl (results_tmp2 rfl _ _ _) ?_
              unfold RdPP
              rw [hE2.out]
              exact ⟨_, .slice none 0 0, rfl, HN.out, World.ownsRow_nil _ _ _ _, HTn.out⟩
        · obtain ⟨Ap, cp, rfl, hp1, hp2, hrd⟩ := hpc.rd hS.out.lt
          obtain ⟨b2, off, rfl, hbl, -⟩ := hrd hp0
          obtain ⟨pl, hpl⟩ : ∃ pl, p.length = pl := ⟨_, rfl⟩
          have hpl0 : 0 < pl := by rw [← hpl]; exact List.length_pos_iff.2 hp0
          obtain ⟨k, hk⟩ : ∃ k, min n pl = k := ⟨_, rfl⟩
          have hk1 : 1 ≤ k := by omega
          have htk : (p.take k).length = k := by rw [List.length_take, hpl]; omega
          have hpm := hL.out p (List.mem_cons_self ..)
          have hC := Lib.hid (CloneB_any wr wr.heap.size (some ⟨b2, off, none⟩) cp (p.take k) (Nat.le_refl _) (by omega) (hrd.take k))
          rw [htk] at hC
          rw [hpl] at hp1 hcell hpm hpc
          have hE2 : Hid (s.read n = (p.take k, 0, ⟨p.drop k :: L', true, s.end_, s.reads + k, s.shut⟩)) := Lib.hid (by
            rw [hE.out]
            have e1 : p.take n = p.take k := by rw [← hk, List.take_eq_take_min, hpl]
            have e2 : p.drop n = p.drop k := by
              rcases Nat.le_total n pl with h | h
              · rw [← hk, Nat.min_eq_left h]
              · rw [List.drop_eq_nil_of_le (by omega), List.drop_eq_nil_of_le (by omega)]
            obtain ⟨x, p', rfl⟩ : ∃ x p', p = x :: p' := by
              cases p with
              | nil => exact absurd rfl hp0
              | cons x p' => exact ⟨x, p', rfl⟩
            rw [readP, e1, e2, htk])
          have n1 : ((pl : Int) == 0) = false := beq_eq_false_iff_ne.2 (by omega)
          have n2 : min (n : Int) (pl : Int) = (k : Int) := by omega
          have n3 : (k : Int) ≤ (cp : Int) := by omega
          have n4 : (k : Int) ≤ (pl : Int) := by omega
          have n5 : IntKind.i64.wrap (s.reads + (k : Int)) = s.reads + k := IntWalk.i64_in _ (by omega)
          unfold maxLen at hp2
          have HS := hS
          have hgl := hS.out.lt g hFg
          have hDr := fun A2 hA2 => hpc.drop k (by rw [hpl]; omega) A2 hA2
          rw [hpl] at hDr
          clear hp0 hE hrd htl hnil n4
          go_wp2_with fail
          refine hC.out.mono ?_; rintro e w1 ⟨vo, rfl, hvo, hb1⟩; dsimp only
          obtain ⟨Ao, co, rfl⟩ := own_sl hvo
          have HVo := Lib.hid hvo
          have HB1 := Lib.hid hb1
          have HS1 := Lib.hid (HS.out.below hb1)
          have hz1 := hb1.size
          have hgb1 := (hb1.block g hgl).trans hgb
          have d0 : w1.drew.cell? ⟨S, 0, none⟩ = some (.slice (some ⟨g, o, none⟩) m c) := (World.cell?_of_block (a := ⟨S, 0, none⟩) (hb1.block S (HS.out.lt S HS.out.hS))).trans c0
          have dg : w1.drew.cell? ⟨g, o, none⟩ = some (.slice (some ⟨b2, off, none⟩) pl cp) := (World.cell?_of_block (a := ⟨g, o, none⟩) (hb1.block g hgl)).trans hcell
          have dgf : w1.drew.frozen? ⟨g, o, none⟩ = false := by show w1.frozen? _ = false; simp [World.frozen?, hgb1]
          have d1 : w1.drew.cell? ⟨S, 1, none⟩ = some (.bool b) := HS1.out.c1
          have d1f : w1.drew.frozen? ⟨S, 1, none⟩ = false := HS1.out.f 1
          by_cases hkc : k = cp
          · subst hkc
            obtain rfl : pl = k := by omega
            have HX1 := Lib.hid (show SrcAt (w1.setCell ⟨g, o, none⟩ (Value.slice (some ⟨b2, off, none⟩) 0 0)) F S (.slice (some ⟨g, o, none⟩) m c) ⟨p.drop pl :: L', b, s.end_, s.reads, s.shut⟩ from by
              have t1 : Touch (· = g) w1 (w1.setCell ⟨g, o, none⟩ (Value.slice (some ⟨b2, off, none⟩) 0 0)) := (Touch.refl (· = g) w1).setCell (p := ⟨g, o, none⟩) (.inl rfl) _
              rw [← hm]
              refine ⟨(t1.block S (HS1.out.lt S HS1.out.hS) (fun e => hgS e.symm)).trans HS1.out.box, HS1.out.hS, ?_, fun b hb => Nat.lt_of_lt_of_le (HS1.out.lt b hb) t1.size⟩
              exact hput (Value.slice (some ⟨b2, off, none⟩) 0 0) (p.drop pl) _ (setBoxR _ hgb1) (fun b hb _ hg => (t1.block b (HS1.out.lt b hb) hg).trans (hb1.block b (HS.out.lt b hb))) (by have hh := hDr (some ⟨b2, off, none⟩) (.inr rfl); rw [Nat.sub_self] at hh; exact hh))
            have HX2 := Lib.hid (HX1.out.set 1 (.bool true) _ ⟨p.drop pl :: L', true, s.end_, s.reads, s.shut⟩ rfl HX1.out.pc)
            have HX3 := Lib.hid ((HX2.out.drewN 1).set 3 (.int .i64 (s.reads + pl)) _ ⟨p.drop pl :: L', true, s.end_, s.reads + pl, s.shut⟩ rfl (HX2.out.drewN 1).pc)
            have y0 : (w1.drew.setCell ⟨g, o, none⟩ (Value.slice (some ⟨b2, off, none⟩) 0 0)).cell? ⟨S, 0, none⟩ = some (.slice (some ⟨g, o, none⟩) m c) := HX1.out.c0
            have y1 : ((w1.drew.setCell ⟨g, o, none⟩ (Value.slice (some ⟨b2, off, none⟩) 0 0)).setCell ⟨S, 1, none⟩ (.bool true)).cell? ⟨S, 0, none⟩ = some (.slice (some ⟨g, o, none⟩) m c) := HX2.out.c0
            have x1 : (w1.setCell ⟨g, o, none⟩ (Value.slice (some ⟨b2, off, none⟩) 0 0)).cell? ⟨S, 1, none⟩ = some (.bool b) := HX1.out.c1
            have x1f : (w1.setCell ⟨g, o, none⟩ (Value.slice (some ⟨b2, off, none⟩) 0 0)).frozen? ⟨S, 1, none⟩ = false := HX1.out.f 1
            have x1d : (w1.setCell ⟨g, o, none⟩ (Value.slice (some ⟨b2, off, none⟩) 0 0)).drew.cell? ⟨S, 1, none⟩ = some (.bool b) := HX1.out.c1
            have x1e : (w1.setCell ⟨g, o, none⟩ (Value.slice (some ⟨b2, off, none⟩) 0 0)).drew.frozen? ⟨S, 1, none⟩ = false := HX1.out.f 1
            have x3 : (((w1.setCell ⟨g, o, none⟩ (Value.slice (some ⟨b2, off, none⟩) 0 0)).setCell ⟨S, 1, none⟩ (.bool true)).drew).cell? ⟨S, 3, none⟩ = some (.int .i64 s.reads) := HX2.out.c3
            have x3f : (((w1.setCell ⟨g, o, none⟩ (Value.slice (some ⟨b2, off, none⟩) 0 0)).setCell ⟨S, 1, none⟩ (.bool true)).drew).frozen? ⟨S, 3, none⟩ = false := HX2.out.f 3
            have x3c : ((w1.setCell ⟨g, o, none⟩ (Value.slice (some ⟨b2, off, none⟩) 0 0)).setCell ⟨S, 1, none⟩ (.bool true)).cell? ⟨S, 3, none⟩ = some (.int .i64 s.reads) := HX2.out.c3
            have x3g : ((w1.setCell ⟨g, o, none⟩ (Value.slice (some ⟨b2, off, none⟩) 0 0)).setCell ⟨S, 1, none⟩ (.bool true)).frozen? ⟨S, 3, none⟩ = false := HX2.out.f 3
            have HTn := Lib.hid ((((hT.out.trans (Touch.of_new (X := F) hb1)).setCell (p := ⟨g, o, none⟩) (.inl hFg) (Value.slice (some ⟨b2, off, none⟩) 0 0)).setCell (p := ⟨S, 1, none⟩) (.inl H.out.hS) (.bool true)).drew.setCell (p := ⟨S, 3, none⟩) (.inl H.out.hS) (.int .i64 (s.reads + pl)))
            have HVf := Lib.hid (show (((((w1.setCell ⟨g, o, none⟩ (Value.slice (some ⟨b2, off, none⟩) 0 0)).setCell ⟨S, 1, none⟩ (.bool true)).drew)).setCell ⟨S, 3, none⟩ (.int .i64 (s.reads + pl))).ownsRow wr.heap.size 5 1 (.slice Ao pl co) pl ((p.take pl).map encU) from by
              have t1 : Touch (fun b => b < wr.heap.size) w1 _ := (((((Touch.refl (fun b => b < wr.heap.size) w1).setCell (p := ⟨g, o, none⟩) (.inl hgl) (Value.slice (some ⟨b2, off, none⟩) 0 0)).setCell (p := ⟨S, 1, none⟩) (.inl (HS.out.lt S HS.out.hS)) (.bool true)).drew).setCell (p := ⟨S, 3, none⟩) (.inl (HS.out.lt S HS.out.hS)) (.int .i64 (s.reads + pl)))
              exact own_touchL HVo.out t1 (fun b hb hlt => own_ge HVo.out hlt hb.symm))
            go_wp2_with fail
            go_region_held3 (fun w' => w'.cell? ⟨S, 0, none⟩ = some (.slice (some ⟨g, o, none⟩) m c)) (first | exact d0 | exact y0 | exact y1 | assumption) (fail)
            go_wp2_with fail
            refine post_nomark rfl (results_tmp2 rfl _ _ _) ?_
            unfold RdPP
            rw [hE2.out]
            dsimp only
            rw [htk]
            exact ⟨_, .slice Ao pl co, rfl, HX3.out, own_lower HVf.out hT.out.size, HTn.out⟩
          · have hkc3 : ¬ cp = k := fun h => hkc h.symm
            have hkc4 : (k : Int) ≤ (pl : Int) := by omega
            have hkc2 : (k : Int) < (cp : Int) := by omega
            have HX1 := Lib.hid (show SrcAt (w1.setCell ⟨g, o, none⟩ (Value.slice (some ⟨b2, off + k, none⟩) (pl - k) (cp - k))) F S (.slice (some ⟨g, o, none⟩) m c) ⟨p.drop k :: L', b, s.end_, s.reads, s.shut⟩ from by
              have t1 : Touch (· = g) w1 (w1.setCell ⟨g, o, none⟩ (Value.slice (some ⟨b2, off + k, none⟩) (pl - k) (cp - k))) := (Touch.refl (· = g) w1).setCell (p := ⟨g, o, none⟩) (.inl rfl) _
              rw [← hm]
              refine ⟨(t1.block S (HS1.out.lt S HS1.out.hS) (fun e => hgS e.symm)).trans HS1.out.box, HS1.out.hS, ?_, fun b hb => Nat.lt_of_lt_of_le (HS1.out.lt b hb) t1.size⟩
              exact hput (Value.slice (some ⟨b2, off + k, none⟩) (pl - k) (cp - k)) (p.drop k) _ (setBoxR _ hgb1) (fun b hb _ hg => (t1.block b (HS1.out.lt b hb) hg).trans (hb1.block b (HS.out.lt b hb))) (hDr (some ⟨b2, off + k, none⟩) (.inl rfl)))
            have HX2 := Lib.hid (HX1.out.set 1 (.bool true) _ ⟨p.drop k :: L', true, s.end_, s.reads, s.shut⟩ rfl HX1.out.pc)
            have HX3 := Lib.hid ((HX2.out.drewN 1).set 3 (.int .i64 (s.reads + k)) _ ⟨p.drop k :: L', true, s.end_, s.reads + k, s.shut⟩ rfl (HX2.out.drewN 1).pc)
            have y0 : (w1.drew.setCell ⟨g, o, none⟩ (Value.slice (some ⟨b2, off + k, none⟩) (pl - k) (cp - k))).cell? ⟨S, 0, none⟩ = some (.slice (some ⟨g, o, none⟩) m c) := HX1.out.c0
            have y1 : ((w1.drew.setCell ⟨g, o, none⟩ (Value.slice (some ⟨b2, off + k, none⟩) (pl - k) (cp - k))).setCell ⟨S, 1, none⟩ (.bool true)).cell? ⟨S, 0, none⟩ = some (.slice (some ⟨g, o, none⟩) m c) := HX2.out.c0
            have x1 : (w1.setCell ⟨g, o, none⟩ (Value.slice (some ⟨b2, off + k, none⟩) (pl - k) (cp - k))).cell? ⟨S, 1, none⟩ = some (.bool b) := HX1.out.c1
            have x1f : (w1.setCell ⟨g, o, none⟩ (Value.slice (some ⟨b2, off + k, none⟩) (pl - k) (cp - k))).frozen? ⟨S, 1, none⟩ = false := HX1.out.f 1
            have x1d : (w1.setCell ⟨g, o, none⟩ (Value.slice (some ⟨b2, off + k, none⟩) (pl - k) (cp - k))).drew.cell? ⟨S, 1, none⟩ = some (.bool b) := HX1.out.c1
            have x1e : (w1.setCell ⟨g, o, none⟩ (Value.slice (some ⟨b2, off + k, none⟩) (pl - k) (cp - k))).drew.frozen? ⟨S, 1, none⟩ = false := HX1.out.f 1
            have x3 : (((w1.setCell ⟨g, o, none⟩ (Value.slice (some ⟨b2, off + k, none⟩) (pl - k) (cp - k))).setCell ⟨S, 1, none⟩ (.bool true)).drew).cell? ⟨S, 3, none⟩ = some (.int .i64 s.reads) := HX2.out.c3
            have x3f : (((w1.setCell ⟨g, o, none⟩ (Value.slice (some ⟨b2, off + k, none⟩) (pl - k) (cp - k))).setCell ⟨S, 1, none⟩ (.bool true)).drew).frozen? ⟨S, 3, none⟩ = false := HX2.out.f 3
            have x3c : ((w1.setCell ⟨g, o, none⟩ (Value.slice (some ⟨b2, off + k, none⟩) (pl - k) (cp - k))).setCell ⟨S, 1, none⟩ (.bool true)).cell? ⟨S, 3, none⟩ = some (.int .i64 s.reads) := HX2.out.c3
            have x3g : ((w1.setCell ⟨g, o, none⟩ (Value.slice (some ⟨b2, off + k, none⟩) (pl - k) (cp - k))).setCell ⟨S, 1, none⟩ (.bool true)).frozen? ⟨S, 3, none⟩ = false := HX2.out.f 3
            have HTn := Lib.hid ((((hT.out.trans (Touch.of_new (X := F) hb1)).setCell (p := ⟨g, o, none⟩) (.inl hFg) (Value.slice (some ⟨b2, off + k, none⟩) (pl - k) (cp - k))).setCell (p := ⟨S, 1, none⟩) (.inl H.out.hS) (.bool true)).drew.setCell (p := ⟨S, 3, none⟩) (.inl H.out.hS) (.int .i64 (s.reads + k)))
            have HVf := Lib.hid (show (((((w1.setCell ⟨g, o, none⟩ (Value.slice (some ⟨b2, off + k, none⟩) (pl - k) (cp - k))).setCell ⟨S, 1, none⟩ (.bool true)).drew)).setCell ⟨S, 3, none⟩ (.int .i64 (s.reads + k))).ownsRow wr.heap.size 5 1 (.slice Ao k co) k ((p.take k).map encU) from by
              have t1 : Touch (fun b => b < wr.heap.size) w1 _ := (((((Touch.refl (fun b => b < wr.heap.size) w1).setCell (p := ⟨g, o, none⟩) (.inl hgl) (Value.slice (some ⟨b2, off + k, none⟩) (pl - k) (cp - k))).setCell (p := ⟨S, 1, none⟩) (.inl (HS.out.lt S HS.out.hS)) (.bool true)).drew).setCell (p := ⟨S, 3, none⟩) (.inl (HS.out.lt S HS.out.hS)) (.int .i64 (s.reads + k)))
              exact own_touchL HVo.out t1 (fun b hb hlt => own_ge HVo.out hlt hb.symm))
            go_wp2_with fail
            go_region_held3 (fun w' => w'.cell? ⟨S, 0, none⟩ = some (.slice (some ⟨g, o, none⟩) m c)) (first | exact d0 | exact y0 | exact y1 | assumption) (fail)
            go_wp2_with fail
            refine post_nomark rfl (results_tmp2 rfl _ _ _) ?_
            unfold RdPP
            rw [hE2.out]
            dsimp only
            rw [htk]
            exact ⟨_, .slice Ao k co, rfl, HX3.out, own_lower HVf.out hT.out.size, HTn.out⟩
end

end Go.Proofs.YtfeljjlpdefnmaaGreat
