/-
  Layer 16 (wire): a new source.
-/
import Derived.Test.YtfeljjlpdefnmaaGreatWirR
namespace Go.Proofs.YtfeljjlpdefnmaaGreat
open Go.RowKit
set_option linter.unusedVariables false
set_option linter.unusedSimpArgs false
attribute [local go_sem] Oper.semAt_some

theorem step_call_ex {P : Program} {ops : Array Oper} {o : Oper} {a : Act} {w : World} {K : Act → World → Prop} {Q : Exit → Act → World → Prop} {E : Prop} (hgd : o.guard = none)
    (f : FuncId) (args : Array Value) (hrun : (execOp a.eval o).run P w = .ok (.enter f args) w) (R : Value → World → Prop)
    (hc : Calls P f args w fun e w'' => ∃ v, e = .returned v ∧ R v w'') (h : ∀ v w'', R v w'' → K (a.put o.dst v) w'') :
    if Region.wanted o (yielded ops a.tmps) = true then Oper.wp P o a w K Q else E := by
  have hw : Region.wanted o (yielded ops a.tmps) = true := by simp [Region.wanted, hgd]
  rw [if_pos hw]
  unfold Oper.wp
  rw [hrun, Oper.upon_enter]
  refine hc.mono fun e w'' hh => ?_
  obtain ⟨v, rfl, hR⟩ := hh
  exact h _ _ hR
/-- A piece that came in; the pieces. -/
def PcIn (W : World) (v : Value) (l : List UInt8) : Prop := ∃ A c, v = .slice A l.length c ∧ l.length ≤ c ∧ c ≤ maxLen ∧ RdB W W.heap.size A l
def PcsIn (W : World) (v : Value) (L : List (List UInt8)) : Prop :=
  ∃ A c, v = .slice A L.length c ∧ L.length ≤ c ∧ c ≤ maxLen ∧ (L ≠ [] → ∃ g o, A = some ⟨g, o, none⟩ ∧ g < W.heap.size ∧ ∀ j, j < L.length → ∃ u, W.cell? ⟨g, o + j, none⟩ = some u ∧ PcIn W u (L[j]?.getD []))
theorem PcIn.below {W W1 : World} {v : Value} {l : List UInt8} (h : PcIn W v l) (hb : Below W.heap.size W W1) : PcIn W1 v l := by
  obtain ⟨A, c, e, h1, h2, h3⟩ := h
  exact ⟨A, c, e, h1, h2, (h3.touch (Touch.of_below hb) (Nat.le_refl _) (fun _ b off _ hb h => by omega)).up hb.size⟩
theorem PcsIn.below {W W1 : World} {v : Value} {L : List (List UInt8)} (h : PcsIn W v L) (hb : Below W.heap.size W W1) : PcsIn W1 v L := by
  obtain ⟨A, c, e, h1, h2, h3⟩ := h
  refine ⟨A, c, e, h1, h2, fun hne => ?_⟩
  obtain ⟨g, o, e, hg, hj⟩ := h3 hne
  refine ⟨g, o, e, Nat.lt_of_lt_of_le hg hb.size, fun j hjl => ?_⟩
  obtain ⟨u, hu, hp⟩ := hj j hjl
  exact ⟨u, (hb.cell (p := ⟨g, o + j, none⟩) hg).trans hu, hp.below hb⟩

theorem Tryz.info_bsR : ∃ i, Tryz.prog.info? 39 = some i ∧ i.zero = some (.slice none 0 0) ∧ i.size = 1 ∧ i.bytes = 24 := by
  have h : (Tryz.prog.info? 39).map (fun i => (i.zero, i.size, i.bytes)) = some (some (.slice none 0 0), 1, 24) := by kernel_rfl
  obtain ⟨i, hi, he⟩ := Option.map_eq_some_iff.1 h
  simp only [Prod.mk.injEq] at he
  exact ⟨i, hi, he.1, he.2.1, he.2.2⟩

theorem Right3_any (k : Int) (w : World) : Calls Tryz.prog 37 #[.int .i64 k] w fun e w' => e = .returned (.bool (decide (0 ≤ k) && decide (k ≤ 2))) ∧ w = w' := by
  by_cases h : 0 ≤ k
  · have hd := Lib.hid (decide_eq_true h)
    go_enter Tryz.func37, Tryz.ntmps37
    go_wp2_with fail
    all_goals
      go_ret
      exact ⟨ret_bool (by rw [Bool.eq_iff_iff]; simp only [Bool.and_eq_true, decide_eq_true_eq, Bool.false_eq_true, false_iff, true_iff]; omega), rfl⟩
  · go_enter Tryz.func37, Tryz.ntmps37
    go_wp2_with fail
    all_goals
      go_ret
      exact ⟨ret_bool (by rw [Bool.eq_iff_iff]; simp only [Bool.and_eq_true, decide_eq_true_eq, Bool.false_eq_true, false_iff, true_iff]; omega), rfl⟩

/-- Where NewSource's loop stands: k pieces are copied. -/
structure NSt (w : World) (L : List (List UInt8)) (end_ : Int) (S : Nat) (wr : World) (k : Nat) (vp : Value) (vs : List Value) : Prop where
  box : wr.heap[S]? = some (.cells #[vp, .bool false, .int .i64 end_, .int .i64 0, .bool false] 78 (0, 0))
  row : wr.ownsRow w.heap.size 39 1 vp k vs
  each : ∀ j, j < k → ∃ u, vs[j]? = some u ∧ wr.ownsRow w.heap.size 5 1 u (L[j]?.getD []).length ((L[j]?.getD []).map encU)
  below : Below w.heap.size w wr
  hS : w.heap.size ≤ S
theorem NSt.src {w : World} {L : List (List UInt8)} {end_ : Int} {S : Nat} {wr : World} {vp : Value} {vs : List Value} (h : NSt w L end_ S wr L.length vp vs) : SrcAt wr (fun b => w.heap.size ≤ b ∧ b < wr.heap.size) S vp ⟨L, false, end_, 0, false⟩ := by
  refine ⟨h.box, ⟨h.hS, lt_of_heap h.box⟩, ?_, fun b hb => hb.2⟩
  rcases h.row.2 with ⟨rfl, hz⟩ | ⟨g, cap, cur, rfl, hg, hgb, h4, h5, h6, h7⟩
  · have hL : L = [] := List.eq_nil_of_length_eq_zero hz
    subst hL
    exact ⟨none, 0, rfl, Nat.le_refl _, by unfold maxLen; omega, fun hne => absurd rfl hne⟩
  · have hgS : g ≠ S := fun e => by
      subst e
      rw [h.box] at hgb
      injection hgb with hgb
      injection hgb with _ ht
      exact absurd ht (by decide)
    refine ⟨_, _, rfl, h4, h5, fun hne => ⟨g, 0, cur, rfl, ⟨hg, lt_of_heap hgb⟩, hgS, hgb, fun j hj => ?_⟩⟩
    obtain ⟨u, hu, hr⟩ := h.each j hj
    have hcu : cur[0 + j]? = some u := by
      have h8 := h.row.cells (g := g) rfl j u hu
      rw [WideShapes.add_plain] at h8
      simpa [World.cell?, hgb] using h8
    refine ⟨u, hcu, ?_⟩
    rcases hr.2 with ⟨rfl, hz⟩ | ⟨b, cb, cb2, rfl, hb, hbb, b4, b5, b6, b7⟩
    · have : (L[j]?.getD []) = [] := List.eq_nil_of_length_eq_zero hz
      rw [this]
      exact ⟨none, 0, rfl, Nat.le_refl _, by unfold maxLen; omega, fun hne => absurd rfl hne⟩
    · refine ⟨_, _, rfl, b4, b5, fun _ => ⟨b, 0, rfl, ⟨hb, lt_of_heap hbb⟩, fun e => ?_, fun e => ?_, fun i hi => ?_⟩⟩
      · subst e
        rw [h.box] at hbb
        injection hbb with hbb
        injection hbb with _ ht
        exact absurd ht (by decide)
      · subst e
        rw [hgb] at hbb
        injection hbb with hbb
        injection hbb with _ ht
        exact absurd ht (by decide)
      · have h8 := hr.cells (g := b) rfl i (encU ((L[j]?.getD [])[i]?.getD 0)) (by rw [List.getElem?_map, List.getElem?_eq_getElem hi]; simp)
        rw [WideShapes.add_plain] at h8
        exact h8

theorem NSt.next {w : World} {L : List (List UInt8)} {end_ : Int} {S : Nat} {wr : World} {k : Nat} {vp : Value} {vs : List Value} (h : NSt w L end_ S wr k vp vs) {w2 w7 : World} {v v7 : Value} {o : Obj}
    (hb : Below wr.drew.heap.size wr.drew w2) (hv : w2.ownsRow wr.drew.heap.size 5 1 v (L[k]?.getD []).length ((L[k]?.getD []).map encU)) (hg : (w2.alloc o).grownBy w7 vp.ownBlock)
    (ho : w7.ownsRow w.heap.size 39 1 v7 (k + 1) (vs ++ [v])) : NSt w L end_ S (w7.setCell ⟨S, 0, none⟩ v7) (k + 1) v7 (vs ++ [v]) := by
  have hbw : Below wr.heap.size wr w2 := (Below.refl _ wr).drew.trans (hb.mono (by simp))
  have hz2 : wr.heap.size ≤ w2.heap.size := hbw.size
  have hSl := lt_of_heap h.box
  have hbox2 : (w2.alloc o).heap[S]? = _ := ((hbw.alloc hz2 o).block S hSl).trans h.box
  have hrow2 := own_touchL h.row (Touch.of_new (X := fun _ => False) hbw) (fun _ _ h => h)
  have hvS : vp.ownBlock ≠ some S := own_box h.row h.box (by decide)
  have hbox7 : w7.heap[S]? = _ := (hg.block S (lt_of_heap hbox2) (fun e => hvS e.symm)).trans hbox2
  have t2 : Touch (fun b => vp.ownBlock = some b ∨ b = S) w2 (w7.setCell ⟨S, 0, none⟩ v7) := by
    have ta := (Touch.refl (fun b => vp.ownBlock = some b ∨ b = S) w2).alloc o
    exact (ta.trans ⟨hg.os, hg.tape, hg.output, hg.size, fun b hb hx => hg.block b hb (fun e => hx (.inl e.symm))⟩).setCell (p := ⟨S, 0, none⟩) (.inl (.inr rfl)) v7
  have tS : Touch (· = S) w7 (w7.setCell ⟨S, 0, none⟩ v7) := (Touch.refl (· = S) w7).setCell (p := ⟨S, 0, none⟩) (.inl rfl) v7
  have hvs : vs.length = k := by have := h.row.1; simpa using this
  refine ⟨setBoxR v7 hbox7, own_touchL ho tS (fun b hb e => own_box ho hbox7 (by decide) (by rw [hb, e])), fun j hj => ?_, ?_, h.hS⟩
  · by_cases hjk : j < k
    · obtain ⟨u, hu, hr⟩ := h.each j hjk
      refine ⟨u, by rw [List.getElem?_append_left (by omega)]; exact hu, ?_⟩
      have hr2 := own_touchL hr (Touch.of_new (X := fun _ => False) hbw) (fun _ _ h => h)
      refine own_touchL hr2 t2 (fun b hb hx => ?_)
      rcases hx with hx | hx
      · rcases own_apart hr2 hrow2 (by decide) with e | e
        · rw [e] at hb; cases hb
        · exact e (by rw [hb, hx])
      · exact own_box hr h.box (by decide) (by rw [hb, hx])
    · obtain rfl : j = k := by omega
      refine ⟨v, by rw [List.getElem?_append_right (by omega), hvs, Nat.sub_self]; rfl, ?_⟩
      have hr2 := own_touchL hv t2 (fun b hb hx => by
        rcases hx with hx | hx
        · rcases own_apart hv hrow2 (by decide) with e | e
          · rw [e] at hb; cases hb
          · exact e (by rw [hb, hx])
        · exact own_ge hv (k := S) (by simpa using hSl) (by rw [hb, hx]))
      exact own_lower hr2 (by have := h.below.size; simpa using this)
  · exact (h.below.trans (hbw.mono h.below.size)).trans (t2.below (Nat.le_trans h.below.size hz2) (fun b hb => by
      rcases hb with hb | hb
      · apply Classical.byContradiction
        intro hlt
        exact own_ge h.row (k := b) (by omega) hb.symm
      · rw [hb]; exact h.hS))

set_option maxHeartbeats 4000000 in
set_option maxRecDepth 100000 in
theorem WNew_any (v : Value) (L : List (List UInt8)) (end_ : Int) (h0 : 0 ≤ end_) (h1 : end_ ≤ 2) (hL : L.length ≤ 1000000) (hp : ∀ p ∈ L, p.length ≤ 1000000) (w : World) (hv : PcsIn w v L) :
    Calls Tryz.prog 18 #[.agg #[v, .int .i64 end_]] w fun e w' => ∃ S F vp, e = .returned (.tuple #[.pointer (some ⟨S, 0, none⟩), .int .i64 0]) ∧ SrcAt w' F S vp ⟨L, false, end_, 0, false⟩ ∧ (∀ b, F b → w.heap.size ≤ b) ∧ Below w.heap.size w w' := by
  have hR := fun W => Lib.hid (Right3_any end_ W)
  rw [decide_eq_true h0, decide_eq_true h1, Bool.and_true] at hR
  obtain ⟨W1, eW1, hB, hz1, hb1⟩ : ∃ W1, w.alloc (.cells #[v, .int .i64 end_] 38) = W1 ∧ W1.heap[w.heap.size]? = some (.cells #[v, .int .i64 end_] 38) ∧ W1.heap.size = w.heap.size + 1 ∧ Below w.heap.size w W1 := ⟨_, rfl, World.alloc_heap_new _ _, by simp, (Below.refl _ w).alloc (Nat.le_refl _) _⟩
  obtain ⟨A, c, rfl, hc, hcm, hj⟩ := hv
  obtain ⟨m, hm⟩ : ∃ m, L.length = m := ⟨_, rfl⟩
  have Hm := Lib.hid hm
  have Hj := Lib.hid hj
  rw [hm] at hc hL hB eW1 ⊢
  have x0 : W1.cell? ⟨w.heap.size, 0, none⟩ = some (.slice A m c) := by simp [World.cell?, hB]
  have x1 : W1.cell? ⟨w.heap.size, 1, none⟩ = some (.int .i64 end_) := by simp [World.cell?, hB]
  clear hm hj
  go_enter Tryz.func18, Tryz.ntmps18
  go_wp2_with fail
  refine (hR _).out.mono ?_; rintro e w2 ⟨rfl, rfl⟩; dsimp only
  have hN0 := World.alloc_heap_new W1 (.cells #[.slice none 0 0, .bool false, .int .i64 end_, .int .i64 0, .bool false] 78)
  have hb2 := (Below.refl W1.heap.size W1).alloc (Nat.le_refl _) (.cells #[.slice none 0 0, .bool false, .int .i64 end_, .int .i64 0, .bool false] 78)
  have x0' : (W1.alloc (.cells #[.slice none 0 0, .bool false, .int .i64 end_, .int .i64 0, .bool false] 78)).cell? ⟨w.heap.size, 0, none⟩ = some (.slice A m c) := (hb2.cell (p := ⟨w.heap.size, 0, none⟩) (by show w.heap.size < _; omega)).trans x0
  have HN := Lib.hid (show NSt w L end_ W1.heap.size (W1.alloc (.cells #[.slice none 0 0, .bool false, .int .i64 end_, .int .i64 0, .bool false] 78)) 0 (.slice none 0 0) [] from ⟨hN0, World.ownsRow_nil _ _ _ _, fun j hj => by omega, hb1.trans (hb2.mono (by omega)), by omega⟩)
  obtain ⟨S, eS⟩ : ∃ S, W1.heap.size = S := ⟨_, rfl⟩
  rw [eS] at HN
  clear hz1 hN0 hb2
  go_wp2_with fail
  go_loopw [18] (fun kk wr => ∃ (k : Nat) (vp : Value) (vs : List Value), kk = .int .i64 (k : Nat) ∧ k ≤ m ∧ Hid (NSt w L end_ S wr k vp vs)) (fun kk _ => m - (intOf kk).toNat)
  case atStart => exact ⟨0, _, [], rfl, Nat.zero_le _, HN⟩
  case round =>
    obtain ⟨k, vp, vs, rfl, hkm, hS⟩ := hrel
    by_cases hlt : k < m
    · have hLk : k < L.length := by rw [Hm.out]; exact hlt
      obtain ⟨g, o, rfl, hg, hjj⟩ := Hj.out (by rintro rfl; simp at hLk)
      obtain ⟨u, hu, Ap, cp, rfl, hp1, hp2, hrd⟩ := hjj k hLk
      have hcell := (hS.out.below.cell (p := ⟨g, o + k, none⟩) hg).trans hu
      obtain ⟨pl, hpl⟩ : ∃ pl, (L[k]?.getD []).length = pl := ⟨_, rfl⟩
      have Hpl := Lib.hid hpl
      have hplm : pl ≤ 1000000 := by
        rw [← hpl, List.getElem?_eq_getElem hLk]
        exact hp _ (List.getElem_mem hLk)
      have hrd2 := (hrd.touch (Touch.of_below hS.out.below) (Nat.le_refl _) (fun _ b off _ hb h => by omega)).up hS.out.below.size
      have hC := Lib.hid (CloneB_any wr.drew wr.heap.size Ap cp (L[k]?.getD []) (by simp) (by omega) hrd2)
      rw [hpl] at hC hp1 hcell
      have p1 : (0 : Int) ≤ (k : Int) := Int.natCast_nonneg k
      have p2 : (k : Int) < (m : Int) := by omega
      have s1 : IntKind.i64.wrap ((k : Int) + 1) = (k : Int) + 1 := IntWalk.i64_in _ (by omega)
      have c0 : wr.cell? ⟨S, 0, none⟩ = some vp := by simp [World.cell?, hS.out.box]
      obtain ⟨i0, hi, hz0, hz1', hz2⟩ := Tryz.info_bsR
      have hSl := lt_of_heap hS.out.box
      have mk := fun (W : World) (hb : Below wr.drew.heap.size wr.drew W) => Lib.hid (show W.cell? ⟨S, 0, none⟩ = some vp from (hb.cell (p := ⟨S, 0, none⟩) (by simpa using hSl)).trans c0)
      have mkA := fun (W : World) (o : Obj) (hb : Below wr.drew.heap.size wr.drew W) => mk (W.alloc o) (hb.alloc hb.size o)
      have HO := fun (W : World) (v : Value) (hb : Below wr.drew.heap.size wr.drew W) => Lib.hid (own_touchL hS.out.row (Touch.of_new (X := fun _ => False) (show Below wr.heap.size wr (W.alloc (.cells #[v] 39 (0, 0))) from ((Below.refl _ wr).drew.trans (hb.mono (by simp))).alloc (by have := hb.size; simpa using this) _)) (fun _ _ h => h))
      have HQ := fun (W : World) (o : Obj) (w7 : World) (hb : Below wr.drew.heap.size wr.drew W) (hgr : (W.alloc o).grownBy w7 vp.ownBlock) => Lib.hid (show w7.cell? ⟨S, 0, none⟩ = some vp ∧ w7.frozen? ⟨S, 0, none⟩ = false from by
        have h1 := (hgr.block S (Nat.lt_of_lt_of_le hSl (by have := hb.size; simp at this ⊢; omega)) (fun e => own_box hS.out.row hS.out.box (by decide) e.symm)).trans ((((Below.refl _ wr).drew.trans (hb.mono (by simp))).alloc (by have := hb.size; simpa using this) o).block S hSl)
        exact ⟨(World.cell?_of_block (a := ⟨S, 0, none⟩) h1).trans c0, by rw [World.frozen?_of_block (a := ⟨S, 0, none⟩) h1]; simp [World.frozen?, hS.out.box]⟩)
      clear hrd hrd2 hu hjj hpl
      go_wp2_with fail
      go_region_law (first | (refine step_call_ex (by rfl) 36 #[.slice Ap pl cp] (by kernel_rfl) _ hC.out ?_; intro v w2 hr2; obtain ⟨hv, hb2⟩ := hr2; obtain ⟨Av, cv, rfl⟩ := own_sl hv; have q2 := (mk w2 hb2).out; have q3 := (mkA w2 (.cells #[.slice Av pl cv] 39 (0, 0)) hb2).out) | (refine step_append_lies _ (by rfl) _ _ _ (by rfl) w.heap.size 39 i0 _ 1 24 Tryz.underlying22 hi hz0 hz1' hz2 rfl (by omega) vp k vs (by rfl) (HO _ _ (by assumption)).out ⟨w2.heap.size, 0, none⟩ 1 1 [.slice Av pl cv] (by rfl) (by rfl) (World.news_of_block (cs := #[.slice Av pl cv]) (t := 39) (fr := (0, 0)) (heap_alloc_new w2 _)) (by simp [Value.oneCell']) (by omega) (by unfold maxLen; omega) (by omega) (by have h1 := hb2.size; have h2 := hS.out.below.size; simp at h1 ⊢; omega) (w2.heap.size + 1) (by simp) ?_; intro gg cap' w7 hown hgrow hat hglt; have hq := HQ _ _ w7 hb2 hgrow; have q7 := hq.out.1; have q8 := hq.out.2))
      all_goals
        have hn := hS.out.next (v := .slice Av pl cv) (v7 := .slice (some ⟨gg, 0, none⟩) (k + 1) cap') hb2 (by rw [Hpl.out]; exact hv) hgrow hown
        have HN2 := Lib.hid hn
        clear hn hv hb2 hgrow hown hat hglt hq q7 q8 q2 q3
        go_wp2_with fail
        go_roundw
        case rel => exact ⟨k + 1, _, _, by go_num, by omega, HN2⟩
        case measure => simp [intOf]; omega
    · have p2 : (m : Int) ≤ (k : Int) := by omega
      have Hk := Lib.hid (show k = m by omega)
      clear hlt
      go_wp2_with fail
      go_ret2
      have h2 := hS.out
      rw [Hk.out, ← Hm.out] at h2
      exact ⟨S, _, vp, rfl, h2.src, fun b hb => hb.1, h2.below⟩

end Go.Proofs.YtfeljjlpdefnmaaGreat
