/-
  The law SourceWhole, walked.
-/
import Derived.Test.YtfeljjlpdefnmaaGreatSrcR
import Derived.Test.YtfeljjlpdefnmaaGreatSamB
namespace Go.Proofs.YtfeljjlpdefnmaaGreat
open Go.RowKit
set_option linter.unusedVariables false
set_option linter.unusedSimpArgs false
attribute [local go_sem] Oper.semAt_some

/-- Nil pieces are nil. -/
def NilOk (W : World) (v : Value) (L : List (List UInt8)) : Prop := ∀ g o c, v = .slice (some ⟨g, o, none⟩) L.length c → ∀ j, j < L.length → ∀ n c', W.cell? ⟨g, o + j, none⟩ = some (.slice none n c') → n = 0 ∧ c' = 0
/-- Where the turns stand. -/
structure TurnSt (W : World) (n0 B D : Nat) (all : List UInt8) (al : Value) (wr : World) (k : Nat) (p : RdrP) (x : Rdr) (sz : Prop) : Prop where
  at_ : RdrAt wr n0 p x
  hD : p.D = D
  ok : SrcOk all x
  g0 : 0 ≤ x.c.gr
  g1 : x.c.gr ≤ 65536 * k
  lo : ∀ j, p.tag j ≠ 0 → B + 1 ≤ j
  own : wr.ownsRow (B + 1) 5 1 al all.length (all.map encU)
  ap : ∀ j, al.ownBlock = some j → p.tag j = 0
  t : Touch (fun j => B + 1 ≤ j) W wr
  szd : sz → ∃ l, x.i.t = .sized l
theorem TurnSt.step {W : World} {n0 B D : Nat} {all : List UInt8} {al : Value} {wr : World} {k : Nat} {p : RdrP} {x : Rdr} {sz : Prop} (h : TurnSt W n0 B D all al wr k p x sz) {w' : World} {p' : RdrP} {x' : Rdr} {k' : Nat}
    (hp : p'.D = p.D) (hx : RdrAt w' n0 p' x') (hok : SrcOk all x') (htag : ∀ j, p'.tag j ≠ 0 → p.tag j ≠ 0 ∨ wr.heap.size ≤ j) (ht : Touch (fun j => p.tag j ≠ 0) wr w') (h0 : 0 ≤ x'.c.gr) (h1 : x'.c.gr ≤ 65536 * k') (hs : sz → ∃ l, x'.i.t = .sized l) (hB : B + 1 ≤ wr.heap.size) :
    TurnSt W n0 B D all al w' k' p' x' sz where
  at_ := hx
  hD := hp.trans h.hD
  ok := hok
  g0 := h0
  g1 := h1
  lo := fun j hj => by
    rcases htag j hj with h2 | h2
    · exact h.lo j h2
    · omega
  own := own_touchL h.own ht (fun j hj hx => hx (h.ap j hj))
  ap := fun j hj => by
    apply Classical.byContradiction
    intro hne
    rcases htag j hne with h2 | h2
    · exact h2 (h.ap j hj)
    · have := own_lt h.own hj; omega
  t := h.t.trans (ht.mono (fun j _ hj => h.lo j hj))
  szd := hs
theorem flat_le {L : List (List UInt8)} {q : List UInt8} (h : q ∈ L) : q.length ≤ L.flatten.length := by
  induction L with
  | nil => cases h
  | cons a L ih =>
    rw [List.flatten_cons, List.length_append]
    rcases List.mem_cons.1 h with rfl | h
    · omega
    · have := ih h; omega

theorem SrcOk.bounds {all : List UInt8} {x : Rdr} (h : SrcOk all x) (ha : all.length ≤ 600) : 0 ≤ x.s.reads ∧ x.s.reads ≤ 600 ∧ (∀ q ∈ x.s.pcs, q.length ≤ 1000000) ∧ x.rest.length ≤ 600 := by
  obtain ⟨hd, hall, h1, h2⟩ := h.head
  have hl : all.length = hd.length + (x.rest.length + x.s.pcs.flatten.length) := by rw [hall, List.length_append, List.length_append]
  refine ⟨by omega, by omega, fun q hq => ?_, by omega⟩
  have := flat_le hq
  omega
theorem own_sub {W : World} {base cl : Nat} {Al : Option Addr} {l : List UInt8} (h : W.ownsRow base 5 1 (.slice Al l.length cl) l.length (l.map encU)) (n r : Nat) (hnr : n + r ≤ l.length) (c' : Nat) (hc : r ≤ c') (hm : c' ≤ maxLen) :
    IntsK .u8 W W.heap.size (.slice (Option.map (fun x => x.add n) Al) r c') (((l.drop n).take r).map fun c => (c.toNat : Int)) := by
  have hl : (((l.drop n).take r).map fun c => (c.toNat : Int)).length = r := by rw [List.length_map, List.length_take, List.length_drop]; omega
  refine ⟨_, c', by rw [hl], by rw [hl]; exact hc, hm, fun hne => ?_⟩
  have hr : 0 < r := by rw [← hl]; exact List.length_pos_iff.2 hne
  obtain ⟨b, off, rfl, hb, hcell⟩ := (own_rd h).1 (by rintro rfl; simp at hnr; omega)
  refine ⟨b, off + n, by rw [Option.map_some, WideShapes.add_plain], hb, fun j hj => ?_⟩
  rw [hl] at hj
  rw [Nat.add_assoc, hcell (n + j) (by omega), List.getElem?_map, List.getElem?_take, if_pos hj, List.getElem?_drop, List.getElem?_eq_getElem (by omega)]
  rfl
section
variable {e0 e1 e2 e3 e4 e5 : Int} {n0 : Nat}
set_option maxHeartbeats 8000000 in
set_option maxRecDepth 100000 in
theorem SourceWhole_any (v : Value) (L : List (List UInt8)) (end_ k s a b c N : Int) (T : Nat) (hTn : T ≤ 255) (hs0 : 0 ≤ s) (hL : L.length ≤ 1000000000000000) (hp : ∀ p ∈ L, p.length ≤ 1000000000000000) {w : World} (hv : PcsIn w v L) (hnl : NilOk w v L) (hT : TabR w n0 e0 e1 e2 e3 e4 e5) :
    Calls Tryz.prog 3 #[.agg #[v, .int .i64 end_, .int .i64 k, .int .u64 s, .int .i64 a, .int .i64 b, .int .i64 c, .int .i64 N], .int .u8 T] w fun e w' => e = .returned (.bool true) ∧ Below w.heap.size w w' := by
  obtain ⟨A, cap, rfl, hcv, hcm, hjj⟩ := hv
  have HV : Hid (PcsIn w (.slice A L.length cap) L) := Lib.hid ⟨A, cap, rfl, hcv, hcm, hjj⟩
  obtain ⟨W0, eW0, r0, z0, t0⟩ : ∃ W0, w.alloc (.cells #[.slice A L.length cap, .int .i64 end_, .int .i64 k, .int .u64 s, .int .i64 a, .int .i64 b, .int .i64 c, .int .i64 N] 29) = W0 ∧ W0.heap[w.heap.size]? = some (.cells #[.slice A L.length cap, .int .i64 end_, .int .i64 k, .int .u64 s, .int .i64 a, .int .i64 b, .int .i64 c, .int .i64 N] 29) ∧ W0.heap.size = w.heap.size + 1 ∧ Below w.heap.size w W0 := ⟨_, rfl, World.alloc_heap_new _ _, by simp, (Below.refl _ w).alloc (Nat.le_refl _) _⟩
  obtain ⟨B, hB⟩ : ∃ B, w.heap.size = B := ⟨_, rfl⟩
  rw [hB] at r0 z0
  have cells := fun (W : World) (hb : Touch (fun j => B + 1 ≤ j) W0 W) => Lib.hid (show W.cell? ⟨B, 0, none⟩ = some (.slice A L.length cap) ∧ W.cell? ⟨B, 1, none⟩ = some (.int .i64 end_) ∧ W.cell? ⟨B, 2, none⟩ = some (.int .i64 k) ∧ W.cell? ⟨B, 3, none⟩ = some (.int .u64 s) ∧ W.cell? ⟨B, 4, none⟩ = some (.int .i64 a) ∧ W.cell? ⟨B, 5, none⟩ = some (.int .i64 b) ∧ W.cell? ⟨B, 6, none⟩ = some (.int .i64 c) ∧ W.cell? ⟨B, 7, none⟩ = some (.int .i64 N) from by
    have d0 := (hb.block B (by omega) (by omega)).trans r0
    refine ⟨?_, ?_, ?_, ?_, ?_, ?_, ?_, ?_⟩ <;> simp [World.cell?, d0])
  have HB0 := Lib.hid t0
  have HT := Lib.hid hT
  have HB := Lib.hid hB
  have hWk := Lib.hid (wakes17_any (hT.below (t0.mono hT.ends.le)))
  have hGr := fun W hv => Lib.hid (Great_any (.slice A L.length cap) L hL hp W hv)
  have hRt := fun W => Lib.hid (Right17_any end_ k s a b c N W)
  have HVW := fun (W : World) (hb : Touch (fun j => B + 1 ≤ j) W0 W) => Lib.hid (show PcsIn W (.slice A L.length cap) L from HV.out.below (t0.trans (hb.below (n := w.heap.size) (by omega) (fun j hj => by omega))))
  have HTW := fun (W : World) (hb : Touch (fun j => B + 1 ≤ j) W0 W) => Lib.hid (show TabR W n0 e0 e1 e2 e3 e4 e5 from hT.below ((t0.mono hT.ends.le).trans (hb.below (n := n0) (by have := hT.ends.le; omega) (fun j hj => by have := hT.ends.le; omega))))
  have HBW := fun (W : World) (hb : Touch (fun j => B + 1 ≤ j) W0 W) => Lib.hid (show Below w.heap.size w W from t0.trans (hb.below (by omega) (fun j hj => by omega)))
  have HJ := Lib.hid hjj
  have HNl := Lib.hid hnl
  have HL := Lib.hid hL
  have Hp := Lib.hid hp
  obtain ⟨m, hm⟩ : ∃ m, L.length = m := ⟨_, rfl⟩
  have Hm := Lib.hid hm
  rw [hm] at eW0 hcv hGr ⊢
  simp only [hm] at cells HVW
  obtain ⟨gr, hgr⟩ : ∃ q, decide (600 < gsum L) = q := ⟨_, rfl⟩
  have Hgr := Lib.hid hgr
  simp only [hgr] at hGr
  obtain ⟨rt, hrt⟩ : ∃ q, right17 end_ k s a b c N = q := ⟨_, rfl⟩
  have Hrt := Lib.hid hrt
  simp only [hrt] at hRt
  clear t0 hT r0 hjj hnl hL hp hm hgr hrt
  go_enter Tryz.func3, Tryz.ntmps3
  go_wp2_with fail
  try rw [eW0]
  refine hWk.out.mono ?_; rintro e w1 ⟨rfl, hb1⟩; dsimp only
  have T1 := Lib.hid (show Touch (fun j => B + 1 ≤ j) W0 w1 from Touch.of_new (by rw [← z0] at *; exact hb1))
  clear hb1
  obtain ⟨x0, x1, x2, x3, x4, x5, x6, x7⟩ := (cells w1 T1.out).out
  go_wp2_with fail
  refine (hGr _ (HVW w1 T1.out).out).out.mono ?_; rintro e w2 ⟨rfl, rfl⟩; dsimp only
  cases gr with
  | true =>
    go_wp2_with fail
    go_ret
    exact ⟨rfl, (HBW _ T1.out).out⟩
  | false =>
  go_wp2_with fail
  refine (hRt _).out.mono ?_; rintro e w2 ⟨rfl, hb2⟩; dsimp only
  have T2 := Lib.hid (T1.out.trans (show Touch (fun j => B + 1 ≤ j) w1 w2 from Touch.of_new hb2))
  clear hb2 x0 x1 x2 x3 x4 x5 x6 x7
  cases rt with
  | false =>
    go_wp2_with fail
    go_ret
    exact ⟨rfl, (HBW _ T2.out).out⟩
  | true =>
  obtain ⟨x0, x1, x2, x3, x4, x5, x6, x7⟩ := (cells w2 T2.out).out
  by_cases hN3 : 300 < N
  · go_wp2_with fail
    go_ret
    exact ⟨rfl, (HBW _ T2.out).out⟩
  have hrt := Hrt.out
  unfold right17 at hrt
  simp only [Bool.and_eq_true, decide_eq_true_eq] at hrt
  obtain ⟨⟨⟨⟨⟨he0, he1⟩, hF⟩, hLm⟩, hN1⟩, hN2⟩ := hrt
  obtain ⟨Nn, rfl⟩ := Int.eq_ofNat_of_zero_le (show 0 ≤ N by omega)
  have hgs : gsum L ≤ 600 := by have := of_decide_eq_false Hgr.out; omega
  have hfl := gsum_flat L
  have hLl : L.length ≤ 1000000 := by omega
  have hpl : ∀ q ∈ L, q.length ≤ 1000000 := fun q hq => by have := flat_le hq; omega
  have hz2 := T2.out.size
  have hNew := RdNew_any (.slice A m cap) L end_ k s a b c Nn he0 he1 hLl hpl hF hLm (by omega) (by omega) n0 w2 (by have := HT.out.ends.le; omega) (HVW w2 T2.out).out
  have HNew := Lib.hid hNew
  unfold NewRdP at HNew
  have hN3' : (Nn : Int) ≤ 300 := by omega
  have Hflat := Lib.hid (show L.flatten.length ≤ 600 by omega)
  have Hx0 := Lib.hid (show SrcOk L.flatten (newRd L end_ k s a b c Nn) from ⟨⟨[], by simp [newRd], by simp only [newRd, newI]; rfl, by simp [newRd]⟩, fun h => absurd rfl h, by
    have := newI_wf (k := k) (s := s) (a := a) (b := b) (c := c) hF hLm hs0
    exact this, ⟨by simp [newRd], by simp [newRd], by simp [newRd], by simp only [newRd]; omega⟩, ⟨by simp only [newRd]; omega, by simp only [newRd]; omega, by simp only [newRd]; omega, by simp [newRd]⟩, fun _ => rfl⟩)
  have Hsz := Lib.hid (show (k = 0 ∨ k = 1) → ∃ l, (newRd L end_ k s a b c Nn).i.t = .sized l from fun h => by
    refine ⟨s, ?_⟩
    simp only [newRd, newI]
    rw [if_neg (by omega), if_neg (by omega)])
  clear hNew hgs hfl hLl hpl hF hLm he0 he1 hz2
  go_wp2_with fail
  refine HNew.out.mono ?_; rintro e w3 ⟨p, rfl, h3, hp3, hb3⟩; dsimp only
  have T3 := Lib.hid (T2.out.trans (show Touch (fun j => B + 1 ≤ j) w2 w3 from (Touch.of_new (X := fun _ => False) hb3).mono (fun _ _ h => h.elim)))
  have H3 := Lib.hid h3
  have Hp3 := Lib.hid (show ∀ t, p.tag t ≠ 0 → B + 1 ≤ t from fun t ht => by have := hp3 t ht; have := T2.out.size; omega)
  clear h3 hp3 hb3 x0 x1 x2 x3 x4 x5 x6 x7
  obtain ⟨x0, x1, x2, x3, x4, x5, x6, x7⟩ := (cells w3 T3.out).out
  go_wp2_with fail
  have hz3 := T3.out.size
  obtain ⟨i0, hi0, hzz0, hzz1, hzz2⟩ := Tryz.info_u8R
  go_loopw [7, 58] (fun al i wr => ∃ kk : Nat, kk ≤ m ∧ i = .int .i64 kk ∧ Hid (wr.ownsRow w3.heap.size 5 1 al (L.take kk).flatten.length ((L.take kk).flatten.map encU)) ∧ Hid (Below w3.heap.size w3 wr)) (fun _ i _ => m - (intOf i).toNat)
  case atStart => exact ⟨0, Nat.zero_le _, rfl, Lib.hid (World.ownsRow_nil _ _ _ _), Lib.hid (Below.refl _ _)⟩
  case round =>
    obtain ⟨kk, hkk, rfl, hown, hbel⟩ := hrel
    by_cases hlt : kk < m
    · have p1 : (0 : Int) ≤ (kk : Int) := Int.natCast_nonneg kk
      have p2 : (kk : Int) < (m : Int) := by omega
      have hLk : kk < L.length := by rw [Hm.out]; exact hlt
      have Tw := T3.out.trans ((Touch.of_new (X := fun _ => False) hbel.out).mono (Y := fun j => B + 1 ≤ j) (fun _ _ h => h.elim))
      have hbw := (HBW _ Tw).out
      obtain ⟨g, o, rfl, hgl, hel⟩ := HJ.out (by rintro rfl; simp at hLk)
      obtain ⟨u, hu, Ap, cp, rfl, hp1, hp2, hrd⟩ := hel kk hLk
      have hcell := (hbw.cell (p := ⟨g, o + kk, none⟩) hgl).trans hu
      have hnil := HNl.out g o cap (by rw [Hm.out]) kk hLk
      have hft : (L.take (kk + 1)).flatten = (L.take kk).flatten ++ (L[kk]?.getD []) := by
        rw [List.take_add_one, List.getElem?_eq_getElem hLk, List.flatten_append]
        simp only [Option.toList_some, List.flatten_cons, List.flatten_nil, List.append_nil, Option.getD_some]
      have hfb : (L.take kk).flatten.length + (L[kk]?.getD []).length ≤ 600 := by
        have h1 : (L.take (kk + 1)).flatten.length ≤ L.flatten.length := by
          conv => rhs; rw [← List.take_append_drop (kk + 1) L]
          rw [List.flatten_append, List.length_append]; omega
        rw [hft, List.length_append] at h1
        have := Hflat.out
        omega
      obtain ⟨q, hq⟩ : ∃ q, L[kk]?.getD [] = q := ⟨_, rfl⟩
      rw [hq] at hcell hp1 hrd hft hfb hu
      have Hft := Lib.hid hft
      obtain ⟨f, hf⟩ : ∃ f, (L.take kk).flatten = f := ⟨_, rfl⟩
      rw [hf] at hown hfb Hft
      obtain ⟨ql, hql⟩ : ∃ ql, q.length = ql := ⟨_, rfl⟩
      obtain ⟨fl, hfl⟩ : ∃ fl, f.length = fl := ⟨_, rfl⟩
      have Hql := Lib.hid hql
      have Hfl := Lib.hid hfl
      rw [hql] at hcell hp1 hfb hu
      rw [hfl] at hown hfb
      have s3 : IntKind.i64.wrap ((kk : Int) + 1) = (kk : Int) + 1 := IntWalk.i64_in _ (by have := HL.out; rw [Hm.out] at this; omega)
      have Hz := Lib.hid hbel.out.size
      cases Ap with
      | none =>
        obtain ⟨e1, e2⟩ := hnil _ _ hu
        subst e1 e2
        have hq0 : q = [] := List.eq_nil_of_length_eq_zero hql
        have Hq0 := Lib.hid hq0
        clear hnil hu hrd hel hft hq hf hql hfl hq0
        go_wp2_with (at_builtin; refine wpList_app_none rfl _ _ 39 rfl w3.heap.size 5 i0 1 Tryz.under_bsR hi0 _ _ _ rfl hown.out rfl ?_)
        go_roundw
        case rel => exact ⟨kk + 1, by omega, by go_num, Lib.hid (by rw [Hft.out, Hq0.out, List.append_nil, Hfl.out]; exact hown.out), hbel⟩
        case measure => simp [intOf]; try omega
      | some ad =>
        have hnews : ∀ j u, (q.map encU)[j]? = some u → wr.cell? (ad.add j) = some u := fun j u hj => by
          have hjl : j < q.length := by have := (List.getElem?_eq_some_iff.1 hj).1; simpa using this
          obtain ⟨b', off', he, hb', hc'⟩ := hrd (by rintro rfl; simp at hjl)
          cases he
          rw [WideShapes.add_plain, hbw.cell (p := ⟨b', off' + j, none⟩) hb', hc' j hjl, ← hj, List.getElem?_map, List.getElem?_eq_getElem hjl]
          rfl
        have HNw := Lib.hid hnews
        clear hnil hu hrd hel hft hq hf hql hfl hnews
        go_wp2_with (at_builtin; refine wpList_app rfl _ _ 39 rfl w3.heap.size 5 i0 (.int .u8 0) 1 1 Tryz.under_bsR hi0 hzz0 hzz1 hzz2 rfl (by decide) _ _ _ rfl hown.out ad ql cp (q.map encU) rfl (by rw [List.length_map, Hql.out]; omega) HNw.out (by intro u hu; obtain ⟨y, _, rfl⟩ := List.mem_map.1 hu; rfl) (by unfold maxLen; omega) (by omega) Hz.out ?_; intro v' w5 own5 gr5; have HO5 := Lib.hid own5; have HB5 := Lib.hid (hbel.out.trans ((grow_touch hown.out gr5).below Hz.out (fun _ h => h))); clear own5 gr5)
        go_roundw
        case rel => exact ⟨kk + 1, by omega, by go_num, Lib.hid (by rw [Hft.out, List.length_append, Hfl.out, Hql.out, List.map_append]; exact HO5.out), HB5⟩
        case measure => simp [intOf]; try omega
    · have hkk' : kk = m := by omega
      have p2 : (m : Int) ≤ (kk : Int) := by omega
      have hall : (L.take kk).flatten = L.flatten := by rw [hkk', ← Hm.out, List.take_length]
      rw [hall] at hown
      have Tw := Lib.hid (T3.out.trans ((Touch.of_new (X := fun _ => False) hbel.out).mono (Y := fun j => B + 1 ≤ j) (fun _ _ h => h.elim)))
      have h5 := H3.out.below hbel.out
      have hz5 := hbel.out.size
      have hSt := Lib.hid (show TurnSt W0 n0 B p.D L.flatten u7 wr 0 p (newRd L end_ k s a b c Nn) (k = 0 ∨ k = 1) from ⟨h5, rfl, Hx0.out, by simp [newRd], by simp [newRd], Hp3.out, own_lower hown.out (by omega), fun j hj => by
        apply Classical.byContradiction
        intro hne
        have := H3.out.hi j hne
        exact own_ge hown.out (k := j) this hj.symm, Tw.out, Hsz.out⟩)
      have Hz5 := Lib.hid (show B + 1 ≤ wr.heap.size by omega)
      clear hall hown hbel h5 hkk hkk' x0 x1 x2 x3 x4 x5 x6 x7
      go_wp2_with fail
      have u8s : ∀ q : Nat, q < 255 → IntKind.u8.wrap ((q : Int) + 1) = (q : Int) + 1 := fun q hq => IntWalk.u8_in _ (by omega)
      go_loopw [67] (fun i wt => ∃ kk : Nat, kk ≤ T ∧ i = .int .u8 kk ∧ ∃ p' x', Hid (TurnSt W0 n0 B p.D L.flatten u7 wt kk p' x' (k = 0 ∨ k = 1)) ∧ Hid (B + 1 ≤ wt.heap.size)) (fun i _ => T - (intOf i).toNat)
      case atStart => exact ⟨0, Nat.zero_le _, rfl, p, _, hSt, Hz5⟩
      case round =>
        obtain ⟨kk, hkk, rfl, p', x', hS, hzw⟩ := hrel
        by_cases hlt : kk < T
        · have p2 : (kk : Int) < (T : Int) := by omega
          obtain ⟨b1, b2, b3, b4⟩ := hS.out.ok.bounds Hflat.out
          have hStep := Lib.hid (RdStep_any hS.out.at_ (HTW _ hS.out.t).out hS.out.ok.iw (by omega) b1 (by omega) b3 hS.out.ok.cw hS.out.ok.rw (by omega))
          rw [hS.out.hD] at hStep
          unfold StepP2 at hStep
          have hok1 := Lib.hid (hS.out.ok.step (e0 := e0) (e1 := e1) (e2 := e2) (e3 := e3) (e4 := e4) (e5 := e5))
          have hgr1 := Lib.hid (x'.step_gr (e0 := e0) (e1 := e1) (e2 := e2) (e3 := e3) (e4 := e4) (e5 := e5))
          have hsz1 := Lib.hid (fun h => Rdr.step_sized (e0 := e0) (e1 := e1) (e2 := e2) (e3 := e3) (e4 := e4) (e5 := e5) (hS.out.szd h))
          obtain ⟨sr, hsr⟩ : ∃ sr, x'.step e0 e1 e2 e3 e4 e5 = sr := ⟨_, rfl⟩
          rw [hsr] at hStep hok1 hgr1
          simp only [hsr] at hsz1
          obtain ⟨si, x1⟩ := sr
          dsimp only at hStep hok1 hgr1 hsz1
          clear b1 b2 b3 b4 hsr
          go_wp2_with fail
          refine hStep.out.mono ?_; rintro e w5 ⟨p1, rfl, hpD, h5, htg, t5⟩; dsimp only
          have hS1 := hS.out.step (k' := kk) hpD h5 hok1.out htg t5 (by rw [hgr1.out]; exact hS.out.g0) (by rw [hgr1.out]; exact hS.out.g1) hsz1.out hzw.out
          have hz5 := t5.size
          have HS1 := Lib.hid hS1
          have hzw5 := Lib.hid (Nat.le_trans hzw.out hz5)
          obtain ⟨x0, x1', x2, x3, x4, x5, x6, x7⟩ := (cells w5 hS1.t).out
          have hTk := Lib.hid (RdTake_any hS1.at_ hS1.ok.rw Nn (by omega))
          rw [hS1.hD] at hTk
          have hrl := hS1.ok.rw.len
          have hrn := hS1.ok.rw.n2
          clear hS1 h5 htg t5 hpD hz5 hStep x0 x1' x2 x3 x4 x5 x6
          go_wp2_with fail
          refine hTk.out.mono ?_; rintro e w6 ⟨vo, rfl, hod, h6, t6⟩; dsimp only
          obtain ⟨Ao, co, rfl⟩ := own_sl hod
          have hS2 := HS1.out.step (k' := kk) (p' := p1) rfl h6 (HS1.out.ok.take Nn) (fun j hj => .inl hj) t6 HS1.out.g0 HS1.out.g1 HS1.out.szd hzw5.out
          have hzw6 := Lib.hid (Nat.le_trans hzw5.out t6.size)
          obtain ⟨gn, hgn⟩ : ∃ gn, min Nn x1.r.held.length = gn := ⟨_, rfl⟩
          rw [hgn] at hod ⊢
          have hgb : gn ≤ 65536 := by omega
          have hGv := Lib.hid (RdGive_any hS2.at_ hS2.ok.cw hS2.ok.rw gn (by omega) (by have := hS2.g0; omega) (by have := hS2.g1; omega))
          rw [hS2.hD] at hGv
          have HS2 := Lib.hid hS2
          clear hS2 h6 t6 hod hgn hTk x7
          go_wp2_with fail
          refine hGv.out.mono ?_; rintro e w7 ⟨rfl, h7, t7⟩; dsimp only
          have HS3 := Lib.hid (HS2.out.step (k' := kk + 1) (p' := p1) rfl h7 (HS2.out.ok.give gn) (fun j hj => .inl hj) t7 (by have := (Rdr.give_gr { x1 with r := x1.r.drop Nn } gn).1; have := HS2.out.g0; omega) (by
            have h1 := (Rdr.give_gr { x1 with r := x1.r.drop Nn } gn).2
            have h2 := HS2.out.g1
            have : ((65536 * (kk + 1) : Nat) : Int) = 65536 * kk + 65536 := by omega
            omega) (by rw [Rdr.give_i]; exact HS2.out.szd) hzw6.out)
          have hzw7 := Lib.hid (Nat.le_trans hzw6.out t7.size)
          clear h7 t7 hGv
          have s8 := u8s kk (by omega)
          go_wp2_with fail
          go_roundw
          case rel => exact ⟨kk + 1, by omega, by go_num, _, _, HS3, hzw7⟩
          case measure => simp [intOf]; try omega
        · have p2 : (T : Int) ≤ (kk : Int) := by omega
          obtain ⟨hd, hall, htk, hrd⟩ := hS.out.ok.head
          obtain ⟨b1, b2, b3, b4⟩ := hS.out.ok.bounds Hflat.out
          have d0 := hS.out.at_.c0
          have hTa := Lib.hid (ITaken_any hS.out.at_.it)
          have hRe := Lib.hid (RdRest_any hS.out.at_ (by omega))
          rw [hS.out.hD] at d0 hRe
          rw [htk] at hTa
          have hal : L.flatten.length = hd.length + (x'.rest.length + x'.s.pcs.flatten.length) := by rw [hall, List.length_append, List.length_append]
          have hfin : (k = 0 ∨ k = 1) → x'.rest = [] := fun h => hS.out.ok.szd (hS.out.szd h)
          have Hfin := Lib.hid hfin
          have Hall := Lib.hid hall
          have hown := hS.out.own
          obtain ⟨Al, cl, hlv⟩ := own_sl hown
          subst hlv
          have HOwn := Lib.hid hown
          obtain ⟨-, hlc, hlm, -⟩ := own_rd hown
          obtain ⟨hn, hhn⟩ : ∃ hn, hd.length = hn := ⟨_, rfl⟩
          obtain ⟨rn, hrn⟩ : ∃ rn, x'.rest.length = rn := ⟨_, rfl⟩
          obtain ⟨an, han⟩ : ∃ an, L.flatten.length = an := ⟨_, rfl⟩
          have hfl600 := Hflat.out
          have Hhn := Lib.hid hhn
          have Hrn := Lib.hid hrn
          have Han := Lib.hid han
          rw [hhn] at hTa hal
          rw [hrn] at hRe hal b4
          rw [han] at hal hfl600 hlc ⊢
          have a1 : IntKind.i64.wrap ((hn : Int) + (rn : Int)) = (hn : Int) + (rn : Int) := IntWalk.i64_in _ (by omega)
          have a2 : (hn : Int) + (rn : Int) ≤ (an : Int) := by omega
          clear b1 b2 b3 htk hrd hfin hall hown hhn hrn han
          go_wp2_with fail
          refine hTa.out.mono ?_; rintro e w5 ⟨rfl, rfl⟩; dsimp only
          go_wp2_with fail
          refine hRe.out.mono ?_; rintro e w6 ⟨vr, rfl, hor, hb6⟩; dsimp only
          obtain ⟨Ar, cr, rfl⟩ := own_sl hor
          have HOr := Lib.hid hor
          have HB6 := Lib.hid hb6
          have hz6 := hb6.size
          have HS' := hS
          clear hor hb6
          by_cases hkc : cl = hn
          · have hr0 : rn = 0 := by omega
            have hr0' : x'.rest = [] := List.eq_nil_of_length_eq_zero (Hrn.out.trans hr0)
            subst hr0
            have hI1 := own_ints (by rw [Hrn.out]; exact HOr.out)
            have HSm := Lib.hid (Same_any (.slice Ar 0 cr) (.slice Al 0 0) (x'.rest.map fun c => (c.toNat : Int)) (x'.rest.map fun c => (c.toNat : Int)) w6 hI1 ⟨Al, 0, by rw [hr0']; rfl, by rw [hr0']; exact Nat.le_refl _, by unfold maxLen; omega, fun h => by rw [hr0'] at h; exact absurd rfl h⟩ (by rw [List.length_map, Hrn.out]; omega) (by rw [List.length_map, Hrn.out]; omega))
            have hkc2 : (hn : Int) ≤ (an : Int) := by omega
            clear hI1 hr0'
            go_wp2_with fail
            refine HSm.out.mono ?_; rintro e w7 ⟨rfl, q7, rfl⟩; dsimp only
            try rw [decide_eq_true rfl]
            have HB7 := Lib.hid ((HBW _ HS'.out.t).out.trans (below_drewN (HB6.out.mono (by have := (HBW _ HS'.out.t).out.size; exact this)) q7))
            obtain ⟨y0, y1, y2, y3, y4, y5, y6, y7⟩ := (cells (w6.drewN q7) (HS'.out.t.trans (((Touch.of_new (X := fun _ => False) HB6.out).drewN q7).mono (fun _ _ h => h.elim)))).out
            by_cases hk01 : k = 0 ∨ k = 1
            · rcases hk01 with rfl | rfl
              all_goals
                go_wp2_with fail
                go_ret
                first | exact ⟨rfl, HB7.out⟩ | exact ⟨rfl, by have h := HB7.out; rw [HB.out] at h; exact h⟩
            · have t6 : (k != 1) = true := bne_iff_ne.2 (fun h => hk01 (.inr h))
              have t7 : (k != 0) = true := bne_iff_ne.2 (fun h => hk01 (.inl h))
              go_wp2_with fail
              go_ret
              first | exact ⟨rfl, HB7.out⟩ | exact ⟨rfl, by have h := HB7.out; rw [HB.out] at h; exact h⟩
          · have hkc2 : hn < cl := by omega
            have hI1 := own_ints (by rw [Hrn.out]; exact HOr.out)
            have hO6 := own_touchL HOwn.out (Touch.of_new (X := fun _ => False) HB6.out) (fun _ _ h => h)
            have hdr : (L.flatten.drop hn).take rn = x'.rest := by
              rw [Hall.out, ← Hhn.out, ← Hrn.out, List.drop_left, List.take_left]
            have hI2 := own_sub hO6 hn rn (by rw [Han.out]; omega) (cl - hn) (by omega) (by omega)
            rw [hdr] at hI2
            have HSm := Lib.hid (Same_any (.slice Ar rn cr) (.slice (Option.map (fun x => x.add hn) Al) rn (cl - hn)) (x'.rest.map fun c => (c.toNat : Int)) (x'.rest.map fun c => (c.toNat : Int)) w6 hI1 hI2 (by rw [List.length_map, Hrn.out]; omega) (by rw [List.length_map, Hrn.out]; omega))
            clear hI1 hI2 hO6 hdr
            go_wp2_with fail
            refine HSm.out.mono ?_; rintro e w7 ⟨rfl, q7, rfl⟩; dsimp only
            try rw [decide_eq_true rfl]
            have HB7 := Lib.hid ((HBW _ HS'.out.t).out.trans (below_drewN (HB6.out.mono (by have := (HBW _ HS'.out.t).out.size; exact this)) q7))
            obtain ⟨y0, y1, y2, y3, y4, y5, y6, y7⟩ := (cells (w6.drewN q7) (HS'.out.t.trans (((Touch.of_new (X := fun _ => False) HB6.out).drewN q7).mono (fun _ _ h => h.elim)))).out
            by_cases hk01 : k = 0 ∨ k = 1
            · have hr0 : rn = 0 := by rw [← Hrn.out, Hfin.out hk01]; rfl
              have t5 : ((rn : Int) == 0) = true := by rw [hr0]; rfl
              rcases hk01 with rfl | rfl
              all_goals
                go_wp2_with fail
                go_ret
                first | exact ⟨rfl, HB7.out⟩ | exact ⟨rfl, by have h := HB7.out; rw [HB.out] at h; exact h⟩
            · have t6 : (k != 1) = true := bne_iff_ne.2 (fun h => hk01 (.inr h))
              have t7 : (k != 0) = true := bne_iff_ne.2 (fun h => hk01 (.inl h))
              go_wp2_with fail
              go_ret
              first | exact ⟨rfl, HB7.out⟩ | exact ⟨rfl, by have h := HB7.out; rw [HB.out] at h; exact h⟩
end

end Go.Proofs.YtfeljjlpdefnmaaGreat
