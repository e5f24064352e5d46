/-
  Layer 3 (ring): Peek, Drop, Read.
-/
import Derived.Test.YtfeljjlpdefnmaaGreatRinP
import Derived.Deep.CutBlock
import Derived.OwnWalk
import Derived.Maps.OwnIn
namespace Go.Proofs.YtfeljjlpdefnmaaGreat
open Go.RowKit
set_option linter.unusedVariables false
set_option linter.unusedSimpArgs false
attribute [local go_sem] Oper.semAt_some

section
variable {W W1 : World} {R a : Nat} {r : Rg}
theorem lt_of_cellR {W : World} {p : Addr} {v : Value} (h : W.cell? p = some v) : p.block < W.heap.size := by
  apply Classical.byContradiction
  intro hlt
  simp [World.cell?, Array.getElem?_eq_none (Nat.le_of_not_lt hlt)] at h
theorem all_stops (q n₀ : Nat) (X : Nat → Prop) (hXq : ¬ X q) (hXR : ¬ X R) (hXa : ¬ X a) (hqn : q < n₀) (hRn : R < n₀) (han : a < n₀) (w : World)
    (hq : w.cell? ⟨q, 0, none⟩ = some (.pointer (some ⟨R, 0, none⟩))) (h : RgAt w R a r) (hw : r.wf) :
    SeqStopsK Fence.wide 7 Tryz.prog 52 #[.pointer (some ⟨q, 0, none⟩)] (rgEnc r) (KeepX n₀ X) (fun ys => ys = upto id r.held.length) (fun pre => ∃ j, j ≤ r.held.length ∧ pre = upto id j) r.held.length w := fun l J Jx W hW hJ _ hY h0 => by
  have ht : Touch (fun _ => False) w W := Touch.of_new hW
  exact all1_in l q n₀ X hXq hXR hXa hqn hRn han J Jx W hY hJ ((ht.cell (p := ⟨q, 0, none⟩) (lt_of_cellR hq) (fun h => h)).trans hq) (h.touch ht (fun h => h) (fun h => h)) hw h0
theorem upto_take (l : List UInt8) (j n : Nat) (hm : min n l.length = j) : (upto id j).map (fun i => encU (l[i]?.getD 0)) = (l.take n).map encU := by
  refine List.ext_getElem (by rw [List.length_map, upto_length, List.length_map, List.length_take, hm]) (fun i h1 h2 => ?_)
  rw [List.length_map, upto_length] at h1
  have hl : i < l.length := by omega
  simp [upto, List.getElem?_eq_getElem hl]
theorem own_ne' {W : World} {base : Nat} {e : TypeId} {size n k : Nat} {v : Value} {xs : List Value} {o : Obj} (h : W.ownsRow base e size v n xs) (ho : W.heap[k]? = some o) (hc : o.isCells = false) : v.ownBlock = none ∨ v.ownBlock ≠ some k := by
  rcases h.2 with ⟨rfl, _⟩ | ⟨g, cap, cur, rfl, _, hgb, _⟩
  · exact .inl rfl
  · refine .inr (fun e' => ?_)
    obtain rfl : g = k := by simpa [Value.ownBlock] using e'
    rw [hgb] at ho; cases ho; cases hc
/-- What Peek's body keeps: the box of out, and what it owns. -/
def PkO (W : World) (B O R m : Nat) (r : Rg) (pre : List Nat) (W' : World) : Prop :=
  (∃ v, Boxed W' O 39 v ∧ W'.ownsRow (B + 1) 5 1 v pre.length (pre.map fun i => encU (r.held[i]?.getD 0)) ∧ True) ∧ Boxed W' B 3 (.int .i64 m) ∧ Boxed W' (O + 1) 46 (.pointer (some ⟨R, 0, none⟩)) ∧ Below B W W'
theorem boxed_own {β : Type} {B O : Nat} {t : TypeId} {v : Value} : OwnFrom B (fun (_ : β) W' => Boxed W' O t v) := fun s A B' row hs hg hr => hs.kept hg (fun e => by
  obtain ⟨hr1, o, ho, hoc⟩ := hr _ e.symm
  rw [show A.heap[O]? = _ from hs] at ho
  cases ho
  simp [Obj.isCells] at hoc)
theorem PkO.own {W : World} {B O R m C : Nat} {r : Rg} (h : B ≤ C) (hB : B ≤ W.heap.size) : OwnFrom C (PkO W B O R m r) :=
  OwnFrom.and (Own.from (holdsRow_own (B + 1) O 39 5 1 (fun pre : List Nat => pre.length) (fun pre => pre.map fun i => encU (r.held[i]?.getD 0)) (fun _ _ => True)) _)
    (OwnFrom.and boxed_own (OwnFrom.and boxed_own (ownFrom_below hB h)))
/-- A round of Peek's body. -/
theorem PkO.step {W W' w2 : World} {B O R m x : Nat} {r : Rg} {pre : List Nat} {v v' : Value} {bv : Int} {o : Obj} {C : Prop}
    (HA : Hid (Boxed w2 O 39 v ∧ Boxed (w2.setCell ⟨O, 0, none⟩ v') O 39 v' ∧ (w2.setCell ⟨O, 0, none⟩ v').ownsRow (B + 1) 5 1 v' (pre.length + 1) ((pre.map fun i => encU (r.held[i]?.getD 0)) ++ [.int .u8 bv]) ∧ KeepsOthers W' (w2.setCell ⟨O, 0, none⟩ v') ∧ Below (B + 1) W' (w2.setCell ⟨O, 0, none⟩ v')))
    (HG : Hid ((W'.alloc o).grownBy w2 v.ownBlock)) (hq : Boxed W' (O + 1) 46 (.pointer (some ⟨R, 0, none⟩))) (hB : Boxed W' B 3 (.int .i64 m))
    (hrow : W'.ownsRow (B + 1) 5 1 v pre.length (pre.map fun i => encU (r.held[i]?.getD 0))) (hbel : Below B W W') (hOB : B + 2 ≤ O) (hbv : encU (r.held[x]?.getD 0) = .int .u8 bv)
    (h : KeepX (O + 2) (fun k => B + 1 ≤ k ∧ k ≠ O + 1) W' (w2.setCell ⟨O, 0, none⟩ v') → PkO W B O R m r (pre ++ [x]) (w2.setCell ⟨O, 0, none⟩ v') → C) : C := by
  have hblk : (w2.setCell ⟨O, 0, none⟩ v').heap[O + 1]? = W'.heap[O + 1]? := by
    rw [Below.heap_setCell w2 ⟨O, 0, none⟩ v' (O + 1) (by show ¬ O + 1 = O; omega)]
    have hl := hq.lt
    rw [HG.out.block (O + 1) (by rw [World.size_alloc]; omega) (hq.not_row (by decide) hrow)]
    exact Below.heap_alloc W' o (O + 1) hl
  refine h (fun k hk hx => ?_) ⟨⟨v', HA.out.2.1, ?_, trivial⟩, (HA.out.2.2.2.2.block B (by omega)).trans hB, hblk.trans hq, hbel.trans (HA.out.2.2.2.2.mono (by omega))⟩
  · by_cases h1 : k = O + 1
    · subst h1; exact hblk
    · exact HA.out.2.2.2.2.block k (Classical.byContradiction fun h2 => hx ⟨by omega, h1⟩)
  · have := HA.out.2.2.1
    rw [List.length_append, List.map_append, List.map_singleton, hbv]
    exact this
set_option maxRecDepth 100000 in
set_option maxHeartbeats 4000000 in
theorem RPeek_any (h : RgAt W R a r) (hw : r.wf) (n : Nat) (hn : n ≤ 1000000) :
    Calls Tryz.prog 47 #[.pointer (some ⟨R, 0, none⟩), .int .i64 n] W fun e w' => ∃ vo, e = .returned vo ∧ w'.ownsRow W.heap.size 5 1 vo (min n r.held.length) ((r.held.take n).map encU) ∧ Below W.heap.size W w' := by
  obtain ⟨m, hm⟩ : ∃ m, min n r.held.length = m := ⟨_, rfl⟩
  have c2 := h.c2
  have s0 : max (n : Int) 0 = (n : Int) := by omega
  have s1 : min (n : Int) (r.held.length : Int) = (m : Int) := by omega
  rw [hm]
  refine calls_of_wp_marks Tryz.func47 rfl ?_
  simp only [Tryz.ntmps47, List.size_toArray, List.length_cons, List.length_nil, Nat.reduceAdd, Nat.reduceSub, Array.replicate_succ, Array.replicate_zero, List.push_toArray, List.append_toArray, List.nil_append, List.cons_append]
  go_wp2_with fail
  obtain ⟨W1, eW1, hB, hz1, hb1⟩ : ∃ W1, W.alloc (.cells #[.int .i64 n] 3) = W1 ∧ W1.heap[W.heap.size]? = some (.cells #[.int .i64 n] 3) ∧ W1.heap.size = W.heap.size + 1 ∧ Below W.heap.size W W1 := ⟨_, rfl, World.alloc_heap_new _ _, by simp, (Below.refl _ W).alloc (Nat.le_refl _) _⟩
  obtain ⟨B, hBe⟩ : ∃ B, W.heap.size = B := ⟨_, rfl⟩
  rw [eW1]
  have c2' : W1.cell? ⟨R, 2, none⟩ = some (.int .i64 (r.held.length : Int)) := (hb1.cell (p := ⟨R, 2, none⟩) h.ltR).trans c2
  rw [hBe] at hB ⊢
  have b0 : W1.cell? ⟨B, 0, none⟩ = some (.int .i64 n) := by simp [World.cell?, hB]
  have f0 : W1.frozen? ⟨B, 0, none⟩ = false := by simp [World.frozen?, hB]
  have hW2 := setBoxR (j := 0) (.int .i64 m) hB
  have T2 := (Touch.refl (· = B) W1).setCell (p := ⟨B, 0, none⟩) (.inl rfl) (.int .i64 m)
  have HW2 := Lib.hid hW2
  have HT2 := Lib.hid T2
  have HB := Lib.hid hB
  have HE := Lib.hid eW1
  have HM := Lib.hid hm
  have HZ := Lib.hid hz1
  have HB1 := Lib.hid hb1
  have H := Lib.hid h
  have Hw := Lib.hid hw
  have HBe := Lib.hid hBe
  have hml : m ≤ r.held.length := by omega
  have hL := hw.len
  have hN2 := hw.n2
  obtain ⟨L, hLe⟩ : ∃ L, r.held.length = L := ⟨_, rfl⟩
  rw [hLe] at c2' s1 hml hL
  have HLe := Lib.hid hLe
  clear hW2 T2 hB eW1 hm hz1 hb1 h hw hBe c2 hLe
  refine wp_region_noPanic ?_
  go_region_law (fail)
  all_goals
    refine NoPanic.normal ?_
    obtain ⟨W2, eW2⟩ : ∃ W2, (W1.setCell ⟨B, 0, none⟩ (.int .i64 m)).drew = W2 := ⟨_, rfl⟩
    rw [eW2]
    have hB2 : W2.heap[B]? = some (.cells #[.int .i64 m] 3 (0, 0)) := by rw [← eW2]; exact HW2.out
    have T2 : Touch (· = B) W1 W2 := by rw [← eW2]; exact HT2.out.drew
    have hz2 : W2.heap.size = B + 1 := by rw [← eW2, ← HBe.out, ← HZ.out]; exact World.size_setCell _ _ _
    obtain ⟨i0, hi, hz0, hz1', hz2'⟩ := Tryz.info_u8R
    obtain ⟨W3, hmk, hown, hgr⟩ := run_make_own W2 (P := Tryz.prog) (B + 1) 39 5 i0 (.int .u8 0) 1 Tryz.under_bsR hi hz0 hz1' .i64 .i64 m (by rw [hz2']; omega) (by unfold maxLen; omega) (by omega)
    have b2 : W2.cell? ⟨B, 0, none⟩ = some (.int .i64 m) := by simp [World.cell?, hB2]
    have hB3 : W3.heap[B]? = some (.cells #[.int .i64 m] 3 (0, 0)) := (hgr.block B (by omega) (by simp)).trans hB2
    have b3 : W3.cell? ⟨B, 0, none⟩ = some (.int .i64 m) := by simp [World.cell?, hB3]
    rw [hz2] at hmk
    obtain ⟨O, hO⟩ : ∃ O, W3.heap.size = O := ⟨_, rfl⟩
    have hOB : B + 2 ≤ O := by
      rcases hown.2 with ⟨h, _⟩ | ⟨g, _, _, hv, hg, hgb, _⟩
      · cases h
      · have h1 := lt_of_heap hgb
        cases hv
        rw [hz2] at h1
        omega
    obtain ⟨W4, eW4, hO4, hz4, hb4⟩ : ∃ W4, W3.alloc (.cells #[.slice (some ⟨B + 1, 0, none⟩) 0 m] 39) = W4 ∧ Boxed W4 O 39 (.slice (some ⟨B + 1, 0, none⟩) 0 m) ∧ W4.heap.size = O + 1 ∧ Below W3.heap.size W3 W4 := ⟨_, rfl, by rw [← hO]; exact Boxed.new _ _ _, by rw [World.size_alloc, hO], (Below.refl _ _).alloc (Nat.le_refl _) _⟩
    have hB4 : Boxed W4 B 3 (.int .i64 m) := (hb4.block B (by omega)).trans hB3
    have b4 := hB4.cell
    have o4 := hO4.cell
    rw [hz2] at hown
    have hown4 : W4.ownsRow (B + 1) 5 1 (.slice (some ⟨B + 1, 0, none⟩) 0 m) 0 [] := own_below hown hb4
    have hBel4 : Below B W W4 := ((HBe.out ▸ HB1.out).trans (T2.below (n := B) (by rw [HZ.out, HBe.out]; omega) (fun k hk => by have hk' : k = B := hk; omega))).trans (((show Below W2.heap.size W2 W3 from ⟨hgr.os, hgr.tape, hgr.output, hgr.size, fun k hk => hgr.block k hk (by simp)⟩).mono (by omega)).trans (hb4.mono (by omega)))
    have HO4 := Lib.hid hO4
    have HB4 := Lib.hid hB4
    have HBel := Lib.hid hBel4
    have Hown4 := Lib.hid hown4
    clear hb4 hown hgr hO4 hB4 hBel4 hown4 hB3 hB2 T2 hz2 eW2 HW2 HT2 b0 f0
    by_cases hm0 : m = 0
    · have t0 : ((m : Int) == 0) = true := by rw [hm0]; rfl
      have hl0 : (r.held.take n).map encU = [] := by
        have : (r.held.take n).length = 0 := by rw [List.length_take]; exact HM.out.trans hm0
        rw [List.eq_nil_of_length_eq_zero this]; rfl
      have HL0 := Lib.hid hl0
      have HM0 := Lib.hid hm0
      clear hl0 hm0
      go_wp2_with fail
      refine post_nomark rfl (results_tmp rfl _ _ _) ?_
      rw [HL0.out, HBe.out]
      have hgo : ∀ k, k = 0 → W4.ownsRow B 5 1 (.slice (some ⟨B + 1, 0, none⟩) 0 m) k [] := by
        rintro _ rfl
        exact own_lower Hown4.out (by omega)
      exact ⟨_, rfl, hgo m HM0.out, HBel.out⟩
    · have t0 : ((m : Int) == 0) = false := beq_eq_false_iff_ne.2 (by omega)
      go_wp2_with fail
      refine (RAll_any _).mono ?_; rintro e w5 ⟨rfl, e5⟩; dsimp only
      rw [hz4]
      have hq5 : Boxed w5 (O + 1) 46 (.pointer (some ⟨R, 0, none⟩)) := by rw [← e5, ← hz4]; exact Boxed.new _ _ _
      have hb5 : Below W4.heap.size W4 w5 := by rw [← e5]; exact (Below.refl _ _).alloc (Nat.le_refl _) _
      have hz5 : w5.heap.size = O + 2 := by rw [← e5, World.size_alloc, hz4]
      rw [hz4] at hb5
      have hO5 : Boxed w5 O 39 (.slice (some ⟨B + 1, 0, none⟩) 0 m) := (hb5.block O (by omega)).trans HO4.out
      have hB5 : Boxed w5 B 3 (.int .i64 m) := (hb5.block B (by omega)).trans HB4.out
      have hBel5 : Below B W w5 := HBel.out.trans (hb5.mono (by omega))
      have hown5 : w5.ownsRow (B + 1) 5 1 (.slice (some ⟨B + 1, 0, none⟩) 0 m) 0 [] := own_below Hown4.out (by rw [hz4]; exact hb5)
      clear e5 hb5
      have hRB : R < B := by have := H.out.ltR; rw [HBe.out] at this; exact this
      have haB : a < B := by have := H.out.ltA; rw [HBe.out] at this; exact this
      have hr5 : RgAt w5 R a r := H.out.below (by rw [HBe.out]; exact hBel5)
      have hml' : m ≤ r.held.length := by rw [HLe.out]; exact hml
      go_wp2_with fail
      refine wp_range (gf := 52) rfl (enters_of Tryz.func52 (by kernel_rfl) rfl)
        (all_stops (O + 1) (O + 2) (fun k => B + 1 ≤ k ∧ k ≠ O + 1) (fun h => h.2 rfl) (fun h => by omega) (fun h => by omega) (by omega) (by omega) (by omega) w5 hq5.cell hr5 Hw.out)
        (by omega) (Below.refl _ _) (fun _ => rfl)
        (fun pre W' => pre.length < m ∧ PkO W B O R m r pre W')
        (fun c pre W' => c = .exit 0 ∧ pre.length = m ∧ PkO W B O R m r pre W')
        ?hI ?hIx ?h0 (fun i => { tmps := #[Value.pointer (some { block := R, off := 0 }), Value.int IntKind.i64 ↑n, undef,
          Value.pointer (some { block := B, off := 0 }), Value.slice none 0 0,
          Value.pointer (some { block := O, off := 0 }), undef, encU (r.held[i]?.getD 0), Value.int IntKind.i64 ↑n,
          Value.int IntKind.i64 ↑n, Value.pointer (some { block := R, off := 0 }),
          Value.pointer (some { block := R, off := 0 }), Value.pointer (some { block := R, off := 2 }),
          Value.int IntKind.i64 ↑L, Value.int IntKind.i64 ↑m, Value.int IntKind.i64 ↑m,
          Value.slice (some { block := B + 1, off := 0 }) 0 m, Value.int IntKind.i64 ↑m, Value.bool false, undef,
          Value.pointer (some { block := R, off := 0 }),
          Value.func (Fn.func 52) #[] #[Value.pointer (some { block := O + 1, off := 0 })], .int .i64 ((r.head + i) % r.N : Nat), encU (r.held[i]?.getD 0), undef, undef,
          undef, undef, undef, undef, undef, undef, undef], defers := [] }) ?assign ?body ?done ?stop
      case hI => exact OwnFrom.and (ownFrom_pure _ (fun pre : List Nat => pre.length < m)) (PkO.own (by omega) (by rw [HBe.out]; omega))
      case hIx => exact fun c => OwnFrom.and (ownFrom_pure _ _) (OwnFrom.and (ownFrom_pure _ (fun pre : List Nat => pre.length = m)) (PkO.own (by omega) (by rw [HBe.out]; omega)))
      case h0 => exact ⟨by show 0 < m; omega, ⟨_, hO5, hown5, trivial⟩, hB5, hq5, hBel5⟩
      case assign =>
        intro l' x W' K hK
        unfold rgEnc
        generalize encU (r.held[x]?.getD 0) = bv at *
        generalize (r.head + x) % r.N = pv at *
        gi_wp2
        exact hK
      case body =>
        rintro l' pre x W' ⟨hlt, ⟨v, bfv, hrow, -⟩, hBv, hqv, hbelv⟩ hlen
        have f0 := bfv.cell
        have f3 := hBv.cell
        obtain ⟨bv, hbv⟩ : ∃ z, encU (r.held[x]?.getD 0) = .int .u8 z := ⟨_, rfl⟩
        have Hbv := Lib.hid hbv
        rw [hbv]
        have hne : 39 ≠ (5 : Nat) := by decide
        have hsz : O + 2 ≤ W'.heap.size := by have := hqv.lt; omega
        obtain ⟨i1, hj, hy0, hy1, hy2⟩ := Tryz.info_u8R
        clear hbv b2 b3 b4 o4 hmk
        have HQ := Lib.hid hqv
        have HBV := Lib.hid hBv
        have HRow := Lib.hid hrow
        have HBl := Lib.hid hbelv
        by_cases hend : pre.length + 1 = m
        · have t1 : ((pre.length : Int) + 1 == (m : Int)) = true := beq_iff_eq.2 (by omega)
          have Hend := Lib.hid hend
          clear hend
          gi_wp2_with (gi_at_builtin; refine wpListIn_append_own_at _ rfl _ _ 39 rfl (B + 1) 5 i1 (.int .u8 0) 1 1 Tryz.under_bsR hj hy0 hy1 hy2 rfl (by decide) _ _ _ rfl (hrow.alloc _) ⟨W'.heap.size, 0, none⟩ 1 1 [.int .u8 bv] rfl rfl (cell_one_new _ _ _) (by intro u hu; obtain rfl := List.mem_singleton.1 hu; rfl) (by unfold maxLen; omega) (by omega) (by rw [World.size_alloc]; omega) ?_; intro v' w2 hown' hgrow hnil hat; obtain ⟨g', cap', rfl, hg1, hg2⟩ := hown'.form (by omega); have hA := Boxed.appended bfv hne hrow (by omega) (by omega) hown' hgrow; have hc2 := hA.1.cell; have hf2 := hA.1.frozen; have hB2 := ((hA.2.2.2.2).block B (by omega)).trans hBv; have hc3 := Boxed.cell (t := 3) (show Boxed _ B 3 _ from hB2); have HA := Lib.hid hA; have HG := Lib.hid hgrow; clear hA hgrow hnil hat hB2)
          exact PkO.step HA HG HQ.out HBV.out HRow.out HBl.out hOB Hbv.out (fun hk hx => ⟨HA.out.2.2.2.1.from _, rfl, by rw [List.length_append]; exact Hend.out, hx⟩)
        · have t1 : ((pre.length : Int) + 1 == (m : Int)) = false := beq_eq_false_iff_ne.2 (by omega)
          have Hend := Lib.hid (show pre.length + 1 < m by omega)
          clear hend
          gi_wp2_with (gi_at_builtin; refine wpListIn_append_own_at _ rfl _ _ 39 rfl (B + 1) 5 i1 (.int .u8 0) 1 1 Tryz.under_bsR hj hy0 hy1 hy2 rfl (by decide) _ _ _ rfl (hrow.alloc _) ⟨W'.heap.size, 0, none⟩ 1 1 [.int .u8 bv] rfl rfl (cell_one_new _ _ _) (by intro u hu; obtain rfl := List.mem_singleton.1 hu; rfl) (by unfold maxLen; omega) (by omega) (by rw [World.size_alloc]; omega) ?_; intro v' w2 hown' hgrow hnil hat; obtain ⟨g', cap', rfl, hg1, hg2⟩ := hown'.form (by omega); have hA := Boxed.appended bfv hne hrow (by omega) (by omega) hown' hgrow; have hc2 := hA.1.cell; have hf2 := hA.1.frozen; have hB2 := ((hA.2.2.2.2).block B (by omega)).trans hBv; have hc3 := Boxed.cell (t := 3) (show Boxed _ B 3 _ from hB2); have HA := Lib.hid hA; have HG := Lib.hid hgrow; clear hA hgrow hnil hat hB2)
          exact PkO.step HA HG HQ.out HBV.out HRow.out HBl.out hOB Hbv.out (fun hk hx => ⟨HA.out.2.2.2.1.from _, hk, by show (pre ++ [x]).length < m; rw [List.length_append]; exact Hend.out, hx⟩)
      case done =>
        rintro D ys W' hD rfl ⟨hlt, hpk⟩ hK
        rw [upto_length] at hlt
        omega
      case stop =>
        rintro D c pre W' hD ⟨j, hj, rfl⟩ ⟨rfl, hlen, ⟨v, bfv, hrow, -⟩, hBv, hqv, hbelv⟩ hK
        have f0 := bfv.cell
        have HRow := Lib.hid hrow
        have HBl := Lib.hid hbelv
        have Hlen := Lib.hid hlen
        clear hrow hbelv hlen
        go_wp2_with fail
        refine post_mark rfl hK (results_tmp rfl _ _ _) ?_
        have hlen := Hlen.out
        rw [upto_length] at hlen
        subst hlen
        have hrow := HRow.out
        rw [upto_length] at hrow
        have hjl := upto_take r.held j n HM.out
        rw [hjl] at hrow
        rw [HBe.out]
        refine ⟨v, rfl, ?_, below_put HBl.out (by omega)⟩
        have ht : Touch (· = D) W' (W'.putObj D (.deferred none)) := ⟨rfl, rfl, rfl, by simp, fun k _ hx => World.putObj_heap_other (fun e => hx (by first | exact e | exact e.symm))⟩
        refine own_touchL (own_lower hrow (by omega)) ht (fun k hk e => ?_)
        rcases own_ne' hrow hK rfl with h | h
        · rw [h] at hk; cases hk
        · exact h (by rw [hk, e])
end

end Go.Proofs.YtfeljjlpdefnmaaGreat
