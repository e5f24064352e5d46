/-
  The law ClockSplits: time that goes on in two parts fires, all together, what it fires at once, in the same order.
-/
import Derived.Test.YtgnckeidekppjaaLaw15
import Derived.Test.YtgnckeidekppjaaOps
import Derived.Test.YtgnckeidekppjaaAppend
import Derived.Test.YtgnckeidekppjaaOwn
namespace Go.Proofs.Ytgnckeidekppjaa
open Go.RowKit Go.Maps Go.Sort
set_option linter.unusedVariables false
set_option linter.unusedSimpArgs false

/-- The timers behind a Set. -/
def setF (now : Int) (f : Int → Option Int) (id n : Int) : Int → Option Int := if setOk n then upd f id (now + n) else f

def setE (after : Int) : Int := if setOk after then 0 else 1

theorem Set_any {w : World} {c b n : Nat} {now : Int} {f : Int → Option Int} (h : ClockAt w c b n now f) (id after : Int) (hid : (Lit.int .i64 id).wf = true) (h0n : 0 ≤ now) (h1n : now ≤ 4611686018427387904) (hn : n < maxLen) :
    Calls Try.prog 30 #[.pointer (some ⟨c, 0, none⟩), .int .i64 id, .int .i64 after] w fun e w' => e = .returned (.int .i64 (setE after)) ∧
      ClockAt w' c b (n + 1) now (setF now f id after) ∧ Touch (· = b) w w' := by
  unfold setF setE
  cases ha : setOk after with
  | true => simpa using Set_yes h id after hid ha h0n h1n hn
  | false =>
    refine (Set_no id after ha _).mono ?_
    rintro e w' ⟨rfl, rfl⟩
    exact ⟨rfl, h.mono (Nat.le_succ n), Touch.refl _ _⟩

def setAll (now : Int) (l : List OpV) : Int → Option Int := l.foldl (fun f o => setF now f o.id o.n) (fun _ => none)
theorem setAll_snoc (now : Int) (l : List OpV) (o : OpV) : setAll now (l ++ [o]) = setF now (setAll now l) o.id o.n := by simp [setAll]

theorem due_rest {f : Int → Option Int} {a x : Int} (h : ¬ dueV f x ≤ a) : dueV (rest f a) x = dueV f x := by
  unfold dueV at *
  cases hf : f x with
  | none => simp [rest, hf]
  | some d =>
    rw [hf] at h
    simp at h
    have : ¬ d ≤ a := by omega
    simp [rest, hf, this]

theorem split_sorted (g : Int → Int) {a b : Int} (hab : a ≤ b) : ∀ zs : List Int, zs.Pairwise (fun x y => g x ≤ g y) →
    zs.filter (fun x => decide (g x ≤ a)) ++ (zs.filter (fun x => !decide (g x ≤ a))).filter (fun x => decide (g x ≤ b)) = zs.filter (fun x => decide (g x ≤ b))
  | [], _ => rfl
  | x :: l, h => by
    have ih := split_sorted g hab l (List.pairwise_cons.1 h).2
    have hx := (List.pairwise_cons.1 h).1
    by_cases h1 : g x ≤ a
    · have h2 : g x ≤ b := by omega
      simp only [List.filter_cons, h1, h2, decide_true, if_true, Bool.not_true, Bool.false_eq_true, if_false, List.cons_append, ih]
    · have e : l.filter (fun x => decide (g x ≤ a)) = [] := by
        rw [List.filter_eq_nil_iff]
        intro y hy
        have := hx y hy
        simp; omega
      rw [e, List.nil_append] at ih
      by_cases h2 : g x ≤ b
      · simp [List.filter_cons, h1, h2, e, ← ih]
      · simp [List.filter_cons, h1, h2, e, ← ih]

/-- What fires in two parts is what fires at once, in the same order. -/
theorem fired_split {f : Int → Option Int} {a b : Int} (hab : a ≤ b) {xs ys zs : List Int} (hx : IsIds f xs) (hy : IsIds (rest f a) ys) (hz : IsIds f zs) : firedOf f a xs ++ firedOf (rest f a) b ys = firedOf f b zs := by
  obtain rfl : zs = xs := hz.unique hx
  have hsub : ys = zs.filter (fun x => !decide (dueV f x ≤ a)) := by
    refine hy.unique ⟨fun x => ?_, fun x hx' => hx.2.1 x (List.mem_filter.1 hx').1, ?_⟩
    · rw [List.mem_filter, hx.1 x]
      unfold rest dueV
      cases hf : f x with
      | none => simp
      | some d => by_cases h : d ≤ a <;> simp [h]
    · refine (hx.2.2.filter _).imp_of_mem ?_
      intro x y hxm hym h
      have h1 : ¬ dueV f x ≤ a := by have := (List.mem_filter.1 hxm).2; simpa using this
      have h2 : ¬ dueV f y ≤ a := by have := (List.mem_filter.1 hym).2; simpa using this
      unfold firstT at *
      rw [due_rest h1, due_rest h2]; exact h
  have e : firedOf (rest f a) b ys = ys.filter (fun x => decide (dueV f x ≤ b)) := by
    unfold firedOf
    refine List.filter_congr (fun x hx' => ?_)
    rw [hsub] at hx'
    have h1 : ¬ dueV f x ≤ a := by have := (List.mem_filter.1 hx').2; simpa using this
    rw [due_rest h1]
  rw [e, hsub]
  exact split_sorted (dueV f) hab zs (hz.2.2.imp (fun {x y} h => by unfold firstT at h; simp at h; omega))

theorem IsIds.length_le {W : World} {b n : Nat} {f : Int → Option Int} (hT : TM W b n f) {ys : List Int} (h : IsIds f ys) : ys.length ≤ n := by
  obtain ⟨D, ho, hsz, hnd, hmem, _⟩ := hT.keys
  have hnd' : ys.Nodup := h.2.2.imp (fun {a b} hab e => by subst e; unfold firstT at hab; simp at hab)
  have hp : ys.Perm (intKeys D) := (List.perm_ext_iff_of_nodup hnd' hnd).2 (fun x => (h.1 x).trans (hmem x).symm)
  rw [hp.length_eq]
  obtain ⟨es, rfl, _⟩ := ho.entries Try.keyInt
  simpa [intKeys, Maps.size] using hsz

theorem own_touch {X : Nat → Prop} {W W' : World} {base : Nat} {e : TypeId} {size n : Nat} {v : Value} {xs : List Value} (h : W.ownsRow base e size v n xs) (t : Touch X W W') (hX : ∀ k, base ≤ k → ¬ X k) : W'.ownsRow base e size v n xs := by
  refine ⟨h.1, ?_⟩
  rcases h.2 with h | ⟨g, cap, cur, h1, h2, h3, h4⟩
  · exact .inl h
  · exact .inr ⟨g, cap, cur, h1, h2, (t.block g (lt_of_heap h3) (hX g h2)).trans h3, h4⟩

set_option maxHeartbeats 2000000 in
set_option maxRecDepth 100000 in
theorem ClockSplits_any (v : Value) (l : List OpV) (a p : Int) (ha0 : 0 ≤ a) (ha1 : a ≤ 65535) (hp0 : 0 ≤ p) (hp1 : p ≤ 65535) (w : World) (hv : OpsAt w w.heap.size v l) :
    Calls Try.prog 9 #[v, .int .u16 a, .int .u16 p] w fun e w' => e = .returned (.bool true) ∧ Below w.heap.size w w' := by
  obtain ⟨A, cap, rfl, h1, h2, hok, h3⟩ := hv
  unfold maxLen at h2
  by_cases hlen : 20 < l.length
  · go_enter Try.func9, Try.ntmps9
    go_wp2_with fail
    refine (wakes15_any _).mono ?_; rintro e w1 ⟨rfl, hb1⟩; dsimp only
    go_wp2_with fail
    go_ret
    exact ⟨rfl, hb1⟩
  have hlen' : l.length ≤ 20 := by omega
  go_enter Try.func9, Try.ntmps9
  go_wp2_with fail
  refine (wakes15_any _).mono ?_; rintro e w1 ⟨rfl, hb1⟩; dsimp only
  go_wp2_with fail
  refine (New_any _).mono ?_; rintro e w2 ⟨rfl, k1, hb2, hs2⟩; dsimp only
  go_wp2_with fail
  refine (New_any _).mono ?_; rintro e w3 ⟨rfl, k2, hb3, hs3⟩; dsimp only
  have k1' := Lib.hid (k1.keep (X := fun _ => False) (Touch.of_new hb3) (fun h => h) (fun h => h))
  have k2' := Lib.hid k2
  have hB3 := Lib.hid ((hb1.trans (hb2.mono hb1.size)).trans (hb3.mono (by have := hb1.size; omega)))
  have hc1 := hb1.size
  clear k1 k2 hb1 hb2 hb3
  have hsz3 : w3.heap.size = w1.heap.size + 4 := by omega
  rw [hs2] at k2' ⊢
  clear hs2 hs3
  generalize w1.heap.size = s at *
  go_wp2_with fail
  go_loopw [32] (fun i wr => ∃ j : Nat, j ≤ l.length ∧ i = .int .i64 j ∧ Hid (ClockAt wr (s + 1) s j 0 (setAll 0 (l.take j))) ∧ Hid (ClockAt wr (s + 3) (s + 2) j 0 (setAll 0 (l.take j))) ∧ Hid (Below w.heap.size w wr) ∧ s + 4 ≤ wr.heap.size) (fun i _ => l.length - (intOf i).toNat)
  case atStart => exact ⟨0, Nat.zero_le _, rfl, k1', k2', hB3, by omega⟩
  case round =>
    obtain ⟨j, hj, rfl, hC1, hC2, hB, hsz⟩ := hrel
    by_cases hlt : j < l.length
    · obtain ⟨g, o, rfl, hg, hc⟩ := h3 (by rintro rfl; simp at hlt)
      obtain ⟨q0, q1, q2⟩ := hc j hlt
      have r0 := (hB.out.cell (p := ⟨g, o + j * 3, none⟩) hg).trans q0
      have r1 := (hB.out.cell (p := ⟨g, o + j * 3 + 1, none⟩) hg).trans q1
      have r2 := (hB.out.cell (p := ⟨g, o + j * 3 + 2, none⟩) hg).trans q2
      obtain ⟨_, hid, _⟩ := hok (l[j]?.getD default) (by rw [List.getElem?_eq_getElem hlt]; exact List.getElem_mem hlt)
      have Ht := Lib.hid (show l.take (j + 1) = l.take j ++ [l[j]?.getD default] by rw [List.take_add_one, List.getElem?_eq_getElem hlt]; rfl)
      clear hc h3 hok q0 q1 q2
      generalize l[j]?.getD default = op at *
      obtain ⟨ok, oi, on⟩ := op
      dsimp only at r0 r1 r2 hid
      have hw1 : Touch (fun _ => False) wr (wr.alloc (.cells #[.int .u8 ok, .int .i64 oi, .int .i64 on] 53)) := (Touch.refl _ wr).alloc _
      have y1 := World.cell?_alloc_new wr #[.int .u8 ok, .int .i64 oi, .int .i64 on] 53 1
      have y2 := World.cell?_alloc_new wr #[.int .u8 ok, .int .i64 oi, .int .i64 on] 53 2
      have Y1 := Lib.hid y1
      have Y2 := Lib.hid y2
      have HW := Lib.hid hw1
      clear y1 y2 hw1
      go_wp2_with fail
      refine (Set_any (hC1.out.keep HW.out (fun h => h) (fun h => h)) oi on hid (by decide) (by decide) (by unfold maxLen; omega)).mono ?_; rintro e w4 ⟨rfl, kk1, ht4⟩; dsimp only
      have z1 := (ht4.cell (p := ⟨wr.heap.size, 1, none⟩) (by show wr.heap.size < _; rw [World.size_alloc]; omega) (by show ¬ wr.heap.size = s; omega)).trans Y1.out
      have z2 := (ht4.cell (p := ⟨wr.heap.size, 2, none⟩) (by show wr.heap.size < _; rw [World.size_alloc]; omega) (by show ¬ wr.heap.size = s; omega)).trans Y2.out
      change w4.cell? _ = some (Value.int .i64 oi) at z1
      change w4.cell? _ = some (Value.int .i64 on) at z2
      have K1 := Lib.hid kk1
      have K2 := Lib.hid ((hC2.out.keep HW.out (fun h => h) (fun h => h)).keep ht4 (by omega) (by omega))
      have HT4 := Lib.hid ht4
      clear kk1 ht4
      go_wp2_with fail
      refine (Set_any K2.out oi on hid (by decide) (by decide) (by unfold maxLen; omega)).mono ?_; rintro e w5 ⟨rfl, kk2, ht5⟩; dsimp only
      have K3 := Lib.hid kk2
      have K4 := Lib.hid (K1.out.keep ht5 (by omega) (by omega))
      have HT5 := Lib.hid ht5
      clear kk2 ht5 z1 z2
      have hz4 := HT4.out.size
      rw [World.size_alloc] at hz4
      have hz5 := HT5.out.size
      have HB5 : Hid (Below w.heap.size w w5) := Lib.hid (((hB.out.trans (HW.out.below (by omega) (fun k hk => hk.elim))).trans (HT4.out.below (by rw [World.size_alloc]; omega) (fun k hk => by have e : k = s := hk; omega))).trans (HT5.out.below (by omega) (fun k hk => by have e : k = s + 2 := hk; omega)))
      go_wp2_with fail
      go_roundw
      case rel => exact ⟨j + 1, by omega, by go_num, Lib.hid (by rw [Ht.out, setAll_snoc]; exact K4.out), Lib.hid (by rw [Ht.out, setAll_snoc]; exact K3.out), HB5, by omega⟩
      case measure => simp [intOf]; omega
    · have Hj := Lib.hid (show j = l.length by omega)
      have hend : l.length ≤ j := by omega
      clear hlt h3 hok
      have hjl : j ≤ 20 := by omega
      have C1 := hC1.out
      have C2 := hC2.out
      rw [Hj.out, List.take_length] at C1 C2
      rw [← Hj.out] at C1 C2
      have D1 := Lib.hid C1
      have D2 := Lib.hid C2
      clear C1 C2
      generalize setAll 0 l = F at *
      go_wp2_with fail
      refine (Advance_yes wr D1.out a ha0 (by omega) (by decide) (by decide) (by omega)).mono ?_; rintro e w4 ⟨v1, xs, rfl, hx, row1, e1, t1⟩; dsimp only
      have E1 := Lib.hid e1
      have E2 := Lib.hid (D2.out.keep t1 (by omega) (by omega))
      have z1 := t1.size
      have B4 := Lib.hid (hB.out.trans (t1.below (n := w.heap.size) (by omega) (fun k hk => by rcases hk with hk | hk <;> omega)))
      have R1 := Lib.hid row1
      have HX := Lib.hid hx
      clear e1 t1 row1 hx
      go_wp2_with fail
      refine (Advance_yes w4 E1.out p hp0 (by omega) (by omega) (by omega) (by omega)).mono ?_; rintro e w5 ⟨v2, ys, rfl, hy, row2, e3, t2⟩; dsimp only
      have E3 := Lib.hid e3
      have E4 := Lib.hid (E2.out.keep t2 (by omega) (by omega))
      have z2 := t2.size
      have B5 := Lib.hid (B4.out.trans (t2.below (n := w.heap.size) (by omega) (fun k hk => by rcases hk with hk | hk <;> omega)))
      have T2 := Lib.hid t2
      have R2 := Lib.hid row2
      have HY := Lib.hid hy
      clear e3 t2 row2 hy
      go_wp2_with fail
      refine (Advance_yes w5 E4.out (a + p) (by omega) (by omega) (by decide) (by decide) (by omega)).mono ?_; rintro e w6 ⟨v3, zs, rfl, hz, row3, e5, t3⟩; dsimp only
      have E5 := Lib.hid e5
      have T3 := Lib.hid t3
      have z3 := t3.size
      have R3 := Lib.hid row3
      have HZ := Lib.hid hz
      clear e5 t3 row3 hz
      have row0 : (w6.alloc (.cells #[] 3)).ownsRow w6.heap.size 3 1 (.slice (some ⟨w6.heap.size, 0, none⟩) 0 0) 0 [] :=
        ⟨rfl, .inr ⟨_, 0, #[], rfl, Nat.le_refl _, World.alloc_heap_new _ _, Nat.le_refl _, by decide, rfl, rfl⟩⟩
      have rowA := (own_touch (own_touch R1.out T2.out (fun k hk hx => by rcases hx with hx | hx <;> omega)) T3.out (fun k hk hx => by rcases hx with hx | hx <;> omega))
      have rowB := (own_touch R2.out T3.out (fun k hk hx => by rcases hx with hx | hx <;> omega))
      have RB := Lib.hid rowB
      obtain ⟨i0, hi, hz0, hz1, hz2⟩ := Try.info_int
      have hl1 : (firedOf F (0 + a) xs).length ≤ 20 := by
        have h1 := HX.out.length_le D1.out.tm
        have h2 : (firedOf F (0 + a) xs).length ≤ xs.length := List.length_filter_le _ _
        omega
      have hl2 : (firedOf (rest F (0 + a)) (0 + a + p) ys).length ≤ 20 := by
        have h1 := HY.out.length_le E1.out.tm
        have h2 : (firedOf (rest F (0 + a)) (0 + a + p) ys).length ≤ ys.length := List.length_filter_le _ _
        omega
      have hl3 : (firedOf F (0 + (a + p)) zs).length ≤ 20 := by
        have h1 := HZ.out.length_le E4.out.tm
        have h2 : (firedOf F (0 + (a + p)) zs).length ≤ zs.length := List.length_filter_le _ _
        omega
      have HFS := Lib.hid (show firedOf F (0 + a) xs ++ firedOf (rest F (0 + a)) (0 + a + p) ys = firedOf F (0 + (a + p)) zs by
        rw [show 0 + (a + p) = 0 + a + p by omega]
        exact fired_split (by omega) HX.out HY.out HZ.out)
      clear rowB
      have rowC := Lib.hid R3.out
      have RA := Lib.hid (rowA.alloc (.cells #[] 3))
      have R0 := Lib.hid row0
      have hT6 := Lib.hid (show Touch (fun k => w6.heap.size ≤ k) w6 (w6.alloc (.cells #[] 3)) from (Touch.refl _ w6).alloc _)
      generalize hXS : firedOf F (0 + a) xs = L1 at *
      generalize hYS : firedOf (rest F (0 + a)) (0 + a + p) ys = L2 at *
      generalize hZS : firedOf F (0 + (a + p)) zs = L3 at *
      clear row0 rowA hXS hYS hZS
      have E3' := Lib.hid (E3.out.keep T3.out (by omega) (by omega))
      go_wp2_with (at_builtin; first
        | (refine wpList_app_any rfl _ _ 41 rfl w6.heap.size 3 i0 (.int .i64 0) 8 Try.underlying41 hi hz0 hz1 hz2 rfl _ _ _ rfl own7.out _ _ _ _ rfl RB7.out (by intro u hu; obtain ⟨y, _, rfl⟩ := List.mem_map.1 hu; rfl) (by unfold maxLen; omega) (by omega) (by have := t7.out.size; omega) ?_; intro v'' w8 own8x gr8x; have own8 := Lib.hid own8x; have t8 := Lib.hid (t7.out.trans (grow_touch own7.out gr8x)); clear own8x gr8x)
        | (refine wpList_app_any rfl _ _ 41 rfl w6.heap.size 3 i0 (.int .i64 0) 8 Try.underlying41 hi hz0 hz1 hz2 rfl _ 0 [] rfl R0.out _ _ _ _ rfl RA.out (by intro u hu; obtain ⟨y, _, rfl⟩ := List.mem_map.1 hu; rfl) (by unfold maxLen; omega) (by omega) (by rw [World.size_alloc]; omega) ?_; intro v' w7 own7x gr7x; have own7 := Lib.hid own7x; have t7 := Lib.hid (hT6.out.trans (grow_touch R0.out gr7x)); have RB7 := Lib.hid (own_touchL RB.out t7.out (fun k hk hx => by have := own_lt RB.out hk; omega)); clear own7x gr7x))
      have HI8 := Lib.hid (Ints.of_own (L := L1 ++ L2) (by have h := own8.out; rw [List.nil_append, ← List.map_append, Nat.zero_add, ← List.length_append] at h; exact h))
      have hT8 := t8.out
      have HJ8 := Lib.hid (Ints.of_own (own_touchL rowC.out hT8 (fun k hk hx => by have := own_lt rowC.out hk; omega)))
      have z8 := hT8.size
      have C1 := Lib.hid (E3'.out.keep hT8 (by omega) (by omega))
      have C2 := Lib.hid (E5.out.keep hT8 (by omega) (by omega))
      have HTB := Lib.hid ((B5.out.trans (T3.out.below (n := w.heap.size) (by omega) (fun k hk => by rcases hk with hk | hk <;> omega))).trans (hT8.below (n := w.heap.size) (by omega) (fun k hk => by omega)))
      clear hT8
      refine (numbers_any _ _ _ _ w8 HI8.out HJ8.out (by rw [List.length_append]; omega) (by omega)).mono ?_
      rintro e w9 ⟨rfl, q, rfl⟩; dsimp only
      have htrue : decide (L1 ++ L2 = L3) = true := by rw [decide_eq_true_eq]; exact HFS.out
      rw [htrue]
      have C1q : ClockAt (w8.drewN q) (s + 1) s j (0 + a + p) (rest (rest F (0 + a)) (0 + a + p)) := C1.out.keep ((Touch.refl (fun _ => False) w8).drewN q) (fun h => h) (fun h => h)
      have C2q : ClockAt (w8.drewN q) (s + 3) (s + 2) j (0 + (a + p)) (rest F (0 + (a + p))) := C2.out.keep ((Touch.refl (fun _ => False) w8).drewN q) (fun h => h) (fun h => h)
      have hN1 := Lib.hid (Now_any C1q)
      have hN2 := Lib.hid (Now_any C2q)
      have HTQ := Lib.hid (HTB.out.trans (((Touch.refl (fun _ => False) w8).drewN q).below (n := w.heap.size) (by omega) (fun k hk => hk.elim)))
      clear htrue C1q C2q
      have hsum : 0 + a + p = 0 + (a + p) := by omega
      rw [hsum] at hN1
      clear hsum
      generalize 0 + (a + p) = S at *
      go_wp2_with fail
      refine hN1.out.mono ?_; rintro e w10 ⟨rfl, rfl⟩; dsimp only
      go_wp2_with fail
      refine hN2.out.mono ?_; rintro e w10 ⟨rfl, rfl⟩; dsimp only
      go_wp2_with fail
      go_ret
      exact ⟨ret_bool (by simp), HTQ.out⟩

theorem ClockSplits_of (v : Value) (l : List OpV) (w : World) (h : OpsAt w w.heap.size v l) (a : Int) (wa : (Lit.int .u16 a).wf = true) (p : Int) (wp : (Lit.int .u16 p).wf = true) :
    Calls Try.prog 9 #[v, .int .u16 a, .int .u16 p] w fun e w' => e = .returned (.bool true) ∧ Below w.heap.size w w' := by
  simp [Lit.wf, IntKind.min, IntKind.max, IntKind.signed, IntKind.bits] at wa wp
  exact ClockSplits_any v l a p wa.1 wa.2 wp.1 wp.2 w h

end Go.Proofs.Ytgnckeidekppjaa
