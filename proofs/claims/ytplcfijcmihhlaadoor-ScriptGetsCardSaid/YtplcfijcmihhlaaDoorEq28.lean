/-
  Layer 28: when two scripts are the same: the walk of script's Same.
-/
import Derived.Test.YtplcfijcmihhlaaDoorGets28
import Derived.Laws.IdiomStrings
namespace Go.Proofs.YtplcfijcmihhlaaDoor
open Go.RowKit Go.Proofs.YtplcfijcmihhlaaDoorW.PrintWords
set_option linter.unusedVariables false
set_option linter.unusedSimpArgs false
attribute [local go_sem] Oper.semAt_some

def u8s (l : List Int) : List UInt8 := l.map fun n => UInt8.ofNat n.toNat
def InB (l : List Int) : Prop := ∀ x ∈ l, 0 ≤ x ∧ x ≤ 255
theorem u8_back {x : Int} (h0 : 0 ≤ x) (h1 : x ≤ 255) : ((UInt8.ofNat x.toNat).toNat : Int) = x := by
  rw [UInt8.toNat_ofNat']
  omega
theorem u8s_inj : ∀ {a b : List Int}, InB a → InB b → (u8s a = u8s b ↔ a = b)
  | [], [], _, _ => by simp
  | [], y :: b, _, _ => by simp [u8s]
  | x :: a, [], _, _ => by simp [u8s]
  | x :: a, y :: b, ha, hb => by
    have ih := u8s_inj (a := a) (b := b) (fun z hz => ha z (List.mem_cons_of_mem _ hz)) (fun z hz => hb z (List.mem_cons_of_mem _ hz))
    have hx := ha x List.mem_cons_self
    have hy := hb y List.mem_cons_self
    show (UInt8.ofNat x.toNat :: u8s a = UInt8.ofNat y.toNat :: u8s b) ↔ _
    rw [List.cons.injEq, List.cons.injEq, ih]
    constructor
    · rintro ⟨h1, h2⟩
      refine ⟨?_, h2⟩
      rw [← u8_back hx.1 hx.2, ← u8_back hy.1 hy.2, h1]
    · rintro ⟨rfl, h2⟩
      exact ⟨rfl, h2⟩

theorem conv_C {A : Option Addr} {c : Nat} {l : List Int} {W : World} (hr : Kd.C (Kd.int .u8) W A l.length l) (hb : InB l) :
    (convert 25 9 (.slice A l.length c)).run Tryd.prog W = .ok (.string ⟨(u8s l).toArray⟩) W := by
  cases A with
  | none =>
    have hl : l = [] := by
      rcases Nat.eq_zero_or_pos l.length with h | h
      · exact List.length_eq_zero_iff.1 h
      · obtain ⟨ad, e, _⟩ := hr.2.2 h
        cases e
    subst hl
    exact run_convert_bytes_nil W 25 5 Tryd.underlying25 Tryd.underlying5 _ _ 9 Tryd.underlying9
  | some a =>
    have h := run_convert_bytes_back (P := Tryd.prog) W 25 9 5 a c (u8s l) Tryd.underlying25 Tryd.underlying5 Tryd.underlying9 (fun j hj => by
      have hj' : j < l.length := by simpa [u8s] using hj
      obtain ⟨ad, e, hc⟩ := kd_at hr hj'
      cases e
      rw [hc, rd_get hj']
      have hx := hb _ (List.getElem_mem hj')
      simp only [u8s, List.getElem_map]
      rw [u8_back hx.1 hx.2])
    rwa [show (u8s l).length = l.length by simp [u8s]] at h
theorem BEqual_any {A0 A1 : Option Addr} {c0 c1 : Nat} {l0 l1 : List Int} {W : World} (h0 : Kd.C (Kd.int .u8) W A0 l0.length l0) (h1 : Kd.C (Kd.int .u8) W A1 l1.length l1) (b0 : InB l0) (b1 : InB l1) :
    Calls Tryd.prog 49 #[.slice A0 l0.length c0, .slice A1 l1.length c1] W fun e w' => e = .returned (.bool (decide (l0 = l1))) ∧ w' = W :=
  (Tryd.bytes_Equal_strs _ _ _ _ W (conv_C h0 b0) (conv_C h1 b1)).mono fun e w' h => ⟨by
    rw [h.1, toList_eq, toList_eq]
    have : ((u8s l0 == u8s l1) : Bool) = decide (l0 = l1) := by
      rw [Bool.eq_iff_iff]
      simp only [beq_iff_eq, decide_eq_true_eq]
      exact u8s_inj b0 b1
    show Ending.returned (.bool (u8s l0 == u8s l1)) = _
    rw [this], h.2⟩

theorem kbb_at {w : World} {A : Option Addr} {n : Nat} {xs : List (List Int)} (h : KBB.C w A n xs) {k : Nat} (hk : k < xs.length) : ∃ ad A' c', A = some ad ∧ w.cell? (ad.add k) = some (.slice A' xs[k].length c') ∧ xs[k].length ≤ c' ∧ (Kd.int .u8).C w A' xs[k].length xs[k] := by
  obtain ⟨h1, _, h3⟩ := h
  obtain ⟨ad, e, hc⟩ := h3 (by omega)
  obtain ⟨c, hs, ⟨A', c', rfl, hl, hC⟩, hcell⟩ := hc k _ (List.getElem?_eq_getElem hk)
  refine ⟨ad, A', c', e, ?_, hl, hC⟩
  have := hcell 0 _ rfl
  rwa [show k * KBB.sz + 0 = k by show k * 1 + 0 = k; omega] at this

set_option maxHeartbeats 1000000 in
set_option maxRecDepth 100000 in
theorem EqFunc_any {A0 A1 : Option Addr} {c0 c1 : Nat} {l0 l1 : List (List Int)} {W : World} (h0 : KBB.C W A0 l0.length l0) (h1 : KBB.C W A1 l1.length l1) (b0 : ∀ x ∈ l0, InB x) (b1 : ∀ x ∈ l1, InB x) :
    Calls Tryd.prog 48 #[.slice A0 l0.length c0, .slice A1 l1.length c1, .func (.func 49) #[] #[]] W fun e w' => e = .returned (.bool (decide (l0 = l1))) ∧ w' = W := by
  by_cases hl : l0.length = l1.length
  · have hmax : l0.length ≤ 9223372036854775807 := h0.2.1
    go_enter Tryd.func48, Tryd.ntmps48
    rw [← hl]
    go_wp2_with fail
    go_loopw [17] (fun i wr => ∃ k, k ≤ l0.length ∧ i = .int .i64 (k : Nat) ∧ wr = W ∧ l0.take k = l1.take k) (fun i _ => l0.length - (intOf i).toNat)
    case atStart => exact ⟨0, Nat.zero_le _, rfl, rfl, rfl⟩
    case round =>
      obtain ⟨k, hk, rfl, rfl, htk⟩ := hrel
      by_cases hlt : k < l0.length
      · have hlt1 : k < l1.length := by omega
        obtain ⟨ad0, A0', c0', e0, hc0, hq0, hC0⟩ := kbb_at h0 hlt
        obtain ⟨ad1, A1', c1', e1, hc1, hq1, hC1⟩ := kbb_at h1 hlt1
        subst e0
        subst e1
        have hE := Lib.hid (BEqual_any (c0 := c0') (c1 := c1') hC0 hC1 (b0 _ (List.getElem_mem hlt)) (b1 _ (List.getElem_mem hlt1)))
        have Ht := Lib.hid htk
        clear hC0 hC1 htk
        have p1 : (0 : Int) ≤ (k : Int) := Int.natCast_nonneg k
        have p2 : (k : Int) < (l0.length : Int) := by omega
        go_wp2_with fail
        refine hE.out.mono ?_; rintro e w1 ⟨rfl, rfl⟩; dsimp only
        by_cases he : l0[k] = l1[k]
        · have Hn := Lib.hid (show l0.take (k + 1) = l1.take (k + 1) by rw [List.take_succ_eq_append_getElem hlt, List.take_succ_eq_append_getElem hlt1, Ht.out, he])
          rw [decide_eq_true he]
          clear he hE
          go_wp2_with fail
          go_roundw
          case rel => exact ⟨k + 1, by omega, by go_num, by trivial, Hn.out⟩
          case measure => simp [intOf]; omega
        · have Hn := Lib.hid (show l0 ≠ l1 from fun e => he (by subst e; rfl))
          rw [decide_eq_false he]
          clear he hE
          go_wp2_with fail
          go_ret
          exact ⟨by rw [decide_eq_false Hn.out]; rfl, rfl⟩
      · have hk' : k = l0.length := by omega
        have Hn := Lib.hid (show l0 = l1 by
          rw [hk', List.take_length, hl, List.take_length] at htk
          exact htk)
        clear htk
        go_wp2_with fail
        go_ret
        exact ⟨by rw [decide_eq_true Hn.out]; rfl, rfl⟩
  · have hne : l0 ≠ l1 := fun e => hl (by rw [e])
    have hn : ((l0.length : Int) != (l1.length : Int)) = true := by simp; omega
    go_enter Tryd.func48, Tryd.ntmps48
    go_wp2_with fail
    go_ret
    exact ⟨by rw [decide_eq_false hne]; rfl, rfl⟩


set_option maxHeartbeats 1000000 in
set_option maxRecDepth 100000 in
theorem EqInts_any {A0 A1 : Option Addr} {c0 c1 : Nat} {l0 l1 : List Int} {W : World} (h0 : (Kd.int .i64).C W A0 l0.length l0) (h1 : (Kd.int .i64).C W A1 l1.length l1) :
    Calls Tryd.prog 50 #[.slice A0 l0.length c0, .slice A1 l1.length c1] W fun e w' => e = .returned (.bool (decide (l0 = l1))) ∧ Below W.heap.size W w' := by
  by_cases hl : l0.length = l1.length
  · have hmax : l0.length ≤ 9223372036854775807 := h0.2.1
    go_enter Tryd.func50, Tryd.ntmps50
    rw [← hl]
    go_wp2_with fail
    go_loopw [13] (fun i wr => ∃ k, k ≤ l0.length ∧ i = .int .i64 (k : Nat) ∧ Hid (Below W.heap.size W wr) ∧ Hid (l0.take k = l1.take k)) (fun i _ => l0.length - (intOf i).toNat)
    case atStart => exact ⟨0, Nat.zero_le _, rfl, Lib.hid (Below.refl _ _), Lib.hid rfl⟩
    case round =>
      obtain ⟨k, hk, rfl, hB, htk⟩ := hrel
      by_cases hlt : k < l0.length
      · have hlt1 : k < l1.length := by omega
        obtain ⟨ad0, e0, hc0⟩ := kd_at (Kd.C_below h0 hB.out) hlt
        obtain ⟨ad1, e1, hc1⟩ := kd_at (Kd.C_below h1 hB.out) hlt1
        subst e0
        subst e1
        rw [rd_get hlt] at hc0
        rw [rd_get hlt1] at hc1
        have p1 : (0 : Int) ≤ (k : Int) := Int.natCast_nonneg k
        have p2 : (k : Int) < (l0.length : Int) := by omega
        have Hx := Lib.hid (show ∀ (x y : Int), l0[k] = x → l1[k] = y → x = y → l0.take (k + 1) = l1.take (k + 1) from fun x y hx hy e => by rw [List.take_succ_eq_append_getElem hlt, List.take_succ_eq_append_getElem hlt1, htk.out, hx, hy, e])
        have Hy := Lib.hid (show ∀ (x y : Int), l0[k] = x → l1[k] = y → x ≠ y → l0 ≠ l1 from fun x y hx hy e he => e (by subst he; rw [← hx, ← hy]))
        obtain ⟨x, hx⟩ : ∃ x, l0[k] = x := ⟨_, rfl⟩
        obtain ⟨y, hy⟩ : ∃ y, l1[k] = y := ⟨_, rfl⟩
        rw [hx] at hc0
        rw [hy] at hc1
        by_cases he : x = y
        · have Hn := Lib.hid (Hx.out x y hx hy he)
          subst he
          clear Hx Hy hx hy
          go_wp2_with fail
          go_region
          go_wp2_with fail
          go_roundw
          case rel => exact ⟨k + 1, by omega, by go_num, Lib.hid hB.out.drew, Hn⟩
          case measure => simp [intOf]; omega
        · have Hn := Lib.hid (Hy.out x y hx hy he)
          have hxy : (x != y) = true := by simp [he]
          clear Hx Hy hx hy
          go_wp2_with fail
          go_region
          go_wp2_with fail
          go_ret
          exact ⟨by rw [decide_eq_false Hn.out]; rfl, hB.out.drew⟩
      · have hk' : k = l0.length := by omega
        have Hn := Lib.hid (show l0 = l1 by
          have h := htk.out
          rw [hk', List.take_length, hl, List.take_length] at h
          exact h)
        go_wp2_with fail
        go_ret
        exact ⟨by rw [decide_eq_true Hn.out]; rfl, hB.out⟩
  · have hne : l0 ≠ l1 := fun e => hl (by rw [e])
    have hn : ((l0.length : Int) != (l1.length : Int)) = true := by simp; omega
    go_enter Tryd.func50, Tryd.ntmps50
    go_wp2_with fail
    go_ret
    exact ⟨by rw [decide_eq_false hne]; rfl, Below.refl _ _⟩

/-- A script's value, and what it reads as. -/
structure ScrC (W : World) (A0 : Option Addr) (c0 : Nat) (l0 : List (List Int)) (A2 : Option Addr) (c2 : Nat) (l2 : List Int) (A4 : Option Addr) (c4 : Nat) (l4 : List Int) : Prop where
  r0 : KBB.C W A0 l0.length l0
  k0 : l0.length ≤ c0
  r2 : KI.C W A2 l2.length l2
  k2 : l2.length ≤ c2
  r4 : KI.C W A4 l4.length l4
  k4 : l4.length ≤ c4
theorem ScrC.below {W W' : World} {A0 : Option Addr} {c0 : Nat} {l0 : List (List Int)} {A2 : Option Addr} {c2 : Nat} {l2 : List Int} {A4 : Option Addr} {c4 : Nat} {l4 : List Int} (h : ScrC W A0 c0 l0 A2 c2 l2 A4 c4 l4) (hb : Below W.heap.size W W') : ScrC W' A0 c0 l0 A2 c2 l2 A4 c4 l4 :=
  ⟨Kd.C_below h.r0 hb, h.k0, Kd.C_below h.r2 hb, h.k2, Kd.C_below h.r4 hb, h.k4⟩

def sameS (p0 : List (List Int)) (e0 : Int) (t0 : List Int) (s0 : Int) (k0 : List Int) (p1 : List (List Int)) (e1 : Int) (t1 : List Int) (s1 : Int) (k1 : List Int) : Bool := decide (p0 = p1 ∧ e0 = e1 ∧ t0 = t1 ∧ s0 = s1 ∧ k0 = k1)

theorem results_row1 {P : Program} {fn : Func} {p : Tmp} {ty : TypeId} (h : fn.results = #[.cell p ty]) (tmps : Array Value) (w : World) (g : Nat) (t : TypeId) (cs : Array Value) (fr : Nat × Nat) (d : TypeDesc)
    (hp : tmps.getD p undef = .pointer (some ⟨g, 0, none⟩)) (hg : w.heap[g]? = some (.cells cs t fr))
    (hu : P.underlying ty = some d) (hd : (match d with | .struct _ | .array _ _ => true | _ => false) = true) (hi : (P.info? ty).map (·.size) = some cs.size) :
    (results fn tmps).run P w = .ok (.agg cs) w := by
  have hp' : tmps[p]?.getD undef = .pointer (some ⟨g, 0, none⟩) := by simpa using hp
  simp [results, h, hp', asAddr, run_loadVar_row w g t ty cs fr d hg hu hd hi]
theorem size_scriptO : (Tryd.prog.info? 57).map (·.size) = some 5 := by kernel_rfl

set_option maxHeartbeats 1000000 in
set_option maxRecDepth 100000 in
theorem of_any (A0 : Option Addr) (n0 c0 : Nat) (e : Int) (A2 : Option Addr) (n2 c2 : Nat) (s : Int) (A4 : Option Addr) (n4 c4 : Nat) (W : World) :
    Calls Tryd.prog 26 #[.agg #[.slice A0 n0 c0, .int .i64 e, .slice A2 n2 c2, .int .i64 s, .slice A4 n4 c4]] W fun x w' => x = .returned (.agg #[.slice A0 n0 c0, .int .i64 e, .slice A2 n2 c2, .int .i64 s, .slice A4 n4 c4]) ∧ Below W.heap.size W w' := by
  go_enter Tryd.func26, Tryd.ntmps26
  go_wp2_with fail
  refine bodyPost_ret (results_row1 rfl _ _ _ _ _ _ _ rfl (heap_alloc2_newL W _ _) Tryd.underlying57 rfl size_scriptO) rfl ?_
  exact ⟨rfl, ((Below.refl _ W).alloc (Nat.le_refl _) _).alloc (by simp) _⟩

set_option maxHeartbeats 1000000 in
set_option maxRecDepth 100000 in
theorem SSame_any {A0 : Option Addr} {c0 : Nat} {l0 : List (List Int)} {e0 : Int} {A2 : Option Addr} {c2 : Nat} {l2 : List Int} {s0 : Int} {A4 : Option Addr} {c4 : Nat} {l4 : List Int} {B0 : Option Addr} {d0 : Nat} {m0 : List (List Int)} {e1 : Int} {B2 : Option Addr} {d2 : Nat} {m2 : List Int} {s1 : Int} {B4 : Option Addr} {d4 : Nat} {m4 : List Int} {W : World}
    (h : ScrC W A0 c0 l0 A2 c2 l2 A4 c4 l4) (k : ScrC W B0 d0 m0 B2 d2 m2 B4 d4 m4) (b0 : ∀ x ∈ l0, InB x) (b1 : ∀ x ∈ m0, InB x) :
    Calls Tryd.prog 25 #[.agg #[.slice A0 l0.length c0, .int .i64 e0, .slice A2 l2.length c2, .int .i64 s0, .slice A4 l4.length c4], .agg #[.slice B0 m0.length d0, .int .i64 e1, .slice B2 m2.length d2, .int .i64 s1, .slice B4 m4.length d4]] W fun x w' =>
      x = .returned (.bool (sameS l0 e0 l2 s0 l4 m0 e1 m2 s1 m4)) ∧ Below W.heap.size W w' := by
  obtain ⟨V, eV, hV, v0, v1⟩ : ∃ V, (W.alloc (.cells #[.slice A0 l0.length c0, .int .i64 e0, .slice A2 l2.length c2, .int .i64 s0, .slice A4 l4.length c4] 57)).alloc (.cells #[.slice B0 m0.length d0, .int .i64 e1, .slice B2 m2.length d2, .int .i64 s1, .slice B4 m4.length d4] 57) = V ∧ Below W.heap.size W V ∧
      V.heap[W.heap.size]? = some (.cells #[.slice A0 l0.length c0, .int .i64 e0, .slice A2 l2.length c2, .int .i64 s0, .slice A4 l4.length c4] 57 (0, 0)) ∧ V.heap[W.heap.size + 1]? = some (.cells #[.slice B0 m0.length d0, .int .i64 e1, .slice B2 m2.length d2, .int .i64 s1, .slice B4 m4.length d4] 57 (0, 0)) :=
    ⟨_, rfl, ((Below.refl _ W).alloc (Nat.le_refl _) _).alloc (by simp) _, by rw [Below.heap_alloc _ _ _ (by simp), World.alloc_heap_new], heap_alloc2_newL _ _ _⟩
  have hv0 := lt_of_heap v0
  have hv1 := lt_of_heap v1
  have HV := Lib.hid hV
  have H := Lib.hid (h.below hV)
  have K := Lib.hid (k.below hV)
  obtain ⟨x0, x1, x2, x3, x4⟩ := cells5 v0
  obtain ⟨y0, y1, y2, y3, y4⟩ := cells5 v1
  have V0 := Lib.hid v0
  have V1 := Lib.hid v1
  have hF := Lib.hid (EqFunc_any (c0 := c0) (c1 := d0) H.out.r0 K.out.r0 b0 b1)
  clear h k hV v0 v1
  go_enter Tryd.func25, Tryd.ntmps25
  go_wp2_with fail
  refine hF.out.mono ?_; rintro e w1 ⟨rfl, rfl⟩; dsimp only
  clear hF
  by_cases h1 : l0 = m0
  · have H1 := Lib.hid h1
    rw [decide_eq_true h1]
    clear h1
    by_cases h2 : e0 = e1
    · have H2 := Lib.hid h2
      have g2 : (e0 == e1) = true := by simp [h2]
      have hG := Lib.hid (EqInts_any (c0 := c2) (c1 := d2) H.out.r2 K.out.r2)
      clear h2
      go_wp2_with fail
      refine hG.out.mono ?_; rintro e w2 ⟨rfl, hb2⟩; dsimp only
      have hv2 := hb2.size
      obtain ⟨x0, x1, x2, x3, x4⟩ := cells5 ((hb2.block _ hv0).trans V0.out)
      obtain ⟨y0, y1, y2, y3, y4⟩ := cells5 ((hb2.block _ hv1).trans V1.out)
      have HB2 := Lib.hid hb2
      clear hb2 hG
      by_cases h3 : l2 = m2
      · have H3 := Lib.hid h3
        rw [decide_eq_true h3]
        clear h3
        by_cases h4 : s0 = s1
        · have H4 := Lib.hid h4
          have g4 : (s0 == s1) = true := by simp [h4]
          have hG := Lib.hid (EqInts_any (c0 := c4) (c1 := d4) (Kd.C_below H.out.r4 HB2.out) (Kd.C_below K.out.r4 HB2.out))
          clear h4
          go_wp2_with fail
          refine hG.out.mono ?_; rintro e w3 ⟨rfl, hb3⟩; dsimp only
          have HB3 := Lib.hid hb3
          clear hb3 hG
          go_wp2_with fail
          go_ret
          refine ⟨?_, HV.out.trans ((HB2.out.mono (by omega)).trans (HB3.out.mono (by omega)))⟩
          have : sameS l0 e0 l2 s0 l4 m0 e1 m2 s1 m4 = decide (l4 = m4) := by unfold sameS; simp [H1.out, H2.out, H3.out, H4.out]
          rw [this]; rfl
        · have H4 := Lib.hid h4
          have g4 : (s0 == s1) = false := by simp [h4]
          clear h4
          go_wp2_with fail
          go_ret
          refine ⟨?_, HV.out.trans (HB2.out.mono (by omega))⟩
          have : sameS l0 e0 l2 s0 l4 m0 e1 m2 s1 m4 = false := by unfold sameS; simp [H4.out]
          rw [this]; rfl
      · have H3 := Lib.hid h3
        rw [decide_eq_false h3]
        clear h3
        go_wp2_with fail
        go_ret
        refine ⟨?_, HV.out.trans (HB2.out.mono (by omega))⟩
        have : sameS l0 e0 l2 s0 l4 m0 e1 m2 s1 m4 = false := by unfold sameS; simp [H3.out]
        rw [this]; rfl
    · have H2 := Lib.hid h2
      have g2 : (e0 == e1) = false := by simp [h2]
      clear h2
      go_wp2_with fail
      go_ret
      refine ⟨?_, HV.out⟩
      have : sameS l0 e0 l2 s0 l4 m0 e1 m2 s1 m4 = false := by unfold sameS; simp [H2.out]
      rw [this]; rfl
  · have H1 := Lib.hid h1
    rw [decide_eq_false h1]
    clear h1
    go_wp2_with fail
    go_ret
    refine ⟨?_, HV.out⟩
    have : sameS l0 e0 l2 s0 l4 m0 e1 m2 s1 m4 = false := by unfold sameS; simp [H1.out]
    rw [this]; rfl

end Go.Proofs.YtplcfijcmihhlaaDoor
