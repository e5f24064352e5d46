/-
  Layer 17 (source): the small methods.
-/
import Derived.Test.YtfeljjlpdefnmaaGreatSrcN
import Derived.BigQuiet
namespace Go.Proofs.YtfeljjlpdefnmaaGreat
open Go.RowKit
set_option linter.unusedVariables false
set_option linter.unusedSimpArgs false
attribute [local go_sem] Oper.semAt_some

theorem own_rd {W : World} {base cap : Nat} {A : Option Addr} {l : List UInt8} (h : W.ownsRow base 5 1 (.slice A l.length cap) l.length (l.map encU)) : RdB W W.heap.size A l ∧ l.length ≤ cap ∧ cap ≤ maxLen ∧ (l ≠ [] → ∀ b off, A = some ⟨b, off, none⟩ → base ≤ b ∧ off = 0) := by
  rcases h.2 with ⟨h1, h2⟩ | ⟨g, cap', cur, h1, h2, h3, h4, h5, h6, h7⟩
  · simp only [Value.slice.injEq] at h1
    obtain ⟨rfl, e2, rfl⟩ := h1
    exact ⟨fun hne => absurd (List.eq_nil_of_length_eq_zero h2) hne, by omega, by unfold maxLen; omega, fun hne => absurd (List.eq_nil_of_length_eq_zero h2) hne⟩
  · simp only [Value.slice.injEq] at h1
    obtain ⟨rfl, e2, rfl⟩ := h1
    refine ⟨fun hne => ⟨g, 0, rfl, lt_of_heap h3, fun j hj => ?_⟩, h4, h5, fun _ b off e => by cases e; exact ⟨h2, rfl⟩⟩
    have h8 := h.cells (g := g) rfl j (encU (l[j]?.getD 0)) (by rw [List.getElem?_map, List.getElem?_eq_getElem hj]; simp)
    rw [WideShapes.add_plain] at h8
    exact h8
def Rdr.stopped (x : Rdr) : Bool := x.shut || x.cut || x.i.done || (x.i.e != 0)
section
variable {W W1 : World} {n0 : Nat} {p : RdrP} {x : Rdr}
set_option maxRecDepth 100000 in
theorem RdStopped_any (h : RdrAt W n0 p x) : Calls Tryz.prog 22 #[.pointer (some ⟨p.D, 0, none⟩)] W fun e w' => e = .returned (.bool x.stopped) ∧ W = w' := by
  have c0 := h.c0
  have c5 := h.c5
  have c6 := h.c6
  have hD := Lib.hid (IDone_any h.it)
  have hE := Lib.hid (IErr_any h.it)
  have HS := Lib.hid (show x.stopped = (x.shut || x.cut || x.i.done || (x.i.e != 0)) from rfl)
  obtain ⟨sh, hsh⟩ : ∃ b, x.shut = b := ⟨_, rfl⟩
  obtain ⟨cu, hcu⟩ : ∃ b, x.cut = b := ⟨_, rfl⟩
  obtain ⟨dn, hdn⟩ : ∃ b, x.i.done = b := ⟨_, rfl⟩
  obtain ⟨er, her⟩ : ∃ b, x.i.e = b := ⟨_, rfl⟩
  obtain ⟨st, hst⟩ : ∃ b, x.stopped = b := ⟨_, rfl⟩
  rw [hst, hsh, hcu, hdn, her] at HS
  rw [hst]
  rw [hsh] at c6
  rw [hcu] at c5
  rw [hdn] at hD
  rw [her] at hE
  clear h hsh hcu hdn her hst
  cases sh with
  | true =>
    go_enter Tryz.func22, Tryz.ntmps22
    go_wp2_with fail
    go_ret
    exact ⟨ret_bool (by rw [HS.out]; rfl), rfl⟩
  | false =>
    cases cu with
    | true =>
      go_enter Tryz.func22, Tryz.ntmps22
      go_wp2_with fail
      go_ret
      exact ⟨ret_bool (by rw [HS.out]; rfl), rfl⟩
    | false =>
      cases dn with
      | true =>
        go_enter Tryz.func22, Tryz.ntmps22
        go_wp2_with fail
        refine hD.out.mono ?_; rintro e w1 ⟨rfl, rfl⟩; dsimp only
        go_wp2_with fail
        go_ret
        exact ⟨ret_bool (by rw [HS.out]; rfl), rfl⟩
      | false =>
        go_enter Tryz.func22, Tryz.ntmps22
        go_wp2_with fail
        refine hD.out.mono ?_; rintro e w1 ⟨rfl, rfl⟩; dsimp only
        go_wp2_with fail
        refine hE.out.mono ?_; rintro e w1 ⟨rfl, rfl⟩; dsimp only
        go_wp2_with fail
        go_ret
        exact ⟨ret_bool (by rw [HS.out]; rfl), rfl⟩
/-- What a source's end comes to. -/
def Rdr.ended (x : Rdr) (e : Int) : Rdr := if e = 9 ∧ x.plain = true then { x with cut := true } else { x with cut := e == 9, i := x.i.close.2 }
set_option maxRecDepth 100000 in
theorem RdEnded_any (h : RdrAt W n0 p x) (er : Int) : Calls Tryz.prog 28 #[.pointer (some ⟨p.D, 0, none⟩), .int .i64 er] W fun e w' => (∃ v, e = .returned v) ∧ RdrAt w' n0 p (x.ended er) ∧ Touch (fun k => p.tag k ≠ 0) W w' := by
  have h1 := h.setCut (er == 9)
  have t1 : Touch (fun k => p.tag k ≠ 0) W (W.setCell ⟨p.D, 5, none⟩ (.bool (er == 9))) := (Touch.refl (fun k => p.tag k ≠ 0) W).setCell (p := ⟨p.D, 5, none⟩) (.inl (by show p.tag p.D ≠ 0; rw [h.tD]; decide)) _
  have f5 := h.f 5
  have c5 := h.c5
  have d0 := h1.c0
  have d4 := h1.c4
  have d5 := h1.c5
  dsimp only at d4 d5
  have hCl := Lib.hid (IClose_any h1.it)
  have H1 := Lib.hid h1
  have T1 := Lib.hid t1
  have H := Lib.hid h
  clear h h1 t1
  by_cases he : er = 9
  · have t9 : (er == 9) = true := beq_iff_eq.2 he
    rw [t9] at H1 T1 d0 d4 d5 hCl
    cases hp : x.plain with
    | true =>
      rw [hp] at d4
      have HE := Lib.hid (show x.ended er = { x with cut := true } from if_pos ⟨he, hp⟩)
      clear he hp
      go_enter Tryz.func28, Tryz.ntmps28
      go_wp2_with fail
      go_end0
      exact ⟨⟨_, rfl⟩, by rw [HE.out]; exact H1.out, T1.out⟩
    | false =>
      rw [hp] at d4
      have HE := Lib.hid (show x.ended er = { x with cut := er == 9, i := x.i.close.2 } from if_neg (by rw [hp]; simp))
      rw [t9] at HE
      clear he hp
      go_enter Tryz.func28, Tryz.ntmps28
      go_wp2_with fail
      refine hCl.out.mono ?_; rintro e w2 ⟨rfl, hi2, t2⟩; dsimp only
      have H2 := Lib.hid (H1.out.it0 t2 _ hi2)
      have T2 := Lib.hid (T1.out.trans (t2.mono (fun k _ hk => by
        rcases hk with hk | hk
        · rw [H.out.tG k hk]; decide
        · rw [hk, H.out.tI]; decide)))
      clear hi2 t2
      go_wp2_with fail
      go_end0
      exact ⟨⟨_, rfl⟩, by rw [HE.out]; exact H2.out, T2.out⟩
  · have t9 : (er == 9) = false := beq_eq_false_iff_ne.2 he
    rw [t9] at H1 T1 d0 d4 d5 hCl
    have HE := Lib.hid (show x.ended er = { x with cut := er == 9, i := x.i.close.2 } from if_neg (fun h => he h.1))
    rw [t9] at HE
    clear he
    go_enter Tryz.func28, Tryz.ntmps28
    go_wp2_with fail
    refine hCl.out.mono ?_; rintro e w2 ⟨rfl, hi2, t2⟩; dsimp only
    have H2 := Lib.hid (H1.out.it0 t2 _ hi2)
    have T2 := Lib.hid (T1.out.trans (t2.mono (fun k _ hk => by
      rcases hk with hk | hk
      · rw [H.out.tG k hk]; decide
      · rw [hk, H.out.tI]; decide)))
    clear hi2 t2
    go_wp2_with fail
    go_end0
    exact ⟨⟨_, rfl⟩, by rw [HE.out]; exact H2.out, T2.out⟩
set_option maxRecDepth 100000 in
theorem RdTake_any (h : RdrAt W n0 p x) (hw : x.r.wf) (n : Nat) (hn : n ≤ 1000000) : Calls Tryz.prog 10 #[.pointer (some ⟨p.D, 0, none⟩), .int .i64 n] W fun e w' => ∃ vo, e = .returned vo ∧ w'.ownsRow W.heap.size 5 1 vo (min n x.r.held.length) ((x.r.held.take n).map encU) ∧
    RdrAt w' n0 p { x with r := x.r.drop n } ∧ Touch (fun k => p.tag k ≠ 0) W w' := by
  have c2 := h.c2
  have hR := Lib.hid (RRead_any h.ring hw n hn)
  have H := Lib.hid h
  clear h hw hn
  go_enter Tryz.func10, Tryz.ntmps10
  go_wp2_with fail
  refine hR.out.mono ?_; rintro e w1 ⟨vo, rfl, hown, hr1, t1⟩; dsimp only
  have HO := Lib.hid hown
  have HR1 := Lib.hid (H.out.ring' (t1.mono (fun k _ hk => .inl hk)) _ hr1)
  have HT1 := Lib.hid (t1.mono (Y := fun k => p.tag k ≠ 0) (fun k _ hk => by rw [show k = p.R from hk, H.out.tR]; decide))
  clear hown hr1 t1
  go_wp2_with fail
  go_ret
  exact ⟨vo, rfl, HO.out, HR1.out, HT1.out⟩
set_option maxRecDepth 100000 in
theorem RdRest_any (h : RdrAt W n0 p x) (hl : x.rest.length ≤ 1000000) : Calls Tryz.prog 12 #[.pointer (some ⟨p.D, 0, none⟩)] W fun e w' => ∃ vo, e = .returned vo ∧ w'.ownsRow W.heap.size 5 1 vo x.rest.length (x.rest.map encU) ∧ Below W.heap.size W w' := by
  have c7 := h.c7
  obtain ⟨A, cap, hv⟩ := own_sl h.own
  rw [hv] at c7
  have ho := h.own
  rw [hv] at ho
  have hC := Lib.hid (CloneB_any W W.heap.size A cap x.rest (Nat.le_refl _) hl (own_rd ho).1)
  clear h ho hv
  obtain ⟨m, hm⟩ : ∃ m, x.rest.length = m := ⟨_, rfl⟩
  rw [hm] at hC c7 ⊢
  go_enter Tryz.func12, Tryz.ntmps12
  go_wp2_with fail
  refine hC.out.mono ?_; rintro e w1 ⟨vo, rfl, hown, hb⟩; dsimp only
  have HO := Lib.hid hown
  have HB := Lib.hid hb
  clear hown hb
  go_wp2_with fail
  go_ret
  exact ⟨vo, rfl, HO.out, HB.out⟩
end

end Go.Proofs.YtfeljjlpdefnmaaGreat
