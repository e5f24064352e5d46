/-
  Layer 9 (dechunk): Put.
-/
import Derived.Test.YtfeljjlpdefnmaaGreatDecT
import Derived.LoopTactic
import Derived.Deep.LoopGhost
namespace Go.Proofs.YtfeljjlpdefnmaaGreat
open Go.RowKit
set_option linter.unusedVariables false
set_option linter.unusedSimpArgs false
attribute [local go_sem] Oper.semAt_some

/-- Bytes in memory, that a slice at A begins with. -/
def RdB (W : World) (n : Nat) (A : Option Addr) (l : List UInt8) : Prop := l ≠ [] → ∃ b off, A = some ⟨b, off, none⟩ ∧ b < n ∧ ∀ j, j < l.length → W.cell? ⟨b, off + j, none⟩ = some (encU (l[j]?.getD 0))

/-- Where Put's loop stands. -/
structure PutSt (e0 e1 e2 e3 e4 e5 : Int) (W : World) (F : Nat → Prop) (D : Nat) (d : Dec) (bs : List UInt8) (wr : World) (k : Nat) (d' : Dec) (out : List UInt8) (vo : Value) (F' : Nat → Prop) (vl vf : Value) : Prop where
  at_ : DecAt wr F' D vl vf d'
  wf : WfD d'
  sub : ∀ i, F' i → F i ∨ W.heap.size ≤ i
  touch : Touch F W wr
  row : wr.ownsRow W.heap.size 5 1 vo out.length (out.map encU)
  apart : ∀ g, vo.ownBlock = some g → ¬ F' g
  kept : keptD d d'
  len : out.length ≤ k
  kle : k ≤ bs.length
  run : runD e0 e1 e2 e3 e4 e5 d bs = ((runD e0 e1 e2 e3 e4 e5 d' (bs.drop k)).1, out ++ (runD e0 e1 e2 e3 e4 e5 d' (bs.drop k)).2.1, k + (runD e0 e1 e2 e3 e4 e5 d' (bs.drop k)).2.2)
theorem PutSt.stop {e0 e1 e2 e3 e4 e5 : Int} {W : World} {F : Nat → Prop} {D : Nat} {d : Dec} {bs : List UInt8} {wr : World} {k : Nat} {d' : Dec} {out : List UInt8} {vo : Value} {F' : Nat → Prop} {vl vf : Value}
    (h : PutSt e0 e1 e2 e3 e4 e5 W F D d bs wr k d' out vo F' vl vf) (hs : k = bs.length ∨ d'.e ≠ 0 ∨ d'.place = 11) : runD e0 e1 e2 e3 e4 e5 d bs = (d', out, k) := by
  have h1 : runD e0 e1 e2 e3 e4 e5 d' (bs.drop k) = (d', [], 0) := runD_stop (by
    rcases hs with hs | hs
    · exact .inl (List.drop_eq_nil_of_le (by omega))
    · exact .inr hs)
  have h2 := h.run
  rw [h1] at h2
  simpa using h2
/-- Behind an append to what Put gives: the decoder as it was, the row grown. -/
theorem PutSt.app {e0 e1 e2 e3 e4 e5 : Int} {W : World} {F : Nat → Prop} {D : Nat} {d : Dec} {bs : List UInt8} {wr : World} {k : Nat} {d' : Dec} {out : List UInt8} {vo : Value} {F' : Nat → Prop} {vl vf : Value}
    (h : PutSt e0 e1 e2 e3 e4 e5 W F D d bs wr k d' out vo F' vl vf) {w4 : World} {v1 : Value} (hg : wr.grownBy w4 vo.ownBlock) (hat : v1.ownBlock = vo.ownBlock ∨ v1.ownBlock = some wr.heap.size) :
    DecAt w4 F' D vl vf d' ∧ Touch F W w4 ∧ (∀ g, v1.ownBlock = some g → ¬ F' g) := by
  have t : Touch (fun g => vo.ownBlock = some g) wr w4 := ⟨hg.os, hg.tape, hg.output, hg.size, fun j hj hx => hg.block j hj (fun e => hx e.symm)⟩
  refine ⟨h.at_.touch t (fun g hF hv => h.apart g hv hF), ?_, fun g hv hF => ?_⟩
  · refine h.touch.join t (fun g hv => .inr ?_)
    rcases h.row.2 with ⟨h1, _⟩ | ⟨g', cap', cur, h1, hb, _⟩
    · rw [h1] at hv; cases hv
    · rw [h1] at hv
      have : g' = g := by simpa [Value.ownBlock] using hv
      omega
  · rcases hat with e | e
    · exact h.apart g (by rw [← e]; exact hv) hF
    · rw [e] at hv
      injection hv with hv
      have := h.at_.lt g hF
      omega
/-- Behind a piece of data. -/
theorem PutSt.data {e0 e1 e2 e3 e4 e5 : Int} {W : World} {F : Nat → Prop} {D : Nat} {d : Dec} {bs : List UInt8} {wr : World} {k : Nat} {d' : Dec} {out : List UInt8} {vo : Value} {F' : Nat → Prop} {vl vf : Value}
    (h : PutSt e0 e1 e2 e3 e4 e5 W F D d bs wr k d' out vo F' vl vf) (he : d'.e = 0) (hp : d'.place = 3) (kk : Nat) (h1 : 1 ≤ kk) (h2 : (kk : Int) ≤ d'.n) (h3 : k + kk ≤ bs.length)
    {w4 w5 : World} {v1 : Value} (hg : wr.grownBy w4 vo.ownBlock) (hat : v1.ownBlock = vo.ownBlock ∨ v1.ownBlock = some wr.heap.size)
    (hown : w4.ownsRow W.heap.size 5 1 v1 (out.length + kk) (out.map encU ++ ((bs.drop k).take kk).map encU))
    (hD : DecAt w5 F' D vl vf { d' with n := d'.n - kk, place := if d'.n = kk then 4 else 3 }) (ht : Touch (· = D) w4 w5) :
    PutSt e0 e1 e2 e3 e4 e5 W F D d bs w5 (k + kk) { d' with n := d'.n - kk, place := if d'.n = kk then 4 else 3 } (out ++ (bs.drop k).take kk) v1 F' vl vf := by
  obtain ⟨a1, a2, a3⟩ := h.app hg hat
  have hl : ((bs.drop k).take kk).length = kk := by rw [List.length_take, List.length_drop]; omega
  have hw := h.wf
  have hn1 := hw.n1
  refine ⟨hD, ?_, h.sub, a2.join ht (fun i hi => (by subst hi; exact h.sub _ h.at_.hD)), ?_, a3, h.kept, by rw [List.length_append, hl]; have := h.len; omega, h3, ?_⟩
  · refine ⟨?_, ?_, by simp; omega, by simp; omega, ?_, hw.c0, hw.c1, ?_, hw.l0, hw.s0, hw.s1, ?_, hw.x1, hw.f1, hw.b1⟩
    all_goals (dsimp only; split <;> simp <;> try omega)
  · have := own_touchL (X := (· = D)) hown ht (fun g hv e => a3 g hv (by rw [e]; exact h.at_.hD))
    rw [List.length_append, hl, List.map_append]
    exact this
  · rw [h.run, runD_data kk d' (bs.drop k) he hp h1 h2 (by rw [List.length_drop]; omega), List.drop_drop]
    simp only [List.append_assoc, Nat.add_assoc]
/-- Behind a byte that a place takes. -/
theorem PutSt.step {e0 e1 e2 e3 e4 e5 : Int} {W : World} {F : Nat → Prop} {D : Nat} {d : Dec} {bs : List UInt8} {wr : World} {k : Nat} {d' : Dec} {out : List UInt8} {vo : Value} {F' : Nat → Prop} {vl vf : Value}
    (h : PutSt e0 e1 e2 e3 e4 e5 W F D d bs wr k d' out vo F' vl vf) (he : d'.e = 0) (hp : d'.place ≠ 11) (hp3 : d'.place ≠ 3) (hk : k < bs.length) {w5 : World} {F2 : Nat → Prop} {vl2 vf2 : Value}
    (hD : DecAt w5 F2 D vl2 vf2 (putE (stepD e0 e1 e2 e3 e4 e5 d' (bs[k]?.getD 0)))) (hF : ∀ i, F2 i → F' i ∨ wr.heap.size ≤ i) (ht : Touch F' wr w5) :
    PutSt e0 e1 e2 e3 e4 e5 W F D d bs w5 (if (stepD e0 e1 e2 e3 e4 e5 d' (bs[k]?.getD 0)).1 = 0 then k + 1 else k) (putE (stepD e0 e1 e2 e3 e4 e5 d' (bs[k]?.getD 0))) out vo F2 vl2 vf2 := by
  have hd : bs.drop k = (bs[k]?.getD 0) :: bs.drop (k + 1) := by
    rw [List.getElem?_eq_getElem hk, Option.getD_some, List.drop_eq_getElem_cons hk]
  have hrun := h.run
  rw [hd] at hrun
  obtain ⟨c, hc⟩ : ∃ c, bs[k]?.getD 0 = c := ⟨_, rfl⟩
  rw [hc] at hrun hD ⊢
  refine ⟨hD, (stepD_wf h.wf c hp3).putE, fun i hi => (hF i hi).elim (h.sub i) (fun hh => .inr (Nat.le_trans h.touch.size hh)), h.touch.join ht h.sub, own_touchL h.row ht h.apart, fun g hv hF2 => ?_, h.kept.trans (stepD_kept d' c), ?_, ?_, ?_⟩
  · rcases hF g hF2 with h1 | h1
    · exact h.apart g hv h1
    · have := own_lt h.row hv; omega
  · have := h.len
    split <;> omega
  · split <;> omega
  · split
    · rename_i h0
      rw [hrun, runD_step he hp hp3 h0]
      simp only [Nat.add_assoc, Nat.add_comm 1]
    · rename_i h0
      rw [hrun, runD_bad he hp hp3 h0, hd, runD_stop (.inr (.inl h0))]
/-- What Put comes to. -/
def PutP (e0 e1 e2 e3 e4 e5 : Int) (W : World) (F : Nat → Prop) (D : Nat) (d : Dec) (bs : List UInt8) (e : Ending) (w' : World) : Prop :=
  ∃ (F' : Nat → Prop) (vl vf vo : Value), e = .returned (.tuple #[vo, .int .i64 (runD e0 e1 e2 e3 e4 e5 d bs).2.2, .int .i64 (runD e0 e1 e2 e3 e4 e5 d bs).1.e]) ∧
    DecAt w' F' D vl vf { (runD e0 e1 e2 e3 e4 e5 d bs).1 with taken := d.taken + (runD e0 e1 e2 e3 e4 e5 d bs).2.2, given := d.given + (runD e0 e1 e2 e3 e4 e5 d bs).2.1.length } ∧
    w'.ownsRow W.heap.size 5 1 vo (runD e0 e1 e2 e3 e4 e5 d bs).2.1.length ((runD e0 e1 e2 e3 e4 e5 d bs).2.1.map encU) ∧ (∀ g, vo.ownBlock = some g → ¬ F' g) ∧ (∀ i, F' i → F i ∨ W.heap.size ≤ i) ∧ Touch F W w'

theorem own_sl {W : World} {base : Nat} {e : TypeId} {size n : Nat} {v : Value} {xs : List Value} (h : W.ownsRow base e size v n xs) : ∃ ad cap, v = .slice ad n cap := by
  rcases h.2 with ⟨h0, rfl⟩ | ⟨g, cap, cur, rfl, _⟩
  · exact ⟨_, _, h0⟩
  · exact ⟨_, _, rfl⟩

def putM (m D : Nat) (n : Value) (wr : World) : Nat := 2 * (m - (intOf n).toNat) + (match wr.cell? ⟨D, 12, none⟩ with | some (.int _ x) => if x = 0 then 1 else 0 | _ => 0)

theorem way_field (fv : Nat) (w : World) : (Instr.field 125 (.agg #[.func (.func fv) #[] #[]]) 0).run Tryz.prog w = .ok (.func (.func fv) #[] #[]) w := by kernel_rfl
theorem putM_at {m D k : Nat} {w : World} {x : Int} (h : w.cell? ⟨D, 12, none⟩ = some (.int .i64 x)) : putM m D (.int .i64 (k : Int)) w = 2 * (m - k) + (if x = 0 then 1 else 0) := by
  unfold putM
  rw [h]
  simp [intOf]

section
variable {W W1 : World} {F : Nat → Prop} {D : Nat} {vl vf : Value} {d : Dec} {e0 e1 e2 e3 e4 e5 : Int} {n0 : Nat}
set_option maxHeartbeats 4000000 in
set_option maxRecDepth 100000 in
theorem DPut_any (h : DecAt W F D vl vf d) (hw : WfD d) (A : Option Addr) (cap : Nat) (bs : List UInt8) (hl : bs.length ≤ 1000000) (hc : bs.length ≤ cap) (hcm : cap ≤ maxLen) (hr : RdB W W.heap.size A bs) (hA : bs ≠ [] → ∀ b off, A = some ⟨b, off, none⟩ → ¬ F b)
    (ht0 : 0 ≤ d.taken) (ht1 : d.taken ≤ 1000000000000) (hg0 : 0 ≤ d.given) (hg1 : d.given ≤ 1000000000000) (hFn : ∀ k, F k → n0 ≤ k) (hT : TabR W n0 e0 e1 e2 e3 e4 e5) :
    Calls Tryz.prog 75 #[.pointer (some ⟨D, 0, none⟩), .slice A bs.length cap] W (PutP e0 e1 e2 e3 e4 e5 W F D d bs) := by
  have HS := Lib.hid (show PutSt e0 e1 e2 e3 e4 e5 W F D d bs W 0 d [] (.slice none 0 0) F vl vf from ⟨h, hw, fun i hi => .inl hi, Touch.refl _ _, World.ownsRow_nil _ _ _ _, fun g hg => (by cases hg), ⟨rfl, rfl, rfl, rfl, rfl⟩, Nat.le_refl _, Nat.zero_le _, by simp⟩)
  obtain ⟨m, hm⟩ : ∃ m, bs.length = m := ⟨_, rfl⟩
  rw [hm] at hc hl ⊢
  have HR := Lib.hid hr
  have HT := Lib.hid hT
  have H := Lib.hid h
  have Hm := Lib.hid hm
  clear h hr hT hm
  refine calls_of_wp_marks Tryz.func75 rfl ?_
  simp only [Tryz.ntmps75, List.size_toArray, List.length_cons, List.length_nil, Nat.reduceAdd, Nat.reduceSub, Array.replicate_succ, Array.replicate_zero, List.push_toArray, List.append_toArray, List.nil_append, List.cons_append]
  go_wp2_with fail
  go_step3
  go_wp2_with fail
  go_step3
  go_wp2_with fail
  go_loopw [4, 5] (fun o n wr => ∃ (k : Nat) (d' : Dec) (out : List UInt8) (vo : Value) (F' : Nat → Prop) (vl' vf' : Value), o = vo ∧ n = .int .i64 (k : Nat) ∧ k ≤ m ∧ Hid (PutSt e0 e1 e2 e3 e4 e5 W F D d bs wr k d' out vo F' vl' vf')) (fun _ n wr => putM m D n wr)
  case atStart => exact ⟨0, d, [], _, F, vl, vf, rfl, rfl, Nat.zero_le _, HS⟩
  case round =>
    obtain ⟨k, d', out, vo, F', vl', vf', rfl, rfl, hkm, hP⟩ := hrel
    have c12 := hP.out.at_.c12
    have c3 := hP.out.at_.c3
    have hw' := hP.out.wf
    have hk9 := hP.out.kept
    by_cases hstop : k = m ∨ (k < m ∧ d'.e ≠ 0) ∨ (k < m ∧ d'.e = 0 ∧ d'.place = 11)
    · have HRun := Lib.hid (hP.out.stop (by rw [Hm.out]; exact hstop.imp id (fun h => h.imp (fun h => h.2) (fun h => h.2.2))))
      obtain ⟨ad, cp, rfl⟩ := own_sl hP.out.row
      have hlen := hP.out.len
      have q1 : d'.taken = d.taken := hk9.1
      have q2 : d'.given = d.given := hk9.2.1
      have c10 := hP.out.at_.c10
      have f10 := hP.out.at_.f 10
      rw [q1] at c10
      have s1 : IntKind.i64.wrap (d.taken + (k : Int)) = d.taken + k := IntWalk.i64_in _ (by omega)
      obtain ⟨ol, hol⟩ : ∃ ol, out.length = ol := ⟨_, rfl⟩
      have Hol := Lib.hid hol
      have hrow0 := hP.out.row
      have hap0 := hP.out.apart
      rw [hol] at hlen hrow0 hap0 ⊢
      have HRow0 := Lib.hid hrow0
      have HAp0 := Lib.hid hap0
      clear hrow0 hap0
      have s2 : IntKind.i64.wrap (d.given + (ol : Int)) = d.given + ol := IntWalk.i64_in _ (by omega)
      have H10 := Lib.hid (hP.out.at_.setTaken (d.taken + k))
      have T10 := Lib.hid (hP.out.touch.setCell (p := ⟨D, 10, none⟩) (.inl H.out.hD) (.int .i64 (d.taken + k)))
      have c11 := H10.out.c11
      have f11 := H10.out.f 11
      dsimp only at c11
      rw [q2] at c11
      have H11 := Lib.hid (H10.out.setGiven (d.given + ol))
      have T11 := Lib.hid (T10.out.setCell (p := ⟨D, 11, none⟩) (.inl H.out.hD) (.int .i64 (d.given + ol)))
      obtain ⟨w3, hw3⟩ : ∃ w3, (wr.setCell ⟨D, 10, none⟩ (.int .i64 (d.taken + k))).setCell ⟨D, 11, none⟩ (.int .i64 (d.given + ol)) = w3 := ⟨_, rfl⟩
      rw [hw3] at H11 T11
      have k12 := H11.out.c12
      dsimp only at k12
      have HRow := Lib.hid (show w3.ownsRow W.heap.size 5 1 (.slice ad ol cp) ol (out.map encU) from by
        rw [← hw3]
        exact own_touchL HRow0.out (((Touch.refl F' wr).setCell (p := ⟨D, 10, none⟩) (.inl hP.out.at_.hD) (.int .i64 (d.taken + k))).setCell (p := ⟨D, 11, none⟩) (.inl hP.out.at_.hD) (.int .i64 (d.given + ol))) HAp0.out)
      have HQ := Lib.hid q1
      have HQ2 := Lib.hid q2
      have fin : ∀ w4 j, w4 = w3.drewN j → PutP e0 e1 e2 e3 e4 e5 W F D d bs (.returned (.tuple #[.slice ad ol cp, .int .i64 k, .int .i64 d'.e])) w4 := by
        rintro w4 j rfl
        have hrun := HRun.out
        unfold PutP
        rw [hrun]
        dsimp only
        rw [Hol.out]
        exact ⟨F', vl', vf', .slice ad ol cp, rfl, H11.out.drewN j, own_touchL HRow.out ((Touch.refl (fun _ => False) w3).drewN j) (fun _ _ h => h), HAp0.out, hP.out.sub, T11.out.drewN j⟩
      have Fin := Lib.hid fin
      clear hol q1 q2 fin
      clear hw' hk9
      rcases hstop with hs | hs | hs
      · have t1 : (m : Int) ≤ (k : Int) := by omega
        clear hs
        go_wp2_with fail
        go_quiet (fail)
        go_wp2_with fail
        rw [Exit.noGoto_ret]
        refine post_nomark rfl (results_tmp3 rfl _ _ _) ?_
        exact Fin.out _ nq rfl
      · obtain ⟨hs1, hs2⟩ := hs
        have t1 : (k : Int) < (m : Int) := by omega
        have t2 : (d'.e == 0) = false := beq_eq_false_iff_ne.2 hs2
        clear hs1 hs2
        go_wp2_with fail
        go_quiet (fail)
        go_wp2_with fail
        rw [Exit.noGoto_ret]
        refine post_nomark rfl (results_tmp3 rfl _ _ _) ?_
        exact Fin.out _ nq rfl
      · obtain ⟨hs1, hs2, hs3⟩ := hs
        have t1 : (k : Int) < (m : Int) := by omega
        have t2 : (d'.e == 0) = true := beq_iff_eq.2 hs2
        have t3 : (d'.place != 11) = false := by rw [hs3]; rfl
        clear hs1 hs2 hs3
        go_wp2_with fail
        go_quiet (fail)
        go_wp2_with fail
        rw [Exit.noGoto_ret]
        refine post_nomark rfl (results_tmp3 rfl _ _ _) ?_
        exact Fin.out _ nq rfl
    · have hkm2 : k < m := by omega
      have he : d'.e = 0 := by omega
      have hp11 : d'.place ≠ 11 := by omega
      clear hstop
      have t1 : (k : Int) < (m : Int) := by omega
      have t2 : (d'.e == 0) = true := beq_iff_eq.2 he
      have t3 : (d'.place != 11) = true := bne_iff_ne.2 hp11
      have hne : bs ≠ [] := by rintro rfl; have := Hm.out; simp at this; omega
      obtain ⟨b, off, rfl, hb, hcells⟩ := HR.out hne
      have hbF := hA hne b off rfl
      by_cases hp3 : d'.place = 3
      · have t4 : (d'.place == 3) = true := beq_iff_eq.2 hp3
        obtain ⟨nn, hnn⟩ := Int.eq_ofNat_of_zero_le hw'.n0
        have hn1 := hw'.n1
        have hn3 := hw'.n3 hp3
        have c4 := hP.out.at_.c4
        rw [hnn] at c4
        obtain ⟨q, hq⟩ : ∃ q, m - k = q := ⟨_, rfl⟩
        unfold maxLen at hcm
        have s1 : IntKind.i64.wrap ((m : Int) - (k : Int)) = (q : Int) := by rw [IntWalk.i64_in _ (by omega)]; omega
        have s2 : IntKind.u64.wrap (q : Int) = (q : Int) := IntWalk.u64_in _ (by omega)
        obtain ⟨i0, hi, hz0, hz1, hz2⟩ := Tryz.info_u8R
        have hlen := hP.out.len
        obtain ⟨ol, hol⟩ : ∃ ol, out.length = ol := ⟨_, rfl⟩
        have Hol := Lib.hid hol
        rw [hol] at hlen
        obtain ⟨kk, hkk⟩ : ∃ kk : Nat, min nn q = kk := ⟨_, rfl⟩
        have hmin : min (nn : Int) (q : Int) = (kk : Int) := by omega
        have s3 : IntKind.i64.wrap (kk : Int) = (kk : Int) := IntWalk.i64_in _ (by omega)
        have s4 : IntKind.i64.wrap ((k : Int) + (kk : Int)) = (k : Int) + (kk : Int) := IntWalk.i64_in _ (by omega)
        have s5 : ((k : Int) + (kk : Int)).toNat = k + kk := by omega
        have s6 : IntKind.u64.wrap (kk : Int) = (kk : Int) := IntWalk.u64_in _ (by omega)
        have s7 : (k : Int) + (kk : Int) ≤ (cap : Int) := by omega
        obtain ⟨r, hr⟩ : ∃ r, nn - kk = r := ⟨_, rfl⟩
        have s8 : IntKind.u64.wrap ((nn : Int) - (kk : Int)) = (r : Int) := by rw [IntWalk.u64_in _ (by omega)]; omega
        have hlk : ((bs.drop k).take kk).length = kk := by rw [List.length_take, List.length_drop, Hm.out]; omega
        have hrow := hP.out.row
        rw [hol] at hrow
        have HRow := Lib.hid hrow
        have hN : ∀ (j : Nat) u, (((bs.drop k).take kk).map encU)[j]? = some u → wr.cell? ((⟨b, off + k, none⟩ : Addr).add j) = some u := by
          intro j u hu
          have hj : j < kk := by
            have := (List.getElem?_eq_some_iff.1 hu).1
            rw [List.length_map, hlk] at this; exact this
          rw [WideShapes.add_plain]
          have h1 := hcells (k + j) (by rw [Hm.out]; omega)
          have h2 := (hP.out.touch.cell (p := ⟨b, off + (k + j), none⟩) hb hbF).trans h1
          rw [show off + k + j = off + (k + j) by omega]
          rw [h2]
          rw [List.getElem?_map, List.getElem?_take, if_pos hj, List.getElem?_drop] at hu
          rw [← hu]
          rw [List.getElem?_eq_getElem (by rw [Hm.out]; omega)]
          rfl
        have HN := Lib.hid hN
        clear hN hrow
        go_wp2_with (at_builtin; refine wpList_appF rfl _ _ 39 rfl W.heap.size 5 i0 (.int .u8 0) 1 1 Tryz.underlying39 hi hz0 hz1 hz2 rfl (by decide) u4 ol _ rfl HRow.out ⟨b, off + k, none⟩ kk (cap - k) (((bs.drop k).take kk).map encU) rfl (by rw [List.length_map, hlk, Nat.mul_one]) HN.out (by intro u hu; obtain ⟨y, _, rfl⟩ := List.mem_map.1 hu; rfl) (by unfold maxLen; omega) (by omega) hP.out.touch.size ?_)
        intro v1 w4 hown hg4 hat4
        obtain ⟨a1, a2, a3⟩ := hP.out.app hg4 hat4
        have hown2 : w4.ownsRow W.heap.size 5 1 v1 (out.length + kk) (out.map encU ++ ((bs.drop k).take kk).map encU) := by rw [Hol.out]; simpa only [List.map_take, List.map_drop] using hown
        have k4 := a1.f 4
        have g4 := a1.c4
        rw [hnn] at g4
        have A5 := Lib.hid (a1.setN (r : Int))
        have T5 := Lib.hid (show Touch (· = D) w4 (w4.setCell ⟨D, 4, none⟩ (.int .u64 (r : Int))) from (Touch.refl (· = D) w4).setCell (p := ⟨D, 4, none⟩) (.inl rfl) _)
        have g5 := A5.out.c4
        have g6 := A5.out.c3
        have k6 := A5.out.f 3
        dsimp only at g5 g6
        have m0 := putM_at (m := m) (k := k) c12
        have M0 := Lib.hid m0
        have e1 : d'.n - (kk : Int) = (r : Int) := by omega
        have HD := Lib.hid (fun w5 => hP.out.data (w4 := w4) (w5 := w5) (v1 := v1) he hp3 kk (by omega) (by omega) (by rw [Hm.out]; omega) hg4 hat4 hown2)
        rw [e1] at HD
        have hkkm : k + kk ≤ m := by omega
        have hkk1 : 1 ≤ kk := by omega
        by_cases hr0 : r = 0
        · have t5 : ((r : Int) == 0) = true := by rw [hr0]; rfl
          have e2 : (if d'.n = (kk : Int) then (4 : Int) else 3) = 4 := if_pos (by omega)
          rw [e2] at HD
          have H7 := Lib.hid (HD.out _ (A5.out.setPlace 4) (T5.out.setCell (p := ⟨D, 3, none⟩) (.inl rfl) _))
          have M1 := Lib.hid (putM_at (m := m) (k := k + kk) (H7.out.at_.c12))
          have He := Lib.hid he
          clear hown hown2 hg4 hat4 a1 a2 a3 HD HN HRow hcells hbF hP hr0 hr hw' hk9 hn1 hn3 hnn e1 e2 he hp3 hp11 m0 hkk hq
          go_wp2_with fail
          refine ⟨⟨k + kk, _, _, _, _, _, _, rfl, by go_num, hkkm, H7⟩, ?_⟩
          have hM := M1.out
          rw [show (((k + kk : Nat)) : Int) = (k : Int) + (kk : Int) by omega] at hM
          rw [M0.out, hM]
          dsimp only
          rw [if_pos He.out]
          omega
        · have t5 : ((r : Int) == 0) = false := beq_eq_false_iff_ne.2 (by omega)
          have e2 : (if d'.n = (kk : Int) then (4 : Int) else 3) = 3 := if_neg (by omega)
          rw [e2] at HD
          have e3 : ({ d' with n := (r : Int), place := 3 } : Dec) = { d' with n := (r : Int) } := by rw [← hp3]
          have H7 := Lib.hid (HD.out _ (by rw [e3]; exact A5.out) T5.out)
          have M1 := Lib.hid (putM_at (m := m) (k := k + kk) (H7.out.at_.c12))
          have He := Lib.hid he
          clear hown hown2 hg4 hat4 a1 a2 a3 HD HN HRow hcells hbF hP hr0 hr hw' hk9 hn1 hn3 hnn e1 e2 e3 he hp3 hp11 m0 hkk hq
          go_wp2_with fail
          refine ⟨⟨k + kk, _, _, _, _, _, _, rfl, by go_num, hkkm, H7⟩, ?_⟩
          have hM := M1.out
          rw [show (((k + kk : Nat)) : Int) = (k : Int) + (kk : Int) by omega] at hM
          rw [M0.out, hM]
          dsimp only
          rw [if_pos He.out]
          omega
      · have t4 : (d'.place == 3) = false := beq_eq_false_iff_ne.2 hp3
        obtain ⟨c, hc2⟩ : ∃ c, bs[k]?.getD 0 = c := ⟨_, rfl⟩
        have hkb : k < bs.length := by rw [Hm.out]; exact hkm2
        have hcell : wr.cell? ⟨b, off + k, none⟩ = some (.int .u8 (c.toNat : Int)) := by
          have h1 := hcells k hkb
          rw [hc2] at h1
          exact (hP.out.touch.cell (p := ⟨b, off + k, none⟩) hb hbF).trans h1
        have hbF' : ¬ F' b := fun hh => (hP.out.sub b hh).elim hbF (fun h2 => by omega)
        have hbr : b < wr.heap.size := Nat.lt_of_lt_of_le hb hP.out.touch.size
        have hok := hw'.ok hp3 hp11
        have hTr := (HT.out.below (hP.out.touch.below HT.out.ends.le hFn))
        have hFn' : ∀ j, F' j → n0 ≤ j := fun j hj => (hP.out.sub j hj).elim (hFn j) (fun h2 => Nat.le_trans HT.out.ends.le h2)
        have hPS := fun w5 F2 vl2 vf2 h1 h2 h3 => Lib.hid (hP.out.step (w5 := w5) (F2 := F2) (vl2 := vl2) (vf2 := vf2) he hp11 hp3 hkb h1 h2 h3)
        rw [hc2] at hPS
        have hSt := fun (w2 : World) (hb2 : Below wr.drew.heap.size wr.drew w2) => Lib.hid (Step_any (hP.out.at_.below ((Below.refl _ wr).drew.trans (hb2.mono (by simp)))) hw' c hp3 hp11 hFn' (hTr.below (((Below.refl _ wr).drew.trans (hb2.mono (by simp))).mono (Nat.le_trans HT.out.ends.le hP.out.touch.size))))
        have hEg := way_call d'.place hok
        have hFd := way_field
        have hWy := Lib.hid (Way_any (W := wr.drew) (D := D) d'.place c3 (hP.out.at_.lt D hP.out.at_.hD) hok)
        obtain ⟨st, hst⟩ : ∃ st, stepD e0 e1 e2 e3 e4 e5 d' c = st := ⟨_, rfl⟩
        obtain ⟨fv, hfv⟩ : ∃ fv, wayF d'.place = fv := ⟨_, rfl⟩
        rw [hst] at hPS
        simp only [hst, hfv] at hSt
        unfold StepP at hSt
        rw [hfv] at hEg hWy
        have mk := fun (w' : World) (ht : Touch F' wr w') => Lib.hid (show w'.cell? ⟨b, off + k, none⟩ = some (.int .u8 (c.toNat : Int)) ∧ Touch F' wr w' from ⟨(ht.cell (p := ⟨b, off + k, none⟩) hbr hbF').trans hcell, ht⟩)
        have mk1 := fun (w2 : World) (hb2 : Below wr.drew.heap.size wr.drew w2) => mk w2 (Touch.of_new ((Below.refl _ wr).drew.trans (hb2.mono (by simp))))
        have mk2 := fun (w2 w3 : World) (hb2 : Below wr.drew.heap.size wr.drew w2) (ht : Touch F' w2 w3) => mk w3 ((mk1 w2 hb2).out.2.trans ht)
        have mk3 := fun (w2 w3 : World) (v : Value) (hb2 : Below wr.drew.heap.size wr.drew w2) (ht : Touch F' w2 w3) => mk (w3.setCell ⟨D, 12, none⟩ v) ((mk2 w2 w3 hb2 ht).out.2.setCell (p := ⟨D, 12, none⟩) (.inl hP.out.at_.hD) v)
        have m0 := putM_at (m := m) (k := k) c12
        have M0 := Lib.hid m0
        have He := Lib.hid he
        have p1 : (0 : Int) ≤ (k : Int) := Int.natCast_nonneg k
        clear hst hfv hc2 hcells hw' hok hFn' hTr hp11 hp3 he m0 hk9
        go_wp2_with fail
        go_region_held3 (fun w' => w'.cell? ⟨b, off + k, none⟩ = some (.int .u8 (c.toNat : Int)) ∧ Touch F' wr w')
          (first | exact (mk _ (Touch.refl _ _).drew).out | exact (mk1 _ (by assumption)).out | exact (mk2 _ _ (by assumption) (by assumption)).out | exact (mk3 _ _ _ (by assumption) (by assumption)).out | assumption)
          (first | (go_at_call 76; with_reducible refine hWy.out.mono ?_; rintro e w2 ⟨rfl, hb2⟩) | (with_reducible refine (hSt _ (by assumption)).out.mono ?_; rintro e w3 ⟨F2, vl2, vf2, rfl, hd2, hF2, ht2⟩; have q1 := hd2.c12; have q2 := hd2.f 12))
        have HP5 := hPS _ F2 vl2 vf2 (hd2.setE st.1) (fun i hi => (hF2 i hi).imp id (fun h => Nat.le_trans (by simpa using hb2.size) h)) (mk3 w2 w3 (Value.int .i64 st.1) hb2 ht2).out.2
        have g12 := HP5.out.at_.c12
        replace g12 : _ = some (Value.int .i64 st.1) := g12
        have s1 : IntKind.i64.wrap ((k : Int) + 1) = (k : Int) + 1 := IntWalk.i64_in _ (by omega)
        obtain ⟨w5, hw5⟩ : ∃ w5, w3.setCell ⟨D, 12, none⟩ (.int .i64 st.1) = w5 := ⟨_, rfl⟩
        rw [hw5] at HP5 g12 ⊢
        clear hd2 hF2 ht2 hb2 q1 q2 mk mk1 mk2 mk3 hSt hEg hWy hFd hPS hw5
        by_cases h0 : st.1 = 0
        · have t5 : (st.1 == 0) = true := beq_iff_eq.2 h0
          have H7 := HP5
          rw [if_pos h0] at H7
          have M1 := Lib.hid (putM_at (m := m) (k := k + 1) g12)
          have H0 := Lib.hid h0
          clear h0 HP5
          go_wp2_with fail
          refine ⟨⟨k + 1, _, _, _, _, _, _, rfl, by go_num, hkm2, H7⟩, ?_⟩
          have hM := M1.out
          rw [show (((k + 1 : Nat)) : Int) = (k : Int) + 1 by omega] at hM
          rw [M0.out, hM, if_pos He.out, if_pos H0.out]
          omega
        · have t5 : (st.1 == 0) = false := beq_eq_false_iff_ne.2 h0
          have H7 := HP5
          rw [if_neg h0] at H7
          have M1 := Lib.hid (putM_at (m := m) (k := k) g12)
          have H0 := Lib.hid h0
          clear h0 HP5
          go_wp2_with fail
          refine ⟨⟨k, _, _, _, _, _, _, rfl, by go_num, hkm, H7⟩, ?_⟩
          rw [M0.out, M1.out, if_pos He.out, if_neg H0.out]
          omega
end

end Go.Proofs.YtfeljjlpdefnmaaGreat
