/-
  Layer 28: the reference's Get, cut: the key Take.
-/
import Derived.Test.YtplcfijcmihhlaaDoorRGetA2
namespace Go.Proofs.YtplcfijcmihhlaaDoor
open Go.RowKit Go.Proofs.YtplcfijcmihhlaaDoorW.PrintWords Go.Proofs.YtplcfijcmihhlaaDoorW.PrintLast
set_option linter.unusedVariables false
set_option linter.unusedSimpArgs false
attribute [local go_sem] Oper.semAt_some
set_option maxHeartbeats 40000000 in
set_option maxRecDepth 1000000 in
theorem RGet_lineTake {t rest line : ByteArray} {w W0 w2 : World} {rn : RunS} {vp vt vk : Value} {k n g cw : Nat} {gcs : Array Value} {Q : Exit → Act → World → Prop} {u8 u9 u10 u11 u12 u13 u14 u15 u16 u17 u18 u19 u20 u21 u22 u23 u24 u25 u26 u27 u28 u29 u30 u31 u32 u33 u34 u35 u36 u37 u38 u39 u40 u41 u42 u43 u44 u45 u46 u47 u48 u49 u50 u51 u52 u53 u54 u55 u56 u57 u58 u59 u60 u61 u62 u63 u64 u65 u66 u67 u68 u69 u70 u71 u72 u73 u74 u75 u76 u77 u78 u79 u80 u81 u82 u83 u84 u85 u86 u87 u88 u89 u90 u91 u92 u93 u94 u95 u96 u97 u98 u99 u100 u101 u102 u103 u104 u105 u106 u107 u108 u109 u110 u111 u112 u113 u114 u115 u116 u117 u118 u119 u120 u121 u122 u123 u124 u125 u126 u127 u128 u129 u130 u131 u132 u133 u134 u135 u136 u137 u138 u139 u140 u141 u142 u143 u144 u145 u146 u147 u148 u149 u150 u151 u152 u153 u154 u155 u156 u157 u158 u159 u160 u161 u162 u163 u164 u165 u166 u167 u168 u169 u170 u171 u172 u173 u174 u175 u176 u177 u178 u179 u180 u181 u182 u183 u184 u185 u186 u187 u188 u189 u190 u191 u192 u193 u194 u195 u196 u197 u198 u199 u200 u201 u202 u203 u204 u205 u206 u207 u208 u209 u210 u211 u212 u213 u214 u215 u216 u217 u218 u219 u220 u221 u222 u223 : Value} (ht : t.size ≤ 1500) (hz0 : W0.heap.size = w.heap.size + 2)
    (G0 : Hid (W0.heap[w.heap.size]? = some (.cells #[.slice none 0 0, .int .i64 0, .slice none 0 0, .int .i64 0, .slice none 0 0, .int .i64 0, .int .i64 0] 68 (0, 0)))) (HB0 : Hid (Below w.heap.size w W0))
    (hrs : rest.size ≤ t.size) (hn : 0 ≤ rn.n ∧ rn.n ≤ t.size) (hq : 0 ≤ rn.q ∧ rn.q ≤ 3) (hr0 : (0 : Int) < (rest.size : Int)) (hlk : k < rest.size)
    (p1 : (0 : Int) ≤ (k : Int)) (p2 : (k : Int) < (rest.size : Int)) (Hls : Hid (line.size ≤ 1500))
    (HW2 : Hid (Below (w.heap.size + 1) W0 w2)) (HW2s : Hid (w.heap.size + 1 ≤ w2.heap.size)) (HR2 : Hid (RdG w2 (w.heap.size + 1) (w.heap.size + 1) vp vt vk rn.x))
    (hGr2 : Hid (w2.heap[w.heap.size]? = some (.cells #[.slice none 0 0, .int .i64 0, .slice none 0 0, .int .i64 0, .slice none 0 0, .int .i64 0, .int .i64 0] 68 (0, 0)))) (Hgb : Hid (w2.heap[g]? = some (.cells gcs 9 (0, 0))))
    (hk0 : w2.cell? ⟨g, 0, none⟩ = some (.string (keyS line))) (hk1 : n = 2 → w2.cell? ⟨g, 1, none⟩ = some (.string (wordS line))) (Hn : Hid ((wordsS line).length = n)) (hn1 : 1 ≤ n)
    (Hws : Hid ((wordS line).size ≤ 1500)) (Hlen : Hid (ScrLen rn.x 1500))
    (Hbad : Hid (∀ (e : Int), (lineS rn.x rn.q (keyS line) (wordS line) (twoS line)).1 = e → e ≠ 0 → getS t = (zeroS, rn.n + 1, e)))
    (Hnext : Hid (∀ (x' : Scr) (q' : Int), lineS rn.x rn.q (keyS line) (wordS line) (twoS line) = (0, x', q') → ∃ pre', AtS t pre' (rest.extract (k + 1) rest.size) ⟨0, x', q', rn.n + 1⟩))
    (hms : (rest.extract (k + 1) rest.size).size < rest.size)
    (HRt : Hid (∀ a' w', bodyPost Tryd.prog Tryd.f33 (RGetP t w) Exit.ret a' w' → Q Exit.ret a' w'))
    (HNx : Hid (NextG t w W0 rest Q)) (hkTake : (keyS line).data.toList = kTake) :
    Code.wp Tryd.prog tail11 Q ⟨#[.string rest, undef, .pointer (some ⟨w.heap.size, 0, none⟩), .pointer (some ⟨w.heap.size + 1, 0, none⟩), .int .i64 rn.q, .int .i64 (rn.n + 1), .int .i64 (k : Nat), .slice (some ⟨g, 0, none⟩) n cw, u8, u9, u10, u11, u12, u13, u14, u15, u16, u17, u18, u19, u20, u21, u22, u23, u24, u25, u26, u27, u28, u29, u30, u31, u32, u33, u34, u35, u36, u37, u38, u39, u40, u41, u42, u43, u44, u45, u46, u47, u48, u49, u50, u51, u52, u53, u54, u55, u56, u57, u58, u59, u60, u61, u62, u63, u64, u65, u66, u67, u68, u69, u70, u71, u72, u73, u74, u75, u76, u77, u78, u79, u80, u81, u82, u83, u84, u85, u86, u87, u88, u89, u90, u91, u92, u93, u94, u95, u96, u97, u98, u99, u100, u101, u102, u103, u104, u105, u106, u107, u108, u109, u110, u111, u112, u113, u114, u115, u116, u117, u118, u119, u120, u121, u122, u123, u124, u125, u126, u127, u128, u129, u130, u131, u132, u133, u134, u135, u136, u137, u138, u139, u140, u141, u142, u143, u144, u145, u146, u147, u148, u149, u150, u151, u152, u153, u154, u155, u156, u157, u158, u159, u160, u161, u162, u163, u164, u165, u166, u167, u168, u169, u170, u171, u172, u173, u174, u175, u176, u177, u178, u179, u180, u181, u182, u183, u184, u185, u186, u187, u188, u189, u190, u191, u192, u193, u194, u195, u196, u197, u198, u199, u200, u201, u202, u203, u204, u205, u206, u207, u208, u209, u210, u211, u212, u213, u214, u215, u216, u217, u218, u219, u220, u221, u222, u223, undef, undef, undef, undef, undef, undef], []⟩ w2 := by
  conv => arg 2; whnf
  obtain ⟨z0, z1, z2, z3, z4, z5, z6⟩ := cells7 hGr2.out
  have zf := froz hGr2.out
  have Hk := Lib.hid (show (keyS line).toList = kTake by rw [Lib.toList_data]; exact hkTake)
  have Hkd := Lib.hid hkTake
  have eUp : ((keyS line).toList == [117, 112]) = false := by rw [Hk.out]; rfl
  have bUp : ((keyS line).toList != [117, 112]) = true := by rw [Hk.out]; rfl
  have eEnd : ((keyS line).toList == [101, 110, 100]) = false := by rw [Hk.out]; rfl
  have bEnd : ((keyS line).toList != [101, 110, 100]) = true := by rw [Hk.out]; rfl
  have eTake : ((keyS line).toList == [116, 97, 107, 101]) = true := by rw [Hk.out]; rfl
  have bTake : ((keyS line).toList != [116, 97, 107, 101]) = false := by rw [Hk.out]; rfl
  have eStop : ((keyS line).toList == [115, 116, 111, 112]) = false := by rw [Hk.out]; rfl
  have bStop : ((keyS line).toList != [115, 116, 111, 112]) = true := by rw [Hk.out]; rfl
  have ePick : ((keyS line).toList == [112, 105, 99, 107]) = false := by rw [Hk.out]; rfl
  have bPick : ((keyS line).toList != [112, 105, 99, 107]) = true := by rw [Hk.out]; rfl
  clear hkTake
  by_cases hn2 : n = 2
  · have hw1 := hk1 hn2
    have H2 := Lib.hid (show twoS line = true by unfold twoS; rw [Hn.out, hn2]; rfl)
    subst hn2
    clear hk1
    by_cases hqq : rn.q = 1
    · have Hq := Lib.hid hqq
      have q0 : (rn.q == 0) = false := by rw [hqq]; rfl
      have q1 : (rn.q == 1) = true := by rw [hqq]; rfl
      have q2 : (rn.q == 2) = false := by rw [hqq]; rfl
      clear hqq
      obtain ⟨kf, hkf⟩ := refOf (wordS line) (by have := Hws.out; omega)
      have hOf := fun W => Lib.hid (PGet.catchpitref27_Of.calls kf (wordS line) _ _ W hkf)
      have hL := lineS_take (x := rn.x) (q := rn.q) (word := wordS line) (two := twoS line) Hkd.out
      rw [Hq.out, H2.out] at hL
      have HL0 := Lib.hid hL
      have HI := Lib.hid (show isTake (wordS line) = decide ((numS (wordS line).data.toList).2 = 0 ∧ (numS (wordS line).data.toList).1 ≤ 1073741824 ∧ Lib.decDigits (numS (wordS line).data.toList).1.toNat = (wordS line).data.toList) from rfl)
      have hn0 := numS_bd (wordS line).data.toList
      clear hL hkf
      generalize numS (wordS line).data.toList = nm at *
      obtain ⟨nv, ev⟩ := nm
      obtain ⟨nv0, nv1⟩ := hn0
      obtain ⟨ok, hok⟩ : ∃ ok, decide ((nv, ev).2 = 0 ∧ Lib.decDigits (nv, ev).1.toNat = (wordS line).data.toList) = ok := ⟨_, rfl⟩
      rw [hok] at hOf
      have Hok := Lib.hid hok
      clear hok
      dsimp only at hOf nv0 nv1
      go_wp2_with fail
      refine (hOf _).out.mono ?_; rintro e w3 ⟨rfl, hb3⟩; dsimp only
      have HB3 := Lib.hid hb3
      have HW3 := Lib.hid (HW2.out.trans (hb3.mono HW2s.out))
      have HR3 := Lib.hid (HR2.out.below hb3)
      have Hgb3 := Lib.hid ((hb3.block g (lt_of_heap Hgb.out)).trans Hgb.out)
      have hbz : w.heap.size + 1 ≤ w3.heap.size := Nat.le_trans HW2s.out hb3.size
      clear hb3 z0 z1 z2 z3 z4 z5 z6 zf hw1 hOf
      have r2 := HR3.out.c2
      have hO := HR3.out.rows.tak
      have hfr := Lib.hid (R_freshK HR3.out.rows.pic)
      have hpx : rn.x.takes.length ≤ 1500 := Hlen.out.2.1
      have hpl : (rn.x.takes.length + 1) * 8 ≤ 140737488355328 := by omega
      go_wp2_with (at_builtin; refine Kd.R_append (w0 := W0) KI (w.heap.size + 1) rfl _ _ 30 3 (.int .i64 0) 8 rfl Tryd.underlying30 Tryd.info_i64 rfl (by decide) (by decide) vt rn.x.takes nv [.int .i64 nv] (fun k => some k ≠ vk.ownBlock) (fun _ => False) rfl rfl rfl (fun k h => h.elim) hfr.out hO HW3.out (by omega) hpl ?_)
      intro v1 w4 hO1 hB4 hg4 hat4
      obtain ⟨A1, c1, rfl⟩ := Kd.R_slice hO1
      rw [show (rn.x.takes ++ [nv]).length = rn.x.takes.length + 1 by simp] at hO1 hat4 ⊢
      have hgA : w3.grownBy w4 vt.ownBlock := ⟨hg4.os, hg4.tape, hg4.output, by have := hg4.size; omega, fun k hk hx => hg4.block k hk hx⟩
      have HR4 := Lib.hid (HR3.out.addTakes hgA hat4 hO1)
      have hRne : some (w.heap.size + 1) ≠ vt.ownBlock := Kd.R_ne HR3.out.rows.tak HR3.out.box RdG.ne3.2.2.symm
      have hRl := lt_of_heap HR3.out.box
      have d0 : w4.cell? ⟨w.heap.size + 1, 2, none⟩ = some vt := (World.cell?_of_block (a := ⟨w.heap.size + 1, 2, none⟩) (hgA.block _ hRl hRne)).trans r2
      have f0 : w4.frozen? ⟨w.heap.size + 1, 2, none⟩ = false := (World.frozen?_of_block (a := ⟨w.heap.size + 1, 2, none⟩) (hgA.block _ hRl hRne)).trans (HR3.out.f 2)
      have HW4 := Lib.hid (show Below (w.heap.size + 1) W0 (w4.setCell ⟨w.heap.size + 1, 2, none⟩ (.slice A1 (rn.x.takes.length + 1) c1)) from hB4.setCell (p := ⟨w.heap.size + 1, 2, none⟩) (Nat.le_refl _) _)
      obtain ⟨z0, z1, z2, z3, z4, z5, z6⟩ := cells7 ((HW4.out.block w.heap.size (by omega)).trans G0.out)
      have zf := froz ((HW4.out.block w.heap.size (by omega)).trans G0.out)
      clear hO1 hB4 hg4 hat4 hgA hRne hRl r2 hO hfr hpl hk0
      by_cases hle : nv ≤ 1073741824
      · cases ok with
        | true =>
          have HL := Lib.hid (show lineS rn.x rn.q (keyS line) (wordS line) (twoS line) = (0, { rn.x with takes := rn.x.takes ++ [nv] }, rn.q) by rw [Hq.out, H2.out, HL0.out, if_pos ⟨by rw [HI.out]; exact decide_eq_true ⟨(of_decide_eq_true Hok.out).1, hle, (of_decide_eq_true Hok.out).2⟩, by simp, by simp⟩])
          go_wp2_with fail
          apply HNx.out
          obtain ⟨pre', hA'⟩ := Hnext.out _ _ HL.out
          refine ⟨⟨pre', rest.extract (k + 1) rest.size, ⟨0, { rn.x with takes := rn.x.takes ++ [nv] }, rn.q, rn.n + 1⟩, _, _, _, rfl, rfl, by go_num, by omega, Lib.hid hA', Lib.hid HR4.out, Lib.hid HW4.out⟩, ?_⟩
          show (rest.extract (k + 1) rest.size).size < rest.size
          omega
        | false =>
          have HL := Lib.hid (show (lineS rn.x rn.q (keyS line) (wordS line) (twoS line)).1 = 2 by rw [Hq.out, H2.out, HL0.out, if_neg (fun h => by have h1 := h.1; rw [HI.out] at h1; exact of_decide_eq_false Hok.out ⟨(of_decide_eq_true h1).1, (of_decide_eq_true h1).2.2⟩)])
          go_wp2_with fail
          all_goals (refine HRt.out _ _ ?_; exact exit_err HB0.out HW4.out (by omega) G0.out rfl rfl (Hbad.out 2 HL.out (by decide)))
      · have HL := Lib.hid (show (lineS rn.x rn.q (keyS line) (wordS line) (twoS line)).1 = 2 by rw [Hq.out, H2.out, HL0.out, if_neg (fun h => by have h1 := h.1; rw [HI.out] at h1; exact hle (of_decide_eq_true h1).2.1)])
        have hlt : 1073741824 < nv := by omega
        have hle2 : decide (nv ≤ 1073741824) = false := decide_eq_false hle
        clear hle
        cases ok
        all_goals
          go_wp2_with fail
          (refine HRt.out _ _ ?_; exact exit_err HB0.out HW4.out (by omega) G0.out rfl rfl (Hbad.out 2 HL.out (by decide)))
    · have q1 : (rn.q == 1) = false := by rw [beq_eq_false_iff_ne]; exact hqq
      have HL := Lib.hid (show (lineS rn.x rn.q (keyS line) (wordS line) (twoS line)).1 = 2 from by rw [lineS_take Hkd.out, if_neg (fun h => hqq h.2.1)])
      clear hqq
      go_wp2_with fail
      all_goals (refine HRt.out _ _ ?_; exact exit_err HB0.out HW2.out (by omega) G0.out rfl rfl (Hbad.out 2 HL.out (by decide)))
  · have hnn : ((n : Int) != 2) = true := by rw [bne_iff_ne]; omega
    have H2 := Lib.hid (show twoS line = false by unfold twoS; rw [Hn.out]; exact decide_eq_false hn2)
    clear hn2 hk1
    go_wp2_with fail
    all_goals (refine HRt.out _ _ ?_; exact exit_err HB0.out HW2.out (by omega) G0.out rfl rfl (Hbad.out 2 (lineS_known1 (by rw [H2.out]) (.inr (.inr (.inl Hkd.out)))) (by decide)))

end Go.Proofs.YtplcfijcmihhlaaDoor
