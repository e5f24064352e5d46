/-
  Layer 28: the reference's Get, cut: the joining.
-/
import Derived.Test.YtplcfijcmihhlaaDoorRGetM
import Derived.Test.YtplcfijcmihhlaaDoorRGetTake
import Derived.Test.YtplcfijcmihhlaaDoorRGetPick
namespace Go.Proofs.YtplcfijcmihhlaaDoor
open Go.RowKit Go.Proofs.YtplcfijcmihhlaaDoorW.PrintWords Go.Proofs.YtplcfijcmihhlaaDoorW.PrintLast
set_option linter.unusedVariables false
set_option linter.unusedSimpArgs false
attribute [local go_sem] Oper.semAt_some
set_option maxHeartbeats 40000000 in
set_option maxRecDepth 100000 in
theorem RGet_any (t : ByteArray) (ht : t.size ≤ 1500) (w : World) : Calls Tryd.prog 33 #[.string t] w (RGetP t w) := by
  obtain ⟨W0, eW0, g0, s0, hB0, hz0⟩ : ∃ W0, (w.alloc (.cells #[.slice none 0 0, .int .i64 0, .slice none 0 0, .int .i64 0, .slice none 0 0, .int .i64 0, .int .i64 0] 68)).alloc (.cells #[.slice none 0 0, .int .i64 0, .slice none 0 0, .int .i64 0, .slice none 0 0] 49) = W0 ∧
      W0.heap[w.heap.size]? = some (.cells #[.slice none 0 0, .int .i64 0, .slice none 0 0, .int .i64 0, .slice none 0 0, .int .i64 0, .int .i64 0] 68 (0, 0)) ∧ W0.heap[w.heap.size + 1]? = some (.cells #[.slice none 0 0, .int .i64 0, .slice none 0 0, .int .i64 0, .slice none 0 0] 49 (0, 0)) ∧ Below w.heap.size w W0 ∧ W0.heap.size = w.heap.size + 2 :=
    ⟨_, rfl, by rw [Below.heap_alloc _ _ _ (by simp), World.alloc_heap_new], heap_alloc2_newL _ _ _, ((Below.refl _ w).alloc (Nat.le_refl _) _).alloc (by simp) _, by simp⟩
  have G0 := Lib.hid g0
  have HB0 := Lib.hid hB0
  have HRd := Lib.hid (show RdG W0 (w.heap.size + 1) (w.heap.size + 1) (.slice none 0 0) (.slice none 0 0) (.slice none 0 0) zeroS from ⟨s0, ⟨Kd.R_nil _ _ _ _ _, Kd.R_nil _ _ _ _ _, Kd.R_nil _ _ _ _ _⟩⟩)
  have HA := Lib.hid (show AtS t [] t ⟨0, zeroS, 0, 0⟩ from ⟨rfl, rfl, rfl⟩)
  clear g0 s0 hB0
  go_enter Tryd.func33, Tryd.ntmps33
  go_wp2_with fail
  go_loopw [0, 4, 5] (fun r p l wr => ∃ (pre : List ByteArray) (rest : ByteArray) (rn : RunS) (vp vt vk : Value), r = .string rest ∧ p = .int .i64 rn.q ∧ l = .int .i64 (rn.n + 1) ∧ rest.size ≤ t.size ∧ Hid (AtS t pre rest rn) ∧ Hid (RdG wr (w.heap.size + 1) (w.heap.size + 1) vp vt vk rn.x) ∧ Hid (Below (w.heap.size + 1) W0 wr)) (fun r _ _ _ => strSz r)
  case atStart => exact ⟨[], t, ⟨0, zeroS, 0, 0⟩, _, _, _, rfl, rfl, rfl, Nat.le_refl _, HA, HRd, Lib.hid (Below.refl _ _)⟩
  case round =>
    obtain ⟨pre, rest, rn, vp, vt, vk, rfl, rfl, rfl, hrs, hA, hR, hW⟩ := hrel
    have hn := hA.out.n_le
    have hq := hA.out.q_bd
    have hGr := Lib.hid ((hW.out.block w.heap.size (by omega)).trans G0.out)
    obtain ⟨z0, z1, z2, z3, z4, z5, z6⟩ := cells7 hGr.out
    have zf := froz hGr.out
    by_cases h0 : rest.size = 0
    · have hd := hA.out.done h0
      have hr0 : (rest.size : Int) = 0 := by omega
      have Hd := Lib.hid hd
      have H0 := Lib.hid h0
      clear hd h0
      have y0 := hR.out.c0
      have y1 := hR.out.c1
      have y2 := hR.out.c2
      have y3 := hR.out.c3
      have y4 := hR.out.c4
      by_cases hq2 : rn.q < 2
      · go_wp2_with fail
        exact exit_err HB0.out hW.out (by omega) G0.out rfl rfl (by rw [Hd.out, if_pos hq2])
      · obtain ⟨A1, c1, rfl⟩ := Kd.R_slice hR.out.rows.pie
        obtain ⟨A2, c2, rfl⟩ := Kd.R_slice hR.out.rows.tak
        obtain ⟨A3, c3, rfl⟩ := Kd.R_slice hR.out.rows.pic
        go_wp2_with fail
        exact exit_ok HB0.out hW.out (by omega) G0.out rfl rfl (by rw [Hd.out, if_neg (by omega)]) hR.out
    · have hr0 : (0 : Int) < (rest.size : Int) := by omega
      have H0 := Lib.hid h0
      clear h0
      go_wp2_with fail
      go_loopw [6] (fun n wx => ∃ k : Nat, k ≤ rest.size ∧ n = .int .i64 (k : Nat) ∧ Hid (∀ j, j < k → rest.data.toList[j]? ≠ some 10) ∧ Hid (wx = wr)) (fun n _ => rest.size - (intOf n).toNat)
      case atStart => exact ⟨0, Nat.zero_le _, rfl, Lib.hid (fun j hj => by omega), Lib.hid rfl⟩
      case round =>
        rename_i wx _
        obtain ⟨k, hk, rfl, hno, hwx⟩ := hrel
        have hwx' := hwx.out
        subst hwx'
        clear hwx
        by_cases hlk : k < rest.size
        · have hlk2 : k < rest.data.toList.length := by rw [dl_len]; exact hlk
          have p1 : (0 : Int) ≤ (k : Int) := Int.natCast_nonneg k
          have p2 : (k : Int) < (rest.size : Int) := by omega
          have hg : rest.data.toList[k]? = some rest.data.toList[k] := List.getElem?_eq_getElem hlk2
          by_cases hc : rest.data.toList[k] = 10
          · have hm1 : (((rest[k]'hlk).toNat : Int) != 10) = false := by
              have : rest[k]'hlk = 10 := hc
              rw [this]; rfl
            have Hg := Lib.hid (hg.trans (congrArg some hc))
            clear hg hc
            obtain ⟨line, eline⟩ : ∃ line, rest.extract 0 k = line := ⟨_, rfl⟩
            have Hls := Lib.hid (show line.size ≤ 1500 by rw [← eline, ByteArray.size_extract]; omega)
            have Hline := Lib.hid eline
            have hSp := fun W => Lib.hid (PGet.catchpitref27_Split.calls _ line _ W (refSplit line (by have := Hls.out; omega)))
            clear eline
            go_wp2_with fail
            rw [Hline.out]
            refine (hSp _).out.mono ?_; rintro e w2 ⟨v, rfl, hv, hb2⟩; dsimp only
            have hwl := wordsS_len line
            obtain ⟨ad, cw, rfl⟩ := Kd.R_slice1 hv (by omega)
            obtain ⟨g, rfl⟩ := Kd.R_head hv
            obtain ⟨-, -, hC⟩ := Kd.R_reads' hv
            obtain ⟨_, eg0, hk0⟩ := Kd.at_string hC 0 (by omega) (by omega)
            cases eg0
            have hk1 : (wordsS line).length = 2 → w2.cell? ⟨g, 1, none⟩ = some (.string (wordS line)) := by
              intro h2
              obtain ⟨_, eg1, h1⟩ := Kd.at_string hC 1 (by omega) (by omega)
              cases eg1
              rw [WideShapes.add_plain] at h1
              unfold wordS
              rw [if_pos h2]
              simpa [rdOf, List.getD_eq_getElem?_getD] using h1
            rw [WideShapes.add_plain] at hk0
            have HW2 := Lib.hid (hW.out.trans (hb2.mono (by have := hW.out.size; omega)))
            have HW2s := Lib.hid (show w.heap.size + 1 ≤ w2.heap.size by have := HW2.out.size; omega)
            have HR2 := Lib.hid (hR.out.below hb2)
            have hGr2 := Lib.hid ((hb2.block w.heap.size (lt_of_heap hGr.out)).trans hGr.out)
            obtain ⟨inner, hown⟩ := Kd.R_own hv
            obtain ⟨gcs, hgb⟩ := own_typed hown g rfl
            have Hgb := Lib.hid hgb
            obtain ⟨n, hn⟩ : ∃ n, (wordsS line).length = n := ⟨_, rfl⟩
            have Hn := Lib.hid hn
            rw [hn] at hk1 hwl
            have hkey : rdOf ByteArray.empty (wordsS line) 0 = keyS line := by
              unfold keyS
              simp [rdOf, List.getD_eq_getElem?_getD]
            rw [hkey] at hk0
            rw [show (0 : Nat) + Int.toNat 0 = 0 from rfl] at hk0
            have Hws := Lib.hid (show (wordS line).size ≤ 1500 from Nat.le_trans (wordS_size line) Hls.out)
            have Hlen := Lib.hid (show ScrLen rn.x 1500 by have h := hA.out.len; exact ⟨Nat.le_trans h.1 ht, Nat.le_trans h.2.1 ht, Nat.le_trans h.2.2 (by omega)⟩)
            have Hbad := Lib.hid (fun (e : Int) (he : (lineS rn.x rn.q (keyS line) (wordS line) (twoS line)).1 = e) (hne : e ≠ 0) => hA.out.bad hlk hno.out Hg.out (by rw [Hline.out]; exact he) hne)
            have Hnext := Lib.hid (fun (x' : Scr) (q' : Int) (he : lineS rn.x rn.q (keyS line) (wordS line) (twoS line) = (0, x', q')) => hA.out.next hlk hno.out Hg.out (by rw [Hline.out]; exact he))
            have hms : (rest.extract (k + 1) rest.size).size < rest.size := by rw [ByteArray.size_extract]; omega
            rw [hn]
            clear z0 z1 z2 z3 z4 z5 z6 zf hb2 hv hC hkey hown hgb hn
            obtain ⟨z0, z1, z2, z3, z4, z5, z6⟩ := cells7 hGr2.out
            have zf := froz hGr2.out
            have hn1 : 1 ≤ n := by omega
            clear hwl
            clear z0 z1 z2 z3 z4 z5 z6 zf
            go_step
            go_step
            go_step
            go_step
            go_step
            go_step
            go_step
            have HRt := Lib.hid (fun (a' : Act) (w' : World) (h : bodyPost Tryd.prog Tryd.f33 (RGetP t w) Exit.ret a' w') => h)
            by_cases hkUp : (keyS line).data.toList = kUp
            · refine RGet_lineUp ht hz0 G0 HB0 hrs hn hq hr0 hlk p1 p2 Hls HW2 HW2s HR2 hGr2 Hgb hk0 hk1 Hn hn1 Hws Hlen Hbad Hnext hms ?_ ?_ hkUp
              · exact Lib.hid (fun a' w' h => by exact h)
              · refine Lib.hid (fun r p l u6 u7 u8 u9 u10 u11 u12 u13 u14 u15 u16 u17 u18 u19 u20 u21 u22 u23 u24 u25 u26 u27 u28 u29 u30 u31 u32 u33 u34 u35 u36 u37 u38 u39 u40 u41 u42 u43 u44 u45 u46 u47 u48 u49 u50 u51 u52 u53 u54 u55 u56 u57 u58 u59 u60 u61 u62 u63 u64 u65 u66 u67 u68 u69 u70 u71 u72 u73 u74 u75 u76 u77 u78 u79 u80 u81 u82 u83 u84 u85 u86 u87 u88 u89 u90 u91 u92 u93 u94 u95 u96 u97 u98 u99 u100 u101 u102 u103 u104 u105 u106 u107 u108 u109 u110 u111 u112 u113 u114 u115 u116 u117 u118 u119 u120 u121 u122 u123 u124 u125 u126 u127 u128 u129 u130 u131 u132 u133 u134 u135 u136 u137 u138 u139 u140 u141 u142 u143 u144 u145 u146 u147 u148 u149 u150 u151 u152 u153 u154 u155 u156 u157 u158 u159 u160 u161 u162 u163 u164 u165 u166 u167 u168 u169 u170 u171 u172 u173 u174 u175 u176 u177 u178 u179 u180 u181 u182 u183 u184 u185 u186 u187 u188 u189 u190 u191 u192 u193 u194 u195 u196 u197 u198 u199 u200 u201 u202 u203 u204 u205 u206 u207 u208 u209 u210 u211 u212 u213 u214 u215 u216 u217 u218 u219 u220 u221 u222 u223 w' h => ?_)
                dsimp only
                go_wp2_with fail
                go_roundw
                case rel => exact h.1
                case measure => exact h.2
            by_cases hkEnd : (keyS line).data.toList = kEnd
            · refine RGet_lineEnd ht hz0 G0 HB0 hrs hn hq hr0 hlk p1 p2 Hls HW2 HW2s HR2 hGr2 Hgb hk0 hk1 Hn hn1 Hws Hlen Hbad Hnext hms ?_ ?_ hkEnd
              · exact Lib.hid (fun a' w' h => by exact h)
              · refine Lib.hid (fun r p l u6 u7 u8 u9 u10 u11 u12 u13 u14 u15 u16 u17 u18 u19 u20 u21 u22 u23 u24 u25 u26 u27 u28 u29 u30 u31 u32 u33 u34 u35 u36 u37 u38 u39 u40 u41 u42 u43 u44 u45 u46 u47 u48 u49 u50 u51 u52 u53 u54 u55 u56 u57 u58 u59 u60 u61 u62 u63 u64 u65 u66 u67 u68 u69 u70 u71 u72 u73 u74 u75 u76 u77 u78 u79 u80 u81 u82 u83 u84 u85 u86 u87 u88 u89 u90 u91 u92 u93 u94 u95 u96 u97 u98 u99 u100 u101 u102 u103 u104 u105 u106 u107 u108 u109 u110 u111 u112 u113 u114 u115 u116 u117 u118 u119 u120 u121 u122 u123 u124 u125 u126 u127 u128 u129 u130 u131 u132 u133 u134 u135 u136 u137 u138 u139 u140 u141 u142 u143 u144 u145 u146 u147 u148 u149 u150 u151 u152 u153 u154 u155 u156 u157 u158 u159 u160 u161 u162 u163 u164 u165 u166 u167 u168 u169 u170 u171 u172 u173 u174 u175 u176 u177 u178 u179 u180 u181 u182 u183 u184 u185 u186 u187 u188 u189 u190 u191 u192 u193 u194 u195 u196 u197 u198 u199 u200 u201 u202 u203 u204 u205 u206 u207 u208 u209 u210 u211 u212 u213 u214 u215 u216 u217 u218 u219 u220 u221 u222 u223 w' h => ?_)
                dsimp only
                go_wp2_with fail
                go_roundw
                case rel => exact h.1
                case measure => exact h.2
            by_cases hkTake : (keyS line).data.toList = kTake
            · refine RGet_lineTake ht hz0 G0 HB0 hrs hn hq hr0 hlk p1 p2 Hls HW2 HW2s HR2 hGr2 Hgb hk0 hk1 Hn hn1 Hws Hlen Hbad Hnext hms ?_ ?_ hkTake
              · exact Lib.hid (fun a' w' h => by exact h)
              · refine Lib.hid (fun r p l u6 u7 u8 u9 u10 u11 u12 u13 u14 u15 u16 u17 u18 u19 u20 u21 u22 u23 u24 u25 u26 u27 u28 u29 u30 u31 u32 u33 u34 u35 u36 u37 u38 u39 u40 u41 u42 u43 u44 u45 u46 u47 u48 u49 u50 u51 u52 u53 u54 u55 u56 u57 u58 u59 u60 u61 u62 u63 u64 u65 u66 u67 u68 u69 u70 u71 u72 u73 u74 u75 u76 u77 u78 u79 u80 u81 u82 u83 u84 u85 u86 u87 u88 u89 u90 u91 u92 u93 u94 u95 u96 u97 u98 u99 u100 u101 u102 u103 u104 u105 u106 u107 u108 u109 u110 u111 u112 u113 u114 u115 u116 u117 u118 u119 u120 u121 u122 u123 u124 u125 u126 u127 u128 u129 u130 u131 u132 u133 u134 u135 u136 u137 u138 u139 u140 u141 u142 u143 u144 u145 u146 u147 u148 u149 u150 u151 u152 u153 u154 u155 u156 u157 u158 u159 u160 u161 u162 u163 u164 u165 u166 u167 u168 u169 u170 u171 u172 u173 u174 u175 u176 u177 u178 u179 u180 u181 u182 u183 u184 u185 u186 u187 u188 u189 u190 u191 u192 u193 u194 u195 u196 u197 u198 u199 u200 u201 u202 u203 u204 u205 u206 u207 u208 u209 u210 u211 u212 u213 u214 u215 u216 u217 u218 u219 u220 u221 u222 u223 w' h => ?_)
                dsimp only
                go_wp2_with fail
                go_roundw
                case rel => exact h.1
                case measure => exact h.2
            by_cases hkStop : (keyS line).data.toList = kStop
            · refine RGet_lineStop ht hz0 G0 HB0 hrs hn hq hr0 hlk p1 p2 Hls HW2 HW2s HR2 hGr2 Hgb hk0 hk1 Hn hn1 Hws Hlen Hbad Hnext hms ?_ ?_ hkStop
              · exact Lib.hid (fun a' w' h => by exact h)
              · refine Lib.hid (fun r p l u6 u7 u8 u9 u10 u11 u12 u13 u14 u15 u16 u17 u18 u19 u20 u21 u22 u23 u24 u25 u26 u27 u28 u29 u30 u31 u32 u33 u34 u35 u36 u37 u38 u39 u40 u41 u42 u43 u44 u45 u46 u47 u48 u49 u50 u51 u52 u53 u54 u55 u56 u57 u58 u59 u60 u61 u62 u63 u64 u65 u66 u67 u68 u69 u70 u71 u72 u73 u74 u75 u76 u77 u78 u79 u80 u81 u82 u83 u84 u85 u86 u87 u88 u89 u90 u91 u92 u93 u94 u95 u96 u97 u98 u99 u100 u101 u102 u103 u104 u105 u106 u107 u108 u109 u110 u111 u112 u113 u114 u115 u116 u117 u118 u119 u120 u121 u122 u123 u124 u125 u126 u127 u128 u129 u130 u131 u132 u133 u134 u135 u136 u137 u138 u139 u140 u141 u142 u143 u144 u145 u146 u147 u148 u149 u150 u151 u152 u153 u154 u155 u156 u157 u158 u159 u160 u161 u162 u163 u164 u165 u166 u167 u168 u169 u170 u171 u172 u173 u174 u175 u176 u177 u178 u179 u180 u181 u182 u183 u184 u185 u186 u187 u188 u189 u190 u191 u192 u193 u194 u195 u196 u197 u198 u199 u200 u201 u202 u203 u204 u205 u206 u207 u208 u209 u210 u211 u212 u213 u214 u215 u216 u217 u218 u219 u220 u221 u222 u223 w' h => ?_)
                dsimp only
                go_wp2_with fail
                go_roundw
                case rel => exact h.1
                case measure => exact h.2
            by_cases hkPick : (keyS line).data.toList = kPick
            · refine RGet_linePick ht hz0 G0 HB0 hrs hn hq hr0 hlk p1 p2 Hls HW2 HW2s HR2 hGr2 Hgb hk0 hk1 Hn hn1 Hws Hlen Hbad Hnext hms ?_ ?_ hkPick
              · exact Lib.hid (fun a' w' h => by exact h)
              · refine Lib.hid (fun r p l u6 u7 u8 u9 u10 u11 u12 u13 u14 u15 u16 u17 u18 u19 u20 u21 u22 u23 u24 u25 u26 u27 u28 u29 u30 u31 u32 u33 u34 u35 u36 u37 u38 u39 u40 u41 u42 u43 u44 u45 u46 u47 u48 u49 u50 u51 u52 u53 u54 u55 u56 u57 u58 u59 u60 u61 u62 u63 u64 u65 u66 u67 u68 u69 u70 u71 u72 u73 u74 u75 u76 u77 u78 u79 u80 u81 u82 u83 u84 u85 u86 u87 u88 u89 u90 u91 u92 u93 u94 u95 u96 u97 u98 u99 u100 u101 u102 u103 u104 u105 u106 u107 u108 u109 u110 u111 u112 u113 u114 u115 u116 u117 u118 u119 u120 u121 u122 u123 u124 u125 u126 u127 u128 u129 u130 u131 u132 u133 u134 u135 u136 u137 u138 u139 u140 u141 u142 u143 u144 u145 u146 u147 u148 u149 u150 u151 u152 u153 u154 u155 u156 u157 u158 u159 u160 u161 u162 u163 u164 u165 u166 u167 u168 u169 u170 u171 u172 u173 u174 u175 u176 u177 u178 u179 u180 u181 u182 u183 u184 u185 u186 u187 u188 u189 u190 u191 u192 u193 u194 u195 u196 u197 u198 u199 u200 u201 u202 u203 u204 u205 u206 u207 u208 u209 u210 u211 u212 u213 u214 u215 u216 u217 u218 u219 u220 u221 u222 u223 w' h => ?_)
                dsimp only
                go_wp2_with fail
                go_roundw
                case rel => exact h.1
                case measure => exact h.2
            refine RGet_lineNone ht hz0 G0 HB0 hrs hn hq hr0 hlk p1 p2 Hls HW2 HW2s HR2 hGr2 Hgb hk0 hk1 Hn hn1 Hws Hlen Hbad Hnext hms ?_ ?_ hkUp hkEnd hkTake hkStop hkPick
            · exact Lib.hid (fun a' w' h => by exact h)
            · refine Lib.hid (fun r p l u6 u7 u8 u9 u10 u11 u12 u13 u14 u15 u16 u17 u18 u19 u20 u21 u22 u23 u24 u25 u26 u27 u28 u29 u30 u31 u32 u33 u34 u35 u36 u37 u38 u39 u40 u41 u42 u43 u44 u45 u46 u47 u48 u49 u50 u51 u52 u53 u54 u55 u56 u57 u58 u59 u60 u61 u62 u63 u64 u65 u66 u67 u68 u69 u70 u71 u72 u73 u74 u75 u76 u77 u78 u79 u80 u81 u82 u83 u84 u85 u86 u87 u88 u89 u90 u91 u92 u93 u94 u95 u96 u97 u98 u99 u100 u101 u102 u103 u104 u105 u106 u107 u108 u109 u110 u111 u112 u113 u114 u115 u116 u117 u118 u119 u120 u121 u122 u123 u124 u125 u126 u127 u128 u129 u130 u131 u132 u133 u134 u135 u136 u137 u138 u139 u140 u141 u142 u143 u144 u145 u146 u147 u148 u149 u150 u151 u152 u153 u154 u155 u156 u157 u158 u159 u160 u161 u162 u163 u164 u165 u166 u167 u168 u169 u170 u171 u172 u173 u174 u175 u176 u177 u178 u179 u180 u181 u182 u183 u184 u185 u186 u187 u188 u189 u190 u191 u192 u193 u194 u195 u196 u197 u198 u199 u200 u201 u202 u203 u204 u205 u206 u207 u208 u209 u210 u211 u212 u213 u214 u215 u216 u217 u218 u219 u220 u221 u222 u223 w' h => ?_)
              dsimp only
              go_wp2_with fail
              go_roundw
              case rel => exact h.1
              case measure => exact h.2
          · have hm1 : (((rest[k]'hlk).toNat : Int) != 10) = true := by
              have : ¬ rest[k]'hlk = 10 := hc
              rw [bne_iff_ne]
              intro e
              exact this (UInt8.toNat_inj.1 (by show _ = 10; omega))
            have Hno := Lib.hid (show ∀ j, j < k + 1 → rest.data.toList[j]? ≠ some 10 from fun j hj => by
              by_cases e : j = k
              · rw [e, hg]; intro e2; exact hc (Option.some.inj e2)
              · exact hno.out j (by omega))
            clear hg hc
            go_wp2_with fail
            go_roundw
            case rel => exact ⟨k + 1, by omega, by go_num, Hno, by first | exact Lib.hid rfl | exact Lib.hid trivial⟩
            case measure => simp [intOf]; omega
        · have hk' : k = rest.size := by omega
          subst hk'
          have hl := Lib.hid (hA.out.last H0.out hno.out)
          clear hno
          go_wp2_with fail
          exact exit_err HB0.out hW.out (by omega) G0.out rfl rfl hl.out

end Go.Proofs.YtplcfijcmihhlaaDoor
