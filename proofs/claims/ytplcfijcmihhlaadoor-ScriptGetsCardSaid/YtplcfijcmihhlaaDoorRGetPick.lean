/-
  Layer 28: the reference's Get, cut: the key Pick.
-/
import Derived.Test.YtplcfijcmihhlaaDoorRGetA2
namespace Go.Proofs.YtplcfijcmihhlaaDoor
open Go.RowKit Go.Proofs.YtplcfijcmihhlaaDoorW.PrintWords Go.Proofs.YtplcfijcmihhlaaDoorW.PrintLast
set_option linter.unusedVariables false
set_option linter.unusedSimpArgs false
attribute [local go_sem] Oper.semAt_some
set_option maxHeartbeats 40000000 in
set_option maxRecDepth 1000000 in
theorem RGet_linePick {t rest line : ByteArray} {w W0 w2 : World} {rn : RunS} {vp vt vk : Value} {k n g cw : Nat} {gcs : Array Value} {Q : Exit → Act → World → Prop} {u8 u9 u10 u11 u12 u13 u14 u15 u16 u17 u18 u19 u20 u21 u22 u23 u24 u25 u26 u27 u28 u29 u30 u31 u32 u33 u34 u35 u36 u37 u38 u39 u40 u41 u42 u43 u44 u45 u46 u47 u48 u49 u50 u51 u52 u53 u54 u55 u56 u57 u58 u59 u60 u61 u62 u63 u64 u65 u66 u67 u68 u69 u70 u71 u72 u73 u74 u75 u76 u77 u78 u79 u80 u81 u82 u83 u84 u85 u86 u87 u88 u89 u90 u91 u92 u93 u94 u95 u96 u97 u98 u99 u100 u101 u102 u103 u104 u105 u106 u107 u108 u109 u110 u111 u112 u113 u114 u115 u116 u117 u118 u119 u120 u121 u122 u123 u124 u125 u126 u127 u128 u129 u130 u131 u132 u133 u134 u135 u136 u137 u138 u139 u140 u141 u142 u143 u144 u145 u146 u147 u148 u149 u150 u151 u152 u153 u154 u155 u156 u157 u158 u159 u160 u161 u162 u163 u164 u165 u166 u167 u168 u169 u170 u171 u172 u173 u174 u175 u176 u177 u178 u179 u180 u181 u182 u183 u184 u185 u186 u187 u188 u189 u190 u191 u192 u193 u194 u195 u196 u197 u198 u199 u200 u201 u202 u203 u204 u205 u206 u207 u208 u209 u210 u211 u212 u213 u214 u215 u216 u217 u218 u219 u220 u221 u222 u223 : Value} (ht : t.size ≤ 1500) (hz0 : W0.heap.size = w.heap.size + 2)
    (G0 : Hid (W0.heap[w.heap.size]? = some (.cells #[.slice none 0 0, .int .i64 0, .slice none 0 0, .int .i64 0, .slice none 0 0, .int .i64 0, .int .i64 0] 68 (0, 0)))) (HB0 : Hid (Below w.heap.size w W0))
    (hrs : rest.size ≤ t.size) (hn : 0 ≤ rn.n ∧ rn.n ≤ t.size) (hq : 0 ≤ rn.q ∧ rn.q ≤ 3) (hr0 : (0 : Int) < (rest.size : Int)) (hlk : k < rest.size)
    (p1 : (0 : Int) ≤ (k : Int)) (p2 : (k : Int) < (rest.size : Int)) (Hls : Hid (line.size ≤ 1500))
    (HW2 : Hid (Below (w.heap.size + 1) W0 w2)) (HW2s : Hid (w.heap.size + 1 ≤ w2.heap.size)) (HR2 : Hid (RdG w2 (w.heap.size + 1) (w.heap.size + 1) vp vt vk rn.x))
    (hGr2 : Hid (w2.heap[w.heap.size]? = some (.cells #[.slice none 0 0, .int .i64 0, .slice none 0 0, .int .i64 0, .slice none 0 0, .int .i64 0, .int .i64 0] 68 (0, 0)))) (Hgb : Hid (w2.heap[g]? = some (.cells gcs 9 (0, 0))))
    (hk0 : w2.cell? ⟨g, 0, none⟩ = some (.string (keyS line))) (hk1 : n = 2 → w2.cell? ⟨g, 1, none⟩ = some (.string (wordS line))) (Hn : Hid ((wordsS line).length = n)) (hn1 : 1 ≤ n)
    (Hws : Hid ((wordS line).size ≤ 1500)) (Hlen : Hid (ScrLen rn.x 1500))
    (Hbad : Hid (∀ (e : Int), (lineS rn.x rn.q (keyS line) (wordS line) (twoS line)).1 = e → e ≠ 0 → getS t = (zeroS, rn.n + 1, e)))
    (Hnext : Hid (∀ (x' : Scr) (q' : Int), lineS rn.x rn.q (keyS line) (wordS line) (twoS line) = (0, x', q') → ∃ pre', AtS t pre' (rest.extract (k + 1) rest.size) ⟨0, x', q', rn.n + 1⟩))
    (hms : (rest.extract (k + 1) rest.size).size < rest.size)
    (HRt : Hid (∀ a' w', bodyPost Tryd.prog Tryd.f33 (RGetP t w) Exit.ret a' w' → Q Exit.ret a' w'))
    (HNx : Hid (NextG t w W0 rest Q)) (hkPick : (keyS line).data.toList = kPick) :
    Code.wp Tryd.prog tail11 Q ⟨#[.string rest, undef, .pointer (some ⟨w.heap.size, 0, none⟩), .pointer (some ⟨w.heap.size + 1, 0, none⟩), .int .i64 rn.q, .int .i64 (rn.n + 1), .int .i64 (k : Nat), .slice (some ⟨g, 0, none⟩) n cw, u8, u9, u10, u11, u12, u13, u14, u15, u16, u17, u18, u19, u20, u21, u22, u23, u24, u25, u26, u27, u28, u29, u30, u31, u32, u33, u34, u35, u36, u37, u38, u39, u40, u41, u42, u43, u44, u45, u46, u47, u48, u49, u50, u51, u52, u53, u54, u55, u56, u57, u58, u59, u60, u61, u62, u63, u64, u65, u66, u67, u68, u69, u70, u71, u72, u73, u74, u75, u76, u77, u78, u79, u80, u81, u82, u83, u84, u85, u86, u87, u88, u89, u90, u91, u92, u93, u94, u95, u96, u97, u98, u99, u100, u101, u102, u103, u104, u105, u106, u107, u108, u109, u110, u111, u112, u113, u114, u115, u116, u117, u118, u119, u120, u121, u122, u123, u124, u125, u126, u127, u128, u129, u130, u131, u132, u133, u134, u135, u136, u137, u138, u139, u140, u141, u142, u143, u144, u145, u146, u147, u148, u149, u150, u151, u152, u153, u154, u155, u156, u157, u158, u159, u160, u161, u162, u163, u164, u165, u166, u167, u168, u169, u170, u171, u172, u173, u174, u175, u176, u177, u178, u179, u180, u181, u182, u183, u184, u185, u186, u187, u188, u189, u190, u191, u192, u193, u194, u195, u196, u197, u198, u199, u200, u201, u202, u203, u204, u205, u206, u207, u208, u209, u210, u211, u212, u213, u214, u215, u216, u217, u218, u219, u220, u221, u222, u223, undef, undef, undef, undef, undef, undef], []⟩ w2 := by
  conv => arg 2; whnf
  obtain ⟨z0, z1, z2, z3, z4, z5, z6⟩ := cells7 hGr2.out
  have zf := froz hGr2.out
  have Hk := Lib.hid (show (keyS line).toList = kPick by rw [Lib.toList_data]; exact hkPick)
  have Hkd := Lib.hid hkPick
  have eUp : ((keyS line).toList == [117, 112]) = false := by rw [Hk.out]; rfl
  have bUp : ((keyS line).toList != [117, 112]) = true := by rw [Hk.out]; rfl
  have eEnd : ((keyS line).toList == [101, 110, 100]) = false := by rw [Hk.out]; rfl
  have bEnd : ((keyS line).toList != [101, 110, 100]) = true := by rw [Hk.out]; rfl
  have eTake : ((keyS line).toList == [116, 97, 107, 101]) = false := by rw [Hk.out]; rfl
  have bTake : ((keyS line).toList != [116, 97, 107, 101]) = true := by rw [Hk.out]; rfl
  have eStop : ((keyS line).toList == [115, 116, 111, 112]) = false := by rw [Hk.out]; rfl
  have bStop : ((keyS line).toList != [115, 116, 111, 112]) = true := by rw [Hk.out]; rfl
  have ePick : ((keyS line).toList == [112, 105, 99, 107]) = true := by rw [Hk.out]; rfl
  have bPick : ((keyS line).toList != [112, 105, 99, 107]) = false := by rw [Hk.out]; rfl
  clear hkPick
  by_cases hn2 : n = 2
  · have hw1 := hk1 hn2
    have H2 := Lib.hid (show twoS line = true by unfold twoS; rw [Hn.out, hn2]; rfl)
    subst hn2
    clear hk1
    by_cases hqq : rn.q = 2
    · have Hq := Lib.hid hqq
      have q0 : (rn.q == 0) = false := by rw [hqq]; rfl
      have q1 : (rn.q == 1) = false := by rw [hqq]; rfl
      have q2 : (rn.q == 2) = true := by rw [hqq]; rfl
      clear hqq
      have hL := lineS_pick (x := rn.x) (q := rn.q) (word := wordS line) (two := twoS line) Hkd.out
      rw [Hq.out, H2.out] at hL
      have HL0 := Lib.hid hL
      have Hw1 := Lib.hid hw1
      have hwsz : (wordS line).size ≤ 1500 := Hws.out
      clear hL
      have hcase : ((wordS line).size : Int) = 0 ∨ (0 : Int) < ((wordS line).size : Int) := by omega
      clear z0 z1 z2 z3 z4 z5 z6 zf
      rcases hcase with s0 | s0
      · skip
        go_wp2_with fail
        go_loopw [8, 13] (fun v8 v13 wx => ∃ (j : Nat) (vk' : Value), j ≤ (wordS line).size ∧ v8 = .bool (false && allPick ((wordS line).data.toList.take j)) ∧ v13 = .int .i64 (j : Nat) ∧ Hid (RdG wx (w.heap.size + 1) (w.heap.size + 1) vp vt vk' { rn.x with picks := rn.x.picks ++ ((wordS line).data.toList.take j).map (pf 3) }) ∧ Hid (Below (w.heap.size + 1) W0 wx) ∧ Hid (wx.heap[g]? = some (.cells gcs 9 (0, 0)))) (fun _ v13 _ => (wordS line).size - (intOf v13).toNat)
        case atStart => exact ⟨0, vk, Nat.zero_le _, by rw [show allPick ((wordS line).data.toList.take 0) = true from rfl, Bool.and_true], rfl, Lib.hid (by simpa using HR2.out), HW2, Hgb⟩
        case round =>
          obtain ⟨j, vk', hj, rfl, rfl, hRj, hWj, hgj⟩ := hrel
          have hw1 := (World.cell?_of_block (a := ⟨g, 1, none⟩) (hgj.out.trans Hgb.out.symm)).trans Hw1.out
          obtain ⟨b8, hb8⟩ : ∃ b8, (false && allPick ((wordS line).data.toList.take j)) = b8 := ⟨_, rfl⟩
          have Hb8 := Lib.hid hb8
          rw [hb8]
          clear hb8
          by_cases hjl : j < (wordS line).size
          · exfalso; omega
          · have hj' : j = (wordS line).size := by omega
            subst hj'
            have hal : (wordS line).data.toList.take (wordS line).size = (wordS line).data.toList := List.take_of_length_le (by rw [dl_len]; omega)
            have hb9 := Hb8.out
            rw [hal] at hRj hb9
            obtain ⟨z0, z1, z2, z3, z4, z5, z6⟩ := cells7 ((hWj.out.block w.heap.size (by omega)).trans G0.out)
            have zf := froz ((hWj.out.block w.heap.size (by omega)).trans G0.out)
            have hbf : b8 = false := by rw [← hb9]; rfl
            subst hbf
            have HL := Lib.hid (show (lineS rn.x rn.q (keyS line) (wordS line) (twoS line)).1 = 2 by rw [Hq.out, H2.out, HL0.out, if_neg (fun h => by have h1 := h.1; unfold isPicks at h1; rw [Bool.and_eq_true] at h1; have h2 := of_decide_eq_true h1.2; omega)])
            clear hb9 hal
            go_wp2_with fail
            all_goals (refine HRt.out _ _ ?_; exact exit_err HB0.out hWj.out (by omega) G0.out rfl rfl (Hbad.out 2 HL.out (by decide)))
      · skip
        go_wp2_with fail
        go_loopw [8, 13] (fun v8 v13 wx => ∃ (j : Nat) (vk' : Value), j ≤ (wordS line).size ∧ v8 = .bool (decide (((wordS line).size : Int) ≤ 60) && allPick ((wordS line).data.toList.take j)) ∧ v13 = .int .i64 (j : Nat) ∧ Hid (RdG wx (w.heap.size + 1) (w.heap.size + 1) vp vt vk' { rn.x with picks := rn.x.picks ++ ((wordS line).data.toList.take j).map (pf 3) }) ∧ Hid (Below (w.heap.size + 1) W0 wx) ∧ Hid (wx.heap[g]? = some (.cells gcs 9 (0, 0)))) (fun _ v13 _ => (wordS line).size - (intOf v13).toNat)
        case atStart => exact ⟨0, vk, Nat.zero_le _, by rw [show allPick ((wordS line).data.toList.take 0) = true from rfl, Bool.and_true], rfl, Lib.hid (by simpa using HR2.out), HW2, Hgb⟩
        case round =>
          obtain ⟨j, vk', hj, rfl, rfl, hRj, hWj, hgj⟩ := hrel
          have hw1 := (World.cell?_of_block (a := ⟨g, 1, none⟩) (hgj.out.trans Hgb.out.symm)).trans Hw1.out
          obtain ⟨b8, hb8⟩ : ∃ b8, (decide (((wordS line).size : Int) ≤ 60) && allPick ((wordS line).data.toList.take j)) = b8 := ⟨_, rfl⟩
          have Hb8 := Lib.hid hb8
          rw [hb8]
          clear hb8
          by_cases hjl : j < (wordS line).size
          · have hjl2 : j < (wordS line).data.toList.length := by rw [dl_len]; exact hjl
            have p1 : (0 : Int) ≤ (j : Int) := Int.natCast_nonneg j
            have p2 : (j : Int) < ((wordS line).size : Int) := by omega
            obtain ⟨c, hc⟩ : ∃ c, (wordS line).data.toList[j] = c := ⟨_, rfl⟩
            have hc1 : (wordS line)[j]'hjl = c := hc
            have hjl3 : j < (wordS line).data.size := hjl
            have hc2 : (wordS line).data[j]'hjl3 = c := hc
            have hsn := Lib.hid (show allPick ((wordS line).data.toList.take (j + 1)) = (allPick ((wordS line).data.toList.take j) && decide (pf 3 c < 3)) by rw [← hc]; exact allPick_snoc _ j hjl2)
            have hpx := Lib.hid (show ((wordS line).data.toList.take (j + 1)).map (pf 3) = ((wordS line).data.toList.take j).map (pf 3) ++ [pf 3 c] by rw [List.take_succ_eq_append_getElem hjl2, List.map_append, hc]; rfl)
            clear hc
            go_wp2_with fail
            go_loopw [14, 15] (fun p jv wy => ∃ (m : Nat), m ≤ 3 ∧ p = .int .i64 (pf m c) ∧ jv = .int .i64 (m : Nat) ∧ Hid (RdG wy (w.heap.size + 1) (w.heap.size + 1) vp vt vk' { rn.x with picks := rn.x.picks ++ ((wordS line).data.toList.take j).map (pf 3) }) ∧ Hid (Below (w.heap.size + 1) W0 wy) ∧ Hid (wy.heap[g]? = some (.cells gcs 9 (0, 0)))) (fun _ jv _ => 3 - (intOf jv).toNat)
            case atStart => exact ⟨0, Nat.zero_le _, rfl, rfl, hRj, hWj, hgj⟩
            case round =>
              obtain ⟨m, hm, rfl, rfl, hRy, hWy, hgy⟩ := hrel
              have hw1 := (World.cell?_of_block (a := ⟨g, 1, none⟩) (hgy.out.trans Hgb.out.symm)).trans Hw1.out
              by_cases hm3 : m < 3
              · have HRy := Lib.hid (hRy.out.below (Below.refl _ _).drew)
                have HWy := Lib.hid hWy.out.drew
                have Hgy := Lib.hid (show (World.drew _).heap[g]? = _ from hgy.out)
                obtain rfl | rfl | rfl : m = 0 ∨ m = 1 ∨ m = 2 := by omega
                · by_cases hcc : c = 114
                  · have hcn : ((c.toNat : Int) == 114) = true := by rw [hcc]; rfl
                    have Hpf := Lib.hid (show pf 1 c = 0 from if_pos hcc)
                    have hcn2 : ((c.toNat : Int) == (((⟨#[114, 119, 116]⟩ : ByteArray)[0]'(by decide)).toNat : Int)) = true := hcn
                    clear hcc
                    go_wp2_with fail
                    go_region
                    go_wp2_with fail
                    go_roundw
                    case rel => exact ⟨1, by omega, (by rw [Hpf.out] <;> rfl), rfl, HRy, HWy, Hgy⟩
                    case measure => simp [intOf]
                  · have hcn : ((c.toNat : Int) == 114) = false := by rw [beq_eq_false_iff_ne]; intro e; exact hcc (UInt8.toNat_inj.1 (by show _ = 114; omega))
                    have Hpf := Lib.hid (show pf 1 c = pf 0 c from if_neg hcc)
                    have hcn2 : ((c.toNat : Int) == (((⟨#[114, 119, 116]⟩ : ByteArray)[0]'(by decide)).toNat : Int)) = false := hcn
                    clear hcc
                    go_wp2_with fail
                    go_region
                    go_wp2_with fail
                    go_roundw
                    case rel => exact ⟨1, by omega, (by rw [Hpf.out] <;> rfl), rfl, HRy, HWy, Hgy⟩
                    case measure => simp [intOf]
                · by_cases hcc : c = 119
                  · have hcn : ((c.toNat : Int) == 119) = true := by rw [hcc]; rfl
                    have Hpf := Lib.hid (show pf 2 c = 1 from if_pos hcc)
                    have hcn2 : ((c.toNat : Int) == (((⟨#[114, 119, 116]⟩ : ByteArray)[1]'(by decide)).toNat : Int)) = true := hcn
                    clear hcc
                    go_wp2_with fail
                    go_region
                    go_wp2_with fail
                    go_roundw
                    case rel => exact ⟨2, by omega, (by rw [Hpf.out] <;> rfl), rfl, HRy, HWy, Hgy⟩
                    case measure => simp [intOf]
                  · have hcn : ((c.toNat : Int) == 119) = false := by rw [beq_eq_false_iff_ne]; intro e; exact hcc (UInt8.toNat_inj.1 (by show _ = 119; omega))
                    have Hpf := Lib.hid (show pf 2 c = pf 1 c from if_neg hcc)
                    have hcn2 : ((c.toNat : Int) == (((⟨#[114, 119, 116]⟩ : ByteArray)[1]'(by decide)).toNat : Int)) = false := hcn
                    clear hcc
                    go_wp2_with fail
                    go_region
                    go_wp2_with fail
                    go_roundw
                    case rel => exact ⟨2, by omega, (by rw [Hpf.out] <;> rfl), rfl, HRy, HWy, Hgy⟩
                    case measure => simp [intOf]
                · by_cases hcc : c = 116
                  · have hcn : ((c.toNat : Int) == 116) = true := by rw [hcc]; rfl
                    have Hpf := Lib.hid (show pf 3 c = 2 from if_pos hcc)
                    have hcn2 : ((c.toNat : Int) == (((⟨#[114, 119, 116]⟩ : ByteArray)[2]'(by decide)).toNat : Int)) = true := hcn
                    clear hcc
                    go_wp2_with fail
                    go_region
                    go_wp2_with fail
                    go_roundw
                    case rel => exact ⟨3, by omega, (by rw [Hpf.out] <;> rfl), rfl, HRy, HWy, Hgy⟩
                    case measure => simp [intOf]
                  · have hcn : ((c.toNat : Int) == 116) = false := by rw [beq_eq_false_iff_ne]; intro e; exact hcc (UInt8.toNat_inj.1 (by show _ = 116; omega))
                    have Hpf := Lib.hid (show pf 3 c = pf 2 c from if_neg hcc)
                    have hcn2 : ((c.toNat : Int) == (((⟨#[114, 119, 116]⟩ : ByteArray)[2]'(by decide)).toNat : Int)) = false := hcn
                    clear hcc
                    go_wp2_with fail
                    go_region
                    go_wp2_with fail
                    go_roundw
                    case rel => exact ⟨3, by omega, (by rw [Hpf.out] <;> rfl), rfl, HRy, HWy, Hgy⟩
                    case measure => simp [intOf]
              · have hm' : m = 3 := by omega
                subst hm'
                obtain ⟨-, -, pv0, pv3⟩ := pf3 c
                obtain ⟨pv, hpv⟩ : ∃ pv, pf 3 c = pv := ⟨_, rfl⟩
                rw [hpv] at hsn hpx pv0 pv3 ⊢
                have r4 := hRy.out.c4
                have hO := hRy.out.rows.pic
                have hfr := Lib.hid (R_freshK hRy.out.rows.tak)
                have hplx : (rn.x.picks ++ ((wordS line).data.toList.take j).map (pf 3)).length ≤ 100000 := by have h1 := Hlen.out.2.2; have h2 := List.length_take_le j (wordS line).data.toList; rw [List.length_append, List.length_map]; omega
                obtain ⟨PK, hPK⟩ : ∃ PK, rn.x.picks ++ ((wordS line).data.toList.take j).map (pf 3) = PK := ⟨_, rfl⟩
                rw [hPK] at hplx
                have HPK := Lib.hid hPK
                have hO2 : KI.R 3 wr (w.heap.size + 1) (fun k => some k ≠ vt.ownBlock) vk' PK := by rw [← hPK]; exact hO
                have hpl : (PK.length + 1) * 8 ≤ 140737488355328 := by omega
                have hby : w.heap.size + 1 ≤ wr.heap.size := by have := hWy.out.size; omega
                clear hPK hpv hO hm hm3 hw1
                by_cases hp3 : pv < 3
                · have hd3 : decide (pv < 3) = true := decide_eq_true hp3
                  have Hd3 := Lib.hid hd3
                  cases b8
                  all_goals
                    go_wp2_with (at_builtin; refine Kd.R_append (w0 := W0) KI (w.heap.size + 1) rfl _ _ 30 3 (.int .i64 0) 8 rfl Tryd.underlying30 Tryd.info_i64 rfl (by decide) (by decide) vk' PK pv [.int .i64 pv] (fun k => some k ≠ vt.ownBlock) (fun _ => False) rfl rfl rfl (fun k h => h.elim) hfr.out hO2 hWy.out (by omega) hpl ?_)
                    intro v1 w4 hO1 hB4 hg4 hat4
                    obtain ⟨A1, c1, rfl⟩ := Kd.R_slice hO1
                    rw [show (PK ++ [pv]).length = PK.length + 1 by simp] at hO1 hat4 ⊢
                    have hgA : wr.grownBy w4 vk'.ownBlock := ⟨hg4.os, hg4.tape, hg4.output, by have := hg4.size; omega, fun k hk hx => hg4.block k hk hx⟩
                    have HR4 := Lib.hid (hRy.out.addPicks (ys := [pv]) hgA hat4 (by show KI.R _ _ _ _ _ ((rn.x.picks ++ ((wordS line).data.toList.take j).map (pf 3)) ++ [pv]); rw [HPK.out]; exact hO1))
                    have hRne : some (w.heap.size + 1) ≠ vk'.ownBlock := Kd.R_ne hRy.out.rows.pic hRy.out.box RdG.ne3.2.2.symm
                    have hRl := lt_of_heap hRy.out.box
                    have d0 : w4.cell? ⟨w.heap.size + 1, 4, none⟩ = some vk' := (World.cell?_of_block (a := ⟨w.heap.size + 1, 4, none⟩) (hgA.block _ hRl hRne)).trans r4
                    have f0 : w4.frozen? ⟨w.heap.size + 1, 4, none⟩ = false := (World.frozen?_of_block (a := ⟨w.heap.size + 1, 4, none⟩) (hgA.block _ hRl hRne)).trans (hRy.out.f 4)
                    have HW4 := Lib.hid (show Below (w.heap.size + 1) W0 (w4.setCell ⟨w.heap.size + 1, 4, none⟩ (.slice A1 (PK.length + 1) c1)) from hB4.setCell (p := ⟨w.heap.size + 1, 4, none⟩) (Nat.le_refl _) _)
                    have hgne : g ≠ w.heap.size + 1 := fun e => by have h1 := hgy.out; rw [e, hRy.out.box] at h1; injection h1 with h1; injection h1 with _ h2; exact absurd h2 (by decide)
                    have hgbne : some g ≠ vk'.ownBlock := Kd.R_ne hRy.out.rows.pic hgy.out (by decide)
                    have Hgb5 := Lib.hid (show (w4.setCell ⟨w.heap.size + 1, 4, none⟩ (.slice A1 (PK.length + 1) c1)).heap[g]? = some (.cells gcs 9 (0, 0)) from (Below.heap_setCell _ ⟨w.heap.size + 1, 4, none⟩ _ g hgne).trans ((hgA.block g (lt_of_heap hgy.out) hgbne).trans hgy.out))
                    clear hO1 hB4 hg4 hat4 hgA hRne hRl r4 hO2 hfr hpl hgne hgbne
                    go_wp2_with fail
                    go_roundw
                    case rel => exact ⟨j + 1, _, by omega, by rw [hsn.out, ← Bool.and_assoc, Hb8.out, Hd3.out]; rfl, by go_num, Lib.hid (by rw [hpx.out, ← List.append_assoc]; exact HR4.out), HW4, Hgb5⟩
                    case measure => simp [intOf]; omega
                · have hd3 : decide (pv < 3) = false := decide_eq_false hp3
                  have hp4 : 3 ≤ pv := by omega
                  clear hp3
                  have Hd3 := Lib.hid hd3
                  cases b8
                  all_goals
                    go_wp2_with (at_builtin; refine Kd.R_append (w0 := W0) KI (w.heap.size + 1) rfl _ _ 30 3 (.int .i64 0) 8 rfl Tryd.underlying30 Tryd.info_i64 rfl (by decide) (by decide) vk' PK pv [.int .i64 pv] (fun k => some k ≠ vt.ownBlock) (fun _ => False) rfl rfl rfl (fun k h => h.elim) hfr.out hO2 hWy.out (by omega) hpl ?_)
                    intro v1 w4 hO1 hB4 hg4 hat4
                    obtain ⟨A1, c1, rfl⟩ := Kd.R_slice hO1
                    rw [show (PK ++ [pv]).length = PK.length + 1 by simp] at hO1 hat4 ⊢
                    have hgA : wr.grownBy w4 vk'.ownBlock := ⟨hg4.os, hg4.tape, hg4.output, by have := hg4.size; omega, fun k hk hx => hg4.block k hk hx⟩
                    have HR4 := Lib.hid (hRy.out.addPicks (ys := [pv]) hgA hat4 (by show KI.R _ _ _ _ _ ((rn.x.picks ++ ((wordS line).data.toList.take j).map (pf 3)) ++ [pv]); rw [HPK.out]; exact hO1))
                    have hRne : some (w.heap.size + 1) ≠ vk'.ownBlock := Kd.R_ne hRy.out.rows.pic hRy.out.box RdG.ne3.2.2.symm
                    have hRl := lt_of_heap hRy.out.box
                    have d0 : w4.cell? ⟨w.heap.size + 1, 4, none⟩ = some vk' := (World.cell?_of_block (a := ⟨w.heap.size + 1, 4, none⟩) (hgA.block _ hRl hRne)).trans r4
                    have f0 : w4.frozen? ⟨w.heap.size + 1, 4, none⟩ = false := (World.frozen?_of_block (a := ⟨w.heap.size + 1, 4, none⟩) (hgA.block _ hRl hRne)).trans (hRy.out.f 4)
                    have HW4 := Lib.hid (show Below (w.heap.size + 1) W0 (w4.setCell ⟨w.heap.size + 1, 4, none⟩ (.slice A1 (PK.length + 1) c1)) from hB4.setCell (p := ⟨w.heap.size + 1, 4, none⟩) (Nat.le_refl _) _)
                    have hgne : g ≠ w.heap.size + 1 := fun e => by have h1 := hgy.out; rw [e, hRy.out.box] at h1; injection h1 with h1; injection h1 with _ h2; exact absurd h2 (by decide)
                    have hgbne : some g ≠ vk'.ownBlock := Kd.R_ne hRy.out.rows.pic hgy.out (by decide)
                    have Hgb5 := Lib.hid (show (w4.setCell ⟨w.heap.size + 1, 4, none⟩ (.slice A1 (PK.length + 1) c1)).heap[g]? = some (.cells gcs 9 (0, 0)) from (Below.heap_setCell _ ⟨w.heap.size + 1, 4, none⟩ _ g hgne).trans ((hgA.block g (lt_of_heap hgy.out) hgbne).trans hgy.out))
                    clear hO1 hB4 hg4 hat4 hgA hRne hRl r4 hO2 hfr hpl hgne hgbne
                    go_wp2_with fail
                    go_roundw
                    case rel => exact ⟨j + 1, _, by omega, by rw [hsn.out, ← Bool.and_assoc, Hb8.out, Hd3.out]; rfl, by go_num, Lib.hid (by rw [hpx.out, ← List.append_assoc]; exact HR4.out), HW4, Hgb5⟩
                    case measure => simp [intOf]; omega
          · have hj' : j = (wordS line).size := by omega
            subst hj'
            have hal : (wordS line).data.toList.take (wordS line).size = (wordS line).data.toList := List.take_of_length_le (by rw [dl_len]; omega)
            have hb9 := Hb8.out
            rw [hal] at hRj hb9
            obtain ⟨z0, z1, z2, z3, z4, z5, z6⟩ := cells7 ((hWj.out.block w.heap.size (by omega)).trans G0.out)
            have zf := froz ((hWj.out.block w.heap.size (by omega)).trans G0.out)
            cases b8
            · have HL := Lib.hid (show (lineS rn.x rn.q (keyS line) (wordS line) (twoS line)).1 = 2 by rw [Hq.out, H2.out, HL0.out, if_neg (fun h => by have h1 := h.1; unfold isPicks at h1; rw [Bool.and_eq_true] at h1; have h2 := of_decide_eq_true h1.2; rw [h1.1, Bool.and_true] at hb9; exact of_decide_eq_false hb9 (by omega))])
              clear hb9 hal
              go_wp2_with fail
              all_goals (refine HRt.out _ _ ?_; exact exit_err HB0.out hWj.out (by omega) G0.out rfl rfl (Hbad.out 2 HL.out (by decide)))
            · rw [Bool.and_eq_true] at hb9
              obtain ⟨hs6, hpa⟩ := hb9
              have hs6 := of_decide_eq_true hs6
              rw [pf_all _ hpa] at hRj
              have Hpi := Lib.hid (show isPicks (wordS line) = true by unfold isPicks; rw [hpa, Bool.true_and]; exact decide_eq_true (by omega))
              clear hpa hal
              by_cases hs60 : ((wordS line).size : Int) < 60
              · have hs61 : decide (((wordS line).size : Int) < 60) = true := decide_eq_true hs60
                have Hs60 := Lib.hid hs60
                have HL := Lib.hid (show lineS rn.x rn.q (keyS line) (wordS line) (twoS line) = (0, { rn.x with picks := rn.x.picks ++ turnsV (wordS line).data.toList }, 3) by rw [Hq.out, H2.out, HL0.out, if_pos ⟨Hpi.out, by simp, by simp⟩, if_pos (by have := Hs60.out; omega)])
                go_wp2_with fail
                apply HNx.out
                obtain ⟨pre', hA'⟩ := Hnext.out _ _ HL.out
                refine ⟨⟨pre', rest.extract (k + 1) rest.size, ⟨0, { rn.x with picks := rn.x.picks ++ turnsV (wordS line).data.toList }, 3, rn.n + 1⟩, _, _, _, rfl, rfl, by go_num, by omega, Lib.hid hA', Lib.hid hRj.out, Lib.hid hWj.out⟩, ?_⟩
                show (rest.extract (k + 1) rest.size).size < rest.size
                omega
              · have hs61 : decide (((wordS line).size : Int) < 60) = false := decide_eq_false hs60
                have Hs60 := Lib.hid hs60
                clear hs60
                have HL := Lib.hid (show lineS rn.x rn.q (keyS line) (wordS line) (twoS line) = (0, { rn.x with picks := rn.x.picks ++ turnsV (wordS line).data.toList }, rn.q) by rw [Hq.out, H2.out, HL0.out, if_pos ⟨Hpi.out, by simp, by simp⟩, if_neg (by have := Hs60.out; omega)])
                go_wp2_with fail
                apply HNx.out
                obtain ⟨pre', hA'⟩ := Hnext.out _ _ HL.out
                refine ⟨⟨pre', rest.extract (k + 1) rest.size, ⟨0, { rn.x with picks := rn.x.picks ++ turnsV (wordS line).data.toList }, rn.q, rn.n + 1⟩, _, _, _, rfl, rfl, by go_num, by omega, Lib.hid hA', Lib.hid hRj.out, Lib.hid hWj.out⟩, ?_⟩
                show (rest.extract (k + 1) rest.size).size < rest.size
                omega
    · have q2 : (rn.q == 2) = false := by rw [beq_eq_false_iff_ne]; exact hqq
      have HL := Lib.hid (show (lineS rn.x rn.q (keyS line) (wordS line) (twoS line)).1 = 2 from by rw [lineS_pick Hkd.out, if_neg (fun h => hqq h.2.1)])
      clear hqq
      go_wp2_with fail
      all_goals (refine HRt.out _ _ ?_; exact exit_err HB0.out HW2.out (by omega) G0.out rfl rfl (Hbad.out 2 HL.out (by decide)))
  · have hnn : ((n : Int) != 2) = true := by rw [bne_iff_ne]; omega
    have H2 := Lib.hid (show twoS line = false by unfold twoS; rw [Hn.out]; exact decide_eq_false hn2)
    clear hn2 hk1
    go_wp2_with fail
    all_goals (refine HRt.out _ _ ?_; exact exit_err HB0.out HW2.out (by omega) G0.out rfl rfl (Hbad.out 2 (lineS_known1 (by rw [H2.out]) (.inr (.inr (.inr (.inr Hkd.out))))) (by decide)))

end Go.Proofs.YtplcfijcmihhlaaDoor
