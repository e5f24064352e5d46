/-
  Layer 3 (ring): Write.
-/
import Derived.Test.YtfeljjlpdefnmaaGreatRing
import Derived.Test.YtfeljjlpdefnmaaGreatWirN
namespace Go.Proofs.YtfeljjlpdefnmaaGreat
open Go.RowKit
set_option linter.unusedVariables false
set_option linter.unusedSimpArgs false
attribute [local go_sem] Oper.semAt_some

theorem run_copyR {P : Program} (w : World) (dT sT ty elem : TypeId) (hu : P.underlying dT = some (.slice elem)) (hsz : (P.info? elem).map (·.size) = some 1)
    (dp sp : Option Addr) (dLen dCap sLen sCap : Nat) (g off : Nat) (cur : List Value) (t : TypeId) (hg : w.heap[g]? = some (.cells cur.toArray t (0, 0))) (cs : List Value) (k : Nat) (hk : cs.length = k) (hn : k = Nat.min sLen dLen)
    (hpos : 0 < k → dp = some ⟨g, off, none⟩ ∧ ∃ ad, sp = some ad ∧ ∀ j v, cs[j]? = some v → w.cell? (ad.add j) = some v)
    (hfit : off + k ≤ cur.length) (h1 : ∀ v ∈ cs, v.oneCell' = true) :
    ∃ w', (Builtin.copy_ #[dT, sT] ty #[.slice dp dLen dCap, .slice sp sLen sCap]).run P w = .ok (.int .i64 k) w' ∧ w'.heap[g]? = some (.cells (splice cur off cs).toArray t (0, 0)) ∧ Touch (· = g) w w' := by
  subst hk
  by_cases h0 : cs.length = 0
  · obtain rfl : cs = [] := List.eq_nil_of_length_eq_zero h0
    exact ⟨w, run_copy_none (P := P) w dT sT ty elem dp sp dLen dCap sLen sCap hu hsz (by simpa using hn.symm), by simpa [splice] using hg, Touch.refl _ w⟩
  · obtain ⟨rfl, ad, rfl, hsrc⟩ := hpos (by omega)
    exact ⟨_, run_copy_row (P := P) w dT sT ty elem g off dLen dCap ad sLen sCap cur.toArray t cs hu hsz hg hn hsrc (by simpa using hfit) h1, by simpa [splice] using setRow_heap w g _ _ t _ hg,
      ⟨rfl, rfl, rfl, by simp [World.setRow], fun j hj hx => setRow_other w g j _ (fun e => hx e)⟩⟩
theorem Tryz.size_u8R : (Tryz.prog.info? 5).map (·.size) = some 1 := by kernel_rfl
theorem getElem?_splice {α : Type} (L : List α) (off : Nat) (cs : List α) (h : off + cs.length ≤ L.length) (j : Nat) : (splice L off cs)[j]? = if off ≤ j ∧ j < off + cs.length then cs[j - off]? else L[j]? := by
  unfold splice
  rw [List.getElem?_append]
  simp only [List.length_take]
  have hm : min off L.length = off := by omega
  rw [hm]
  split
  · rename_i hj
    rw [if_neg (by omega), List.getElem?_take, if_pos hj]
  · rename_i hj
    rw [List.getElem?_append]
    split
    · rw [if_pos (by omega)]
    · rw [if_neg (by omega), List.getElem?_drop]
      congr 1
      omega

def Rg.n (r : Rg) (bs : List UInt8) : Nat := min bs.length (r.N - r.held.length)
def Rg.write (r : Rg) (bs : List UInt8) : Rg := { r with held := r.held ++ bs.take (r.n bs) }
theorem Rg.write_wf {r : Rg} (h : r.wf) (bs : List UInt8) : (r.write bs).wf := ⟨h.n1, h.n2, h.hd, by
  have := h.len
  unfold Rg.write Rg.n
  simp only [List.length_append, List.length_take]
  omega⟩
/-- The row behind a Write. -/
theorem Rg.row_write {r : Rg} (hw : r.wf) {cur : List Value} (hc : cur.length = r.N) (hr : ∀ i, i < r.held.length → cur[rpos r.N r.head i]? = some (encU (r.held[i]?.getD 0))) (bs : List UInt8) {n f k1 k2 : Nat}
    (hn : n = r.n bs) (hf : (r.head + r.held.length) % r.N = f) (hk1 : min n (r.N - f) = k1) (hk2 : n - k1 = k2) :
    (splice (splice cur f ((bs.take k1).map encU)) 0 (((bs.drop k1).take k2).map encU)).length = r.N ∧
    ∀ i, i < (r.write bs).held.length → (splice (splice cur f ((bs.take k1).map encU)) 0 (((bs.drop k1).take k2).map encU))[rpos r.N r.head i]? = some (encU ((r.write bs).held[i]?.getD 0)) := by
  obtain ⟨n1, n2, hd, hl⟩ := hw
  have hnb : n ≤ bs.length := by rw [hn]; exact Nat.min_le_left _ _
  have hnf : n ≤ r.N - r.held.length := by rw [hn]; exact Nat.min_le_right _ _
  have hfv : f = if r.head + r.held.length < r.N then r.head + r.held.length else r.head + r.held.length - r.N := by
    rw [← hf]
    split
    · exact Nat.mod_eq_of_lt (by assumption)
    · rw [Nat.mod_eq_sub_mod (by omega), Nat.mod_eq_of_lt (by omega)]
  have hfN : f < r.N := by rw [← hf]; exact Nat.mod_lt _ n1
  have l1 : ((bs.take k1).map encU).length = k1 := by rw [List.length_map, List.length_take]; omega
  have l2 : (((bs.drop k1).take k2).map encU).length = k2 := by rw [List.length_map, List.length_take, List.length_drop]; omega
  have f1 : f + ((bs.take k1).map encU).length ≤ cur.length := by rw [l1, hc]; omega
  have s1 := length_splice cur f _ f1
  have f2 : 0 + (((bs.drop k1).take k2).map encU).length ≤ (splice cur f ((bs.take k1).map encU)).length := by rw [l2, s1, hc]; omega
  refine ⟨by rw [length_splice _ _ _ (by rw [l2, s1, hc]; omega), s1, hc], fun i hi => ?_⟩
  have hwl : (r.write bs).held.length = r.held.length + n := by
    unfold Rg.write
    rw [List.length_append, List.length_take, ← hn]; omega
  rw [hwl] at hi
  have hval : (r.write bs).held[i]?.getD 0 = if i < r.held.length then r.held[i]?.getD 0 else bs[i - r.held.length]?.getD 0 := by
    unfold Rg.write
    dsimp only
    rw [List.getElem?_append]
    split
    · rfl
    · rw [List.getElem?_take, if_pos (by rw [← hn]; omega)]
  have hfv' : (r.head + r.held.length < r.N ∧ f = r.head + r.held.length) ∨ (r.N ≤ r.head + r.held.length ∧ f = r.head + r.held.length - r.N) := by
    by_cases h : r.head + r.held.length < r.N
    · exact .inl ⟨h, by rw [hfv, if_pos h]⟩
    · exact .inr ⟨by omega, by rw [hfv, if_neg h]⟩
  obtain ⟨p, hp⟩ : ∃ p, rpos r.N r.head i = p := ⟨_, rfl⟩
  have hpv : (r.head + i < r.N ∧ p = r.head + i) ∨ (r.N ≤ r.head + i ∧ p = r.head + i - r.N) := by
    by_cases h : r.head + i < r.N
    · exact .inl ⟨h, by rw [← hp, rpos, if_pos h]⟩
    · exact .inr ⟨by omega, by rw [← hp, rpos, if_neg h]⟩
  have hkk : (k1 = n ∧ n ≤ r.N - f) ∨ (k1 = r.N - f ∧ r.N - f ≤ n) := by omega
  rw [hval, getElem?_splice _ _ _ f2, l2, getElem?_splice _ _ _ f1, l1, hp]
  clear hval hfv hwl l1 l2 f1 f2 s1 hk1
  by_cases hil : i < r.held.length
  · rw [if_pos hil, ← hr i hil, hp, if_neg (by omega), if_neg (by omega)]
  · rw [if_neg hil]
    have hb : ∀ j, j < bs.length → (bs.map encU)[j]? = some (encU (bs[j]?.getD 0)) := fun j hj => by rw [List.getElem?_map, List.getElem?_eq_getElem hj]; rfl
    have hmt : (bs.take k1).map encU = (bs.map encU).take k1 := by rw [List.map_take]
    have hmd : ((bs.drop k1).take k2).map encU = ((bs.map encU).drop k1).take k2 := by rw [List.map_take, List.map_drop]
    rw [hmt, hmd, ← hb _ (by omega)]
    by_cases hk : i - r.held.length < k1
    · rw [if_neg (by omega), if_pos (by omega), List.getElem?_take, if_pos (by omega)]
      congr 1
      omega
    · rw [if_pos (by omega), List.getElem?_take, if_pos (by omega), List.getElem?_drop]
      congr 1
      omega

section
variable {W W1 : World} {R a : Nat} {r : Rg}
theorem parts_ex {a f k1 k2 : Nat} {args : Array Value} (h : Calls Tryz.prog 46 args W (PartsP W a f k1 k2)) :
    Calls Tryz.prog 46 args W fun e w' => ∃ v, e = .returned v ∧ ∃ A1 A2, v = .tuple #[.slice A1 k1 k1, .slice A2 k2 k2] ∧ (0 < k1 → A1 = some ⟨a, f, none⟩) ∧ (0 < k2 → A2 = some ⟨a, 0, none⟩) ∧ Touch (fun _ => False) W w' :=
  h.mono fun e w' ⟨he, q, hq⟩ => ⟨_, he, _, _, rfl, fun h => by rw [if_neg (by omega)], fun _ => rfl, by rw [hq]; exact (Touch.refl _ W).drewN q⟩
set_option maxRecDepth 100000 in
set_option maxHeartbeats 4000000 in
theorem RWrite_any (h : RgAt W R a r) (hw : r.wf) (A : Option Addr) (c : Nat) (bs : List UInt8) (hc : bs.length ≤ c) (hcm : c ≤ maxLen) (hl : bs.length ≤ 1000000) (hrd : RdB W W.heap.size A bs)
    (hap : bs ≠ [] → ∀ b off, A = some ⟨b, off, none⟩ → b ≠ a ∧ b ≠ R) :
    Calls Tryz.prog 31 #[.pointer (some ⟨R, 0, none⟩), .slice A bs.length c] W fun e w' => e = .returned (.int .i64 (r.n bs)) ∧ RgAt w' R a (r.write bs) ∧ Touch (fun b => b = R ∨ b = a) W w' := by
  have c1 := h.c1
  have c2 := h.c2
  have hF := Lib.hid (RFree_any h hw)
  have hr1 := fun W' (t : Touch (fun _ => False) W W') => (h.touch t (fun h => h) (fun h => h))
  obtain ⟨n, hn⟩ : ∃ n, r.n bs = n := ⟨_, rfl⟩
  have hnb : n ≤ bs.length := by rw [← hn]; exact Nat.min_le_left _ _
  have hnf : n ≤ r.N - r.held.length := by rw [← hn]; exact Nat.min_le_right _ _
  have hnm : min (bs.length : Int) ((r.N - r.held.length : Nat) : Int) = (n : Int) := by rw [← hn]; unfold Rg.n; omega
  have hP := fun W' (t : Touch (fun _ => False) W W') => Lib.hid (parts_ex (RParts_any (hr1 W' t) hw (r.head + r.held.length) n (by have := hw.hd; have := hw.n2; have := hw.len; omega) (by omega)))
  have hRW := fun {cur} hcl hrr => Lib.hid (Rg.row_write (r := r) hw (cur := cur) hcl hrr bs hn.symm rfl rfl rfl)
  obtain ⟨f, hf⟩ : ∃ f, (r.head + r.held.length) % r.N = f := ⟨_, rfl⟩
  have hfN : f < r.N := by rw [← hf]; exact Nat.mod_lt _ hw.n1
  rw [hf] at hP
  simp only [hf] at hRW
  obtain ⟨k1, hk1⟩ : ∃ k1, min n (r.N - f) = k1 := ⟨_, rfl⟩
  rw [hk1] at hP
  simp only [hk1] at hRW
  obtain ⟨k2, hk2⟩ : ∃ k2, n - k1 = k2 := ⟨_, rfl⟩
  rw [hk2] at hP
  simp only [hk2] at hRW
  have hwl : (r.write bs).held.length = r.held.length + n := by
    unfold Rg.write
    rw [List.length_append, List.length_take, hn]; omega
  obtain ⟨X1, hX1⟩ : ∃ X1, (bs.take k1).map encU = X1 := ⟨_, rfl⟩
  obtain ⟨X2, hX2⟩ : ∃ X2, ((bs.drop k1).take k2).map encU = X2 := ⟨_, rfl⟩
  have l1 : X1.length = k1 := by rw [← hX1, List.length_map, List.length_take]; omega
  have l2 : X2.length = k2 := by rw [← hX2, List.length_map, List.length_take, List.length_drop]; omega
  have o1 : ∀ v ∈ X1, v.oneCell' = true := by rw [← hX1]; intro v hv; obtain ⟨x, _, rfl⟩ := List.mem_map.1 hv; rfl
  have o2 : ∀ v ∈ X2, v.oneCell' = true := by rw [← hX2]; intro v hv; obtain ⟨x, _, rfl⟩ := List.mem_map.1 hv; rfl
  simp only [hX1, hX2] at hRW
  obtain ⟨cur, hrow, hcl, hcr⟩ := h.row
  have Hrow := Lib.hid hrow
  have HRW := hRW hcl hcr
  have Hbox := Lib.hid h.box
  have Hne := Lib.hid h.ne
  have hRl := h.ltR
  have hal := h.ltA
  -- what is read of the bytes
  have r1 : ∀ w', Touch (fun b => b = R ∨ b = a) W w' → 0 < k1 → ∃ ad, A = some ad ∧ ∀ j v, X1[j]? = some v → w'.cell? (ad.add j) = some v := fun w' t hk => by
    have hne : bs ≠ [] := by rintro rfl; simp at hnb; omega
    obtain ⟨b, off, rfl, hb, hcell⟩ := hrd hne
    obtain ⟨ha, hR⟩ := hap hne b off rfl
    refine ⟨_, rfl, fun j v hv => ?_⟩
    rw [WideShapes.add_plain, t.cell (p := ⟨b, off + j, none⟩) hb (by simp [ha, hR])]
    have hj : j < k1 := by rw [← l1]; exact (List.getElem?_eq_some_iff.1 hv).1
    rw [hcell j (by omega), ← hv, ← hX1, List.getElem?_map, List.getElem?_take, if_pos hj, List.getElem?_eq_getElem (by omega)]
    rfl
  have r2 : ∀ w', Touch (fun b => b = R ∨ b = a) W w' → 0 < k2 → ∃ b off, A = some (⟨b, off, none⟩ : Addr) ∧ ∀ j v, X2[j]? = some v → w'.cell? (Addr.add ⟨b, off + k1, none⟩ j) = some v := fun w' t hk => by
    have hne : bs ≠ [] := by rintro rfl; simp at hnb; omega
    obtain ⟨b, off, rfl, hb, hcell⟩ := hrd hne
    obtain ⟨ha, hR⟩ := hap hne b off rfl
    refine ⟨_, _, rfl, fun j v hv => ?_⟩
    rw [WideShapes.add_plain, t.cell (p := ⟨b, off + k1 + j, none⟩) hb (by simp [ha, hR])]
    have hj : j < k2 := by rw [← l2]; exact (List.getElem?_eq_some_iff.1 hv).1
    rw [Nat.add_assoc, hcell (k1 + j) (by omega), ← hv, ← hX2, List.getElem?_map, List.getElem?_take, if_pos hj, List.getElem?_drop, List.getElem?_eq_getElem (by omega)]
    rfl
  have hwe : r.write bs = ⟨r.N, r.head, (r.write bs).held⟩ := rfl
  obtain ⟨wh, hwh⟩ : ∃ wh, (r.write bs).held = wh := ⟨_, rfl⟩
  rw [hwh] at hwe hwl
  simp only [hwh] at HRW
  have HWE := Lib.hid hwe
  have HWL := Lib.hid hwl
  have HR1 := Lib.hid r1
  have HR2 := Lib.hid r2
  have HO1 := Lib.hid o1
  have HO2 := Lib.hid o2
  have L1 := Lib.hid l1
  have L2 := Lib.hid l2
  have HCL := Lib.hid hcl
  have hk1n : k1 ≤ n := by omega
  have hk2n : k1 + k2 = n := by omega
  have hfk : f + k1 ≤ r.N := by omega
  have hk2f : k2 ≤ f := by have := hw.len; have := hw.hd; omega
  rw [hn]
  obtain ⟨bl, hbl⟩ : ∃ bl, bs.length = bl := ⟨_, rfl⟩
  obtain ⟨K, hK⟩ : ∃ K, r.held.length = K := ⟨_, rfl⟩
  obtain ⟨N, hN⟩ : ∃ N, r.N = N := ⟨_, rfl⟩
  obtain ⟨H, hH⟩ : ∃ H, r.head = H := ⟨_, rfl⟩
  have hHN := hw.hd
  have hN2 := hw.n2
  have hKN := hw.len
  rw [hbl] at hc hl hnb hnm ⊢
  simp only [hK, hN, hH] at c1 c2 hF hP hnf hnm hfN HRW hfk hHN hN2 hKN HWE HWL Hbox HCL
  obtain ⟨fr, hfr⟩ : ∃ fr, N - K = fr := ⟨_, rfl⟩
  rw [hfr] at hF hnf hnm
  clear h hw hr1 hn hf hk1 hk2 hX1 hX2 hrd hap hRW r1 r2 o1 o2 l1 l2 hcl hcr hrow hwe hwl hbl hK hN hH hwh
  have a1 : IntKind.i64.wrap ((H : Int) + (K : Int)) = ((H + K : Nat) : Int) := by rw [IntWalk.i64_in _ (by omega)]; omega
  have a2 : IntKind.i64.wrap ((K : Int) + (n : Int)) = ((K + n : Nat) : Int) := by rw [IntWalk.i64_in _ (by omega)]; omega
  unfold maxLen at hcm
  go_enter Tryz.func31, Tryz.ntmps31
  go_wp2_with fail
  refine hF.out.mono ?_; rintro e w2 ⟨rfl, q, rfl⟩; dsimp only
  have d1 : (W.drewN q).cell? ⟨R, 1, none⟩ = some (.int .i64 (H : Int)) := c1
  have d2 : (W.drewN q).cell? ⟨R, 2, none⟩ = some (.int .i64 (K : Int)) := c2
  go_wp2_with fail
  go_region_law (refine step_call_ex (by rfl) 46 #[.pointer (some ⟨R, 0, none⟩), .int .i64 ((H + K : Nat) : Int), .int .i64 (n : Int)] (by kernel_rfl) _ (hP _ (((Touch.refl _ W).drewN _).drew)).out ?_; intro v w2 hr2; obtain ⟨A1, A2, rfl, hA1, hA2, t2⟩ := hr2)
  all_goals
    have T2 := (((Touch.refl (fun _ => False) W).drewN q).drew).trans t2
    have HT2 := Lib.hid T2
    have hg2 := (T2.block a hal (fun h => h)).trans Hrow.out
    obtain ⟨w3, hw3, hg3, t3⟩ := run_copyR (P := Tryz.prog) w2 39 39 3 5 Tryz.under_bsR Tryz.size_u8R A1 A k1 k1 bl c a f cur 5 hg2 X1 k1 L1.out (by show k1 = min bl k1; omega) (fun hk => ⟨hA1 hk, HR1.out _ (T2.mono (fun _ _ h => h.elim)) hk⟩) (by rw [HCL.out]; exact hfk) HO1.out
    have T3 : Touch (fun b => b = R ∨ b = a) W w3 := (T2.mono (Y := fun b => b = R ∨ b = a) (fun _ _ h => h.elim)).trans (t3.mono (fun _ _ h => .inr h))
    have hcs : ∀ A4 c4, (0 < k2 → A4 = Option.map (fun x => x.add k1) A) → ∃ w4, (Builtin.copy_ #[39, 39] 3 #[.slice A2 k2 k2, .slice A4 (n - k1) c4]).run Tryz.prog w3 = .ok (.int .i64 k2) w4 ∧
        w4.cell? ⟨R, 2, none⟩ = some (.int .i64 (K : Int)) ∧ w4.frozen? ⟨R, 2, none⟩ = false ∧ Hid (RgAt (w4.setCell ⟨R, 2, none⟩ (.int .i64 ((K : Int) + (n : Int)))) R a ⟨N, H, wh⟩) ∧ Hid (Touch (fun b => b = R ∨ b = a) W (w4.setCell ⟨R, 2, none⟩ (.int .i64 ((K : Int) + (n : Int))))) := fun A4 c4 hA4 => by
      obtain ⟨w4, hw4, hg4, t4⟩ := run_copyR (P := Tryz.prog) w3 39 39 3 5 Tryz.under_bsR Tryz.size_u8R A2 A4 k2 k2 (n - k1) c4 a 0 (splice cur f X1) 5 hg3 X2 k2 L2.out (by show k2 = min (n - k1) k2; omega) (fun hk => ⟨hA2 hk, by
        obtain ⟨b, off, rfl, hcell⟩ := HR2.out w3 T3 hk
        refine ⟨_, hA4 hk, fun j v hv => ?_⟩
        dsimp only
        rw [show (Addr.add ⟨b, off, none⟩ k1) = ⟨b, off + k1, none⟩ from WideShapes.add_plain _ _ _]
        exact hcell j v hv⟩) (by rw [length_splice _ _ _ (by rw [L1.out, HCL.out]; exact hfk), HCL.out]; omega) HO2.out
      have hb4 : w4.heap[R]? = _ := (t4.block R (Nat.lt_of_lt_of_le (Nat.lt_of_lt_of_le hRl T2.size) t3.size) (fun e => Hne.out e.symm)).trans ((t3.block R (Nat.lt_of_lt_of_le hRl T2.size) (fun e => Hne.out e.symm)).trans ((T2.block R hRl (fun h => h)).trans Hbox.out))
      have T4 : Touch (fun b => b = R ∨ b = a) W w4 := T3.trans (t4.mono (fun _ _ h => .inr h))
      have T5 := T4.setCell (p := ⟨R, 2, none⟩) (.inl (.inl rfl)) (.int .i64 ((K : Int) + (n : Int)))
      have t5 : Touch (· = R) w4 (w4.setCell ⟨R, 2, none⟩ (.int .i64 ((K : Int) + (n : Int)))) := (Touch.refl (· = R) w4).setCell (p := ⟨R, 2, none⟩) (.inl rfl) _
      refine ⟨w4, hw4, by simp [World.cell?, hb4], by simp [World.frozen?, hb4], ⟨?_, ⟨_, (t5.block a (lt_of_heap hg4) Hne.out).trans hg4, HRW.out⟩, Hne.out⟩, T5⟩
      have := setBoxR (j := 2) (.int .i64 ((K : Int) + (n : Int))) hb4
      rw [this]
      dsimp only
      rw [HWL.out]
      rfl
    have HCS := Lib.hid hcs
    clear hcs hF hP d1 d2 c1 c2 hg2 hA1 hA2 t3 hg3 T2 HR1 HR2 HO1 HO2 T3 Hrow HRW Hbox L1 L2
    by_cases hck : c = k1
    · obtain ⟨w4, hw4, u1, u2, HF, HT⟩ := HCS.out A (c - k1) (fun h => by omega)
      obtain rfl := hck
      have e0 : c - c = 0 := Nat.sub_self c
      rw [e0] at hw4
      clear HCS
      go_wp2_with fail
      all_goals
        go_ret
        exact ⟨rfl, by rw [HWE.out]; exact HF.out, HT.out⟩
    · obtain ⟨w4, hw4, u1, u2, HF, HT⟩ := HCS.out _ (c - k1) (fun _ => rfl)
      have hck2 : k1 < c := by omega
      clear HCS
      go_wp2_with fail
      all_goals
        go_ret
        exact ⟨rfl, by rw [HWE.out]; exact HF.out, HT.out⟩
end

end Go.Proofs.YtfeljjlpdefnmaaGreat
