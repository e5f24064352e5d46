/-
  Layer 9 (dechunk): the end of a field's line.
-/
import Derived.Test.YtfeljjlpdefnmaaGreatDecS
import Derived.StillTailTactics
import Derived.Deep.RegionHeld3
namespace Go.Proofs.YtfeljjlpdefnmaaGreat
open Go.RowKit
set_option linter.unusedVariables false
set_option linter.unusedSimpArgs false
attribute [local go_sem] Oper.semAt_some

theorem strOf_map (l : List UInt8) : strOfNums (l.map fun c => (c.toNat : Int)) = ⟨l.toArray⟩ := by
  unfold strOfNums
  congr 1
  rw [List.map_map]
  apply congrArg List.toArray
  conv => rhs; rw [← List.map_id l]
  apply List.map_congr_left
  intro c _
  simp
/-- A row of bytes, read as a string from its head on. -/
theorem convRow {W : World} {base : Nat} {g n cap m : Nat} {l : List UInt8} (h : W.ownsRow base 5 1 (.slice (some ⟨g, 0, none⟩) n cap) n (l.map encU)) (hm : m ≤ n) (hl : l.length = n) (c : Nat) :
    (convert 39 9 (.slice (some ⟨g, 0, none⟩) m c)).run Tryz.prog W = .ok (.string ⟨(l.take m).toArray⟩) W := by
  have hc := run_convert_bytes_arg (P := Tryz.prog) W 39 5 Tryz.underlying39 Tryz.underlying5 g 0 m c ((l.take m).map fun c => (c.toNat : Int)) (by rw [List.length_map, List.length_take]; omega) (fun i hi => by
    have := h.cells rfl i (encU (l[i]'(by omega))) (by rw [List.getElem?_map, List.getElem?_eq_getElem (by omega)]; rfl)
    rw [WideShapes.add_plain] at this
    rw [this]
    simp [encU, List.getD_eq_getElem?_getD, List.getElem?_map, List.getElem?_take, hi, List.getElem?_eq_getElem (show i < l.length by omega)]) 9 Tryz.underlying9
  rw [strOf_map] at hc
  exact hc

theorem own_cap {W : World} {base : Nat} {e : TypeId} {size n g c : Nat} {xs : List Value} (h : W.ownsRow base e size (.slice (some ⟨g, 0, none⟩) n c) n xs) : n ≤ c ∧ c ≤ maxLen := by
  rcases h.2 with ⟨h1, _⟩ | ⟨g', cap', cur, h1, _, _, h4, h5, _⟩
  · cases h1
  · cases h1; exact ⟨h4, h5⟩

section
variable {W W1 : World} {F : Nat → Prop} {D : Nat} {vl vf : Value} {d : Dec} {e0 e1 e2 e3 e4 e5 : Int}
theorem DecAt.setFlds (h : DecAt W F D vl vf d) {v1 : Value} {l1 : List (ByteArray × ByteArray)} (hg : W.grownBy W1 vf.ownBlock) (hr : W1.ownsRow 0 136 2 v1 l1.length (fldC l1)) (hlt : ∀ k, v1.ownBlock = some k → v1.ownBlock = vf.ownBlock ∨ W.heap.size ≤ k) :
    DecAt (W1.setCell ⟨D, 9, none⟩ v1) (fun k => F k ∨ (W.heap.size ≤ k ∧ k < W1.heap.size)) D vl v1 { d with fields := l1 } := by
  have hbox : W1.heap[D]? = _ := (hg.block D (h.lt D h.hD) (fun e => h.nf e.symm)).trans h.box
  have t : Touch (fun k => k = D) W1 (W1.setCell ⟨D, 9, none⟩ v1) := (Touch.refl (fun k => k = D) W1).setCell (p := ⟨D, 9, none⟩) (.inl rfl) v1
  have hli : W1.ownsRow 0 5 1 vl d.line.length (d.line.map encU) := by
    refine own_touchL (X := fun k => vf.ownBlock = some k) h.lin ⟨hg.os, hg.tape, hg.output, hg.size, fun k hk hx => hg.block k hk (fun e => hx e.symm)⟩ (fun k hk e => ?_)
    rcases own_apart h.fld h.lin (by decide) with h1 | h1
    · rw [h1] at e; cases e
    · exact h1 (by rw [e, hk])
  refine ⟨?_, .inl h.hD, own_touchL hli t (fun k hk e => own_box hli hbox (by decide) (by rw [← e]; exact hk)), fun k hk => .inl (h.fl k hk), own_touchL hr t (fun k hk e => own_box hr hbox (by decide) (by rw [← e]; exact hk)), fun k hk => ?_, fun k hk => ?_⟩
  · exact setBoxR v1 hbox
  · rcases hlt k hk with e | e
    · exact .inl (h.ff k (by rw [← e]; exact hk))
    · exact .inr ⟨e, own_lt hr hk⟩
  · have := hg.size
    have := t.size
    rcases hk with hk | hk
    · have := h.lt k hk; omega
    · omega
theorem DecAt.noLine (h : DecAt W F D vl vf d) : DecAt (W.setCell ⟨D, 8, none⟩ (.slice none 0 0)) F D (.slice none 0 0) vf { d with line := [] } := by
  have t : Touch (fun k => k = D) W (W.setCell ⟨D, 8, none⟩ (.slice none 0 0)) := (Touch.refl (fun k => k = D) W).setCell (p := ⟨D, 8, none⟩) (.inl rfl) _
  refine ⟨?_, h.hD, World.ownsRow_nil _ _ _ _, fun k hk => (by cases hk), own_touchL h.fld t (fun k hk e => h.nf (by rw [← e]; exact hk)), h.ff, fun k hk => Nat.lt_of_lt_of_le (h.lt k hk) t.size⟩
  exact setBoxR _ h.box
theorem Tryz.info_fldR : ∃ i, Tryz.prog.info? 136 = some i ∧ i.zero = some (.agg #[.string ⟨#[]⟩, .string ⟨#[]⟩]) ∧ i.size = 2 ∧ i.bytes = 32 := by
  have h : (Tryz.prog.info? 136).map (fun i => (i.zero, i.size, i.bytes)) = some (some (.agg #[.string ⟨#[]⟩, .string ⟨#[]⟩]), 2, 32) := by kernel_rfl
  obtain ⟨i, hi, he⟩ := Option.map_eq_some_iff.1 h
  simp only [Prod.mk.injEq] at he
  exact ⟨i, hi, he.1, he.2.1, he.2.2⟩
theorem Touch.join {X Y : Nat → Prop} {a b c : World} (h : Touch X a b) (k : Touch Y b c) (hY : ∀ i, Y i → X i ∨ a.heap.size ≤ i) : Touch X a c :=
  ⟨k.os.trans h.os, k.tape.trans h.tape, k.output.trans h.output, Nat.le_trans h.size k.size, fun i hi hx => (k.block i (Nat.lt_of_lt_of_le hi h.size) (fun hy => (hY i hy).elim hx (fun h => by omega))).trans (h.block i hi hx)⟩
/-- Behind the append of a field. -/
theorem fld_put (h : DecAt W F D vl vf d) {tmp : Obj} {w7 : World} (hg0 : ((W.alloc tmp).drew).grownBy w7 vf.ownBlock) {f : ByteArray × ByteArray} {gg cap : Nat} {n : Nat} (hn : d.fields.length = n)
    (ho : w7.ownsRow 0 136 2 (.slice (some ⟨gg, 0, none⟩) (n + 1) cap) (n + 1) (fldC d.fields ++ [.string f.1, .string f.2])) (hat : vf.ownBlock = some gg ∨ gg = W.heap.size + 1) :
    w7.cell? ⟨D, 9, none⟩ = some vf ∧ w7.frozen? ⟨D, 9, none⟩ = false ∧ (w7.setCell ⟨D, 9, none⟩ (.slice (some ⟨gg, 0, none⟩) (n + 1) cap)).cell? ⟨D, 8, none⟩ = some vl ∧ (w7.setCell ⟨D, 9, none⟩ (.slice (some ⟨gg, 0, none⟩) (n + 1) cap)).frozen? ⟨D, 8, none⟩ = false ∧
      ∃ F2 : Nat → Prop, DecAt (w7.setCell ⟨D, 9, none⟩ (.slice (some ⟨gg, 0, none⟩) (n + 1) cap)) F2 D vl (.slice (some ⟨gg, 0, none⟩) (n + 1) cap) { d with fields := d.fields ++ [f] } ∧ (∀ k, F2 k → F k ∨ W.heap.size ≤ k) ∧ Touch F W (w7.setCell ⟨D, 9, none⟩ (.slice (some ⟨gg, 0, none⟩) (n + 1) cap)) := by
  have ha : Below W.heap.size W (W.alloc tmp).drew := ((Below.refl _ W).alloc (Nat.le_refl _) tmp).drew
  have hg : W.grownBy w7 vf.ownBlock := ⟨hg0.os.trans ha.os, hg0.tape.trans ha.tape, hg0.output.trans ha.output, Nat.le_trans ha.size hg0.size, fun k hk hx => (hg0.block k (Nat.lt_of_lt_of_le hk ha.size) hx).trans (ha.block k hk)⟩
  have hDb := hg.block D (h.lt D h.hD) (fun e => h.nf e.symm)
  have hl : (d.fields ++ [f]).length = n + 1 := by simp [hn]
  have hS := h.setFlds (l1 := d.fields ++ [f]) (v1 := .slice (some ⟨gg, 0, none⟩) (n + 1) cap) hg (by rw [hl]; simpa [fldC] using ho) (fun k hk => by
    rcases hat with e | e
    · exact .inl (by rw [e]; rfl)
    · have : gg = k := by simpa [Value.ownBlock] using hk
      exact .inr (by omega))
  refine ⟨(World.cell?_of_block (a := ⟨D, 9, none⟩) hDb).trans h.c9, (World.frozen?_of_block (a := ⟨D, 9, none⟩) hDb).trans (h.f 9), hS.c8, hS.f 8, _, hS, fun k hk => ?_, ?_⟩
  · rcases hk with hk | hk
    · exact .inl hk
    · exact .inr hk.1
  · exact (show Touch F W w7 from ⟨hg.os, hg.tape, hg.output, hg.size, fun k hk hx => hg.block k hk (fun e => hx (h.ff k e.symm))⟩).setCell (p := ⟨D, 9, none⟩) (.inl h.hD) _
def linD (e0 e1 e2 e3 e4 e5 : Int) (d : Dec) (c : UInt8) : Int × Dec :=
  if c = 10 then
    (if (moreD d c 6).1 = 0 then (0, { (moreD d c 6).2 with line := [], fields := d.fields ++ [((parseF e0 e1 e2 e3 e4 e5 ⟨(d.line.take (d.line.length - 1)).toArray⟩).1, (parseF e0 e1 e2 e3 e4 e5 ⟨(d.line.take (d.line.length - 1)).toArray⟩).2.1)] }) else moreD d c 6)
  else (2, d)
set_option maxHeartbeats 2000000 in
set_option maxRecDepth 100000 in
theorem Line1_any (h : DecAt W F D vl vf d) (c : UInt8) (hs0 : 0 ≤ d.size) (hs1 : d.byt ≤ 1000000) (hl : d.line.length ≤ 1000000) (hl1 : 1 ≤ d.line.length) (hfn : d.fields.length ≤ 1000000) {n0 : Nat} (hFn : ∀ k, F k → n0 ≤ k) (hT : TabR W n0 e0 e1 e2 e3 e4 e5) :
    Calls Tryz.prog 86 #[.pointer (some ⟨D, 0, none⟩), .int .u8 (c.toNat : Int)] W (StepP W F D (linD e0 e1 e2 e3 e4 e5 d c)) := by
  have H := Lib.hid h
  have HTab := Lib.hid hT
  by_cases h10 : c = 10
  · have hb : (((c.toNat : Nat) : Int) != 10) = false := by
      rw [bne_eq_false_iff_eq, h10]; rfl
    have hM := Lib.hid (More1_any h c 6 hs0 hs1 hl)
    have HL := Lib.hid (show linD e0 e1 e2 e3 e4 e5 d c = _ from if_pos h10)
    by_cases hge : d.size ≥ d.byt
    · have hmd : moreD d c 6 = (5, d) := if_pos hge
      rw [hmd] at hM
      have HR := Lib.hid (show linD e0 e1 e2 e3 e4 e5 d c = (5, d) by unfold linD; rw [if_pos h10, hmd]; rfl)
      clear h h10 hge hmd hT HL
      go_enter Tryz.func86, Tryz.ntmps86
      go_wp2_with fail
      refine hM.out.mono ?_; rintro e w1 hS
      have hS2 := Lib.hid hS
      obtain ⟨F', vl', vf', rfl, hrest⟩ := hS
      dsimp only
      clear hrest
      go_wp2_with fail
      go_ret
      rw [HR.out]
      exact hS2.out
    · have hmd : moreD d c 6 = (0, { d with size := d.size + 1, line := d.line ++ [c], place := 6 }) := if_neg hge
      rw [hmd] at hM
      have HR := Lib.hid (show linD e0 e1 e2 e3 e4 e5 d c = (0, { d with size := d.size + 1, place := 6, line := [], fields := d.fields ++ [((parseF e0 e1 e2 e3 e4 e5 ⟨(d.line.take (d.line.length - 1)).toArray⟩).1, (parseF e0 e1 e2 e3 e4 e5 ⟨(d.line.take (d.line.length - 1)).toArray⟩).2.1)] }) by
        unfold linD; rw [if_pos h10, hmd]; rfl)
      clear h h10 hge hmd hT HL
      go_enter Tryz.func86, Tryz.ntmps86
      go_wp2_with fail
      refine hM.out.mono ?_; rintro e w1 ⟨F', vl', vf', rfl, hD1, hF1, hT1⟩; dsimp only at hD1 ⊢
      obtain ⟨n, hn⟩ : ∃ n, (d.line ++ [c]).length = n := ⟨_, rfl⟩
      obtain ⟨m, hm⟩ : ∃ m, d.line.length - 1 = m := ⟨_, rfl⟩
      have hll : (d.line ++ [c]).length = d.line.length + 1 := by simp
      have hlin : w1.ownsRow 0 5 1 vl' n ((d.line ++ [c]).map encU) := by rw [← hn]; exact hD1.lin
      obtain ⟨g, cap, rfl⟩ := own_some hlin (by omega)
      obtain ⟨hcap, hcap2⟩ := own_cap hlin
      have mk := fun (w' : World) (hb : Below w1.heap.size w1 w') => Lib.hid (show Below w1.heap.size w1 w' ∧ w'.cell? ⟨D, 8, none⟩ = some (.slice (some ⟨g, 0, none⟩) n cap) ∧ (convert 39 9 (.slice (some ⟨g, 0, none⟩) m cap)).run Tryz.prog w' = .ok (.string ⟨(d.line.take m).toArray⟩) w' ∧ TabR w' w'.heap.size e0 e1 e2 e3 e4 e5 from by
        have h1 := hD1.below hb
        have hl1 : w'.ownsRow 0 5 1 (.slice (some ⟨g, 0, none⟩) n cap) n ((d.line ++ [c]).map encU) := by rw [← hn]; rw [hn]; exact hn ▸ h1.lin
        have hc := convRow hl1 (m := m) (by omega) hn cap
        rw [List.take_append_of_le_length (by omega)] at hc
        refine ⟨hb, h1.c8, hc, ?_⟩
        exact ((HTab.out.below (hT1.below HTab.out.ends.le hFn)).below (hb.mono (Nat.le_trans HTab.out.ends.le hT1.size))).up (Nat.le_trans HTab.out.ends.le (Nat.le_trans hT1.size hb.size)) (Nat.le_refl _))
      have HD1 := Lib.hid hD1
      have HF1 := Lib.hid hF1
      have HT1 := Lib.hid hT1
      have hlsz : (⟨(d.line.take m).toArray⟩ : ByteArray).size ≤ 1000000 := by show (d.line.take m).toArray.size ≤ _; rw [List.size_toArray, List.length_take]; omega
      have hP := fun (W' : World) (hT' : TabR W' W'.heap.size e0 e1 e2 e3 e4 e5) => Lib.hid (Parse_any _ hlsz hT')
      obtain ⟨ls, hls⟩ : ∃ ls : ByteArray, (⟨(d.line.take m).toArray⟩ : ByteArray) = ls := ⟨_, rfl⟩
      obtain ⟨pa, hpa⟩ : ∃ pa, parseF e0 e1 e2 e3 e4 e5 ls = pa := ⟨_, rfl⟩
      rw [hm] at HR
      rw [hls] at hP mk HR
      rw [hpa] at hP HR
      have s0 : (0 : Int) ≤ (m : Int) := Int.natCast_nonneg m
      have s1 : (m : Int) ≤ (cap : Int) := by omega
      have s2 : (n : Int) - 2 = (m : Int) := by omega
      have s3 : IntKind.i64.wrap ((n : Int) - 2) = (m : Int) := by rw [s2]; exact IntWalk.i64_in _ (by unfold maxLen at hcap2; omega)
      have Hll := Lib.hid hll
      have Hm := Lib.hid hm
      have Hn := Lib.hid hn
      clear hD1 hF1 hT1 hls hpa hll hm hn hlin s2 hlsz
      have mkA := fun (w' : World) (o : Obj) (h : Below w1.heap.size w1 w' ∧ w'.cell? ⟨D, 8, none⟩ = some (.slice (some ⟨g, 0, none⟩) n cap) ∧ (convert 39 9 (.slice (some ⟨g, 0, none⟩) m cap)).run Tryz.prog w' = .ok (.string ls) w' ∧ TabR w' w'.heap.size e0 e1 e2 e3 e4 e5) => mk _ (h.1.alloc h.1.size o)
      have mkC := fun (w' w'' : World) (h : Below w1.heap.size w1 w' ∧ w'.cell? ⟨D, 8, none⟩ = some (.slice (some ⟨g, 0, none⟩) n cap) ∧ (convert 39 9 (.slice (some ⟨g, 0, none⟩) m cap)).run Tryz.prog w' = .ok (.string ls) w' ∧ TabR w' w'.heap.size e0 e1 e2 e3 e4 e5) (hb : Below w'.heap.size w' w'') => mk _ (h.1.trans (hb.mono h.1.size))
      have mkD := fun (w' : World) (o : Obj) (hb : Below w1.drew.heap.size w1.drew w') => mk (w'.alloc o) (((Below.refl _ w1).drew.trans (hb.mono (by simp))).alloc (by have := hb.size; simpa using this) o)
      have mkE := fun (w' : World) (o : Obj) (v0 v1 : Value) (hb : Below (w1.drew.alloc o).heap.size (w1.drew.alloc o) w') => mk ((w'.setCell ⟨w1.drew.heap.size, 0, none⟩ v0).setCell ⟨w1.drew.heap.size, 1, none⟩ v1) (((((Below.refl _ w1).drew.alloc (by simp) o).trans (hb.mono (by simp))).setCell (p := ⟨w1.drew.heap.size, 0, none⟩) (by simp) v0).setCell (p := ⟨w1.drew.heap.size, 1, none⟩) (by simp) v1)
      have vA0 := fun (w' : World) => (show (w'.alloc (.cells #[.string ⟨#[]⟩, .string ⟨#[]⟩] 136 (0, 0))).cell? ⟨w'.heap.size, 0, none⟩ = some (.string ⟨#[]⟩) from by
        have h := World.alloc_heap_new w' (.cells #[.string ⟨#[]⟩, .string ⟨#[]⟩] 136 (0, 0))
        simp only [World.cell?, h]; rfl)
      have vA1 := fun (w' : World) => (show (w'.alloc (.cells #[.string ⟨#[]⟩, .string ⟨#[]⟩] 136 (0, 0))).cell? ⟨w'.heap.size, 1, none⟩ = some (.string ⟨#[]⟩) from by
        have h := World.alloc_heap_new w' (.cells #[.string ⟨#[]⟩, .string ⟨#[]⟩] 136 (0, 0))
        simp only [World.cell?, h]; rfl)
      have vF := fun (w' : World) (j : Nat) => (show (w'.alloc (.cells #[.string ⟨#[]⟩, .string ⟨#[]⟩] 136 (0, 0))).frozen? ⟨w'.heap.size, j, none⟩ = false from by
        have h := World.alloc_heap_new w' (.cells #[.string ⟨#[]⟩, .string ⟨#[]⟩] 136 (0, 0))
        generalize w'.alloc _ = V at *
        simp [World.frozen?, h])
      have vB := fun (w' : World) (hb : Below (w1.drew.alloc (.cells #[.string ⟨#[]⟩, .string ⟨#[]⟩] 136 (0, 0))).heap.size (w1.drew.alloc (.cells #[.string ⟨#[]⟩, .string ⟨#[]⟩] 136 (0, 0))) w') => (show w'.cell? ⟨w1.heap.size, 0, none⟩ = some (.string ⟨#[]⟩) ∧ w'.cell? ⟨w1.heap.size, 1, none⟩ = some (.string ⟨#[]⟩) ∧ w'.frozen? ⟨w1.heap.size, 0, none⟩ = false ∧ w'.frozen? ⟨w1.heap.size, 1, none⟩ = false from by
        have h := World.alloc_heap_new w1.drew (.cells #[.string ⟨#[]⟩, .string ⟨#[]⟩] 136 (0, 0))
        have h2 := (hb.block w1.heap.size (by simp)).trans h
        refine ⟨?_, ?_, ?_, ?_⟩ <;> simp [World.cell?, World.frozen?, h2])
      have hPc := fun (w' : World) (h : Below w1.heap.size w1 w' ∧ w'.cell? ⟨D, 8, none⟩ = some (.slice (some ⟨g, 0, none⟩) n cap) ∧ (convert 39 9 (.slice (some ⟨g, 0, none⟩) m cap)).run Tryz.prog w' = .ok (.string ls) w' ∧ TabR w' w'.heap.size e0 e1 e2 e3 e4 e5) => hP _ h.2.2.2
      clear hP
      go_wp2_with fail
      go_region_held3 (fun w' => Below w1.heap.size w1 w' ∧ w'.cell? ⟨D, 8, none⟩ = some (.slice (some ⟨g, 0, none⟩) n cap) ∧ (convert 39 9 (.slice (some ⟨g, 0, none⟩) m cap)).run Tryz.prog w' = .ok (.string ls) w' ∧ TabR w' w'.heap.size e0 e1 e2 e3 e4 e5)
        (first | exact (mk _ (Below.refl _ _).drew).out | exact (mkD _ _ (by assumption)).out | exact (mkE _ _ _ _ (by assumption)).out | exact (mkA _ _ (by assumption)).out | exact (mkC _ _ (by assumption) (by assumption)).out | assumption)
        ((go_at_call 94; refine (hPc _ (by assumption)).out.mono ?_; rintro e w' ⟨rfl, hb⟩; first | have q0 := (vB _ hb).1; have q1 := (vB _ hb).2.1; have q2 := (vB _ hb).2.2.1; have q3 := (vB _ hb).2.2.2 | skip))
      all_goals (first
        | (obtain ⟨W6, e6⟩ : ∃ W6, (w'.setCell ⟨w1.heap.size, 0, none⟩ (.string pa.1)).setCell ⟨w1.heap.size, 1, none⟩ (.string pa.2.1) = W6 := ⟨_, rfl⟩
           rw [e6]
           have HX : Hid (Below w1.heap.size w1 W6 ∧ w1.heap.size ≤ w1.heap.size ∧ W6.heap[w1.heap.size]? = some (.cells #[.string pa.1, .string pa.2.1] 136 (0, 0))) := Lib.hid (by
             have h1 := (mkE w' _ (.string pa.1) (.string pa.2.1) hb).out.1
             have h := World.alloc_heap_new w1.drew (.cells #[.string ⟨#[]⟩, .string ⟨#[]⟩] 136 (0, 0))
             have h2 := (hb.block w1.heap.size (by simp)).trans h
             have h3 := set2_1 (.string pa.2.1) (set2_0 (.string pa.1) h2)
             rw [← e6]
             exact ⟨h1, Nat.le_refl _, h3⟩)
           clear e6 hb
           obtain ⟨V, eV⟩ : ∃ V, w1.heap.size = V := ⟨_, rfl⟩
           rw [eV] at HX ⊢
           obtain ⟨HB6, HV, HV2⟩ := HX.out
           rw [← eV] at HB6 HV
           clear eV)
        | (obtain ⟨W6, e6⟩ : ∃ W6, (w'.alloc (.cells #[.string pa.1, .string pa.2.1] 136 (0, 0))) = W6 := ⟨_, rfl⟩
           rw [e6]
           have HX : Hid (Below w1.heap.size w1 W6 ∧ w1.heap.size ≤ w'.heap.size ∧ W6.heap[w'.heap.size]? = some (.cells #[.string pa.1, .string pa.2.1] 136 (0, 0))) := Lib.hid (by
             have h1 := (mkD w' (.cells #[.string pa.1, .string pa.2.1] 136 (0, 0)) hb).out.1
             have h := World.alloc_heap_new w' (.cells #[.string pa.1, .string pa.2.1] 136 (0, 0))
             rw [← e6]
             exact ⟨h1, by have := hb.size; simpa using this, h⟩)
           clear e6 hb
           obtain ⟨V, eV⟩ : ∃ V, w'.heap.size = V := ⟨_, rfl⟩
           rw [eV] at HX ⊢
           obtain ⟨HB6, HV, HV2⟩ := HX.out
           clear eV))
      all_goals
        clear vA0 vA1 vF vB hPc mkA mkC mkD mkE mk
        have HD6 := Lib.hid (HD1.out.below HB6)
        have HT6 := Lib.hid (HT1.out.trans (Touch.of_new (X := F) HB6))
        have hD1l := HD1.out.lt D HD1.out.hD
        have c9 := HD6.out.c9
        have f9 := HD6.out.f 9
        have v0 := cell2_0 HV2
        have v1 := cell2_1 HV2
        have vf2 : W6.heap.size ≥ w1.heap.size := HB6.size
        obtain ⟨i0, hi, hz0, hz1, hz2⟩ := Tryz.info_fldR
        have c9a : (W6.alloc (.cells #[.string pa.1, .string pa.2.1] 136 (0, 0))).cell? ⟨D, 9, none⟩ = some vf' := (HD6.out.below ((Below.refl _ W6).alloc (Nat.le_refl _) _)).c9
        obtain ⟨fn, hfn2⟩ : ∃ fn, d.fields.length = fn := ⟨_, rfl⟩
        rw [hfn2] at hfn
        have HO : Hid (((W6.alloc (.cells #[.string pa.1, .string pa.2.1] 136 (0, 0))).drew).ownsRow 0 136 2 vf' fn (fldC d.fields)) := Lib.hid (by
          have h := (HD6.out.below (((Below.refl _ W6).alloc (Nat.le_refl _) (.cells #[.string pa.1, .string pa.2.1] 136 (0, 0))).drew)).fld
          rw [← hfn2]; exact h)
        have HP := fun (gg cap' : Nat) (w7 : World) (h1 : _) (h2 : _) (h3 : _) => Lib.hid (fld_put HD6.out (tmp := .cells #[.string pa.1, .string pa.2.1] 136 (0, 0)) (w7 := w7) h1 (f := (pa.1, pa.2.1)) (gg := gg) (cap := cap') hfn2 h2 h3)
        go_wp2_with fail
        go_region_law ((refine step_append_lies _ (by rfl) _ _ _ (by rfl) 0 136 i0 _ 2 32 Tryz.underlying99 hi hz0 hz1 hz2 rfl (by omega) vf' fn _ (by rfl) HO.out ⟨W6.heap.size, 0, none⟩ 1 1 [.string pa.1, .string pa.2.1] (by rfl) (by rfl) (World.news_of_block (cs := #[.string pa.1, .string pa.2.1]) (t := 136) (fr := (0, 0)) (heap_alloc_new W6 _)) (by simp [Value.oneCell']) (by omega) (by unfold maxLen; omega) (by omega) (Nat.zero_le _) (W6.heap.size + 1) (by simp) ?_; intro gg cap' w7 hown hgrow hat hglt; have hp := HP gg cap' w7 hgrow hown hat; have k9 := hp.out.1; have l9 := hp.out.2.1; have k8 := hp.out.2.2.1; have l8 := hp.out.2.2.2.1; clear hown hgrow hat hglt))
        all_goals
          go_wp2_with fail
          go_ret
          rw [HR.out]
          obtain ⟨F2, hd2, hF2, ht2⟩ := hp.out.2.2.2.2
          exact ⟨F2, _, _, rfl, hd2.noLine, fun k hk => (hF2 k hk).elim (HF1.out k) (fun h => .inr (Nat.le_trans HT6.out.size h)), (HT6.out.join ht2 HF1.out).setCell (p := ⟨D, 8, none⟩) (.inl H.out.hD) _⟩
  · have hb : (((c.toNat : Nat) : Int) != 10) = true := by
      rw [bne_iff_ne]; intro e; exact h10 (UInt8.toNat_inj.1 (by have : ((10 : UInt8).toNat : Int) = 10 := rfl; omega))
    have HR := Lib.hid (show linD e0 e1 e2 e3 e4 e5 d c = (2, d) from if_neg h10)
    clear h h10 hT
    go_enter Tryz.func86, Tryz.ntmps86
    go_wp2_with fail
    go_ret
    rw [HR.out]
    exact ⟨F, vl, vf, rfl, H.out, fun k hk => .inl hk, Touch.refl _ _⟩
end

end Go.Proofs.YtfeljjlpdefnmaaGreat
