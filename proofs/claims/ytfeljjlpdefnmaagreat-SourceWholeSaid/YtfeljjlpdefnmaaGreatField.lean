/-
  Layer 5 (field): is a field right; a line's field.
-/
import Derived.Test.YtfeljjlpdefnmaaGreatOctet
import Derived.Shelf.Strings.SlTrimAscii
namespace Go.Proofs.YtfeljjlpdefnmaaGreat
open Go.RowKit
set_option linter.unusedVariables false
set_option linter.unusedSimpArgs false
attribute [local go_sem] Oper.semAt_some

/-- What the field's code reads of the world. -/
structure TabR (W : World) (n : Nat) (e0 e1 e2 e3 e4 e5 : Int) : Prop where
  ends : EndsT W n e0 e1 e2 e3 e4 e5
  maxLen : ∃ m, W.cell? ⟨1, 0, none⟩ = some (.int .i64 m)
  lt : 1 < n
theorem TabR.below {W W' : World} {n : Nat} {e0 e1 e2 e3 e4 e5 : Int} (h : TabR W n e0 e1 e2 e3 e4 e5) (hb : Below n W W') : TabR W' n e0 e1 e2 e3 e4 e5 :=
  ⟨h.ends.below hb, h.maxLen.imp fun m hm => (hb.cell (p := ⟨1, 0, none⟩) h.lt).trans hm, h.lt⟩
theorem EndsT.up {W : World} {n m : Nat} {e0 e1 e2 e3 e4 e5 : Int} (h : EndsT W n e0 e1 e2 e3 e4 e5) (h1 : n ≤ m) (h2 : m ≤ W.heap.size) : EndsT W m e0 e1 e2 e3 e4 e5 := ⟨h.c0, h.c1, h.c2, h.c3, h.c4, h.c5, Nat.lt_of_lt_of_le h.lt h1, h2⟩
theorem TabR.up {W : World} {n m : Nat} {e0 e1 e2 e3 e4 e5 : Int} (h : TabR W n e0 e1 e2 e3 e4 e5) (h1 : n ≤ m) (h2 : m ≤ W.heap.size) : TabR W m e0 e1 e2 e3 e4 e5 := ⟨h.ends.up h1 h2, h.maxLen, Nat.lt_of_lt_of_le h.lt h1⟩

def trimV (s : ByteArray) : ByteArray := ⟨(Lib.trimS s.data.toList [32, 9]).toArray⟩
theorem Tryz.info_set : (Tryz.prog.info? 152).map (fun i => (i.zero, i.size)) = some (some (.agg (Array.replicate 256 (.bool false))), 256) := by kernel_rfl
theorem Trim_any (s : ByteArray) (hs : s.size ≤ 1000000) (w : World) :
    Calls Tryz.prog 101 #[.string s] w fun e w' => e = .returned (.string (trimV s)) ∧ Below w.heap.size w w' := by
  have hT := fun W => Lib.hid (Any.strings_Trim_laid Tryz.lays160 Tryz.info_set s ⟨#[32, 9]⟩ W (by omega) (by decide) (ascii_of_all (by decide)))
  go_enter Tryz.func101, Tryz.ntmps101
  go_wp2_with fail
  refine (hT _).out.mono ?_; rintro e w1 ⟨rfl, hb⟩; dsimp only
  have HB := Lib.hid hb
  clear hb
  go_wp2_with fail
  go_ret
  exact ⟨rfl, HB.out⟩

def isVal (s : ByteArray) : Bool := isTxt s && decide ((trimV s).data.toList = s.data.toList)
theorem Value_any (s : ByteArray) (hs : s.size ≤ 1000000) (w : World) :
    Calls Tryz.prog 106 #[.string s] w fun e w' => e = .returned (.bool (isVal s)) ∧ Below w.heap.size w w' := by
  have hX := fun W => Lib.hid (Text_any s hs W)
  have hT := fun W => Lib.hid (Trim_any s hs W)
  have HV := Lib.hid (show isVal s = (isTxt s && decide ((trimV s).data.toList = s.data.toList)) from rfl)
  obtain ⟨b, hb⟩ : ∃ b, isTxt s = b := ⟨_, rfl⟩
  rw [hb] at hX HV
  have Hb := Lib.hid hb
  clear hb
  obtain ⟨ts, hts⟩ : ∃ ts, trimV s = ts := ⟨_, rfl⟩
  rw [hts] at hT HV
  clear hts
  cases b with
  | false =>
    go_enter Tryz.func106, Tryz.ntmps106
    go_wp2_with fail
    refine (hX _).out.mono ?_; rintro e w1 ⟨rfl, hb1⟩; dsimp only
    have HB1 := Lib.hid hb1
    clear hb1
    go_wp2_with fail
    go_ret
    exact ⟨ret_bool (by rw [HV.out]; rfl), HB1.out⟩
  | true =>
    by_cases he : ts.data.toList = s.data.toList
    · have he2 : (ts.toList == s.toList) = true := by rw [Lib.toList_data, Lib.toList_data]; exact beq_iff_eq.2 he
      have Hd := Lib.hid (show decide (ts.data.toList = s.data.toList) = true from decide_eq_true he)
      clear he
      go_enter Tryz.func106, Tryz.ntmps106
      go_wp2_with fail
      refine (hX _).out.mono ?_; rintro e w1 ⟨rfl, hb1⟩; dsimp only
      have HB1 := Lib.hid hb1
      clear hb1
      go_wp2_with fail
      refine (hT _).out.mono ?_; rintro e w2 ⟨rfl, hb2⟩; dsimp only
      have HB2 := Lib.hid (HB1.out.trans (hb2.mono HB1.out.size))
      clear hb2
      go_wp2_with fail
      go_ret
      exact ⟨ret_bool (by rw [HV.out, Hd.out]; rfl), HB2.out⟩
    · have he2 : (ts.toList == s.toList) = false := by rw [Lib.toList_data, Lib.toList_data]; exact beq_eq_false_iff_ne.2 he
      have Hd := Lib.hid (show decide (ts.data.toList = s.data.toList) = false from decide_eq_false he)
      clear he
      go_enter Tryz.func106, Tryz.ntmps106
      go_wp2_with fail
      refine (hX _).out.mono ?_; rintro e w1 ⟨rfl, hb1⟩; dsimp only
      have HB1 := Lib.hid hb1
      clear hb1
      go_wp2_with fail
      refine (hT _).out.mono ?_; rintro e w2 ⟨rfl, hb2⟩; dsimp only
      have HB2 := Lib.hid (HB1.out.trans (hb2.mono HB1.out.size))
      clear hb2
      go_wp2_with fail
      go_ret
      exact ⟨ret_bool (by rw [HV.out, Hd.out]; rfl), HB2.out⟩

section
variable {e0 e1 e2 e3 e4 e5 : Int}
def fRight (e0 e1 e2 e3 e4 e5 : Int) (a b : ByteArray) : Bool := isTok e0 e1 e2 e3 e4 e5 a && isVal b
theorem FRight_any (a b : ByteArray) (ha : a.size ≤ 1000000) (hb : b.size ≤ 1000000) {w : World} (hT : TabR w w.heap.size e0 e1 e2 e3 e4 e5) :
    Calls Tryz.prog 102 #[.agg #[.string a, .string b]] w fun e w' => e = .returned (.bool (fRight e0 e1 e2 e3 e4 e5 a b)) ∧ Below w.heap.size w w' := by
  obtain ⟨W, eW, hW, hz, v0⟩ : ∃ W, w.alloc (.cells #[.string a, .string b] 136) = W ∧ Below w.heap.size w W ∧ W.heap.size = w.heap.size + 1 ∧ W.heap[w.heap.size]? = some (.cells #[.string a, .string b] 136 (0, 0)) := ⟨_, rfl, (Below.refl _ w).alloc (Nat.le_refl _) _, by simp, World.alloc_heap_new _ _⟩
  have HW := Lib.hid hW
  have hK := Lib.hid (Token_any a ha ((hT.below hW).up (by omega) (Nat.le_refl _)).ends)
  have hV := fun W => Lib.hid (Value_any b hb W)
  have HR := Lib.hid (show fRight e0 e1 e2 e3 e4 e5 a b = (isTok e0 e1 e2 e3 e4 e5 a && isVal b) from rfl)
  have x0 : W.cell? ⟨w.heap.size, 0, none⟩ = some (.string a) := by simp [World.cell?, v0]
  have V0 := Lib.hid v0
  have hlt : w.heap.size < W.heap.size := by omega
  clear hT hW v0 hz
  obtain ⟨bk, hbk⟩ : ∃ bk, isTok e0 e1 e2 e3 e4 e5 a = bk := ⟨_, rfl⟩
  rw [hbk] at hK HR
  clear hbk
  cases bk with
  | false =>
    go_enter Tryz.func102, Tryz.ntmps102
    go_wp2_with fail
    refine hK.out.mono ?_; rintro e w1 ⟨rfl, hb1⟩; dsimp only
    have HB1 := Lib.hid hb1
    clear hb1
    go_wp2_with fail
    go_ret
    exact ⟨ret_bool (by rw [HR.out]; rfl), HW.out.trans (HB1.out.mono HW.out.size)⟩
  | true =>
    go_enter Tryz.func102, Tryz.ntmps102
    go_wp2_with fail
    refine hK.out.mono ?_; rintro e w1 ⟨rfl, hb1⟩; dsimp only
    have HB1 := Lib.hid hb1
    have V1 := (hb1.block w.heap.size hlt).trans V0.out
    have x1 : w1.cell? ⟨w.heap.size, 1, none⟩ = some (.string b) := by simp [World.cell?, V1]
    clear hb1 V1 x0
    go_wp2_with fail
    refine (hV _).out.mono ?_; rintro e w2 ⟨rfl, hb2⟩; dsimp only
    have HB2 := Lib.hid (HB1.out.trans (hb2.mono HB1.out.size))
    clear hb2
    go_wp2_with fail
    go_ret
    exact ⟨ret_bool (by rw [HR.out, Bool.true_and]), HW.out.trans (HB2.out.mono HW.out.size)⟩

theorem results_ct {P : Program} {fn : Func} {p u : Tmp} {ty : TypeId} (h : fn.results = #[.cell p ty, .tmp u]) (tmps : Array Value) (w : World) (g : Nat) (t : TypeId) (cs : Array Value) (fr : Nat × Nat) (d : TypeDesc)
    (hp : tmps.getD p undef = .pointer (some ⟨g, 0, none⟩)) (hg : w.heap[g]? = some (.cells cs t fr))
    (hu : P.underlying ty = some d) (hd : (match d with | .struct _ | .array _ _ => true | _ => false) = true) (hi : (P.info? ty).map (·.size) = some cs.size) :
    (results fn tmps).run P w = .ok (.tuple #[.agg cs, tmps.getD u undef]) w := by
  have hp' : tmps[p]?.getD undef = .pointer (some ⟨g, 0, none⟩) := by simpa using hp
  simp [results, h, hp', asAddr, run_loadVar_row w g t ty cs fr d hg hu hd hi]
theorem Tryz.size_field : (Tryz.prog.info? 136).map (·.size) = some 2 := by kernel_rfl

theorem setBoxR {W : World} {B j : Nat} {cs : Array Value} {t : TypeId} (v : Value) (h : W.heap[B]? = some (.cells cs t (0, 0))) : (W.setCell ⟨B, j, none⟩ v).heap[B]? = some (.cells (cs.setIfInBounds j v) t (0, 0)) := by
  obtain ⟨hlt, hk⟩ := Array.getElem?_eq_some_iff.1 h
  show (W.heap.modify B _)[B]? = _
  rw [Array.getElem?_eq_getElem (by rw [Array.size_modify]; exact hlt), Array.getElem_modify_self, hk]
  rfl
theorem set2R {W : World} {g : Nat} {t : TypeId} {a b : Value} (h : W.heap[g]? = some (.cells #[a, b] t (0, 0))) (v0 v1 : Value) :
    ∃ W', (W.setCell ⟨g, 0, none⟩ v0).setCell ⟨g, 1, none⟩ v1 = W' ∧ W'.heap[g]? = some (.cells #[v0, v1] t (0, 0)) ∧ Touch (fun k => k = g) W W' := by
  have h0 : (W.setCell ⟨g, 0, none⟩ v0).heap[g]? = some (.cells #[v0, b] t (0, 0)) := setBoxR v0 h
  have b0 : Touch (fun k => k = g) W (W.setCell ⟨g, 0, none⟩ v0) := (Touch.refl (fun k => k = g) W).setCell (p := ⟨g, 0, none⟩) (.inl rfl) v0
  generalize W.setCell ⟨g, 0, none⟩ v0 = W1 at *
  exact ⟨_, rfl, setBoxR v1 h0, b0.setCell (p := ⟨g, 1, none⟩) (.inl rfl) v1⟩
/-- A line's field. -/
def parseF (e0 e1 e2 e3 e4 e5 : Int) (line : ByteArray) : ByteArray × ByteArray × Int :=
  if (Lib.cut line.data.toList [58]).2.2 = true ∧ fRight e0 e1 e2 e3 e4 e5 ⟨(Lib.cut line.data.toList [58]).1.toArray⟩ (trimV ⟨(Lib.cut line.data.toList [58]).2.1.toArray⟩) = true then
    (⟨(Lib.cut line.data.toList [58]).1.toArray⟩, trimV ⟨(Lib.cut line.data.toList [58]).2.1.toArray⟩, 0) else (⟨#[]⟩, ⟨#[]⟩, 2)
theorem parseF_of {line : ByteArray} {a r : List UInt8} {ok : Bool} (h : Lib.cut line.data.toList [58] = (a, r, ok)) :
    parseF e0 e1 e2 e3 e4 e5 line = if ok = true ∧ fRight e0 e1 e2 e3 e4 e5 ⟨a.toArray⟩ (trimV ⟨r.toArray⟩) = true then (⟨a.toArray⟩, trimV ⟨r.toArray⟩, 0) else (⟨#[]⟩, ⟨#[]⟩, 2) := by
  unfold parseF
  rw [h]
theorem cut_sizes (l : List UInt8) : (Lib.cut l [58]).1.length ≤ l.length ∧ (Lib.cut l [58]).2.1.length ≤ l.length := by
  unfold Lib.cut
  split
  · exact ⟨by show (List.take _ _).length ≤ _; rw [List.length_take]; omega, by show (List.drop _ _).length ≤ _; rw [List.length_drop]; omega⟩
  · exact ⟨Nat.le_refl _, by simp⟩
theorem dropWhile_len {α : Type} (p : α → Bool) : ∀ l : List α, (l.dropWhile p).length ≤ l.length
  | [] => by simp
  | a :: l => by
    rw [List.dropWhile_cons]
    split
    · have := dropWhile_len p l; rw [List.length_cons]; omega
    · exact Nat.le_refl _
theorem trimV_size (s : ByteArray) : (trimV s).size ≤ s.size := by
  show (List.toArray _).size ≤ _
  rw [List.size_toArray]
  unfold Lib.trimS Lib.trimLeftS Lib.trimRightS
  refine Nat.le_trans (dropWhile_len _ _) ?_
  rw [List.length_reverse]
  refine Nat.le_trans (dropWhile_len _ _) ?_
  rw [List.length_reverse]
  simp
set_option maxHeartbeats 1000000 in
set_option maxRecDepth 100000 in
theorem Parse_any (line : ByteArray) (hl : line.size ≤ 1000000) {w : World} (hT : TabR w w.heap.size e0 e1 e2 e3 e4 e5) :
    Calls Tryz.prog 94 #[.string line] w fun e w' => e = .returned (.tuple #[.agg #[.string (parseF e0 e1 e2 e3 e4 e5 line).1, .string (parseF e0 e1 e2 e3 e4 e5 line).2.1], .int .i64 (parseF e0 e1 e2 e3 e4 e5 line).2.2]) ∧ Below w.heap.size w w' := by
  obtain ⟨W, eW, hW, hz, v0⟩ : ∃ W, w.alloc (.cells #[.string ⟨#[]⟩, .string ⟨#[]⟩] 136) = W ∧ Below w.heap.size w W ∧ W.heap.size = w.heap.size + 1 ∧ W.heap[w.heap.size]? = some (.cells #[.string ⟨#[]⟩, .string ⟨#[]⟩] 136 (0, 0)) := ⟨_, rfl, (Below.refl _ w).alloc (Nat.le_refl _) _, by simp, World.alloc_heap_new _ _⟩
  have HW := Lib.hid hW
  have V0 := Lib.hid v0
  have HT := Lib.hid ((hT.below hW).up (show w.heap.size ≤ W.heap.size by omega) (Nat.le_refl _))
  obtain ⟨m, hm⟩ := HT.out.maxLen
  have hC := Lib.hid (Tryz.strings_Cut line ⟨#[58]⟩ m W (by omega) hm)
  obtain ⟨c1, c2⟩ := cut_sizes line.data.toList
  have hll : line.data.toList.length = line.size := by simp
  clear hT hW v0 hm
  obtain ⟨ct, hct⟩ : ∃ ct, Lib.cut line.data.toList [58] = ct := ⟨_, rfl⟩
  have hct2 : Lib.cut line.data.toList (⟨#[58]⟩ : ByteArray).data.toList = ct := hct
  rw [hct2] at hC
  rw [hct] at c1 c2
  obtain ⟨a, r, ok⟩ := ct
  have HP := Lib.hid (parseF_of (e0 := e0) (e1 := e1) (e2 := e2) (e3 := e3) (e4 := e4) (e5 := e5) hct)
  clear hct hct2
  dsimp only at hC HP c1 c2
  obtain ⟨na, hna⟩ : ∃ na : ByteArray, (⟨a.toArray⟩ : ByteArray) = na := ⟨_, rfl⟩
  obtain ⟨re, hre⟩ : ∃ re : ByteArray, (⟨r.toArray⟩ : ByteArray) = re := ⟨_, rfl⟩
  have hns : na.size ≤ 1000000 := by rw [← hna]; show a.toArray.size ≤ _; rw [List.size_toArray]; omega
  have hrs : re.size ≤ 1000000 := by rw [← hre]; show r.toArray.size ≤ _; rw [List.size_toArray]; omega
  rw [hna, hre] at hC HP
  have hTr := fun W => Lib.hid (Trim_any re hrs W)
  have hvs := Nat.le_trans (trimV_size re) hrs
  obtain ⟨va, hva⟩ : ∃ va, trimV re = va := ⟨_, rfl⟩
  rw [hva] at hTr HP hvs
  clear hna hre hva c1 c2 hll
  have hz1 : w.heap.size < W.heap.size := by omega
  go_enter Tryz.func94, Tryz.ntmps94
  go_wp2_with fail
  refine hC.out.mono ?_; rintro e w1 ⟨rfl, q, rfl⟩; dsimp only
  go_wp2_with fail
  refine (hTr _).out.mono ?_; rintro e w2 ⟨rfl, hb2⟩; dsimp only
  have HB2 := Lib.hid (show Below W.heap.size W w2 from Below.trans (b := W.drewN q) ⟨rfl, rfl, rfl, Nat.le_refl _, fun _ _ => rfl⟩ hb2)
  clear hb2
  obtain ⟨U, eU, hU, hzU, u0⟩ : ∃ U, w2.alloc (.cells #[.string na, .string va] 136) = U ∧ Below w2.heap.size w2 U ∧ U.heap.size = w2.heap.size + 1 ∧ U.heap[w2.heap.size]? = some (.cells #[.string na, .string va] 136 (0, 0)) := ⟨_, rfl, (Below.refl _ w2).alloc (Nat.le_refl _) _, by simp, World.alloc_heap_new _ _⟩
  have HBU := Lib.hid (HB2.out.trans (hU.mono HB2.out.size))
  have hV1 := (HBU.out.block w.heap.size (by omega)).trans V0.out
  have HV1 := Lib.hid hV1
  have HFR := Lib.hid (FRight_any na va hns hvs ((HT.out.below HBU.out).up HBU.out.size (Nat.le_refl _)))
  have f0 : ∀ j, U.frozen? ⟨w.heap.size, j, none⟩ = false := fun j => by simp [World.frozen?, hV1]
  have z0 : U.cell? ⟨w.heap.size, 0, none⟩ = some (.string ⟨#[]⟩) := by simp [World.cell?, hV1]
  have z1 : U.cell? ⟨w.heap.size, 1, none⟩ = some (.string ⟨#[]⟩) := by simp [World.cell?, hV1]
  have y0 : U.cell? ⟨w2.heap.size, 0, none⟩ = some (.string na) := by simp [World.cell?, u0]
  have y1 : U.cell? ⟨w2.heap.size, 1, none⟩ = some (.string va) := by simp [World.cell?, u0]
  clear hU hzU u0 hV1
  cases ok with
  | false =>
    go_wp2_with fail
    obtain ⟨W7, e7, k0, t7⟩ := set2R HV1.out (.string ⟨#[]⟩) (.string ⟨#[]⟩)
    rw [e7]
    refine bodyPost_ret (results_ct rfl _ _ _ _ _ _ _ rfl k0 Tryz.underlying136 rfl Tryz.size_field) rfl ?_
    rw [HP.out, if_neg (by simp)]
    exact ⟨rfl, HW.out.trans ((HBU.out.mono HW.out.size).trans (t7.below (n := w.heap.size) (by have := HBU.out.size; omega) (fun k hk => by omega)))⟩
  | true =>
    obtain ⟨b, hb⟩ : ∃ b, fRight e0 e1 e2 e3 e4 e5 na va = b := ⟨_, rfl⟩
    rw [hb] at HFR
    have Hb := Lib.hid hb
    clear hb
    go_wp2_with fail
    refine HFR.out.mono ?_; rintro e w3 ⟨rfl, hb3⟩; dsimp only
    have hV3 := (hb3.block w.heap.size (by have := HBU.out.size; omega)).trans HV1.out
    have HV3 := Lib.hid hV3
    have y0 := (hb3.cell (p := ⟨w2.heap.size, 0, none⟩) (World.block_lt_of_cell? U _ y0)).trans y0
    have y1 := (hb3.cell (p := ⟨w2.heap.size, 1, none⟩) (World.block_lt_of_cell? U _ y1)).trans y1
    have HB3 := Lib.hid (HBU.out.trans (hb3.mono HBU.out.size))
    have f0 : ∀ j, w3.frozen? ⟨w.heap.size, j, none⟩ = false := fun j => by simp [World.frozen?, hV3]
    have z0 : w3.cell? ⟨w.heap.size, 0, none⟩ = some (.string ⟨#[]⟩) := by simp [World.cell?, hV3]
    have z1 : w3.cell? ⟨w.heap.size, 1, none⟩ = some (.string ⟨#[]⟩) := by simp [World.cell?, hV3]
    clear hb3 hV3
    cases b with
    | false =>
      go_wp2_with fail
      obtain ⟨W7, e7, k0, t7⟩ := set2R HV3.out (.string ⟨#[]⟩) (.string ⟨#[]⟩)
      rw [e7]
      refine bodyPost_ret (results_ct rfl _ _ _ _ _ _ _ rfl k0 Tryz.underlying136 rfl Tryz.size_field) rfl ?_
      rw [HP.out, if_neg (by rw [Hb.out]; simp)]
      exact ⟨rfl, HW.out.trans ((HB3.out.mono HW.out.size).trans (t7.below (n := w.heap.size) (by have := HB3.out.size; omega) (fun k hk => by omega)))⟩
    | true =>
      go_wp2_with fail
      obtain ⟨W7, e7, k0, t7⟩ := set2R HV3.out (.string na) (.string va)
      rw [e7]
      refine bodyPost_ret (results_ct rfl _ _ _ _ _ _ _ rfl k0 Tryz.underlying136 rfl Tryz.size_field) rfl ?_
      rw [HP.out, if_pos ⟨by first | rfl | trivial, Hb.out⟩]
      exact ⟨rfl, HW.out.trans ((HB3.out.mono HW.out.size).trans (t7.below (n := w.heap.size) (by have := HB3.out.size; omega) (fun k hk => by omega)))⟩
end

end Go.Proofs.YtfeljjlpdefnmaaGreat
