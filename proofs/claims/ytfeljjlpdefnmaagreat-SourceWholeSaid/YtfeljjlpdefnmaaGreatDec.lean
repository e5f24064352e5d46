/-
  Layer 9 (dechunk): a decoder in memory; the small steps.
-/
import Derived.Test.YtfeljjlpdefnmaaGreatField
import Derived.Test.YtfeljjlpdefnmaaGreatHexD
namespace Go.Proofs.YtfeljjlpdefnmaaGreat
open Go.RowKit
set_option linter.unusedVariables false
set_option linter.unusedSimpArgs false
attribute [local go_sem] Oper.semAt_some

theorem wpList_appF {P : Program} {w : World} {ops : Array Oper} {rest : List Oper} {o : Oper} {a : Act} {Q : Exit → Act → World → Prop} (hw : Region.wanted o (yielded ops a.tmps) = true) (s x : Operand) (t : TypeId)
    (ho : o.op = .call { callee := .builtin .append, args := #[s, x], argTypes := #[t, t] })
    (base : Nat) (e : TypeId) (i : TypeInfo) (z : Value) (size bytes : Nat) (ht : P.underlying t = some (.slice e)) (hi : P.info? e = some i) (hz : i.zero = some z)
    (hsize : i.size = size) (hby : i.bytes = bytes) (hzs : z.cells.size = size) (hsz : 0 < size)
    (v : Value) (n : Nat) (xs : List Value) (hs : a.eval s = v) (hown : w.ownsRow base e size v n xs)
    (ad : Addr) (m c : Nat) (news : List Value) (hx : a.eval x = .slice (some ad) m c) (hl : news.length = m * size) (hnews : ∀ j u, news[j]? = some u → w.cell? (ad.add j) = some u) (h1 : ∀ u ∈ news, u.oneCell' = true)
    (h63 : n + m ≤ maxLen) (hbytes : (n + m) * bytes ≤ 140737488355328) (hbase : base ≤ w.heap.size)
    (h : ∀ v' w', w'.ownsRow base e size v' (n + m) (xs ++ news) → w.grownBy w' v.ownBlock → (v'.ownBlock = v.ownBlock ∨ v'.ownBlock = some w.heap.size) → wpList P ops Q rest (a.put o.dst v') w') : wpList P ops Q (o :: rest) a w := by
  refine wpList_wanted hw fun K hK => ?_
  obtain ⟨v', w', hr, h2, h3, h4, h5⟩ := run_append_own_at (P := P) w base t o.type e i z size bytes ht hi hz hsize hby hzs hsz v n xs hown ad m c news hl hnews h1 h63 hbytes hbase
  unfold Oper.wp execOp
  simp only [ho, resolve, invoke, builtin, Sem.run_bind, Sem.run_pure, Result.andThen_ok, List.map_toArray, List.map_cons, List.map_nil, hs, hx, hr]
  exact hK _ _ (h v' w' h2 h3 h5)

theorem own_some {W : World} {base : Nat} {e : TypeId} {size n : Nat} {v : Value} {xs : List Value} (h : W.ownsRow base e size v n xs) (hn : 0 < n) : ∃ g cap, v = .slice (some ⟨g, 0, none⟩) n cap := by
  rcases h.2 with ⟨_, h0⟩ | ⟨g, cap, cur, rfl, _⟩
  · omega
  · exact ⟨g, cap, rfl⟩
structure Dec where
  ext : Int
  fls : Int
  byt : Int
  place : Int
  n : Int
  count : Int
  lines : Int
  size : Int
  line : List UInt8
  fields : List (ByteArray × ByteArray)
  taken : Int
  given : Int
  e : Int

def encU (c : UInt8) : Value := .int .u8 (c.toNat : Int)
def fldC (l : List (ByteArray × ByteArray)) : List Value := l.flatMap fun f => [.string f.1, .string f.2]
/-- A decoder in block D; it lies in the blocks F. -/
structure DecAt (W : World) (F : Nat → Prop) (D : Nat) (vl vf : Value) (d : Dec) : Prop where
  box : W.heap[D]? = some (.cells #[.int .i64 d.ext, .int .i64 d.fls, .int .i64 d.byt, .int .i64 d.place, .int .u64 d.n, .int .i64 d.count, .int .i64 d.lines, .int .i64 d.size, vl, vf, .int .i64 d.taken, .int .i64 d.given, .int .i64 d.e] 101 (0, 0))
  hD : F D
  lin : W.ownsRow 0 5 1 vl d.line.length (d.line.map encU)
  fl : ∀ k, vl.ownBlock = some k → F k
  fld : W.ownsRow 0 136 2 vf d.fields.length (fldC d.fields)
  ff : ∀ k, vf.ownBlock = some k → F k
  lt : ∀ k, F k → k < W.heap.size

section
variable {W W1 : World} {F : Nat → Prop} {D : Nat} {vl vf : Value} {d : Dec}
theorem DecAt.touch {X : Nat → Prop} (h : DecAt W F D vl vf d) (t : Touch X W W1) (hX : ∀ k, F k → ¬ X k) : DecAt W1 F D vl vf d :=
  ⟨(t.block D (h.lt D h.hD) (hX D h.hD)).trans h.box, h.hD, own_touchL h.lin t (fun k hk => hX k (h.fl k hk)), h.fl, own_touchL h.fld t (fun k hk => hX k (h.ff k hk)), h.ff, fun k hk => Nat.lt_of_lt_of_le (h.lt k hk) t.size⟩
theorem DecAt.below (h : DecAt W F D vl vf d) (hb : Below W.heap.size W W1) : DecAt W1 F D vl vf d := h.touch (Touch.of_new (X := fun _ => False) hb) (fun _ _ h => h)
theorem DecAt.drewN (h : DecAt W F D vl vf d) (q : Nat) : DecAt (W.drewN q) F D vl vf d := h.touch (X := fun _ => False) ((Touch.refl _ W).drewN q) (fun _ _ h => h)
theorem own_box {cs : Array Value} {t : TypeId} {base : Nat} {e : TypeId} {size n : Nat} {v : Value} {xs : List Value} (h : W.ownsRow base e size v n xs) {B : Nat} (hb : W.heap[B]? = some (.cells cs t (0, 0))) (hne : t ≠ e) : v.ownBlock ≠ some B := by
  intro e'
  rcases h.2 with ⟨rfl, _⟩ | ⟨g, cap, cur, rfl, _, hg, _⟩
  · cases e'
  · have : g = B := by simpa [Value.ownBlock] using e'
    subst this
    rw [hb] at hg
    injection hg with hg
    injection hg with _ ht
    exact hne ht
theorem DecAt.nl (h : DecAt W F D vl vf d) : vl.ownBlock ≠ some D := own_box h.lin h.box (by decide)
theorem DecAt.nf (h : DecAt W F D vl vf d) : vf.ownBlock ≠ some D := own_box h.fld h.box (by decide)
/-- A cell of the box is set. -/
theorem DecAt.set (h : DecAt W F D vl vf d) (j : Nat) (v : Value) (d' : Dec) (hl : d'.line = d.line) (hf : d'.fields = d.fields)
    (hb : (#[.int .i64 d.ext, .int .i64 d.fls, .int .i64 d.byt, .int .i64 d.place, .int .u64 d.n, .int .i64 d.count, .int .i64 d.lines, .int .i64 d.size, vl, vf, .int .i64 d.taken, .int .i64 d.given, .int .i64 d.e] : Array Value).setIfInBounds j v
      = #[.int .i64 d'.ext, .int .i64 d'.fls, .int .i64 d'.byt, .int .i64 d'.place, .int .u64 d'.n, .int .i64 d'.count, .int .i64 d'.lines, .int .i64 d'.size, vl, vf, .int .i64 d'.taken, .int .i64 d'.given, .int .i64 d'.e]) :
    DecAt (W.setCell ⟨D, j, none⟩ v) F D vl vf d' := by
  have t : Touch (fun k => k = D) W (W.setCell ⟨D, j, none⟩ v) := (Touch.refl (fun k => k = D) W).setCell (p := ⟨D, j, none⟩) (.inl rfl) v
  refine ⟨?_, h.hD, ?_, h.fl, ?_, h.ff, fun k hk => Nat.lt_of_lt_of_le (h.lt k hk) t.size⟩
  · rw [← hb]; exact setBoxR v h.box
  · rw [hl]; exact own_touchL h.lin t (fun k hk e => h.nl (by rw [← e]; exact hk))
  · rw [hf]; exact own_touchL h.fld t (fun k hk e => h.nf (by rw [← e]; exact hk))
theorem DecAt.setPlace (h : DecAt W F D vl vf d) (x : Int) : DecAt (W.setCell ⟨D, 3, none⟩ (.int .i64 x)) F D vl vf { d with place := x } := h.set 3 _ _ rfl rfl rfl
theorem DecAt.setN (h : DecAt W F D vl vf d) (x : Int) : DecAt (W.setCell ⟨D, 4, none⟩ (.int .u64 x)) F D vl vf { d with n := x } := h.set 4 _ _ rfl rfl rfl
theorem DecAt.setCount (h : DecAt W F D vl vf d) (x : Int) : DecAt (W.setCell ⟨D, 5, none⟩ (.int .i64 x)) F D vl vf { d with count := x } := h.set 5 _ _ rfl rfl rfl
theorem DecAt.setLines (h : DecAt W F D vl vf d) (x : Int) : DecAt (W.setCell ⟨D, 6, none⟩ (.int .i64 x)) F D vl vf { d with lines := x } := h.set 6 _ _ rfl rfl rfl
theorem DecAt.setSize (h : DecAt W F D vl vf d) (x : Int) : DecAt (W.setCell ⟨D, 7, none⟩ (.int .i64 x)) F D vl vf { d with size := x } := h.set 7 _ _ rfl rfl rfl
theorem DecAt.setTaken (h : DecAt W F D vl vf d) (x : Int) : DecAt (W.setCell ⟨D, 10, none⟩ (.int .i64 x)) F D vl vf { d with taken := x } := h.set 10 _ _ rfl rfl rfl
theorem DecAt.setGiven (h : DecAt W F D vl vf d) (x : Int) : DecAt (W.setCell ⟨D, 11, none⟩ (.int .i64 x)) F D vl vf { d with given := x } := h.set 11 _ _ rfl rfl rfl
theorem DecAt.setE (h : DecAt W F D vl vf d) (x : Int) : DecAt (W.setCell ⟨D, 12, none⟩ (.int .i64 x)) F D vl vf { d with e := x } := h.set 12 _ _ rfl rfl rfl
theorem DecAt.c0 (h : DecAt W F D vl vf d) : W.cell? ⟨D, 0, none⟩ = some (.int .i64 d.ext) := by simp [World.cell?, h.box]
theorem DecAt.c1 (h : DecAt W F D vl vf d) : W.cell? ⟨D, 1, none⟩ = some (.int .i64 d.fls) := by simp [World.cell?, h.box]
theorem DecAt.c2 (h : DecAt W F D vl vf d) : W.cell? ⟨D, 2, none⟩ = some (.int .i64 d.byt) := by simp [World.cell?, h.box]
theorem DecAt.c3 (h : DecAt W F D vl vf d) : W.cell? ⟨D, 3, none⟩ = some (.int .i64 d.place) := by simp [World.cell?, h.box]
theorem DecAt.c4 (h : DecAt W F D vl vf d) : W.cell? ⟨D, 4, none⟩ = some (.int .u64 d.n) := by simp [World.cell?, h.box]
theorem DecAt.c5 (h : DecAt W F D vl vf d) : W.cell? ⟨D, 5, none⟩ = some (.int .i64 d.count) := by simp [World.cell?, h.box]
theorem DecAt.c6 (h : DecAt W F D vl vf d) : W.cell? ⟨D, 6, none⟩ = some (.int .i64 d.lines) := by simp [World.cell?, h.box]
theorem DecAt.c7 (h : DecAt W F D vl vf d) : W.cell? ⟨D, 7, none⟩ = some (.int .i64 d.size) := by simp [World.cell?, h.box]
theorem DecAt.c8 (h : DecAt W F D vl vf d) : W.cell? ⟨D, 8, none⟩ = some vl := by simp [World.cell?, h.box]
theorem DecAt.c9 (h : DecAt W F D vl vf d) : W.cell? ⟨D, 9, none⟩ = some vf := by simp [World.cell?, h.box]
theorem DecAt.c10 (h : DecAt W F D vl vf d) : W.cell? ⟨D, 10, none⟩ = some (.int .i64 d.taken) := by simp [World.cell?, h.box]
theorem DecAt.c11 (h : DecAt W F D vl vf d) : W.cell? ⟨D, 11, none⟩ = some (.int .i64 d.given) := by simp [World.cell?, h.box]
theorem DecAt.c12 (h : DecAt W F D vl vf d) : W.cell? ⟨D, 12, none⟩ = some (.int .i64 d.e) := by simp [World.cell?, h.box]
theorem DecAt.f (h : DecAt W F D vl vf d) (j : Nat) : W.frozen? ⟨D, j, none⟩ = false := by simp [World.frozen?, h.box]

/-- What a step comes to. -/
def StepP (W : World) (F : Nat → Prop) (D : Nat) (r : Int × Dec) (e : Ending) (w' : World) : Prop :=
  ∃ (F' : Nat → Prop) (vl vf : Value), e = .returned (.int .i64 r.1) ∧ DecAt w' F' D vl vf r.2 ∧ (∀ k, F' k → F k ∨ W.heap.size ≤ k) ∧ Touch F W w'

def toD (d : Dec) (p : Int) (ok : Bool) : Int × Dec := if ok = true then (0, { d with place := p }) else (2, d)
theorem To_any (h : DecAt W F D vl vf d) (p : Int) (ok : Bool) :
    Calls Tryz.prog 90 #[.pointer (some ⟨D, 0, none⟩), .int .i64 p, .bool ok] W (StepP W F D (toD d p ok)) := by
  have c3 := h.c3
  have f := h.f 3
  have H := Lib.hid h
  have H2 := Lib.hid (h.setPlace p)
  have HT := Lib.hid (show Touch F W (W.setCell ⟨D, 3, none⟩ (.int .i64 p)) from (Touch.refl F W).setCell (p := ⟨D, 3, none⟩) (.inl h.hD) _)
  clear h
  cases ok with
  | false =>
    go_enter Tryz.func90, Tryz.ntmps90
    go_wp2_with fail
    go_ret
    exact ⟨F, vl, vf, rfl, H.out, fun k hk => .inl hk, Touch.refl _ _⟩
  | true =>
    go_enter Tryz.func90, Tryz.ntmps90
    go_wp2_with fail
    go_ret
    exact ⟨F, vl, vf, rfl, H2.out, fun k hk => .inl hk, HT.out⟩

/-- The line's row is another one now. -/
theorem DecAt.setLine (h : DecAt W F D vl vf d) {v1 : Value} {l1 : List UInt8} (hg : W.grownBy W1 vl.ownBlock) (hr : W1.ownsRow 0 5 1 v1 l1.length (l1.map encU)) (hlt : ∀ k, v1.ownBlock = some k → v1.ownBlock = vl.ownBlock ∨ W.heap.size ≤ k) :
    DecAt (W1.setCell ⟨D, 8, none⟩ v1) (fun k => F k ∨ (W.heap.size ≤ k ∧ k < W1.heap.size)) D v1 vf { d with line := l1 } := by
  have hbox : W1.heap[D]? = _ := (hg.block D (h.lt D h.hD) (fun e => h.nl e.symm)).trans h.box
  have t : Touch (fun k => k = D) W1 (W1.setCell ⟨D, 8, none⟩ v1) := (Touch.refl (fun k => k = D) W1).setCell (p := ⟨D, 8, none⟩) (.inl rfl) v1
  have hfl : W1.ownsRow 0 136 2 vf d.fields.length (fldC d.fields) := by
    refine own_touchL (X := fun k => vl.ownBlock = some k) h.fld ⟨hg.os, hg.tape, hg.output, hg.size, fun k hk hx => hg.block k hk (fun e => hx e.symm)⟩ (fun k hk e => ?_)
    rcases own_apart h.lin h.fld (by decide) with h1 | h1
    · rw [h1] at e; cases e
    · exact h1 (by rw [e, hk])
  refine ⟨?_, .inl h.hD, own_touchL hr t (fun k hk e => own_box hr hbox (by decide) (by rw [← e]; exact hk)), fun k hk => ?_, own_touchL hfl t (fun k hk e => h.nf (by rw [← e]; exact hk)), fun k hk => .inl (h.ff k hk), fun k hk => ?_⟩
  · exact setBoxR v1 hbox
  · rcases hlt k hk with e | e
    · exact .inl (h.fl k (by rw [← e]; exact hk))
    · exact .inr ⟨e, own_lt hr hk⟩
  · have := hg.size
    have := t.size
    rcases hk with hk | hk
    · have := h.lt k hk; omega
    · omega

theorem Tryz.info_u8R : ∃ i, Tryz.prog.info? 5 = some i ∧ i.zero = some (.int .u8 0) ∧ i.size = 1 ∧ i.bytes = 1 := by
  have h : (Tryz.prog.info? 5).map (fun i => (i.zero, i.size, i.bytes)) = some (some (.int .u8 0), 1, 1) := by kernel_rfl
  obtain ⟨i, hi, he⟩ := Option.map_eq_some_iff.1 h
  simp only [Prod.mk.injEq] at he
  exact ⟨i, hi, he.1, he.2.1, he.2.2⟩
def moreD (d : Dec) (c : UInt8) (p : Int) : Int × Dec := if d.size ≥ d.byt then (5, d) else (0, { d with size := d.size + 1, line := d.line ++ [c], place := p })
set_option maxHeartbeats 1000000 in
set_option maxRecDepth 100000 in
theorem More1_any (h : DecAt W F D vl vf d) (c : UInt8) (p : Int) (hs0 : 0 ≤ d.size) (hs1 : d.byt ≤ 1000000) (hl : d.line.length ≤ 1000000) :
    Calls Tryz.prog 93 #[.pointer (some ⟨D, 0, none⟩), .int .u8 (c.toNat : Int), .int .i64 p] W (StepP W F D (moreD d c p)) := by
  have c2 := h.c2
  have c7 := h.c7
  have H := Lib.hid h
  by_cases hb : d.size ≥ d.byt
  · have HM := Lib.hid (show moreD d c p = (5, d) from if_pos hb)
    have hb1 : d.byt ≤ d.size := hb
    clear h hb
    go_enter Tryz.func93, Tryz.ntmps93
    go_wp2_with fail
    go_quiet (fail)
    go_wp2_with fail
    go_ret
    rw [HM.out]
    exact ⟨F, vl, vf, rfl, H.out.drewN _, fun k hk => .inl hk, (Touch.refl _ _).drewN _⟩
  · have HM := Lib.hid (show moreD d c p = (0, { d with size := d.size + 1, line := d.line ++ [c], place := p }) from if_neg hb)
    have hb1 : d.size < d.byt := by omega
    have hb2 : decide (d.byt ≤ d.size) = false := decide_eq_false hb
    clear h hb
    go_enter Tryz.func93, Tryz.ntmps93
    go_wp2_with fail
    go_quiet (fail)
    have f7 : (W.drewN nq).frozen? ⟨D, 7, none⟩ = false := H.out.f 7
    have HU := Lib.hid ((H.out.drewN nq).setSize (d.size + 1))
    have TU := Lib.hid (show Touch F W ((W.drewN nq).setCell ⟨D, 7, none⟩ (.int .i64 (d.size + 1))) from ((Touch.refl F W).drewN nq).setCell (p := ⟨D, 7, none⟩) (.inl H.out.hD) _)
    obtain ⟨U, eU⟩ : ∃ U, (W.drewN nq).setCell ⟨D, 7, none⟩ (.int .i64 (d.size + 1)) = U := ⟨_, rfl⟩
    rw [eU] at HU TU
    have u8 := HU.out.c8
    have g8 := HU.out.f 8
    have hzU : W.heap.size ≤ U.heap.size := TU.out.size
    obtain ⟨i0, hi, hz0, hz1, hz2⟩ := Tryz.info_u8R
    have HO := Lib.hid ((HU.out.below ((Below.refl _ U).alloc (Nat.le_refl _) (.cells #[.int .u8 (c.toNat : Int)] 5))).lin)
    have hN : ∀ (j : Nat) u, [Value.int .u8 (c.toNat : Int)][j]? = some u → (U.alloc (.cells #[.int .u8 (c.toNat : Int)] 5)).cell? ((⟨U.heap.size, 0, none⟩ : Addr).add j) = some u := by
      intro j u hu
      rcases j with _ | j
      · rw [WideShapes.add_plain, World.cell?_alloc_new]; simpa using hu
      · simp at hu
    have HN := Lib.hid hN
    clear hN
    go_wp2_with (at_builtin; refine wpList_appF rfl _ _ 39 rfl 0 5 i0 (.int .u8 0) 1 1 Tryz.underlying39 hi hz0 hz1 hz2 rfl (by decide) vl d.line.length _ rfl HO.out ⟨U.heap.size, 0, none⟩ 1 1 [.int .u8 (c.toNat : Int)] rfl rfl HN.out (by simp [Value.oneCell']) (by unfold maxLen; omega) (by omega) (Nat.zero_le _) ?_)
    intro v1 w4 hO1 hg4 hat4
    obtain ⟨g1, cap1, rfl⟩ := own_some hO1 (by omega)
    have hUa : Below U.heap.size U (U.alloc (.cells #[.int .u8 (c.toNat : Int)] 5)) := (Below.refl _ U).alloc (Nat.le_refl _) _
    have hgU : U.grownBy w4 vl.ownBlock := ⟨hg4.os, hg4.tape, hg4.output, by have := hg4.size; have := hUa.size; omega, fun k hk hx => (hg4.block k (Nat.lt_of_lt_of_le hk hUa.size) hx).trans (hUa.block k hk)⟩
    have HR := Lib.hid (HU.out.setLine (l1 := d.line ++ [c]) hgU (by simpa [encU] using hO1) (fun k hk => by
      rcases hat4 with e | e
      · exact .inl e
      · rw [e] at hk; injection hk with hk; have := hUa.size; exact .inr (by omega)))
    have hDl := HU.out.lt D HU.out.hD
    have hDb := hgU.block D hDl (fun e => HU.out.nl e.symm)
    have u8 := (World.cell?_of_block (a := ⟨D, 8, none⟩) hDb).trans u8
    have g8 := (World.frozen?_of_block (a := ⟨D, 8, none⟩) hDb).trans g8
    have HT4 := Lib.hid (show Touch F W (w4.setCell ⟨D, 8, none⟩ (.slice (some ⟨g1, 0, none⟩) (d.line.length + 1) cap1)) from
      (TU.out.trans (show Touch F U w4 from ⟨hgU.os, hgU.tape, hgU.output, hgU.size, fun k hk hx => hgU.block k hk (fun e => hx (HU.out.fl k e.symm))⟩)).setCell (p := ⟨D, 8, none⟩) (.inl H.out.hD) _)
    have HP := Lib.hid (HR.out.setPlace p)
    have r3 := HR.out.c3
    have q3 := HR.out.f 3
    clear hO1 hg4 hat4 hgU hUa hDb eU
    go_wp2_with fail
    go_ret
    rw [HM.out]
    refine ⟨_, _, _, rfl, HP.out, fun k hk => ?_, HT4.out.setCell (p := ⟨D, 3, none⟩) (.inl H.out.hD) _⟩
    rcases hk with hk | hk
    · exact .inl hk
    · exact .inr (by omega)
end

end Go.Proofs.YtfeljjlpdefnmaaGreat
