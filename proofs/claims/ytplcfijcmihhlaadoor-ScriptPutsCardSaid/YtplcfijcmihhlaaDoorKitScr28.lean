/-
  An argument that is layer 28's script, opened; what the row's reach says of its sizes.
-/
import Derived.Test.YtplcfijcmihhlaaDoorKit28
import Derived.Test.YtplcfijcmihhlaaDoorScriptSame
import Derived.Deep.Slices
import Derived.OpenShut
namespace Go.Proofs.YtplcfijcmihhlaaDoor
open Go.ChangeShapes Go.WideShapes Go.ChangeAt Go.RowKit Go.ChangeMaps Go.Proofs.YtplcfijcmihhlaaDoorW.PrintWords
set_option linter.unusedVariables false
set_option linter.unusedSimpArgs false

theorem returnsInHanded_of_change_reach {H : Type} {enc : TypeId × Value → H} {a : Assume} {C : Checked} {os : Os} {f : FuncId} {fn : Func} {s : ChangeSpec} {conds : List PathCond} {apart fresh handsOn again : Bool} {X : World → Array Value → Prop}
    (hX : ∀ (w w' : World) (args : Array Value), w.heap = w'.heap → X w args → X w' args)
    (own : ownKnob C.prog.godebug = none) (started : os.Started) (noInit : C.prog.inits.idxOf? f = none) (hfn : C.prog.funcs[f]? = some fn)
    (witness : ∃ (w : World) (tape : Tape) (i : Input), w.os = os ∧ (w.forCall tape i).Shaped C.prog ∧ i.vars = [] ∧ Input.okWide C.prog (w.forCall tape i) .any w.heap.size f i ∧
      ((s.pre enc C.prog fn conds apart (w.forCall tape i).memory i.args ∧ X (w.forCall tape i).memory i.args) ∧ sizedMet enc C.prog fn (OpenSpec.ofChange s) apart (w.forCall tape i).memory i.args) ∧ a.holds C.prog (lone (Frame.enter C.prog f i.args .normal) [] (w.forCall tape i)))
    (contract : ∀ (W : World) (base : Nat) (args : Array Value) (ds gs : List (DataW H)) (before : List MemPlace),
      (∀ (j : Nat) t v, fn.params[j]? = some t → args[j]? = some v → Value.okWide C.prog W .any base t v) →
      DataW.Whole enc C.prog fn.params.toList s.vars apart W args.toList ds gs before →
      (DataW.weightsEach C.prog (fn.params.toList ++ s.plain.varTypes C.prog) (ds ++ gs)).all (· ≤ reachBytes) = true →
      X W args → W.ShapedOpen C.prog →
      Calls C.prog f args W fun e W' => ∃ v, e = .returned v ∧ s.post enc C.prog fn apart fresh handsOn again W args v W') :
    ReturnsInHanded a C os f .any (fun w args => (s.pre enc C.prog fn conds apart w args ∧ X w args) ∧ sizedMet enc C.prog fn (OpenSpec.ofChange s) apart w args) (s.post enc C.prog fn apart fresh handsOn again) := by
  refine returnsInHanded_of_calls own started noInit witness ?_
  intro w tape i _ hsh _ hok hpre hholds
  obtain ⟨_, _, _, fn', hfn', _, _, _, _, hval⟩ := hok
  have e : fn' = fn := Option.some.inj (hfn'.symm.trans hfn)
  subst e
  obtain ⟨⟨⟨ds, gs, before, hw, hc⟩, hx⟩, hz⟩ := hpre
  have hw' := DataW.Whole.of_heap (w' := w.forCall tape i) (by rfl) hw
  refine (contract (w.forCall tape i) w.heap.size i.args ds gs before hval hw' (hz.weights hw) (hX _ _ _ (by rfl) hx) hsh).mono fun e W' ⟨v, he, hp⟩ => ?_
  subst he
  exact ChangeSpec.post_blind hp

section
variable {H : Type} {enc : TypeId × Value → H} {P : Program} {W : World} {base : Nat} {sp : Nat → Bool} {held : Bool}
def Weighs (P : Program) (t : TypeId) (d : DataW H) : Prop := ∀ x ∈ d.weights P t, x ≤ reachBytes
theorem weighs_all {e : TypeId} {D : Nat → DataW H} : ∀ {l : List Nat}, (∀ x ∈ DataW.weightsAll P e (l.map D), x ≤ reachBytes) → ∀ i ∈ l, Weighs P e (D i)
  | [], _, i, hi => by cases hi
  | a :: l, h, i, hi => by
    simp only [List.map_cons, DataW.weightsAll, List.mem_append] at h
    rcases List.mem_cons.1 hi with rfl | hi
    · exact fun x hx => h x (.inl hx)
    · exact weighs_all (fun x hx => h x (.inr hx)) i hi

/-- A slice, opened by how its elements open. -/
theorem open_kd {α : Type} (d : Kd α) (Pr : α → Prop) {t e : TypeId} {fuel : Nat} {cs : List Value} {D : DataW H} {ps : List MemPlace} (ht : P.underlying t = some (.slice e)) (hsz : P.cellsOf e = d.sz) (hB : 0 < P.bytesOf e) (default : α)
    (elem : ∀ fuel cs D ps, DataW.trod enc P W base sp held fuel e cs = some (D, ps) → Weighs P e D → ∃ y, d.K W y cs ∧ Pr y)
    (hf : DataW.trod enc P W base sp held fuel t cs = some (D, ps)) (hw : Weighs P t D) :
    ∃ A l c, cs = [.slice A l.length c] ∧ l.length ≤ c ∧ d.C W A l.length l ∧ (∀ y ∈ l, Pr y) ∧ l.length ≤ reachBytes := by
  rcases Deep.open_slice ht hf with ⟨hcs, hx⟩ | ⟨a, len, cap, m, n, DD, Pl, hcs, _, hle, hmax, hm, hx, hel⟩
  · exact ⟨none, [], 0, hcs, Nat.le_refl _, ⟨rfl, Nat.zero_le _, fun h => absurd h (Nat.lt_irrefl 0)⟩, (fun y hy => by cases hy), Nat.zero_le _⟩
  · have hlm : len ≤ m := by rw [hm]; split <;> omega
    have hD := congrArg Prod.fst hx
    simp only at hD
    unfold Weighs at hw
    rw [hD] at hw
    simp only [DataW.weights, ht, List.mem_cons, List.mem_append, List.length_map, List.length_range] at hw
    have hlen : len ≤ reachBytes := by
      have h1 := hw _ (.inl rfl)
      have h2 : len * 1 ≤ (len + (m - len)) * P.bytesOf e := Nat.mul_le_mul (by omega) hB
      omega
    have hw2 := weighs_all (P := P) (e := e) (D := DD) (l := List.range len) (fun x hx => hw x (.inr (.inl hx)))
    have each : ∀ i, i < len → ∃ y, (∃ c, c.length = d.sz ∧ d.K W y c ∧ ∀ j u, c[j]? = some u → W.cell? (a.add (i * d.sz + j)) = some u) ∧ Pr y := by
      intro i hi
      obtain ⟨cs', hcells, htr⟩ := hel i (by omega)
      obtain ⟨y, hK, hP⟩ := elem _ _ _ _ htr (hw2 i (List.mem_range.2 hi))
      refine ⟨y, ⟨cs', d.K_len hK, hK, fun j u hu => ?_⟩, hP⟩
      obtain ⟨_, hl, hc⟩ := World.cells?_some hcells
      have hj : j < cs'.length := (List.getElem?_eq_some_iff.1 hu).1
      rw [hl] at hj
      have := hc j hj
      rw [Go.Addr.add_add, hsz] at this
      rw [this, hu]
    haveI : Inhabited α := ⟨default⟩
    obtain ⟨O, hO⟩ := Deep.choose_lt each
    have hll : ((List.range len).map O).length = len := by simp
    refine ⟨some a, (List.range len).map O, cap, by rw [hll]; exact hcs, by rw [hll]; exact hle, ?_, ?_, by rw [hll]; exact hlen⟩
    · rw [hll]
      refine ⟨hll, by unfold maxLen at hmax; omega, fun _ => ⟨a, rfl, fun j p hj => ?_⟩⟩
      have hjl : j < len := by have := (List.getElem?_eq_some_iff.1 hj).1; omega
      have e : O j = p := by simpa [hjl] using hj
      rw [← e]
      exact (hO j hjl).1
    · intro y hy
      obtain ⟨i, hi, rfl⟩ := List.mem_map.1 hy
      exact (hO i (List.mem_range.1 hi)).2
end

section
variable {H : Type} {enc : TypeId × Value → H} {W : World} {base : Nat} {sp : Nat → Bool} {held : Bool}
theorem open_u8s {fuel : Nat} {cs : List Value} {D : DataW H} {ps : List MemPlace} (hf : DataW.trod enc Tryd.prog W base sp held fuel 25 cs = some (D, ps)) (hw : Weighs Tryd.prog 25 D) :
    ∃ l, (Kd.slice 5 (Kd.int .u8)).K W l cs ∧ (InB l ∧ l.length ≤ reachBytes) := by
  obtain ⟨A, l, c, hcs, hl, hC, hP, hr⟩ := open_kd (Kd.int .u8) (fun x => 0 ≤ x ∧ x ≤ 255) Tryd.underlying25 (by kernel_rfl) (of_decide_eq_true (by kernel_rfl)) 0 (fun fuel cs D ps h _ => by
    obtain ⟨n, hcs, _, hwf⟩ := DataW.trod_int Tryd.underlying5 h
    exact ⟨n, hcs, bounds_u8 hwf⟩) hf hw
  exact ⟨l, ⟨A, c, hcs, hl, hC⟩, hP, hr⟩
theorem open_u8ss {fuel : Nat} {cs : List Value} {D : DataW H} {ps : List MemPlace} (hf : DataW.trod enc Tryd.prog W base sp held fuel 47 cs = some (D, ps)) (hw : Weighs Tryd.prog 47 D) :
    ∃ A l c, cs = [.slice A l.length c] ∧ l.length ≤ c ∧ KBB.C W A l.length l ∧ (∀ y ∈ l, InB y ∧ y.length ≤ reachBytes) ∧ l.length ≤ reachBytes :=
  open_kd KBB (fun l => InB l ∧ l.length ≤ reachBytes) Tryd.underlying47 (by kernel_rfl) (of_decide_eq_true (by kernel_rfl)) [] (fun fuel cs D ps h hw => open_u8s h hw) hf hw
theorem open_is {fuel : Nat} {cs : List Value} {D : DataW H} {ps : List MemPlace} (hf : DataW.trod enc Tryd.prog W base sp held fuel 30 cs = some (D, ps)) (hw : Weighs Tryd.prog 30 D) :
    ∃ A l c, cs = [.slice A l.length c] ∧ l.length ≤ c ∧ KI.C W A l.length l ∧ (∀ y ∈ l, (Lit.int .i64 y).wf = true) ∧ l.length ≤ reachBytes :=
  open_kd (Kd.int .i64) (fun x => (Lit.int .i64 x).wf = true) Tryd.underlying30 (by kernel_rfl) (of_decide_eq_true (by kernel_rfl)) 0 (fun fuel cs D ps h _ => by
    obtain ⟨n, hcs, _, hwf⟩ := DataW.trod_int Tryd.underlying3 h
    exact ⟨n, hcs, hwf⟩) hf hw

/-- A script that came in. -/
structure ScrIn (W : World) (v : Value) (l0 : List (List Int)) (e : Int) (l2 : List Int) (s : Int) (l4 : List Int) : Prop where
  val : ∃ A0 c0 A2 c2 A4 c4, v = .agg #[.slice A0 l0.length c0, .int .i64 e, .slice A2 l2.length c2, .int .i64 s, .slice A4 l4.length c4] ∧ ScrC W A0 c0 l0 A2 c2 l2 A4 c4 l4
  fits : Fits l0
  we : (Lit.int .i64 e).wf = true
  ws : (Lit.int .i64 s).wf = true
  w2 : ∀ y ∈ l2, (Lit.int .i64 y).wf = true
  w4 : ∀ y ∈ l4, (Lit.int .i64 y).wf = true
set_option maxRecDepth 100000 in
theorem open_scr {r : Reach} {b0 : Nat} {v : Value} {d : DataW H} {ps : List MemPlace} (hval : Value.okWide Tryd.prog W r b0 49 v) (hd : DataW.Trod enc Tryd.prog W base sp held 49 v d ps) (hw : Weighs Tryd.prog 49 d) :
    ∃ l0 e l2 s l4, ScrIn W v l0 e l2 s l4 := by
  unfold Value.okWide at hval
  rw [Tryd.underlying49] at hval
  obtain ⟨cs, rfl, hsz, _⟩ := hval
  obtain ⟨fuel, hf⟩ := hd
  obtain ⟨xs, n, rfl, hx, hl, hxl, hall⟩ := DataW.trod_struct Tryd.underlying49 hf
  have hD : d = DataW.agg (xs.map (·.1)) := congrArg Prod.fst hx
  have k0 : Tryd.prog.cellsOf 49 = 5 := by kernel_rfl
  have k1 : Tryd.prog.cellsOf 47 = 1 := by kernel_rfl
  have k2 : Tryd.prog.cellsOf 3 = 1 := by kernel_rfl
  have k3 : Tryd.prog.cellsOf 30 = 1 := by kernel_rfl
  have hl5 : (Value.agg cs).cells.toList.length = 5 := hl.trans k0
  have hcc : (Value.agg cs).cells = cs := by simp [Value.cells]
  rw [hcc] at hall hl5
  obtain ⟨u0, u1, u2, u3, u4, hcs⟩ : ∃ u0 u1 u2 u3 u4, cs.toList = [u0, u1, u2, u3, u4] := by
    match h : cs.toList, hl5 with
    | [u0, u1, u2, u3, u4], _ => exact ⟨u0, u1, u2, u3, u4, rfl⟩
  have hxl5 : xs.length = 5 := hxl
  obtain ⟨y0, y1, y2, y3, y4, rfl⟩ : ∃ y0 y1 y2 y3 y4, xs = [y0, y1, y2, y3, y4] := by
    match xs, hxl5 with
    | [y0, y1, y2, y3, y4], _ => exact ⟨y0, y1, y2, y3, y4, rfl⟩
  rw [hcs] at hall
  have f0 := hall 0 _ rfl
  have f1 := hall 1 _ rfl
  have f2 := hall 2 _ rfl
  have f3 := hall 3 _ rfl
  have f4 := hall 4 _ rfl
  simp [k1, k2, k3] at f0 f1 f2 f3 f4
  have hwA : ∀ x ∈ DataW.weightsEach Tryd.prog [47, 3, 30, 3, 30] [y0.1, y1.1, y2.1, y3.1, y4.1], x ≤ reachBytes := by
    intro x hx
    refine hw x ?_
    rw [hD]
    simp only [DataW.weights, Tryd.underlying49]
    exact hx
  simp only [DataW.weightsEach, List.mem_append] at hwA
  obtain ⟨A0, l0, c0, h0, q0, C0, P0, r0⟩ := open_u8ss f0 (fun x hx => hwA x (.inl hx))
  obtain ⟨e, h1, _, we⟩ := DataW.trod_int Tryd.underlying3 f1
  obtain ⟨A2, l2, c2, h2, q2, C2, P2, r2⟩ := open_is f2 (fun x hx => hwA x (.inr (.inr (.inl hx))))
  obtain ⟨s, h3, _, ws⟩ := DataW.trod_int Tryd.underlying3 f3
  obtain ⟨A4, l4, c4, h4, q4, C4, P4, r4⟩ := open_is f4 (fun x hx => hwA x (.inr (.inr (.inr (.inr (.inl hx))))))
  simp at h0 h1 h2 h3 h4
  subst h0 h1 h2 h3 h4
  have hcs2 : cs = #[.slice A0 l0.length c0, .int .i64 e, .slice A2 l2.length c2, .int .i64 s, .slice A4 l4.length c4] := Array.toList_inj.1 hcs
  subst hcs2
  have hr : reachBytes ≤ 1000000000000000 := by decide
  exact ⟨l0, e, l2, s, l4, ⟨A0, c0, A2, c2, A4, c4, rfl, ⟨C0, q0, C2, q2, C4, q4⟩⟩, ⟨fun x hx => (P0 x hx).1, by omega, fun x hx => by have := (P0 x hx).2; omega⟩, we, ws, P2, P4⟩
end

end Go.Proofs.YtplcfijcmihhlaaDoor
