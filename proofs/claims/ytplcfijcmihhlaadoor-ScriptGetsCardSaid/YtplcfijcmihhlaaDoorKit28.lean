/-
  Words that the rows of layer 28 share: the listed tables, and what the walks ask of the world.
-/
import Derived.Test.YtplcfijcmihhlaaDoorKit
import Derived.Test.YtplcfijcmihhlaaDoorBase28
import Derived.Carry
import Derived.ChangeSlices
import Derived.OpenShut
import Derived.Test.YtplcfijcmihhlaaDoorTie
import Derived.LaidMore
import Derived.Stop.Joined
import Derived.Lib.LaidU8
import Derived.Lib.LaidTab
import Derived.Test.YtplcfijcmihhlaaDoorCards
import Derived.SevenTiedAt
import Derived.Lay
import Derived.HandedShaped
import Derived.Shelf.Vars
import Derived.Test.YtplcfijcmihhlaaDoorRead28
namespace Go.Proofs.YtplcfijcmihhlaaDoor
open Go.ChangeShapes Go.WideShapes Go.ChangeAt Go.RowKit
set_option linter.unusedVariables false
set_option linter.unusedSimpArgs false

theorem Tryd.laidOut : laidOutB Tryd.prog = true := by kernel_rfl

section
variable {H : Type} {enc : TypeId × Value → H} {P : Program} {W : World} {base : Nat} {sp : Nat → Bool} {held : Bool}
theorem open_bytesV {r : Reach} {b0 : Nat} {t e : TypeId} {v : Value} {d : DataW H} {ps : List MemPlace} (ht : P.underlying t = some (.slice e)) (he : P.underlying e = some (.int .u8)) (hc : P.cellsOf e = 1)
    (hval : Value.okWide P W r b0 t v) (hd : DataW.Trod enc P W base sp held t v d ps) : ∃ l, IntsK .u8 W W.heap.size v l ∧ ∀ x ∈ l, 0 ≤ x ∧ x ≤ 255 := by
  obtain ⟨a0, len, cap, rfl⟩ := okWide_slice ht hval
  obtain ⟨fuel, hf⟩ := hd
  rcases open_ints ht he hc hf with ⟨hcs, hx⟩ | ⟨a, len', cap', xs, hcs, _, hle, hmax, hall, hx, hcell, hwf⟩
  · simp [Value.cells] at hcs
    obtain ⟨rfl, rfl, rfl⟩ := hcs
    exact ⟨[], ⟨none, 0, rfl, Nat.le_refl _, by unfold maxLen; omega, fun h => absurd rfl h⟩, fun x hx => by simp at hx⟩
  · simp [Value.cells] at hcs
    obtain ⟨rfl, rfl, rfl⟩ := hcs
    have hlx : len ≤ xs.length := by rw [hall]; split <;> omega
    have hll : (xs.take len).length = len := by rw [List.length_take]; omega
    refine ⟨xs.take len, ⟨some a, cap, by rw [hll], by omega, by omega, fun hn => ?_⟩, fun x hx => bounds_u8 (hwf x (List.mem_of_mem_take hx))⟩
    have hpos : 0 < len := by
      rcases Nat.eq_zero_or_pos len with h | h
      · subst h; simp at hn
      · exact h
    obtain ⟨b, off, rfl, hc⟩ := ints_at hcell (by omega)
    refine ⟨b, off, rfl, ?_, fun j hj => ?_⟩
    · have := hc 0 (by omega)
      apply Classical.byContradiction
      intro hge
      have he : W.heap[b]? = none := by simp; omega
      simp [World.cell?, he] at this
    · rw [hll] at hj
      rw [hc j (by omega)]
      simp [List.getElem?_take, hj]
end
end Go.Proofs.YtplcfijcmihhlaaDoor

namespace Go.Proofs.YtplcfijcmihhlaaDoor
open Go.ChangeShapes Go.WideShapes Go.ChangeAt Go.RowKit Go.ChangeMaps Go.Proofs.YtplcfijcmihhlaaDoorW.PrintWords
set_option linter.unusedVariables false
set_option linter.unusedSimpArgs false

theorem returnsInHanded_of_change_look {H : Type} {enc : TypeId × Value → H} {a : Assume} {C : Checked} {os : Os} {f : FuncId} {fn : Func} {s : ChangeSpec} {conds : List PathCond} {apart fresh handsOn again : Bool} {X : World → Array Value → Prop}
    (hX : ∀ (w w' : World) (args : Array Value), w.heap = w'.heap → X w args → X w' args)
    (own : ownKnob C.prog.godebug = none) (started : os.Started) (noInit : C.prog.inits.idxOf? f = none) (hfn : C.prog.funcs[f]? = some fn)
    (witness : ∃ (w : World) (tape : Tape) (i : Input), w.os = os ∧ (w.forCall tape i).Shaped C.prog ∧ i.vars = [] ∧ Input.okWide C.prog (w.forCall tape i) .any w.heap.size f i ∧
      ((s.pre enc C.prog fn conds apart (w.forCall tape i).memory i.args ∧ X (w.forCall tape i).memory i.args) ∧ sizedMet enc C.prog fn (OpenSpec.ofChange s) apart (w.forCall tape i).memory i.args) ∧ a.holds C.prog (lone (Frame.enter C.prog f i.args .normal) [] (w.forCall tape i)))
    (contract : ∀ (W : World) (base : Nat) (args : Array Value) (ds gs : List (DataW H)) (before : List MemPlace),
      (∀ (j : Nat) t v, fn.params[j]? = some t → args[j]? = some v → Value.okWide C.prog W .any base t v) →
      DataW.Whole enc C.prog fn.params.toList s.vars apart W args.toList ds gs before →
      conds.all (PathCond.test C.prog ⟨fn.params.toList, ds, s.plain.varTypes C.prog, gs⟩) = true →
      X W args → W.ShapedOpen C.prog →
      Calls C.prog f args W fun e W' => ∃ v, e = .returned v ∧ s.post enc C.prog fn apart fresh handsOn again W args v W') :
    ReturnsInHanded a C os f .any (fun w args => (s.pre enc C.prog fn conds apart w args ∧ X w args) ∧ sizedMet enc C.prog fn (OpenSpec.ofChange s) apart w args) (s.post enc C.prog fn apart fresh handsOn again) := by
  refine returnsInHanded_of_calls own started noInit witness ?_
  intro w tape i _ hsh _ hok hpre hholds
  obtain ⟨_, _, _, fn', hfn', _, _, _, _, hval⟩ := hok
  have e : fn' = fn := Option.some.inj (hfn'.symm.trans hfn)
  subst e
  obtain ⟨⟨⟨ds, gs, before, hw, hc⟩, hx⟩, hz⟩ := hpre
  have hw' := DataW.Whole.of_heap (w' := w.forCall tape i) (by rfl) hw
  refine (contract (w.forCall tape i) w.heap.size i.args ds gs before hval hw' hc (hX _ _ _ (by rfl) hx) hsh).mono fun e W' ⟨v, he, hp⟩ => ?_
  subst he
  exact ChangeSpec.post_blind hp

def scriptLaid : List (String × DataW Unit) := [("math/bits.deBruijn32tab", Rows.laid_math_bits_deBruijn32tab), ("math/bits.deBruijn64tab", Rows.laid_math_bits_deBruijn64tab), ("internal/strconv.uint64pow10", Rows.laid_internal_strconv_uint64pow10), ("unicode/utf8.acceptRanges", Rows.laid_unicode_utf8_acceptRanges),
  ("strconv.ErrRange", Rows.laid_strconv_ErrRange), ("strconv.ErrSyntax", Rows.laid_strconv_ErrSyntax), ("catchpit/script.ends", Rows.laid_catchpit_script_ends), ("catchpit/script.stops", Rows.laid_catchpit_script_stops), ("unicode/utf8.first", Rows.laid_unicode_utf8_first)]

theorem trod_iface_cell {P : Program} {w : World} {fuel : Nat} {t : TypeId} {ms : Array (String × TypeId)} {cs : List Value} {nm : String} {d : DataW Unit} {p : List MemPlace} (ht : P.underlying t = some (.interface ms))
    (h : DataW.trod (fun _ => ()) P w 0 (fun _ => true) false fuel t cs = some (.iface nm d, p)) : ∃ u v, cs = [.iface u v] := by
  cases fuel with
  | zero => simp [DataW.trod] at h
  | succ n =>
    unfold DataW.trod at h
    rw [ht] at h
    rcases cs with _ | ⟨c, _ | ⟨c', cs⟩⟩
    · simp at h
    · cases c <;> first | (simp at h; done) | exact ⟨_, _, rfl⟩
    · simp at h

theorem strs_of_array {P : Program} {w : World} {fuel n : Nat} {t e : TypeId} {cs : List Value} {ss : List (List UInt8)} {p : List MemPlace} (ht : P.underlying t = some (.array n e)) (he : P.underlying e = some .string) (hce : P.cellsOf e = 1) (hct : P.cellsOf t = n)
    (h : DataW.trod (fun _ => ()) P w 0 (fun _ => true) false fuel t cs = some (.agg (ss.map fun s => .lit (.string s)), p)) : ∀ (i : Nat) s, ss[i]? = some s → cs[i]? = some (.string ⟨s.toArray⟩) := by
  obtain ⟨xs, m, rfl, hx, hl, hxl, hall⟩ := DataW.trod_array ht h
  have hxs : xs.map (·.1) = ss.map fun s => (DataW.lit (.string s) : DataW Unit) := by
    have := congrArg Prod.fst hx
    simpa using this.symm
  intro i s hs
  have hi : i < ss.length := (List.getElem?_eq_some_iff.1 hs).1
  have hsl : ss.length = n := by
    have := congrArg List.length hxs
    simp at this
    omega
  have h1 := hall i (by omega)
  rw [hce, Nat.mul_one] at h1
  obtain ⟨b, hb⟩ : ∃ b, xs[i]? = some b := ⟨xs[i]'(by omega), List.getElem?_eq_getElem (by omega)⟩
  rw [hb] at h1
  obtain ⟨s', hcs, rfl, _⟩ := DataW.trod_string he h1
  have h2 : cs[i]? = some (.string s') := by
    have := congrArg (·[0]?) hcs
    simpa [List.getElem?_take, List.getElem?_drop] using this
  have h3 : (xs.map (·.1))[i]? = some (DataW.lit (.string s'.data.toList) : DataW Unit) := by simp [hb]
  rw [hxs, List.getElem?_map, hs] at h3
  simp only [Option.map_some, Option.some.injEq, DataW.lit.injEq, Lit.string.injEq] at h3
  rw [h2, h3]

theorem gEnds : Tryd.prog.globalNamed "catchpit/script.ends" = some 0 := by kernel_rfl
theorem gStops : Tryd.prog.globalNamed "catchpit/script.stops" = some 1 := by kernel_rfl
theorem gSyn : Tryd.prog.globalNamed "strconv.ErrSyntax" = some 2 := by kernel_rfl
theorem gPow : Tryd.prog.globalNamed "internal/strconv.uint64pow10" = some 4 := by kernel_rfl
theorem gFst : Tryd.prog.globalNamed "unicode/utf8.acceptRanges" = some 10 := by kernel_rfl
theorem tEnds : (Tryd.prog.globals[0]?).map (·.type) = some 104 := by kernel_rfl
theorem tStops : (Tryd.prog.globals[1]?).map (·.type) = some 104 := by kernel_rfl
theorem tSyn : (Tryd.prog.globals[2]?).map (·.type) = some 91 := by kernel_rfl
theorem tPow : (Tryd.prog.globals[4]?).map (·.type) = some 203 := by kernel_rfl

theorem kd_of_ints {q : IntKind} {W : World} {B : Nat} {v : Value} {l : List Int} (h : IntsK q W B v l) : ∃ A cap, v = .slice A l.length cap ∧ l.length ≤ cap ∧ (Kd.int q).C W A l.length l := by
  obtain ⟨A, cap, e, h1, h2, h3⟩ := h
  refine ⟨A, cap, e, h1, Kd.C_of_reads (d := (0 : Int)) (h1 := fun _ => rfl) ⟨rfl, by unfold maxLen at h2; omega, fun hn => ?_⟩⟩
  obtain ⟨b, off, e', _, hc⟩ := h3 (fun e => by rw [e] at hn; simp at hn)
  refine ⟨_, e', fun j hj => ?_⟩
  rw [WideShapes.add_plain, hc j hj, List.getD_eq_getElem?_getD]
theorem mem_laid (x : String × DataW Unit) (i : Nat) (h : scriptLaid[i]? = some x) : x ∈ scriptLaid := List.mem_of_getElem? h
theorem var_lt {P : Program} {w : World} {n : String} {g : Nat} {cs : Array Value} (hg : P.globalNamed n = some g) (h : w.var? P n = some cs) : g < w.heap.size := by
  simp only [World.var?, hg, Option.bind_some] at h
  split at h
  · rename_i hh; exact (Array.getElem?_eq_some_iff.1 hh).1
  · cases h

theorem tabs_of {W : World} (h : laidMetH Tryd.prog scriptLaid W) (hs : W.ShapedOpen Tryd.prog) : Tabs W W.heap.size := by
  rw [MakeChecks.laidMetH_plain _ _ _ (by kernel_rfl)] at h
  obtain ⟨m, hm⟩ := cell_of_shapedOpen_int (g := 5) (t := 3) (zero := #[.int .i64 0]) (k := .i64) hs (of_decide_eq_true (by kernel_rfl)) (by kernel_rfl) rfl (by kernel_rfl) (by kernel_rfl) Tryd.underlying3
  have hz : 11 ≤ W.heap.size := by
    obtain ⟨g, t, cs, fuel, p, hg, hty, hvar, hd⟩ := Lib.laidMet.reads h (mem_laid _ 3 rfl)
    obtain rfl := Option.some.inj (gFst.symm.trans hg)
    exact var_lt hg hvar
  obtain ⟨g1, t1, cs1, fuel1, p1, hg1, hty1, hvar1, hd1⟩ := Lib.laidMet.reads h (mem_laid _ 5 rfl)
  obtain rfl := Option.some.inj (gSyn.symm.trans hg1)
  obtain rfl := Option.some.inj (tSyn.symm.trans hty1)
  obtain ⟨te, pe, hce⟩ := trod_iface_cell Tryd.underlying91 hd1
  have he := World.var?_cell hg1 hvar1 0
  rw [show cs1 = #[.iface te pe] from Array.toList_inj.1 hce] at he
  obtain ⟨g2, t2, cs2, fuel2, p2, hg2, hty2, hvar2, hd2⟩ := Lib.laidMet.reads h (mem_laid _ 6 rfl)
  obtain rfl := Option.some.inj (gEnds.symm.trans hg2)
  obtain rfl := Option.some.inj (tEnds.symm.trans hty2)
  have hs2 := strs_of_array (ss := [wSilent, wClosed, wReset]) Tryd.underlying104 Tryd.underlying9 (by kernel_rfl) (by kernel_rfl) hd2
  obtain ⟨g3, t3, cs3, fuel3, p3, hg3, hty3, hvar3, hd3⟩ := Lib.laidMet.reads h (mem_laid _ 7 rfl)
  obtain rfl := Option.some.inj (gStops.symm.trans hg3)
  obtain rfl := Option.some.inj (tStops.symm.trans hty3)
  have hs3 := strs_of_array (ss := [wStuck, wFree, wReset]) Tryd.underlying104 Tryd.underlying9 (by kernel_rfl) (by kernel_rfl) hd3
  obtain ⟨g4, t4, cs4, fuel4, p4, hg4, hty4, hvar4, hd4⟩ := Lib.laidMet.reads h (mem_laid _ 2 rfl)
  obtain rfl := Option.some.inj (gPow.symm.trans hg4)
  obtain rfl := Option.some.inj (tPow.symm.trans hty4)
  have hc4 := Lib.cells_of_tab (k := .u64) (zs := Lib.pow10Tab) Tryd.underlying203 Tryd.underlying22 (by kernel_rfl) (by kernel_rfl) hd4
  exact {
    maxLen := ⟨m, hm⟩
    err := ⟨_, he, .inr ⟨te, pe, rfl⟩⟩
    pow := by unfold Lib.TabIs; rw [hvar4]; exact congrArg some (Array.toList_inj.1 hc4)
    ends0 := by rw [World.var?_cell hg2 hvar2 0, ← Array.getElem?_toList]; exact hs2 0 _ rfl
    ends1 := by rw [World.var?_cell hg2 hvar2 1, ← Array.getElem?_toList]; exact hs2 1 _ rfl
    ends2 := by rw [World.var?_cell hg2 hvar2 2, ← Array.getElem?_toList]; exact hs2 2 _ rfl
    stops0 := by rw [World.var?_cell hg3 hvar3 0, ← Array.getElem?_toList]; exact hs3 0 _ rfl
    stops1 := by rw [World.var?_cell hg3 hvar3 1, ← Array.getElem?_toList]; exact hs3 1 _ rfl
    stops2 := by rw [World.var?_cell hg3 hvar3 2, ← Array.getElem?_toList]; exact hs3 2 _ rfl
    lt := hz
    le := Nat.le_refl _ }

end Go.Proofs.YtplcfijcmihhlaaDoor
