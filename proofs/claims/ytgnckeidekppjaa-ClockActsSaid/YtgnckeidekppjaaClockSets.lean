/-
  Set, whatever its argument; the timers behind some Sets; the reference's Set and Advance, whatever their arguments.
-/
import Derived.Test.YtgnckeidekppjaaClock
import Derived.Test.YtgnckeidekppjaaOps
import Derived.Test.YtgnckeidekppjaaRefLaw
namespace Go.Proofs.Ytgnckeidekppjaa
open Go.RowKit Go.Maps
set_option linter.unusedVariables false
set_option linter.unusedSimpArgs false

/-- The timers behind a Set. -/
def setF (now : Int) (f : Int → Option Int) (id n : Int) : Int → Option Int := if setOk n then upd f id (now + n) else f

def setE (after : Int) : Int := if setOk after then 0 else 1

theorem Set_any {w : World} {c b n : Nat} {now : Int} {f : Int → Option Int} (h : ClockAt w c b n now f) (id after : Int) (hid : (Lit.int .i64 id).wf = true) (h0n : 0 ≤ now) (h1n : now ≤ 4611686018427387904) (hn : n < maxLen) :
    Calls Try.prog 30 #[.pointer (some ⟨c, 0, none⟩), .int .i64 id, .int .i64 after] w fun e w' => e = .returned (.int .i64 (setE after)) ∧
      ClockAt w' c b (n + 1) now (setF now f id after) ∧ Touch (· = b) w w' := by
  unfold setF setE
  cases ha : setOk after with
  | true => simpa using Set_yes h id after hid ha h0n h1n hn
  | false =>
    refine (Set_no id after ha _).mono ?_
    rintro e w' ⟨rfl, rfl⟩
    exact ⟨rfl, h.mono (Nat.le_succ n), Touch.refl _ _⟩

def setAll (now : Int) (l : List OpV) : Int → Option Int := l.foldl (fun f o => setF now f o.id o.n) (fun _ => none)
theorem setAll_snoc (now : Int) (l : List OpV) (o : OpV) : setAll now (l ++ [o]) = setF now (setAll now l) o.id o.n := by simp [setAll]


/-- The reference's list behind a Set. -/
def setL (now : Int) (l : List Tm) (id n : Int) : List Tm := if setOk n then insT ⟨id, now + n⟩ (l.filter fun t => !decide (t.id = id)) else l

theorem setL_len (now : Int) (l : List Tm) (id n : Int) : (setL now l id n).length ≤ l.length + 1 := by
  unfold setL; split
  · exact Rep.length_set id _
  · omega
theorem Rep.setF {f : Int → Option Int} {l : List Tm} (h : Rep f l) (now id n : Int) (hid : (Lit.int .i64 id).wf = true) : Rep (setF now f id n) (setL now l id n) := by
  unfold setL Ytgnckeidekppjaa.setF; split
  · exact h.set id _ hid
  · exact h

theorem RefSet_any {w : World} {base : Nat} {v : Value} {now : Int} {l : List Tm} (h : RefV w base v now l) (hl : l.length ≤ 900) (hbase : base ≤ w.heap.size) (id after : Int) (hn0 : 0 ≤ now) (hn1 : now ≤ 4611686018427387904) :
    Calls Try.prog 31 #[v, .int .i64 id, .int .i64 after] w fun e w' => ∃ v', e = .returned (.tuple #[v', .int .i64 (setE after)]) ∧
      RefV w' base v' now (setL now l id after) ∧ Below w.heap.size w w' := by
  unfold setE setL
  cases ha : setOk after with
  | true =>
    refine (RefSet_yes h hl id after ha hn0 hn1).mono ?_
    rintro e w' ⟨v', rfl, ⟨s, rfl, hr⟩, hb⟩
    exact ⟨_, rfl, ⟨s, rfl, own_lower hr hbase⟩, hb⟩
  | false =>
    refine (RefSet_no h id after ha).mono ?_
    obtain ⟨s, rfl, hr⟩ := h
    rintro e w' ⟨rfl, hb⟩
    exact ⟨_, rfl, ⟨s, rfl, own_touchL hr (Touch.of_new (X := fun _ => False) hb) (fun _ _ h => h)⟩, hb⟩

end Go.Proofs.Ytgnckeidekppjaa
