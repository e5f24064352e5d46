/-
  A slice of events (layer 22: seven cells an element) that is read; the walks of the small functions on events.
-/
import Derived.Test.YtplcfijcmihhlaaDoorReader
namespace Go.Proofs.YtplcfijcmihhlaaDoor
open Go.RowKit
set_option linter.unusedVariables false
set_option linter.unusedSimpArgs false

structure EvV where
  a : Int
  b : Int
  c : Int
  d : Int
  e : Int
  f : Int
  g : Int
instance : Inhabited EvV := ⟨⟨0, 0, 0, 0, 0, 0, 0⟩⟩
def EvV.ok (o : EvV) : Prop := (Lit.int .i64 o.a).wf = true ∧ (Lit.int .i64 o.b).wf = true ∧ (Lit.int .i64 o.c).wf = true ∧ (Lit.int .i64 o.d).wf = true ∧ (Lit.int .i64 o.e).wf = true ∧ (Lit.int .i64 o.f).wf = true ∧ (Lit.int .i64 o.g).wf = true
def EvV.arr (o : EvV) : Array Value := #[.int .i64 o.a, .int .i64 o.b, .int .i64 o.c, .int .i64 o.d, .int .i64 o.e, .int .i64 o.f, .int .i64 o.g]
def EvV.isStill (o : EvV) : Bool := decide (o.b = 0 ∧ o.c = 0 ∧ o.d = 0 ∧ o.e = 0 ∧ o.f = 0)

/-- One event's seven cells lie at p. -/
structure EvAt (W : World) (b off : Nat) (x : EvV) : Prop where
  c0 : W.cell? ⟨b, off, none⟩ = some (.int .i64 x.a)
  c1 : W.cell? ⟨b, off + 1, none⟩ = some (.int .i64 x.b)
  c2 : W.cell? ⟨b, off + 2, none⟩ = some (.int .i64 x.c)
  c3 : W.cell? ⟨b, off + 3, none⟩ = some (.int .i64 x.d)
  c4 : W.cell? ⟨b, off + 4, none⟩ = some (.int .i64 x.e)
  c5 : W.cell? ⟨b, off + 5, none⟩ = some (.int .i64 x.f)
  c6 : W.cell? ⟨b, off + 6, none⟩ = some (.int .i64 x.g)

theorem EvAt.keep {W W' : World} {b off : Nat} {x : EvV} (h : EvAt W b off x) (e : W'.heap[b]? = W.heap[b]?) : EvAt W' b off x := by
  have k : ∀ j, W'.cell? ⟨b, j, none⟩ = W.cell? ⟨b, j, none⟩ := fun j => World.cell?_of_block e
  exact ⟨(k _).trans h.c0, (k _).trans h.c1, (k _).trans h.c2, (k _).trans h.c3, (k _).trans h.c4, (k _).trans h.c5, (k _).trans h.c6⟩

def EventsAt (W : World) (B : Nat) (v : Value) (l : List EvV) : Prop :=
  ∃ A cap, v = .slice A l.length cap ∧ l.length ≤ cap ∧ cap ≤ maxLen ∧
    (l ≠ [] → ∃ b off, A = some ⟨b, off, none⟩ ∧ b < B ∧ ∀ j, j < l.length → EvAt W b (off + j * 7) (l[j]?.getD default))

theorem results_cs {P : Program} {fn : Func} {p : Tmp} {ty : TypeId} (h : fn.results = #[.cell p ty]) (tmps : Array Value) (w : World) (g : Nat) (t : TypeId) (cs : Array Value) (fr : Nat × Nat) (d : TypeDesc)
    (hp : tmps.getD p undef = .pointer (some ⟨g, 0, none⟩)) (hg : w.heap[g]? = some (.cells cs t fr))
    (hu : P.underlying ty = some d) (hd : (match d with | .struct _ | .array _ _ => true | _ => false) = true) (hi : (P.info? ty).map (·.size) = some cs.size) :
    (results fn tmps).run P w = .ok (.agg cs) w := by
  have hp' : tmps[p]?.getD undef = .pointer (some ⟨g, 0, none⟩) := by simpa using hp
  simp [results, h, hp', asAddr, run_loadVar_row w g t ty cs fr d hg hu hd hi]
theorem Tryd.size_event : (Tryd.prog.info? 33).map (·.size) = some 7 := by kernel_rfl

set_option maxHeartbeats 1000000 in
theorem of_any (x : EvV) (w : World) :
    Calls Tryd.prog 13 #[.agg x.arr] w fun e w' => e = .returned (.agg x.arr) ∧ Below w.heap.size w w' := by
  obtain ⟨a, b, c, d, e, f, g⟩ := x
  unfold EvV.arr
  dsimp only
  go_enter Tryd.func13, Tryd.ntmps13
  go_wp2_with fail
  refine bodyPost_ret (results_cs rfl _ _ _ _ _ _ _ rfl (heap_alloc2_new w _ _) Tryd.underlying33 rfl Tryd.size_event) rfl ?_
  exact ⟨rfl, ((Below.refl _ w).alloc (Nat.le_refl _) _).alloc (by simp) _⟩

set_option maxHeartbeats 1000000 in
theorem still_any (x : EvV) (w : World) :
    Calls Tryd.prog 42 #[.agg x.arr] w fun e w' => e = .returned (.bool x.isStill) ∧ Below w.heap.size w w' := by
  obtain ⟨a, b, c, d, e, f, g⟩ := x
  unfold EvV.arr EvV.isStill
  dsimp only
  go_enter Tryd.func42, Tryd.ntmps42
  go_wp2_with fail
  all_goals
    go_ret
    exact ⟨ret_bool (by simp [*]), (Below.refl _ w).alloc (Nat.le_refl _) _⟩

set_option maxHeartbeats 1000000 in
theorem RStill_any (x : EvV) (w : World) :
    Calls Tryd.prog 14 #[.agg x.arr] w fun e w' => e = .returned (.bool x.isStill) ∧ Below w.heap.size w w' := by
  obtain ⟨a, b, c, d, e, f, g⟩ := x
  unfold EvV.arr EvV.isStill
  dsimp only
  go_enter Tryd.func14, Tryd.ntmps14
  go_wp2_with fail
  all_goals
    go_ret
    exact ⟨ret_bool (by first | (simp [*]; done) | (simp [*]; rfl)), (Below.refl _ w).alloc (Nat.le_refl _) _⟩

end Go.Proofs.YtplcfijcmihhlaaDoor
