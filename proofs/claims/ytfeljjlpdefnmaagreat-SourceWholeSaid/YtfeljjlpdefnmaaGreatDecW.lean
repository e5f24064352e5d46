/-
  Layer 9 (dechunk): the table of the places' ways.
-/
import Derived.Test.YtfeljjlpdefnmaaGreatDecP
namespace Go.Proofs.YtfeljjlpdefnmaaGreat
open Go.RowKit
set_option linter.unusedVariables false
set_option linter.unusedSimpArgs false
attribute [local go_sem] Oper.semAt_some

section
variable {W W1 : World} {F : Nat → Prop} {D : Nat} {vl vf : Value} {d : Dec} {e0 e1 e2 e3 e4 e5 : Int}
def wayF (k : Int) : Nat :=
  if k = 0 then 77 else if k = 1 then 78 else if k = 2 then 79 else if k = 4 then 81
  else if k = 5 then 82 else if k = 6 then 83 else if k = 7 then 84 else if k = 8 then 85
  else if k = 9 then 86 else 87
def wayAgg : Value := .agg #[.func (.func 77) #[] #[], .func (.func 78) #[] #[], .func (.func 79) #[] #[], .func (.func 80) #[] #[],
  .func (.func 81) #[] #[], .func (.func 82) #[] #[], .func (.func 83) #[] #[], .func (.func 84) #[] #[], .func (.func 85) #[] #[],
  .func (.func 86) #[] #[], .func (.func 87) #[] #[], .func (.func 87) #[] #[]]
def okWay (k : Int) : Prop := k = 0 ∨ k = 1 ∨ k = 2 ∨ k = 4 ∨ k = 5 ∨ k = 6 ∨ k = 7 ∨ k = 8 ∨ k = 9 ∨ k = 10
theorem way_index (k : Int) (hk : okWay k) (w : World) : (Instr.index 128 wayAgg (.int .i64 k)).run Tryz.prog w = .ok (.agg #[.func (.func (wayF k)) #[] #[]]) w := by
  rcases hk with rfl | rfl | rfl | rfl | rfl | rfl | rfl | rfl | rfl | rfl
  all_goals kernel_rfl
theorem results_cW {P : Program} {fn : Func} {p : Tmp} {ty : TypeId} (h : fn.results = #[.cell p ty]) (tmps : Array Value) (w : World) (g : Nat) (t : TypeId) (cs : Array Value) (fr : Nat × Nat) (d : TypeDesc)
    (hp : tmps.getD p undef = .pointer (some ⟨g, 0, none⟩)) (hg : w.heap[g]? = some (.cells cs t fr))
    (hu : P.underlying ty = some d) (hd : (match d with | .struct _ | .array _ _ => true | _ => false) = true) (hi : (P.info? ty).map (·.size) = some cs.size) :
    (results fn tmps).run P w = .ok (.agg cs) w := by
  have hp' : tmps[p]?.getD undef = .pointer (some ⟨g, 0, none⟩) := by simpa using hp
  simp [results, h, hp', asAddr, run_loadVar_row w g t ty cs fr d hg hu hd hi]
theorem Tryz.size_way : (Tryz.prog.info? 125).map (·.size) = some 1 := by kernel_rfl
set_option maxHeartbeats 2000000 in
set_option maxRecDepth 100000 in
theorem Way_any (k : Int) (h : W.cell? ⟨D, 3, none⟩ = some (.int .i64 k)) (hD : D < W.heap.size) (hk : okWay k) :
    Calls Tryz.prog 76 #[.pointer (some ⟨D, 0, none⟩)] W fun e w' => e = .returned (.agg #[.func (.func (wayF k)) #[] #[]]) ∧ Below W.heap.size W w' := by
  have hn : ∀ o, (W.alloc o).cell? ⟨D, 3, none⟩ = some (.int .i64 k) := fun o => (((Below.refl _ W).alloc (Nat.le_refl _) o).cell (p := ⟨D, 3, none⟩) hD).trans h
  have hI := way_index k hk
  unfold wayAgg at hI
  obtain ⟨fv, efv⟩ : ∃ fv, wayF k = fv := ⟨_, rfl⟩
  rw [efv] at hI ⊢
  have Efv := Lib.hid efv
  clear h hk efv
  go_enter Tryz.func76, Tryz.ntmps76
  go_wp2_with fail
  refine bodyPost_ret (results_cW rfl _ _ _ _ _ _ _ rfl (heap_alloc_new W _) Tryz.underlying125 rfl Tryz.size_way) rfl ?_
  exact ⟨rfl, (Below.refl _ W).alloc (Nat.le_refl _) _⟩
end

end Go.Proofs.YtfeljjlpdefnmaaGreat
