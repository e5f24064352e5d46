/-
  Layer 9 (dechunk): the table of the places' ways.
-/
import Derived.Test.YtfeljjlpdefnmaaDecP
namespace Go.Proofs.Ytfeljjlpdefnmaa
open Go.RowKit
set_option linter.unusedVariables false
set_option linter.unusedSimpArgs false
attribute [local go_sem] Oper.semAt_some

section
variable {W W1 : World} {F : Nat → Prop} {D : Nat} {vl vf : Value} {d : Dec} {e0 e1 e2 e3 e4 e5 : Int}
def wayF (k : Int) : Nat :=
  if k = 0 then 44 else if k = 1 then 45 else if k = 2 then 46 else if k = 4 then 48
  else if k = 5 then 49 else if k = 6 then 50 else if k = 7 then 51 else if k = 8 then 52
  else if k = 9 then 53 else 54
def wayAgg : Value := .agg #[.func (.func 44) #[] #[], .func (.func 45) #[] #[], .func (.func 46) #[] #[], .func (.func 47) #[] #[],
  .func (.func 48) #[] #[], .func (.func 49) #[] #[], .func (.func 50) #[] #[], .func (.func 51) #[] #[], .func (.func 52) #[] #[],
  .func (.func 53) #[] #[], .func (.func 54) #[] #[], .func (.func 54) #[] #[]]
def okWay (k : Int) : Prop := k = 0 ∨ k = 1 ∨ k = 2 ∨ k = 4 ∨ k = 5 ∨ k = 6 ∨ k = 7 ∨ k = 8 ∨ k = 9 ∨ k = 10
theorem way_index (k : Int) (hk : okWay k) (w : World) : (Instr.index 90 wayAgg (.int .i64 k)).run Try.prog w = .ok (.agg #[.func (.func (wayF k)) #[] #[]]) w := by
  rcases hk with rfl | rfl | rfl | rfl | rfl | rfl | rfl | rfl | rfl | rfl
  all_goals kernel_rfl
theorem results_cW {P : Program} {fn : Func} {p : Tmp} {ty : TypeId} (h : fn.results = #[.cell p ty]) (tmps : Array Value) (w : World) (g : Nat) (t : TypeId) (cs : Array Value) (fr : Nat × Nat) (d : TypeDesc)
    (hp : tmps.getD p undef = .pointer (some ⟨g, 0, none⟩)) (hg : w.heap[g]? = some (.cells cs t fr))
    (hu : P.underlying ty = some d) (hd : (match d with | .struct _ | .array _ _ => true | _ => false) = true) (hi : (P.info? ty).map (·.size) = some cs.size) :
    (results fn tmps).run P w = .ok (.agg cs) w := by
  have hp' : tmps[p]?.getD undef = .pointer (some ⟨g, 0, none⟩) := by simpa using hp
  simp [results, h, hp', asAddr, run_loadVar_row w g t ty cs fr d hg hu hd hi]
theorem Try.size_way : (Try.prog.info? 87).map (·.size) = some 1 := by kernel_rfl
set_option maxHeartbeats 2000000 in
set_option maxRecDepth 100000 in
theorem Way_any (k : Int) (h : W.cell? ⟨D, 3, none⟩ = some (.int .i64 k)) (hD : D < W.heap.size) (hk : okWay k) :
    Calls Try.prog 43 #[.pointer (some ⟨D, 0, none⟩)] W fun e w' => e = .returned (.agg #[.func (.func (wayF k)) #[] #[]]) ∧ Below W.heap.size W w' := by
  have hn : ∀ o, (W.alloc o).cell? ⟨D, 3, none⟩ = some (.int .i64 k) := fun o => (((Below.refl _ W).alloc (Nat.le_refl _) o).cell (p := ⟨D, 3, none⟩) hD).trans h
  have hI := way_index k hk
  unfold wayAgg at hI
  obtain ⟨fv, efv⟩ : ∃ fv, wayF k = fv := ⟨_, rfl⟩
  rw [efv] at hI ⊢
  have Efv := Lib.hid efv
  clear h hk efv
  go_enter Try.func43, Try.ntmps43
  go_wp2_with fail
  refine bodyPost_ret (results_cW rfl _ _ _ _ _ _ _ rfl (heap_alloc_new W _) Try.underlying87 rfl Try.size_way) rfl ?_
  exact ⟨rfl, (Below.refl _ W).alloc (Nat.le_refl _) _⟩
end

end Go.Proofs.Ytfeljjlpdefnmaa
