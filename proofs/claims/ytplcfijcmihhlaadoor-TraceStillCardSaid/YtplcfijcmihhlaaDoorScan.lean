/-
  The walks of body's scanned, Scan and Payload over a body that stops behind its first data.
-/
import Derived.Test.YtplcfijcmihhlaaDoorScanned
import Derived.Laws.Rows
namespace Go.Proofs.YtplcfijcmihhlaaDoor
open Go.RowKit
set_option linter.unusedVariables false
set_option linter.unusedSimpArgs false

theorem results_cc {P : Program} {fn : Func} {p q : Tmp} {ty ty2 : TypeId} (h : fn.results = #[.cell p ty, .cell q ty2]) (tmps : Array Value) (w : World) (g : Nat) (t : TypeId) (cs : Array Value) (fr : Nat × Nat) (d : TypeDesc) (g2 : Nat) (t2 : TypeId) (cs2 : Array Value) (fr2 : Nat × Nat) (d2 : TypeDesc)
    (hp : tmps.getD p undef = .pointer (some ⟨g, 0, none⟩)) (hg : w.heap[g]? = some (.cells cs t fr))
    (hu : P.underlying ty = some d) (hd : (match d with | .struct _ | .array _ _ => true | _ => false) = true) (hi : (P.info? ty).map (·.size) = some cs.size)
    (hq : tmps.getD q undef = .pointer (some ⟨g2, 0, none⟩)) (hg2 : w.heap[g2]? = some (.cells cs2 t2 fr2))
    (hu2 : P.underlying ty2 = some d2) (hd2 : (match d2 with | .struct _ | .array _ _ => true | _ => false) = true) (hi2 : (P.info? ty2).map (·.size) = some cs2.size) :
    (results fn tmps).run P w = .ok (.tuple #[.agg cs, .agg cs2]) w := by
  have hp' : tmps[p]?.getD undef = .pointer (some ⟨g, 0, none⟩) := by simpa using hp
  have hq' : tmps[q]?.getD undef = .pointer (some ⟨g2, 0, none⟩) := by simpa using hq
  simp [results, h, hp', hq', asAddr, run_loadVar_row w g t ty cs fr d hg hu hd hi, run_loadVar_row w g2 t2 ty2 cs2 fr2 d2 hg2 hu2 hd2 hi2]
theorem Tryd.size_body : (Tryd.prog.info? 76).map (·.size) = some 3 := by kernel_rfl
theorem Tryd.size_stop : (Tryd.prog.info? 133).map (·.size) = some 2 := by kernel_rfl

section
variable {W : World} {R : Nat} {a b c : Int}
set_option maxHeartbeats 1000000 in
set_option maxRecDepth 100000 in
theorem scanned_stop {g o d cap : Nat} {l : List Int} (h : RAt W R (.slice (some ⟨g, o, none⟩) (d + 3) cap) a b c 0 (.slice none 0 0)) (hd0 : 1 ≤ d) (hd1 : d ≤ 9) (hcap : d + 3 ≤ cap) (hcm : cap ≤ maxLen) (hg : g ≠ R) (hgl : g < W.heap.size)
    (hl : l.length = d + 3) (h0 : l[0]?.getD (0 : Int) = (48 + (d : Int) : Int)) (h1 : l[1]?.getD (0 : Int) = 13) (h2 : l[2]?.getD (0 : Int) = 10) (hc : ∀ j, j < d + 3 → W.cell? ⟨g, o + j, none⟩ = some (enc8 (l[j]?.getD 0))) :
    Calls Tryd.prog 67 #[.pointer (some ⟨R, 0, none⟩)] W fun e w' => e = .returned (.tuple #[.agg #[.slice none 0 0, .slice none 0 0, .int .i64 0], .agg #[.int .i64 (d + 3 : Nat), .int .i64 4]]) ∧
      ∃ v, RAt w' R (.slice (some ⟨g, o, none⟩) (d + 3) cap) a b c (d + 3 : Nat) v ∧ w'.ownsRow W.heap.size 5 1 v d ((l.drop 3).map enc8) ∧ Touch (· = R) W w' := by
  have hmf : ∀ (fn : Fn) (first cap : Array Value) (w : World), (Instr.makeFunc fn first cap).run Tryd.prog w = .ok (.func fn first cap) w := fun _ _ _ _ => rfl
  have HRl := lt_of_heap h.box
  obtain ⟨W1, e1, hz1, b1, b2, t1⟩ : ∃ W1, (W.alloc (.cells #[.slice none 0 0, .slice none 0 0, .int .i64 0] 76)).alloc (.cells #[.int .i64 0, .int .i64 0] 133) = W1 ∧ W1.heap.size = W.heap.size + 2 ∧ BodyBox W1 W.heap.size ∧ StopBox W1 (W.heap.size + 1) 0 0 ∧ Touch (fun _ => False) W W1 :=
    ⟨_, rfl, by simp, by show ((W.alloc _).alloc _).heap[W.heap.size]? = _; rw [Below.heap_alloc _ _ _ (by simp), World.alloc_heap_new], heap_alloc2_new _ _ _, ((Touch.refl _ W).alloc _).alloc _⟩
  have hC := Lib.hid (chunk_stop (W := W1) (l := l) ⟨(t1.block R HRl (fun h => h)).trans h.box⟩ hd0 hd1 hcap hcm hg (by omega) hl h0 h1 h2 (fun j hj => (t1.cell (p := ⟨g, o + j, none⟩) hgl (fun h => h)).trans (hc j hj)))
  go_enter_defers Tryd.func67, Tryd.ntmps67
  go_wp2_with fail
  refine wp_loop_once ?_
  go_wp2_with fail
  refine hC.out.mono ?_; rintro e w2 ⟨rfl, v, k2, o2, t2⟩; dsimp only
  refine leaves_cons (f := 88) (args := #[.pointer (some ⟨W.heap.size, 0, none⟩), .pointer (some ⟨W.heap.size + 1, 0, none⟩)]) (by simp) (by simp [go_sem]) ?_
  refine (catch_panicking W.heap.size (W.heap.size + 1) (d + 3 : Nat) 4 [] _ ((t2.block _ (by omega) (by omega)).trans b1) ((t2.block _ (by omega) (by omega)).trans b2) (by omega)).mono ?_
  rintro e u' w3 ⟨rfl, rfl, k3, k4, t3⟩
  dsimp only
  rw [show settle (.panicking [stopR ((d + 3 : Nat) : Int) 4]) = .returning from rfl]
  refine ⟨_, results_cc rfl _ _ _ _ _ _ _ _ _ _ _ _ rfl k3 Tryd.underlying76 rfl Tryd.size_body rfl k4 Tryd.underlying133 rfl Tryd.size_stop, rfl, v, ⟨(t3.block R (lt_of_heap k2.box) (by omega)).trans k2.box⟩, ?_, ?_⟩
  · exact own_lower (own_touchL o2 t3 (fun k hk e => by rcases e with e | e <;> exact own_ge o2 (k := k) (by omega) (by rw [hk]))) (by omega)
  · exact ⟨t3.os.trans (t2.os.trans t1.os), t3.tape.trans (t2.tape.trans t1.tape), t3.output.trans (t2.output.trans t1.output), by have := t1.size; have := t2.size; have := t3.size; omega,
      fun k hk hx => (t3.block k (by have := t2.size; omega) (by omega)).trans ((t2.block k (by omega) hx).trans (t1.block k hk (fun h => h)))⟩
end

end Go.Proofs.YtplcfijcmihhlaaDoor
