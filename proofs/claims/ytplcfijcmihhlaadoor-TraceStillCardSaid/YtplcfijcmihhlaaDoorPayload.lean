/-
  The walks of body's Right, Scan and Payload over a body that stops behind its first data.
-/
import Derived.Test.YtplcfijcmihhlaaDoorScan
namespace Go.Proofs.YtplcfijcmihhlaaDoor
open Go.RowKit
set_option linter.unusedVariables false
set_option linter.unusedSimpArgs false

theorem results_ctt {P : Program} {fn : Func} {p u u2 : Tmp} {ty : TypeId} (h : fn.results = #[.cell p ty, .tmp u, .tmp u2]) (tmps : Array Value) (w : World) (g : Nat) (t : TypeId) (cs : Array Value) (fr : Nat × Nat) (d : TypeDesc)
    (hp : tmps.getD p undef = .pointer (some ⟨g, 0, none⟩)) (hg : w.heap[g]? = some (.cells cs t fr))
    (hu : P.underlying ty = some d) (hd : (match d with | .struct _ | .array _ _ => true | _ => false) = true) (hi : (P.info? ty).map (·.size) = some cs.size) :
    (results fn tmps).run P w = .ok (.tuple #[.agg cs, tmps.getD u undef, tmps.getD u2 undef]) w := by
  have hp' : tmps[p]?.getD undef = .pointer (some ⟨g, 0, none⟩) := by simpa using hp
  simp [results, h, hp', asAddr, run_loadVar_row w g t ty cs fr d hg hu hd hi]

theorem MinC_any (x : Int) (w : World) (g : Nat) (h : ∀ j, j < 3 → w.cell? ⟨g, j, none⟩ = some (.int .i64 x)) :
    Calls Tryd.prog 86 #[.slice (some ⟨g, 0, none⟩) 3 3] w fun e w' => e = .returned (.int .i64 x) ∧ w = w' := by
  have h0 := h 0 (by omega)
  have h1 := h 1 (by omega)
  have h2 := h 2 (by omega)
  clear h
  go_enter Tryd.func86, Tryd.ntmps86
  go_wp2_with fail
  go_loopw [3, 4] (fun m i wr => w = wr ∧ m = .int .i64 x ∧ (i = .int .i64 1 ∨ i = .int .i64 2 ∨ i = .int .i64 3)) (fun _ i _ => 4 - (intOf i).toNat)
  case atStart => exact ⟨rfl, rfl, .inl rfl⟩
  case round =>
    obtain ⟨rfl, rfl, hi⟩ := hrel
    rcases hi with rfl | rfl | rfl
    · go_wp2_with fail
      go_roundw
      case rel => simp
      case measure => decide
    · go_wp2_with fail
      go_roundw
      case rel => simp
      case measure => decide
    · go_wp2_with fail
      go_ret
      exact ⟨rfl, rfl⟩

theorem MaxC_any (x : Int) (w : World) (g : Nat) (h : ∀ j, j < 3 → w.cell? ⟨g, j, none⟩ = some (.int .i64 x)) :
    Calls Tryd.prog 87 #[.slice (some ⟨g, 0, none⟩) 3 3] w fun e w' => e = .returned (.int .i64 x) ∧ w = w' := by
  have h0 := h 0 (by omega)
  have h1 := h 1 (by omega)
  have h2 := h 2 (by omega)
  clear h
  go_enter Tryd.func87, Tryd.ntmps87
  go_wp2_with fail
  go_loopw [3, 4] (fun m i wr => w = wr ∧ m = .int .i64 x ∧ (i = .int .i64 1 ∨ i = .int .i64 2 ∨ i = .int .i64 3)) (fun _ i _ => 4 - (intOf i).toNat)
  case atStart => exact ⟨rfl, rfl, .inl rfl⟩
  case round =>
    obtain ⟨rfl, rfl, hi⟩ := hrel
    rcases hi with rfl | rfl | rfl
    · go_wp2_with fail
      go_roundw
      case rel => simp
      case measure => decide
    · go_wp2_with fail
      go_roundw
      case rel => simp
      case measure => decide
    · go_wp2_with fail
      go_ret
      exact ⟨rfl, rfl⟩

theorem BodyRightC_any (x : Int) (hx0 : 0 ≤ x) (hx1 : x ≤ 65536) (w : World) :
    Calls Tryd.prog 66 #[.agg #[.int .i64 x, .int .i64 x, .int .i64 x]] w fun e w' => e = .returned (.bool true) ∧ Below w.heap.size w w' := by
  go_enter Tryd.func66, Tryd.ntmps66
  go_wp2_with fail
  have hb : Below w.heap.size w ((w.alloc (.cells #[.int .i64 x, .int .i64 x, .int .i64 x] 73)).alloc (.cells #[.int .i64 x, .int .i64 x, .int .i64 x] 3)) := ((Below.refl _ w).alloc (Nat.le_refl _) _).alloc (by simp) _
  have hB := heap_alloc2_new w (.cells #[.int .i64 x, .int .i64 x, .int .i64 x] 73) (.cells #[.int .i64 x, .int .i64 x, .int .i64 x] 3)
  obtain ⟨W, eW⟩ : ∃ W, (w.alloc (.cells #[.int .i64 x, .int .i64 x, .int .i64 x] 73)).alloc (.cells #[.int .i64 x, .int .i64 x, .int .i64 x] 3) = W := ⟨_, rfl⟩
  rw [eW] at hb hB ⊢
  have hc : ∀ j, j < 3 → W.cell? ⟨w.heap.size + 1, j, none⟩ = some (.int .i64 x) := by
    intro j hj
    rw [cell_of_row W (w.heap.size + 1) j _ _ _ hB]
    have : j = 0 ∨ j = 1 ∨ j = 2 := by omega
    rcases this with rfl | rfl | rfl <;> rfl
  have h1 := Lib.hid (MinC_any x W (w.heap.size + 1) hc)
  have h2 := Lib.hid (MaxC_any x W (w.heap.size + 1) hc)
  clear hc eW
  refine h1.out.mono ?_; rintro e w1 ⟨rfl, rfl⟩; dsimp only
  go_wp2_with fail
  refine h2.out.mono ?_; rintro e w1 ⟨rfl, rfl⟩; dsimp only
  go_wp2_with fail
  go_ret
  exact ⟨ret_bool (by simp [hx0, hx1]), hb⟩

set_option maxHeartbeats 1000000 in
set_option maxRecDepth 100000 in
theorem Scan_stop {W : World} {g o d cap : Nat} {l : List Int} (hd0 : 1 ≤ d) (hd1 : d ≤ 9) (hcap : d + 3 ≤ cap) (hcm : cap ≤ maxLen) (hgl : g < W.heap.size)
    (hl : l.length = d + 3) (h0 : l[0]?.getD (0 : Int) = (48 + (d : Int) : Int)) (h1 : l[1]?.getD (0 : Int) = 13) (h2 : l[2]?.getD (0 : Int) = 10) (hc : ∀ j, j < d + 3 → W.cell? ⟨g, o + j, none⟩ = some (enc8 (l[j]?.getD 0))) :
    Calls Tryd.prog 35 #[.slice (some ⟨g, o, none⟩) (d + 3) cap, .agg #[.int .i64 65536, .int .i64 65536, .int .i64 65536]] W fun e w' => e = .returned (.tuple #[.agg #[.slice none 0 0, .slice none 0 0, .int .i64 0], .int .i64 (d + 3 : Nat), .int .i64 4]) ∧ Below W.heap.size W w' := by
  obtain ⟨W1, e1, hz1, b0, b1, t1⟩ : ∃ W1, (W.alloc (.cells #[.int .i64 65536, .int .i64 65536, .int .i64 65536] 73)).alloc (.cells #[.slice none 0 0, .slice none 0 0, .int .i64 0] 76) = W1 ∧ W1.heap.size = W.heap.size + 2 ∧
      W1.heap[W.heap.size]? = some (.cells #[.int .i64 65536, .int .i64 65536, .int .i64 65536] 73) ∧ BodyBox W1 (W.heap.size + 1) ∧ Touch (fun _ => False) W W1 :=
    ⟨_, rfl, by simp, by rw [Below.heap_alloc _ _ _ (by simp), World.alloc_heap_new], heap_alloc2_new _ _ _, ((Touch.refl _ W).alloc _).alloc _⟩
  have v0 := cell_of_row W1 W.heap.size 0 _ _ _ b0
  have v1 := cell_of_row W1 W.heap.size 1 _ _ _ b0
  have v2 := cell_of_row W1 W.heap.size 2 _ _ _ b0
  simp only [List.getElem?_toArray, List.getElem?_cons_zero, List.getElem?_cons_succ] at v0 v1 v2
  go_enter Tryd.func35, Tryd.ntmps35
  go_wp2_with fail
  refine (BodyRightC_any 65536 (by decide) (by decide) W1).mono ?_; rintro e w2 ⟨rfl, hb2⟩; dsimp only
  clear e1
  have hz2 := hb2.size
  have t2 := t1.trans (Touch.of_new hb2)
  have B0 := (hb2.block W.heap.size (by omega)).trans b0
  have x0 := cell_of_row w2 W.heap.size 0 _ _ _ B0
  have x1 := cell_of_row w2 W.heap.size 1 _ _ _ B0
  have x2 := cell_of_row w2 W.heap.size 2 _ _ _ B0
  simp only [List.getElem?_toArray, List.getElem?_cons_zero, List.getElem?_cons_succ] at x0 x1 x2
  have B1 : BodyBox w2 (W.heap.size + 1) := (hb2.block (W.heap.size + 1) (by omega)).trans b1
  clear b0 b1 B0 hb2 t1 v0 v1 v2
  have f3 : Touch (fun _ => False) w2 (w2.alloc (.cells #[.slice (some ⟨g, o, none⟩) (d + 3) cap, .int .i64 65536, .int .i64 65536, .int .i64 65536, .int .i64 0, .slice none 0 0] 131)) := (Touch.refl _ w2).alloc _
  have hRd : RAt (w2.alloc (.cells #[.slice (some ⟨g, o, none⟩) (d + 3) cap, .int .i64 65536, .int .i64 65536, .int .i64 65536, .int .i64 0, .slice none 0 0] 131)) w2.heap.size (.slice (some ⟨g, o, none⟩) (d + 3) cap) 65536 65536 65536 0 (.slice none 0 0) := ⟨heap_alloc_new w2 _⟩
  have hS := Lib.hid (scanned_stop (l := l) hRd hd0 hd1 hcap hcm (by omega) (by rw [World.size_alloc]; omega) hl h0 h1 h2 (fun j hj => (f3.cell (p := ⟨g, o + j, none⟩) (by show g < w2.heap.size; omega) (fun h => h)).trans ((t2.cell (p := ⟨g, o + j, none⟩) hgl (fun h => h)).trans (hc j hj))))
  clear hRd hc
  go_wp2_with fail
  refine hS.out.mono ?_; rintro e w4 ⟨rfl, v, k4, o4, t4⟩; dsimp only
  have hz4 := t4.size
  rw [World.size_alloc] at hz4
  have B4 : BodyBox w4 (W.heap.size + 1) := (t4.block _ (by rw [World.size_alloc]; omega) (by omega)).trans ((f3.block _ (by omega) (fun h => h)).trans B1)
  have f5 : Touch (fun _ => False) w4 (w4.alloc (.cells #[.int .i64 0, .int .i64 0] 133)) := (Touch.refl _ w4).alloc _
  have B5 : BodyBox (w4.alloc (.cells #[.int .i64 0, .int .i64 0] 133)) (W.heap.size + 1) := (f5.block _ (by omega) (fun h => h)).trans B4
  have S5 : StopBox (w4.alloc (.cells #[.int .i64 0, .int .i64 0] 133)) w4.heap.size 0 0 := heap_alloc_new w4 _
  have k0 : (w4.alloc (.cells #[.int .i64 0, .int .i64 0] 133)).cell? ⟨W.heap.size + 1, 0, none⟩ = some (.slice none 0 0) := by simp [World.cell?, B5]
  have k1 : (w4.alloc (.cells #[.int .i64 0, .int .i64 0] 133)).cell? ⟨W.heap.size + 1, 1, none⟩ = some (.slice none 0 0) := by simp [World.cell?, B5]
  have k2 : (w4.alloc (.cells #[.int .i64 0, .int .i64 0] 133)).cell? ⟨W.heap.size + 1, 2, none⟩ = some (.int .i64 0) := by simp [World.cell?, B5]
  have fr : ∀ j, (w4.alloc (.cells #[.int .i64 0, .int .i64 0] 133)).frozen? ⟨W.heap.size + 1, j, none⟩ = false := fun j => by simp [World.frozen?, B5]
  have hne1 : ¬ w4.heap.size = W.heap.size + 1 := by omega
  have hne2 : ¬ W.heap.size + 1 = w4.heap.size := by omega
  have T4 := Lib.hid (((t2.trans f3).mono (Y := fun k => W.heap.size ≤ k) (fun _ _ h => h.elim)).trans (t4.mono (Y := fun k => W.heap.size ≤ k) (fun k _ e => by have e' : k = w2.heap.size := e; omega)))
  clear t4 t2 f3 B1 x0 x1 x2 k4 o4 hS f5
  go_wp2_with fail
  obtain ⟨W6, e6, B6, S6, T6⟩ : ∃ W6, (((((w4.alloc (.cells #[.int .i64 0, .int .i64 0] 133)).setCell ⟨W.heap.size + 1, 0, none⟩ (.slice none 0 0)).setCell ⟨W.heap.size + 1, 1, none⟩ (.slice none 0 0)).setCell ⟨W.heap.size + 1, 2, none⟩ (.int .i64 0)).setCell ⟨w4.heap.size, 0, none⟩ (.int .i64 ((d : Int) + 3))).setCell ⟨w4.heap.size, 1, none⟩ (.int .i64 4) = W6 ∧
      BodyBox W6 (W.heap.size + 1) ∧ StopBox W6 w4.heap.size ((d : Int) + 3) 4 ∧ Touch (fun k => W.heap.size ≤ k) w4 W6 := by
    refine ⟨_, rfl, ?_, ?_, ?_⟩
    · have b1 := set4 (j := 2) (.int .i64 0) (set4 (j := 1) (.slice none 0 0) (set4 (j := 0) (.slice none 0 0) B5))
      show _ = _
      rw [Below.heap_setCell _ ⟨w4.heap.size, 1, none⟩ _ _ hne2, Below.heap_setCell _ ⟨w4.heap.size, 0, none⟩ _ _ hne2]
      exact b1
    · have s1 : StopBox ((((w4.alloc (.cells #[.int .i64 0, .int .i64 0] 133)).setCell ⟨W.heap.size + 1, 0, none⟩ (.slice none 0 0)).setCell ⟨W.heap.size + 1, 1, none⟩ (.slice none 0 0)).setCell ⟨W.heap.size + 1, 2, none⟩ (.int .i64 0)) w4.heap.size 0 0 := by
        show _ = _
        rw [Below.heap_setCell _ ⟨W.heap.size + 1, 2, none⟩ _ _ hne1, Below.heap_setCell _ ⟨W.heap.size + 1, 1, none⟩ _ _ hne1, Below.heap_setCell _ ⟨W.heap.size + 1, 0, none⟩ _ _ hne1]
        exact S5
      exact set4 (j := 1) (.int .i64 4) (set4 (j := 0) (.int .i64 ((d : Int) + 3)) s1)
    · refine (((((((Touch.refl _ w4).alloc _).setCell ?_ _).setCell ?_ _).setCell ?_ _).setCell ?_ _).setCell ?_ _)
      all_goals first | exact .inl (by show W.heap.size ≤ W.heap.size + 1; omega) | exact .inl (by show W.heap.size ≤ w4.heap.size; omega)
  rw [e6]
  clear e6 k0 k1 k2 fr B5 S5 B4
  have q0 : W6.cell? ⟨W.heap.size + 1, 0, none⟩ = some (.slice none 0 0) := by simp [World.cell?, B6]
  have q1 : W6.cell? ⟨W.heap.size + 1, 1, none⟩ = some (.slice none 0 0) := by simp [World.cell?, B6]
  have q2 : W6.cell? ⟨W.heap.size + 1, 2, none⟩ = some (.int .i64 0) := by simp [World.cell?, B6]
  have fq : ∀ j, W6.frozen? ⟨W.heap.size + 1, j, none⟩ = false := fun j => by simp [World.frozen?, B6]
  have s0 := cell2_0 S6
  have s1 := cell2_1 S6
  have B7 : BodyBox (((W6.setCell ⟨W.heap.size + 1, 0, none⟩ (.slice none 0 0)).setCell ⟨W.heap.size + 1, 1, none⟩ (.slice none 0 0)).setCell ⟨W.heap.size + 1, 2, none⟩ (.int .i64 0)) (W.heap.size + 1) := set4 (j := 2) (.int .i64 0) (set4 (j := 1) (.slice none 0 0) (set4 (j := 0) (.slice none 0 0) B6))
  have T7 : Touch (fun k => W.heap.size ≤ k) W6 (((W6.setCell ⟨W.heap.size + 1, 0, none⟩ (.slice none 0 0)).setCell ⟨W.heap.size + 1, 1, none⟩ (.slice none 0 0)).setCell ⟨W.heap.size + 1, 2, none⟩ (.int .i64 0)) := by
    refine ((((Touch.refl _ W6).setCell ?_ _).setCell ?_ _).setCell ?_ _)
    all_goals exact .inl (by show W.heap.size ≤ W.heap.size + 1; omega)
  have HB7 := Lib.hid B7
  have HT7 := Lib.hid ((T4.out.trans T6).trans T7)
  clear B7 T7 T6 B6 S6
  go_region
  go_wp2_with fail
  refine bodyPost_ret (results_ctt rfl _ _ _ _ _ _ _ rfl (show (World.drew _).heap[W.heap.size + 1]? = _ from HB7.out) Tryd.underlying76 rfl Tryd.size_body) rfl ?_
  exact ⟨by simp, HT7.out.drew.below (Nat.le_refl _) (fun _ h => h)⟩

set_option maxHeartbeats 1000000 in
set_option maxRecDepth 100000 in
theorem Payload_stop {W : World} {g o d cap : Nat} {l : List Int} (hd0 : 1 ≤ d) (hd1 : d ≤ 9) (hcap : d + 3 ≤ cap) (hcm : cap ≤ maxLen) (hgl : g < W.heap.size)
    (hl : l.length = d + 3) (h0 : l[0]?.getD (0 : Int) = (48 + (d : Int) : Int)) (h1 : l[1]?.getD (0 : Int) = 13) (h2 : l[2]?.getD (0 : Int) = 10) (hc : ∀ j, j < d + 3 → W.cell? ⟨g, o + j, none⟩ = some (enc8 (l[j]?.getD 0))) :
    Calls Tryd.prog 37 #[.slice (some ⟨g, o, none⟩) (d + 3) cap, .agg #[.int .i64 65536, .int .i64 65536, .int .i64 65536]] W fun e w' => ∃ v, e = .returned v ∧ w'.ownsRow W.heap.size 5 1 v d ((l.drop 3).map enc8) ∧ Below W.heap.size W w' := by
  obtain ⟨W1, e1, hz1, b0, t1⟩ : ∃ W1, W.alloc (.cells #[.int .i64 65536, .int .i64 65536, .int .i64 65536] 73) = W1 ∧ W1.heap.size = W.heap.size + 1 ∧
      W1.heap[W.heap.size]? = some (.cells #[.int .i64 65536, .int .i64 65536, .int .i64 65536] 73) ∧ Touch (fun _ => False) W W1 :=
    ⟨_, rfl, by simp, heap_alloc_new W _, (Touch.refl _ W).alloc _⟩
  have v0 := cell_of_row W1 W.heap.size 0 _ _ _ b0
  have v1 := cell_of_row W1 W.heap.size 1 _ _ _ b0
  have v2 := cell_of_row W1 W.heap.size 2 _ _ _ b0
  simp only [List.getElem?_toArray, List.getElem?_cons_zero, List.getElem?_cons_succ] at v0 v1 v2
  go_enter Tryd.func37, Tryd.ntmps37
  go_wp2_with fail
  refine (BodyRightC_any 65536 (by decide) (by decide) W1).mono ?_; rintro e w2 ⟨rfl, hb2⟩; dsimp only
  clear e1
  have hz2 := hb2.size
  have t2 := t1.trans (Touch.of_new hb2)
  have B0 := (hb2.block W.heap.size (by omega)).trans b0
  have x0 := cell_of_row w2 W.heap.size 0 _ _ _ B0
  have x1 := cell_of_row w2 W.heap.size 1 _ _ _ B0
  have x2 := cell_of_row w2 W.heap.size 2 _ _ _ B0
  simp only [List.getElem?_toArray, List.getElem?_cons_zero, List.getElem?_cons_succ] at x0 x1 x2
  clear b0 B0 hb2 t1 v0 v1 v2
  have f3 : Touch (fun _ => False) w2 (w2.alloc (.cells #[.slice (some ⟨g, o, none⟩) (d + 3) cap, .int .i64 65536, .int .i64 65536, .int .i64 65536, .int .i64 0, .slice none 0 0] 131)) := (Touch.refl _ w2).alloc _
  have hRd : RAt (w2.alloc (.cells #[.slice (some ⟨g, o, none⟩) (d + 3) cap, .int .i64 65536, .int .i64 65536, .int .i64 65536, .int .i64 0, .slice none 0 0] 131)) w2.heap.size (.slice (some ⟨g, o, none⟩) (d + 3) cap) 65536 65536 65536 0 (.slice none 0 0) := ⟨heap_alloc_new w2 _⟩
  have hS := Lib.hid (scanned_stop (l := l) hRd hd0 hd1 hcap hcm (by omega) (by rw [World.size_alloc]; omega) hl h0 h1 h2 (fun j hj => (f3.cell (p := ⟨g, o + j, none⟩) (by show g < w2.heap.size; omega) (fun h => h)).trans ((t2.cell (p := ⟨g, o + j, none⟩) hgl (fun h => h)).trans (hc j hj))))
  clear hRd hc
  go_wp2_with fail
  refine hS.out.mono ?_; rintro e w4 ⟨rfl, v, k4, o4, t4⟩; dsimp only
  have c5 := k4.c5
  have T4 := Lib.hid (((t2.trans f3).mono (Y := fun k => W.heap.size ≤ k) (fun _ _ h => h.elim)).trans (t4.mono (Y := fun k => W.heap.size ≤ k) (fun k _ e => by have e' : k = w2.heap.size := e; omega)))
  have HO := Lib.hid (own_lower o4 (by rw [World.size_alloc]; omega : W.heap.size ≤ _))
  clear t4 t2 f3 x0 x1 x2 k4 o4 hS
  go_wp2_with fail
  go_ret
  exact ⟨v, rfl, HO.out, T4.out.below (Nat.le_refl _) (fun _ h => h)⟩

end Go.Proofs.YtplcfijcmihhlaaDoor
