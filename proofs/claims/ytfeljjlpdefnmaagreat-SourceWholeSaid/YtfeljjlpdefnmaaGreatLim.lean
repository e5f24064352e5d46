/-
  Limits that may be; a new decoder.
-/
import Derived.Test.YtfeljjlpdefnmaaGreatDecQ
namespace Go.Proofs.YtfeljjlpdefnmaaGreat
open Go.RowKit
set_option linter.unusedVariables false
set_option linter.unusedSimpArgs false
attribute [local go_sem] Oper.semAt_some

theorem heap_alloc2_newL (w : World) (o p : Obj) : ((w.alloc o).alloc p).heap[w.heap.size + 1]? = some p := by
  have h := World.alloc_heap_new (w.alloc o) p
  rwa [World.size_alloc] at h
theorem Min3_any (w : World) (g : Nat) (a b c : Int) (h0 : w.cell? ⟨g, 0, none⟩ = some (.int .i64 a)) (h1 : w.cell? ⟨g, 1, none⟩ = some (.int .i64 b)) (h2 : w.cell? ⟨g, 2, none⟩ = some (.int .i64 c)) :
    Calls Tryz.prog 49 #[.slice (some ⟨g, 0, none⟩) 3 3] w fun e w' => e = .returned (.int .i64 (min (min a b) c)) ∧ w = w' := by
  go_enter Tryz.func49, Tryz.ntmps49
  go_wp2_with fail
  go_loopw [3, 4] (fun m i wr => w = wr ∧ ((m = .int .i64 a ∧ i = .int .i64 1) ∨ (m = .int .i64 (min a b) ∧ i = .int .i64 2) ∨ (m = .int .i64 (min (min a b) c) ∧ i = .int .i64 3))) (fun _ i _ => 4 - (intOf i).toNat)
  case atStart => exact ⟨rfl, .inl ⟨rfl, rfl⟩⟩
  case round =>
    obtain ⟨rfl, hi⟩ := hrel
    rcases hi with ⟨rfl, rfl⟩ | ⟨rfl, rfl⟩ | ⟨rfl, rfl⟩
    · go_wp2_with fail
      go_roundw
      case rel => simp
      case measure => decide
    · go_wp2_with fail
      go_roundw
      case rel => simp
      case measure => decide
    · go_wp2_with fail
      go_ret
      exact ⟨rfl, rfl⟩
theorem Max3_any (w : World) (g : Nat) (a b c : Int) (h0 : w.cell? ⟨g, 0, none⟩ = some (.int .i64 a)) (h1 : w.cell? ⟨g, 1, none⟩ = some (.int .i64 b)) (h2 : w.cell? ⟨g, 2, none⟩ = some (.int .i64 c)) :
    Calls Tryz.prog 50 #[.slice (some ⟨g, 0, none⟩) 3 3] w fun e w' => e = .returned (.int .i64 (max (max a b) c)) ∧ w = w' := by
  go_enter Tryz.func50, Tryz.ntmps50
  go_wp2_with fail
  go_loopw [3, 4] (fun m i wr => w = wr ∧ ((m = .int .i64 a ∧ i = .int .i64 1) ∨ (m = .int .i64 (max a b) ∧ i = .int .i64 2) ∨ (m = .int .i64 (max (max a b) c) ∧ i = .int .i64 3))) (fun _ i _ => 4 - (intOf i).toNat)
  case atStart => exact ⟨rfl, .inl ⟨rfl, rfl⟩⟩
  case round =>
    obtain ⟨rfl, hi⟩ := hrel
    rcases hi with ⟨rfl, rfl⟩ | ⟨rfl, rfl⟩ | ⟨rfl, rfl⟩
    · go_wp2_with fail
      go_roundw
      case rel => simp
      case measure => decide
    · go_wp2_with fail
      go_roundw
      case rel => simp
      case measure => decide
    · go_wp2_with fail
      go_ret
      exact ⟨rfl, rfl⟩

def rightL (a b c : Int) : Bool := decide (0 ≤ min (min a b) c) && decide (max (max a b) c ≤ 65536)
theorem BodyRight_any (a b c : Int) (w : World) :
    Calls Tryz.prog 39 #[.agg #[.int .i64 a, .int .i64 b, .int .i64 c]] w fun e w' => e = .returned (.bool (rightL a b c)) ∧ Below w.heap.size w w' := by
  have hb : Below w.heap.size w ((w.alloc (.cells #[.int .i64 a, .int .i64 b, .int .i64 c] 27)).alloc (.cells #[.int .i64 a, .int .i64 b, .int .i64 c] 3)) := ((Below.refl _ w).alloc (Nat.le_refl _) _).alloc (by simp) _
  have hB := heap_alloc2_newL w (.cells #[.int .i64 a, .int .i64 b, .int .i64 c] 27) (.cells #[.int .i64 a, .int .i64 b, .int .i64 c] 3)
  obtain ⟨mn, hmn⟩ : ∃ mn, min (min a b) c = mn := ⟨_, rfl⟩
  obtain ⟨mx, hmx⟩ : ∃ mx, max (max a b) c = mx := ⟨_, rfl⟩
  have HR : Hid (rightL a b c = (decide (0 ≤ mn) && decide (mx ≤ 65536))) := Lib.hid (by unfold rightL; rw [hmn, hmx])
  have hc := fun (W : World) (hh : W.heap[w.heap.size + 1]? = some (.cells #[.int .i64 a, .int .i64 b, .int .i64 c] 3 (0, 0))) => Lib.hid (show W.cell? ⟨w.heap.size + 1, 0, none⟩ = some (.int .i64 a) ∧ W.cell? ⟨w.heap.size + 1, 1, none⟩ = some (.int .i64 b) ∧ W.cell? ⟨w.heap.size + 1, 2, none⟩ = some (.int .i64 c) from by
    refine ⟨?_, ?_, ?_⟩ <;> simp [World.cell?, hh])
  by_cases h0 : 0 ≤ mn
  · have Hd := Lib.hid (decide_eq_true h0)
    go_enter Tryz.func39, Tryz.ntmps39
    go_wp2_with fail
    obtain ⟨W, eW⟩ : ∃ W, (w.alloc (.cells #[.int .i64 a, .int .i64 b, .int .i64 c] 27)).alloc (.cells #[.int .i64 a, .int .i64 b, .int .i64 c] 3) = W := ⟨_, rfl⟩
    rw [eW] at hb hB ⊢
    have hcc := (hc W hB).out
    have h1 := Lib.hid (Min3_any W (w.heap.size + 1) a b c hcc.1 hcc.2.1 hcc.2.2)
    have h2 := Lib.hid (Max3_any W (w.heap.size + 1) a b c hcc.1 hcc.2.1 hcc.2.2)
    rw [hmn] at h1
    rw [hmx] at h2
    clear hc eW hcc hmn hmx
    refine h1.out.mono ?_; rintro e w1 ⟨rfl, rfl⟩; dsimp only
    go_wp2_with fail
    refine h2.out.mono ?_; rintro e w1 ⟨rfl, rfl⟩; dsimp only
    go_wp2_with fail
    go_ret
    exact ⟨ret_bool (by rw [HR.out, Hd.out]; rfl), hb⟩
  · have Hd := Lib.hid (decide_eq_false h0)
    go_enter Tryz.func39, Tryz.ntmps39
    go_wp2_with fail
    obtain ⟨W, eW⟩ : ∃ W, (w.alloc (.cells #[.int .i64 a, .int .i64 b, .int .i64 c] 27)).alloc (.cells #[.int .i64 a, .int .i64 b, .int .i64 c] 3) = W := ⟨_, rfl⟩
    rw [eW] at hb hB ⊢
    have hcc := (hc W hB).out
    have h1 := Lib.hid (Min3_any W (w.heap.size + 1) a b c hcc.1 hcc.2.1 hcc.2.2)
    rw [hmn] at h1
    clear hc eW hcc hmn hmx
    refine h1.out.mono ?_; rintro e w1 ⟨rfl, rfl⟩; dsimp only
    go_wp2_with fail
    go_ret
    exact ⟨ret_bool (by rw [HR.out, Hd.out]; rfl), hb⟩

/-- A new decoder. -/
def newD (a b c : Int) : Dec := ⟨a, b, c, 0, 0, 0, 0, 0, [], [], 0, 0, 0⟩
theorem rightL_bd {a b c : Int} (h : rightL a b c = true) : (0 ≤ a ∧ a ≤ 65536) ∧ (0 ≤ b ∧ b ≤ 65536) ∧ 0 ≤ c ∧ c ≤ 65536 := by
  unfold rightL at h
  simp at h
  omega
theorem newD_wf {a b c : Int} (h : rightL a b c = true) : WfD (newD a b c) := by
  have := rightL_bd h
  unfold newD
  constructor <;> simp <;> try omega
set_option maxHeartbeats 1000000 in
theorem DNew_any (a b c : Int) (w : World) (h : rightL a b c = true) :
    Calls Tryz.prog 40 #[.agg #[.int .i64 a, .int .i64 b, .int .i64 c]] w fun e w' => ∃ D, e = .returned (.tuple #[.pointer (some ⟨D, 0, none⟩), .int .i64 0]) ∧ w.heap.size ≤ D ∧
      DecAt w' (fun k => k = D) D (.slice none 0 0) (.slice none 0 0) (newD a b c) ∧ Below w.heap.size w w' := by
  have hR := fun W => Lib.hid (BodyRight_any a b c W)
  rw [h] at hR
  go_enter Tryz.func40, Tryz.ntmps40
  go_wp2_with fail
  have hb0 : Below w.heap.size w (w.alloc (.cells #[.int .i64 a, .int .i64 b, .int .i64 c] 27)) := (Below.refl _ w).alloc (Nat.le_refl _) _
  have hB := World.alloc_heap_new w (.cells #[.int .i64 a, .int .i64 b, .int .i64 c] 27)
  obtain ⟨W, eW⟩ : ∃ W, w.alloc (.cells #[.int .i64 a, .int .i64 b, .int .i64 c] 27) = W := ⟨_, rfl⟩
  rw [eW] at hb0 hB ⊢
  refine (hR W).out.mono ?_; rintro e w1 ⟨rfl, hb1⟩; dsimp only
  have hB1 := (hb1.block w.heap.size (lt_of_heap hB)).trans hB
  have x0 : w1.cell? ⟨w.heap.size, 0, none⟩ = some (.int .i64 a) := by simp [World.cell?, hB1]
  have x1 : w1.cell? ⟨w.heap.size, 1, none⟩ = some (.int .i64 b) := by simp [World.cell?, hB1]
  have x2 : w1.cell? ⟨w.heap.size, 2, none⟩ = some (.int .i64 c) := by simp [World.cell?, hB1]
  have HB := Lib.hid (hb0.trans (hb1.mono hb0.size))
  clear eW hB hb0 hB1 hb1
  go_wp2_with fail
  go_ret2
  have hN := World.alloc_heap_new w1 (.cells #[.int .i64 a, .int .i64 b, .int .i64 c, .int .i64 0, .int .u64 0, .int .i64 0, .int .i64 0, .int .i64 0, .slice none 0 0, .slice none 0 0, .int .i64 0, .int .i64 0, .int .i64 0] 101)
  exact ⟨w1.heap.size, rfl, HB.out.size, ⟨hN, rfl, World.ownsRow_nil _ _ _ _, fun k hk => (by cases hk), World.ownsRow_nil _ _ _ _, fun k hk => (by cases hk), fun k hk => (by subst hk; simp)⟩, HB.out.alloc HB.out.size _⟩

end Go.Proofs.YtfeljjlpdefnmaaGreat
