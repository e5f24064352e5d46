/-
  Same bytes.
-/
import Derived.Test.YtfeljjlpdefnmaaGreatInw
namespace Go.Proofs.YtfeljjlpdefnmaaGreat
open Go.RowKit
set_option linter.unusedVariables false
set_option linter.unusedSimpArgs false

theorem Same_any (va vb : Value) (la lb : List Int) (w : World) (ha : IntsK .u8 w w.heap.size va la) (hb : IntsK .u8 w w.heap.size vb lb) (hl : la.length ≤ 1000000) (hl2 : lb.length ≤ 1000000) :
    Calls Tryz.prog 13 #[va, vb] w fun e w' => e = .returned (.bool (decide (la = lb))) ∧ ∃ k, w' = w.drewN k := by
  obtain ⟨A, cap, rfl, a1, a2, a3⟩ := ha
  obtain ⟨B, cap', rfl, b1, b2, b3⟩ := hb
  unfold maxLen at a2 b2
  by_cases hne : la.length = lb.length
  · rw [← hne] at b1 ⊢
    have Hne := Lib.hid hne
    clear hne
    go_enter Tryz.func13, Tryz.ntmps13
    go_wp2_with fail
    go_loopw [5] (fun i wr => ∃ j : Nat, j ≤ la.length ∧ i = .int .i64 j ∧ Hid (∀ k, k < j → la[k]?.getD 0 = lb[k]?.getD 0) ∧ ∃ q, wr = w.drewN q) (fun i _ => la.length - (intOf i).toNat)
    case atStart => exact ⟨0, Nat.zero_le _, rfl, Lib.hid (fun k hk => by omega), 0, rfl⟩
    case round =>
      obtain ⟨j, hj, rfl, H, q, rfl⟩ := hrel
      by_cases hlt : j < la.length
      · obtain ⟨g, o, rfl, hg, hc⟩ := a3 (by rintro rfl; simp at hlt)
        obtain ⟨g', o', rfl, hg', hc'⟩ := b3 (fun e => by have h := Hne.out; rw [e, List.length_nil] at h; omega)
        have y0 : ∀ k, (w.drewN k).cell? ⟨g, o + j, none⟩ = some (.int .u8 (la[j]?.getD 0)) := fun _ => hc j hlt
        have y1 : ∀ k, (w.drewN k).cell? ⟨g', o' + j, none⟩ = some (.int .u8 (lb[j]?.getD 0)) := fun _ => hc' j (by have := Hne.out; omega)
        clear hc hc' a3 b3
        by_cases he : la[j]?.getD 0 = lb[j]?.getD 0
        · have Hj := Lib.hid he
          have Hn : Hid (∀ k, k < j + 1 → la[k]?.getD 0 = lb[k]?.getD 0) := Lib.hid (fun k hk => by
            rcases Nat.lt_or_ge k j with h | h
            · exact H.out k h
            · obtain rfl : k = j := by omega
              exact Hj.out)
          rw [he] at y0
          clear he
          generalize lb[j]?.getD 0 = x at *
          go_wp2_with fail
          go_quiet (fail)
          go_wp2_with fail
          go_roundw
          case rel => exact ⟨j + 1, by omega, by go_num, Hn, _, rfl⟩
          case measure => simp [intOf]; omega
        · have hf := Lib.hid (show decide (la = lb) = false by rw [decide_eq_false_iff_not]; rintro rfl; exact he rfl)
          have he' : (la[j]?.getD 0 == lb[j]?.getD 0) = false := by simpa using he
          generalize la[j]?.getD 0 = x at *
          generalize lb[j]?.getD 0 = y at *
          clear he
          go_wp2_with fail
          go_quiet (fail)
          go_wp2_with fail
          go_ret
          exact ⟨ret_bool hf.out.symm, _, World.drewN_drewN _ _ _⟩
      · have hf := Lib.hid (show decide (la = lb) = true by
          rw [decide_eq_true_eq]
          refine List.ext_getElem Hne.out (fun k h1 h2 => ?_)
          have := H.out k (by omega)
          rw [List.getElem?_eq_getElem h1, List.getElem?_eq_getElem h2] at this
          exact this)
        go_wp2_with fail
        go_ret
        exact ⟨ret_bool hf.out.symm, _, rfl⟩
  · have hf := Lib.hid (show decide (la = lb) = false by rw [decide_eq_false_iff_not]; rintro rfl; exact hne rfl)
    have h1 : ¬ (la.length : Int) = lb.length := by omega
    go_enter Tryz.func13, Tryz.ntmps13
    go_wp2_with fail
    go_ret
    exact ⟨ret_bool hf.out.symm, 0, rfl⟩

theorem own_ints {W : World} {base : Nat} {v : Value} {l : List UInt8} (h : W.ownsRow base 5 1 v l.length (l.map encU)) : IntsK .u8 W W.heap.size v (l.map fun c => (c.toNat : Int)) := by
  rcases h.2 with ⟨rfl, hz⟩ | ⟨gb, cap, cur, rfl, hbase, hgb, r1, r2, r3, r4⟩
  · exact ⟨none, 0, by rw [List.length_map, hz], by rw [List.length_map]; omega, by unfold maxLen; omega, fun hn => absurd (List.eq_nil_of_length_eq_zero (by rw [List.length_map]; exact hz)) hn⟩
  · refine ⟨some ⟨gb, 0, none⟩, cap, by rw [List.length_map], by rw [List.length_map]; exact r1, r2, fun hn => ⟨gb, 0, rfl, lt_of_heap hgb, fun j hj => ?_⟩⟩
    rw [List.length_map] at hj
    have := h.cells (g := gb) rfl j (encU (l[j]?.getD 0)) (by simp [List.getElem?_map, List.getElem?_eq_getElem hj])
    rw [WideShapes.add_plain] at this
    rw [this]
    simp [encU, List.getElem?_map, List.getElem?_eq_getElem hj]
theorem SameB_any (va vb : Value) (b1 b2 : Nat) (l : List UInt8) (w : World) (ha : w.ownsRow b1 5 1 va l.length (l.map encU)) (hb : w.ownsRow b2 5 1 vb l.length (l.map encU)) (hl : l.length ≤ 1000000) :
    Calls Tryz.prog 13 #[va, vb] w fun e w' => e = .returned (.bool true) ∧ ∃ k, w' = w.drewN k := by
  have h := Same_any va vb _ _ w (own_ints ha) (own_ints hb) (by rw [List.length_map]; exact hl) (by rw [List.length_map]; exact hl)
  rw [decide_eq_true rfl] at h
  exact h
end Go.Proofs.YtfeljjlpdefnmaaGreat
