/-
  The walk of the reference's Longest.
-/
import Derived.Test.YtplcfijcmihhlaaDoorEvents
namespace Go.Proofs.YtplcfijcmihhlaaDoor
open Go.RowKit
set_option linter.unusedVariables false
set_option linter.unusedSimpArgs false

def lstep (s : Int × Int) (x : EvV) : Int × Int := (max s.1 (if x.isStill = true then s.2 + 1 else 0), if x.isStill = true then s.2 + 1 else 0)
def longS (l : List EvV) : Int × Int := l.foldl lstep (0, 0)

theorem longS_snoc (l : List EvV) (x : EvV) : longS (l ++ [x]) = lstep (longS l) x := by simp [longS]
theorem longS_bound : ∀ (n : Nat) (l : List EvV), l.length = n → 0 ≤ (longS l).2 ∧ (longS l).2 ≤ (longS l).1 ∧ (longS l).1 ≤ n
  | 0, l, h => by obtain rfl := List.eq_nil_of_length_eq_zero h; simp [longS]
  | n + 1, l, h => by
    have hne : l ≠ [] := by rintro rfl; simp at h
    obtain ⟨k, x, rfl⟩ : ∃ k x, l = k ++ [x] := ⟨l.dropLast, l.getLast hne, (List.dropLast_concat_getLast hne).symm⟩
    have ih := longS_bound n k (by simpa using h)
    rw [longS_snoc]
    unfold lstep
    cases x.isStill <;> simp <;> omega

set_option maxHeartbeats 1000000 in
theorem Longest_any (v : Value) (l : List EvV) (B : Nat) (w : World) (hv : EventsAt w B v l) (hB : B ≤ w.heap.size) (hl : l.length ≤ 100) :
    Calls Tryd.prog 17 #[v] w fun e w' => e = .returned (.int .i64 (longS l).1) ∧ Below w.heap.size w w' := by
  obtain ⟨A, cap, rfl, h1, h2, h3⟩ := hv
  unfold maxLen at h2
  go_enter Tryd.func17, Tryd.ntmps17
  go_wp2_with fail
  go_loopw [3, 4, 5] (fun m r i wr => ∃ j : Nat, j ≤ l.length ∧ i = .int .i64 j ∧ m = .int .i64 (longS (l.take j)).1 ∧ r = .int .i64 (longS (l.take j)).2 ∧ Hid (Below w.heap.size w wr)) (fun _ _ i _ => l.length - (intOf i).toNat)
  case atStart => exact ⟨0, by omega, rfl, rfl, rfl, Lib.hid (Below.refl _ w)⟩
  case round =>
    obtain ⟨j, hj, rfl, rfl, rfl, H⟩ := hrel
    have hbd := longS_bound j (l.take j) (by simp; omega)
    by_cases hlt : j < l.length
    · obtain ⟨b, off, rfl, hb, hc⟩ := h3 (by rintro rfl; simp at hlt)
      have ht : l.take (j + 1) = l.take j ++ [l[j]?.getD default] := by
        rw [List.take_add_one, List.getElem?_eq_getElem hlt]; rfl
      have hx := (hc j hlt).keep (H.out.block b (by omega))
      have Ht := Lib.hid (congrArg longS ht)
      clear hc h3 ht
      generalize l[j]?.getD default = x at *
      rw [longS_snoc] at Ht
      generalize longS (l.take j) = s at *
      obtain ⟨m, r⟩ := s
      obtain ⟨x0, x1, x2, x3, x4, x5, x6⟩ := hx
      have hs := fun W => Lib.hid (RStill_any x W)
      unfold EvV.arr at hs
      dsimp only at hbd Ht ⊢
      cases hstill : x.isStill
      · rw [hstill] at hs
        have hl2 := Lib.hid (show lstep (m, r) x = (m, 0) by unfold lstep; rw [hstill]; simp; omega)
        clear hstill
        have c0 : ¬ m < 0 := by omega
        go_wp2_with fail
        refine (hs _).out.mono ?_; rintro e w1 ⟨rfl, hb1⟩; dsimp only
        have HB := Lib.hid (H.out.trans (hb1.mono H.out.size))
        clear hb1
        go_wp2_with fail
        go_roundw
        case rel => exact ⟨j + 1, by omega, by go_num, by rw [Ht.out, hl2.out], by rw [Ht.out, hl2.out], HB⟩
        case measure => simp [intOf]; omega
      · rw [hstill] at hs
        have hl2 := Lib.hid (show lstep (m, r) x = (max m (r + 1), r + 1) by unfold lstep; rw [hstill]; simp)
        clear hstill
        by_cases hm : m < r + 1
        · have hmx := Lib.hid (show max m (r + 1) = r + 1 by omega)
          go_wp2_with fail
          refine (hs _).out.mono ?_; rintro e w1 ⟨rfl, hb1⟩; dsimp only
          have HB := Lib.hid (H.out.trans (hb1.mono H.out.size))
          clear hb1
          go_wp2_with fail
          go_roundw
          case rel => exact ⟨j + 1, by omega, by go_num, by rw [Ht.out, hl2.out, hmx.out], by rw [Ht.out, hl2.out], HB⟩
          case measure => simp [intOf]; omega
        · have hmx := Lib.hid (show max m (r + 1) = m by omega)
          go_wp2_with fail
          refine (hs _).out.mono ?_; rintro e w1 ⟨rfl, hb1⟩; dsimp only
          have HB := Lib.hid (H.out.trans (hb1.mono H.out.size))
          clear hb1
          go_wp2_with fail
          go_roundw
          case rel => exact ⟨j + 1, by omega, by go_num, by rw [Ht.out, hl2.out, hmx.out], by rw [Ht.out, hl2.out], HB⟩
          case measure => simp [intOf]; omega
    · obtain rfl : j = l.length := by omega
      have Ht := Lib.hid (show l.take l.length = l from List.take_length)
      go_wp2_with fail
      go_ret
      exact ⟨ret_int (by rw [Ht.out]), H.out⟩

end Go.Proofs.YtplcfijcmihhlaaDoor
