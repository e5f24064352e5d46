/-
  A slice of ints that is read; the library's slices.Index, Contains, IndexFunc, ContainsFunc, Min, Max over it.
-/
import Derived.Test.YtgnckeidekppjaaProg
import Derived.Test.YtgnckeidekppjaaCommon
import Derived.WalkKit
import Derived.Below
import Derived.Deep.Draws
import Derived.Deep.LoopGhost
import Derived.Lib.Hide
import Derived.KernelRfl
import Derived.WalkSpells
import Derived.WalkLawsBesides
namespace Go.Proofs.Ytgnckeidekppjaa
open Go.RowKit
set_option linter.unusedVariables false
set_option linter.unusedSimpArgs false

/-- The value v is a slice that reads as the ints l, in a block below B; empty and nil ones let in. -/
def Ints (W : World) (B : Nat) (v : Value) (l : List Int) : Prop :=
  ∃ A cap, v = .slice A l.length cap ∧ l.length ≤ cap ∧ cap ≤ maxLen ∧
    (l ≠ [] → ∃ b off, A = some ⟨b, off, none⟩ ∧ b < B ∧ ∀ j, j < l.length → W.cell? ⟨b, off + j, none⟩ = some (.int .i64 (l[j]?.getD 0)))

theorem Ints.keep {W W' : World} {B B' : Nat} {v : Value} {l : List Int} (h : Ints W B v l) (hk : ∀ p : Addr, p.block < B → W'.cell? p = W.cell? p) (hB : B ≤ B') : Ints W' B' v l := by
  obtain ⟨A, cap, e, h1, h2, h3⟩ := h
  refine ⟨A, cap, e, h1, h2, fun hn => ?_⟩
  obtain ⟨b, off, e', hb, hc⟩ := h3 hn
  exact ⟨b, off, e', by omega, fun j hj => (hk _ hb).trans (hc j hj)⟩
theorem Ints.below {W W' : World} {B : Nat} {v : Value} {l : List Int} (h : Ints W B v l) (hb : Below B W W') : Ints W' B v l := h.keep (fun _ hp => hb.cell hp) (Nat.le_refl _)
theorem Ints.more {W : World} {B B' : Nat} {v : Value} {l : List Int} (h : Ints W B v l) (hB : B ≤ B') : Ints W B' v l := h.keep (fun _ _ => rfl) hB

/-- The first place at which p holds, from place k on; -1: there is none. -/
def firstAt (p : Int → Bool) (l : List Int) : Int := match l.findIdx? p with | some i => i | none => -1

theorem firstAt_found {p : Int → Bool} {l : List Int} {k : Nat} (hk : k < l.length) (hb : ∀ j, j < k → p (l[j]?.getD 0) = false) (h : p (l[k]?.getD 0) = true) : firstAt p l = k := by
  unfold firstAt
  have : l.findIdx? p = some k := by
    rw [List.findIdx?_eq_some_iff_getElem]
    refine ⟨hk, by simpa [hk] using h, fun j hj => ?_⟩
    have := hb j hj
    simpa [show j < l.length by omega] using this
  rw [this]
theorem firstAt_none {p : Int → Bool} {l : List Int} (hb : ∀ j, j < l.length → p (l[j]?.getD 0) = false) : firstAt p l = -1 := by
  unfold firstAt
  have : l.findIdx? p = none := by
    rw [List.findIdx?_eq_none_iff]
    intro x hx
    obtain ⟨j, hj, rfl⟩ := List.getElem_of_mem hx
    have := hb j hj
    simpa [hj] using this
  rw [this]
theorem firstAt_any (p : Int → Bool) (l : List Int) : decide (0 ≤ firstAt p l) = l.any p := by
  unfold firstAt
  cases h : l.findIdx? p with
  | none =>
    rw [List.findIdx?_eq_none_iff] at h
    have : l.any p = false := by rw [List.any_eq_false]; intro x hx; simp [h x hx]
    rw [this]; simp
  | some i =>
    rw [List.findIdx?_eq_some_iff_getElem] at h
    obtain ⟨hi, hp, _⟩ := h
    have : l.any p = true := List.any_eq_true.2 ⟨_, List.getElem_mem hi, hp⟩
    rw [this]; simp


set_option maxHeartbeats 400000 in
theorem SIndex_any (v : Value) (l : List Int) (x : Int) (B : Nat) (w : World) (hv : Ints w B v l) (hl : l.length ≤ 281474976710656) :
    Calls Try.prog 58 #[v, .int .i64 x] w fun e w' => e = .returned (.int .i64 (firstAt (fun y => x == y) l)) ∧ w = w' := by
  obtain ⟨A, cap, rfl, h1, h2, h3⟩ := hv
  unfold maxLen at h2
  go_enter Try.func58, Try.ntmps58
  go_wp2_with fail
  go_loop [8] (fun i => ∃ k : Nat, k ≤ l.length ∧ i = .int .i64 k ∧ Hid (∀ j, j < k → (x == l[j]?.getD 0) = false)) (fun i => l.length - (intOf i).toNat)
  case atStart => exact ⟨0, by omega, rfl, Lib.hid (fun j hj => by omega)⟩
  case round =>
    obtain ⟨k, hk, rfl, H⟩ := hrel
    by_cases hlt : k < l.length
    · obtain ⟨b, off, rfl, hb, hc⟩ := h3 (by rintro rfl; simp at hlt)
      have hcell := hc k hlt
      clear hc h3
      by_cases he : (x == l[k]?.getD 0) = true
      · have hv := Lib.hid (firstAt_found (p := fun y => x == y) hlt H.out he)
        generalize l[k]?.getD 0 = y at *
        go_wp2_with fail
        go_ret
        exact ⟨ret_int (by rw [hv.out]), rfl⟩
      · have he' : (x == l[k]?.getD 0) = false := by simpa using he
        have he2 := Lib.hid he'
        clear he
        generalize hy : l[k]?.getD 0 = y at *
        have Hy := Lib.hid hy
        clear hy
        go_wp2_with fail
        go_round
        case rel =>
          refine ⟨k + 1, by omega, by go_num, Lib.hid (fun j hj => ?_)⟩
          rcases Nat.lt_or_ge j k with h | h
          · exact H.out j h
          · obtain rfl : j = k := by omega
            rw [Hy.out]; exact he2.out
        case measure => simp [intOf]; omega
    · obtain rfl : k = l.length := by omega
      have hv := Lib.hid (firstAt_none (p := fun y => x == y) H.out)
      go_wp2_with fail
      go_ret
      exact ⟨ret_int (by rw [hv.out]), rfl⟩

set_option maxHeartbeats 400000 in
theorem SContains_any (v : Value) (l : List Int) (x : Int) (B : Nat) (w : World) (hv : Ints w B v l) (hl : l.length ≤ 281474976710656) :
    Calls Try.prog 47 #[v, .int .i64 x] w fun e w' => e = .returned (.bool (l.any (fun y => x == y))) ∧ w = w' := by
  have c1 := Lib.hid (SIndex_any v l x B w hv hl)
  have ha := Lib.hid (firstAt_any (fun y => x == y) l)
  generalize firstAt (fun y => x == y) l = q at *
  go_enter Try.func47, Try.ntmps47
  go_wp2_with fail
  refine c1.out.mono ?_; rintro e w' ⟨rfl, rfl⟩; dsimp only
  go_wp2_with fail
  go_ret
  exact ⟨ret_bool (by rw [← ha.out]), rfl⟩

end Go.Proofs.Ytgnckeidekppjaa
