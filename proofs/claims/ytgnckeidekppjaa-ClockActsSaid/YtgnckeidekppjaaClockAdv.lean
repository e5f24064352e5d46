/-
  Clear and Advance, of the clock and of the reference, whatever their arguments.
-/
import Derived.Test.YtgnckeidekppjaaLaw15
import Derived.Test.YtgnckeidekppjaaClockSets
namespace Go.Proofs.Ytgnckeidekppjaa
open Go.RowKit Go.Maps Go.Sort Go.Shelf
set_option linter.unusedVariables false
set_option linter.unusedSimpArgs false

def advE (n : Int) : Int := if advOk n then 0 else 1
def advNow (now n : Int) : Int := if advOk n then now + n else now
def advF (f : Int → Option Int) (now n : Int) : Int → Option Int := if advOk n then rest f (now + n) else f
def advL (l : List Tm) (now n : Int) : List Tm := if advOk n then keptL (now + n) l else l
def advFired (l : List Tm) (now n : Int) : List Int := if advOk n then firedL (now + n) l else []

theorem Clear_ex {w : World} {c b n : Nat} {now : Int} {f : Int → Option Int} {l : List Tm} (h : ClockAt w c b n now f) (hP : Rep f l) (id : Int) (hid : (Lit.int .i64 id).wf = true) :
    Calls Try.prog 37 #[.pointer (some ⟨c, 0, none⟩), .int .i64 id] w fun e w' => e = .returned (.int .i64 (clearE (l.any fun t => decide (t.id = id)))) ∧
      ClockAt w' c b n now (del f id) ∧ Touch (· = b) w w' := by
  rw [hP.any]
  exact Clear_any h id hid

theorem Advance_any {w : World} {c b n : Nat} {now : Int} {f : Int → Option Int} {l : List Tm} (h : ClockAt w c b n now f) (hP : Rep f l) (m : Int) (h0n : 0 ≤ now) (h1n : now ≤ 4611686018427387904) (hn : n ≤ 1000000) :
    Calls Try.prog 33 #[.pointer (some ⟨c, 0, none⟩), .int .i64 m] w fun e w' => ∃ v, e = .returned (.tuple #[v, .int .i64 (advE m)]) ∧
      w'.ownsRow w.heap.size 3 1 v (advFired l now m).length ((advFired l now m).map encZ) ∧ ClockAt w' c b n (advNow now m) (advF f now m) ∧ Touch (fun k => k = c ∨ k = b) w w' := by
  unfold advE advFired advNow advF
  cases hm : advOk m with
  | true =>
    have hm' := hm
    unfold advOk at hm'
    rw [decide_eq_true_eq] at hm'
    refine (Advance_yes w h m hm'.1 hm'.2 h0n h1n hn).mono ?_
    rintro e w' ⟨v, ys, rfl, hids, hrow, hc, ht⟩
    obtain rfl : ys = l.map Tm.id := hids.unique hP.ids
    refine ⟨v, rfl, ?_, hc, ht⟩
    simp only [if_true]
    rw [hP.fired]
    exact hrow
  | false =>
    have hm' := hm
    unfold advOk at hm'
    rw [decide_eq_false_iff_not] at hm'
    refine (Advance_no w c m (by omega)).mono ?_
    rintro e w' ⟨rfl, hb⟩
    have ht : Touch (fun _ => False) w w' := Touch.of_new hb
    exact ⟨_, rfl, ⟨rfl, .inl ⟨rfl, rfl⟩⟩, h.keep ht (fun h => h) (fun h => h), ht.mono (fun _ _ h => h.elim)⟩

theorem RefAdvance_any {w : World} {base : Nat} {v : Value} {now : Int} {l : List Tm} (h : RefV w base v now l) (hl : l.length ≤ 900) (hbase : base ≤ w.heap.size) (n : Int) (hn0 : 0 ≤ now) (hn1 : now ≤ 4611686018427387904) :
    Calls Try.prog 39 #[v, .int .i64 n] w fun e w' => ∃ v' vf, e = .returned (.tuple #[v', vf, .int .i64 (advE n)]) ∧
      RefV w' base v' (advNow now n) (advL l now n) ∧ w'.ownsRow w.heap.size 3 1 vf (advFired l now n).length ((advFired l now n).map encZ) ∧ Below w.heap.size w w' := by
  unfold advE advFired advNow advL
  cases hm : advOk n with
  | true =>
    refine (RefAdvance_yes h hl n hm hn0 hn1).mono ?_
    rintro e w' ⟨v', vf, rfl, ⟨s, rfl, hr⟩, hf, hb⟩
    exact ⟨_, vf, rfl, ⟨s, rfl, own_lower hr hbase⟩, hf, hb⟩
  | false =>
    refine (RefAdvance_no h n hm).mono ?_
    obtain ⟨s, rfl, hr⟩ := h
    rintro e w' ⟨rfl, hb⟩
    exact ⟨_, _, rfl, ⟨s, rfl, own_touchL hr (Touch.of_new (X := fun _ => False) hb) (fun _ _ h => h)⟩, ⟨rfl, .inl ⟨rfl, rfl⟩⟩, hb⟩

section
variable {f : Int → Option Int} {l : List Tm}
theorem Rep.adv (h : Rep f l) (now n : Int) : Rep (advF f now n) (advL l now n) := by
  unfold advF advL; split
  · exact h.kept _
  · exact h
theorem advL_len (l : List Tm) (now n : Int) : (advL l now n).length ≤ l.length := by
  unfold advL; split
  · exact List.length_filter_le _ _
  · exact Nat.le_refl _
theorem advFired_len (l : List Tm) (now n : Int) : (advFired l now n).length ≤ l.length := by
  unfold advFired firedL; split
  · rw [List.length_map]; exact List.length_filter_le _ _
  · exact Nat.zero_le _
theorem advL_mem {t : Tm} {now n : Int} (h : t ∈ advL l now n) : t ∈ l := by
  unfold advL at h; split at h
  · exact (List.mem_filter.1 h).1
  · exact h
theorem setL_mem {t : Tm} {now id n : Int} (h : t ∈ setL now l id n) : t ∈ l ∨ (t.due = now + n ∧ 1 ≤ n ∧ n ≤ 1073741824) := by
  unfold setL at h; split at h
  · rename_i hs
    rcases mem_insT.1 h with rfl | h
    · unfold setOk at hs; rw [decide_eq_true_eq] at hs; exact .inr ⟨rfl, hs⟩
    · exact .inl (List.mem_filter.1 h).1
  · exact .inl h
theorem advNow_bound {now n : Int} : now ≤ advNow now n ∧ advNow now n ≤ now + 1073741824 := by
  unfold advNow; split
  · rename_i h; unfold advOk at h; rw [decide_eq_true_eq] at h; omega
  · omega
theorem Rep.left (h : Rep f l) (now id : Int) : leftL now l id = leftV now f id := by unfold leftL leftV; rw [h.find]; cases f id <;> rfl
end

end Go.Proofs.Ytgnckeidekppjaa
