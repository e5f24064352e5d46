/-
  The reference's list of timers is the map's timers, in order: plain laws, no program.
-/
import Derived.Test.YtgnckeidekppjaaRefSet
import Derived.Test.YtgnckeidekppjaaRefAdv
namespace Go.Proofs.Ytgnckeidekppjaa
open Go.RowKit Go.Maps
set_option linter.unusedVariables false
set_option linter.unusedSimpArgs false

theorem befT_iff (x y : Tm) : befT x y = true ↔ x.due < y.due ∨ (y.due = x.due ∧ x.id < y.id) := by unfold befT; simp

/-- l lists the timers of f, in order. -/
structure Rep (f : Int → Option Int) (l : List Tm) : Prop where
  sorted : l.Pairwise (fun a b => befT a b = true)
  mem : ∀ t : Tm, t ∈ l ↔ f t.id = some t.due
  wf : ∀ t ∈ l, (Lit.int .i64 t.id).wf = true

theorem Rep.nil : Rep (fun _ => none) [] := ⟨List.Pairwise.nil, fun _ => by simp, fun _ h => by simp at h⟩

section
variable {f : Int → Option Int} {l : List Tm}
theorem Rep.due (h : Rep f l) {t : Tm} (ht : t ∈ l) : dueV f t.id = t.due := by unfold dueV; rw [(h.mem t).1 ht]; rfl
theorem Rep.isSome (h : Rep f l) (x : Int) : x ∈ l.map Tm.id ↔ (f x).isSome = true := by
  rw [List.mem_map]
  constructor
  · rintro ⟨t, ht, rfl⟩; rw [(h.mem t).1 ht]; rfl
  · intro hs
    obtain ⟨d, hd⟩ := Option.isSome_iff_exists.1 hs
    exact ⟨⟨x, d⟩, (h.mem ⟨x, d⟩).2 hd, rfl⟩
theorem Rep.ids (h : Rep f l) : IsIds f (l.map Tm.id) := by
  refine ⟨h.isSome, fun x hx => ?_, ?_⟩
  · obtain ⟨t, ht, rfl⟩ := List.mem_map.1 hx; exact h.wf t ht
  · refine List.pairwise_map.2 (h.sorted.imp_of_mem fun {a b} ha hb hab => ?_)
    have := (befT_iff a b).1 hab
    unfold firstT
    rw [h.due ha, h.due hb, decide_eq_true_eq]
    omega
theorem Rep.any (h : Rep f l) (id : Int) : (l.any fun t => decide (t.id = id)) = (f id).isSome := by
  rw [Bool.eq_iff_iff, ← h.isSome id, List.any_eq_true, List.mem_map]
  simp
theorem Rep.find (h : Rep f l) (id : Int) : findT id l = f id := by
  unfold findT
  cases hf : f id with
  | none =>
    rw [List.find?_eq_none.2]
    · rfl
    · intro t ht he
      have := (h.mem t).1 ht
      rw [show t.id = id by simpa using he, hf] at this
      cases this
  | some d =>
    cases hg : l.find? (fun t => decide (t.id = id)) with
    | none =>
      have := List.find?_eq_none.1 hg ⟨id, d⟩ ((h.mem ⟨id, d⟩).2 hf)
      simp at this
    | some t =>
      have h1 : t.id = id := by simpa using List.find?_some hg
      have h2 := (h.mem t).1 (List.mem_of_find?_eq_some hg)
      rw [h1, hf] at h2
      injection h2 with h2
      rw [h2]; rfl
theorem Rep.del (h : Rep f l) (id : Int) : Rep (del f id) (l.filter fun t => !decide (t.id = id)) := by
  refine ⟨h.sorted.filter _, fun t => ?_, fun t ht => h.wf t (List.mem_filter.1 ht).1⟩
  rw [List.mem_filter, h.mem t]
  unfold Ytgnckeidekppjaa.del
  by_cases e : t.id = id <;> simp [e]

theorem mem_insT {t x : Tm} : ∀ {l : List Tm}, x ∈ insT t l ↔ x = t ∨ x ∈ l
  | [] => by simp [insT]
  | a :: l => by
    unfold insT
    split
    · simp
    · rw [List.mem_cons, mem_insT, List.mem_cons]
      constructor
      · rintro (h | h | h) <;> simp [h]
      · rintro (h | h | h) <;> simp [h]

theorem insT_sorted {t : Tm} : ∀ {l : List Tm}, l.Pairwise (fun a b => befT a b = true) → (∀ a ∈ l, a.id ≠ t.id) → (insT t l).Pairwise (fun a b => befT a b = true)
  | [], _, _ => by simp [insT]
  | a :: l, h, hne => by
    have h1 := List.pairwise_cons.1 h
    unfold insT
    by_cases hb : befT t a = true
    · rw [if_pos hb]
      refine List.pairwise_cons.2 ⟨fun x hx => ?_, h⟩
      rcases List.mem_cons.1 hx with rfl | hx
      · exact hb
      · have h2 := (befT_iff a x).1 (h1.1 x hx)
        have h3 := (befT_iff t a).1 hb
        rw [befT_iff]; omega
    · rw [if_neg hb]
      refine List.pairwise_cons.2 ⟨fun x hx => ?_, insT_sorted h1.2 (fun y hy => hne y (List.mem_cons_of_mem _ hy))⟩
      rcases mem_insT.1 hx with rfl | hx
      · have h3 := hne a (List.mem_cons_self ..)
        rw [befT_iff] at *; omega
      · exact h1.1 x hx

theorem Rep.set (h : Rep f l) (id d : Int) (hid : (Lit.int .i64 id).wf = true) : Rep (upd f id d) (insT ⟨id, d⟩ (l.filter fun t => !decide (t.id = id))) := by
  refine ⟨insT_sorted (h.sorted.filter _) (fun a ha => by have := (List.mem_filter.1 ha).2; simpa using this), fun t => ?_, fun t ht => ?_⟩
  · rw [mem_insT, List.mem_filter, h.mem t]
    unfold upd
    obtain ⟨ti, td⟩ := t
    by_cases e : ti = id
    · subst e; simp; exact ⟨fun h => h.symm, fun h => h.symm⟩
    · simp [e]
  · rcases mem_insT.1 ht with rfl | ht
    · exact hid
    · exact h.wf t (List.mem_filter.1 ht).1
theorem Rep.kept (h : Rep f l) (T : Int) : Rep (rest f T) (keptL T l) := by
  unfold keptL
  refine ⟨h.sorted.filter _, fun t => ?_, fun t ht => h.wf t (List.mem_filter.1 ht).1⟩
  rw [List.mem_filter, h.mem t]
  unfold rest
  cases hf : f t.id with
  | none => simp
  | some d =>
    by_cases e : d ≤ T
    · simp [e]; rintro rfl; exact e
    · simp [e]; rintro rfl; omega
theorem Rep.fired (h : Rep f l) (T : Int) : firedL T l = firedOf f T (l.map Tm.id) := by
  unfold firedL firedOf
  rw [List.filter_map]
  congr 1
  refine List.filter_congr (fun t ht => ?_)
  show _ = decide (dueV f t.id ≤ T)
  rw [h.due ht]
theorem Rep.length_set (id d : Int) : (insT ⟨id, d⟩ (l.filter fun t => !decide (t.id = id))).length ≤ l.length + 1 := by
  have hi : ∀ p : List Tm, (insT ⟨id, d⟩ p).length ≤ p.length + 1 := by
    intro p
    induction p with
    | nil => simp [insT]
    | cons a l ih => unfold insT; split <;> simp <;> omega
  have := hi (l.filter fun t => !decide (t.id = id))
  have h2 := List.length_filter_le (fun t : Tm => !decide (t.id = id)) l
  omega
end

end Go.Proofs.Ytgnckeidekppjaa
