/-
  The walk of layer 15's Advance.
-/
import Derived.Test.YtgnckeidekppjaaClockIter
import Derived.Test.YtgnckeidekppjaaClock
import Derived.OwnWalk
import Derived.Maps.AppendAt
import Derived.Maps.OwnIn
import Derived.Deep.AppendLies
namespace Go.Proofs.Ytgnckeidekppjaa
open Go.RowKit Go.Maps Go.Sort Go.Shelf
set_option linter.unusedVariables false
set_option linter.unusedSimpArgs false
attribute [local go_sem] Oper.semAt_some

theorem TimersC_any (w : World) (c : Nat) :
    Calls Try.prog 32 #[.pointer (some ⟨c, 0, none⟩)] w fun e w' => e = .returned (.func (.func 49) #[] #[.pointer (some ⟨w.heap.size, 0, none⟩)]) ∧
      w.alloc (.cells #[.pointer (some ⟨c, 0, none⟩)] 47) = w' := by
  go_enter Try.func32, Try.ntmps32
  go_wp2_with fail
  go_ret
  exact ⟨rfl, rfl⟩

/-- What a clock has left when its time is t. -/
def rest (f : Int → Option Int) (t : Int) : Int → Option Int := fun k => match f k with | some a => if a ≤ t then none else some a | none => none
def firedOf (f : Int → Option Int) (t : Int) (ys : List Int) : List Int := ys.filter fun x => decide (dueV f x ≤ t)

/-- What holds in the loop over a clock's timers: what has been fired, and all else as it was. -/
def AdvI (f : Int → Option Int) (t : Int) (w : World) (c b n : Nat) (pre : List Int) (W : World) : Prop :=
  (∀ x ∈ pre, dueV f x ≤ t) ∧ (∃ v, Boxed W (w.heap.size + 1) 41 v ∧ W.ownsRow (w.heap.size + 1) 3 1 v pre.length (pre.map encZ)) ∧ Boxed W w.heap.size 47 (.pointer (some ⟨c, 0, none⟩)) ∧
    ClockAt W c b n t f ∧ Touch (fun k => k = c ∨ k = b) w W ∧ w.heap.size + 3 ≤ W.heap.size

theorem AdvI.own {f : Int → Option Int} {t : Int} {w : World} {c b n : Nat} (hc : c < w.heap.size) (hb : b < w.heap.size) : OwnFrom (w.heap.size + 3) (AdvI f t w c b n) := by
  intro pre W W' row ⟨h1, ⟨v, h2, h3⟩, h4, h5, h6, h7⟩ hg hr
  have hlow : ∀ k, k < w.heap.size + 3 → k < W.heap.size → W'.heap[k]? = W.heap[k]? := fun k hk hk2 => hg.block k hk2 (fun e => by have := (hr k e.symm).1; omega)
  refine ⟨h1, ⟨v, (hlow _ (by omega) (by omega)).trans h2, h3.kept hg ?_⟩, (hlow _ (by omega) (by omega)).trans h4,
    ⟨(hlow c (by omega) (by omega)).trans h5.box, h5.tm.of_block (hlow b (by omega) (by omega))⟩,
    ⟨hg.os.trans h6.os, hg.tape.trans h6.tape, hg.output.trans h6.output, Nat.le_trans h6.size hg.size, fun k hk hx => (hlow k (by omega) (by omega)).trans (h6.block k hk hx)⟩, Nat.le_trans h7 hg.size⟩
  rcases h3.2 with ⟨rfl, _⟩ | ⟨g, cap, cur, rfl, _, hgb, _⟩
  · exact .inl rfl
  · refine .inr (fun e => ?_)
    obtain ⟨_, o, ho, hoc⟩ := hr g (by rw [← e]; rfl)
    rw [hgb] at ho; cases ho; cases hoc

theorem Try.info_int : ∃ i, Try.prog.info? 3 = some i ∧ i.zero = some (.int .i64 0) ∧ i.size = 1 ∧ i.bytes = 8 := by
  have h : (Try.prog.info? 3).map (fun i => (i.zero, i.size, i.bytes)) = some (some (.int .i64 0), 1, 8) := by kernel_rfl
  obtain ⟨i, hi, he⟩ := Option.map_eq_some_iff.1 h
  simp only [Prod.mk.injEq] at he
  exact ⟨i, hi, he.1, he.2.1, he.2.2⟩

def delL (f : Int → Option Int) (l : List Int) : Int → Option Int := l.foldl del f

theorem delL_at (f : Int → Option Int) : ∀ (l : List Int) (x : Int), delL f l x = if x ∈ l then none else f x := by
  intro l
  induction l generalizing f with
  | nil => intro x; simp [delL]
  | cons k l ih =>
    intro x
    show delL (del f k) l x = _
    rw [ih (del f k) x]
    by_cases h1 : x ∈ l
    · simp [h1]
    · by_cases h2 : x = k
      · subst h2; simp [h1, del]
      · simp [h1, h2, del]
theorem delL_snoc (f : Int → Option Int) (l : List Int) (x : Int) : delL f (l ++ [x]) = del (delL f l) x := by simp [delL]

theorem delL_rest {f : Int → Option Int} {t : Int} {ys : List Int} (h : IsIds f ys) : delL f (firedOf f t ys) = rest f t := by
  funext x
  rw [delL_at]
  unfold rest firedOf
  have hm : x ∈ ys.filter (fun x => decide (dueV f x ≤ t)) ↔ (f x).isSome = true ∧ dueV f x ≤ t := by rw [List.mem_filter, h.1 x, decide_eq_true_eq]
  generalize ys.filter (fun x => decide (dueV f x ≤ t)) = zs at *
  unfold dueV at hm
  cases hf : f x with
  | none => simp
  | some a =>
    rw [hf] at hm
    simp only [Option.isSome_some, Option.getD_some, true_and] at hm
    by_cases ha : a ≤ t
    · rw [if_pos (hm.2 ha)]; simp [ha]
    · rw [if_neg (fun h' => ha (hm.1 h'))]; simp [ha]

theorem fired_all {f : Int → Option Int} {t : Int} {ys : List Int} (h : ∀ x ∈ ys, dueV f x ≤ t) : firedOf f t ys = ys := by
  unfold firedOf; rw [List.filter_eq_self]; intro x hx; simpa using h x hx
theorem fired_stop {f : Int → Option Int} {t : Int} {ys ini : List Int} {x : Int} (h : IsIds f ys) (hp : ini ++ [x] <+: ys) (hle : ∀ y ∈ ini, dueV f y ≤ t) (hx : t < dueV f x) : firedOf f t ys = ini := by
  obtain ⟨tl, rfl⟩ := hp
  have h3 := h.2.2
  rw [List.append_assoc, List.pairwise_append] at h3
  have h4 := (List.pairwise_append.1 h3.2.1).2.2
  unfold firedOf
  rw [List.append_assoc, List.filter_append]
  have e1 : ini.filter (fun y => decide (dueV f y ≤ t)) = ini := List.filter_eq_self.2 (fun y hy => by simpa using hle y hy)
  have e2 : ([x] ++ tl).filter (fun y => decide (dueV f y ≤ t)) = [] := by
    rw [List.filter_eq_nil_iff]
    intro y hy
    rcases List.mem_append.1 hy with hy | hy
    · obtain rfl := List.mem_singleton.1 hy; simp; omega
    · have := h4 x (by simp) y hy
      unfold firstT at this
      simp at this ⊢
      omega
  rw [e1, e2, List.append_nil]

theorem own_ne {W : World} {base : Nat} {e : TypeId} {size n k : Nat} {v : Value} {xs : List Value} {o : Obj} (h : W.ownsRow base e size v n xs) (ho : W.heap[k]? = some o) (hc : o.isCells = false) : v.ownBlock = none ∨ v.ownBlock ≠ some k := by
  rcases h.2 with ⟨rfl, _⟩ | ⟨g, cap, cur, rfl, _, hgb, _⟩
  · exact .inl rfl
  · refine .inr (fun e' => ?_)
    obtain rfl : g = k := by simpa [Value.ownBlock] using e'
    rw [hgb] at ho; cases ho; cases hc
theorem own_base {W : World} {base base' : Nat} {e : TypeId} {size n : Nat} {v : Value} {xs : List Value} (h : W.ownsRow base e size v n xs) (hb : base' ≤ base) : W.ownsRow base' e size v n xs := by
  refine ⟨h.1, ?_⟩
  rcases h.2 with h | ⟨g, cap, cur, h1, h2, h3⟩
  · exact .inl h
  · exact .inr ⟨g, cap, cur, h1, Nat.le_trans hb h2, h3⟩

theorem cell_lt' {W : World} {g j : Nat} {v : Value} (h : W.cell? ⟨g, j, none⟩ = some v) : g < W.heap.size := lt_of_cell h

/-- A row of ids, as the loop over it reads. -/
theorem row_form {W : World} {base : Nat} {v : Value} {L : List Int} (h : W.ownsRow base 3 1 v L.length (L.map encZ)) :
    ∃ A cap, v = .slice A L.length cap ∧ L.length ≤ cap ∧ cap ≤ maxLen ∧ ∀ j, j < L.length → ∃ g, A = some ⟨g, 0, none⟩ ∧ base ≤ g ∧ W.cell? ⟨g, j, none⟩ = some (.int .i64 (L[j]?.getD 0)) := by
  rcases h.2 with ⟨rfl, hz⟩ | ⟨gb, cap, cur, rfl, hbase, hgb, r1, r2, r3, r4⟩
  · exact ⟨none, 0, by rw [hz], by omega, by unfold maxLen; omega, fun j hj => by omega⟩
  · refine ⟨some ⟨gb, 0, none⟩, cap, rfl, r1, r2, fun j hj => ⟨gb, rfl, hbase, ?_⟩⟩
    have := h.cells (g := gb) rfl j (encZ (L[j]?.getD 0)) (by simp [hj])
    rw [WideShapes.add_plain, Nat.zero_add] at this
    exact this

theorem Advance_no (w : World) (c : Nat) (m : Int) (hm : m < 0 ∨ 1073741824 < m) :
    Calls Try.prog 33 #[.pointer (some ⟨c, 0, none⟩), .int .i64 m] w fun e w' => e = .returned (.tuple #[.slice none 0 0, .int .i64 1]) ∧ Below w.heap.size w w' := by
  have hb : Below w.heap.size w (w.alloc (.cells #[.pointer (some ⟨c, 0, none⟩)] 47)) := (Below.refl _ w).alloc (Nat.le_refl _) _
  refine calls_of_wp_marks Try.func33 rfl ?_
  simp only [Try.ntmps33, List.size_toArray, List.length_cons, List.length_nil, Nat.reduceAdd, Nat.reduceSub, Array.replicate_succ, Array.replicate_zero, List.push_toArray, List.append_toArray, List.nil_append, List.cons_append]
  go_wp2_with fail
  all_goals exact post_nomark rfl (results_tmp2 rfl _ _ _) ⟨rfl, hb⟩

set_option maxRecDepth 100000 in
set_option maxHeartbeats 4000000 in
theorem Advance_yes {c b n : Nat} {now : Int} {f : Int → Option Int} (w : World) (h : ClockAt w c b n now f) (m : Int) (hm0 : 0 ≤ m) (hm1 : m ≤ 1073741824) (h0n : 0 ≤ now) (h1n : now ≤ 4611686018427387904) (hn : n ≤ 1000000) :
    Calls Try.prog 33 #[.pointer (some ⟨c, 0, none⟩), .int .i64 m] w fun e w' => ∃ v ys, e = .returned (.tuple #[v, .int .i64 0]) ∧ IsIds f ys ∧
      w'.ownsRow w.heap.size 3 1 v (firedOf f (now + m) ys).length ((firedOf f (now + m) ys).map encZ) ∧ ClockAt w' c b n (now + m) (rest f (now + m)) ∧ Touch (fun k => k = c ∨ k = b) w w' := by
  have hcl := lt_of_heap h.box
  have hbl := h.tm.lt
  have ht1 : Touch (fun _ => False) w (w.alloc (.cells #[.pointer (some ⟨c, 0, none⟩)] 47)) := (Touch.refl _ w).alloc _
  have h1 := h.keep ht1 (fun h => h) (fun h => h)
  have a0 := cell2_0 h1.box
  have a1 := frozen2 (i := 0) h1.box
  have b1 := Boxed.new w 47 (.pointer (some ⟨c, 0, none⟩))
  have a2 := b1.cell
  have h2 := h1.setNow (now + m)
  have b2 : Boxed ((w.alloc (.cells #[.pointer (some ⟨c, 0, none⟩)] 47)).setCell ⟨c, 0, none⟩ (.int .i64 (now + m))) w.heap.size 47 (.pointer (some ⟨c, 0, none⟩)) := b1.other (by omega) _
  have ht2 : Touch (fun k => k = c ∨ k = b) w ((w.alloc (.cells #[.pointer (some ⟨c, 0, none⟩)] 47)).setCell ⟨c, 0, none⟩ (.int .i64 (now + m))) :=
    (ht1.mono (fun _ _ h => h.elim)).setCell (p := ⟨c, 0, none⟩) (.inl (.inl rfl)) _
  have hs2 : ((w.alloc (.cells #[.pointer (some ⟨c, 0, none⟩)] 47)).setCell ⟨c, 0, none⟩ (.int .i64 (now + m))).heap.size = w.heap.size + 1 := by
    show (Array.modify _ _ _).size = _
    rw [Array.size_modify, World.size_alloc]
  have hnw : now + m ≤ 4611686019501129728 := by omega
  have hnw0 : 0 ≤ now + m := by omega
  refine calls_of_wp_marks Try.func33 rfl ?_
  simp only [Try.ntmps33, List.size_toArray, List.length_cons, List.length_nil, Nat.reduceAdd, Nat.reduceSub, Array.replicate_succ, Array.replicate_zero, List.push_toArray, List.append_toArray, List.nil_append, List.cons_append]
  go_wp2_with fail
  clear a0 a1 a2 b1 b2 h1 h2 ht1 ht2 hs2
  refine (TimersC_any _ c).mono ?_; rintro e w' ⟨rfl, rfl⟩; dsimp only
  have g2 := h.setNow (now + m)
  have hv2 : Touch (fun k => k = c ∨ k = b) w (w.setCell ⟨c, 0, none⟩ (.int .i64 (now + m))) := (Touch.refl _ w).setCell (p := ⟨c, 0, none⟩) (.inl (.inl rfl)) _
  have hs0 : (w.setCell ⟨c, 0, none⟩ (.int .i64 (now + m))).heap.size = w.heap.size := by show (Array.modify _ _ _).size = _; rw [Array.size_modify]
  go_wp2_with fail
  generalize w.setCell ⟨c, 0, none⟩ (.int .i64 (now + m)) = v2 at *
  have e3 : ((v2.alloc (.cells #[.pointer (some ⟨c, 0, none⟩)] 47)).alloc (.cells #[.slice none 0 0] 41)).heap.size = w.heap.size + 2 := by simp [hs0]
  have bx : Boxed (((v2.alloc (.cells #[.pointer (some ⟨c, 0, none⟩)] 47)).alloc (.cells #[.slice none 0 0] 41)).alloc (.cells #[.pointer (some ⟨c, 0, none⟩)] 47)) w.heap.size 47 (.pointer (some ⟨c, 0, none⟩)) := by
    have := ((Boxed.new v2 47 (.pointer (some ⟨c, 0, none⟩))).alloc (.cells #[.slice none 0 0] 41)).alloc (.cells #[.pointer (some ⟨c, 0, none⟩)] 47)
    rwa [hs0] at this
  have bf : Boxed (((v2.alloc (.cells #[.pointer (some ⟨c, 0, none⟩)] 47)).alloc (.cells #[.slice none 0 0] 41)).alloc (.cells #[.pointer (some ⟨c, 0, none⟩)] 47)) (w.heap.size + 1) 41 (.slice none 0 0) := by
    have := (Boxed.new (v2.alloc (.cells #[.pointer (some ⟨c, 0, none⟩)] 47)) 41 (.slice none 0 0)).alloc (.cells #[.pointer (some ⟨c, 0, none⟩)] 47)
    rwa [World.size_alloc, hs0] at this
  have bp : Boxed (((v2.alloc (.cells #[.pointer (some ⟨c, 0, none⟩)] 47)).alloc (.cells #[.slice none 0 0] 41)).alloc (.cells #[.pointer (some ⟨c, 0, none⟩)] 47)) (w.heap.size + 2) 47 (.pointer (some ⟨c, 0, none⟩)) := by
    have := Boxed.new ((v2.alloc (.cells #[.pointer (some ⟨c, 0, none⟩)] 47)).alloc (.cells #[.slice none 0 0] 41)) 47 (.pointer (some ⟨c, 0, none⟩))
    rwa [e3] at this
  have ht4 : Touch (fun k => k = c ∨ k = b) w (((v2.alloc (.cells #[.pointer (some ⟨c, 0, none⟩)] 47)).alloc (.cells #[.slice none 0 0] 41)).alloc (.cells #[.pointer (some ⟨c, 0, none⟩)] 47)) := ((hv2.alloc _).alloc _).alloc _
  have h4 : ClockAt (((v2.alloc (.cells #[.pointer (some ⟨c, 0, none⟩)] 47)).alloc (.cells #[.slice none 0 0] 41)).alloc (.cells #[.pointer (some ⟨c, 0, none⟩)] 47)) c b n (now + m) f :=
    g2.keep (X := fun _ => False) ((((Touch.refl _ v2).alloc _).alloc _).alloc _) (fun h => h) (fun h => h)
  have hs4 : (((v2.alloc (.cells #[.pointer (some ⟨c, 0, none⟩)] 47)).alloc (.cells #[.slice none 0 0] 41)).alloc (.cells #[.pointer (some ⟨c, 0, none⟩)] 47)).heap.size = w.heap.size + 3 := by simp [hs0]
  rw [e3]
  generalize ((v2.alloc (.cells #[.pointer (some ⟨c, 0, none⟩)] 47)).alloc (.cells #[.slice none 0 0] 41)).alloc (.cells #[.pointer (some ⟨c, 0, none⟩)] 47) = w4 at *
  clear g2 hv2 e3 h hs0 v2
  generalize decide (m < 0) = d1
  generalize decide (1073741824 < m) = d2
  generalize htt : now + m = t at *
  have Htt := Lib.hid htt
  clear htt
  have hI0 : AdvI f t w c b n [] w4 := ⟨by simp, ⟨_, bf, World.ownsRow_nil _ _ _ _⟩, bx, h4, ht4, by omega⟩
  have hput := KeepC.put (X := fun k => k = w.heap.size + 1) (fb := w.heap.size + 1) (w := w4) (by omega)
  refine wp_rangeK (w := w4) (Kp := KeepC (fun k => k = w.heap.size + 1) (w.heap.size + 1)) (encs := fun x : Int => #[.int .i64 x, .int .i64 (dueV f x)]) (fun h k => KeepC.trans h k) hput (gf := 49) rfl (enters_of Try.func49 (by kernel_rfl) rfl)
    (timers_stops (p := w.heap.size + 2) (fun k => k = w.heap.size + 1) (w.heap.size + 1) w4 (by omega) (by omega) (by omega) hn (by intro k hk; omega) (by omega) (by
      rintro k ⟨v, t', fr, e1, e2⟩
      rw [show w4.heap[w.heap.size + 1]? = _ from bf] at e1
      cases e1; cases e2) (by omega) bp.cell h4)
    (Below.refl _ _) (fun _ => rfl) (AdvI f t w c b n) (fun cd pre W => cd = .exit 0 ∧ ∃ ini x, pre = ini ++ [x] ∧ t < dueV f x ∧ AdvI f t w c b n ini W)
    ?hI ?hIx hI0 (fun x => { tmps := #[Value.pointer (some { block := c, off := 0 }), Value.int IntKind.i64 m,
          Value.pointer (some { block := w.heap.size, off := 0 }), undef, Value.slice none 0 0, Value.int IntKind.i64 0,
          Value.pointer (some { block := w.heap.size + 1, off := 0 }), .int .i64 x, .int .i64 (dueV f x), undef, undef,
          Value.int IntKind.i64 m, Value.bool d1, Value.bool d1, Value.int IntKind.i64 m,
          Value.bool d2, Value.bool (d1 || d2),
          Value.pointer (some { block := c, off := 0 }), Value.pointer (some { block := c, off := 0 }),
          Value.pointer (some { block := c, off := 0 }), Value.int IntKind.i64 now, Value.int IntKind.i64 m,
          Value.int IntKind.i64 t, Value.pointer (some { block := c, off := 0 }),
          Value.pointer (some { block := c, off := 0 }), Value.pointer (some { block := c, off := 0 }),
          Value.func (Fn.func 49) #[] #[Value.pointer (some { block := w.heap.size + 2, off := 0 })], .int .i64 x, .int .i64 (dueV f x),
          undef, undef, undef, undef, undef, undef, undef, undef, undef, undef, undef, undef, undef, undef, undef,
          undef, undef, undef, undef, undef, undef, undef, undef], defers := [] }) ?assign ?body ?done ?stop
  case hI => rw [hs4]; exact AdvI.own hcl hbl
  case hIx => 
    rw [hs4]
    intro cd pre W W' row ⟨h1, ini, x, h2, h3, h4⟩ hg hr
    exact ⟨h1, ini, x, h2, h3, AdvI.own hcl hbl ini W W' row h4 hg hr⟩
  case assign =>
    intro l' x W K hK
    gi_wp2
    exact hK
  case body =>
    rintro l' pre x W ⟨hle, ⟨v, bfv, hrow⟩, bxv, hcv, htv, hsv⟩ hlen
    have x0 := bxv.cell
    have x1 := cell2_0 hcv.box
    obtain ⟨dx, hdx⟩ : ∃ dx, dueV f x = dx := ⟨_, rfl⟩
    rw [hdx]
    by_cases hx : t < dx
    · have hI := Lib.hid (show AdvI f t w c b n pre W from ⟨hle, ⟨v, bfv, hrow⟩, bxv, hcv, htv, hsv⟩)
      have Hdx := Lib.hid hdx
      have Hx := Lib.hid hx
      clear hle bfv hrow htv hdx
      gi_wp2_with fail
      exact ⟨KeepsFrom.refl _ _, rfl, pre, x, rfl, by rw [Hdx.out]; exact Hx.out, hI.out⟩
    · have Hle := Lib.hid hle
      have Hdx := Lib.hid (show dueV f x ≤ t by omega)
      have hcap : pre.length + 1 ≤ 1000000 := by omega
      have f0 := bfv.cell
      have f1 := (bfv.alloc (.cells #[.int .i64 x] 3)).cell
      have hne : 41 ≠ (3 : Nat) := by decide
      clear hle hdx
      obtain ⟨i0, hi, hz0, hz1, hz2⟩ := Try.info_int
      gi_wp2_with (gi_at_builtin; refine wpListIn_append_own_at _ rfl _ _ 41 rfl (w.heap.size + 1) 3 i0 (.int .i64 0) 1 8 Try.underlying41 hi hz0 hz1 hz2 rfl (by decide) _ _ _ rfl (hrow.alloc _) ⟨W.heap.size, 0, none⟩ 1 1 [encZ x] rfl rfl (cell_one_new _ _ _) (by simp [Value.oneCell', encZ]) (by unfold maxLen; omega) (by omega) (by rw [World.size_alloc]; omega) ?_; intro v' w2 hown' hgrow hnil hat; obtain ⟨g', cap', rfl, hg1, hg2⟩ := hown'.form (by omega); have hA := Boxed.appended bfv hne hrow (by omega) (Nat.le_refl _) hown' hgrow; have hB := KeepC.appended bfv hA.2.1 hgrow hat; have hc2 := hA.1.cell; have hf2 := hA.1.frozen; have HA := Lib.hid hA; have HB := Lib.hid hB; clear hA hB hat hgrow hnil)
      obtain ⟨_, p2, p3, p4, p5⟩ := HA.out
      have ht5 := htv.thenBelow p5 (by omega)
      refine ⟨p4.from _, HB.out, fun y hy => ?_, ⟨_, p2, ?_⟩, ?_, ?_, ht5, ?_⟩
      · rcases List.mem_append.1 hy with hy | hy
        · exact Hle.out y hy
        · obtain rfl := List.mem_singleton.1 hy; exact Hdx.out
      · simpa using p3
      · exact (p5.block _ (by omega)).trans bxv
      · exact ⟨(p5.block c (by omega)).trans hcv.box, hcv.tm.of_block (p5.block b (by omega))⟩
      · exact Nat.le_trans hsv p5.size
  case done =>
    rintro D ys W hD hids ⟨hle, ⟨v, bfv, hrow⟩, bxv, hcv, htv, hsv⟩ hK
    have HL := Lib.hid (fired_all hle)
    have hwfL := hids.2.1
    obtain ⟨L, rfl⟩ : ∃ L, L = ys := ⟨_, rfl⟩
    clear hle
    obtain ⟨A, cap, rfl, hc0, hcm, hcell⟩ := row_form hrow
    unfold maxLen at hcm
    have f0 := bfv.cell
    have HR := Lib.hid hrow
    have HT := Lib.hid htv
    have HC := Lib.hid hcv
    clear hrow htv hcv
    go_wp2_with fail
    go_loopw [41] (fun i wr => ∃ j : Nat, j ≤ L.length ∧ i = .int .i64 j ∧ Hid (ClockAt wr c b n t (delL f (L.take j))) ∧ Hid (Touch (· = b) W wr)) (fun i _ => L.length - (intOf i).toNat)
    case atStart => exact ⟨0, Nat.zero_le _, rfl, Lib.hid (by simpa [delL] using HC.out), Lib.hid (Touch.refl _ _)⟩
    case round =>
      obtain ⟨j, hj, rfl, hCj, hTj⟩ := hrel
      have y0 := (hTj.out.cell (p := ⟨w.heap.size, 0, none⟩) (by show w.heap.size < _; omega) (by show ¬ w.heap.size = b; omega)).trans bxv.cell
      have y1 := cell2_1 hCj.out.box
      by_cases hlt : j < L.length
      · obtain ⟨g, rfl, hg, hce⟩ := hcell j hlt
        have hgl : g < W.heap.size := cell_lt' hce
        have hce' := (hTj.out.cell (p := ⟨g, j, none⟩) hgl (by show ¬ g = b; omega)).trans hce
        have hwf : (Lit.int .i64 (L[j]?.getD 0)).wf = true := hwfL _ (by rw [List.getElem?_eq_getElem hlt]; exact List.getElem_mem hlt)
        have Ht := Lib.hid (show L.take (j + 1) = L.take j ++ [L[j]?.getD 0] by rw [List.take_add_one, List.getElem?_eq_getElem hlt]; rfl)
        obtain ⟨D0, ho, hr⟩ := hCj.out.tm
        have Hr := Lib.hid hr
        have Hwf := Lib.hid hwf
        clear hcell hr hwf hce
        generalize L[j]?.getD 0 = x at *
        go_wp2_with (at_delete; refine wpList_delete_own _ rfl _ _ 85 3 rfl 2 Try.keyInt Try.underlying85 _ b n D0 rfl ho _ _ rfl (keyOf_int_mk Try.underlying3 Hwf.out) ?_; intro w1 hown1 hturn1; have HO := Lib.hid hown1; have HU := Lib.hid hturn1; clear hown1 hturn1)
        have hT1 : Touch (· = b) wr w1 := Touch.of_grown HU.out.grown rfl
        go_roundw
        case rel => exact ⟨j + 1, by omega, by go_num, Lib.hid (by rw [Ht.out, delL_snoc]; exact ⟨(hT1.block c (lt_of_heap hCj.out.box) hCj.out.ne).trans hCj.out.box, ⟨_, HO.out, Hr.out.del x⟩⟩), Lib.hid (hTj.out.trans hT1)⟩
        case measure => simp [intOf]; omega
      · have Hj := Lib.hid (show j = L.length by omega)
        have hend : L.length ≤ j := by omega
        have y2 := (hTj.out.cell (p := ⟨w.heap.size + 1, 0, none⟩) (by show w.heap.size + 1 < _; omega) (by show ¬ w.heap.size + 1 = b; omega)).trans bfv.cell
        have hKr := (hTj.out.block D (lt_of_heap hK) (by show ¬ D = b; omega)).trans hK
        clear hlt hcell
        go_wp2_with fail
        refine post_mark rfl hKr (results_tmp2 rfl _ _ _) ?_
        have hCe := hCj.out
        rw [Hj.out, List.take_length, ← HL.out, delL_rest hids] at hCe
        have hTd : Touch (fun k => k = D) wr (wr.putObj D (.deferred none)) := ⟨rfl, rfl, rfl, by simp, fun k _ hx => World.putObj_heap_other (fun e => hx (by first | exact e | exact e.symm))⟩
        have hRr := HR.out
        have hTT := HT.out.trans ((hTj.out.mono (fun k _ hk => .inr hk)))
        refine ⟨_, L, rfl, hids, ?_, ?_, ?_⟩
        · rw [Htt.out, HL.out]
          obtain ⟨es, ck, hmap⟩ := HC.out.tm.isMap
          have hr1 := hRr.kept (w' := wr) (row := some b) ⟨hTj.out.os, hTj.out.tape, hTj.out.output, hTj.out.size, fun k hk hne => hTj.out.block k hk (fun e => hne (by rw [e]))⟩ (own_ne hRr hmap rfl)
          exact own_base (hr1.kept (grownBy_putObj' wr D (.deferred none)) (own_ne hr1 hKr rfl)) (by omega)
        · rw [Htt.out]; exact hCe.keep  hTd (by omega) (by omega)
        · exact hTT.thenBelow (below_put (Below.refl w.heap.size wr) (by omega)) (Nat.le_refl _)
  case stop =>
    rintro D cd pre W hD ⟨ys, hids, hpre⟩ ⟨rfl, L, x0, rfl, hx0, hle, ⟨v, bfv, hrow⟩, bxv, hcv, htv, hsv⟩ hK
    have HL := Lib.hid (fired_stop hids hpre hle hx0)
    have hwfL : ∀ x ∈ L, (Lit.int .i64 x).wf = true := fun x hx => hids.2.1 x (hpre.subset (List.mem_append_left _ hx))
    clear hle hpre hx0
    obtain ⟨A, cap, rfl, hc0, hcm, hcell⟩ := row_form hrow
    unfold maxLen at hcm
    have f0 := bfv.cell
    have HR := Lib.hid hrow
    have HT := Lib.hid htv
    have HC := Lib.hid hcv
    clear hrow htv hcv
    go_wp2_with fail
    go_loopw [41] (fun i wr => ∃ j : Nat, j ≤ L.length ∧ i = .int .i64 j ∧ Hid (ClockAt wr c b n t (delL f (L.take j))) ∧ Hid (Touch (· = b) W wr)) (fun i _ => L.length - (intOf i).toNat)
    case atStart => exact ⟨0, Nat.zero_le _, rfl, Lib.hid (by simpa [delL] using HC.out), Lib.hid (Touch.refl _ _)⟩
    case round =>
      obtain ⟨j, hj, rfl, hCj, hTj⟩ := hrel
      have y0 := (hTj.out.cell (p := ⟨w.heap.size, 0, none⟩) (by show w.heap.size < _; omega) (by show ¬ w.heap.size = b; omega)).trans bxv.cell
      have y1 := cell2_1 hCj.out.box
      by_cases hlt : j < L.length
      · obtain ⟨g, rfl, hg, hce⟩ := hcell j hlt
        have hgl : g < W.heap.size := cell_lt' hce
        have hce' := (hTj.out.cell (p := ⟨g, j, none⟩) hgl (by show ¬ g = b; omega)).trans hce
        have hwf : (Lit.int .i64 (L[j]?.getD 0)).wf = true := hwfL _ (by rw [List.getElem?_eq_getElem hlt]; exact List.getElem_mem hlt)
        have Ht := Lib.hid (show L.take (j + 1) = L.take j ++ [L[j]?.getD 0] by rw [List.take_add_one, List.getElem?_eq_getElem hlt]; rfl)
        obtain ⟨D0, ho, hr⟩ := hCj.out.tm
        have Hr := Lib.hid hr
        have Hwf := Lib.hid hwf
        clear hcell hr hwf hce
        generalize L[j]?.getD 0 = x at *
        go_wp2_with (at_delete; refine wpList_delete_own _ rfl _ _ 85 3 rfl 2 Try.keyInt Try.underlying85 _ b n D0 rfl ho _ _ rfl (keyOf_int_mk Try.underlying3 Hwf.out) ?_; intro w1 hown1 hturn1; have HO := Lib.hid hown1; have HU := Lib.hid hturn1; clear hown1 hturn1)
        have hT1 : Touch (· = b) wr w1 := Touch.of_grown HU.out.grown rfl
        go_roundw
        case rel => exact ⟨j + 1, by omega, by go_num, Lib.hid (by rw [Ht.out, delL_snoc]; exact ⟨(hT1.block c (lt_of_heap hCj.out.box) hCj.out.ne).trans hCj.out.box, ⟨_, HO.out, Hr.out.del x⟩⟩), Lib.hid (hTj.out.trans hT1)⟩
        case measure => simp [intOf]; omega
      · have Hj := Lib.hid (show j = L.length by omega)
        have hend : L.length ≤ j := by omega
        have y2 := (hTj.out.cell (p := ⟨w.heap.size + 1, 0, none⟩) (by show w.heap.size + 1 < _; omega) (by show ¬ w.heap.size + 1 = b; omega)).trans bfv.cell
        have hKr := (hTj.out.block D (lt_of_heap hK) (by show ¬ D = b; omega)).trans hK
        clear hlt hcell
        go_wp2_with fail
        refine post_mark rfl hKr (results_tmp2 rfl _ _ _) ?_
        have hCe := hCj.out
        rw [Hj.out, List.take_length, ← HL.out, delL_rest hids] at hCe
        have hTd : Touch (fun k => k = D) wr (wr.putObj D (.deferred none)) := ⟨rfl, rfl, rfl, by simp, fun k _ hx => World.putObj_heap_other (fun e => hx (by first | exact e | exact e.symm))⟩
        have hRr := HR.out
        have hTT := HT.out.trans ((hTj.out.mono (fun k _ hk => .inr hk)))
        refine ⟨_, ys, rfl, hids, ?_, ?_, ?_⟩
        · rw [Htt.out, HL.out]
          obtain ⟨es, ck, hmap⟩ := HC.out.tm.isMap
          have hr1 := hRr.kept (w' := wr) (row := some b) ⟨hTj.out.os, hTj.out.tape, hTj.out.output, hTj.out.size, fun k hk hne => hTj.out.block k hk (fun e => hne (by rw [e]))⟩ (own_ne hRr hmap rfl)
          exact own_base (hr1.kept (grownBy_putObj' wr D (.deferred none)) (own_ne hr1 hKr rfl)) (by omega)
        · rw [Htt.out]; exact hCe.keep  hTd (by omega) (by omega)
        · exact hTT.thenBelow (below_put (Below.refl w.heap.size wr) (by omega)) (Nat.le_refl _)

end Go.Proofs.Ytgnckeidekppjaa
