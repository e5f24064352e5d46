/-
  The clock's own iterator: its timers, one by one, in order.
-/
import Derived.Test.YtgnckeidekppjaaClockSort
namespace Go.Proofs.Ytgnckeidekppjaa
open Go.RowKit Go.Maps Go.Sort Go.Shelf
set_option linter.unusedVariables false
set_option linter.unusedSimpArgs false
attribute [local go_sem] Oper.semAt_some

/-- A range over a function in the plain calculus, whatever the body keeps. -/
theorem wp_rangeK {P : Program} {α : Type} {g : Operand} {ps : Array Tmp} {assign body : Code} {Q : Exit → Act → World → Prop} {a : Act} {w : World} {Kp : World → World → Prop}
    (hKt : ∀ {A B C : World}, Kp A B → Kp B C → Kp A C) (hKb : ∀ (W : World) (l : Nat) (o o' : Obj), w.heap.size ≤ l → W.heap[l]? = some o → o.isCells = false → o.isWalk = false → Kp W (W.putObj l o'))
    {gf : Nat} {lb : Array Value} (hg : a.eval g = .func (.func gf) #[] lb) (eg : ∀ args w, (callFunc gf args).run P w = .ok (.enter gf args) w)
    {encs : α → Array Value} {S Sp : List α → Prop} {N : Nat} {w0 : World} (hseq : SeqStopsK Fence.wide 7 P gf lb encs Kp S Sp N w0)
    (hb0 : Below w0.heap.size w0 w) (hps : ∀ x, (encs x).size = ps.size)
    (I : List α → World → Prop) (Ix : Code → List α → World → Prop) (hI : OwnFrom w.heap.size I) (hIx : ∀ c, OwnFrom w.heap.size (Ix c)) (h0 : I [] w) (a₁ : α → Act)
    (hassign : ∀ (l : Nat) (x : α) (W : World) (K : Act → World → Prop), K (a₁ x) W →
      assign.wpIn (Fence.wide.inRound l) 6 P (Exit.then K (fun _ _ _ => False)) { tmps := (ps.zip (encs x)).foldl (fun t (p, v) => t.setIfInBounds p v) a.tmps, defers := [] } W)
    (hbody : ∀ (l : Nat) (pre : List α) (x : α) (W : World), I pre W → pre.length < N → body.wpIn (Fence.wide.inRound l) 6 P (ownPostG w.heap.size Kp I Ix (pre ++ [x]) W) (a₁ x) W)
    (hdone : ∀ (D : Nat) (xs : List α) (W : World), w.heap.size ≤ D → S xs → I xs W → W.heap[D]? = some (.deferred (some [])) → Q .normal { a with defers := { target := .collected D, args := #[] } :: a.defers } W)
    (hstop : ∀ (D : Nat) (c : Code) (pre : List α) (W : World), w.heap.size ≤ D → Sp pre → Ix c pre W → W.heap[D]? = some (.deferred (some [])) → c.wp P Q { a with defers := { target := .collected D, args := #[] } :: a.defers } W) :
    (Code.rangeFunc g ps assign body).wp P Q a w :=
  wpIn_wide.1 (wpIn_rangeFunc_ownG (n := 8) rfl (by decide) hg trivial eg hseq hKt hKb hb0 hps I Ix hI hIx h0 a₁ hassign hbody hdone
    (fun D c pre W hD hS hI hK => wpIn_wide.2 (hstop D c pre W hD hS hI hK)))

theorem cell_keepC {X : Nat → Prop} {fb : Nat} {A B : World} {p : Addr} {v : Value} (h : KeepC X fb A B) (hx : ¬ X p.block) (hr : ¬ rowOf fb A p.block) (hc : A.cell? p = some v) : B.cell? p = some v := by
  cases ho : A.heap[p.block]? with
  | none => simp [World.cell?, ho] at hc
  | some o =>
    have hcell : o.isCells = true := by
      cases o <;> simp [World.cell?, ho] at hc <;> rfl
    have hb := h.2.2 p.block o hx hr ho (.inl hcell)
    exact (World.cell?_of_block (hb.trans ho.symm)).trans hc

section
variable {c b n p : Nat} {now : Int} {f : Int → Option Int}

set_option maxRecDepth 100000 in
set_option maxHeartbeats 4000000 in
theorem timers1_in (l : Nat) (X : Nat → Prop) (fb : Nat) (hXp : ¬ X p) (hXc : ¬ X c) (hXb : ¬ X b) (hn : n ≤ 1000000) (J Jx : List Int → World → Prop) (W : World) (hXn : ∀ k, X k → k < W.heap.size)
    (hY : ∀ pre x W1, J pre W1 → pre.length < n → YieldAt Fence.wide 6 Try.prog l #[.int .i64 x, .int .i64 (dueV f x)] W1 fun e W' =>
      (e = .returned (.bool true) ∧ J (pre ++ [x]) W' ∧ KeepC X fb W1 W') ∨ (e = .returned (.bool false) ∧ Jx (pre ++ [x]) W'))
    (hJ : AbidesFrom W.heap.size J) (hfb : fb < W.heap.size) (hrow : ∀ k, rowOf fb W k → k < W.heap.size ∧ k ≠ p ∧ k ≠ c ∧ k ≠ b) (hpl : p < W.heap.size) (hp : W.cell? ⟨p, 0, none⟩ = some (.pointer (some ⟨c, 0, none⟩))) (h : ClockAt W c b n now f) (h0 : J [] W) :
    CallsIn Fence.wide 7 Try.prog 49 #[.func (.yield l) #[] #[], .pointer (some ⟨p, 0, none⟩)] W fun e W' => (∃ v, e = .returned v) ∧
      ((∃ ys, IsIds f ys ∧ J ys W') ∨ (∃ pre, (∃ ys, IsIds f ys ∧ pre <+: ys) ∧ Jx pre W')) := by
  have h1 := cell2_1 h.box
  have hk := AnyZI.keys_in Try.keysL Fence.wide 6 trivial rfl (some b) W
  change CallsIn Fence.wide 6 Try.prog 51 _ _ (fun e w' => e = .returned (.func (.func 61) #[] #[.pointer (some ⟨W.heap.size, 0, none⟩)]) ∧ w' = W.alloc (.cells #[.map (some b)] 85)) at hk
  have ht0 : Touch (fun _ => False) W (W.alloc (.cells #[.map (some b)] 85)) := (Touch.refl _ W).alloc _
  have hs := SortedFunc_in (q := W.heap.size) (W.alloc (.cells #[.map (some b)] 85)) (by rw [World.size_alloc]; omega) ((ht0.cell hpl (fun h => h)).trans hp) (by rw [World.size_alloc]; omega) (World.cell?_alloc_new W _ _ 0) (h.keep ht0 (fun h => h) (fun h => h)) hn
  refine callsIn_of_wp Try.func49 rfl trivial ?_ rfl
  simp only [Try.ntmps49, List.size_toArray, List.length_cons, List.length_nil, Nat.reduceAdd, Nat.reduceSub, Array.replicate_succ, Array.replicate_zero, List.push_toArray, List.append_toArray, List.nil_append, List.cons_append]
  gi_wp2_with fail
  refine ⟨trivial, hk.mono ?_⟩; rintro e w' ⟨rfl, rfl⟩; dsimp only
  gi_wp2_with fail
  refine ⟨trivial, hs.mono ?_⟩; rintro e W1 ⟨v, ys, rfl, hids, hlen, hown, hb⟩; dsimp only
  rw [World.size_alloc] at hown
  have hbW : Below W.heap.size W W1 := ((Below.refl _ W).alloc (Nat.le_refl _) _).trans (hb.mono (by rw [World.size_alloc]; omega))
  have htW : Touch (fun _ => False) W W1 := Touch.of_new hbW
  have hJ1 : J [] W1 := hJ _ _ _ none h0 ⟨htW.os, htW.tape, htW.output, htW.size, fun k hk _ => htW.block k hk (fun h => h)⟩ (fun r e => by cases e)
  have hrs : ∀ k, rowOf fb W1 k → k < W.heap.size ∧ k ≠ p ∧ k ≠ c ∧ k ≠ b := fun k hk => hrow k ((rowOf_same (htW.block fb hfb (fun h => h)) k).1 hk)
  have rp : ¬ rowOf fb W1 p := fun hk => (hrs p hk).2.1 rfl
  have rc : ¬ rowOf fb W1 c := fun hk => (hrs c hk).2.2.1 rfl
  have rb : ¬ rowOf fb W1 b := fun hk => (hrs b hk).2.2.2 rfl
  have rg : ∀ g, W.heap.size ≤ g → ¬ rowOf fb W1 g := fun g hg hk => by have := (hrs g hk).1; omega
  have hp1 := (htW.cell hpl (fun h => h)).trans hp
  have hc1 := h.keep htW (fun h => h) (fun h => h)
  have hI : ∃ A cap, v = .slice A ys.length cap ∧ ys.length ≤ cap ∧ cap ≤ maxLen ∧ ∀ j, j < ys.length → ∃ g, A = some ⟨g, 0, none⟩ ∧ W.heap.size ≤ g ∧ W1.cell? ⟨g, j, none⟩ = some (.int .i64 (ys[j]?.getD 0)) := by
    rcases hown.2 with ⟨rfl, hz⟩ | ⟨gb, cap, cur, rfl, hbase, hgb, r1, r2, r3, r4⟩
    · exact ⟨none, 0, by rw [hz], by omega, by unfold maxLen; omega, fun j hj => by omega⟩
    · refine ⟨some ⟨gb, 0, none⟩, cap, rfl, r1, r2, fun j hj => ⟨gb, rfl, by omega, ?_⟩⟩
      have := hown.cells (g := gb) rfl j (encZ (ys[j]?.getD 0)) (by simp [hj])
      rw [WideShapes.add_plain, Nat.zero_add] at this
      exact this
  clear hk hs hb hbW htW hown hrow hrs h0 hp h h1 ht0
  obtain ⟨A, cap, rfl, hc0, hcm, hcell⟩ := hI
  unfold maxLen at hcm
  gi_wp2_with fail
  gi_loopw [15] (fun i wr => ∃ j : Nat, j ≤ ys.length ∧ i = .int .i64 j ∧ Hid (J (ys.take j) wr) ∧ Hid (KeepC X fb W1 wr)) (fun i _ => ys.length - (intOf i).toNat)
  case atStart => exact ⟨0, Nat.zero_le _, rfl, Lib.hid (by simpa using hJ1), Lib.hid (KeepC.refl _)⟩
  case round =>
    obtain ⟨j, hj, rfl, hJs, hK⟩ := hrel
    by_cases hlt : j < ys.length
    · obtain ⟨g, rfl, hg, hce⟩ := hcell j hlt
      have hce' := cell_keepC hK.out (fun hx => by have := hXn g hx; omega) (rg g hg) hce
      have hp' := cell_keepC hK.out hXp rp hp1
      have hcl := hc1.keepC hK.out hXc hXb rc rb
      have hc1' := cell2_1 hcl.box
      have hwf : (Lit.int .i64 (ys[j]?.getD 0)).wf = true := by
        rw [List.getElem?_eq_getElem hlt]
        exact hids.2.1 _ (List.getElem_mem hlt)
      have hlk := hcl.tm.look hwf
      change (Instr.lookup _ _ _ _).run _ _ = .ok (.int .i64 (dueV f (ys[j]?.getD 0))) _ at hlk
      have hy0 := hY _ (ys[j]?.getD 0) wr hJs.out (by rw [List.length_take]; omega)
      have ht : ys.take (j + 1) = ys.take j ++ [ys[j]?.getD 0] := by
        rw [List.take_add_one, List.getElem?_eq_getElem hlt]; rfl
      have Ht := Lib.hid ht
      clear ht hcl hwf hcell hJ1 hc1 hp1
      generalize ys[j]?.getD 0 = x at *
      generalize dueV f x = dx at *
      obtain ⟨fn, tmps, assign, body, hy, hR⟩ := hy0
      gi_wp2_with fail
      refine hR.mono ?_
      rintro e W3 (⟨rfl, hJ3, hk3⟩ | ⟨rfl, hJx3⟩)
      · have hJ3' := Lib.hid hJ3
        have hk3' := Lib.hid hk3
        clear hJ3 hk3
        gi_wp2_with fail
        go_roundw
        case rel => exact ⟨j + 1, by omega, by go_num, Lib.hid (by rw [Ht.out]; exact hJ3'.out), Lib.hid (hK.out.trans hk3'.out)⟩
        case measure => simp [intOf]; omega
      · have hJx3' := Lib.hid hJx3
        clear hJx3
        gi_wp2_with fail
        refine bodyPost_ret (results_none rfl _ _ _) rfl ?_
        exact ⟨⟨_, rfl⟩, .inr ⟨_, ⟨ys, hids, by rw [← Ht.out]; exact List.take_prefix _ _⟩, hJx3'.out⟩⟩
    · have Hj := Lib.hid (show j = ys.length by omega)
      have hend : ys.length ≤ j := by omega
      clear hlt hcell hJ1 hc1 hp1
      gi_wp2_with fail
      go_end0
      exact ⟨⟨_, rfl⟩, .inl ⟨ys, hids, by have := hJs.out; rwa [Hj.out, List.take_length] at this⟩⟩

/-- The clock's iterator, told as the law on ranges asks. -/
theorem timers_stops (X : Nat → Prop) (fb : Nat) (w : World) (hXp : ¬ X p) (hXc : ¬ X c) (hXb : ¬ X b) (hn : n ≤ 1000000) (hXn : ∀ k, X k → k < w.heap.size) (hfb : fb < w.heap.size) (hrow : ∀ k, rowOf fb w k → k < w.heap.size ∧ k ≠ p ∧ k ≠ c ∧ k ≠ b) (hpl : p < w.heap.size)
    (hp : w.cell? ⟨p, 0, none⟩ = some (.pointer (some ⟨c, 0, none⟩))) (h : ClockAt w c b n now f) :
    SeqStopsK Fence.wide 7 Try.prog 49 #[.pointer (some ⟨p, 0, none⟩)] (fun x : Int => #[.int .i64 x, .int .i64 (dueV f x)]) (KeepC X fb) (IsIds f) (fun pre => ∃ ys, IsIds f ys ∧ pre <+: ys) n w := fun l J Jx W hW hJ _ hY h0 => by
  have ht : Touch (fun _ => False) w W := Touch.of_new hW
  exact timers1_in l X fb hXp hXc hXb hn J Jx W (fun k hk => by have := hXn k hk; have := hW.size; omega) hY hJ (by have := hW.size; omega) (fun k hk => by have := hrow k ((rowOf_same (hW.block fb hfb) k).1 hk); have := hW.size; omega) (by have := hW.size; omega) ((ht.cell hpl (fun h => h)).trans hp) (h.keep ht (fun h => h) (fun h => h)) h0

end

end Go.Proofs.Ytgnckeidekppjaa
