/-
  Layer 12 (intake): an intake in memory.
-/
import Derived.Test.YtfeljjlpdefnmaaGreatItk
namespace Go.Proofs.YtfeljjlpdefnmaaGreat
open Go.RowKit
set_option linter.unusedVariables false
set_option linter.unusedSimpArgs false
attribute [local go_sem] Oper.semAt_some

structure Itk where
  t : Tak
  taken : Int
  given : Int
  e : Int
/-- An intake in block I; its taker's head is block S, and lies in the blocks G. -/
structure ItkAt (W : World) (G : Nat → Prop) (S I : Nat) (i : Itk) : Prop where
  box : W.heap[I]? = some (.cells #[.iface i.t.ty (.pointer (some ⟨S, 0, none⟩)), .int .i64 i.taken, .int .i64 i.given, .int .i64 i.e] 74 (0, 0))
  tak : TakAt W G S i.t
  apart : ¬ G I
def Itk.done (i : Itk) : Bool := (i.e == 0) && i.t.done
def Itk.wf (N : Int) (i : Itk) : Prop := i.t.wf N ∧ 0 ≤ i.taken ∧ i.taken ≤ N ∧ 0 ≤ i.given ∧ i.given ≤ N
/-- What a Put comes to: the intake, the data, how many bytes were taken, the error. -/
def Itk.put (e0 e1 e2 e3 e4 e5 : Int) (bs : List UInt8) (i : Itk) : Itk × List UInt8 × Nat × Int :=
  if i.e ≠ 0 ∨ i.done = true then (i, [], 0, i.e)
  else (⟨(i.t.put e0 e1 e2 e3 e4 e5 bs).1, i.taken + (i.t.put e0 e1 e2 e3 e4 e5 bs).2.2.1, i.given + (i.t.put e0 e1 e2 e3 e4 e5 bs).2.1.length, (i.t.put e0 e1 e2 e3 e4 e5 bs).2.2.2⟩, (i.t.put e0 e1 e2 e3 e4 e5 bs).2.1, (i.t.put e0 e1 e2 e3 e4 e5 bs).2.2.1, (i.t.put e0 e1 e2 e3 e4 e5 bs).2.2.2)
def Itk.wants (i : Itk) : Int := if i.e ≠ 0 ∨ i.done = true then 0 else match i.t with | .sized l => l | _ => 4611686018427387903

section
variable {W W1 : World} {G : Nat → Prop} {S I : Nat} {i : Itk} {e0 e1 e2 e3 e4 e5 : Int} {n0 : Nat}
theorem ItkAt.lt (h : ItkAt W G S I i) : I < W.heap.size := lt_of_heap h.box
theorem ItkAt.touch {X : Nat → Prop} (h : ItkAt W G S I i) (k : Touch X W W1) (hX : ∀ j, G j → ¬ X j) (hI : ¬ X I) : ItkAt W1 G S I i := ⟨(k.block I h.lt hI).trans h.box, h.tak.touch k hX, h.apart⟩
theorem ItkAt.below (h : ItkAt W G S I i) (hb : Below W.heap.size W W1) : ItkAt W1 G S I i := h.touch (Touch.of_new (X := fun _ => False) hb) (fun _ _ h => h) (fun h => h)
theorem ItkAt.drewN (h : ItkAt W G S I i) (q : Nat) : ItkAt (W.drewN q) G S I i := h.touch (X := fun _ => False) ((Touch.refl _ W).drewN q) (fun _ _ h => h) (fun h => h)
theorem ItkAt.c0 (h : ItkAt W G S I i) : W.cell? ⟨I, 0, none⟩ = some (.iface i.t.ty (.pointer (some ⟨S, 0, none⟩))) := by simp [World.cell?, h.box]
theorem ItkAt.c1 (h : ItkAt W G S I i) : W.cell? ⟨I, 1, none⟩ = some (.int .i64 i.taken) := by simp [World.cell?, h.box]
theorem ItkAt.c2 (h : ItkAt W G S I i) : W.cell? ⟨I, 2, none⟩ = some (.int .i64 i.given) := by simp [World.cell?, h.box]
theorem ItkAt.c3 (h : ItkAt W G S I i) : W.cell? ⟨I, 3, none⟩ = some (.int .i64 i.e) := by simp [World.cell?, h.box]
theorem ItkAt.f (h : ItkAt W G S I i) (j : Nat) : W.frozen? ⟨I, j, none⟩ = false := by simp [World.frozen?, h.box]
theorem ItkAt.setCell (h : ItkAt W G S I i) (j : Nat) (v : Value) (i' : Itk) (ht : i'.t = i.t)
    (hb : (#[.iface i.t.ty (.pointer (some ⟨S, 0, none⟩)), .int .i64 i.taken, .int .i64 i.given, .int .i64 i.e] : Array Value).setIfInBounds j v = #[.iface i'.t.ty (.pointer (some ⟨S, 0, none⟩)), .int .i64 i'.taken, .int .i64 i'.given, .int .i64 i'.e]) :
    ItkAt (W.setCell ⟨I, j, none⟩ v) G S I i' := by
  refine ⟨?_, ?_, h.apart⟩
  · rw [← hb]; exact setBoxR v h.box
  · rw [ht]; exact h.tak.touch ((Touch.refl (fun k => k = I) W).setCell (p := ⟨I, j, none⟩) (.inl rfl) v) (fun k hk e => h.apart (by rw [← e]; exact hk))
theorem ItkAt.set1 (h : ItkAt W G S I i) (x : Int) : ItkAt (W.setCell ⟨I, 1, none⟩ (.int .i64 x)) G S I { i with taken := x } := h.setCell 1 _ _ rfl rfl
theorem ItkAt.set2 (h : ItkAt W G S I i) (x : Int) : ItkAt (W.setCell ⟨I, 2, none⟩ (.int .i64 x)) G S I { i with given := x } := h.setCell 2 _ _ rfl rfl
theorem ItkAt.set3 (h : ItkAt W G S I i) (x : Int) : ItkAt (W.setCell ⟨I, 3, none⟩ (.int .i64 x)) G S I { i with e := x } := h.setCell 3 _ _ rfl rfl
set_option maxRecDepth 100000 in
theorem IDone_any (h : ItkAt W G S I i) : Calls Tryz.prog 41 #[.pointer (some ⟨I, 0, none⟩)] W fun e w' => e = .returned (.bool i.done) ∧ W = w' := by
  have c0 := h.c0
  have c3 := h.c3
  have hm := take_done i.t S
  have hcf := call_done i.t
  have hD := Lib.hid (TDone_any h.tak)
  have HE := Lib.hid (show i.done = ((i.e == 0) && i.t.done) from rfl)
  obtain ⟨tt, ht⟩ : ∃ tt, i.t.ty = tt := ⟨_, rfl⟩
  obtain ⟨df, hf⟩ : ∃ df, i.t.doneF = df := ⟨_, rfl⟩
  rw [ht] at c0 hm
  rw [hf] at hm hD hcf
  obtain ⟨db, hdb⟩ : ∃ db, i.t.done = db := ⟨_, rfl⟩
  rw [hdb] at HE hD
  by_cases he : i.e = 0
  · have t1 : (i.e == 0) = true := beq_iff_eq.2 he
    rw [t1] at HE
    clear h ht hf hdb he
    go_enter Tryz.func41, Tryz.ntmps41
    go_wp2_with fail
    refine hD.out.mono ?_; rintro e w1 ⟨rfl, rfl⟩; dsimp only
    go_wp2_with fail
    go_ret
    exact ⟨ret_bool (by rw [HE.out]; rfl), rfl⟩
  · have t1 : (i.e == 0) = false := beq_eq_false_iff_ne.2 he
    rw [t1] at HE
    clear h ht hf hdb he
    go_enter Tryz.func41, Tryz.ntmps41
    go_wp2_with fail
    go_ret
    exact ⟨ret_bool (by rw [HE.out]; rfl), rfl⟩
theorem IErr_any (h : ItkAt W G S I i) : Calls Tryz.prog 42 #[.pointer (some ⟨I, 0, none⟩)] W fun e w' => e = .returned (.int .i64 i.e) ∧ W = w' := by
  have c3 := h.c3
  clear h
  go_enter Tryz.func42, Tryz.ntmps42
  go_wp2_with fail
  go_ret
  exact ⟨rfl, rfl⟩
theorem ITaken_any (h : ItkAt W G S I i) : Calls Tryz.prog 11 #[.pointer (some ⟨I, 0, none⟩)] W fun e w' => e = .returned (.int .i64 i.taken) ∧ W = w' := by
  have c3 := h.c1
  clear h
  go_enter Tryz.func11, Tryz.ntmps11
  go_wp2_with fail
  go_ret
  exact ⟨rfl, rfl⟩
theorem assert_sz (S : Nat) (w : World) : (Instr.typeAssert (.iface 85 (.pointer (some ⟨S, 0, none⟩))) 72 85 true).run Tryz.prog w = .ok (.tuple #[.pointer (some ⟨S, 0, none⟩), .bool true]) w := by kernel_rfl
theorem assert_nsz (t : Tak) (ht : t.ty ≠ 85) (S : Nat) (w : World) : (Instr.typeAssert (.iface t.ty (.pointer (some ⟨S, 0, none⟩))) 72 85 true).run Tryz.prog w = .ok (.tuple #[.pointer none, .bool false]) w := by
  cases t with
  | sized l => exact absurd rfl ht
  | all c => kernel_rfl
  | chunk d => kernel_rfl
set_option maxRecDepth 100000 in
theorem IWants_any (h : ItkAt W G S I i) : Calls Tryz.prog 25 #[.pointer (some ⟨I, 0, none⟩)] W fun e w' => e = .returned (.int .u64 i.wants) ∧ W = w' := by
  have c0 := h.c0
  have c3 := h.c3
  have hD := Lib.hid (IDone_any h)
  by_cases he : i.e = 0
  · have t1 : (i.e != 0) = false := by rw [he]; rfl
    by_cases hd : i.done = true
    · have HE := Lib.hid (show i.wants = 0 from if_pos (.inr hd))
      rw [hd] at hD
      clear h he hd
      go_enter Tryz.func25, Tryz.ntmps25
      go_wp2_with fail
      refine hD.out.mono ?_; rintro e w1 ⟨rfl, rfl⟩; dsimp only
      go_wp2_with fail
      go_ret
      exact ⟨ret_int HE.out.symm, rfl⟩
    · have HE := Lib.hid (show i.wants = match i.t with | .sized l => l | _ => 4611686018427387903 from if_neg (by simp [he, hd]))
      have hd' : i.done = false := by simpa using hd
      rw [hd'] at hD
      have htk := h.tak
      cases ht : i.t with
      | sized l =>
        rw [ht] at c0 HE htk
        have s0 : W.cell? ⟨S, 0, none⟩ = some (.int .u64 l) := by simp [World.cell?, htk.1]
        have ha := assert_sz S
        replace c0 : W.cell? ⟨I, 0, none⟩ = some (.iface 85 (.pointer (some ⟨S, 0, none⟩))) := c0
        clear h he hd hd' ht htk
        go_enter Tryz.func25, Tryz.ntmps25
        go_wp2_with fail
        refine hD.out.mono ?_; rintro e w1 ⟨rfl, rfl⟩; dsimp only
        go_wp2_with fail
        go_ret
        exact ⟨ret_int HE.out.symm, rfl⟩
      | all c =>
        rw [ht] at c0 HE htk
        have ha := assert_nsz (.all c) (by show ¬ (82 = 85); decide) S
        obtain ⟨tt, htt⟩ : ∃ tt, Tak.ty (.all c) = tt := ⟨_, rfl⟩
        rw [htt] at ha c0
        clear h he hd hd' ht htk htt
        go_enter Tryz.func25, Tryz.ntmps25
        go_wp2_with fail
        refine hD.out.mono ?_; rintro e w1 ⟨rfl, rfl⟩; dsimp only
        go_wp2_with fail
        go_ret
        exact ⟨ret_int HE.out.symm, rfl⟩
      | chunk d =>
        rw [ht] at c0 HE htk
        have ha := assert_nsz (.chunk d) (by show ¬ (79 = 85); decide) S
        obtain ⟨tt, htt⟩ : ∃ tt, Tak.ty (.chunk d) = tt := ⟨_, rfl⟩
        rw [htt] at ha c0
        clear h he hd hd' ht htk htt
        go_enter Tryz.func25, Tryz.ntmps25
        go_wp2_with fail
        refine hD.out.mono ?_; rintro e w1 ⟨rfl, rfl⟩; dsimp only
        go_wp2_with fail
        go_ret
        exact ⟨ret_int HE.out.symm, rfl⟩
  · have t1 : (i.e != 0) = true := bne_iff_ne.2 he
    have HE := Lib.hid (show i.wants = 0 from if_pos (.inl he))
    clear h he
    go_enter Tryz.func25, Tryz.ntmps25
    go_wp2_with fail
    go_ret
    exact ⟨ret_int HE.out.symm, rfl⟩
end

end Go.Proofs.YtfeljjlpdefnmaaGreat
