/-
  Layer 3 (ring): a ring in memory; New, Free, parts.
-/
import Derived.Test.YtfeljjlpdefnmaaGreatTak
import Derived.BigQuiet
import Derived.Deep.QuietTactic
import Derived.Laws.CopyOwn
import Derived.Deep.OwnRows
import Derived.StillTailTactics
import Derived.KernelRfl
namespace Go.Proofs.YtfeljjlpdefnmaaGreat
open Go.RowKit
set_option linter.unusedVariables false
set_option linter.unusedSimpArgs false
attribute [local go_sem] Oper.semAt_some

structure Rg where
  N : Nat
  head : Nat
  held : List UInt8
/-- Where the i-th byte lies. -/
def rpos (N h i : Nat) : Nat := if h + i < N then h + i else h + i - N
structure Rg.wf (r : Rg) : Prop where
  n1 : 1 ≤ r.N
  n2 : r.N ≤ 65536
  hd : r.head < r.N
  len : r.held.length ≤ r.N
/-- A ring in block R; its array is block a. -/
structure RgAt (W : World) (R a : Nat) (r : Rg) : Prop where
  box : W.heap[R]? = some (.cells #[.slice (some ⟨a, 0, none⟩) r.N r.N, .int .i64 r.head, .int .i64 r.held.length] 89 (0, 0))
  row : ∃ cur : List Value, W.heap[a]? = some (.cells cur.toArray 5 (0, 0)) ∧ cur.length = r.N ∧ ∀ i, i < r.held.length → cur[rpos r.N r.head i]? = some (encU (r.held[i]?.getD 0))
  ne : a ≠ R

theorem Tryz.info_u8r : (Tryz.prog.info? 5).map (fun i => (i.zero, i.size, i.bytes)) = some (some (.int .u8 0), 1, 1) := by kernel_rfl
theorem Tryz.under_bsR : Tryz.prog.underlying 39 = some (.slice 5) := by kernel_rfl
section
variable {W W1 : World} {R a : Nat} {r : Rg}
theorem RgAt.ltR (h : RgAt W R a r) : R < W.heap.size := lt_of_heap h.box
theorem RgAt.ltA (h : RgAt W R a r) : a < W.heap.size := by obtain ⟨cur, h, _⟩ := h.row; exact lt_of_heap h
theorem RgAt.touch {X : Nat → Prop} (h : RgAt W R a r) (k : Touch X W W1) (hR : ¬ X R) (ha : ¬ X a) : RgAt W1 R a r :=
  ⟨(k.block R h.ltR hR).trans h.box, by obtain ⟨cur, hc, h2⟩ := h.row; exact ⟨cur, (k.block a h.ltA ha).trans hc, h2⟩, h.ne⟩
theorem RgAt.below (h : RgAt W R a r) (hb : Below W.heap.size W W1) : RgAt W1 R a r := h.touch (Touch.of_new (X := fun _ => False) hb) (fun h => h) (fun h => h)
theorem RgAt.drewN (h : RgAt W R a r) (q : Nat) : RgAt (W.drewN q) R a r := h.touch (X := fun _ => False) ((Touch.refl _ W).drewN q) (fun h => h) (fun h => h)
theorem RgAt.c0 (h : RgAt W R a r) : W.cell? ⟨R, 0, none⟩ = some (.slice (some ⟨a, 0, none⟩) r.N r.N) := by simp [World.cell?, h.box]
theorem RgAt.c1 (h : RgAt W R a r) : W.cell? ⟨R, 1, none⟩ = some (.int .i64 r.head) := by simp [World.cell?, h.box]
theorem RgAt.c2 (h : RgAt W R a r) : W.cell? ⟨R, 2, none⟩ = some (.int .i64 r.held.length) := by simp [World.cell?, h.box]
theorem RgAt.f (h : RgAt W R a r) (j : Nat) : W.frozen? ⟨R, j, none⟩ = false := by simp [World.frozen?, h.box]

set_option maxRecDepth 100000 in
theorem RNew_any (n : Nat) (h1 : 1 ≤ n) (h2 : n ≤ 65536) (w : World) :
    Calls Tryz.prog 20 #[.int .i64 n] w fun e w' => ∃ R a, e = .returned (.tuple #[.pointer (some ⟨R, 0, none⟩), .int .i64 0]) ∧ RgAt w' R a ⟨n, 0, []⟩ ∧ w.heap.size ≤ R ∧ w.heap.size ≤ a ∧ Below w.heap.size w w' := by
  have p1 : (1 : Int) ≤ (n : Int) := by omega
  have p2 : (n : Int) ≤ 65536 := by omega
  have p3 : (0 : Int) ≤ (n : Int) := by omega
  have hm := fun w => run_make_row' (P := Tryz.prog) 39 5 (.int .u8 0) 1 Tryz.under_bsR Tryz.info_u8r rfl .i64 .i64 n (by omega) (by omega) w
  go_enter Tryz.func20, Tryz.ntmps20
  go_wp2_with fail
  go_ret2
  refine ⟨w.heap.size + 1, w.heap.size, by simp, ⟨by simpa using World.alloc_heap_new (w.alloc (.cells (madeCells #[.int .u8 0] n) 5)) _, ⟨(madeCells #[.int .u8 0] n).toList, ?_, by simp [madeCells], fun i hi => by simp at hi⟩, by omega⟩, by omega, by omega, ((Below.refl _ w).alloc (Nat.le_refl _) _).alloc (by simp) _⟩
  rw [Array.toArray_toList]
  exact (((Below.refl _ (w.alloc (.cells (madeCells #[.int .u8 0] n) 5))).alloc (Nat.le_refl _) _).block _ (by simp)).trans (World.alloc_heap_new w _)
set_option maxRecDepth 100000 in
theorem RFree_any (h : RgAt W R a r) (hw : r.wf) :
    Calls Tryz.prog 45 #[.pointer (some ⟨R, 0, none⟩)] W fun e w' => e = .returned (.int .i64 ((r.N - r.held.length : Nat) : Int)) ∧ ∃ q, w' = W.drewN q := by
  have c0 : ∀ q, (W.drewN q).cell? ⟨R, 0, none⟩ = some (.slice (some ⟨a, 0, none⟩) r.N r.N) := fun _ => h.c0
  have c2 : ∀ q, (W.drewN q).cell? ⟨R, 2, none⟩ = some (.int .i64 r.held.length) := fun _ => h.c2
  obtain ⟨n1, n2, n3, n4⟩ := hw
  obtain ⟨N, hN⟩ : ∃ N, r.N = N := ⟨_, rfl⟩
  obtain ⟨k, hk⟩ : ∃ k, r.held.length = k := ⟨_, rfl⟩
  rw [hN] at c0 n1 n2 n4 ⊢
  rw [hk] at c2 n4 ⊢
  have s1 : IntKind.i64.wrap ((N : Int) - (k : Int)) = (N : Int) - (k : Int) := IntWalk.i64_in _ (by omega)
  have s2 := Lib.hid (show ((N - k : Nat) : Int) = (N : Int) - (k : Int) by omega)
  clear h hN hk n1 n2 n3 n4
  go_enter Tryz.func45, Tryz.ntmps45
  go_wp2_with fail
  go_quiet (fail)
  go_wp2_with fail
  go_ret
  exact ⟨ret_int s2.out.symm, _, rfl⟩

/-- What parts comes to. -/
def partsV (a f k1 k2 : Nat) : Value := .tuple #[.slice (some ⟨a, if k1 = 0 then 0 else f, none⟩) k1 k1, .slice (some ⟨a, 0, none⟩) k2 k2]
def PartsP (W : World) (a f k1 k2 : Nat) (e : Ending) (w' : World) : Prop := e = .returned (partsV a f k1 k2) ∧ ∃ q, w' = W.drewN q
theorem parts_of {a f x y k1 k2 q : Nat} {A1 A2 : Option Addr} {e : Ending} (he : e = .returned (.tuple #[.slice A1 x x, .slice A2 y y])) (hx : x = k1) (hy : y = k2) (h1 : A1 = some ⟨a, if k1 = 0 then 0 else f, none⟩) (h2 : A2 = some ⟨a, 0, none⟩) : PartsP W a f k1 k2 e (W.drewN q) := by
  subst hx hy h1 h2
  exact ⟨he, _, rfl⟩
set_option maxRecDepth 100000 in
set_option maxHeartbeats 4000000 in
theorem RParts_any (h : RgAt W R a r) (hw : r.wf) (fr n : Nat) (hfr : fr ≤ 200000) (hn : n ≤ r.N) :
    Calls Tryz.prog 46 #[.pointer (some ⟨R, 0, none⟩), .int .i64 fr, .int .i64 n] W (PartsP W a (fr % r.N) (min n (r.N - fr % r.N)) (n - min n (r.N - fr % r.N))) := by
  have c0 : ∀ q, (W.drewN q).cell? ⟨R, 0, none⟩ = some (.slice (some ⟨a, 0, none⟩) r.N r.N) := fun _ => h.c0
  have c0' := h.c0
  obtain ⟨n1, n2, n3, n4⟩ := hw
  obtain ⟨N, hN⟩ : ∃ N, r.N = N := ⟨_, rfl⟩
  rw [hN] at c0 c0' n1 n2 hn ⊢
  obtain ⟨f, hf⟩ : ∃ f, fr % N = f := ⟨_, rfl⟩
  have hfN : f < N := by rw [← hf]; exact Nat.mod_lt _ n1
  rw [hf]
  have s0 : Int.tmod (fr : Int) (N : Int) = (f : Int) := by rw [← hf, Int.tmod_eq_emod_of_nonneg (Int.natCast_nonneg _)]; omega
  obtain ⟨k1, hk1⟩ : ∃ k1, min n (N - f) = k1 := ⟨_, rfl⟩
  obtain ⟨k2, hk2⟩ : ∃ k2, n - k1 = k2 := ⟨_, rfl⟩
  rw [hk1, hk2]
  have s1 : IntKind.i64.wrap (f : Int) = f := IntWalk.i64_in _ (by omega)
  have s2 : IntKind.i64.wrap ((N : Int) - (f : Int)) = ((N - f : Nat) : Int) := by rw [IntWalk.i64_in _ (by omega)]; omega
  have s3 : min (n : Int) ((N - f : Nat) : Int) = (k1 : Int) := by omega
  have s4 : IntKind.i64.wrap ((f : Int) + (k1 : Int)) = ((f + k1 : Nat) : Int) := by rw [IntWalk.i64_in _ (by omega)]; omega
  have s5 : IntKind.i64.wrap ((n : Int) - (k1 : Int)) = (k2 : Int) := by rw [IntWalk.i64_in _ (by omega)]; omega
  have z1 : (N : Int) ≠ 0 := by omega
  clear h hN n3 n4 hf
  go_enter Tryz.func46, Tryz.ntmps46
  go_wp2_with fail
  go_quiet (fail)
  go_wp2_with fail
  all_goals
    go_ret2
    refine parts_of rfl (by omega) (by omega) ?_ rfl
    first | rfl | (rw [if_pos (by omega)]) | (rw [if_neg (by omega)])
end

end Go.Proofs.YtfeljjlpdefnmaaGreat
