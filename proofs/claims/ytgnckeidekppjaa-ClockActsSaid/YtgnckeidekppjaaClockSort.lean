/-
  The ids of a clock's timers, sorted: slices.SortedFunc over maps.Keys.
-/
import Derived.Test.YtgnckeidekppjaaClockCmp
import Derived.Test.YtgnckeidekppjaaShelfC
import Derived.Test.YtgnckeidekppjaaRange
import Derived.Shelf.SlIterI.Collect
import Derived.Shelf.SlSortCmp.Whole1
import Derived.Shelf.SlSortCmp.NoneTotal
import Derived.OpenShut
namespace Go.Proofs.Ytgnckeidekppjaa
open Go.RowKit Go.Maps Go.Sort Go.Shelf
set_option linter.unusedVariables false
set_option linter.unusedSimpArgs false
attribute [local go_sem] Oper.semAt_some

def wr (x : Int) : Int := IntKind.i64.wrap x
theorem wr_wf (x : Int) : (Lit.int .i64 (wr x)).wf = true := wf_wrap .i64 x
theorem wr_of {x : Int} (h : (Lit.int .i64 x).wf = true) : wr x = x := by
  simp [Lit.wf, IntKind.min, IntKind.max, IntKind.signed, IntKind.bits] at h
  exact IntWalk.i64_in _ (by omega)
def encC (x : Int) : Value := .int .i64 (wr x)

/-- Which of two timers comes first. -/
def firstT (f : Int → Option Int) (x y : Int) : Bool := decide (dueV f x < dueV f y ∨ dueV f x = dueV f y ∧ x < y)

theorem ltOf_cmp (f : Int → Option Int) (x y : Int) : ltOf (fun x y => cmpT f (wr x) (wr y)) x y = firstT f (wr x) (wr y) := by
  unfold ltOf firstT
  rw [decide_eq_decide]
  show cmpT f (wr x) (wr y) < 0 ↔ _
  unfold cmpT
  generalize dueV f (wr x) = a
  generalize dueV f (wr y) = b
  generalize wr x = u
  generalize wr y = v
  unfold orV cmpV
  split <;> split <;> (try split) <;> (try split) <;> omega

theorem firstT_swo (f : Int → Option Int) : SWO (ltOf (fun x y => cmpT f (wr x) (wr y))) where
  irrefl x := by rw [ltOf_cmp]; unfold firstT; simp
  trans x y z h1 h2 := by rw [ltOf_cmp] at *; unfold firstT at *; simp at *; omega
  ntrans x y z h1 h2 := by rw [ltOf_cmp] at *; unfold firstT at *; simp at *; omega

/-- ys are the ids of f's timers, in order. -/
def IsIds (f : Int → Option Int) (ys : List Int) : Prop := (∀ x, x ∈ ys ↔ (f x).isSome = true) ∧ (∀ x ∈ ys, (Lit.int .i64 x).wf = true) ∧ ys.Pairwise (fun a b => firstT f a b = true)

theorem firstT_total (f : Int → Option Int) {a b : Int} (hne : a ≠ b) (h : firstT f b a = false) : firstT f a b = true := by
  unfold firstT at *; simp at *; omega

theorem encC_eq {x : Int} (h : (Lit.int .i64 x).wf = true) : encC x = encZ x := by unfold encC; rw [wr_of h]

theorem putCells_encC (d cur : Array Int) (o : Nat) (c : Array Value) (hd : ∀ j, j < d.size → (Lit.int .i64 d[j]!).wf = true) : putCells encC o d c = putCells encZ o d c := by
  unfold putCells
  apply Array.ext
  · simp
  · intro i h1 h2
    simp only [Array.getElem_mapIdx]
    split
    · rename_i h
      exact encC_eq (hd _ (by omega))
    · rfl

theorem putRow_encC (w : World) (g : Nat) (d : Array Int) (hd : ∀ j, j < d.size → (Lit.int .i64 d[j]!).wf = true) : putRow encC w g 0 d = putRow encZ w g 0 d := by
  unfold putRow
  exact mapBlock_congr _ _ _ _ (fun c e fr _ => putCells_encC d d 0 c hd)

/-- What the sort makes of the keys. -/
theorem ids_of_sorted {f : Int → Option Int} {ss : List Int} {d' : Array Int} (hnd : ss.Nodup) (hmem : ∀ x, x ∈ ss ↔ (f x).isSome = true) (hwf : ∀ x ∈ ss, (Lit.int .i64 x).wf = true)
    (hp : PermIn 0 ss.toArray.size ss.toArray d') (hs : SortedIn (ltOf (fun x y => cmpT f (wr x) (wr y))) 0 ss.toArray.size d') : IsIds f d'.toList ∧ d'.toList.length = ss.length := by
  obtain ⟨hsz, _, hperm⟩ := hp
  have e1 : (d'.extract 0 ss.toArray.size) = d' := by rw [← hsz]; simp
  have e2 : (ss.toArray.extract 0 ss.toArray.size) = ss.toArray := by simp
  rw [e1, e2] at hperm
  have hperm' : d'.toList.Perm ss := by simpa using hperm
  have hwf' : ∀ x ∈ d'.toList, (Lit.int .i64 x).wf = true := fun x hx => hwf x (hperm'.mem_iff.1 hx)
  have hnd' : d'.toList.Nodup := hperm'.nodup_iff.2 hnd
  refine ⟨⟨fun x => hperm'.mem_iff.trans (hmem x), hwf', ?_⟩, hperm'.length_eq⟩
  rw [List.pairwise_iff_getElem]
  intro i j hi hj hij
  have h := hs i j (Nat.zero_le _) hij (by rw [← hsz]; simpa using hj)
  rw [ltOf_cmp] at h
  have gi : d'[i]! = d'.toList[i] := by rw [getElem!_pos d' i (by simpa using hi)]; simp
  have gj : d'[j]! = d'.toList[j] := by rw [getElem!_pos d' j (by simpa using hj)]; simp
  rw [gi, gj, wr_of (hwf' _ (List.getElem_mem hi)), wr_of (hwf' _ (List.getElem_mem hj))] at h
  refine firstT_total f (fun e => ?_) h
  have := (List.getElem_inj hnd').1 e
  omega

/-- Two such lists are one. -/
theorem IsIds.unique {f : Int → Option Int} {ys zs : List Int} (h : IsIds f ys) (k : IsIds f zs) : ys = zs := by
  have irr : ∀ a, firstT f a a = false := fun a => by unfold firstT; simp
  have n1 : ys.Nodup := h.2.2.imp (fun {a b} hab e => by subst e; rw [irr] at hab; cases hab)
  have n2 : zs.Nodup := k.2.2.imp (fun {a b} hab e => by subst e; rw [irr] at hab; cases hab)
  have hp : ys.Perm zs := (List.perm_ext_iff_of_nodup n1 n2).2 fun x => (h.1 x).trans (k.1 x).symm
  refine List.Perm.eq_of_pairwise (le := fun a b => firstT f a b = true) (fun a b _ _ h1 h2 => ?_) h.2.2 k.2.2 hp
  unfold firstT at h1 h2; simp at h1 h2; omega

section
variable {c b n p q : Nat} {now : Int} {f : Int → Option Int}

theorem touch_sort (w : World) (blk off m : Nat) (d : Array Int) (os : Array Obj) : Touch (· = blk) w (sortWorld encC w blk off m d os) := by
  refine ⟨rfl, rfl, rfl, by simp [sortWorld, grow], fun k hk hne => ?_⟩
  unfold sortWorld
  rw [heap_grow_old _ _ (by simpa using hk)]
  have : blk ≠ k := fun e => hne e.symm
  simp [putRow, mapBlock, Sort.ahead, Array.getElem?_modify, this]

theorem cmpLays (w : World) (blk off size : Nat) (hbp : p ≠ blk) (hbc : c ≠ blk) (hbb : b ≠ blk) (hpl : p < w.heap.size) (hp : w.cell? ⟨p, 0, none⟩ = some (.pointer (some ⟨c, 0, none⟩))) (h : ClockAt w c b n now f) :
    CmpLays1 Try.prog 52 #[.pointer (some ⟨p, 0, none⟩)] encC (fun x y => cmpT f (wr x) (wr y)) blk off size w := by
  intro m os dk hs x y
  have ht := touch_sort w blk off m dk os
  refine (Cmp_any _ (wr x) (wr y) (wr_wf x) (wr_wf y) ((ht.cell hpl hbp).trans hp) (h.keep ht hbc hbb)).mono ?_
  rintro e w' ⟨rfl, k, rfl⟩
  exact ⟨rfl, k, #[_], by rw [alloc_eq_grow]⟩

set_option maxRecDepth 100000 in
set_option maxHeartbeats 2000000 in
/-- slices.SortedFunc over the iterator of a clock's keys: the ids, in order, in a row of its own. -/
theorem SortedFunc_in (w : World) (hpl : p < w.heap.size) (hp : w.cell? ⟨p, 0, none⟩ = some (.pointer (some ⟨c, 0, none⟩))) (hql : q < w.heap.size) (hq : w.cell? ⟨q, 0, none⟩ = some (.map (some b)))
    (h : ClockAt w c b n now f) (hn : n ≤ 1000000) :
    CallsIn Fence.wide 6 Try.prog 50 #[.func (.func 61) #[] #[.pointer (some ⟨q, 0, none⟩)], .func (.func 52) #[] #[.pointer (some ⟨p, 0, none⟩)]] w fun e w' =>
      ∃ v ys, e = .returned v ∧ IsIds f ys ∧ ys.length ≤ n ∧ w'.ownsRow w.heap.size 3 1 v ys.length (ys.map encZ) ∧ Below w.heap.size w w' := by
  obtain ⟨D, hD, hsz, hnd, hmem, hwf⟩ := h.tm.keys
  have hseq := AnyZI.keys_gives Try.keys1L Fence.wide 3 trivial rfl (by decide) q b n D w hql hq hD
  have hcol := AnyZI.collect_in Try.collectL Fence.wide 5 trivial trivial rfl (by decide) 61 #[.pointer (some ⟨q, 0, none⟩)] trivial (enters_of Try.func61 (by kernel_rfl) rfl) _ (Maps.size D) (by unfold maxLen; omega) (by omega) w hseq.bounded
  change CallsIn Fence.wide 5 Try.prog 59 _ _ _ at hcol
  refine callsIn_of_wp Try.func50 rfl trivial ?_ rfl
  simp only [Try.ntmps50, List.size_toArray, List.length_cons, List.length_nil, Nat.reduceAdd, Nat.reduceSub, Array.replicate_succ, Array.replicate_zero, List.push_toArray, List.append_toArray, List.nil_append, List.cons_append]
  gi_wp2_with fail
  refine ⟨trivial, hcol.mono ?_⟩; rintro e W ⟨v, ss, rfl, ⟨hS, hlen⟩, hrow, hnil, hb⟩; dsimp only
  gi_wp2_with fail
  change W.ownsRow w.heap.size 3 1 v ss.length (ss.map encZ) at hrow
  have hnd' : ss.Nodup := hS.nodup_iff.2 hnd
  have hmem' : ∀ x, x ∈ ss ↔ (f x).isSome = true := fun x => hS.mem_iff.trans (hmem x)
  have hwf' : ∀ x ∈ ss, (Lit.int .i64 x).wf = true := fun x hx => hwf x (hS.mem_iff.1 hx)
  rcases hrow.2 with ⟨rfl, hz⟩ | ⟨gb, cap, cur, rfl, hbase, hgb, r1, r2, r3, r4⟩
  · have hss : ss = [] := List.eq_nil_of_length_eq_zero hz
    subst hss
    have cS := inWide (n := 5) (AnyF.slices_SortFunc_none Try.sortNoneL none 0 (.func (.func 52) #[] #[.pointer (some ⟨p, 0, none⟩)]) W)
    change CallsIn Fence.wide 5 Try.prog 60 _ _ _ at cS
    refine ⟨trivial, cS.mono ?_⟩; rintro e w' ⟨rfl, rfl⟩; dsimp only
    gi_wp2_with fail
    go_ret
    exact ⟨_, rfl, [], ⟨hmem', hwf', List.Pairwise.nil⟩, Nat.zero_le _, hrow, hb⟩
  · have hH0 : Holds encZ W gb 0 ss.toArray := holds_of_block_i hgb (by simpa using r4)
    have hH : Holds encC W gb 0 ss.toArray := fun j hj => by
      have := hH0 j hj
      rw [encC_eq (hwf' _ (by rw [getElem!_pos ss.toArray j hj]; simp))]
      exact this
    have hgl : gb < W.heap.size := (Array.getElem?_eq_some_iff.1 hgb).1
    have ht : Touch (fun _ => False) w W := Touch.of_new hb
    have hlay := cmpLays W gb 0 ss.toArray.size (p := p) (by omega) (by have := lt_of_heap h.box; omega) (by have := h.tm.lt; omega) (by have := hb.size; omega) ((ht.cell hpl (fun h => h)).trans hp) (h.keep ht (fun h => h) (fun h => h))
    have cS := inWide (n := 5) (Any.slices_SortFunc Try.sortL encC (fun _ => rfl) (fun x y => cmpT f (wr x) (wr y)) (firstT_swo f) 52 #[.pointer (some ⟨p, 0, none⟩)] gb 0 cap ss.toArray W
      (enters_of Try.func52 (by kernel_rfl) rfl) hlay hH hgl (by simp; omega))
    change CallsIn Fence.wide 5 Try.prog 60 _ _ _ at cS
    rw [show ss.toArray.size = ss.length by simp] at cS
    refine ⟨trivial, cS.mono ?_⟩; rintro e w' ⟨rfl, d', nn, os, hperm, hsorted, rfl⟩; dsimp only
    obtain ⟨hids, hl⟩ := ids_of_sorted (f := f) hnd' hmem' hwf' (by simpa using hperm) (by simpa using hsorted)
    have hd' : ∀ j, j < d'.size → (Lit.int .i64 d'[j]!).wf = true := fun j hj => by
      rw [getElem!_pos d' j hj]
      exact hids.2.1 _ (by simp)
    have hrow' := ownsRow_sorted_i (w := W) (n := nn) (os := os) (e := 3) (cap := cap) (ts := d'.toList) (ss := ss) hl hbase hgb r1 r2 r3
    have hg := grownBy_sorted_i (w := W) (g := gb) (n := nn) (os := os) d'
    rw [show d'.toList.toArray = d' by simp, ← putRow_encC _ _ _ hd'] at hrow'
    rw [← putRow_encC _ _ _ hd'] at hg
    gi_wp2_with fail
    go_ret
    refine ⟨_, d'.toList, rfl, hids, by omega, ?_, hb.grown hg hb.size (fun j hj => by cases hj; exact hbase)⟩
    rw [hl]
    exact hrow'
end

end Go.Proofs.Ytgnckeidekppjaa
