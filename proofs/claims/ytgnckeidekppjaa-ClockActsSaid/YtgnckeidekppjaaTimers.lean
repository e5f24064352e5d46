/-
  A clock in memory: its time, its map of timers, told as a function.
-/
import Derived.Test.YtgnckeidekppjaaProg
import Derived.Test.YtgnckeidekppjaaCommon
import Derived.Test.YtgnckeidekppjaaTouch
import Derived.Maps.OwnSet
import Derived.Maps.OwnOps
import Derived.Maps.Views
import Derived.Lib.SlKeysI
import Derived.KernelRfl
namespace Go.Proofs.Ytgnckeidekppjaa
open Go.RowKit Go.Maps Go.Sort
set_option linter.unusedVariables false
set_option linter.unusedSimpArgs false

theorem Try.keyInt : Keyed Try.prog 3 := int_keyed Try.underlying3
theorem Try.zero64 (w : World) : (zeroValue 2).run Try.prog w = .ok (.int .i64 0) w := by kernel_rfl

/-- The datum reads as the function f: where it is none the key isn't there. -/
def Reads (D : DataW Unit) (f : Int → Option Int) : Prop :=
  IsMap D ∧ (∀ k, Maps.has D (.int .i64 k) = (f k).isSome) ∧ ∀ k z, D.atKey (.int .i64 k) z = match f k with | some a => .lit (.int .i64 a) | none => z

def upd (f : Int → Option Int) (k a : Int) : Int → Option Int := fun x => if x = k then some a else f x
def del (f : Int → Option Int) (k : Int) : Int → Option Int := fun x => if x = k then none else f x

theorem Reads.nil : Reads (.map []) (fun _ => none) := ⟨isMap_empty, fun _ => rfl, fun _ _ => rfl⟩
theorem Reads.put {D : DataW Unit} {f : Int → Option Int} (h : Reads D f) (k a : Int) : Reads (D.put (.int .i64 k) (.lit (.int .i64 a))) (upd f k a) := by
  obtain ⟨hm, h1, h2⟩ := h
  refine ⟨?_, fun x => ?_, fun x z => ?_⟩
  · obtain ⟨es, rfl⟩ := hm; exact ⟨_, rfl⟩
  · by_cases e : x = k
    · subst e; rw [has_put_same hm (by trivial)]; simp [upd]
    · rw [has_put_other (by intro e'; cases e'; exact e rfl), h1]; simp [upd, e]
  · by_cases e : x = k
    · subst e; rw [atKey_put_same hm (by trivial)]; simp [upd]
    · rw [atKey_put_other (by intro e'; cases e'; exact e rfl), h2]; simp [upd, e]
theorem Reads.del {D : DataW Unit} {f : Int → Option Int} (h : Reads D f) (k : Int) : Reads (D.del (.int .i64 k)) (del f k) := by
  obtain ⟨hm, h1, h2⟩ := h
  refine ⟨?_, fun x => ?_, fun x z => ?_⟩
  · obtain ⟨es, rfl⟩ := hm; exact ⟨_, rfl⟩
  · by_cases e : x = k
    · subst e; rw [has_del_same]; simp [Ytgnckeidekppjaa.del]
    · rw [has_del_other (by intro e'; cases e'; exact e rfl), h1]; simp [Ytgnckeidekppjaa.del, e]
  · by_cases e : x = k
    · subst e; rw [atKey_del_same]; simp [Ytgnckeidekppjaa.del]
    · rw [atKey_del_other (by intro e'; cases e'; exact e rfl), h2]; simp [Ytgnckeidekppjaa.del, e]

abbrev ownsT (W : World) (b n : Nat) (D : DataW Unit) : Prop := W.ownsMap Try.prog 3 (plainElem Try.prog 2) b n D

def TM (W : World) (b n : Nat) (f : Int → Option Int) : Prop := ∃ D, ownsT W b n D ∧ Reads D f

section
variable {W W' : World} {b n : Nat} {f : Int → Option Int}
theorem TM.of_block (h : TM W b n f) (e : W'.heap[b]? = W.heap[b]?) : TM W' b n f := by
  obtain ⟨D, ⟨es, clock, hb, F, hs, hD⟩, hr⟩ := h
  exact ⟨D, ⟨es, clock, e.trans hb, F, hs, hD⟩, hr⟩
theorem TM.lt (h : TM W b n f) : b < W.heap.size := let ⟨_, ho, _⟩ := h; ho.lt
theorem TM.isMap (h : TM W b n f) : ∃ es c, W.heap[b]? = some (.map es c) := let ⟨_, ⟨es, c, hb, _⟩, _⟩ := h; ⟨es, c, hb⟩
theorem TM.mono (h : TM W b n f) {n' : Nat} (hn : n ≤ n') : TM W b n' f := let ⟨D, ho, hr⟩ := h; ⟨D, ho.mono hn, hr⟩
theorem TM.look (h : TM W b n f) {k : Int} (hk : (Lit.int .i64 k).wf = true) : (Instr.lookup 85 (.map (some b)) (.int .i64 k) false).run Try.prog W = .ok (.int .i64 ((f k).getD 0)) W := by
  obtain ⟨D, ho, hr⟩ := h
  obtain ⟨c, hrun, hat, _⟩ := ho.lookup_int Try.keyInt Try.underlying85 Try.underlying2 (Try.zero64 W) (keyOf_int_mk Try.underlying3 hk)
  rw [hr.2.2 k] at hat
  rw [hrun]
  cases e : f k <;> rw [e] at hat <;> simp at hat <;> subst hat <;> rfl
theorem TM.look_ok (h : TM W b n f) {k : Int} (hk : (Lit.int .i64 k).wf = true) : (Instr.lookup 85 (.map (some b)) (.int .i64 k) true).run Try.prog W = .ok (.tuple #[.int .i64 ((f k).getD 0), .bool (f k).isSome]) W := by
  obtain ⟨D, ho, hr⟩ := h
  obtain ⟨v, ps, hrun, hv⟩ := ho.look_ok Try.keyInt Try.underlying85 (Try.zero64 W) (plainElem_int Try.underlying2 (by decide)) (keyOf_int_mk Try.underlying3 hk)
  rw [hr.2.1] at hrun
  rw [hr.2.2 k] at hv
  obtain ⟨c, rfl, hc, _⟩ := plainElem_int_inv Try.underlying2 hv
  rw [hrun]
  simp only [Prod.mk.injEq] at hc
  have := hc.1
  cases e : f k <;> rw [e] at this <;> simp at this <;> subst this <;> rfl
/-- The keys: each once, each in its bounds. -/
theorem TM.keys (h : TM W b n f) : ∃ D, ownsT W b n D ∧ Maps.size D ≤ n ∧ (intKeys D).Nodup ∧ (∀ x, x ∈ intKeys D ↔ (f x).isSome = true) ∧ ∀ x ∈ intKeys D, (Lit.int .i64 x).wf = true := by
  obtain ⟨D, ho, hr⟩ := h
  have hwf := intKeys_wf ho Try.underlying3
  obtain ⟨es, hD, hp, _⟩ := ho.entries Try.keyInt
  obtain ⟨es', hD', hko⟩ := ho.keysOf
  obtain rfl : es = es' := by rw [hD] at hD'; simpa using hD'
  subst hD
  have hkey : ∀ p ∈ es, ∃ x, p.1 = .int .i64 x := fun p hp => by obtain ⟨v, hv⟩ := hko p hp; obtain ⟨x, _, hx, _⟩ := Maps.keyOf_i64 Try.underlying3 hv; exact ⟨x, hx⟩
  have hmem : ∀ x, x ∈ intKeys (.map es : DataW Unit) ↔ Maps.has (.map es : DataW Unit) (.int .i64 x) = true := by
    intro x
    rw [has_eq, List.any_eq_true]
    show x ∈ es.map (fun p => intOf p.1) ↔ _
    rw [List.mem_map]
    constructor
    · rintro ⟨p, hp', rfl⟩
      obtain ⟨a, ha⟩ := hkey p hp'
      exact ⟨p, hp', by rw [ha]; simp [Lit.sameKey, intOf]⟩
    · rintro ⟨p, hp', hs⟩
      obtain ⟨a, ha⟩ := hkey p hp'
      rw [ha] at hs
      exact ⟨p, hp', by rw [ha]; simpa [Lit.sameKey, intOf] using hs⟩
  refine ⟨_, ho, ho.size_le, ?_, fun x => (hmem x).trans (by rw [hr.2.1]), hwf⟩
  show (es.map fun p => intOf p.1).Nodup
  refine List.pairwise_map.2 (hp.imp_of_mem fun {p q} hp' hq' hne e => hne ?_)
  obtain ⟨a, ha⟩ := hkey p hp'
  obtain ⟨c, hc⟩ := hkey q hq'
  rw [ha, hc] at e ⊢
  exact congrArg _ e
end

/-- A clock: block c holds its time and its map, block b. -/
structure ClockAt (W : World) (c b n : Nat) (now : Int) (f : Int → Option Int) : Prop where
  box : W.heap[c]? = some (.cells #[.int .i64 now, .map (some b)] 87 (0, 0))
  tm : TM W b n f

section
variable {W W' : World} {c b n : Nat} {now : Int} {f : Int → Option Int}
theorem ClockAt.ne (h : ClockAt W c b n now f) : c ≠ b := by
  intro e
  obtain ⟨es, k, hb⟩ := h.tm.isMap
  rw [← e, h.box] at hb
  cases hb
theorem ClockAt.keep (h : ClockAt W c b n now f) {X : Nat → Prop} (ht : Touch X W W') (hc : ¬ X c) (hb : ¬ X b) : ClockAt W' c b n now f :=
  ⟨(ht.block c (lt_of_heap h.box) hc).trans h.box, h.tm.of_block (ht.block b h.tm.lt hb)⟩
theorem ClockAt.keepC (h : ClockAt W c b n now f) {X : Nat → Prop} {fb : Nat} (ht : KeepC X fb W W') (hc : ¬ X c) (hb : ¬ X b) (rc : ¬ rowOf fb W c) (rb : ¬ rowOf fb W b) : ClockAt W' c b n now f := by
  obtain ⟨es, k, hm⟩ := h.tm.isMap
  exact ⟨ht.2.2 c _ hc rc h.box (.inl rfl), h.tm.of_block ((ht.2.2 b _ hb rb hm (.inr rfl)).trans hm.symm)⟩
theorem ClockAt.mono (h : ClockAt W c b n now f) {n' : Nat} (hn : n ≤ n') : ClockAt W c b n' now f := ⟨h.box, h.tm.mono hn⟩
theorem ClockAt.setNow (h : ClockAt W c b n now f) (x : Int) : ClockAt (W.setCell ⟨c, 0, none⟩ (.int .i64 x)) c b n x f :=
  ⟨set2_0 _ h.box, h.tm.of_block (Below.heap_setCell W ⟨c, 0, none⟩ _ b (fun e => h.ne e.symm))⟩
end

end Go.Proofs.Ytgnckeidekppjaa
