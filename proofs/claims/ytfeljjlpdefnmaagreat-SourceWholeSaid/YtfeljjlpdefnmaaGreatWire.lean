/-
  Layer 16 (wire): a source in memory.
-/
import Derived.Test.YtfeljjlpdefnmaaGreatTak
import Derived.Deep.RegionHeld3
namespace Go.Proofs.YtfeljjlpdefnmaaGreat
open Go.RowKit
set_option linter.unusedVariables false
set_option linter.unusedSimpArgs false
attribute [local go_sem] Oper.semAt_some

structure Src where
  pcs : List (List UInt8)
  begun : Bool
  end_ : Int
  reads : Int
  shut : Bool
/-- A piece: a slice that reads as these bytes, in the blocks F, but for S and g. -/
def PcAt (W : World) (F : Nat → Prop) (S g : Nat) (v : Value) (l : List UInt8) : Prop :=
  ∃ A c, v = .slice A l.length c ∧ l.length ≤ c ∧ c ≤ maxLen ∧ (l ≠ [] → ∃ b off, A = some ⟨b, off, none⟩ ∧ F b ∧ b ≠ S ∧ b ≠ g ∧ ∀ i, i < l.length → W.cell? ⟨b, off + i, none⟩ = some (encU (l[i]?.getD 0)))
/-- The pieces. -/
def PcsAt (W : World) (F : Nat → Prop) (S : Nat) (v : Value) (L : List (List UInt8)) : Prop :=
  ∃ A c, v = .slice A L.length c ∧ L.length ≤ c ∧ c ≤ maxLen ∧ (L ≠ [] → ∃ g o cur, A = some ⟨g, o, none⟩ ∧ F g ∧ g ≠ S ∧ W.heap[g]? = some (.cells cur 39 (0, 0)) ∧
    ∀ j, j < L.length → ∃ u, cur[o + j]? = some u ∧ PcAt W F S g u (L[j]?.getD []))
structure SrcAt (W : World) (F : Nat → Prop) (S : Nat) (vp : Value) (s : Src) : Prop where
  box : W.heap[S]? = some (.cells #[vp, .bool s.begun, .int .i64 s.end_, .int .i64 s.reads, .bool s.shut] 78 (0, 0))
  hS : F S
  pc : PcsAt W F S vp s.pcs
  lt : ∀ k, F k → k < W.heap.size

section
variable {W W1 : World} {F : Nat → Prop} {S g : Nat} {vp v : Value} {s : Src} {l : List UInt8} {L : List (List UInt8)}
theorem PcAt.same (h : PcAt W F S g v l) (hk : ∀ b, F b → b ≠ S → b ≠ g → W1.heap[b]? = W.heap[b]?) : PcAt W1 F S g v l := by
  obtain ⟨A, c, rfl, h1, h2, h3⟩ := h
  refine ⟨A, c, rfl, h1, h2, fun hne => ?_⟩
  obtain ⟨b, off, e, hF, hs, hg, hc⟩ := h3 hne
  exact ⟨b, off, e, hF, hs, hg, fun i hi => (World.cell?_of_block (a := ⟨b, off + i, none⟩) (hk b hF hs hg)).trans (hc i hi)⟩
theorem PcAt.drop {b off n c : Nat} (h : PcAt W F S g (.slice (some ⟨b, off, none⟩) n c) l) (k : Nat) (hk : k ≤ l.length) (A2 : Option Addr) (hA2 : A2 = some (⟨b, off + k, none⟩ : Addr) ∨ k = l.length) : PcAt W F S g (.slice A2 (n - k) (c - k)) (l.drop k) := by
  obtain ⟨A, c', he, h1, h2, h3⟩ := h
  cases he
  refine ⟨A2, c - k, by rw [List.length_drop], by rw [List.length_drop]; omega, by omega, fun hne => ?_⟩
  have hl : 0 < (l.drop k).length := List.length_pos_iff.2 hne
  rw [List.length_drop] at hl
  obtain ⟨b', off', e, hF, hs, hg, hc⟩ := h3 (by rintro rfl; simp at hl)
  cases e
  refine ⟨b, off + k, hA2.resolve_right (by omega), hF, hs, hg, fun i hi => ?_⟩
  rw [List.length_drop] at hi
  rw [Nat.add_assoc, hc (k + i) (by omega), List.getElem?_drop]
theorem PcAt.rd (h : PcAt W F S g v l) (hlt : ∀ k, F k → k < W.heap.size) : ∃ A c, v = .slice A l.length c ∧ l.length ≤ c ∧ c ≤ maxLen ∧ RdB W W.heap.size A l := by
  obtain ⟨A, c, rfl, h1, h2, h3⟩ := h
  exact ⟨A, c, rfl, h1, h2, fun hne => by
    obtain ⟨b, off, e, hF, hs, hg, hc⟩ := h3 hne
    exact ⟨b, off, e, hlt b hF, hc⟩⟩
theorem PcsAt.same (h : PcsAt W F S v L) (hk : ∀ b, F b → b ≠ S → W1.heap[b]? = W.heap[b]?) : PcsAt W1 F S v L := by
  obtain ⟨A, c, rfl, h1, h2, h3⟩ := h
  refine ⟨A, c, rfl, h1, h2, fun hne => ?_⟩
  obtain ⟨g, o, cur, e, hF, hs, hb, hj⟩ := h3 hne
  refine ⟨g, o, cur, e, hF, hs, (hk g hF hs).trans hb, fun j hjl => ?_⟩
  obtain ⟨u, hu, hp⟩ := hj j hjl
  exact ⟨u, hu, hp.same (fun b hb hs _ => hk b hb hs)⟩
theorem SrcAt.touch {X : Nat → Prop} (h : SrcAt W F S vp s) (k : Touch X W W1) (hX : ∀ b, F b → ¬ X b) : SrcAt W1 F S vp s :=
  ⟨(k.block S (h.lt S h.hS) (hX S h.hS)).trans h.box, h.hS, h.pc.same (fun b hb _ => k.block b (h.lt b hb) (hX b hb)), fun b hb => Nat.lt_of_lt_of_le (h.lt b hb) k.size⟩
theorem SrcAt.below (h : SrcAt W F S vp s) (hb : Below W.heap.size W W1) : SrcAt W1 F S vp s := h.touch (Touch.of_new (X := fun _ => False) hb) (fun _ _ h => h)
theorem SrcAt.c0 (h : SrcAt W F S vp s) : W.cell? ⟨S, 0, none⟩ = some vp := by simp [World.cell?, h.box]
theorem SrcAt.c1 (h : SrcAt W F S vp s) : W.cell? ⟨S, 1, none⟩ = some (.bool s.begun) := by simp [World.cell?, h.box]
theorem SrcAt.c2 (h : SrcAt W F S vp s) : W.cell? ⟨S, 2, none⟩ = some (.int .i64 s.end_) := by simp [World.cell?, h.box]
theorem SrcAt.c3 (h : SrcAt W F S vp s) : W.cell? ⟨S, 3, none⟩ = some (.int .i64 s.reads) := by simp [World.cell?, h.box]
theorem SrcAt.c4 (h : SrcAt W F S vp s) : W.cell? ⟨S, 4, none⟩ = some (.bool s.shut) := by simp [World.cell?, h.box]
theorem SrcAt.f (h : SrcAt W F S vp s) (j : Nat) : W.frozen? ⟨S, j, none⟩ = false := by simp [World.frozen?, h.box]
theorem SrcAt.set (h : SrcAt W F S vp s) (j : Nat) (u vp' : Value) (s' : Src)
    (hb : (#[vp, .bool s.begun, .int .i64 s.end_, .int .i64 s.reads, .bool s.shut] : Array Value).setIfInBounds j u = #[vp', .bool s'.begun, .int .i64 s'.end_, .int .i64 s'.reads, .bool s'.shut]) (hp : PcsAt W F S vp' s'.pcs) :
    SrcAt (W.setCell ⟨S, j, none⟩ u) F S vp' s' := by
  have t : Touch (fun k => k = S) W (W.setCell ⟨S, j, none⟩ u) := (Touch.refl (fun k => k = S) W).setCell (p := ⟨S, j, none⟩) (.inl rfl) u
  exact ⟨by rw [← hb]; exact setBoxR u h.box, h.hS, hp.same (fun b hb hs => t.block b (h.lt b hb) hs), fun b hb => Nat.lt_of_lt_of_le (h.lt b hb) t.size⟩
/-- The first piece; and what is behind it. -/
theorem PcsAt.first (h : PcsAt W F S v L) (hL : L ≠ []) : ∃ g o c u cur, v = .slice (some ⟨g, o, none⟩) L.length c ∧ L.length ≤ c ∧ c ≤ maxLen ∧ F g ∧ g ≠ S ∧ W.heap[g]? = some (.cells cur 39 (0, 0)) ∧ W.cell? ⟨g, o, none⟩ = some u ∧ PcAt W F S g u (L[0]?.getD []) ∧
    (∀ A2, A2 = some (⟨g, o + 1, none⟩ : Addr) ∨ c = 1 → PcsAt W F S (.slice A2 (L.length - 1) (c - 1)) (L.drop 1)) ∧
    (∀ (u' : Value) (l' : List UInt8) (W1 : World), W1.heap[g]? = some (.cells (cur.setIfInBounds o u') 39 (0, 0)) → (∀ b, F b → b ≠ S → b ≠ g → W1.heap[b]? = W.heap[b]?) → PcAt W F S g u' l' → PcsAt W1 F S v (l' :: L.drop 1)) := by
  obtain ⟨A, c, rfl, h1, h2, h3⟩ := h
  obtain ⟨g, o, cur, rfl, hF, hs, hb, hj⟩ := h3 hL
  have hl : 0 < L.length := List.length_pos_iff.2 hL
  obtain ⟨u, hu, hp⟩ := hj 0 hl
  refine ⟨g, o, c, u, cur, rfl, h1, h2, hF, hs, hb, by simp only [World.cell?, hb]; simpa using hu, hp, fun A2 hA2 => ?_, fun u' l' W1 hg hk hp' => ?_⟩
  · refine ⟨A2, c - 1, by rw [List.length_drop], by rw [List.length_drop]; omega, by omega, fun hne => ?_⟩
    have hl2 : 0 < (L.drop 1).length := List.length_pos_iff.2 hne
    rw [List.length_drop] at hl2
    rcases hA2 with rfl | hc
    · refine ⟨g, o + 1, cur, rfl, hF, hs, hb, fun j hjl => ?_⟩
      rw [List.length_drop] at hjl
      obtain ⟨u, hu, hp⟩ := hj (j + 1) (by omega)
      refine ⟨u, by rw [show o + 1 + j = o + (j + 1) by omega]; exact hu, ?_⟩
      rw [List.getElem?_drop, Nat.add_comm 1 j]
      exact hp
    · omega
  · have hlen : (l' :: L.drop 1).length = L.length := by rw [List.length_cons, List.length_drop]; omega
    refine ⟨some ⟨g, o, none⟩, c, by rw [hlen], by rw [hlen]; exact h1, h2, fun _ => ⟨g, o, _, rfl, hF, hs, hg, fun j hjl => ?_⟩⟩
    rw [hlen] at hjl
    have hol : o < cur.size := by
      have := (Array.getElem?_eq_some_iff.1 hu).1; omega
    cases j with
    | zero => exact ⟨u', by simp [Array.getElem?_setIfInBounds, hol], by simpa using hp'.same hk⟩
    | succ j =>
      obtain ⟨u2, hu2, hp2⟩ := hj (j + 1) (by omega)
      refine ⟨u2, by rw [Array.getElem?_setIfInBounds, if_neg (by omega)]; exact hu2, ?_⟩
      rw [List.getElem?_cons_succ, List.getElem?_drop, Nat.add_comm 1 j]
      exact hp2.same hk
end

/-- What a Read comes to: what is handed out, the error, the source then. -/
def readP (s : Src) (n : Nat) (end_ : Int) (reads : Int) (shut : Bool) : Bool → List (List UInt8) → List UInt8 × Int × Src
  | b, [] => ([], if end_ = 1 then 7 else if end_ = 2 then 9 else 0, ⟨[], b, end_, reads, shut⟩)
  | b, [] :: L => if b = true then readP s n end_ reads shut false L else ([], 0, ⟨L, false, end_, reads, shut⟩)
  | _, (c :: p) :: L => ((c :: p).take n, 0, ⟨(c :: p).drop n :: L, true, end_, reads + ((c :: p).take n).length, shut⟩)
def Src.read (s : Src) (n : Nat) : List UInt8 × Int × Src := if s.shut = true then ([], 8, s) else readP s n s.end_ s.reads s.shut s.begun s.pcs

end Go.Proofs.YtfeljjlpdefnmaaGreat
