/-
  Layer 17 (source): a reader in memory.
-/
import Derived.Test.YtfeljjlpdefnmaaGreatRinD
import Derived.Test.YtfeljjlpdefnmaaGreatWirN
import Derived.Test.YtfeljjlpdefnmaaGreatWirR
import Derived.Test.YtfeljjlpdefnmaaGreatCre2
import Derived.Test.YtfeljjlpdefnmaaGreatIcc
import Derived.Test.YtfeljjlpdefnmaaGreatInw
import Derived.Test.YtfeljjlpdefnmaaGreatIpu
namespace Go.Proofs.YtfeljjlpdefnmaaGreat
open Go.RowKit
set_option linter.unusedVariables false
set_option linter.unusedSimpArgs false
attribute [local go_sem] Oper.semAt_some

structure Rdr where
  i : Itk
  s : Src
  r : Rg
  c : Cred
  plain : Bool
  cut : Bool
  shut : Bool
  rest : List UInt8
/-- Where a reader lies; whose each block is: 1 the intake's, 2 the source's, 3 the ring's, 4 the credit's, 5 the reader's own, 6 the rest's. -/
structure RdrP where
  G : Nat → Prop
  F : Nat → Prop
  S : Nat
  I : Nat
  Sw : Nat
  R : Nat
  a : Nat
  C : Nat
  D : Nat
  vp : Value
  vr : Value
  tag : Nat → Nat
structure RdrAt (W : World) (n0 : Nat) (p : RdrP) (x : Rdr) : Prop where
  box : W.heap[p.D]? = some (.cells #[.pointer (some ⟨p.I, 0, none⟩), .pointer (some ⟨p.Sw, 0, none⟩), .pointer (some ⟨p.R, 0, none⟩), .pointer (some ⟨p.C, 0, none⟩), .bool x.plain, .bool x.cut, .bool x.shut, p.vr] 49 (0, 0))
  it : ItkAt W p.G p.S p.I x.i
  src : SrcAt W p.F p.Sw p.vp x.s
  ring : RgAt W p.R p.a x.r
  cred : CredAt W p.C x.c
  own : W.ownsRow n0 5 1 p.vr x.rest.length (x.rest.map encU)
  tG : ∀ k, p.G k → p.tag k = 1
  tI : p.tag p.I = 1
  tF : ∀ k, p.F k → p.tag k = 2
  tR : p.tag p.R = 3
  ta : p.tag p.a = 3
  tC : p.tag p.C = 4
  tD : p.tag p.D = 5
  tv : ∀ k, p.vr.ownBlock = some k → p.tag k = 6
  lo : ∀ k, p.tag k ≠ 0 → n0 ≤ k
  hi : ∀ k, p.tag k ≠ 0 → k < W.heap.size

section
variable {W W1 : World} {n0 : Nat} {p : RdrP} {x : Rdr} {X : Nat → Prop}
theorem tagNe {t : Nat} (hX : ∀ k, X k → p.tag k = t) {k u : Nat} (hk : p.tag k = u) (hu : u ≠ t) : ¬ X k := fun h => hu (hk.symm.trans (hX k h))
theorem RdrAt.touch (h : RdrAt W n0 p x) (t : Touch X W W1) (hX : ∀ k, X k → p.tag k = 0) : RdrAt W1 n0 p x where
  box := (t.block p.D (lt_of_heap h.box) (tagNe hX h.tD (by decide))).trans h.box
  it := h.it.touch t (fun j hj => tagNe hX (h.tG j hj) (by decide)) (tagNe hX h.tI (by decide))
  src := h.src.touch t (fun j hj => tagNe hX (h.tF j hj) (by decide))
  ring := h.ring.touch t (tagNe hX h.tR (by decide)) (tagNe hX h.ta (by decide))
  cred := h.cred.touch t (tagNe hX h.tC (by decide))
  own := own_touchL h.own t (fun j hj => tagNe hX (h.tv j hj) (by decide))
  tG := h.tG
  tI := h.tI
  tF := h.tF
  tR := h.tR
  ta := h.ta
  tC := h.tC
  tD := h.tD
  tv := h.tv
  lo := h.lo
  hi := fun k hk => Nat.lt_of_lt_of_le (h.hi k hk) t.size
theorem RdrAt.below (h : RdrAt W n0 p x) (hb : Below W.heap.size W W1) : RdrAt W1 n0 p x := h.touch (Touch.of_new (X := fun _ => False) hb) (fun _ h => h.elim)
theorem RdrAt.cred' (h : RdrAt W n0 p x) (t : Touch (· = p.C) W W1) (c' : Cred) (hc : CredAt W1 p.C c') : RdrAt W1 n0 p { x with c := c' } :=
  have hX : ∀ k, (fun k => k = p.C) k → p.tag k = 4 := fun k hk => by rw [show k = p.C from hk]; exact h.tC
  { box := (t.block p.D (lt_of_heap h.box) (tagNe hX h.tD (by decide))).trans h.box
    it := h.it.touch t (fun j hj => tagNe hX (h.tG j hj) (by decide)) (tagNe hX h.tI (by decide))
    src := h.src.touch t (fun j hj => tagNe hX (h.tF j hj) (by decide))
    ring := h.ring.touch t (tagNe hX h.tR (by decide)) (tagNe hX h.ta (by decide))
    cred := hc
    own := own_touchL h.own t (fun j hj => tagNe hX (h.tv j hj) (by decide))
    tG := h.tG, tI := h.tI, tF := h.tF, tR := h.tR, ta := h.ta, tC := h.tC, tD := h.tD, tv := h.tv, lo := h.lo, hi := fun k hk => Nat.lt_of_lt_of_le (h.hi k hk) t.size }
theorem RdrAt.src' (h : RdrAt W n0 p x) (t : Touch p.F W W1) (vp' : Value) (s' : Src) (hs : SrcAt W1 p.F p.Sw vp' s') : RdrAt W1 n0 { p with vp := vp' } { x with s := s' } :=
  { box := (t.block p.D (lt_of_heap h.box) (tagNe h.tF h.tD (by decide))).trans h.box
    it := h.it.touch t (fun j hj => tagNe h.tF (h.tG j hj) (by decide)) (tagNe h.tF h.tI (by decide))
    src := hs
    ring := h.ring.touch t (tagNe h.tF h.tR (by decide)) (tagNe h.tF h.ta (by decide))
    cred := h.cred.touch t (tagNe h.tF h.tC (by decide))
    own := own_touchL h.own t (fun j hj => tagNe h.tF (h.tv j hj) (by decide))
    tG := h.tG, tI := h.tI, tF := h.tF, tR := h.tR, ta := h.ta, tC := h.tC, tD := h.tD, tv := h.tv, lo := h.lo, hi := fun k hk => Nat.lt_of_lt_of_le (h.hi k hk) t.size }
theorem RdrAt.ring' (h : RdrAt W n0 p x) (t : Touch (fun b => b = p.R ∨ b = p.a) W W1) (r' : Rg) (hr : RgAt W1 p.R p.a r') : RdrAt W1 n0 p { x with r := r' } :=
  have hX : ∀ k, (fun b => b = p.R ∨ b = p.a) k → p.tag k = 3 := fun k hk => by
    rcases hk with hk | hk
    · rw [hk]; exact h.tR
    · rw [hk]; exact h.ta
  { box := (t.block p.D (lt_of_heap h.box) (tagNe hX h.tD (by decide))).trans h.box
    it := h.it.touch t (fun j hj => tagNe hX (h.tG j hj) (by decide)) (tagNe hX h.tI (by decide))
    src := h.src.touch t (fun j hj => tagNe hX (h.tF j hj) (by decide))
    ring := hr
    cred := h.cred.touch t (tagNe hX h.tC (by decide))
    own := own_touchL h.own t (fun j hj => tagNe hX (h.tv j hj) (by decide))
    tG := h.tG, tI := h.tI, tF := h.tF, tR := h.tR, ta := h.ta, tC := h.tC, tD := h.tD, tv := h.tv, lo := h.lo, hi := fun k hk => Nat.lt_of_lt_of_le (h.hi k hk) t.size }
theorem RdrAt.it0 (h : RdrAt W n0 p x) (t : Touch (fun j => p.G j ∨ j = p.I) W W1) (i' : Itk) (hi : ItkAt W1 p.G p.S p.I i') : RdrAt W1 n0 p { x with i := i' } :=
  have hX : ∀ k, (fun j => p.G j ∨ j = p.I) k → p.tag k = 1 := fun k hk => by
    rcases hk with hk | hk
    · exact h.tG k hk
    · rw [hk]; exact h.tI
  { box := (t.block p.D (lt_of_heap h.box) (tagNe hX h.tD (by decide))).trans h.box
    it := hi
    src := h.src.touch t (fun j hj => tagNe hX (h.tF j hj) (by decide))
    ring := h.ring.touch t (tagNe hX h.tR (by decide)) (tagNe hX h.ta (by decide))
    cred := h.cred.touch t (tagNe hX h.tC (by decide))
    own := own_touchL h.own t (fun j hj => tagNe hX (h.tv j hj) (by decide))
    tG := h.tG, tI := h.tI, tF := h.tF, tR := h.tR, ta := h.ta, tC := h.tC, tD := h.tD, tv := h.tv, lo := h.lo, hi := fun k hk => Nat.lt_of_lt_of_le (h.hi k hk) t.size }
/-- The blocks that were made since are the owner t's. -/
def tagNew (tag : Nat → Nat) (a b t : Nat) : Nat → Nat := fun k => if k < a then tag k else if k < b then t else 0
theorem tagNew_old {tag : Nat → Nat} {a b t k : Nat} (h : k < a) : tagNew tag a b t k = tag k := if_pos h
theorem tagNew_new {tag : Nat → Nat} {a b t k : Nat} (h : a ≤ k) (hb : k < b) : tagNew tag a b t k = t := by unfold tagNew; rw [if_neg (by omega), if_pos hb]
theorem tagNew_keep {tag : Nat → Nat} {a b t k u : Nat} (h : tag k = u) (hu : u ≠ 0) (hlt : ∀ k, tag k ≠ 0 → k < a) : tagNew tag a b t k = u := by rw [tagNew_old (hlt k (by omega)), h]
theorem tagNew_lo {tag : Nat → Nat} {a b t k n0 : Nat} (h : tagNew tag a b t k ≠ 0) (hlo : ∀ k, tag k ≠ 0 → n0 ≤ k) (ha : n0 ≤ a) : n0 ≤ k := by
  unfold tagNew at h
  split at h
  · exact hlo k h
  · omega
theorem tagNew_hi {tag : Nat → Nat} {a b t k : Nat} (h : tagNew tag a b t k ≠ 0) (hab : a ≤ b) : k < b := by
  unfold tagNew at h
  split at h
  · omega
  · split at h
    · assumption
    · exact absurd rfl h
theorem RdrAt.it' (h : RdrAt W n0 p x) (hn : n0 ≤ W.heap.size) (t : Touch (fun j => p.G j ∨ j = p.I) W W1) (G' : Nat → Prop) (i' : Itk) (hi : ItkAt W1 G' p.S p.I i') (hG : ∀ j, G' j → p.G j ∨ W.heap.size ≤ j) :
    RdrAt W1 n0 { p with G := G', tag := tagNew p.tag W.heap.size W1.heap.size 1 } { x with i := i' } :=
  have h0 := h.it0 (W1 := W1) t x.i
  have hX : ∀ k, (fun j => p.G j ∨ j = p.I) k → p.tag k = 1 := fun k hk => by
    rcases hk with hk | hk
    · exact h.tG k hk
    · rw [hk]; exact h.tI
  { box := (t.block p.D (lt_of_heap h.box) (tagNe hX h.tD (by decide))).trans h.box
    it := hi
    src := h.src.touch t (fun j hj => tagNe hX (h.tF j hj) (by decide))
    ring := h.ring.touch t (tagNe hX h.tR (by decide)) (tagNe hX h.ta (by decide))
    cred := h.cred.touch t (tagNe hX h.tC (by decide))
    own := own_touchL h.own t (fun j hj => tagNe hX (h.tv j hj) (by decide))
    tG := fun k hk => by
      rcases hG k hk with h1 | h1
      · exact tagNew_keep (h.tG k h1) (by decide) h.hi
      · exact tagNew_new h1 (hi.tak.lt k hk)
    tI := tagNew_keep h.tI (by decide) h.hi
    tF := fun k hk => tagNew_keep (h.tF k hk) (by decide) h.hi
    tR := tagNew_keep h.tR (by decide) h.hi
    ta := tagNew_keep h.ta (by decide) h.hi
    tC := tagNew_keep h.tC (by decide) h.hi
    tD := tagNew_keep h.tD (by decide) h.hi
    tv := fun k hk => tagNew_keep (h.tv k hk) (by decide) h.hi
    lo := fun k hk => tagNew_lo hk h.lo hn
    hi := fun k hk => tagNew_hi hk t.size }
/-- The reader's own cells. -/
theorem RdrAt.c0 (h : RdrAt W n0 p x) : W.cell? ⟨p.D, 0, none⟩ = some (.pointer (some ⟨p.I, 0, none⟩)) := by simp [World.cell?, h.box]
theorem RdrAt.c1 (h : RdrAt W n0 p x) : W.cell? ⟨p.D, 1, none⟩ = some (.pointer (some ⟨p.Sw, 0, none⟩)) := by simp [World.cell?, h.box]
theorem RdrAt.c2 (h : RdrAt W n0 p x) : W.cell? ⟨p.D, 2, none⟩ = some (.pointer (some ⟨p.R, 0, none⟩)) := by simp [World.cell?, h.box]
theorem RdrAt.c3 (h : RdrAt W n0 p x) : W.cell? ⟨p.D, 3, none⟩ = some (.pointer (some ⟨p.C, 0, none⟩)) := by simp [World.cell?, h.box]
theorem RdrAt.c4 (h : RdrAt W n0 p x) : W.cell? ⟨p.D, 4, none⟩ = some (.bool x.plain) := by simp [World.cell?, h.box]
theorem RdrAt.c5 (h : RdrAt W n0 p x) : W.cell? ⟨p.D, 5, none⟩ = some (.bool x.cut) := by simp [World.cell?, h.box]
theorem RdrAt.c6 (h : RdrAt W n0 p x) : W.cell? ⟨p.D, 6, none⟩ = some (.bool x.shut) := by simp [World.cell?, h.box]
theorem RdrAt.c7 (h : RdrAt W n0 p x) : W.cell? ⟨p.D, 7, none⟩ = some p.vr := by simp [World.cell?, h.box]
theorem RdrAt.f (h : RdrAt W n0 p x) (j : Nat) : W.frozen? ⟨p.D, j, none⟩ = false := by simp [World.frozen?, h.box]
theorem RdrAt.setCut (h : RdrAt W n0 p x) (b : Bool) : RdrAt (W.setCell ⟨p.D, 5, none⟩ (.bool b)) n0 p { x with cut := b } :=
  have t : Touch (· = p.D) W (W.setCell ⟨p.D, 5, none⟩ (.bool b)) := (Touch.refl (· = p.D) W).setCell (p := ⟨p.D, 5, none⟩) (.inl rfl) _
  have hX : ∀ k, (fun k => k = p.D) k → p.tag k = 5 := fun k hk => by rw [show k = p.D from hk]; exact h.tD
  { box := by simpa using setBoxR (j := 5) (.bool b) h.box
    it := h.it.touch t (fun j hj => tagNe hX (h.tG j hj) (by decide)) (tagNe hX h.tI (by decide))
    src := h.src.touch t (fun j hj => tagNe hX (h.tF j hj) (by decide))
    ring := h.ring.touch t (tagNe hX h.tR (by decide)) (tagNe hX h.ta (by decide))
    cred := h.cred.touch t (tagNe hX h.tC (by decide))
    own := own_touchL h.own t (fun j hj => tagNe hX (h.tv j hj) (by decide))
    tG := h.tG, tI := h.tI, tF := h.tF, tR := h.tR, ta := h.ta, tC := h.tC, tD := h.tD, tv := h.tv, lo := h.lo, hi := fun k hk => Nat.lt_of_lt_of_le (h.hi k hk) t.size }
/-- More of the rest: W1 is the world behind the append, then the store. -/
theorem RdrAt.setRest (h : RdrAt W n0 p x) (hn : n0 ≤ W.heap.size) (hg : W.grownBy W1 p.vr.ownBlock) (A : Option Addr) (cap : Nat) (l : List UInt8) (ho : W1.ownsRow n0 5 1 (.slice A l.length cap) l.length (l.map encU))
    (hat : ∀ k, Value.ownBlock (.slice A l.length cap) = some k → p.vr.ownBlock = some k ∨ W.heap.size ≤ k) :
    RdrAt (W1.setCell ⟨p.D, 7, none⟩ (.slice A l.length cap)) n0 { p with vr := .slice A l.length cap, tag := tagNew p.tag W.heap.size W1.heap.size 6 } { x with rest := l } := by
  have hvD : p.vr.ownBlock ≠ some p.D := fun e => by have := h.tv p.D e; rw [h.tD] at this; cases this
  have hb1 : W1.heap[p.D]? = _ := (hg.block p.D (lt_of_heap h.box) (fun e => hvD e.symm)).trans h.box
  have t : Touch (fun k => p.vr.ownBlock = some k ∨ k = p.D) W (W1.setCell ⟨p.D, 7, none⟩ (.slice A l.length cap)) :=
    (show Touch (fun k => p.vr.ownBlock = some k ∨ k = p.D) W W1 from ⟨hg.os, hg.tape, hg.output, hg.size, fun k hk hx => hg.block k hk (fun e => hx (.inl e.symm))⟩).setCell (p := ⟨p.D, 7, none⟩) (.inl (.inr rfl)) _
  have hX : ∀ k, (fun k => p.vr.ownBlock = some k ∨ k = p.D) k → p.tag k = 5 ∨ p.tag k = 6 := fun k hk => by
    rcases hk with hk | hk
    · exact .inr (h.tv k hk)
    · exact .inl (by rw [hk]; exact h.tD)
  have hne : ∀ {k u : Nat}, p.tag k = u → u ≠ 5 → u ≠ 6 → ¬ (fun k => p.vr.ownBlock = some k ∨ k = p.D) k := fun hk h5 h6 hx => by
    rcases hX _ hx with h1 | h1 <;> omega
  have tS : Touch (· = p.D) W1 (W1.setCell ⟨p.D, 7, none⟩ (.slice A l.length cap)) := (Touch.refl (· = p.D) W1).setCell (p := ⟨p.D, 7, none⟩) (.inl rfl) _
  exact { box := by simpa using setBoxR (j := 7) (.slice A l.length cap) hb1
          it := h.it.touch t (fun j hj => hne (h.tG j hj) (by decide) (by decide)) (hne h.tI (by decide) (by decide))
          src := h.src.touch t (fun j hj => hne (h.tF j hj) (by decide) (by decide))
          ring := h.ring.touch t (hne h.tR (by decide) (by decide)) (hne h.ta (by decide) (by decide))
          cred := h.cred.touch t (hne h.tC (by decide) (by decide))
          own := own_touchL ho tS (fun k hk e => own_box ho hb1 (by decide) (by rw [hk, e]))
          tG := fun k hk => tagNew_keep (h.tG k hk) (by decide) h.hi
          tI := tagNew_keep h.tI (by decide) h.hi
          tF := fun k hk => tagNew_keep (h.tF k hk) (by decide) h.hi
          tR := tagNew_keep h.tR (by decide) h.hi
          ta := tagNew_keep h.ta (by decide) h.hi
          tC := tagNew_keep h.tC (by decide) h.hi
          tD := tagNew_keep h.tD (by decide) h.hi
          tv := fun k hk => by
            rcases hat k hk with h1 | h1
            · exact tagNew_keep (h.tv k h1) (by decide) h.hi
            · exact tagNew_new h1 (own_lt ho hk)
          lo := fun k hk => tagNew_lo hk h.lo hn
          hi := fun k hk => Nat.lt_of_lt_of_le (tagNew_hi hk hg.size) tS.size }
end

end Go.Proofs.YtfeljjlpdefnmaaGreat
