/-
  Layer 17 (source): New.
-/
import Derived.Test.YtfeljjlpdefnmaaGreatSrcA
namespace Go.Proofs.YtfeljjlpdefnmaaGreat
open Go.RowKit
set_option linter.unusedVariables false
set_option linter.unusedSimpArgs false
attribute [local go_sem] Oper.semAt_some

def newRd (L : List (List UInt8)) (end_ k s a b c : Int) (N : Nat) : Rdr := ⟨newI k s a b c, ⟨L, false, end_, 0, false⟩, ⟨N, 0, []⟩, ⟨N, 0, 0, 0⟩, k == 3, false, false, []⟩
def newTag (z0 z1 z2 z3 z4 : Nat) (k : Nat) : Nat := if k < z0 then 0 else if k < z1 then 2 else if k < z2 then 1 else if k < z3 then 3 else if k < z4 then 4 else if k = z4 then 5 else 0
def NewRdP (w : World) (n0 : Nat) (x : Rdr) (e : Ending) (w' : World) : Prop :=
  ∃ p : RdrP, e = .returned (.tuple #[.pointer (some ⟨p.D, 0, none⟩), .int .i64 0]) ∧ RdrAt w' n0 p x ∧ (∀ t, p.tag t ≠ 0 → w.heap.size ≤ t) ∧ Below w.heap.size w w'
set_option maxHeartbeats 4000000 in
set_option maxRecDepth 100000 in
theorem RdNew_any (v : Value) (L : List (List UInt8)) (end_ k s a b c : Int) (N : Nat) (h0 : 0 ≤ end_) (h1 : end_ ≤ 2) (hL : L.length ≤ 1000000) (hp : ∀ p ∈ L, p.length ≤ 1000000) (hF : rightF k s = true) (hLm : rightL a b c = true) (hN1 : 1 ≤ N) (hN2 : N ≤ 65536)
    (n0 : Nat) (w : World) (hn : n0 ≤ w.heap.size) (hv : PcsIn w v L) :
    Calls Tryz.prog 7 #[.agg #[v, .int .i64 end_], .agg #[.int .i64 k, .int .u64 s], .agg #[.int .i64 a, .int .i64 b, .int .i64 c], .int .i64 N] w (NewRdP w n0 (newRd L end_ k s a b c N)) := by
  obtain ⟨W0, eW0, hz0, b0, b1, b2, t0⟩ : ∃ W, ((w.alloc (.cells #[v, .int .i64 end_] 38)).alloc (.cells #[.int .i64 k, .int .u64 s] 25)).alloc (.cells #[.int .i64 a, .int .i64 b, .int .i64 c] 27) = W ∧ W.heap.size = w.heap.size + 3 ∧
      W.heap[w.heap.size]? = some (.cells #[v, .int .i64 end_] 38) ∧ W.heap[w.heap.size + 1]? = some (.cells #[.int .i64 k, .int .u64 s] 25) ∧ W.heap[w.heap.size + 1 + 1]? = some (.cells #[.int .i64 a, .int .i64 b, .int .i64 c] 27) ∧ Below w.heap.size w W := by
    refine ⟨_, rfl, by simp, ?_, ?_, ?_, (((Below.refl _ w).alloc (Nat.le_refl _) _).alloc (by simp) _).alloc (by simp; omega) _⟩
    · rw [Below.heap_alloc _ _ _ (by simp; omega), Below.heap_alloc _ _ _ (by simp), World.alloc_heap_new]
    · rw [Below.heap_alloc _ _ _ (by simp), heap_alloc2_newL]
    · have h := World.alloc_heap_new ((w.alloc (.cells #[v, .int .i64 end_] 38)).alloc (.cells #[.int .i64 k, .int .u64 s] 25)) (.cells #[.int .i64 a, .int .i64 b, .int .i64 c] 27)
      simpa using h
  have hS := Lib.hid (WNew_any v L end_ h0 h1 hL hp W0 (hv.below t0))
  have hI := fun W => Lib.hid (INew_any k s a b c hF hLm W)
  unfold INewP at hI
  have hR := fun W => Lib.hid (RNew_any N hN1 hN2 W)
  have hC := fun W => Lib.hid (CNew_any (N : Int) (by omega) (by omega) W)
  obtain ⟨A, cp, rfl, -⟩ := hv
  have cells := fun (W : World) (hb : Below W0.heap.size W0 W) => Lib.hid (show (W.cell? ⟨w.heap.size + 1, 0, none⟩ = some (.int .i64 k) ∧ W.cell? ⟨w.heap.size + 1, 1, none⟩ = some (.int .u64 s)) ∧ W.cell? ⟨w.heap.size + 1 + 1, 0, none⟩ = some (.int .i64 a) ∧ W.cell? ⟨w.heap.size + 1 + 1, 1, none⟩ = some (.int .i64 b) ∧ W.cell? ⟨w.heap.size + 1 + 1, 2, none⟩ = some (.int .i64 c) from by
    have d1 := (hb.block (w.heap.size + 1) (by omega)).trans b1
    have d2 := (hb.block (w.heap.size + 1 + 1) (by omega)).trans b2
    refine ⟨⟨?_, ?_⟩, ?_, ?_, ?_⟩ <;> simp [World.cell?, d1, d2])
  have x0 : W0.cell? ⟨w.heap.size, 0, none⟩ = some (.slice A L.length cp) := by simp [World.cell?, b0]
  have x1 : W0.cell? ⟨w.heap.size, 1, none⟩ = some (.int .i64 end_) := by simp [World.cell?, b0]
  have HB0 := Lib.hid t0
  obtain ⟨i, hi⟩ : ∃ i, newI k s a b c = i := ⟨_, rfl⟩
  simp only [hi] at hI
  have Hi := Lib.hid hi
  have HN := Lib.hid hn
  obtain ⟨m, hm⟩ : ∃ m, L.length = m := ⟨_, rfl⟩
  have Hm := Lib.hid hm
  rw [hm] at hS x0 eW0 ⊢
  clear t0 b0 b1 b2 h0 h1 hL hp hF hLm hi hn hm
  go_enter Tryz.func7, Tryz.ntmps7
  go_wp2_with fail
  try rw [eW0]
  refine hS.out.mono ?_; rintro e w1 ⟨Sw, F, vp, rfl, hSrc, hFw, hb1⟩; dsimp only
  clear x0 x1
  obtain ⟨⟨x0, x1⟩, x2, x3, x4⟩ := (cells w1 hb1).out
  have HB1 := Lib.hid hb1
  have HSrc := Lib.hid hSrc
  have HFw := Lib.hid hFw
  clear hb1 hSrc hFw
  go_wp2_with fail
  refine (hI _).out.mono ?_; rintro e w2 ⟨I, S, G, rfl, hIt, hG, hIw, hb2⟩; dsimp only
  have HB2 := Lib.hid hb2
  have HIt := Lib.hid hIt
  have HG := Lib.hid hG
  have HIw := Lib.hid hIw
  clear hb2 hIt hG hIw x0 x1 x2 x3 x4
  go_wp2_with fail
  refine (hR _).out.mono ?_; rintro e w3 ⟨R, ra, rfl, hRg, hRw, haw, hb3⟩; dsimp only
  have HB3 := Lib.hid hb3
  have HRg := Lib.hid hRg
  have HRw := Lib.hid hRw
  have Haw := Lib.hid haw
  clear hb3 hRg hRw haw
  go_wp2_with fail
  refine (hC _).out.mono ?_; rintro e w4 ⟨C, rfl, hCr, hCw, hb4⟩; dsimp only
  have z1 := HB1.out.size
  have z2 := HB2.out.size
  have z3 := HB3.out.size
  have z4 := hb4.size
  have hb14 : Below W0.heap.size W0 w4 := (HB1.out.trans (HB2.out.mono z1)).trans ((HB3.out.mono (by omega)).trans (hb4.mono (by omega)))
  obtain ⟨⟨x0, x1⟩, x2, x3, x4⟩ := (cells w4 hb14).out
  have HB4 := Lib.hid hb4
  have HCr := Lib.hid hCr
  have HCw := Lib.hid hCw
  have HB14 := Lib.hid hb14
  clear hb4 hCr hCw hb14 z1 z2 z3 z4 hC hR hI hS cells x1 x2 x3 x4
  go_wp2_with fail
  go_ret2
  have z1 := HB1.out.size
  have z2 := HB2.out.size
  have z3 := HB3.out.size
  have z4 := HB4.out.size
  have hbx := World.alloc_heap_new w4 (.cells #[.pointer (some ⟨I, 0, none⟩), .pointer (some ⟨Sw, 0, none⟩), .pointer (some ⟨R, 0, none⟩), .pointer (some ⟨C, 0, none⟩), .bool (k == 3), .bool false, .bool false, .slice none 0 0] 49)
  have hb5 := (Below.refl w4.heap.size w4).alloc (Nat.le_refl _) (.cells #[.pointer (some ⟨I, 0, none⟩), .pointer (some ⟨Sw, 0, none⟩), .pointer (some ⟨R, 0, none⟩), .pointer (some ⟨C, 0, none⟩), .bool (k == 3), .bool false, .bool false, .slice none 0 0] 49)
  have z5 : (w4.alloc (.cells #[.pointer (some ⟨I, 0, none⟩), .pointer (some ⟨Sw, 0, none⟩), .pointer (some ⟨R, 0, none⟩), .pointer (some ⟨C, 0, none⟩), .bool (k == 3), .bool false, .bool false, .slice none 0 0] 49)).heap.size = w4.heap.size + 1 := by simp
  generalize w4.alloc (.cells #[.pointer (some ⟨I, 0, none⟩), .pointer (some ⟨Sw, 0, none⟩), .pointer (some ⟨R, 0, none⟩), .pointer (some ⟨C, 0, none⟩), .bool (k == 3), .bool false, .bool false, .slice none 0 0] 49) = w5 at hbx hb5 z5 ⊢
  have b45 : Below w3.heap.size w3 w5 := HB4.out.trans (hb5.mono z4)
  have b35 : Below w2.heap.size w2 w5 := HB3.out.trans (b45.mono z3)
  have b25 : Below w1.heap.size w1 w5 := HB2.out.trans (b35.mono z2)
  have hS5 := HSrc.out.below b25
  have hI5 := HIt.out.below b35
  have hR5 := HRg.out.below b45
  have hC5 := HCr.out.below hb5
  have hGl := HIt.out.tak.lt
  have hIl := HIt.out.lt
  have hFl := HSrc.out.lt
  have hRl := HRg.out.ltR
  have hal := HRg.out.ltA
  have hCl := HCr.out.lt
  have eT : ∀ {k : Nat}, newTag W0.heap.size w1.heap.size w2.heap.size w3.heap.size w4.heap.size k ≠ 0 → W0.heap.size ≤ k ∧ k < w4.heap.size + 1 := fun {k} h => by
    unfold newTag at h
    split at h
    · exact absurd rfl h
    · split at h
      · omega
      · split at h
        · omega
        · split at h
          · omega
          · split at h
            · omega
            · split at h
              · omega
              · exact absurd rfl h
  have hHN := HN.out
  refine ⟨⟨G, F, S, I, Sw, R, ra, C, w4.heap.size, vp, .slice none 0 0, newTag W0.heap.size w1.heap.size w2.heap.size w3.heap.size w4.heap.size⟩, rfl, ⟨hbx, ?_, ?_, hR5, hC5, World.ownsRow_nil _ _ _ _, ?_, ?_, ?_, ?_, ?_, ?_, ?_, ?_, ?_, ?_⟩, ?_, HB0.out.trans ((HB1.out.mono (by omega)).trans (b25.mono (by omega)))⟩
  · show ItkAt w5 G S I (newI k s a b c)
    rw [Hi.out]; exact hI5
  · exact hS5
  · intro j hj
    have h1 := HG.out j hj
    have h2 := hGl j hj
    show newTag _ _ _ _ _ j = 1
    unfold newTag
    rw [if_neg (by omega), if_neg (by omega), if_pos h2]
  · have h1 := HIw.out
    show newTag _ _ _ _ _ I = 1
    unfold newTag
    rw [if_neg (by omega), if_neg (by omega), if_pos hIl]
  · intro j hj
    have h1 := HFw.out j hj
    have h2 := hFl j hj
    show newTag _ _ _ _ _ j = 2
    unfold newTag
    rw [if_neg (by omega), if_pos h2]
  · have h1 := HRw.out
    show newTag _ _ _ _ _ R = 3
    unfold newTag
    rw [if_neg (by omega), if_neg (by omega), if_neg (by omega), if_pos hRl]
  · have h1 := Haw.out
    show newTag _ _ _ _ _ ra = 3
    unfold newTag
    rw [if_neg (by omega), if_neg (by omega), if_neg (by omega), if_pos hal]
  · have h1 := HCw.out
    show newTag _ _ _ _ _ C = 4
    unfold newTag
    rw [if_neg (by omega), if_neg (by omega), if_neg (by omega), if_neg (by omega), if_pos hCl]
  · show newTag _ _ _ _ _ w4.heap.size = 5
    unfold newTag
    rw [if_neg (by omega), if_neg (by omega), if_neg (by omega), if_neg (by omega), if_neg (by omega), if_pos rfl]
  · intro j hj; cases hj
  · intro j hj
    have := (eT hj).1
    omega
  · intro j hj
    have := (eT hj).2
    omega
  · intro j hj
    have := (eT hj).1
    omega

end Go.Proofs.YtfeljjlpdefnmaaGreat
