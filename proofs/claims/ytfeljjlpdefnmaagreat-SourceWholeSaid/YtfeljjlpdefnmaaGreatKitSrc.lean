/-
  The rows of layer 17: the argument that is a case, opened.
-/
import Derived.Test.YtfeljjlpdefnmaaGreatKitItk
import Derived.Test.YtfeljjlpdefnmaaGreatSrcW
namespace Go.Proofs.YtfeljjlpdefnmaaGreat
open Go.ChangeShapes Go.WideShapes Go.ChangeAt Go.RowKit Go.ChangeMaps
set_option linter.unusedVariables false
set_option linter.unusedSimpArgs false

section
variable {H : Type} {enc : TypeId × Value → H} {P : Program} {W : World} {base : Nat} {sp : Nat → Bool} {held : Bool}
def Weighs (P : Program) (t : TypeId) (d : DataW H) : Prop := ∀ x ∈ d.weights P t, x ≤ reachBytes
theorem weighs_all {e : TypeId} {D : Nat → DataW H} : ∀ {l : List Nat}, (∀ x ∈ DataW.weightsAll P e (l.map D), x ≤ reachBytes) → ∀ i ∈ l, Weighs P e (D i)
  | [], _, i, hi => by cases hi
  | a :: l, h, i, hi => by
    simp only [List.map_cons, DataW.weightsAll, List.mem_append] at h
    rcases List.mem_cons.1 hi with rfl | hi
    · exact fun x hx => h x (.inl hx)
    · exact weighs_all (fun x hx => h x (.inr hx)) i hi
theorem weigh_slice {t e : TypeId} {D E : Nat → DataW H} {len m : Nat} (ht : P.underlying t = some (.slice e)) (hB : 0 < P.bytesOf e) (hw : Weighs P t (.slice ((List.range len).map D) ((List.range m).map E))) :
    len ≤ 1000000000000000 ∧ ∀ i, i < len → Weighs P e (D i) := by
  unfold Weighs at hw
  simp only [DataW.weights, ht, List.mem_cons, List.mem_append, List.length_map, List.length_range] at hw
  have h1 := hw _ (.inl rfl)
  have h2 : len * 1 ≤ (len + m) * P.bytesOf e := Nat.mul_le_mul (by omega) hB
  have hr : reachBytes ≤ 1000000000000000 := by decide
  exact ⟨by omega, fun i hi => weighs_all (P := P) (e := e) (D := D) (l := List.range len) (fun x hx => hw x (.inr (.inl hx))) i (List.mem_range.2 hi)⟩
theorem addr_at {a : Addr} {v : Value} (h : W.cell? (a.add 0) = some v) : ∃ b off, a = ⟨b, off, none⟩ ∧ b < W.heap.size := by
  obtain ⟨b, off, spot⟩ := a
  have hspot : spot = none := by simpa [Addr.add] using World.cell?_spot h
  subst hspot
  rw [add_plain] at h
  refine ⟨b, off, rfl, ?_⟩
  apply Classical.byContradiction
  intro hge
  have he : W.heap[b]? = none := by simp; omega
  simp [World.cell?, he] at h
end

section
variable {H : Type} {enc : TypeId × Value → H} {W : World} {base : Nat} {sp : Nat → Bool} {held : Bool}
theorem open_bytes1 {fuel : Nat} {v : Value} {D : DataW H} {ps : List MemPlace} (hf : DataW.trod enc Tryz.prog W base sp held fuel 39 [v] = some (D, ps)) (hw : Weighs Tryz.prog 39 D) :
    ∃ l : List UInt8, PcIn W v l ∧ l.length ≤ 1000000000000000 ∧ ∀ n c, v = .slice none n c → n = 0 ∧ c = 0 := by
  have hc1 : Tryz.prog.cellsOf 5 = 1 := by kernel_rfl
  have hB : 0 < Tryz.prog.bytesOf 5 := of_decide_eq_true (by kernel_rfl)
  rcases Deep.open_slice1 Tryz.underlying39 hc1 hf with ⟨hcs, hx⟩ | ⟨a, len, cap, m, n, V, DD, Pl, hcs, _, hle, hmax, hm, hx, hel⟩
  · obtain rfl : v = .slice none 0 0 := by simpa using hcs
    exact ⟨[], ⟨none, 0, rfl, Nat.le_refl _, by unfold maxLen; omega, fun h => absurd rfl h⟩, Nat.zero_le _, fun n c h => by cases h; exact ⟨rfl, rfl⟩⟩
  · obtain rfl : v = .slice (some a) len cap := by simpa using hcs
    have hlm : len ≤ m := by rw [hm]; split <;> omega
    have hD := congrArg Prod.fst hx
    simp only at hD
    subst hD
    obtain ⟨hlen, -⟩ := weigh_slice Tryz.underlying39 hB hw
    have each : ∀ i, i < len → ∃ z : UInt8, W.cell? (a.add i) = some (encU z) := by
      intro i hi
      obtain ⟨h1, h2⟩ := hel i (by omega)
      obtain ⟨z, hz, _, hwf⟩ := DataW.trod_int Tryz.underlying5 h2
      have hv : V i = .int .u8 z := by simpa using hz
      obtain ⟨b0, b1⟩ := bounds_u8 hwf
      refine ⟨UInt8.ofNat z.toNat, ?_⟩
      rw [h1, hv]
      unfold encU
      have h2 : (UInt8.ofNat z.toNat).toNat = z.toNat := UInt8.toNat_ofNat_of_lt' (by show z.toNat < 256; omega)
      rw [h2, Int.toNat_of_nonneg b0]
    obtain ⟨O, hO⟩ := Deep.choose_lt each
    have hll : ((List.range len).map O).length = len := by simp
    refine ⟨(List.range len).map O, ⟨some a, cap, by rw [hll], by rw [hll]; exact hle, hmax, fun hne => ?_⟩, by rw [hll]; exact hlen, fun n c h => by cases h⟩
    have hpos : 0 < len := by rw [← hll]; exact List.length_pos_iff.2 hne
    obtain ⟨b, off, rfl, hb⟩ := addr_at (hO 0 hpos)
    refine ⟨b, off, rfl, hb, fun j hj => ?_⟩
    rw [hll] at hj
    have := hO j hj
    rw [add_plain] at this
    rw [this, List.getElem?_map, List.getElem?_range hj]
    rfl
theorem open_pieces {fuel : Nat} {cs : List Value} {D : DataW H} {ps : List MemPlace} (hf : DataW.trod enc Tryz.prog W base sp held fuel 22 cs = some (D, ps)) (hw : Weighs Tryz.prog 22 D) :
    ∃ v L, cs = [v] ∧ PcsIn W v L ∧ NilOk W v L ∧ L.length ≤ 1000000000000000 ∧ ∀ p ∈ L, p.length ≤ 1000000000000000 := by
  have hc1 : Tryz.prog.cellsOf 39 = 1 := by kernel_rfl
  have hB : 0 < Tryz.prog.bytesOf 39 := of_decide_eq_true (by kernel_rfl)
  rcases Deep.open_slice1 Tryz.underlying22 hc1 hf with ⟨hcs, hx⟩ | ⟨a, len, cap, m, n, V, DD, Pl, hcs, _, hle, hmax, hm, hx, hel⟩
  · exact ⟨_, [], hcs, ⟨none, 0, rfl, Nat.le_refl _, by unfold maxLen; omega, fun h => absurd rfl h⟩, (fun g o c h => by cases h), Nat.zero_le _, fun p hp => by cases hp⟩
  · have hlm : len ≤ m := by rw [hm]; split <;> omega
    have hD := congrArg Prod.fst hx
    simp only at hD
    subst hD
    obtain ⟨hlen, hwe⟩ := weigh_slice Tryz.underlying22 hB hw
    have each : ∀ i, i < len → ∃ l : List UInt8, W.cell? (a.add i) = some (V i) ∧ PcIn W (V i) l ∧ l.length ≤ 1000000000000000 ∧ ∀ n c, V i = .slice none n c → n = 0 ∧ c = 0 := by
      intro i hi
      obtain ⟨h1, h2⟩ := hel i (by omega)
      obtain ⟨l, h3, h4, h5⟩ := open_bytes1 h2 (hwe i hi)
      exact ⟨l, h1, h3, h4, h5⟩
    obtain ⟨O, hO⟩ := Deep.choose_lt each
    have hll : ((List.range len).map O).length = len := by simp
    refine ⟨_, (List.range len).map O, hcs, ⟨some a, cap, by rw [hll], by rw [hll]; exact hle, hmax, fun hne => ?_⟩, ?_, by rw [hll]; exact hlen, ?_⟩
    · have hpos : 0 < len := by rw [← hll]; exact List.length_pos_iff.2 hne
      obtain ⟨b, off, rfl, hb⟩ := addr_at (hO 0 hpos).1
      refine ⟨b, off, rfl, hb, fun j hj => ?_⟩
      rw [hll] at hj
      obtain ⟨h1, h2, -⟩ := hO j hj
      rw [add_plain] at h1
      refine ⟨V j, h1, ?_⟩
      rw [List.getElem?_map, List.getElem?_range hj]
      exact h2
    · intro g o c h j hj n c' hc
      rw [hll] at hj h
      obtain ⟨h1, -, -, h4⟩ := hO j hj
      cases h
      rw [add_plain] at h1
      rw [h1] at hc
      exact h4 n c' (Option.some.inj hc)
    · intro p hp
      obtain ⟨i, hi, rfl⟩ := List.mem_map.1 hp
      exact (hO i (List.mem_range.1 hi)).2.2.1
set_option maxRecDepth 100000 in
theorem open_case {r : Reach} {b0 : Nat} {v : Value} {d : DataW H} {ps : List MemPlace} (hval : Value.okWide Tryz.prog W r b0 29 v) (hd : DataW.Trod enc Tryz.prog W base sp held 29 v d ps) (hw : Weighs Tryz.prog 29 d) :
    ∃ x L end_ k s a b c N, v = .agg #[x, .int .i64 end_, .int .i64 k, .int .u64 s, .int .i64 a, .int .i64 b, .int .i64 c, .int .i64 N] ∧ 0 ≤ s ∧ PcsIn W x L ∧ NilOk W x L ∧ L.length ≤ 1000000000000000 ∧ ∀ p ∈ L, p.length ≤ 1000000000000000 := by
  unfold Value.okWide at hval
  rw [Tryz.underlying29] at hval
  obtain ⟨cs, rfl, hsz, _⟩ := hval
  obtain ⟨fuel, hf⟩ := hd
  obtain ⟨xs, n, rfl, hx, hl, hxl, hall⟩ := DataW.trod_struct Tryz.underlying29 hf
  have hD : d = DataW.agg (xs.map (·.1)) := congrArg Prod.fst hx
  have k0 : Tryz.prog.cellsOf 29 = 8 := by kernel_rfl
  have k1 : Tryz.prog.cellsOf 22 = 1 := by kernel_rfl
  have k2 : Tryz.prog.cellsOf 3 = 1 := by kernel_rfl
  have k3 : Tryz.prog.cellsOf 23 = 1 := by kernel_rfl
  have k4 : Tryz.prog.cellsOf 25 = 2 := by kernel_rfl
  have k5 : Tryz.prog.cellsOf 27 = 3 := by kernel_rfl
  have hl8 : (Value.agg cs).cells.toList.length = 8 := hl.trans k0
  have hcc : (Value.agg cs).cells = cs := by simp [Value.cells]
  rw [hcc] at hall hl8
  obtain ⟨u0, u1, u2, u3, u4, u5, u6, u7, hcs⟩ : ∃ u0 u1 u2 u3 u4 u5 u6 u7, cs.toList = [u0, u1, u2, u3, u4, u5, u6, u7] := by
    match h : cs.toList, hl8 with
    | [u0, u1, u2, u3, u4, u5, u6, u7], _ => exact ⟨u0, u1, u2, u3, u4, u5, u6, u7, rfl⟩
  have hxl5 : xs.length = 5 := hxl
  obtain ⟨y0, y1, y2, y3, y4, rfl⟩ : ∃ y0 y1 y2 y3 y4, xs = [y0, y1, y2, y3, y4] := by
    match xs, hxl5 with
    | [y0, y1, y2, y3, y4], _ => exact ⟨y0, y1, y2, y3, y4, rfl⟩
  rw [hcs] at hall
  have f0 := hall 0 _ rfl
  have f1 := hall 1 _ rfl
  have f2 := hall 2 _ rfl
  have f3 := hall 3 _ rfl
  have f4 := hall 4 _ rfl
  simp [k1, k2, k3, k4, k5] at f0 f1 f2 f3 f4
  have hwA : ∀ x ∈ DataW.weightsEach Tryz.prog [22, 3, 25, 27, 3] [y0.1, y1.1, y2.1, y3.1, y4.1], x ≤ reachBytes := by
    intro x hx
    refine hw x ?_
    rw [hD]
    simp only [DataW.weights, Tryz.underlying29]
    exact hx
  simp only [DataW.weightsEach, List.mem_append] at hwA
  obtain ⟨x, L, h0, HP, HN, HL, Hp⟩ := open_pieces f0 (fun x hx => hwA x (.inl hx))
  obtain ⟨en, h1, _, we⟩ := DataW.trod_int Tryz.underlying3 f1
  obtain ⟨z0, z1, n2, -, l2, g0, g1⟩ := trod_struct2 Tryz.underlying25 f2
  simp [k2, k3] at g0 g1
  obtain ⟨kd, h2, _, wk⟩ := DataW.trod_int Tryz.underlying3 g0
  obtain ⟨s, h3, _, ws⟩ := DataW.trod_int Tryz.underlying23 g1
  obtain ⟨q0, q1, q2, n3, -, l3, r0, r1, r2⟩ := Deep.trod_struct3 Tryz.underlying27 f3
  simp [k2] at r0 r1 r2
  obtain ⟨a, h4, _, wa⟩ := DataW.trod_int Tryz.underlying3 r0
  obtain ⟨b, h5, _, wb⟩ := DataW.trod_int Tryz.underlying3 r1
  obtain ⟨c, h6, _, wc⟩ := DataW.trod_int Tryz.underlying3 r2
  obtain ⟨N, h7, _, wN⟩ := DataW.trod_int Tryz.underlying3 f4
  simp at h0 h1 h2 h3 h4 h5 h6 h7
  subst h0 h1 h2 h3 h4 h5 h6 h7
  have hcs2 : cs = #[u0, .int .i64 en, .int .i64 kd, .int .u64 s, .int .i64 a, .int .i64 b, .int .i64 c, .int .i64 N] := Array.toList_inj.1 hcs
  subst hcs2
  simp [Lit.wf, IntKind.min, IntKind.max, IntKind.signed, IntKind.bits] at ws
  exact ⟨u0, L, en, kd, s, a, b, c, N, rfl, ws.1, HP, HN, HL, Hp⟩
end

end Go.Proofs.YtfeljjlpdefnmaaGreat
