/-
  Layer 17 (source): Step.
-/
import Derived.Test.YtfeljjlpdefnmaaGreatSrcG
import Derived.Deep.RegionLaw
import Derived.Deep.CutBlock
namespace Go.Proofs.YtfeljjlpdefnmaaGreat
open Go.RowKit
set_option linter.unusedVariables false
set_option linter.unusedSimpArgs false
attribute [local go_sem] Oper.semAt_some

theorem step_call_f {P : Program} {ops : Array Oper} {o : Oper} {a : Act} {w : World} {K : Act → World → Prop} {Q : Exit → Act → World → Prop} {E : Prop} (hgd : o.guard = none)
    (f : FuncId) (ags : Array Operand) (ats : Array TypeId) (hop : o.op = .call { callee := .value (.func f), args := ags, argTypes := ats }) (args : Array Value) (hrun : (execOp a.eval o).run P w = .ok (.enter f args) w) (R : Value → World → Prop)
    (hc : Calls P f args w fun e w'' => ∃ v, e = .returned v ∧ R v w'') (h : ∀ v w'', R v w'' → K (a.put o.dst v) w'') :
    if Region.wanted o (yielded ops a.tmps) = true then Oper.wp P o a w K Q else E := step_call_ex hgd f args hrun R hc h
theorem tagNew_sub {tag : Nat → Nat} {a b t k : Nat} (h : tagNew tag a b t k ≠ 0) : tag k ≠ 0 ∨ a ≤ k := by
  unfold tagNew at h
  split at h
  · exact .inl h
  · exact .inr (by omega)
theorem Itk.wants_pos {i : Itk} {N : Int} (h : i.wf N) (he : i.e = 0) (hd : i.done = false) : 0 < i.wants ∧ i.wants ≤ 4611686018427387903 := by
  have hd2 : ¬ i.done = true := by rw [hd]; simp
  unfold Itk.wants
  rw [if_neg (by simp [he, hd])]
  unfold Itk.done at hd
  obtain ⟨h0, -⟩ := h
  cases ht : i.t with
  | sized l =>
    rw [ht, he] at hd
    rw [ht] at h0
    have : l ≠ 0 := by
      rintro rfl
      simp [Tak.done] at hd
    obtain ⟨h1, h2⟩ := h0
    dsimp only
    omega
  | all c => dsimp only; omega
  | chunk d => dsimp only; omega
/-- How many bytes a step reads at most. -/
def Rdr.n (x : Rdr) : Nat := (min x.i.wants x.c.op).toNat
def Rdr.c1 (x : Rdr) : Cred := (x.c.move x.n 0 1).2
/-- Behind bytes that were read. -/
def Rdr.moved (x : Rdr) (bs : List UInt8) (pt : Itk × List UInt8 × Nat × Int) (s' : Src) : Rdr := ⟨pt.1, s', x.r.write pt.2.1, ((x.c1.move pt.2.1.length 1 2).2.move ((x.n : Int) - pt.2.1.length) 1 0).2, x.plain, x.cut, x.shut, x.rest ++ bs.drop pt.2.2.1⟩
/-- What a step comes to. -/
def Rdr.step (e0 e1 e2 e3 e4 e5 : Int) (x : Rdr) : Int × Rdr :=
  if x.stopped = true then (0, x) else if x.c.op = 0 then (1, x)
  else if (x.s.read x.n).2.1 ≠ 0 then (4, ({ x with s := (x.s.read x.n).2.2, c := (x.c1.move x.n 1 0).2 } : Rdr).ended (x.s.read x.n).2.1)
  else if (x.s.read x.n).1 = [] then (2, { x with s := (x.s.read x.n).2.2, c := (x.c1.move x.n 1 0).2 })
  else (3, x.moved (x.s.read x.n).1 (x.i.put e0 e1 e2 e3 e4 e5 (x.s.read x.n).1) (x.s.read x.n).2.2)
def StepP2 (W : World) (n0 : Nat) (p : RdrP) (r : Int × Rdr) (e : Ending) (w' : World) : Prop :=
  ∃ p' : RdrP, e = .returned (.int .i64 r.1) ∧ p'.D = p.D ∧ RdrAt w' n0 p' r.2 ∧ (∀ k, p'.tag k ≠ 0 → p.tag k ≠ 0 ∨ W.heap.size ≤ k) ∧ Touch (fun k => p.tag k ≠ 0) W w'
section
variable {W W1 : World} {n0 : Nat} {p : RdrP} {x : Rdr} {e0 e1 e2 e3 e4 e5 : Int}
theorem step_append_any {P : Program} (w : World) {ops : Array Oper} {o : Oper} {a : Act} {K : Act → World → Prop} {Q : Exit → Act → World → Prop} {E : Prop} (hgd : o.guard = none) (s x : Operand) (t : TypeId)
    (ho : o.op = .call { callee := .builtin .append, args := #[s, x], argTypes := #[t, t] })
    (base : Nat) (e : TypeId) (i : TypeInfo) (z : Value) (size bytes : Nat) (ht : P.underlying t = some (.slice e)) (hi : P.info? e = some i) (hz : i.zero = some z)
    (hsize : i.size = size) (hby : i.bytes = bytes) (hzs : z.cells.size = size) (hsz : 0 < size)
    (v : Value) (n : Nat) (xs : List Value) (hs : a.eval s = v) (hown : w.ownsRow base e size v n xs)
    (ad : Addr) (m c : Nat) (news : List Value) (hx : a.eval x = .slice (some ad) m c) (hl : news.length = m * size) (hnews : ∀ j u, news[j]? = some u → w.cell? (ad.add j) = some u) (h1 : ∀ u ∈ news, u.oneCell' = true)
    (h63 : n + m ≤ maxLen) (hbytes : (n + m) * bytes ≤ 140737488355328) (hbase : base ≤ w.heap.size)
    (h : ∀ A' cap w', w'.ownsRow base e size (.slice A' (n + m) cap) (n + m) (xs ++ news) → w.grownBy w' v.ownBlock → ((Value.ownBlock (.slice A' (n + m) cap)) = v.ownBlock ∨ (Value.ownBlock (.slice A' (n + m) cap)) = some w.heap.size) → K (a.put o.dst (.slice A' (n + m) cap)) w') :
    if Region.wanted o (yielded ops a.tmps) = true then Oper.wp P o a w K Q else E := by
  have hw : Region.wanted o (yielded ops a.tmps) = true := by simp [Region.wanted, hgd]
  rw [if_pos hw]
  obtain ⟨v', w', hr, h2, h3, _, h5⟩ := run_append_own_at (P := P) w base t o.type e i z size bytes ht hi hz hsize hby hzs hsz v n xs hown ad m c news hl hnews h1 h63 hbytes hbase
  obtain ⟨A', cap, rfl⟩ := own_sl h2
  unfold Oper.wp execOp
  simp only [ho, resolve, invoke, builtin, Sem.run_bind, Sem.run_pure, Result.andThen_ok, List.map_toArray, List.map_cons, List.map_nil, hs, hx, hr]
  exact h A' cap w' h2 h3 h5
theorem Itk.put_len (i : Itk) (bs : List UInt8) : (i.put e0 e1 e2 e3 e4 e5 bs).2.2.1 ≤ bs.length ∧ (i.put e0 e1 e2 e3 e4 e5 bs).2.1.length ≤ (i.put e0 e1 e2 e3 e4 e5 bs).2.2.1 := by
  unfold Itk.put
  split
  · simp
  · exact i.t.put_len bs
theorem Src.read_len (s : Src) (n : Nat) : (s.read n).1.length ≤ n := by
  unfold Src.read
  split
  · simp
  · generalize s.begun = b
    generalize s.pcs = L
    induction L generalizing b with
    | nil => simp [readP]
    | cons q L ih =>
      cases q with
      | nil =>
        rw [readP]
        split
        · exact ih false
        · simp
      | cons c q =>
        rw [readP, List.length_take]
        exact Nat.min_le_left _ _
set_option maxRecDepth 100000 in
set_option maxHeartbeats 8000000 in
theorem RdStep_any {N : Int} (h : RdrAt W n0 p x) (hT : TabR W n0 e0 e1 e2 e3 e4 e5) (hi : x.i.wf N) (hN : N ≤ 1000000000) (hr0 : 0 ≤ x.s.reads) (hr1 : x.s.reads ≤ 1000000000) (hps : ∀ q ∈ x.s.pcs, q.length ≤ 1000000) (hcw : x.c.wf) (hrw : x.r.wf) (hrl : x.rest.length ≤ 1000000000) :
    Calls Tryz.prog 8 #[.pointer (some ⟨p.D, 0, none⟩)] W (StepP2 W n0 p (x.step e0 e1 e2 e3 e4 e5)) := by
  have hSt := Lib.hid (RdStopped_any h)
  have H := Lib.hid h
  have c3 := h.c3
  have c0 := h.c0
  by_cases hs : x.stopped = true
  · have HE := Lib.hid (show x.step e0 e1 e2 e3 e4 e5 = (0, x) from if_pos hs)
    rw [hs] at hSt
    clear h c0 c3 hs
    refine calls_of_wp_marks Tryz.func8 rfl ?_
    simp only [Tryz.ntmps8, List.size_toArray, List.length_cons, List.length_nil, Nat.reduceAdd, Nat.reduceSub, Array.replicate_succ, Array.replicate_zero, List.push_toArray, List.append_toArray, List.nil_append, List.cons_append]
    go_wp2_with fail
    refine hSt.out.mono ?_; rintro e w1 ⟨rfl, rfl⟩; dsimp only
    go_wp2_with fail
    refine post_nomark rfl (results_tmp rfl _ _ _) ?_
    rw [HE.out]
    exact ⟨p, rfl, rfl, H.out, fun k hk => .inl hk, Touch.refl _ _⟩
  have hs' : x.shut = false ∧ x.cut = false ∧ x.i.done = false ∧ x.i.e = 0 := by
    unfold Rdr.stopped at hs
    simp only [Bool.or_eq_true, not_or, Bool.not_eq_true, bne_eq_false_iff_eq] at hs
    exact ⟨hs.1.1.1, hs.1.1.2, hs.1.2, hs.2⟩
  obtain ⟨-, -, hdn, hie⟩ := hs'
  have hsf : x.stopped = false := by simpa using hs
  rw [hsf] at hSt
  have hO := Lib.hid (COpen_any h.cred)
  obtain ⟨on, hon⟩ := Int.eq_ofNat_of_zero_le hcw.1
  have hon2 : on ≤ 65536 := by have := hcw.2.1; have := hcw.2.2.1; have := hcw.2.2.2; omega
  rw [hon] at hO
  have hrest : x.step e0 e1 e2 e3 e4 e5 = if x.c.op = 0 then (1, x)
      else if (x.s.read x.n).2.1 ≠ 0 then (4, ({ x with s := (x.s.read x.n).2.2, c := (x.c1.move x.n 1 0).2 } : Rdr).ended (x.s.read x.n).2.1)
      else if (x.s.read x.n).1 = [] then (2, { x with s := (x.s.read x.n).2.2, c := (x.c1.move x.n 1 0).2 })
      else (3, x.moved (x.s.read x.n).1 (x.i.put e0 e1 e2 e3 e4 e5 (x.s.read x.n).1) (x.s.read x.n).2.2) := if_neg (by rw [hsf]; simp)
  by_cases hop : on = 0
  · have HE := Lib.hid (hrest.trans (if_pos (by rw [hon, hop]; rfl)))
    have t0 : ((on : Int) == 0) = true := by rw [hop]; rfl
    clear h hs hsf hdn hie hcw hrw hrl hi hN hr0 hr1 hps hon hop hrest
    refine calls_of_wp_marks Tryz.func8 rfl ?_
    simp only [Tryz.ntmps8, List.size_toArray, List.length_cons, List.length_nil, Nat.reduceAdd, Nat.reduceSub, Array.replicate_succ, Array.replicate_zero, List.push_toArray, List.append_toArray, List.nil_append, List.cons_append]
    go_wp2_with fail
    refine hSt.out.mono ?_; rintro e w1 ⟨rfl, rfl⟩; dsimp only
    go_wp2_with fail
    refine hO.out.mono ?_; rintro e w1 ⟨rfl, rfl⟩; dsimp only
    go_wp2_with fail
    refine post_nomark rfl (results_tmp rfl _ _ _) ?_
    rw [HE.out]
    exact ⟨p, rfl, rfl, H.out, fun k hk => .inl hk, Touch.refl _ _⟩
  have hopi : ¬ x.c.op = 0 := by rw [hon]; omega
  have HR := Lib.hid (hrest.trans (if_neg hopi))
  obtain ⟨hw0, hwM⟩ := Itk.wants_pos hi hie hdn
  obtain ⟨wn, hwn⟩ := Int.eq_ofNat_of_zero_le (show 0 ≤ x.i.wants by omega)
  obtain ⟨n, hn⟩ : ∃ n, x.n = n := ⟨_, rfl⟩
  have hnv : n = min wn on := by rw [← hn]; unfold Rdr.n; rw [hwn, hon]; omega
  have hn1 : 1 ≤ n := by omega
  have hn2 : n ≤ 65536 := by omega
  have hnm : min (wn : Int) (on : Int) = (n : Int) := by omega
  have hc1 : x.c1 = (x.c.move (n : Int) 0 1).2 := by unfold Rdr.c1; rw [hn]
  have hdw : RdrAt W.drew n0 p x := h.touch (X := fun _ => False) ((Touch.refl _ W).drew) (fun _ h => h.elim)
  have hWa := Lib.hid (IWants_any hdw.it)
  rw [hwn] at hWa
  have hOp := Lib.hid (COpen_any hdw.cred)
  rw [hon] at hOp
  have hTk := Lib.hid (CTake_any hdw.cred hcw (n : Int) (by omega) (by rw [hon]; omega))
  rw [← hc1] at hTk
  have hcw1 : x.c1.wf := by rw [hc1]; exact Cred.wf_move hcw _ (.inl ⟨rfl, rfl⟩)
  have Hn := Lib.hid hn
  rw [hn] at HR
  have Hdw := Lib.hid hdw
  have u1 : IntKind.u64.wrap (on : Int) = (on : Int) := IntWalk.u64_in _ (by omega)
  have u2 : IntKind.i64.wrap (n : Int) = (n : Int) := IntWalk.i64_in _ (by omega)
  have d0 := hdw.c0
  have d3 := hdw.c3
  have t0 : ((on : Int) == 0) = false := beq_eq_false_iff_ne.2 (by omega)
  have hWa' : Calls Tryz.prog 25 #[.pointer (some ⟨p.I, 0, none⟩)] W.drew fun e w' => ∃ v, e = .returned v ∧ (v = .int .u64 (wn : Int) ∧ W.drew = w') := hWa.out.mono fun e w' ⟨h1, h2⟩ => ⟨_, h1, rfl, h2⟩
  have hOp' : Calls Tryz.prog 23 #[.pointer (some ⟨p.C, 0, none⟩)] W.drew fun e w' => ∃ v, e = .returned v ∧ (v = .int .i64 (on : Int) ∧ W.drew = w') := hOp.out.mono fun e w' ⟨h1, h2⟩ => ⟨_, h1, rfl, h2⟩
  have hTk' : Calls Tryz.prog 24 #[.pointer (some ⟨p.C, 0, none⟩), .int .i64 (n : Int)] W.drew fun e w' => ∃ v, e = .returned v ∧ (v = .int .i64 (n : Int) ∧ CredAt w' p.C x.c1 ∧ Touch (· = p.C) W.drew w') := hTk.out.mono fun e w' ⟨h1, h2⟩ => ⟨_, h1, rfl, h2⟩
  have HWa := Lib.hid hWa'
  have HOp := Lib.hid hOp'
  have HTk := Lib.hid hTk'
  clear hWa hOp hTk hWa' hOp' hTk' h hs hsf hdn hie hon hop hrest hopi hw0 hwM hwn hn hnv hc1 hdw
  refine calls_of_wp_marks Tryz.func8 rfl ?_
  simp only [Tryz.ntmps8, List.size_toArray, List.length_cons, List.length_nil, Nat.reduceAdd, Nat.reduceSub, Array.replicate_succ, Array.replicate_zero, List.push_toArray, List.append_toArray, List.nil_append, List.cons_append]
  go_wp2_with fail
  refine hSt.out.mono ?_; rintro e w1 ⟨rfl, rfl⟩; dsimp only
  go_wp2_with fail
  refine hO.out.mono ?_; rintro e w1 ⟨rfl, rfl⟩; dsimp only
  go_wp2_with fail
  go_cut [3] from 9 to 36 (fun s3 wx => s3 = .int .i64 (n : Int) ∧ Hid (CredAt wx p.C x.c1) ∧ Hid (Touch (· = p.C) W wx))
  case first =>
    refine wp_region_noPanic ?_
    go_region_law (first | (refine step_call_f rfl 25 _ _ rfl #[.pointer (some ⟨p.I, 0, none⟩)] (by kernel_rfl) _ HWa.out ?_; intro v w2 hr2; obtain ⟨rfl, rfl⟩ := hr2) | (refine step_call_f rfl 23 _ _ rfl #[.pointer (some ⟨p.C, 0, none⟩)] (by kernel_rfl) _ HOp.out ?_; intro v w2 hr2; obtain ⟨rfl, rfl⟩ := hr2) | (refine step_call_f rfl 24 _ _ rfl #[.pointer (some ⟨p.C, 0, none⟩), .int .i64 (n : Int)] (by kernel_rfl) _ HTk.out ?_; intro v w1 hr1; obtain ⟨rfl, hc1, t1⟩ := hr1))
    all_goals
      refine NoPanic.normal ?_
      have HC := Lib.hid hc1
      have HT := Lib.hid (((Touch.refl (· = p.C) W).drew).trans t1)
      clear hc1 t1
      go_wp2_with fail
      go_meet
      case rel => exact ⟨rfl, HC, HT⟩
  case rest =>
    obtain ⟨rfl, HC1, HT1⟩ := hcut
    have h1 := H.out.cred' HT1.out _ HC1.out
    have hz1 : W.heap.size ≤ wc.heap.size := HT1.out.size
    have d1 := h1.c1
    have H1 := Lib.hid h1
    have hRd := Lib.hid (SRead_any h1.src n hn1 hn2 hr0 (show x.s.reads ≤ 1000000000000 by omega) hps)
    unfold RdPP at hRd
    have hrl2 := x.s.read_len n
    dsimp only at hRd
    obtain ⟨rd, hrd⟩ : ∃ rd, x.s.read n = rd := ⟨_, rfl⟩
    rw [hrd] at hRd HR hrl2
    obtain ⟨bs, er, s'⟩ := rd
    dsimp only at hRd HR hrl2
    clear hSt hO HWa HOp HTk d0 d3 c0 c3 t0 Hdw u1 u2 h1 hrd
    go_wp2_with fail
    refine hRd.out.mono ?_; rintro e w2 ⟨vp', vo, rfl, hs2, hown, t2⟩; dsimp only
    obtain ⟨Ab, cb, rfl⟩ := own_sl hown
    have h2 := H1.out.src' t2 vp' s' hs2
    have d3 := h2.c3
    have d0 := h2.c0
    have hz2 := t2.size
    have HT2 := Lib.hid (show Touch (fun k => p.tag k ≠ 0) W w2 from (HT1.out.mono (fun k _ hk => by rw [show k = p.C from hk, H.out.tC]; decide)).trans (t2.mono (fun k _ hk => by rw [H.out.tF k hk]; decide)))
    have H2 := Lib.hid h2
    have HO := Lib.hid hown
    obtain ⟨bl, hbl⟩ : ∃ bl, bs.length = bl := ⟨_, rfl⟩
    have Hbl := Lib.hid hbl
    rw [hbl] at hrl2 ⊢
    clear hs2 hown t2 h2 hbl hRd
    dsimp only at d3 d0
    by_cases her : er = 0
    · have t1 : (er != 0) = false := by rw [her]; rfl
      have HR2 := Lib.hid (HR.out.trans (if_neg (fun h => h her)))
      clear HR her
      by_cases hb0 : bl = 0
      · have hbs : bs = [] := List.eq_nil_of_length_eq_zero (by rw [Hbl.out, hb0])
        have HE := Lib.hid (HR2.out.trans (if_pos hbs))
        have t3 : ((bl : Int) == 0) = true := by rw [hb0]; rfl
        have hRt := Lib.hid (CReturn_any H2.out.cred hcw1 (n : Int))
        clear HR2 hbs hb0
        go_wp2_with fail
        refine hRt.out.mono ?_; rintro e w3 ⟨rfl, hc3, tc3⟩; dsimp only
        have H3 := Lib.hid (H2.out.cred' tc3 _ hc3)
        have HT3 := Lib.hid (HT2.out.trans (tc3.mono (Y := fun k => p.tag k ≠ 0) (fun k _ hk => by rw [show k = p.C from hk, H.out.tC]; decide)))
        clear hc3 tc3
        go_wp2_with fail
        refine post_nomark rfl (results_tmp rfl _ _ _) ?_
        rw [HE.out]
        exact ⟨{ p with vp := vp' }, rfl, rfl, H3.out, fun k hk => .inl hk, HT3.out⟩
      · have hbs : bs ≠ [] := fun h => hb0 (by rw [← Hbl.out, h]; rfl)
        have HE := Lib.hid (HR2.out.trans (if_neg hbs))
        have t3 : ((bl : Int) == 0) = false := beq_eq_false_iff_ne.2 (by omega)
        obtain ⟨hrd, hlc, hcm, -⟩ := own_rd HO.out
        have hn0 : n0 ≤ W.heap.size := hT.ends.le
        have hT2 : TabR w2 n0 e0 e1 e2 e3 e4 e5 := hT.below (HT2.out.below hn0 (fun k hk => H.out.lo k hk))
        have hGl : ∀ k, p.G k → k < wc.heap.size := fun k hk => H1.out.hi k (by rw [H.out.tG k hk]; decide)
        have hIl : p.I < wc.heap.size := H1.out.hi _ (by rw [H.out.tI]; decide)
        have hCl : p.C < W.heap.size := H.out.hi _ (by rw [H.out.tC]; decide)
        have hRl : p.R < W.heap.size := H.out.hi _ (by rw [H.out.tR]; decide)
        have hal : p.a < W.heap.size := H.out.hi _ (by rw [H.out.ta]; decide)
        have hDl : p.D < W.heap.size := H.out.hi _ (by rw [H.out.tD]; decide)
        obtain ⟨g, cap', e', hg1, hg2⟩ := HO.out.form (by rw [Hbl.out]; omega)
        simp only [Value.slice.injEq] at e'
        obtain ⟨rfl, -, -⟩ := e'
        have hPut := IPut_any H2.out.it hi (by omega) (some ⟨g, 0, none⟩) cb bs (by rw [Hbl.out]; omega) hlc hcm hrd (fun _ b off e hg => by cases e; have := hGl _ hg; omega) (fun k hk => H.out.lo k (by rw [H.out.tG k hk]; decide)) hT2
        rw [Hbl.out] at hPut
        have hpl := x.i.put_len (e0 := e0) (e1 := e1) (e2 := e2) (e3 := e3) (e4 := e4) (e5 := e5) bs
        unfold IPutP at hPut
        dsimp only at hPut
        obtain ⟨pt, hpt⟩ : ∃ pt, x.i.put e0 e1 e2 e3 e4 e5 bs = pt := ⟨_, rfl⟩
        rw [hpt] at hPut HE hpl
        obtain ⟨i', dt, kk, pe⟩ := pt
        dsimp only at hPut HE hpl
        obtain ⟨dl, hdl⟩ : ∃ dl, dt.length = dl := ⟨_, rfl⟩
        have Hdl := Lib.hid hdl
        rw [hdl] at hPut hpl
        rw [Hbl.out] at hpl hlc
        obtain ⟨hpl1, hpl2⟩ := hpl
        have HPut := Lib.hid hPut
        have hsub : IntKind.i64.wrap ((n : Int) - (dl : Int)) = (n : Int) - (dl : Int) := IntWalk.i64_in _ (by omega)
        clear HR2 hPut hpt hdl hrd hT2
        go_wp2_with fail
        refine HPut.out.mono ?_; rintro e w3 ⟨G', vd, rfl, hi3, hod, hapo, hsub3, tp⟩; dsimp only
        obtain ⟨Ad, cd, rfl⟩ := own_sl hod
        have h3 := H2.out.it' (by omega) tp G' i' hi3 hsub3
        have hz3 := tp.size
        have ho3 := own_touchL HO.out tp (fun k hk hx => by
          have : k < wc.heap.size := by
            rcases hx with hx | hx
            · exact hGl k hx
            · rw [hx]; exact hIl
          exact own_ge HO.out this hk.symm)
        have HT3 := Lib.hid (HT2.out.trans (tp.mono (Y := fun k => p.tag k ≠ 0) (fun k _ hk => by
          rcases hk with hk | hk
          · rw [H.out.tG k hk]; decide
          · rw [hk, H.out.tI]; decide)))
        have H3 := Lib.hid h3
        have HO3 := Lib.hid ho3
        have HD3 := Lib.hid hod
        have e3 := h3.c3
        have hUs := Lib.hid (CUse_any h3.cred hcw1 (dl : Int))
        dsimp only at e3
        clear HPut hi3 hod hapo hsub3 tp h3 ho3
        go_wp2_with fail
        refine hUs.out.mono ?_; rintro e w4 ⟨rfl, hc4, tc4⟩; dsimp only
        have h4 := H3.out.cred' tc4 _ hc4
        have hcw2 : ((x.c1.move (dl : Int) 1 2).2).wf := Cred.wf_move hcw1 _ (.inr (.inl ⟨rfl, rfl⟩))
        have e4' := h4.c3
        have hRt := Lib.hid (CReturn_any h4.cred hcw2 ((n : Int) - (dl : Int)))
        have hz4 := tc4.size
        have H4 := Lib.hid h4
        have HT4 := Lib.hid tc4
        dsimp only at e4'
        clear hc4 tc4 h4 e3
        go_wp2_with fail
        refine hRt.out.mono ?_; rintro e w5 ⟨rfl, hc5, tc5⟩; dsimp only
        have h5 := H4.out.cred' tc5 _ hc5
        have hz5 := tc5.size
        have T35 := HT4.out.trans tc5
        have hod5 := own_touchL HD3.out T35 (fun k hk hx => own_ge HD3.out (k := k) (by have hx' : k = p.C := hx; omega) hk.symm)
        have hob5 := own_touchL HO3.out T35 (fun k hk hx => own_ge HO3.out (k := k) (by have hx' : k = p.C := hx; omega) hk.symm)
        obtain ⟨hrd5, hlc5, hcm5, hap5⟩ := own_rd (by rw [Hdl.out]; exact hod5)
        have hWr := RWrite_any h5.ring hrw Ad cd dt hlc5 hcm5 (by rw [Hdl.out]; omega) hrd5 (fun hne b off e => by
          have := (hap5 hne b off e).1
          exact ⟨by show b ≠ p.a; omega, by show b ≠ p.R; omega⟩)
        rw [Hdl.out] at hWr
        have HWr := Lib.hid hWr
        have H5 := Lib.hid h5
        have HT5 := Lib.hid ((HT3.out.trans (T35.mono (Y := fun k => p.tag k ≠ 0) (fun k _ hk => by rw [show k = p.C from hk, H.out.tC]; decide))))
        have HO5 := Lib.hid hob5
        have f2 := h5.c2
        dsimp only at f2
        clear hWr hc5 tc5 h5 hod5 hob5 T35 hrd5 hlc5 hcm5 hap5 e4'
        go_wp2_with fail
        refine HWr.out.mono ?_; rintro e w6 ⟨rfl, hr6, t6⟩; dsimp only
        have h6 := (H5.out.ring' t6 _ hr6).touch (W1 := w6.drew) (X := fun _ => False) ((Touch.refl _ w6).drew) (fun _ h => h.elim)
        have hz6 := t6.size
        have hob6 := own_touchL HO5.out (t6.drew) (fun k hk hx => by
          have : k < wc.heap.size := by
            rcases hx with hx | hx
            · have : k = p.R := hx; omega
            · have : k = p.a := hx; omega
          exact own_ge HO5.out this hk.symm)
        have HT6 := Lib.hid (HT5.out.trans ((t6.drew).mono (Y := fun k => p.tag k ≠ 0) (fun k _ hk => by
          rcases hk with hk | hk
          · rw [show k = p.R from hk, H.out.tR]; decide
          · rw [show k = p.a from hk, H.out.ta]; decide)))
        obtain ⟨Av, cv, hv⟩ := own_sl h6.own
        have g7 := h6.c7
        have hown6 := h6.own
        dsimp only at g7 hv hown6
        rw [hv] at g7 hown6
        obtain ⟨rl, hrlv⟩ : ∃ rl, x.rest.length = rl := ⟨_, rfl⟩
        rw [hrlv] at g7 hown6 hrl hv
        have HRl := Lib.hid hrlv
        have hnews : ∀ j u, ((bs.drop kk).map encU)[j]? = some u → w6.drew.cell? ((⟨g, kk, none⟩ : Addr).add j) = some u := fun j u hu => by
          have h8 := hob6.cells (g := g) rfl (kk + j) u (by rw [List.getElem?_map, List.getElem?_drop] at hu; rw [List.getElem?_map]; exact hu)
          rw [WideShapes.add_plain] at h8 ⊢
          rw [Nat.zero_add] at h8
          exact h8
        have hnl : ((bs.drop kk).map encU).length = (bl - kk) * 1 := by rw [List.length_map, List.length_drop, Hbl.out]; omega
        have HNews := Lib.hid hnews
        have HNl := Lib.hid hnl
        have HOwn6 := Lib.hid hown6
        have H6 := Lib.hid h6
        have hDl6 : p.D < w6.drew.heap.size := by show p.D < w6.heap.size; omega
        have hvD : p.vr.ownBlock ≠ some p.D := fun e => by have := H.out.tv p.D e; rw [H.out.tD] at this; cases this
        rw [hv] at hvD
        have HAf := fun (v7 : Value) (w7 : World) (hg : w6.drew.grownBy w7 (Value.ownBlock (.slice Av rl cv))) => Lib.hid (show w7.cell? ⟨p.D, 7, none⟩ = some (.slice Av rl cv) ∧ w7.frozen? ⟨p.D, 7, none⟩ = false from
          ⟨(hg.cell_far ⟨p.D, 7, none⟩ hDl6 (fun e => hvD e.symm)).trans g7, (hg.frozen_far ⟨p.D, 7, none⟩ hDl6 (fun e => hvD e.symm)).trans (H6.out.f 7)⟩)
        obtain ⟨i0, hi0, hz0, hz1', hz2'⟩ := Tryz.info_u8R
        have Hv := Lib.hid hv
        have hszW : W.heap.size ≤ w6.drew.heap.size := by show W.heap.size ≤ w6.heap.size; omega
        clear HWr hr6 t6 h6 hob6 hown6 hnews hnl hv f2 hvD hrlv
        have hkb : (kk : Int) ≤ (bl : Int) := by omega
        by_cases hkc : kk = cb
        · have hbk : bl - kk = 0 := by omega
          have HNe : Hid (∀ j u, ((bs.drop kk).map encU)[j]? = some u → w6.drew.cell? ((⟨g, 0, none⟩ : Addr).add j) = some u) := Lib.hid (fun j u hu => by
            have hl : ((bs.drop kk).map encU).length = 0 := by rw [HNl.out]; omega
            rw [List.eq_nil_of_length_eq_zero hl] at hu
            cases hu)
          have HN0 : Hid (((bs.drop kk).map encU).length = 0 * 1) := Lib.hid (by rw [HNl.out]; omega)
          obtain rfl : kk = cb := hkc
          obtain rfl : kk = bl := by omega
          clear hbk HNl
          go_wp2_with fail
          refine wp_region_noPanic ?_
          go_region_law (refine step_append_any _ rfl _ _ _ rfl n0 5 i0 _ 1 1 Tryz.under_bsR hi0 hz0 hz1' hz2' rfl (by decide) (.slice Av rl cv) rl _ (by rfl) HOwn6.out ⟨g, 0, none⟩ 0 0 ((bs.drop kk).map encU) (by rfl) HN0.out HNe.out (by intro u hu; obtain ⟨y, _, rfl⟩ := List.mem_map.1 hu; rfl) (by unfold maxLen; omega) (by omega) (by omega) ?_; intro A7 c7 w7 ho7 hg7 hat7; have q7 := (HAf (.slice A7 rl c7) w7 hg7).out.1; have q8 := (HAf (.slice A7 rl c7) w7 hg7).out.2)
          all_goals
            refine NoPanic.normal ?_
            have hll : (x.rest ++ bs.drop kk).length = rl := by rw [List.length_append, List.length_drop, HRl.out, Hbl.out]; omega
            have h7 := H6.out.setRest (W1 := w7) (by omega) (by show w6.drew.grownBy w7 p.vr.ownBlock; rw [Hv.out]; exact hg7) A7 c7 (x.rest ++ bs.drop kk) (by rw [hll, List.map_append]; exact ho7) (fun k hk => by
              rw [hll] at hk
              rcases hat7 with h | h
              · exact .inl (by show p.vr.ownBlock = some k; rw [Hv.out]; exact h.symm.trans hk)
              · exact .inr (Nat.le_of_eq (Option.some.inj (h.symm.trans hk))))
            rw [hll] at h7
            have H7 := Lib.hid h7
            have HT7 := Lib.hid (HT6.out.trans ((show Touch (fun k => p.tag k ≠ 0) w6.drew w7 from ⟨hg7.os, hg7.tape, hg7.output, hg7.size, fun k hk hx => hg7.block k hk (fun e => hx (by rw [H.out.tv k (by rw [Hv.out]; exact e.symm)]; decide))⟩).setCell (p := ⟨p.D, 7, none⟩) (.inl (by show p.tag p.D ≠ 0; rw [H.out.tD]; decide)) (.slice A7 rl c7)))
            clear ho7 hg7 hat7 q7 q8 h7 hll
            go_wp2_with fail
            refine post_nomark rfl (results_tmp rfl _ _ _) ?_
            rw [HE.out]
            refine ⟨{ p with G := G', vp := vp', vr := .slice A7 rl c7, tag := tagNew (tagNew p.tag w2.heap.size w3.heap.size 1) w6.drew.heap.size w7.heap.size 6 }, rfl, rfl, ?_, ?_, HT7.out⟩
            · have hmv : x.moved bs (i', dt, kk, pe) s' = ⟨i', s', x.r.write dt, ((x.c1.move (dl : Int) 1 2).2.move ((n : Int) - (dl : Int)) 1 0).2, x.plain, x.cut, x.shut, x.rest ++ bs.drop kk⟩ := by unfold Rdr.moved; rw [Hn.out]; dsimp only; rw [Hdl.out]
              show RdrAt _ _ _ (x.moved bs (i', dt, kk, pe) s')
              rw [hmv]
              exact H7.out
            · intro k hk
              rcases tagNew_sub hk with h | h
              · rcases tagNew_sub h with h | h
                · exact .inl h
                · exact .inr (by omega)
              · exact .inr (Nat.le_trans hszW h)
        · have hkc2 : kk < cb := by omega
          have hkc3 : ¬ cb = kk := by omega
          go_wp2_with fail
          refine wp_region_noPanic ?_
          go_region_law (refine step_append_any _ rfl _ _ _ rfl n0 5 i0 _ 1 1 Tryz.under_bsR hi0 hz0 hz1' hz2' rfl (by decide) (.slice Av rl cv) rl _ (by rfl) HOwn6.out ⟨g, kk, none⟩ (bl - kk) (cb - kk) ((bs.drop kk).map encU) (by rfl) HNl.out HNews.out (by intro u hu; obtain ⟨y, _, rfl⟩ := List.mem_map.1 hu; rfl) (by unfold maxLen; omega) (by omega) (by omega) ?_; intro A7 c7 w7 ho7 hg7 hat7; have q7 := (HAf (.slice A7 (rl + (bl - kk)) c7) w7 hg7).out.1; have q8 := (HAf (.slice A7 (rl + (bl - kk)) c7) w7 hg7).out.2)
          all_goals
            refine NoPanic.normal ?_
            have hll : (x.rest ++ bs.drop kk).length = rl + (bl - kk) := by rw [List.length_append, List.length_drop, HRl.out, Hbl.out]
            have h7 := H6.out.setRest (W1 := w7) (by omega) (by show w6.drew.grownBy w7 p.vr.ownBlock; rw [Hv.out]; exact hg7) A7 c7 (x.rest ++ bs.drop kk) (by rw [hll, List.map_append]; exact ho7) (fun k hk => by
              rw [hll] at hk
              rcases hat7 with h | h
              · exact .inl (by show p.vr.ownBlock = some k; rw [Hv.out]; exact h.symm.trans hk)
              · exact .inr (Nat.le_of_eq (Option.some.inj (h.symm.trans hk))))
            rw [hll] at h7
            have H7 := Lib.hid h7
            have HT7 := Lib.hid (HT6.out.trans ((show Touch (fun k => p.tag k ≠ 0) w6.drew w7 from ⟨hg7.os, hg7.tape, hg7.output, hg7.size, fun k hk hx => hg7.block k hk (fun e => hx (by rw [H.out.tv k (by rw [Hv.out]; exact e.symm)]; decide))⟩).setCell (p := ⟨p.D, 7, none⟩) (.inl (by show p.tag p.D ≠ 0; rw [H.out.tD]; decide)) (.slice A7 (rl + (bl - kk)) c7)))
            clear ho7 hg7 hat7 q7 q8 h7 hll
            go_wp2_with fail
            refine post_nomark rfl (results_tmp rfl _ _ _) ?_
            rw [HE.out]
            refine ⟨{ p with G := G', vp := vp', vr := .slice A7 (rl + (bl - kk)) c7, tag := tagNew (tagNew p.tag w2.heap.size w3.heap.size 1) w6.drew.heap.size w7.heap.size 6 }, rfl, rfl, ?_, ?_, HT7.out⟩
            · have hmv : x.moved bs (i', dt, kk, pe) s' = ⟨i', s', x.r.write dt, ((x.c1.move (dl : Int) 1 2).2.move ((n : Int) - (dl : Int)) 1 0).2, x.plain, x.cut, x.shut, x.rest ++ bs.drop kk⟩ := by unfold Rdr.moved; rw [Hn.out]; dsimp only; rw [Hdl.out]
              show RdrAt _ _ _ (x.moved bs (i', dt, kk, pe) s')
              rw [hmv]
              exact H7.out
            · intro k hk
              rcases tagNew_sub hk with h | h
              · rcases tagNew_sub h with h | h
                · exact .inl h
                · exact .inr (by omega)
              · exact .inr (Nat.le_trans hszW h)
    · have t1 : (er != 0) = true := bne_iff_ne.2 her
      have HE := Lib.hid (HR.out.trans (if_pos her))
      have hRt := Lib.hid (CReturn_any H2.out.cred hcw1 (n : Int))
      clear HR her
      go_wp2_with fail
      refine hRt.out.mono ?_; rintro e w3 ⟨rfl, hc3, tc3⟩; dsimp only
      have h3 := H2.out.cred' tc3 _ hc3
      have hEn := Lib.hid (RdEnded_any h3 er)
      have HT3 := Lib.hid (HT2.out.trans (tc3.mono (Y := fun k => p.tag k ≠ 0) (fun k _ hk => by rw [show k = p.C from hk, H.out.tC]; decide)))
      clear hc3 tc3 h3
      go_wp2_with fail
      refine hEn.out.mono ?_; rintro e w4 ⟨⟨v4, rfl⟩, h4, t4⟩; dsimp only
      have H4 := Lib.hid h4
      have HT4 := Lib.hid (HT3.out.trans t4)
      clear h4 t4
      go_wp2_with fail
      refine post_nomark rfl (results_tmp rfl _ _ _) ?_
      rw [HE.out]
      exact ⟨{ p with vp := vp' }, rfl, rfl, H4.out, fun k hk => .inl hk, HT4.out⟩
end

end Go.Proofs.YtfeljjlpdefnmaaGreat
