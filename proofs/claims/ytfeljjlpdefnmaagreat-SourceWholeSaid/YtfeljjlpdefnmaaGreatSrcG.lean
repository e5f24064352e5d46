/-
  Layer 17 (source): Give.
-/
import Derived.Test.YtfeljjlpdefnmaaGreatSrcM
import Derived.Deep.QuietTactic
namespace Go.Proofs.YtfeljjlpdefnmaaGreat
open Go.RowKit
set_option linter.unusedVariables false
set_option linter.unusedSimpArgs false
attribute [local go_sem] Oper.semAt_some

/-- What a Give comes to. -/
def Rdr.give (x : Rdr) (n : Nat) : Int × Rdr := if x.c.hd - x.r.held.length < (n : Int) then (7, x) else ((x.c.give n).1, { x with c := (x.c.give n).2 })
section
variable {W W1 : World} {n0 : Nat} {p : RdrP} {x : Rdr}
set_option maxRecDepth 100000 in
theorem RdGive_any (h : RdrAt W n0 p x) (hw : x.c.wf) (hr : x.r.wf) (n : Nat) (hn : n ≤ 1000000) (hg : -8000000000000000000 ≤ x.c.gr) (hg2 : x.c.gr ≤ 8000000000000000000) :
    Calls Tryz.prog 9 #[.pointer (some ⟨p.D, 0, none⟩), .int .i64 n] W fun e w' => e = .returned (.int .i64 (x.give n).1) ∧ RdrAt w' n0 p (x.give n).2 ∧ Touch (fun k => p.tag k ≠ 0) W w' := by
  have c2 : ∀ q, (W.drewN q).cell? ⟨p.D, 2, none⟩ = some (.pointer (some ⟨p.R, 0, none⟩)) := fun _ => h.c2
  have c3 : ∀ q, (W.drewN q).cell? ⟨p.D, 3, none⟩ = some (.pointer (some ⟨p.C, 0, none⟩)) := fun _ => h.c3
  have hdw : ∀ q, RdrAt (W.drewN q) n0 p x := fun q => h.touch (X := fun _ => False) ((Touch.refl _ W).drewN q) (fun _ h => h.elim)
  have hH := fun q => Lib.hid (CHeld_any (hdw q).cred)
  have hL := fun q => Lib.hid (RLen_any (hdw q).ring)
  have hG := fun q => Lib.hid (CGive_any (hdw q).cred hw (n : Int) (by omega) (by omega))
  have H := fun q => Lib.hid (hdw q)
  have l1 := hr.len
  have l2 := hr.n2
  obtain ⟨hw1, hw2, hw3, hw4⟩ := hw
  have hw5 : x.c.hd ≤ 65536 := by omega
  have HE := Lib.hid (show x.give n = if x.c.hd - x.r.held.length < (n : Int) then (7, x) else ((x.c.give n).1, { x with c := (x.c.give n).2 }) from rfl)
  obtain ⟨hd, hhd⟩ : ∃ z, x.c.hd = z := ⟨_, rfl⟩
  obtain ⟨L, hLe⟩ : ∃ z, x.r.held.length = z := ⟨_, rfl⟩
  rw [hhd] at hw3 hw5 HE
  rw [hLe] at l1 HE
  simp only [hhd] at hH
  simp only [hLe] at hL
  have s1 : IntKind.i64.wrap (hd - (L : Int)) = hd - (L : Int) := IntWalk.i64_in _ (by omega)
  clear h hdw hr hw1 hw2 hw4 hhd hLe
  by_cases hlt : hd - (L : Int) < (n : Int)
  · have HE2 := Lib.hid (HE.out.trans (if_pos hlt))
    go_enter Tryz.func9, Tryz.ntmps9
    go_wp2_with fail
    go_quiet ((first | (refine (hH _).out.mono ?_; rintro e w2 ⟨rfl, rfl⟩; exact ⟨rfl, _, rfl⟩) | (refine (hL _).out.mono ?_; rintro e w2 ⟨rfl, rfl⟩; exact ⟨rfl, _, rfl⟩)))
    go_wp2_with fail
    go_ret
    rw [HE2.out]
    exact ⟨rfl, (H _).out, (Touch.refl _ W).drewN _⟩
  · have HE2 := Lib.hid (HE.out.trans (if_neg hlt))
    go_enter Tryz.func9, Tryz.ntmps9
    go_wp2_with fail
    go_quiet ((first | (refine (hH _).out.mono ?_; rintro e w2 ⟨rfl, rfl⟩; exact ⟨rfl, _, rfl⟩) | (refine (hL _).out.mono ?_; rintro e w2 ⟨rfl, rfl⟩; exact ⟨rfl, _, rfl⟩)))
    go_wp2_with fail
    refine (hG _).out.mono ?_; rintro e w2 ⟨rfl, hc2, t2⟩; dsimp only
    have H2 := Lib.hid ((H _).out.cred' t2 _ hc2)
    have T2 := Lib.hid (((Touch.refl (fun k => p.tag k ≠ 0) W).drewN _).trans (t2.mono (Y := fun k => p.tag k ≠ 0) (fun k _ hk => by rw [show k = p.C from hk, (H 0).out.tC]; decide)))
    clear hc2 t2
    go_wp2_with fail
    go_ret
    rw [HE2.out]
    exact ⟨rfl, H2.out, T2.out⟩
end

end Go.Proofs.YtfeljjlpdefnmaaGreat
