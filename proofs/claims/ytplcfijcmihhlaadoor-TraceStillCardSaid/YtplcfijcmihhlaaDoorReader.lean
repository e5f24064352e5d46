/-
  The walks of body's reader over a chunked body that stops behind its first data: what the example of layer 22 reaches.
-/
import Derived.Test.YtplcfijcmihhlaaDoorProg
import Derived.Test.YtplcfijcmihhlaaDoorCommon
import Derived.Test.YtplcfijcmihhlaaDoorTouch
import Derived.Test.YtplcfijcmihhlaaDoorOwn
import Derived.Test.YtplcfijcmihhlaaDoorAppend
import Derived.Deep.QuietTactic
import Derived.BigQuiet
import Derived.Deep.RegionHeld3
import Derived.Deep.RegionLaw
import Derived.Deep.AppendLies
import Derived.Deep.DrawnRows
import Derived.WalkLawsBesides
import Derived.Recover
import Derived.Defers
import Derived.KernelRfl
import Derived.StillTailTactics
namespace Go.Proofs.YtplcfijcmihhlaaDoor
open Go.RowKit
set_option linter.unusedVariables false
set_option linter.unusedSimpArgs false

/-- A reader: block R; what it reads, where it is, what it has of data. -/
structure RAt (W : World) (R : Nat) (s : Value) (a b c : Int) (at' : Int) (data : Value) : Prop where
  box : W.heap[R]? = some (.cells #[s, .int .i64 a, .int .i64 b, .int .i64 c, .int .i64 at', data] 131 (0, 0))

section
variable {W : World} {R : Nat} {s : Value} {a b c at' : Int} {data : Value}
theorem RAt.c0 (h : RAt W R s a b c at' data) : W.cell? ⟨R, 0, none⟩ = some s := by simp [World.cell?, h.box]
theorem RAt.c4 (h : RAt W R s a b c at' data) : W.cell? ⟨R, 4, none⟩ = some (.int .i64 at') := by simp [World.cell?, h.box]
theorem RAt.c5 (h : RAt W R s a b c at' data) : W.cell? ⟨R, 5, none⟩ = some data := by simp [World.cell?, h.box]
theorem RAt.f (h : RAt W R s a b c at' data) (j : Nat) : W.frozen? ⟨R, j, none⟩ = false := by simp [World.frozen?, h.box]
theorem RAt.drewN (h : RAt W R s a b c at' data) (q : Nat) : RAt (W.drewN q) R s a b c at' data := ⟨h.box⟩
theorem RAt.setAt (h : RAt W R s a b c at' data) (x : Int) : RAt (W.setCell ⟨R, 4, none⟩ (.int .i64 x)) R s a b c x data := by
  obtain ⟨hlt, hk⟩ := Array.getElem?_eq_some_iff.1 h.box
  refine ⟨?_⟩
  show (W.heap.modify R _)[R]? = _
  rw [Array.getElem?_eq_getElem (by rw [Array.size_modify]; exact hlt), Array.getElem_modify_self, hk]
  rfl

def stopP (at' e : Int) : PanicEntry := { v := .iface 133 (.agg #[.int .i64 at', .int .i64 e]), recovered := false }

theorem must_ok (v : Value) (e : Int) (w : World) :
    Calls Tryd.prog 111 #[v, .bool true, .int .i64 e] w fun x w' => x = .returned (.tuple #[]) ∧ w = w' := by
  go_enter Tryd.func111, Tryd.ntmps111
  go_wp2_with fail
  go_end0
  exact ⟨rfl, rfl⟩

theorem must_no (h : RAt W R s a b c at' data) (e : Int) :
    Calls Tryd.prog 111 #[.pointer (some ⟨R, 0, none⟩), .bool false, .int .i64 e] W fun x w' => x = .panicked [stopP at' e] ∧ W = w' := by
  have h4 := h.c4
  go_enter Tryd.func111, Tryd.ntmps111
  go_wp2_with fail
  exact ⟨rfl, rfl, rfl⟩

theorem here_ok {g o n cap i : Nat} {x : Int} (h : RAt W R (.slice (some ⟨g, o, none⟩) n cap) a b c i data) (hi : i < n) (hx : W.cell? ⟨g, o + i, none⟩ = some (.int .u8 x)) :
    Calls Tryd.prog 127 #[.pointer (some ⟨R, 0, none⟩)] W fun e w' => e = .returned (.int .u8 x) ∧ ∃ q, w' = W.drewN q := by
  have h0 : ∀ q, (W.drewN q).cell? ⟨R, 0, none⟩ = some (.slice (some ⟨g, o, none⟩) n cap) := fun _ => h.c0
  have h4 : ∀ q, (W.drewN q).cell? ⟨R, 4, none⟩ = some (.int .i64 i) := fun _ => h.c4
  have hx' : ∀ q, (W.drewN q).cell? ⟨g, o + i, none⟩ = some (.int .u8 x) := fun _ => hx
  have hM : ∀ w, Hid (Calls Tryd.prog 111 #[.pointer (some ⟨R, 0, none⟩), .bool true, .int .i64 4] w fun x w' => x = .returned (.tuple #[]) ∧ w' = w) := fun w => Lib.hid ((must_ok _ 4 w).mono fun _ _ h => ⟨h.1, h.2.symm⟩)
  have hi0 : (0 : Int) ≤ (i : Int) := Int.natCast_nonneg _
  have hi1 : (i : Int) < (n : Int) := by omega
  clear h hx
  go_enter Tryd.func127, Tryd.ntmps127
  go_wp2_with fail
  go_quiet ((go_at_call 111; exact Calls.quiet_of_same (hM _).out))
  go_wp2_with fail
  go_quiet (fail)
  go_wp2_with fail
  go_ret
  exact ⟨rfl, _, World.drewN_drewN _ _ _⟩

set_option maxRecDepth 100000 in
theorem here_no {A : Option Addr} {n cap i : Nat} (h : RAt W R (.slice A n cap) a b c i data) (hi : n ≤ i) :
    Calls Tryd.prog 127 #[.pointer (some ⟨R, 0, none⟩)] W fun e w' => e = .panicked [stopP i 4] ∧ ∃ q, w' = W.drewN q := by
  have h0 := h.c0
  have h4 := h.c4
  have hM := Lib.hid (must_no (show RAt W.drew R (.slice A n cap) a b c i data from ⟨h.box⟩) 4)
  have hi1 : ¬ (i : Int) < (n : Int) := by omega
  go_enter Tryd.func127, Tryd.ntmps127
  go_wp2_with fail
  go_still_tail 11, (by kernel_rfl)
  change wpList _ _ _ _ _ W.drew
  rw [show decide (i < n) = false by simpa using hi]
  go_wp2_with fail
  refine hM.out.mono ?_; rintro e w' ⟨rfl, rfl⟩; dsimp only
  exact ⟨rfl, rfl, 1, rfl⟩

set_option maxRecDepth 100000 in
/-- A byte that has to stand there, and does. -/
theorem byte_ok {g o n cap i : Nat} {x : Int} (h : RAt W R (.slice (some ⟨g, o, none⟩) n cap) a b c i data) (hi : i < n) (hn : n ≤ 1000000) (hx : W.cell? ⟨g, o + i, none⟩ = some (.int .u8 x)) :
    Calls Tryd.prog 130 #[.pointer (some ⟨R, 0, none⟩), .int .u8 x] W fun e w' => e = .returned (.tuple #[]) ∧ RAt w' R (.slice (some ⟨g, o, none⟩) n cap) a b c (i + 1 : Nat) data ∧ Touch (· = R) W w' := by
  have hH := Lib.hid (here_ok h hi hx)
  have hM := fun W => Lib.hid (must_ok (.pointer (some ⟨R, 0, none⟩)) 2 W)
  have b1 : IntKind.i64.wrap ((i : Int) + 1) = (i : Int) + 1 := IntWalk.i64_in _ (by omega)
  go_enter Tryd.func130, Tryd.ntmps130
  go_wp2_with fail
  refine hH.out.mono ?_; rintro e w1 ⟨rfl, q, rfl⟩; dsimp only
  go_wp2_with fail
  refine (hM _).out.mono ?_; rintro e w1 ⟨rfl, rfl⟩; dsimp only
  have hq := h.drewN q
  have c4 := hq.c4
  have f4 := hq.f 4
  go_wp2_with fail
  go_end0
  have hT : Touch (· = R) (W.drewN q) ((W.drewN q).setCell ⟨R, 4, none⟩ (.int .i64 ((i : Int) + 1))) := Touch.setCell (X := (· = R)) (Touch.refl _ _) (p := ⟨R, 4, none⟩) (.inl rfl) _
  exact ⟨rfl, hq.setAt _, ((Touch.refl _ W).drewN q).trans hT⟩

set_option maxRecDepth 100000 in
/-- .. where there is none. -/
theorem byte_no {A : Option Addr} {n cap i : Nat} (x : Int) (h : RAt W R (.slice A n cap) a b c i data) (hi : n ≤ i) :
    Calls Tryd.prog 130 #[.pointer (some ⟨R, 0, none⟩), .int .u8 x] W fun e w' => e = .panicked [stopP i 4] ∧ ∃ q, w' = W.drewN q := by
  have hH := Lib.hid (here_no h hi)
  go_enter Tryd.func130, Tryd.ntmps130
  go_wp2_with fail
  refine hH.out.mono ?_; rintro e w1 ⟨rfl, q, rfl⟩; dsimp only
  exact ⟨rfl, rfl, q, rfl⟩

set_option maxRecDepth 100000 in
theorem end_ok {g o n cap i : Nat} (h : RAt W R (.slice (some ⟨g, o, none⟩) n cap) a b c i data) (hi : i + 1 < n) (hn : n ≤ 1000000) (hg : g ≠ R) (hgl : g < W.heap.size) (hx : W.cell? ⟨g, o + i, none⟩ = some (.int .u8 13)) (hy : W.cell? ⟨g, o + (i + 1), none⟩ = some (.int .u8 10)) :
    Calls Tryd.prog 110 #[.pointer (some ⟨R, 0, none⟩)] W fun e w' => e = .returned (.tuple #[]) ∧ RAt w' R (.slice (some ⟨g, o, none⟩) n cap) a b c (i + 2 : Nat) data ∧ Touch (· = R) W w' := by
  have h1 := Lib.hid (byte_ok h (by omega) hn hx)
  go_enter Tryd.func110, Tryd.ntmps110
  go_wp2_with fail
  refine h1.out.mono ?_; rintro e w1 ⟨rfl, h2, t1⟩; dsimp only
  have h3 := Lib.hid (byte_ok h2 hi hn ((t1.cell (p := ⟨g, o + (i + 1), none⟩) hgl hg).trans hy))
  have T1 := Lib.hid t1
  clear h2 t1
  go_wp2_with fail
  refine h3.out.mono ?_; rintro e w2 ⟨rfl, h4, t2⟩; dsimp only
  have H4 := Lib.hid h4
  have T2 := Lib.hid t2
  clear h4 t2
  go_wp2_with fail
  go_end0
  exact ⟨rfl, H4.out, T1.out.trans T2.out⟩

set_option maxRecDepth 100000 in
theorem end_no {A : Option Addr} {n cap i : Nat} (h : RAt W R (.slice A n cap) a b c i data) (hi : n ≤ i) :
    Calls Tryd.prog 110 #[.pointer (some ⟨R, 0, none⟩)] W fun e w' => e = .panicked [stopP i 4] ∧ ∃ q, w' = W.drewN q := by
  have h1 := Lib.hid (byte_no 13 h hi)
  go_enter Tryd.func110, Tryd.ntmps110
  go_wp2_with fail
  refine h1.out.mono ?_; rintro e w1 ⟨rfl, q, rfl⟩; dsimp only
  exact ⟨rfl, rfl, q, rfl⟩

set_option maxRecDepth 100000 in
theorem extension_no {g o n cap i : Nat} (h : RAt W R (.slice (some ⟨g, o, none⟩) n cap) a b c i data) (hi : i < n) (hx : W.cell? ⟨g, o + i, none⟩ = some (.int .u8 13)) :
    Calls Tryd.prog 109 #[.pointer (some ⟨R, 0, none⟩)] W fun e w' => e = .returned (.tuple #[]) ∧ ∃ q, w' = W.drewN q := by
  have h1 := Lib.hid (here_ok h hi hx)
  go_enter Tryd.func109, Tryd.ntmps109
  go_wp2_with fail
  refine h1.out.mono ?_; rintro e w1 ⟨rfl, q, rfl⟩; dsimp only
  go_wp2_with fail
  refine bodyPost_ret (results_none rfl _ _ _) rfl ?_
  exact ⟨rfl, q, rfl⟩

theorem Digit_dec (x : Int) (h0 : 48 ≤ x) (h1 : x ≤ 57) (w : World) :
    Calls Tryd.prog 126 #[.int .u8 x] w fun e w' => e = .returned (.int .i64 (x - 48)) ∧ w = w' := by
  have b0 : IntKind.u8.wrap (x - 48) = x - 48 := IntWalk.u8_in _ (by omega)
  have b1 : IntKind.i64.wrap (x - 48) = x - 48 := IntWalk.i64_in _ (by omega)
  go_enter Tryd.func126, Tryd.ntmps126
  go_wp2_with fail
  go_ret
  exact ⟨rfl, rfl⟩

theorem Digit_13 (w : World) :
    Calls Tryd.prog 126 #[.int .u8 13] w fun e w' => e = .returned (.int .i64 (-1)) ∧ w = w' := by
  go_enter Tryd.func126, Tryd.ntmps126
  go_wp2_with fail
  go_ret
  exact ⟨rfl, rfl⟩

theorem More_0 (x : Int) (h0 : 48 ≤ x) (h1 : x ≤ 57) (w : World) :
    Calls Tryd.prog 128 #[.int .u64 0, .int .u8 x] w fun e w' => e = .returned (.tuple #[.int .u64 (x - 48), .int .i64 0]) ∧ w = w' := by
  have b1 : IntKind.u64.wrap (x - 48) = x - 48 := IntWalk.u64_in _ (by omega)
  have b2 : IntKind.u64.wrap (4611686018427387903 - (x - 48)) = 4611686018427387903 - (x - 48) := IntWalk.u64_in _ (by omega)
  go_enter Tryd.func128, Tryd.ntmps128
  go_wp2_with fail
  refine (Digit_dec x h0 h1 _).mono ?_; rintro e w1 ⟨rfl, rfl⟩; dsimp only
  go_wp2_with fail
  go_ret2
  exact ⟨rfl, rfl⟩

set_option maxHeartbeats 1000000 in
set_option maxRecDepth 100000 in
/-- A size of one digit. -/
theorem size_ok {g o n cap i : Nat} {x : Int} (h : RAt W R (.slice (some ⟨g, o, none⟩) n cap) a b c i data) (hi : i + 1 < n) (hn : n ≤ 1000000) (hg : g ≠ R) (hgl : g < W.heap.size) (h0 : 48 ≤ x) (h1 : x ≤ 57) (hx : W.cell? ⟨g, o + i, none⟩ = some (.int .u8 x)) (hy : W.cell? ⟨g, o + (i + 1), none⟩ = some (.int .u8 13)) :
    Calls Tryd.prog 108 #[.pointer (some ⟨R, 0, none⟩)] W fun e w' => e = .returned (.int .u64 (x - 48)) ∧ RAt w' R (.slice (some ⟨g, o, none⟩) n cap) a b c (i + 1 : Nat) data ∧ Touch (· = R) W w' := by
  have H := Lib.hid h
  have hM := fun W e => Lib.hid (must_ok (.pointer (some ⟨R, 0, none⟩)) e W)
  have b1 : IntKind.i64.wrap ((i : Int) + 1) = (i : Int) + 1 := IntWalk.i64_in _ (by omega)
  clear h
  go_enter Tryd.func108, Tryd.ntmps108
  go_wp2_with fail
  go_loopw [3, 4] (fun m d wr => (m = .int .u64 0 ∧ d = .int .i64 0 ∧ wr = W) ∨ (m = .int .u64 (x - 48) ∧ d = .int .i64 1 ∧ Hid (RAt wr R (.slice (some ⟨g, o, none⟩) n cap) a b c (i + 1 : Nat) data) ∧ Hid (Touch (· = R) W wr))) (fun _ d _ => 2 - (intOf d).toNat)
  case atStart => exact .inl ⟨rfl, rfl, rfl⟩
  case round =>
    rcases hrel with ⟨rfl, rfl, rfl⟩ | ⟨rfl, rfl, hR, hT⟩
    · have hq1 : (0 : Int) ≤ x - 48 := by omega
      go_wp2_with fail
      refine (here_ok H.out (by omega) hx).mono ?_; rintro e w1 ⟨rfl, q, rfl⟩; dsimp only
      go_wp2_with fail
      refine (Digit_dec x h0 h1 _).mono ?_; rintro e w1 ⟨rfl, rfl⟩; dsimp only
      go_wp2_with fail
      refine (here_ok (H.out.drewN q) (by omega) hx).mono ?_; rintro e w1 ⟨rfl, q2, rfl⟩; dsimp only
      go_wp2_with fail
      refine (More_0 x h0 h1 _).mono ?_; rintro e w1 ⟨rfl, rfl⟩; dsimp only
      go_wp2_with fail
      refine (hM _ 3).out.mono ?_; rintro e w1 ⟨rfl, rfl⟩; dsimp only
      have hq := H.out.drewN (q + q2)
      have c4 := hq.c4
      have f4 := hq.f 4
      have HA := Lib.hid (hq.setAt ((i : Int) + 1))
      have HT := Lib.hid (((Touch.refl (fun k => k = R) wr).drewN (q + q2)).setCell (p := ⟨R, 4, none⟩) (.inl rfl) (.int .i64 ((i : Int) + 1)))
      clear hq
      go_wp2_with fail
      go_roundw
      case rel => exact .inr ⟨rfl, rfl, HA, HT⟩
      case measure => decide
    · have hy' := (hT.out.cell (p := ⟨g, o + (i + 1), none⟩) hgl hg).trans hy
      have hH := Lib.hid (here_ok hR.out hi hy')
      clear hx hy hy'
      go_wp2_with fail
      refine hH.out.mono ?_; rintro e w1 ⟨rfl, q, rfl⟩; dsimp only
      go_wp2_with fail
      refine (Digit_13 _).mono ?_; rintro e w1 ⟨rfl, rfl⟩; dsimp only
      go_wp2_with fail
      refine (hM _ 2).out.mono ?_; rintro e w1 ⟨rfl, rfl⟩; dsimp only
      go_wp2_with fail
      go_ret
      exact ⟨rfl, hR.out.drewN q, hT.out.drewN q⟩
end

end Go.Proofs.YtplcfijcmihhlaaDoor
