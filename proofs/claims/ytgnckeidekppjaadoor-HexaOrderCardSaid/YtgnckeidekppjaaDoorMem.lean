/-
  Words for bytes in memory: a row of bytes that the call owns; its text.
-/
import Derived.Test.YtgnckeidekppjaaDoorProg
import Derived.Test.YtgnckeidekppjaaDoorCommon
import Derived.WalkKit
import Derived.Below
import Derived.Deep.Draws
import Derived.Laws.BytesArg
import Derived.Laws.OwnMore
import Derived.Deep.AppendLies
import Derived.Maps.AppendAt
import Derived.OwnWalk
import Derived.KernelRfl
namespace Go.Proofs.YtgnckeidekppjaaDoor
open Go.RowKit
set_option linter.unusedVariables false
set_option linter.unusedSimpArgs false

def ba (l : List UInt8) : ByteArray := ⟨l.toArray⟩
theorem ba_list (l : List UInt8) : (ba l).data.toList = l := by simp [ba]
theorem ba_eq {s : ByteArray} {l : List UInt8} (h : s.data.toList = l) : s = ba l := by
  subst h
  cases s
  simp [ba]
theorem ba_size (l : List UInt8) : (ba l).size = l.length := by simp [ba, ByteArray.size]
theorem ba_append (x y : List UInt8) : ba x ++ ba y = ba (x ++ y) := ByteArray.mk_append_mk x y
theorem of_ba (s : ByteArray) : s = ba s.data.toList := ba_eq rfl

def byteV (b : UInt8) : Value := .int .u8 b.toNat
def bvals (l : List UInt8) : List Value := l.map byteV
theorem bvals_len (l : List UInt8) : (bvals l).length = l.length := by simp [bvals]
theorem bvals_append (l k : List UInt8) : bvals (l ++ k) = bvals l ++ bvals k := by simp [bvals]


/-- The text of bytes in memory. -/
theorem conv_cells (W : World) (a : Addr) (l : List UInt8) (cap : Nat) (h : ∀ j u, (bvals l)[j]? = some u → W.cell? (a.add j) = some u) :
    (convert 32 9 (.slice (some a) l.length cap)).run Tryd.prog W = .ok (.string (ba l)) W := by
  have hl : (loadCells a l.length).run Tryd.prog W = .ok ((l.map fun b => (b.toNat : Int)).map (Value.int .u8)).toArray W := by
    have := run_loadCells_list (P := Tryd.prog) W a (bvals l) h
    rw [bvals_len] at this
    rw [this]
    simp [bvals, byteV, Function.comp_def]
  rw [run_convert_bytes_string W 32 9 5 _ l.length cap Tryd.underlying32 Tryd.underlying5 Tryd.underlying9,
    run_bytesToString W _ l.length cap _ hl, foldl_push_bytes]
  simp [ba, ByteArray.empty, ByteArray.emptyWithCapacity, Function.comp_def]
  rfl

theorem conv_own {W : World} {base : Nat} {v : Value} {l : List UInt8} (h : W.ownsRow base 5 1 v l.length (bvals l)) :
    (convert 32 9 v).run Tryd.prog W = .ok (.string (ba l)) W := by
  rcases h.2 with ⟨rfl, hl⟩ | ⟨g, cap, cur, rfl, _⟩
  · have hl' : l = [] := List.eq_nil_of_length_eq_zero hl
    subst hl'
    rw [run_convert_bytes_string W 32 9 5 _ 0 0 Tryd.underlying32 Tryd.underlying5 Tryd.underlying9]
    simp [Conv.bytesToString, ba, go_sem]
    rfl
  · exact conv_cells W _ l cap (h.cells rfl)

theorem Tryd.info_u8 : (Tryd.prog.info? 5).map (fun i => (i.zero, i.size, i.bytes)) = some (some (.int .u8 0), 1, 1) := by kernel_rfl

end Go.Proofs.YtgnckeidekppjaaDoor
