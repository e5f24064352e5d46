/-
  Words that every row of this door seat shares: the listed tables as the door lays them; a cell of math/bits.deBruijn64tab.
-/
import Derived.Test.YtgnckeidekppjaaDoorKit
import Derived.Test.YtgnckeidekppjaaDoorTie
import Derived.LaidMore
import Derived.Stop.Joined
import Derived.Lib.LaidU8
import Derived.Lib.LaidTab
namespace Go.Proofs.YtgnckeidekppjaaDoor
open Go.ChangeShapes Go.WideShapes Go.ChangeAt Go.RowKit
set_option linter.unusedVariables false
set_option linter.unusedSimpArgs false

def doorLaid : List (String × DataW Unit) := [("math/bits.deBruijn32tab", Rows.laid_math_bits_deBruijn32tab), ("math/bits.deBruijn64tab", Rows.laid_math_bits_deBruijn64tab), ("internal/strconv.uint64pow10", Rows.laid_internal_strconv_uint64pow10)]

theorem door_met (os : Os) (args : Array Value) : laidMetH Tryd.prog doorLaid ((World.doorLaid Tryd.prog 400 os).forCall (fun _ _ => 0) ⟨#[], args, []⟩).memory :=
  laidMetH_of_parts3 (fuel := 8) (laidMet_of_run' 8 (by kernel_rfl) (by kernel_rfl)) (by kernel_rfl) (by kernel_rfl)

theorem gDbj : Tryd.prog.globalNamed "math/bits.deBruijn64tab" = some 2 := by kernel_rfl
theorem tDbj : (Tryd.prog.globals[2]?).map (·.type) = some 51 := by kernel_rfl

def dbjZs : List Int := [0, 1, 56, 2, 57, 49, 28, 3, 61, 58, 42, 50, 38, 29, 17, 4, 62, 47, 59, 36, 45, 43, 51, 22, 53, 39, 33, 30, 24, 18, 12, 5, 63, 55, 48, 27, 60, 41, 37, 16, 46, 35, 44, 21, 52, 32, 23, 11, 54, 26, 40, 15, 34, 20, 31, 10, 25, 14, 19, 9, 13, 8, 7, 6]

/-- The sixteenth entry: how many zeros 16 ends with. -/
theorem dbj_cell {W : World} (h : laidMetH Tryd.prog doorLaid W) : W.cell? ⟨2, 15, none⟩ = some (.int .u8 4) := by
  rw [MakeChecks.laidMetH_plain _ _ _ (by kernel_rfl)] at h
  obtain ⟨g, t, cs, fuel, p, hg, hty, hvar, hd⟩ := Lib.laidMet.reads h (n := "math/bits.deBruijn64tab") (d := Rows.laid_math_bits_deBruijn64tab) (List.mem_cons_of_mem _ List.mem_cons_self)
  obtain rfl := Option.some.inj (gDbj.symm.trans hg)
  obtain rfl := Option.some.inj (tDbj.symm.trans hty)
  have hc := Lib.cells_of_tab (k := .u8) (zs := dbjZs) Tryd.underlying51 Tryd.underlying5 (by kernel_rfl) (by kernel_rfl) hd
  have := World.var?_cell hg hvar 15
  rw [this]
  have e : cs = (dbjZs.map fun z => Value.int .u8 z).toArray := by rw [← hc]
  rw [e]
  rfl

end Go.Proofs.YtgnckeidekppjaaDoor
