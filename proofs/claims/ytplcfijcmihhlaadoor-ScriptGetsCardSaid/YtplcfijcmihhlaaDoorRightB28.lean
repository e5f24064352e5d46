/-
  Layer 28: what makes a script right (the plain word).
-/
import Derived.Test.YtplcfijcmihhlaaDoorEq28
namespace Go.Proofs.YtplcfijcmihhlaaDoor
open Go.RowKit Go.Proofs.YtplcfijcmihhlaaDoorW.PrintWords
set_option linter.unusedVariables false
set_option linter.unusedSimpArgs false

def inTo (m n : Int) : Bool := decide (0 ≤ n) && decide (n ≤ m)
def rightB (e s : Int) (l2 l4 : List Int) : Bool := inTo 2 e && inTo 2 s && l2.all (inTo 1073741824) && l4.all (inTo 2)

end Go.Proofs.YtplcfijcmihhlaaDoor
