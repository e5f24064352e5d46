/-
  No cell of these rows narrows 'for every input' (looked for: loops, veiled, ifaces, maps, wideKeys, modest, calm, conditions, laid).
  DERIVED. THE GIVEN ROWS OF THIS SEAT. 2 by the template 'for every input the law returns true; each argument reads behind the call as it read before'; 0 by the template 'total and deterministic' (their statements: YtfeljjlpdefnmaaTotals.lean).
  GIVEN WITH THE SEED: the statements are not yours to turn. If you find one false, say at which input.
  Laid BY PROGRAM, IN A SANDBOX (cutbox-rows.mjs): the forced cells as the released guide's own fill.sh prints them over the translation 81629ad3edc8a271… (all of the seat's roots in one cut). By AI agents, Wed Nov 11 2026. No macro, syntax, notation, axiom, sorry.
-/
import Derived.Test.YtfeljjlpdefnmaaChecked
import GoSem.Claim
import GoSem.ClaimJoined
import GoSem.ClaimMapViews
import Derived.JoinedTies
import Derived.KernelRfl
namespace Go.Proofs.Ytfeljjlpdefnmaa
/- THE CELL 'sum', in the pinned program and in every row, IS THE sha256 OF THE DUMP (.gsa) THAT YtfeljjlpdefnmaaProg.lean LOADS. Nothing in Lean hashes anything: it is a label: what it is worth is what the hold of that sum in a sandbox is worth. -/
noncomputable def Try.pinned : Pinned := { name := "ytfeljjlpdefnmaa", sum := "81629ad3edc8a271ae6404eb95779b55713a2befd80d3e90c096373489c14044", checked := Try.checked }
namespace Rows
def none {H : Type} : Left H := { results := [], args := [] }

/-- 'catchpitlaw12.IntakeWants': WHATEVER THE INPUT: true; the input reads as it did. -/
def intakeWantsSpec : ChangeSpec := { name := "intakeWants", fn := fun _ => fun
  | [d1, d2, d3] => { results := [.lit (.bool true)], args := [d1, d2, d3] }
  | _ => none }
def intakeWantsRow : OpenClaim := { program := "ytfeljjlpdefnmaa", sum := "81629ad3edc8a271ae6404eb95779b55713a2befd80d3e90c096373489c14044", func := "catchpit/catchpitlaw12.IntakeWants", spec := "intakeWants", unfollowed := true, recurses := true, apart := false }
def IntakeWantsSaid : Prop := intakeWantsRow.holds Try.pinned (OpenSpec.ofChange intakeWantsSpec)

/-- ITS FALSE NEIGHBOUR: 'it returns false'. Refute it at one input. -/
def intakeWantsWrong : ChangeSpec := { name := "intakeWants", fn := fun _ => fun
  | [d1, d2, d3] => { results := [.lit (.bool false)], args := [d1, d2, d3] }
  | _ => none }
def IntakeWantsWrongFalsely : Prop := intakeWantsRow.holds Try.pinned (OpenSpec.ofChange intakeWantsWrong)

/-- 'catchpitlaw12.IntakeCuts': WHATEVER THE INPUT: true; the input reads as it did. -/
def intakeCutsSpec : ChangeSpec := { name := "intakeCuts", fn := fun _ => fun
  | [d1, d2, d3] => { results := [.lit (.bool true)], args := [d1, d2, d3] }
  | _ => none }
def intakeCutsRow : OpenClaim := { program := "ytfeljjlpdefnmaa", sum := "81629ad3edc8a271ae6404eb95779b55713a2befd80d3e90c096373489c14044", func := "catchpit/catchpitlaw12.IntakeCuts", spec := "intakeCuts", unfollowed := true, recurses := true, apart := false }
def IntakeCutsSaid : Prop := intakeCutsRow.holds Try.pinned (OpenSpec.ofChange intakeCutsSpec)

/-- ITS FALSE NEIGHBOUR: 'it returns false'. Refute it at one input. -/
def intakeCutsWrong : ChangeSpec := { name := "intakeCuts", fn := fun _ => fun
  | [d1, d2, d3] => { results := [.lit (.bool false)], args := [d1, d2, d3] }
  | _ => none }
def IntakeCutsWrongFalsely : Prop := intakeCutsRow.holds Try.pinned (OpenSpec.ofChange intakeCutsWrong)

/- THE SECOND FORM. 'bulk': how many values and letters a reading holds, each counted each time it is reached (what is shared counts as often as it is met; a slice's spare places count too). A statement '..UptoSaid' is the law's where the arguments, and the package variables that the reading takes, are together of bulk at most 1048576: NARROWER than '..Said'. Prove '..Said' where nothing that the law and all that it calls make is longer than what came in: it says more and counts as full. Else prove '..UptoSaid'. A law counts once. -/
mutual
def uptoBulk {H : Type} : DataW H → Nat
  | .lit (.string bytes) => bytes.length + 1
  | .lit _ => 1
  | .nil => 1
  | .ptr d => uptoBulk d + 1
  | .slice elems spare => uptoBulkAll elems + uptoBulkAll spare + 1
  | .agg parts => uptoBulkAll parts + 1
  | .iface _ d => uptoBulk d + 1
  | .map entries => uptoBulkEntries entries + 1
  | .held _ => 1
def uptoBulkAll {H : Type} : List (DataW H) → Nat
  | [] => 0
  | d :: r => uptoBulk d + uptoBulkAll r
def uptoBulkEntries {H : Type} : List (Lit × DataW H) → Nat
  | [] => 0
  | x :: r => uptoBulkEntry x + uptoBulkEntries r
def uptoBulkEntry {H : Type} : Lit × DataW H → Nat
  | (.string bytes, d) => bytes.length + uptoBulk d + 1
  | (_, d) => uptoBulk d + 1
 end
def uptoSmall : (H : Type) → List (DataW H) → Bool := fun _ ds => decide (uptoBulkAll ds ≤ 1048576)
def OpenSpec.upto (s : _root_.Go.ChangeSpec) : _root_.Go.OpenSpec := { _root_.Go.OpenSpec.ofChange s with cond := some uptoSmall }

/-- 'catchpitlaw12.IntakeWants', WHERE WHAT IT READS IS OF BULK AT MOST 1048576: true; the input reads as it did. -/
def intakeWantsUptoRow : OpenClaim := { program := "ytfeljjlpdefnmaa", sum := "81629ad3edc8a271ae6404eb95779b55713a2befd80d3e90c096373489c14044", func := "catchpit/catchpitlaw12.IntakeWants", spec := "intakeWants", unfollowed := true, recurses := true, apart := false, narrowed := true }
def IntakeWantsUptoSaid : Prop := intakeWantsUptoRow.holds Try.pinned (OpenSpec.upto intakeWantsSpec)

/-- 'catchpitlaw12.IntakeCuts', WHERE WHAT IT READS IS OF BULK AT MOST 1048576: true; the input reads as it did. -/
def intakeCutsUptoRow : OpenClaim := { program := "ytfeljjlpdefnmaa", sum := "81629ad3edc8a271ae6404eb95779b55713a2befd80d3e90c096373489c14044", func := "catchpit/catchpitlaw12.IntakeCuts", spec := "intakeCuts", unfollowed := true, recurses := true, apart := false, narrowed := true }
def IntakeCutsUptoSaid : Prop := intakeCutsUptoRow.holds Try.pinned (OpenSpec.upto intakeCutsSpec)

end Rows
end Go.Proofs.Ytfeljjlpdefnmaa
