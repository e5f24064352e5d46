/-
  No cell of these rows narrows 'for every input' (looked for: loops, veiled, ifaces, maps, wideKeys, modest, calm, conditions, laid).
  DERIVED. THE GIVEN ROWS OF THIS SEAT. 9 by the template 'for every input the law returns true; each argument reads behind the call as it read before'; 0 by the template 'total and deterministic' (their statements: YtgnckeidekppjaaTotals.lean).
  GIVEN WITH THE SEED: the statements are not yours to turn. If you find one false, say at which input.
  Laid BY PROGRAM, IN A SANDBOX (cutbox-rows.mjs): the forced cells as the released guide's own fill.sh prints them over the translation 76e480b58c24f4ce… (all of the seat's roots in one cut). By AI agents, Wed Nov 11 2026. No macro, syntax, notation, axiom, sorry.
-/
import Derived.Test.YtgnckeidekppjaaChecked
import GoSem.Claim
import GoSem.ClaimJoined
import GoSem.ClaimMapViews
import Derived.JoinedTies
import Derived.KernelRfl
namespace Go.Proofs.Ytgnckeidekppjaa
/- THE CELL 'sum', in the pinned program and in every row, IS THE sha256 OF THE DUMP (.gsa) THAT YtgnckeidekppjaaProg.lean LOADS. Nothing in Lean hashes anything: it is a label: what it is worth is what the hold of that sum in a sandbox is worth. -/
noncomputable def Try.pinned : Pinned := { name := "ytgnckeidekppjaa", sum := "76e480b58c24f4cea675d11d1deec0dfe5ca4dc88ab806a07a2f0a4089a40456", checked := Try.checked }
namespace Rows
def none {H : Type} : Left H := { results := [], args := [] }

/-- 'catchpitlaw01.HexaParses': WHATEVER THE INPUT: true; the input reads as it did. -/
def hexaParsesSpec : ChangeSpec := { name := "hexaParses", fn := fun _ => fun
  | [d] => { results := [.lit (.bool true)], args := [d] }
  | _ => none }
def hexaParsesRow : OpenClaim := { program := "ytgnckeidekppjaa", sum := "76e480b58c24f4cea675d11d1deec0dfe5ca4dc88ab806a07a2f0a4089a40456", func := "catchpit/catchpitlaw01.HexaParses", spec := "hexaParses", apart := false }
def HexaParsesSaid : Prop := hexaParsesRow.holds Try.pinned (OpenSpec.ofChange hexaParsesSpec)

/-- ITS FALSE NEIGHBOUR: 'it returns false'. Refute it at one input. -/
def hexaParsesWrong : ChangeSpec := { name := "hexaParses", fn := fun _ => fun
  | [d] => { results := [.lit (.bool false)], args := [d] }
  | _ => none }
def HexaParsesWrongFalsely : Prop := hexaParsesRow.holds Try.pinned (OpenSpec.ofChange hexaParsesWrong)

/-- 'catchpitlaw01.HexaMore': WHATEVER THE INPUT: true; the input reads as it did. -/
def hexaMoreSpec : ChangeSpec := { name := "hexaMore", fn := fun _ => fun
  | [d1, d2] => { results := [.lit (.bool true)], args := [d1, d2] }
  | _ => none }
def hexaMoreRow : OpenClaim := { program := "ytgnckeidekppjaa", sum := "76e480b58c24f4cea675d11d1deec0dfe5ca4dc88ab806a07a2f0a4089a40456", func := "catchpit/catchpitlaw01.HexaMore", spec := "hexaMore", recurses := true, apart := false }
def HexaMoreSaid : Prop := hexaMoreRow.holds Try.pinned (OpenSpec.ofChange hexaMoreSpec)

/-- ITS FALSE NEIGHBOUR: 'it returns false'. Refute it at one input. -/
def hexaMoreWrong : ChangeSpec := { name := "hexaMore", fn := fun _ => fun
  | [d1, d2] => { results := [.lit (.bool false)], args := [d1, d2] }
  | _ => none }
def HexaMoreWrongFalsely : Prop := hexaMoreRow.holds Try.pinned (OpenSpec.ofChange hexaMoreWrong)

/-- 'catchpitlaw01.HexaNoughts': WHATEVER THE INPUT: true; the input reads as it did. -/
def hexaNoughtsSpec : ChangeSpec := { name := "hexaNoughts", fn := fun _ => fun
  | [d1, d2] => { results := [.lit (.bool true)], args := [d1, d2] }
  | _ => none }
def hexaNoughtsRow : OpenClaim := { program := "ytgnckeidekppjaa", sum := "76e480b58c24f4cea675d11d1deec0dfe5ca4dc88ab806a07a2f0a4089a40456", func := "catchpit/catchpitlaw01.HexaNoughts", spec := "hexaNoughts", recurses := true, apart := false }
def HexaNoughtsSaid : Prop := hexaNoughtsRow.holds Try.pinned (OpenSpec.ofChange hexaNoughtsSpec)

/-- ITS FALSE NEIGHBOUR: 'it returns false'. Refute it at one input. -/
def hexaNoughtsWrong : ChangeSpec := { name := "hexaNoughts", fn := fun _ => fun
  | [d1, d2] => { results := [.lit (.bool false)], args := [d1, d2] }
  | _ => none }
def HexaNoughtsWrongFalsely : Prop := hexaNoughtsRow.holds Try.pinned (OpenSpec.ofChange hexaNoughtsWrong)

/-- 'catchpitlaw23.BoundNeeds': WHATEVER THE INPUT: true; the input reads as it did. -/
def boundNeedsSpec : ChangeSpec := { name := "boundNeeds", fn := fun _ => fun
  | [d1, d2, d3] => { results := [.lit (.bool true)], args := [d1, d2, d3] }
  | _ => none }
def boundNeedsRow : OpenClaim := { program := "ytgnckeidekppjaa", sum := "76e480b58c24f4cea675d11d1deec0dfe5ca4dc88ab806a07a2f0a4089a40456", func := "catchpit/catchpitlaw23.BoundNeeds", spec := "boundNeeds", unfollowed := true, recurses := true, apart := false }
def BoundNeedsSaid : Prop := boundNeedsRow.holds Try.pinned (OpenSpec.ofChange boundNeedsSpec)

/-- ITS FALSE NEIGHBOUR: 'it returns false'. Refute it at one input. -/
def boundNeedsWrong : ChangeSpec := { name := "boundNeeds", fn := fun _ => fun
  | [d1, d2, d3] => { results := [.lit (.bool false)], args := [d1, d2, d3] }
  | _ => none }
def BoundNeedsWrongFalsely : Prop := boundNeedsRow.holds Try.pinned (OpenSpec.ofChange boundNeedsWrong)

/-- 'catchpitlaw23.BoundFair': WHATEVER THE INPUT: true; the input reads as it did. -/
def boundFairSpec : ChangeSpec := { name := "boundFair", fn := fun _ => fun
  | [d1, d2] => { results := [.lit (.bool true)], args := [d1, d2] }
  | _ => none }
def boundFairRow : OpenClaim := { program := "ytgnckeidekppjaa", sum := "76e480b58c24f4cea675d11d1deec0dfe5ca4dc88ab806a07a2f0a4089a40456", func := "catchpit/catchpitlaw23.BoundFair", spec := "boundFair", unfollowed := true, recurses := true, apart := false }
def BoundFairSaid : Prop := boundFairRow.holds Try.pinned (OpenSpec.ofChange boundFairSpec)

/-- ITS FALSE NEIGHBOUR: 'it returns false'. Refute it at one input. -/
def boundFairWrong : ChangeSpec := { name := "boundFair", fn := fun _ => fun
  | [d1, d2] => { results := [.lit (.bool false)], args := [d1, d2] }
  | _ => none }
def BoundFairWrongFalsely : Prop := boundFairRow.holds Try.pinned (OpenSpec.ofChange boundFairWrong)

/-- 'catchpitlaw15.ClockStops': WHATEVER THE INPUT: true; the input reads as it did. -/
def clockStopsSpec : ChangeSpec := { name := "clockStops", fn := fun _ => fun
  | [d1, d2] => { results := [.lit (.bool true)], args := [d1, d2] }
  | _ => none }
def clockStopsRow : OpenClaim := { program := "ytgnckeidekppjaa", sum := "76e480b58c24f4cea675d11d1deec0dfe5ca4dc88ab806a07a2f0a4089a40456", func := "catchpit/catchpitlaw15.ClockStops", spec := "clockStops", unfollowed := true, recurses := true, apart := false }
def ClockStopsSaid : Prop := clockStopsRow.holds Try.pinned (OpenSpec.ofChange clockStopsSpec)

/-- ITS FALSE NEIGHBOUR: 'it returns false'. Refute it at one input. -/
def clockStopsWrong : ChangeSpec := { name := "clockStops", fn := fun _ => fun
  | [d1, d2] => { results := [.lit (.bool false)], args := [d1, d2] }
  | _ => none }
def ClockStopsWrongFalsely : Prop := clockStopsRow.holds Try.pinned (OpenSpec.ofChange clockStopsWrong)

/-- 'catchpitlaw15.ClockSplits': WHATEVER THE INPUT: true; the input reads as it did. -/
def clockSplitsSpec : ChangeSpec := { name := "clockSplits", fn := fun _ => fun
  | [d1, d2, d3] => { results := [.lit (.bool true)], args := [d1, d2, d3] }
  | _ => none }
def clockSplitsRow : OpenClaim := { program := "ytgnckeidekppjaa", sum := "76e480b58c24f4cea675d11d1deec0dfe5ca4dc88ab806a07a2f0a4089a40456", func := "catchpit/catchpitlaw15.ClockSplits", spec := "clockSplits", unfollowed := true, recurses := true, apart := false }
def ClockSplitsSaid : Prop := clockSplitsRow.holds Try.pinned (OpenSpec.ofChange clockSplitsSpec)

/-- ITS FALSE NEIGHBOUR: 'it returns false'. Refute it at one input. -/
def clockSplitsWrong : ChangeSpec := { name := "clockSplits", fn := fun _ => fun
  | [d1, d2, d3] => { results := [.lit (.bool false)], args := [d1, d2, d3] }
  | _ => none }
def ClockSplitsWrongFalsely : Prop := clockSplitsRow.holds Try.pinned (OpenSpec.ofChange clockSplitsWrong)

/-- 'catchpitlaw15.ClockLate': WHATEVER THE INPUT: true; the input reads as it did. -/
def clockLateSpec : ChangeSpec := { name := "clockLate", fn := fun _ => fun
  | [d1, d2] => { results := [.lit (.bool true)], args := [d1, d2] }
  | _ => none }
def clockLateRow : OpenClaim := { program := "ytgnckeidekppjaa", sum := "76e480b58c24f4cea675d11d1deec0dfe5ca4dc88ab806a07a2f0a4089a40456", func := "catchpit/catchpitlaw15.ClockLate", spec := "clockLate", unfollowed := true, recurses := true, apart := false }
def ClockLateSaid : Prop := clockLateRow.holds Try.pinned (OpenSpec.ofChange clockLateSpec)

/-- ITS FALSE NEIGHBOUR: 'it returns false'. Refute it at one input. -/
def clockLateWrong : ChangeSpec := { name := "clockLate", fn := fun _ => fun
  | [d1, d2] => { results := [.lit (.bool false)], args := [d1, d2] }
  | _ => none }
def ClockLateWrongFalsely : Prop := clockLateRow.holds Try.pinned (OpenSpec.ofChange clockLateWrong)

/-- 'catchpitlaw15.ClockActs': WHATEVER THE INPUT: true; the input reads as it did. -/
def clockActsSpec : ChangeSpec := { name := "clockActs", fn := fun _ => fun
  | [d] => { results := [.lit (.bool true)], args := [d] }
  | _ => none }
def clockActsRow : OpenClaim := { program := "ytgnckeidekppjaa", sum := "76e480b58c24f4cea675d11d1deec0dfe5ca4dc88ab806a07a2f0a4089a40456", func := "catchpit/catchpitlaw15.ClockActs", spec := "clockActs", unfollowed := true, recurses := true, apart := false }
def ClockActsSaid : Prop := clockActsRow.holds Try.pinned (OpenSpec.ofChange clockActsSpec)

/-- ITS FALSE NEIGHBOUR: 'it returns false'. Refute it at one input. -/
def clockActsWrong : ChangeSpec := { name := "clockActs", fn := fun _ => fun
  | [d] => { results := [.lit (.bool false)], args := [d] }
  | _ => none }
def ClockActsWrongFalsely : Prop := clockActsRow.holds Try.pinned (OpenSpec.ofChange clockActsWrong)

/- THE SECOND FORM. 'bulk': how many values and letters a reading holds, each counted each time it is reached (what is shared counts as often as it is met; a slice's spare places count too). A statement '..UptoSaid' is the law's where the arguments, and the package variables that the reading takes, are together of bulk at most 1048576: NARROWER than '..Said'. Prove '..Said' where nothing that the law and all that it calls make is longer than what came in: it says more and counts as full. Else prove '..UptoSaid'. A law counts once. -/
mutual
def uptoBulk {H : Type} : DataW H → Nat
  | .lit (.string bytes) => bytes.length + 1
  | .lit _ => 1
  | .nil => 1
  | .ptr d => uptoBulk d + 1
  | .slice elems spare => uptoBulkAll elems + uptoBulkAll spare + 1
  | .agg parts => uptoBulkAll parts + 1
  | .iface _ d => uptoBulk d + 1
  | .map entries => uptoBulkEntries entries + 1
  | .held _ => 1
def uptoBulkAll {H : Type} : List (DataW H) → Nat
  | [] => 0
  | d :: r => uptoBulk d + uptoBulkAll r
def uptoBulkEntries {H : Type} : List (Lit × DataW H) → Nat
  | [] => 0
  | x :: r => uptoBulkEntry x + uptoBulkEntries r
def uptoBulkEntry {H : Type} : Lit × DataW H → Nat
  | (.string bytes, d) => bytes.length + uptoBulk d + 1
  | (_, d) => uptoBulk d + 1
 end
def uptoSmall : (H : Type) → List (DataW H) → Bool := fun _ ds => decide (uptoBulkAll ds ≤ 1048576)
def OpenSpec.upto (s : _root_.Go.ChangeSpec) : _root_.Go.OpenSpec := { _root_.Go.OpenSpec.ofChange s with cond := some uptoSmall }

/-- 'catchpitlaw01.HexaParses', WHERE WHAT IT READS IS OF BULK AT MOST 1048576: true; the input reads as it did. -/
def hexaParsesUptoRow : OpenClaim := { program := "ytgnckeidekppjaa", sum := "76e480b58c24f4cea675d11d1deec0dfe5ca4dc88ab806a07a2f0a4089a40456", func := "catchpit/catchpitlaw01.HexaParses", spec := "hexaParses", apart := false, narrowed := true }
def HexaParsesUptoSaid : Prop := hexaParsesUptoRow.holds Try.pinned (OpenSpec.upto hexaParsesSpec)

/-- 'catchpitlaw01.HexaMore', WHERE WHAT IT READS IS OF BULK AT MOST 1048576: true; the input reads as it did. -/
def hexaMoreUptoRow : OpenClaim := { program := "ytgnckeidekppjaa", sum := "76e480b58c24f4cea675d11d1deec0dfe5ca4dc88ab806a07a2f0a4089a40456", func := "catchpit/catchpitlaw01.HexaMore", spec := "hexaMore", recurses := true, apart := false, narrowed := true }
def HexaMoreUptoSaid : Prop := hexaMoreUptoRow.holds Try.pinned (OpenSpec.upto hexaMoreSpec)

/-- 'catchpitlaw01.HexaNoughts', WHERE WHAT IT READS IS OF BULK AT MOST 1048576: true; the input reads as it did. -/
def hexaNoughtsUptoRow : OpenClaim := { program := "ytgnckeidekppjaa", sum := "76e480b58c24f4cea675d11d1deec0dfe5ca4dc88ab806a07a2f0a4089a40456", func := "catchpit/catchpitlaw01.HexaNoughts", spec := "hexaNoughts", recurses := true, apart := false, narrowed := true }
def HexaNoughtsUptoSaid : Prop := hexaNoughtsUptoRow.holds Try.pinned (OpenSpec.upto hexaNoughtsSpec)

/-- 'catchpitlaw23.BoundNeeds', WHERE WHAT IT READS IS OF BULK AT MOST 1048576: true; the input reads as it did. -/
def boundNeedsUptoRow : OpenClaim := { program := "ytgnckeidekppjaa", sum := "76e480b58c24f4cea675d11d1deec0dfe5ca4dc88ab806a07a2f0a4089a40456", func := "catchpit/catchpitlaw23.BoundNeeds", spec := "boundNeeds", unfollowed := true, recurses := true, apart := false, narrowed := true }
def BoundNeedsUptoSaid : Prop := boundNeedsUptoRow.holds Try.pinned (OpenSpec.upto boundNeedsSpec)

/-- 'catchpitlaw23.BoundFair', WHERE WHAT IT READS IS OF BULK AT MOST 1048576: true; the input reads as it did. -/
def boundFairUptoRow : OpenClaim := { program := "ytgnckeidekppjaa", sum := "76e480b58c24f4cea675d11d1deec0dfe5ca4dc88ab806a07a2f0a4089a40456", func := "catchpit/catchpitlaw23.BoundFair", spec := "boundFair", unfollowed := true, recurses := true, apart := false, narrowed := true }
def BoundFairUptoSaid : Prop := boundFairUptoRow.holds Try.pinned (OpenSpec.upto boundFairSpec)

/-- 'catchpitlaw15.ClockStops', WHERE WHAT IT READS IS OF BULK AT MOST 1048576: true; the input reads as it did. -/
def clockStopsUptoRow : OpenClaim := { program := "ytgnckeidekppjaa", sum := "76e480b58c24f4cea675d11d1deec0dfe5ca4dc88ab806a07a2f0a4089a40456", func := "catchpit/catchpitlaw15.ClockStops", spec := "clockStops", unfollowed := true, recurses := true, apart := false, narrowed := true }
def ClockStopsUptoSaid : Prop := clockStopsUptoRow.holds Try.pinned (OpenSpec.upto clockStopsSpec)

/-- 'catchpitlaw15.ClockSplits', WHERE WHAT IT READS IS OF BULK AT MOST 1048576: true; the input reads as it did. -/
def clockSplitsUptoRow : OpenClaim := { program := "ytgnckeidekppjaa", sum := "76e480b58c24f4cea675d11d1deec0dfe5ca4dc88ab806a07a2f0a4089a40456", func := "catchpit/catchpitlaw15.ClockSplits", spec := "clockSplits", unfollowed := true, recurses := true, apart := false, narrowed := true }
def ClockSplitsUptoSaid : Prop := clockSplitsUptoRow.holds Try.pinned (OpenSpec.upto clockSplitsSpec)

/-- 'catchpitlaw15.ClockLate', WHERE WHAT IT READS IS OF BULK AT MOST 1048576: true; the input reads as it did. -/
def clockLateUptoRow : OpenClaim := { program := "ytgnckeidekppjaa", sum := "76e480b58c24f4cea675d11d1deec0dfe5ca4dc88ab806a07a2f0a4089a40456", func := "catchpit/catchpitlaw15.ClockLate", spec := "clockLate", unfollowed := true, recurses := true, apart := false, narrowed := true }
def ClockLateUptoSaid : Prop := clockLateUptoRow.holds Try.pinned (OpenSpec.upto clockLateSpec)

/-- 'catchpitlaw15.ClockActs', WHERE WHAT IT READS IS OF BULK AT MOST 1048576: true; the input reads as it did. -/
def clockActsUptoRow : OpenClaim := { program := "ytgnckeidekppjaa", sum := "76e480b58c24f4cea675d11d1deec0dfe5ca4dc88ab806a07a2f0a4089a40456", func := "catchpit/catchpitlaw15.ClockActs", spec := "clockActs", unfollowed := true, recurses := true, apart := false, narrowed := true }
def ClockActsUptoSaid : Prop := clockActsUptoRow.holds Try.pinned (OpenSpec.upto clockActsSpec)

end Rows
end Go.Proofs.Ytgnckeidekppjaa
