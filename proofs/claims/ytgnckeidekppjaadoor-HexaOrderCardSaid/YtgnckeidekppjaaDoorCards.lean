/-
  DERIVED. GIVEN WITH THE SEED: THE CARDS: each row of YtgnckeidekppjaaDoorRows.lean that lists a variable, with what it lists TIED to the program's text (the seventh form; the later family's looks); each row that meets fmt, with fmt's text TOLD by the authors' own Lean function (tested against real Go, not proved from fmt's source: count such statements apart). THE CARD IS WHAT COUNTS. Prove the row's statement (the work); the ties are given (YtgnckeidekppjaaDoorTie.lean); close each card by the builder's one call (the guide's Derived/Test/ToyasCard.lean, 'card_holds'). Laid BY PROGRAM, IN A SANDBOX (cutbox-door.mjs). By AI agents, Wed Nov 11 2026. No macro, syntax, notation, axiom, sorry.
-/
import Derived.Test.YtgnckeidekppjaaDoorRows
import GoSem.ClaimSeven
namespace Go.Proofs.YtgnckeidekppjaaDoor
namespace Rows

/-- THE TIED CARD OF 'catchpitlaw01.HexaPuts'. -/
def hexaPutsCard : Claim7 := { stood := { row := hexaPutsRow, standIns := [], harness := (true, "8b6be1237ec6ae53b52cc181080dbb4d691c440cb7485429cc1ccb48f4544df8"), looks := false }, kinds := [], alts := [], laidByText := true, laidKinds := [.data, .data, .data], laidTests := true, laidLooks := .later }
def HexaPutsCardSaid : Prop := Claim7.holds Tryd.pinned (.plain (OpenSpec.ofChange hexaPutsSpec)) hexaPutsCard

/-- THE TIED CARD OF 'catchpitlaw01.HexaOrder'. -/
def hexaOrderCard : Claim7 := { stood := { row := hexaOrderRow, standIns := [], harness := (true, "8b6be1237ec6ae53b52cc181080dbb4d691c440cb7485429cc1ccb48f4544df8"), looks := false }, kinds := [], alts := [], laidByText := true, laidKinds := [.data, .data, .data], laidTests := true, laidLooks := .later }
def HexaOrderCardSaid : Prop := Claim7.holds Tryd.pinned (.plain (OpenSpec.ofChange hexaOrderSpec)) hexaOrderCard

/-- THE SECOND FORM's CARD OF 'catchpitlaw01.HexaPuts'. -/
def hexaPutsUptoCard : Claim7 := { stood := { row := hexaPutsUptoRow, standIns := [], harness := (true, "8b6be1237ec6ae53b52cc181080dbb4d691c440cb7485429cc1ccb48f4544df8"), looks := false }, kinds := [], alts := [], laidByText := true, laidKinds := [.data, .data, .data], laidTests := true, laidLooks := .later }
def HexaPutsUptoCardSaid : Prop := Claim7.holds Tryd.pinned (.plain (OpenSpec.upto hexaPutsSpec)) hexaPutsUptoCard

/-- THE SECOND FORM's CARD OF 'catchpitlaw01.HexaOrder'. -/
def hexaOrderUptoCard : Claim7 := { stood := { row := hexaOrderUptoRow, standIns := [], harness := (true, "8b6be1237ec6ae53b52cc181080dbb4d691c440cb7485429cc1ccb48f4544df8"), looks := false }, kinds := [], alts := [], laidByText := true, laidKinds := [.data, .data, .data], laidTests := true, laidLooks := .later }
def HexaOrderUptoCardSaid : Prop := Claim7.holds Tryd.pinned (.plain (OpenSpec.upto hexaOrderSpec)) hexaOrderUptoCard
end Rows
end Go.Proofs.YtgnckeidekppjaaDoor
