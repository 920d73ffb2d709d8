/-
  DERIVED. GIVEN WITH THE SEED: THE CARDS: each row of YtmhmaifmendebaaGreatDoorRows.lean that lists a variable, with what it lists TIED to the program's text (the seventh form; the later family's looks); each row that meets fmt, with fmt's text TOLD by the authors' own Lean function (tested against real Go, not proved from fmt's source: count such statements apart). THE CARD IS WHAT COUNTS. Prove the row's statement (the work); the ties are given (YtmhmaifmendebaaGreatDoorTie.lean); close each card by the builder's one call (the guide's Derived/Test/ToyasCard.lean, 'card_holds'). Laid BY PROGRAM, IN A SANDBOX (cutbox-door.mjs). By AI agents, Wed Nov 11 2026. No macro, syntax, notation, axiom, sorry.
-/
import Derived.Test.YtmhmaifmendebaaGreatDoorRows
import GoSem.ClaimSeven
namespace Go.Proofs.YtmhmaifmendebaaGreatDoor
namespace Rows

/-- THE TIED CARD OF 'basculelaw16.ProgActs'. -/
def progActsCard : Claim7 := { stood := { row := progActsRow, standIns := [], harness := (true, "bafc14161ea73898c27794a6fdbb84f2c4850ea5bfa39de7c2260093c4272654"), looks := false }, kinds := [], alts := [], laidByText := true, laidKinds := [.data, .data], laidTests := true, laidLooks := .later }
def ProgActsCardSaid : Prop := Claim7.holds Tryz.pinned (.plain (OpenSpec.ofChange progActsSpec)) progActsCard

/-- THE TIED CARD OF 'basculelaw16.ProgGoes'. -/
def progGoesCard : Claim7 := { stood := { row := progGoesRow, standIns := [], harness := (true, "bafc14161ea73898c27794a6fdbb84f2c4850ea5bfa39de7c2260093c4272654"), looks := false }, kinds := [], alts := [], laidByText := true, laidKinds := [.data, .data], laidTests := true, laidLooks := .later }
def ProgGoesCardSaid : Prop := Claim7.holds Tryz.pinned (.plain (OpenSpec.ofChange progGoesSpec)) progGoesCard

/-- THE SECOND FORM's CARD OF 'basculelaw16.ProgActs'. -/
def progActsUptoCard : Claim7 := { stood := { row := progActsUptoRow, standIns := [], harness := (true, "bafc14161ea73898c27794a6fdbb84f2c4850ea5bfa39de7c2260093c4272654"), looks := false }, kinds := [], alts := [], laidByText := true, laidKinds := [.data, .data], laidTests := true, laidLooks := .later }
def ProgActsUptoCardSaid : Prop := Claim7.holds Tryz.pinned (.plain (OpenSpec.upto progActsSpec)) progActsUptoCard

/-- THE SECOND FORM's CARD OF 'basculelaw16.ProgGoes'. -/
def progGoesUptoCard : Claim7 := { stood := { row := progGoesUptoRow, standIns := [], harness := (true, "bafc14161ea73898c27794a6fdbb84f2c4850ea5bfa39de7c2260093c4272654"), looks := false }, kinds := [], alts := [], laidByText := true, laidKinds := [.data, .data], laidTests := true, laidLooks := .later }
def ProgGoesUptoCardSaid : Prop := Claim7.holds Tryz.pinned (.plain (OpenSpec.upto progGoesSpec)) progGoesUptoCard
end Rows
end Go.Proofs.YtmhmaifmendebaaGreatDoor
