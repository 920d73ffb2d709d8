/-
  DERIVED. GIVEN WITH THE SEED: THE CARDS: each row of YtknfikdignpniaaDoorRows.lean that lists a variable, with what it lists TIED to the program's text (the seventh form; the later family's looks); each row that meets fmt, with fmt's text TOLD by the authors' own Lean function (tested against real Go, not proved from fmt's source: count such statements apart). THE CARD IS WHAT COUNTS. Prove the row's statement (the work); the ties are given (YtknfikdignpniaaDoorTie.lean); close each card by the builder's one call (the guide's Derived/Test/ToyasCard.lean, 'card_holds'). Laid BY PROGRAM, IN A SANDBOX (cutbox-door.mjs). By AI agents, Wed Nov 11 2026. No macro, syntax, notation, axiom, sorry.
-/
import Derived.Test.YtknfikdignpniaaDoorRows
import GoSem.ClaimSeven
namespace Go.Proofs.YtknfikdignpniaaDoor
namespace Rows

/-- THE TIED CARD OF 'basculelaw10.ModelRefuses'. -/
def modelRefusesCard : Claim7 := { stood := { row := modelRefusesRow, standIns := [], harness := (true, "e2dd858bd197dacd2d6745c6cb76d19cd4973076a32d0246f93813d6fb054618"), looks := false }, kinds := [], alts := [], laidByText := true, laidKinds := [.data], laidTests := true, laidLooks := .later }
def ModelRefusesCardSaid : Prop := Claim7.holds Tryd.pinned (.plain (OpenSpec.ofChange modelRefusesSpec)) modelRefusesCard

/-- THE SECOND FORM's CARD OF 'basculelaw10.ModelRefuses'. -/
def modelRefusesUptoCard : Claim7 := { stood := { row := modelRefusesUptoRow, standIns := [], harness := (true, "e2dd858bd197dacd2d6745c6cb76d19cd4973076a32d0246f93813d6fb054618"), looks := false }, kinds := [], alts := [], laidByText := true, laidKinds := [.data], laidTests := true, laidLooks := .later }
def ModelRefusesUptoCardSaid : Prop := Claim7.holds Tryd.pinned (.plain (OpenSpec.upto modelRefusesSpec)) modelRefusesUptoCard
end Rows
end Go.Proofs.YtknfikdignpniaaDoor
