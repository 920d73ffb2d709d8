/-
  DERIVED. GIVEN WITH THE SEED: THE CARDS: each row of YtkklhhdkokncnaaDoorRows.lean that lists a variable, with what it lists TIED to the program's text (the seventh form; the later family's looks); each row that meets fmt, with fmt's text TOLD by the authors' own Lean function (tested against real Go, not proved from fmt's source: count such statements apart). THE CARD IS WHAT COUNTS. Prove the row's statement (the work); the ties are given (YtkklhhdkokncnaaDoorTie.lean); close each card by the builder's one call (the guide's Derived/Test/ToyasCard.lean, 'card_holds'). Laid BY PROGRAM, IN A SANDBOX (cutbox-door.mjs). By AI agents, Wed Nov 11 2026. No macro, syntax, notation, axiom, sorry.
-/
import Derived.Test.YtkklhhdkokncnaaDoorRows
import GoSem.ClaimSeven
namespace Go.Proofs.YtkklhhdkokncnaaDoor
namespace Rows

/-- THE TIED CARD OF 'basculelaw13.TreeActs'. -/
def treeActsCard : Claim7 := { stood := { row := treeActsRow, standIns := [], harness := (true, "4cbb3d8ed92eefa12c13b70dc6768eac3c0f4fd84c15b39e7cf884b2ebd24ae4"), looks := false }, kinds := [], alts := [], laidByText := true, laidKinds := [.data, .data], laidTests := true, laidLooks := .later }
def TreeActsCardSaid : Prop := Claim7.holds Tryd.pinned (.plain (OpenSpec.ofChange treeActsSpec)) treeActsCard

/-- THE TIED CARD OF 'basculelaw13.TreeGoes'. -/
def treeGoesCard : Claim7 := { stood := { row := treeGoesRow, standIns := [], harness := (true, "4cbb3d8ed92eefa12c13b70dc6768eac3c0f4fd84c15b39e7cf884b2ebd24ae4"), looks := false }, kinds := [], alts := [], laidByText := true, laidKinds := [.data, .data], laidTests := true, laidLooks := .later }
def TreeGoesCardSaid : Prop := Claim7.holds Tryd.pinned (.plain (OpenSpec.ofChange treeGoesSpec)) treeGoesCard

/-- THE TIED CARD OF 'basculelaw13.TreeNames'. -/
def treeNamesCard : Claim7 := { stood := { row := treeNamesRow, standIns := [], harness := (true, "4cbb3d8ed92eefa12c13b70dc6768eac3c0f4fd84c15b39e7cf884b2ebd24ae4"), looks := false }, kinds := [], alts := [], laidByText := true, laidKinds := [.data, .data], laidTests := true, laidLooks := .later }
def TreeNamesCardSaid : Prop := Claim7.holds Tryd.pinned (.plain (OpenSpec.ofChange treeNamesSpec)) treeNamesCard

/-- THE TIED CARD OF 'basculelaw13.TreeSeeks'. -/
def treeSeeksCard : Claim7 := { stood := { row := treeSeeksRow, standIns := [], harness := (true, "4cbb3d8ed92eefa12c13b70dc6768eac3c0f4fd84c15b39e7cf884b2ebd24ae4"), looks := false }, kinds := [], alts := [], laidByText := true, laidKinds := [.data, .data], laidTests := true, laidLooks := .later }
def TreeSeeksCardSaid : Prop := Claim7.holds Tryd.pinned (.plain (OpenSpec.ofChange treeSeeksSpec)) treeSeeksCard

/-- THE TIED CARD OF 'basculelaw13.TreeEnds'. -/
def treeEndsCard : Claim7 := { stood := { row := treeEndsRow, standIns := [], harness := (true, "4cbb3d8ed92eefa12c13b70dc6768eac3c0f4fd84c15b39e7cf884b2ebd24ae4"), looks := false }, kinds := [], alts := [], laidByText := true, laidKinds := [.data, .data], laidTests := true, laidLooks := .later }
def TreeEndsCardSaid : Prop := Claim7.holds Tryd.pinned (.plain (OpenSpec.ofChange treeEndsSpec)) treeEndsCard

/-- THE TIED CARD OF 'basculelaw13.TreeMeans'. -/
def treeMeansCard : Claim7 := { stood := { row := treeMeansRow, standIns := [], harness := (true, "4cbb3d8ed92eefa12c13b70dc6768eac3c0f4fd84c15b39e7cf884b2ebd24ae4"), looks := false }, kinds := [], alts := [], laidByText := true, laidKinds := [.data, .data, .data], laidTests := true, laidLooks := .later }
def TreeMeansCardSaid : Prop := Claim7.holds Tryd.pinned (.plain (OpenSpec.ofChange treeMeansSpec)) treeMeansCard

/-- THE SECOND FORM's CARD OF 'basculelaw13.TreeActs'. -/
def treeActsUptoCard : Claim7 := { stood := { row := treeActsUptoRow, standIns := [], harness := (true, "4cbb3d8ed92eefa12c13b70dc6768eac3c0f4fd84c15b39e7cf884b2ebd24ae4"), looks := false }, kinds := [], alts := [], laidByText := true, laidKinds := [.data, .data], laidTests := true, laidLooks := .later }
def TreeActsUptoCardSaid : Prop := Claim7.holds Tryd.pinned (.plain (OpenSpec.upto treeActsSpec)) treeActsUptoCard

/-- THE SECOND FORM's CARD OF 'basculelaw13.TreeGoes'. -/
def treeGoesUptoCard : Claim7 := { stood := { row := treeGoesUptoRow, standIns := [], harness := (true, "4cbb3d8ed92eefa12c13b70dc6768eac3c0f4fd84c15b39e7cf884b2ebd24ae4"), looks := false }, kinds := [], alts := [], laidByText := true, laidKinds := [.data, .data], laidTests := true, laidLooks := .later }
def TreeGoesUptoCardSaid : Prop := Claim7.holds Tryd.pinned (.plain (OpenSpec.upto treeGoesSpec)) treeGoesUptoCard

/-- THE SECOND FORM's CARD OF 'basculelaw13.TreeNames'. -/
def treeNamesUptoCard : Claim7 := { stood := { row := treeNamesUptoRow, standIns := [], harness := (true, "4cbb3d8ed92eefa12c13b70dc6768eac3c0f4fd84c15b39e7cf884b2ebd24ae4"), looks := false }, kinds := [], alts := [], laidByText := true, laidKinds := [.data, .data], laidTests := true, laidLooks := .later }
def TreeNamesUptoCardSaid : Prop := Claim7.holds Tryd.pinned (.plain (OpenSpec.upto treeNamesSpec)) treeNamesUptoCard

/-- THE SECOND FORM's CARD OF 'basculelaw13.TreeSeeks'. -/
def treeSeeksUptoCard : Claim7 := { stood := { row := treeSeeksUptoRow, standIns := [], harness := (true, "4cbb3d8ed92eefa12c13b70dc6768eac3c0f4fd84c15b39e7cf884b2ebd24ae4"), looks := false }, kinds := [], alts := [], laidByText := true, laidKinds := [.data, .data], laidTests := true, laidLooks := .later }
def TreeSeeksUptoCardSaid : Prop := Claim7.holds Tryd.pinned (.plain (OpenSpec.upto treeSeeksSpec)) treeSeeksUptoCard

/-- THE SECOND FORM's CARD OF 'basculelaw13.TreeEnds'. -/
def treeEndsUptoCard : Claim7 := { stood := { row := treeEndsUptoRow, standIns := [], harness := (true, "4cbb3d8ed92eefa12c13b70dc6768eac3c0f4fd84c15b39e7cf884b2ebd24ae4"), looks := false }, kinds := [], alts := [], laidByText := true, laidKinds := [.data, .data], laidTests := true, laidLooks := .later }
def TreeEndsUptoCardSaid : Prop := Claim7.holds Tryd.pinned (.plain (OpenSpec.upto treeEndsSpec)) treeEndsUptoCard

/-- THE SECOND FORM's CARD OF 'basculelaw13.TreeMeans'. -/
def treeMeansUptoCard : Claim7 := { stood := { row := treeMeansUptoRow, standIns := [], harness := (true, "4cbb3d8ed92eefa12c13b70dc6768eac3c0f4fd84c15b39e7cf884b2ebd24ae4"), looks := false }, kinds := [], alts := [], laidByText := true, laidKinds := [.data, .data, .data], laidTests := true, laidLooks := .later }
def TreeMeansUptoCardSaid : Prop := Claim7.holds Tryd.pinned (.plain (OpenSpec.upto treeMeansSpec)) treeMeansUptoCard
end Rows
end Go.Proofs.YtkklhhdkokncnaaDoor
