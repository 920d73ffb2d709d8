/-
  DERIVED. GIVEN WITH THE SEED: THE CARDS: each row of YtdomdaicedeojaaDoorRows.lean that lists a variable, with what it lists TIED to the program's text (the seventh form; the later family's looks); each row that meets fmt, with fmt's text TOLD by the authors' own Lean function (tested against real Go, not proved from fmt's source: count such statements apart). THE CARD IS WHAT COUNTS. Prove the row's statement (the work); the ties are given (YtdomdaicedeojaaDoorTie.lean); close each card by the builder's one call (the guide's Derived/Test/ToyasCard.lean, 'card_holds'). Laid BY PROGRAM, IN A SANDBOX (cutbox-door.mjs). By AI agents, Wed Nov 11 2026. No macro, syntax, notation, axiom, sorry.
-/
import Derived.Test.YtdomdaicedeojaaDoorRows
import GoSem.ClaimSeven
namespace Go.Proofs.YtdomdaicedeojaaDoor
namespace Rows

/-- THE TIED CARD OF 'basculelaw06.TableNames'. -/
def tableNamesCard : Claim7 := { stood := { row := tableNamesRow, standIns := [], harness := (true, "69125b3b60018779d704a36f2bf31b7232715678849abb40a6d676996dc952d9"), looks := false }, kinds := [], alts := [], laidByText := true, laidKinds := [.data], laidTests := true, laidLooks := .later }
def TableNamesCardSaid : Prop := Claim7.holds Tryd.pinned (.plain (OpenSpec.ofChange tableNamesSpec)) tableNamesCard

/-- THE TIED CARD OF 'basculelaw06.TableDoes'. -/
def tableDoesCard : Claim7 := { stood := { row := tableDoesRow, standIns := [], harness := (true, "69125b3b60018779d704a36f2bf31b7232715678849abb40a6d676996dc952d9"), looks := false }, kinds := [], alts := [], laidByText := true, laidKinds := [.data], laidTests := true, laidLooks := .later }
def TableDoesCardSaid : Prop := Claim7.holds Tryd.pinned (.plain (OpenSpec.ofChange tableDoesSpec)) tableDoesCard

/-- THE TIED CARD OF 'basculelaw06.TableRuns'. -/
def tableRunsCard : Claim7 := { stood := { row := tableRunsRow, standIns := [], harness := (true, "69125b3b60018779d704a36f2bf31b7232715678849abb40a6d676996dc952d9"), looks := false }, kinds := [], alts := [], laidByText := true, laidKinds := [.data], laidTests := true, laidLooks := .later }
def TableRunsCardSaid : Prop := Claim7.holds Tryd.pinned (.plain (OpenSpec.ofChange tableRunsSpec)) tableRunsCard

/-- THE TIED CARD OF 'basculelaw06.TableStays'. -/
def tableStaysCard : Claim7 := { stood := { row := tableStaysRow, standIns := [], harness := (true, "69125b3b60018779d704a36f2bf31b7232715678849abb40a6d676996dc952d9"), looks := false }, kinds := [], alts := [], laidByText := true, laidKinds := [.data], laidTests := true, laidLooks := .later }
def TableStaysCardSaid : Prop := Claim7.holds Tryd.pinned (.plain (OpenSpec.ofChange tableStaysSpec)) tableStaysCard

/-- THE TIED CARD OF 'basculelaw06.TableUndoes'. -/
def tableUndoesCard : Claim7 := { stood := { row := tableUndoesRow, standIns := [], harness := (true, "69125b3b60018779d704a36f2bf31b7232715678849abb40a6d676996dc952d9"), looks := false }, kinds := [], alts := [], laidByText := true, laidKinds := [.data], laidTests := true, laidLooks := .later }
def TableUndoesCardSaid : Prop := Claim7.holds Tryd.pinned (.plain (OpenSpec.ofChange tableUndoesSpec)) tableUndoesCard

/-- THE TIED CARD OF 'basculelaw06.TableFinds'. -/
def tableFindsCard : Claim7 := { stood := { row := tableFindsRow, standIns := [], harness := (true, "69125b3b60018779d704a36f2bf31b7232715678849abb40a6d676996dc952d9"), looks := false }, kinds := [], alts := [], laidByText := true, laidKinds := [.data], laidTests := true, laidLooks := .later }
def TableFindsCardSaid : Prop := Claim7.holds Tryd.pinned (.plain (OpenSpec.ofChange tableFindsSpec)) tableFindsCard

/-- THE SECOND FORM's CARD OF 'basculelaw06.TableNames'. -/
def tableNamesUptoCard : Claim7 := { stood := { row := tableNamesUptoRow, standIns := [], harness := (true, "69125b3b60018779d704a36f2bf31b7232715678849abb40a6d676996dc952d9"), looks := false }, kinds := [], alts := [], laidByText := true, laidKinds := [.data], laidTests := true, laidLooks := .later }
def TableNamesUptoCardSaid : Prop := Claim7.holds Tryd.pinned (.plain (OpenSpec.upto tableNamesSpec)) tableNamesUptoCard

/-- THE SECOND FORM's CARD OF 'basculelaw06.TableDoes'. -/
def tableDoesUptoCard : Claim7 := { stood := { row := tableDoesUptoRow, standIns := [], harness := (true, "69125b3b60018779d704a36f2bf31b7232715678849abb40a6d676996dc952d9"), looks := false }, kinds := [], alts := [], laidByText := true, laidKinds := [.data], laidTests := true, laidLooks := .later }
def TableDoesUptoCardSaid : Prop := Claim7.holds Tryd.pinned (.plain (OpenSpec.upto tableDoesSpec)) tableDoesUptoCard

/-- THE SECOND FORM's CARD OF 'basculelaw06.TableRuns'. -/
def tableRunsUptoCard : Claim7 := { stood := { row := tableRunsUptoRow, standIns := [], harness := (true, "69125b3b60018779d704a36f2bf31b7232715678849abb40a6d676996dc952d9"), looks := false }, kinds := [], alts := [], laidByText := true, laidKinds := [.data], laidTests := true, laidLooks := .later }
def TableRunsUptoCardSaid : Prop := Claim7.holds Tryd.pinned (.plain (OpenSpec.upto tableRunsSpec)) tableRunsUptoCard

/-- THE SECOND FORM's CARD OF 'basculelaw06.TableStays'. -/
def tableStaysUptoCard : Claim7 := { stood := { row := tableStaysUptoRow, standIns := [], harness := (true, "69125b3b60018779d704a36f2bf31b7232715678849abb40a6d676996dc952d9"), looks := false }, kinds := [], alts := [], laidByText := true, laidKinds := [.data], laidTests := true, laidLooks := .later }
def TableStaysUptoCardSaid : Prop := Claim7.holds Tryd.pinned (.plain (OpenSpec.upto tableStaysSpec)) tableStaysUptoCard

/-- THE SECOND FORM's CARD OF 'basculelaw06.TableUndoes'. -/
def tableUndoesUptoCard : Claim7 := { stood := { row := tableUndoesUptoRow, standIns := [], harness := (true, "69125b3b60018779d704a36f2bf31b7232715678849abb40a6d676996dc952d9"), looks := false }, kinds := [], alts := [], laidByText := true, laidKinds := [.data], laidTests := true, laidLooks := .later }
def TableUndoesUptoCardSaid : Prop := Claim7.holds Tryd.pinned (.plain (OpenSpec.upto tableUndoesSpec)) tableUndoesUptoCard

/-- THE SECOND FORM's CARD OF 'basculelaw06.TableFinds'. -/
def tableFindsUptoCard : Claim7 := { stood := { row := tableFindsUptoRow, standIns := [], harness := (true, "69125b3b60018779d704a36f2bf31b7232715678849abb40a6d676996dc952d9"), looks := false }, kinds := [], alts := [], laidByText := true, laidKinds := [.data], laidTests := true, laidLooks := .later }
def TableFindsUptoCardSaid : Prop := Claim7.holds Tryd.pinned (.plain (OpenSpec.upto tableFindsSpec)) tableFindsUptoCard
end Rows
end Go.Proofs.YtdomdaicedeojaaDoor
