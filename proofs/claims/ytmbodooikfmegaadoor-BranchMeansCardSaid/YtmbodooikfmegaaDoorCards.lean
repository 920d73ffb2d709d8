/-
  DERIVED. GIVEN WITH THE SEED: THE CARDS: each row of YtmbodooikfmegaaDoorRows.lean that lists a variable, with what it lists TIED to the program's text (the seventh form; the later family's looks); each row that meets fmt, with fmt's text TOLD by the authors' own Lean function (tested against real Go, not proved from fmt's source: count such statements apart). THE CARD IS WHAT COUNTS. Prove the row's statement (the work); the ties are given (YtmbodooikfmegaaDoorTie.lean); close each card by the builder's one call (the guide's Derived/Test/ToyasCard.lean, 'card_holds'). Laid BY PROGRAM, IN A SANDBOX (cutbox-door.mjs). By AI agents, Wed Nov 11 2026. No macro, syntax, notation, axiom, sorry.
-/
import Derived.Test.YtmbodooikfmegaaDoorRows
import GoSem.ClaimSeven
namespace Go.Proofs.YtmbodooikfmegaaDoor
namespace Rows

/-- THE TIED CARD OF 'basculelaw15.BranchActs'. -/
def branchActsCard : Claim7 := { stood := { row := branchActsRow, standIns := [], harness := (true, "a381fa849d9e3aac6eca2602e21ee81fcb413e7045508d6e3a9555602d9cfc74"), looks := false }, kinds := [], alts := [], laidByText := true, laidKinds := [.data], laidTests := true, laidLooks := .later }
def BranchActsCardSaid : Prop := Claim7.holds Tryd.pinned (.plain (OpenSpec.ofChange branchActsSpec)) branchActsCard

/-- THE TIED CARD OF 'basculelaw15.BranchGoes'. -/
def branchGoesCard : Claim7 := { stood := { row := branchGoesRow, standIns := [], harness := (true, "a381fa849d9e3aac6eca2602e21ee81fcb413e7045508d6e3a9555602d9cfc74"), looks := false }, kinds := [], alts := [], laidByText := true, laidKinds := [.data], laidTests := true, laidLooks := .later }
def BranchGoesCardSaid : Prop := Claim7.holds Tryd.pinned (.plain (OpenSpec.ofChange branchGoesSpec)) branchGoesCard

/-- THE TIED CARD OF 'basculelaw15.BranchNames'. -/
def branchNamesCard : Claim7 := { stood := { row := branchNamesRow, standIns := [], harness := (true, "a381fa849d9e3aac6eca2602e21ee81fcb413e7045508d6e3a9555602d9cfc74"), looks := false }, kinds := [], alts := [], laidByText := true, laidKinds := [.data], laidTests := true, laidLooks := .later }
def BranchNamesCardSaid : Prop := Claim7.holds Tryd.pinned (.plain (OpenSpec.ofChange branchNamesSpec)) branchNamesCard

/-- THE TIED CARD OF 'basculelaw15.BranchRoom'. -/
def branchRoomCard : Claim7 := { stood := { row := branchRoomRow, standIns := [], harness := (true, "a381fa849d9e3aac6eca2602e21ee81fcb413e7045508d6e3a9555602d9cfc74"), looks := false }, kinds := [], alts := [], laidByText := true, laidKinds := [.data], laidTests := true, laidLooks := .later }
def BranchRoomCardSaid : Prop := Claim7.holds Tryd.pinned (.plain (OpenSpec.ofChange branchRoomSpec)) branchRoomCard

/-- THE TIED CARD OF 'basculelaw15.BranchEnds'. -/
def branchEndsCard : Claim7 := { stood := { row := branchEndsRow, standIns := [], harness := (true, "a381fa849d9e3aac6eca2602e21ee81fcb413e7045508d6e3a9555602d9cfc74"), looks := false }, kinds := [], alts := [], laidByText := true, laidKinds := [.data], laidTests := true, laidLooks := .later }
def BranchEndsCardSaid : Prop := Claim7.holds Tryd.pinned (.plain (OpenSpec.ofChange branchEndsSpec)) branchEndsCard

/-- THE TIED CARD OF 'basculelaw15.BranchMeans'. -/
def branchMeansCard : Claim7 := { stood := { row := branchMeansRow, standIns := [], harness := (true, "a381fa849d9e3aac6eca2602e21ee81fcb413e7045508d6e3a9555602d9cfc74"), looks := false }, kinds := [], alts := [], laidByText := true, laidKinds := [.data], laidTests := true, laidLooks := .later }
def BranchMeansCardSaid : Prop := Claim7.holds Tryd.pinned (.plain (OpenSpec.ofChange branchMeansSpec)) branchMeansCard

/-- THE SECOND FORM's CARD OF 'basculelaw15.BranchActs'. -/
def branchActsUptoCard : Claim7 := { stood := { row := branchActsUptoRow, standIns := [], harness := (true, "a381fa849d9e3aac6eca2602e21ee81fcb413e7045508d6e3a9555602d9cfc74"), looks := false }, kinds := [], alts := [], laidByText := true, laidKinds := [.data], laidTests := true, laidLooks := .later }
def BranchActsUptoCardSaid : Prop := Claim7.holds Tryd.pinned (.plain (OpenSpec.upto branchActsSpec)) branchActsUptoCard

/-- THE SECOND FORM's CARD OF 'basculelaw15.BranchGoes'. -/
def branchGoesUptoCard : Claim7 := { stood := { row := branchGoesUptoRow, standIns := [], harness := (true, "a381fa849d9e3aac6eca2602e21ee81fcb413e7045508d6e3a9555602d9cfc74"), looks := false }, kinds := [], alts := [], laidByText := true, laidKinds := [.data], laidTests := true, laidLooks := .later }
def BranchGoesUptoCardSaid : Prop := Claim7.holds Tryd.pinned (.plain (OpenSpec.upto branchGoesSpec)) branchGoesUptoCard

/-- THE SECOND FORM's CARD OF 'basculelaw15.BranchNames'. -/
def branchNamesUptoCard : Claim7 := { stood := { row := branchNamesUptoRow, standIns := [], harness := (true, "a381fa849d9e3aac6eca2602e21ee81fcb413e7045508d6e3a9555602d9cfc74"), looks := false }, kinds := [], alts := [], laidByText := true, laidKinds := [.data], laidTests := true, laidLooks := .later }
def BranchNamesUptoCardSaid : Prop := Claim7.holds Tryd.pinned (.plain (OpenSpec.upto branchNamesSpec)) branchNamesUptoCard

/-- THE SECOND FORM's CARD OF 'basculelaw15.BranchRoom'. -/
def branchRoomUptoCard : Claim7 := { stood := { row := branchRoomUptoRow, standIns := [], harness := (true, "a381fa849d9e3aac6eca2602e21ee81fcb413e7045508d6e3a9555602d9cfc74"), looks := false }, kinds := [], alts := [], laidByText := true, laidKinds := [.data], laidTests := true, laidLooks := .later }
def BranchRoomUptoCardSaid : Prop := Claim7.holds Tryd.pinned (.plain (OpenSpec.upto branchRoomSpec)) branchRoomUptoCard

/-- THE SECOND FORM's CARD OF 'basculelaw15.BranchEnds'. -/
def branchEndsUptoCard : Claim7 := { stood := { row := branchEndsUptoRow, standIns := [], harness := (true, "a381fa849d9e3aac6eca2602e21ee81fcb413e7045508d6e3a9555602d9cfc74"), looks := false }, kinds := [], alts := [], laidByText := true, laidKinds := [.data], laidTests := true, laidLooks := .later }
def BranchEndsUptoCardSaid : Prop := Claim7.holds Tryd.pinned (.plain (OpenSpec.upto branchEndsSpec)) branchEndsUptoCard

/-- THE SECOND FORM's CARD OF 'basculelaw15.BranchMeans'. -/
def branchMeansUptoCard : Claim7 := { stood := { row := branchMeansUptoRow, standIns := [], harness := (true, "a381fa849d9e3aac6eca2602e21ee81fcb413e7045508d6e3a9555602d9cfc74"), looks := false }, kinds := [], alts := [], laidByText := true, laidKinds := [.data], laidTests := true, laidLooks := .later }
def BranchMeansUptoCardSaid : Prop := Claim7.holds Tryd.pinned (.plain (OpenSpec.upto branchMeansSpec)) branchMeansUptoCard
end Rows
end Go.Proofs.YtmbodooikfmegaaDoor
