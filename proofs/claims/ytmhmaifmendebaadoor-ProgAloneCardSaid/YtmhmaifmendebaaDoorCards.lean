/-
  DERIVED. GIVEN WITH THE SEED: THE CARDS: each row of YtmhmaifmendebaaDoorRows.lean that lists a variable, with what it lists TIED to the program's text (the seventh form; the later family's looks); each row that meets fmt, with fmt's text TOLD by the authors' own Lean function (tested against real Go, not proved from fmt's source: count such statements apart). THE CARD IS WHAT COUNTS. Prove the row's statement (the work); the ties are given (YtmhmaifmendebaaDoorTie.lean); close each card by the builder's one call (the guide's Derived/Test/ToyasCard.lean, 'card_holds'). Laid BY PROGRAM, IN A SANDBOX (cutbox-door.mjs). By AI agents, Wed Nov 11 2026. No macro, syntax, notation, axiom, sorry.
-/
import Derived.Test.YtmhmaifmendebaaDoorRows
import GoSem.ClaimSeven
namespace Go.Proofs.YtmhmaifmendebaaDoor
namespace Rows

/-- THE TIED CARD OF 'basculelaw16.ProgNames'. -/
def progNamesCard : Claim7 := { stood := { row := progNamesRow, standIns := [], harness := (true, "31bcfb9a7af9283843baa0247e6ef21ec2f4b4b77c73d5021fcb4e505a435839"), looks := false }, kinds := [], alts := [], laidByText := true, laidKinds := [.data, .data], laidTests := true, laidLooks := .later }
def ProgNamesCardSaid : Prop := Claim7.holds Tryd.pinned (.plain (OpenSpec.ofChange progNamesSpec)) progNamesCard

/-- THE TIED CARD OF 'basculelaw16.ProgStarts'. -/
def progStartsCard : Claim7 := { stood := { row := progStartsRow, standIns := [], harness := (true, "31bcfb9a7af9283843baa0247e6ef21ec2f4b4b77c73d5021fcb4e505a435839"), looks := false }, kinds := [], alts := [], laidByText := true, laidKinds := [.data, .data], laidTests := true, laidLooks := .later }
def ProgStartsCardSaid : Prop := Claim7.holds Tryd.pinned (.plain (OpenSpec.ofChange progStartsSpec)) progStartsCard

/-- THE TIED CARD OF 'basculelaw16.ProgAlone'. -/
def progAloneCard : Claim7 := { stood := { row := progAloneRow, standIns := [], harness := (true, "31bcfb9a7af9283843baa0247e6ef21ec2f4b4b77c73d5021fcb4e505a435839"), looks := false }, kinds := [], alts := [], laidByText := true, laidKinds := [.data, .data], laidTests := true, laidLooks := .later }
def ProgAloneCardSaid : Prop := Claim7.holds Tryd.pinned (.plain (OpenSpec.ofChange progAloneSpec)) progAloneCard

/-- THE TIED CARD OF 'basculelaw16.ProgReads'. -/
def progReadsCard : Claim7 := { stood := { row := progReadsRow, standIns := [], harness := (true, "31bcfb9a7af9283843baa0247e6ef21ec2f4b4b77c73d5021fcb4e505a435839"), looks := false }, kinds := [], alts := [], laidByText := true, laidKinds := [.data, .data, .data], laidTests := true, laidLooks := .later }
def ProgReadsCardSaid : Prop := Claim7.holds Tryd.pinned (.plain (OpenSpec.ofChange progReadsSpec)) progReadsCard

/-- THE SECOND FORM's CARD OF 'basculelaw16.ProgNames'. -/
def progNamesUptoCard : Claim7 := { stood := { row := progNamesUptoRow, standIns := [], harness := (true, "31bcfb9a7af9283843baa0247e6ef21ec2f4b4b77c73d5021fcb4e505a435839"), looks := false }, kinds := [], alts := [], laidByText := true, laidKinds := [.data, .data], laidTests := true, laidLooks := .later }
def ProgNamesUptoCardSaid : Prop := Claim7.holds Tryd.pinned (.plain (OpenSpec.upto progNamesSpec)) progNamesUptoCard

/-- THE SECOND FORM's CARD OF 'basculelaw16.ProgStarts'. -/
def progStartsUptoCard : Claim7 := { stood := { row := progStartsUptoRow, standIns := [], harness := (true, "31bcfb9a7af9283843baa0247e6ef21ec2f4b4b77c73d5021fcb4e505a435839"), looks := false }, kinds := [], alts := [], laidByText := true, laidKinds := [.data, .data], laidTests := true, laidLooks := .later }
def ProgStartsUptoCardSaid : Prop := Claim7.holds Tryd.pinned (.plain (OpenSpec.upto progStartsSpec)) progStartsUptoCard

/-- THE SECOND FORM's CARD OF 'basculelaw16.ProgAlone'. -/
def progAloneUptoCard : Claim7 := { stood := { row := progAloneUptoRow, standIns := [], harness := (true, "31bcfb9a7af9283843baa0247e6ef21ec2f4b4b77c73d5021fcb4e505a435839"), looks := false }, kinds := [], alts := [], laidByText := true, laidKinds := [.data, .data], laidTests := true, laidLooks := .later }
def ProgAloneUptoCardSaid : Prop := Claim7.holds Tryd.pinned (.plain (OpenSpec.upto progAloneSpec)) progAloneUptoCard

/-- THE SECOND FORM's CARD OF 'basculelaw16.ProgReads'. -/
def progReadsUptoCard : Claim7 := { stood := { row := progReadsUptoRow, standIns := [], harness := (true, "31bcfb9a7af9283843baa0247e6ef21ec2f4b4b77c73d5021fcb4e505a435839"), looks := false }, kinds := [], alts := [], laidByText := true, laidKinds := [.data, .data, .data], laidTests := true, laidLooks := .later }
def ProgReadsUptoCardSaid : Prop := Claim7.holds Tryd.pinned (.plain (OpenSpec.upto progReadsSpec)) progReadsUptoCard
end Rows
end Go.Proofs.YtmhmaifmendebaaDoor
