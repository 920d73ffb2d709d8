/-
  DERIVED. GIVEN WITH THE SEED: THE CARDS: each row of YtpaplhkjaniafaaDoorRows.lean that lists a variable, with what it lists TIED to the program's text (the seventh form; the later family's looks); each row that meets fmt, with fmt's text TOLD by the authors' own Lean function (tested against real Go, not proved from fmt's source: count such statements apart). THE CARD IS WHAT COUNTS. Prove the row's statement (the work); the ties are given (YtpaplhkjaniafaaDoorTie.lean); close each card by the builder's one call (the guide's Derived/Test/ToyasCard.lean, 'card_holds'). Laid BY PROGRAM, IN A SANDBOX (cutbox-door.mjs). By AI agents, Wed Nov 11 2026. No macro, syntax, notation, axiom, sorry.
-/
import Derived.Test.YtpaplhkjaniafaaDoorRows
import GoSem.ClaimSeven
namespace Go.Proofs.YtpaplhkjaniafaaDoor
namespace Rows

/-- THE TIED CARD OF 'basculelaw12.TrieActs'. -/
def trieActsCard : Claim7 := { stood := { row := trieActsRow, standIns := [], harness := (true, "6dd5f98a0c7d74a42a109e5cc6a1507b6b49ee4054094907aab77f068a743ec6"), looks := false }, kinds := [], alts := [], laidByText := true, laidKinds := [.data], laidTests := true, laidLooks := .later }
def TrieActsCardSaid : Prop := Claim7.holds Tryd.pinned (.plain (OpenSpec.ofChange trieActsSpec)) trieActsCard

/-- THE TIED CARD OF 'basculelaw12.TrieGoes'. -/
def trieGoesCard : Claim7 := { stood := { row := trieGoesRow, standIns := [], harness := (true, "6dd5f98a0c7d74a42a109e5cc6a1507b6b49ee4054094907aab77f068a743ec6"), looks := false }, kinds := [], alts := [], laidByText := true, laidKinds := [.data], laidTests := true, laidLooks := .later }
def TrieGoesCardSaid : Prop := Claim7.holds Tryd.pinned (.plain (OpenSpec.ofChange trieGoesSpec)) trieGoesCard

/-- THE TIED CARD OF 'basculelaw12.TrieNames'. -/
def trieNamesCard : Claim7 := { stood := { row := trieNamesRow, standIns := [], harness := (true, "6dd5f98a0c7d74a42a109e5cc6a1507b6b49ee4054094907aab77f068a743ec6"), looks := false }, kinds := [], alts := [], laidByText := true, laidKinds := [.data], laidTests := true, laidLooks := .later }
def TrieNamesCardSaid : Prop := Claim7.holds Tryd.pinned (.plain (OpenSpec.ofChange trieNamesSpec)) trieNamesCard

/-- THE TIED CARD OF 'basculelaw12.TrieEnds'. -/
def trieEndsCard : Claim7 := { stood := { row := trieEndsRow, standIns := [], harness := (true, "6dd5f98a0c7d74a42a109e5cc6a1507b6b49ee4054094907aab77f068a743ec6"), looks := false }, kinds := [], alts := [], laidByText := true, laidKinds := [.data], laidTests := true, laidLooks := .later }
def TrieEndsCardSaid : Prop := Claim7.holds Tryd.pinned (.plain (OpenSpec.ofChange trieEndsSpec)) trieEndsCard

/-- THE TIED CARD OF 'basculelaw12.TrieMeans'. -/
def trieMeansCard : Claim7 := { stood := { row := trieMeansRow, standIns := [], harness := (true, "6dd5f98a0c7d74a42a109e5cc6a1507b6b49ee4054094907aab77f068a743ec6"), looks := false }, kinds := [], alts := [], laidByText := true, laidKinds := [.data], laidTests := true, laidLooks := .later }
def TrieMeansCardSaid : Prop := Claim7.holds Tryd.pinned (.plain (OpenSpec.ofChange trieMeansSpec)) trieMeansCard

/-- THE SECOND FORM's CARD OF 'basculelaw12.TrieActs'. -/
def trieActsUptoCard : Claim7 := { stood := { row := trieActsUptoRow, standIns := [], harness := (true, "6dd5f98a0c7d74a42a109e5cc6a1507b6b49ee4054094907aab77f068a743ec6"), looks := false }, kinds := [], alts := [], laidByText := true, laidKinds := [.data], laidTests := true, laidLooks := .later }
def TrieActsUptoCardSaid : Prop := Claim7.holds Tryd.pinned (.plain (OpenSpec.upto trieActsSpec)) trieActsUptoCard

/-- THE SECOND FORM's CARD OF 'basculelaw12.TrieGoes'. -/
def trieGoesUptoCard : Claim7 := { stood := { row := trieGoesUptoRow, standIns := [], harness := (true, "6dd5f98a0c7d74a42a109e5cc6a1507b6b49ee4054094907aab77f068a743ec6"), looks := false }, kinds := [], alts := [], laidByText := true, laidKinds := [.data], laidTests := true, laidLooks := .later }
def TrieGoesUptoCardSaid : Prop := Claim7.holds Tryd.pinned (.plain (OpenSpec.upto trieGoesSpec)) trieGoesUptoCard

/-- THE SECOND FORM's CARD OF 'basculelaw12.TrieNames'. -/
def trieNamesUptoCard : Claim7 := { stood := { row := trieNamesUptoRow, standIns := [], harness := (true, "6dd5f98a0c7d74a42a109e5cc6a1507b6b49ee4054094907aab77f068a743ec6"), looks := false }, kinds := [], alts := [], laidByText := true, laidKinds := [.data], laidTests := true, laidLooks := .later }
def TrieNamesUptoCardSaid : Prop := Claim7.holds Tryd.pinned (.plain (OpenSpec.upto trieNamesSpec)) trieNamesUptoCard

/-- THE SECOND FORM's CARD OF 'basculelaw12.TrieEnds'. -/
def trieEndsUptoCard : Claim7 := { stood := { row := trieEndsUptoRow, standIns := [], harness := (true, "6dd5f98a0c7d74a42a109e5cc6a1507b6b49ee4054094907aab77f068a743ec6"), looks := false }, kinds := [], alts := [], laidByText := true, laidKinds := [.data], laidTests := true, laidLooks := .later }
def TrieEndsUptoCardSaid : Prop := Claim7.holds Tryd.pinned (.plain (OpenSpec.upto trieEndsSpec)) trieEndsUptoCard

/-- THE SECOND FORM's CARD OF 'basculelaw12.TrieMeans'. -/
def trieMeansUptoCard : Claim7 := { stood := { row := trieMeansUptoRow, standIns := [], harness := (true, "6dd5f98a0c7d74a42a109e5cc6a1507b6b49ee4054094907aab77f068a743ec6"), looks := false }, kinds := [], alts := [], laidByText := true, laidKinds := [.data], laidTests := true, laidLooks := .later }
def TrieMeansUptoCardSaid : Prop := Claim7.holds Tryd.pinned (.plain (OpenSpec.upto trieMeansSpec)) trieMeansUptoCard
end Rows
end Go.Proofs.YtpaplhkjaniafaaDoor
