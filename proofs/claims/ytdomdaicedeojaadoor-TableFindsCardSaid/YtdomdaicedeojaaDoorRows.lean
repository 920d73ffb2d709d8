/-
  NARROWER THAN 'FOR EVERY INPUT', by the rows' own cells (each row's printed sentence says how): TableNames: laid · TableDoes: laid · TableRuns: laid · TableStays: laid · TableUndoes: laid · TableFinds: laid.
  DERIVED. THE GIVEN ROWS OF THIS SEAT. 6 by the template 'for every input the law returns true; each argument reads behind the call as it read before'; 0 by the template 'total and deterministic' (their statements: YtdomdaicedeojaaDoorTotals.lean).
  GIVEN WITH THE SEED: the statements are not yours to turn. If you find one false, say at which input.
  Laid BY PROGRAM, IN A SANDBOX (cutbox-rows.mjs): the forced cells as the released guide's own fill.sh prints them over the translation d69fe454ff34a62c… (all of the seat's roots in one cut). By AI agents, Wed Nov 11 2026. No macro, syntax, notation, axiom, sorry.
-/
import Derived.Test.YtdomdaicedeojaaDoorChecked
import GoSem.Claim
import GoSem.ClaimJoined
import GoSem.ClaimMapViews
import Derived.JoinedTies
import Derived.KernelRfl
namespace Go.Proofs.YtdomdaicedeojaaDoor
/- THE CELL 'sum', in the pinned program and in every row, IS THE sha256 OF THE DUMP (.gsa) THAT YtdomdaicedeojaaDoorProg.lean LOADS. Nothing in Lean hashes anything: it is a label: what it is worth is what the hold of that sum in a sandbox is worth. -/
noncomputable def Tryd.pinned : Pinned := { name := "ytdomdaicedeojaadoor", sum := "d69fe454ff34a62c35d8ebe07fa71f5695ecb56fd60bf04270a022df7c744651", checked := Tryd.checked }
namespace Rows
def none {H : Type} : Left H := { results := [], args := [] }

/- WHAT THE LISTED PACKAGE-LEVEL VARIABLES READ AS WHEN THE CALL BEGINS. Each datum BY PROGRAM (the guide's laid-datum.mjs) off the statement by which the dump's own 'gosem.cut.vars' lays the variable. In a bare row this is a premise. The card (YtdomdaicedeojaaDoorCards.lean) ties it to the program's text. -/
def laid_bascule_op_objects {H : Type} : DataW H := .agg [.lit (.int .u8 0), .lit (.int .u8 1), .lit (.int .u8 1), .lit (.int .u8 1), .lit (.int .u8 2), .lit (.int .u8 2), .lit (.int .u8 2), .lit (.int .u8 2), .lit (.int .u8 2), .lit (.int .u8 3), .lit (.int .u8 3), .lit (.int .u8 3), .lit (.int .u8 4), .lit (.int .u8 4), .lit (.int .u8 4)]

/-- 'basculelaw06.TableNames': WHATEVER THE INPUT: true; the input reads as it did. -/
def tableNamesSpec : ChangeSpec := { name := "tableNames", fn := fun _ => fun
  | [] => { results := [.lit (.bool true)], args := [] }
  | _ => none }
def tableNamesRow : OpenClaim := { program := "ytdomdaicedeojaadoor", sum := "d69fe454ff34a62c35d8ebe07fa71f5695ecb56fd60bf04270a022df7c744651", func := "bascule/basculelaw06.TableNames", spec := "tableNames", inPlace := ["slices.overlaps[bascule/api.Row]"], unfollowed := true, recurses := true, named := ["bascule/op.objects"], apart := false, laid := [("bascule/op.objects", laid_bascule_op_objects)] }
def TableNamesSaid : Prop := tableNamesRow.holds Tryd.pinned (OpenSpec.ofChange tableNamesSpec)

/-- ITS FALSE NEIGHBOUR: 'it returns false'. Refute it at one input. -/
def tableNamesWrong : ChangeSpec := { name := "tableNames", fn := fun _ => fun
  | [] => { results := [.lit (.bool false)], args := [] }
  | _ => none }
def TableNamesWrongFalsely : Prop := tableNamesRow.holds Tryd.pinned (OpenSpec.ofChange tableNamesWrong)

/-- 'basculelaw06.TableDoes': WHATEVER THE INPUT: true; the input reads as it did. -/
def tableDoesSpec : ChangeSpec := { name := "tableDoes", fn := fun _ => fun
  | [d1, d2, d3] => { results := [.lit (.bool true)], args := [d1, d2, d3] }
  | _ => none }
def tableDoesRow : OpenClaim := { program := "ytdomdaicedeojaadoor", sum := "d69fe454ff34a62c35d8ebe07fa71f5695ecb56fd60bf04270a022df7c744651", func := "bascule/basculelaw06.TableDoes", spec := "tableDoes", inPlace := ["slices.overlaps[bascule/api.Row]"], unfollowed := true, recurses := true, named := ["bascule/op.objects"], apart := false, laid := [("bascule/op.objects", laid_bascule_op_objects)] }
def TableDoesSaid : Prop := tableDoesRow.holds Tryd.pinned (OpenSpec.ofChange tableDoesSpec)

/-- ITS FALSE NEIGHBOUR: 'it returns false'. Refute it at one input. -/
def tableDoesWrong : ChangeSpec := { name := "tableDoes", fn := fun _ => fun
  | [d1, d2, d3] => { results := [.lit (.bool false)], args := [d1, d2, d3] }
  | _ => none }
def TableDoesWrongFalsely : Prop := tableDoesRow.holds Tryd.pinned (OpenSpec.ofChange tableDoesWrong)

/-- 'basculelaw06.TableRuns': WHATEVER THE INPUT: true; the input reads as it did. -/
def tableRunsSpec : ChangeSpec := { name := "tableRuns", fn := fun _ => fun
  | [d1, d2] => { results := [.lit (.bool true)], args := [d1, d2] }
  | _ => none }
def tableRunsRow : OpenClaim := { program := "ytdomdaicedeojaadoor", sum := "d69fe454ff34a62c35d8ebe07fa71f5695ecb56fd60bf04270a022df7c744651", func := "bascule/basculelaw06.TableRuns", spec := "tableRuns", inPlace := ["slices.overlaps[bascule/api.Row]"], unfollowed := true, recurses := true, named := ["bascule/op.objects"], apart := false, laid := [("bascule/op.objects", laid_bascule_op_objects)] }
def TableRunsSaid : Prop := tableRunsRow.holds Tryd.pinned (OpenSpec.ofChange tableRunsSpec)

/-- ITS FALSE NEIGHBOUR: 'it returns false'. Refute it at one input. -/
def tableRunsWrong : ChangeSpec := { name := "tableRuns", fn := fun _ => fun
  | [d1, d2] => { results := [.lit (.bool false)], args := [d1, d2] }
  | _ => none }
def TableRunsWrongFalsely : Prop := tableRunsRow.holds Tryd.pinned (OpenSpec.ofChange tableRunsWrong)

/-- 'basculelaw06.TableStays': WHATEVER THE INPUT: true; the input reads as it did. -/
def tableStaysSpec : ChangeSpec := { name := "tableStays", fn := fun _ => fun
  | [d1, d2, d3] => { results := [.lit (.bool true)], args := [d1, d2, d3] }
  | _ => none }
def tableStaysRow : OpenClaim := { program := "ytdomdaicedeojaadoor", sum := "d69fe454ff34a62c35d8ebe07fa71f5695ecb56fd60bf04270a022df7c744651", func := "bascule/basculelaw06.TableStays", spec := "tableStays", inPlace := ["slices.overlaps[bascule/api.Row]"], unfollowed := true, recurses := true, named := ["bascule/op.objects"], apart := false, laid := [("bascule/op.objects", laid_bascule_op_objects)] }
def TableStaysSaid : Prop := tableStaysRow.holds Tryd.pinned (OpenSpec.ofChange tableStaysSpec)

/-- ITS FALSE NEIGHBOUR: 'it returns false'. Refute it at one input. -/
def tableStaysWrong : ChangeSpec := { name := "tableStays", fn := fun _ => fun
  | [d1, d2, d3] => { results := [.lit (.bool false)], args := [d1, d2, d3] }
  | _ => none }
def TableStaysWrongFalsely : Prop := tableStaysRow.holds Tryd.pinned (OpenSpec.ofChange tableStaysWrong)

/-- 'basculelaw06.TableUndoes': WHATEVER THE INPUT: true; the input reads as it did. -/
def tableUndoesSpec : ChangeSpec := { name := "tableUndoes", fn := fun _ => fun
  | [d1, d2, d3] => { results := [.lit (.bool true)], args := [d1, d2, d3] }
  | _ => none }
def tableUndoesRow : OpenClaim := { program := "ytdomdaicedeojaadoor", sum := "d69fe454ff34a62c35d8ebe07fa71f5695ecb56fd60bf04270a022df7c744651", func := "bascule/basculelaw06.TableUndoes", spec := "tableUndoes", inPlace := ["slices.overlaps[bascule/api.Row]"], unfollowed := true, recurses := true, named := ["bascule/op.objects"], apart := false, laid := [("bascule/op.objects", laid_bascule_op_objects)] }
def TableUndoesSaid : Prop := tableUndoesRow.holds Tryd.pinned (OpenSpec.ofChange tableUndoesSpec)

/-- ITS FALSE NEIGHBOUR: 'it returns false'. Refute it at one input. -/
def tableUndoesWrong : ChangeSpec := { name := "tableUndoes", fn := fun _ => fun
  | [d1, d2, d3] => { results := [.lit (.bool false)], args := [d1, d2, d3] }
  | _ => none }
def TableUndoesWrongFalsely : Prop := tableUndoesRow.holds Tryd.pinned (OpenSpec.ofChange tableUndoesWrong)

/-- 'basculelaw06.TableFinds': WHATEVER THE INPUT: true; the input reads as it did. -/
def tableFindsSpec : ChangeSpec := { name := "tableFinds", fn := fun _ => fun
  | [d1, d2, d3] => { results := [.lit (.bool true)], args := [d1, d2, d3] }
  | _ => none }
def tableFindsRow : OpenClaim := { program := "ytdomdaicedeojaadoor", sum := "d69fe454ff34a62c35d8ebe07fa71f5695ecb56fd60bf04270a022df7c744651", func := "bascule/basculelaw06.TableFinds", spec := "tableFinds", inPlace := ["slices.overlaps[bascule/api.Row]"], unfollowed := true, recurses := true, named := ["bascule/op.objects"], apart := false, laid := [("bascule/op.objects", laid_bascule_op_objects)] }
def TableFindsSaid : Prop := tableFindsRow.holds Tryd.pinned (OpenSpec.ofChange tableFindsSpec)

/-- ITS FALSE NEIGHBOUR: 'it returns false'. Refute it at one input. -/
def tableFindsWrong : ChangeSpec := { name := "tableFinds", fn := fun _ => fun
  | [d1, d2, d3] => { results := [.lit (.bool false)], args := [d1, d2, d3] }
  | _ => none }
def TableFindsWrongFalsely : Prop := tableFindsRow.holds Tryd.pinned (OpenSpec.ofChange tableFindsWrong)

/- THE SECOND FORM. 'bulk': how many values and letters a reading holds, each counted each time it is reached (what is shared counts as often as it is met; a slice's spare places count too). A statement '..UptoSaid' is the law's where the arguments, and the package variables that the reading takes, are together of bulk at most 1048576: NARROWER than '..Said'. Prove '..Said' where nothing that the law and all that it calls make is longer than what came in: it says more and counts as full. Else prove '..UptoSaid'. A law counts once. -/
mutual
def uptoBulk {H : Type} : DataW H → Nat
  | .lit (.string bytes) => bytes.length + 1
  | .lit _ => 1
  | .nil => 1
  | .ptr d => uptoBulk d + 1
  | .slice elems spare => uptoBulkAll elems + uptoBulkAll spare + 1
  | .agg parts => uptoBulkAll parts + 1
  | .iface _ d => uptoBulk d + 1
  | .map entries => uptoBulkEntries entries + 1
  | .held _ => 1
def uptoBulkAll {H : Type} : List (DataW H) → Nat
  | [] => 0
  | d :: r => uptoBulk d + uptoBulkAll r
def uptoBulkEntries {H : Type} : List (Lit × DataW H) → Nat
  | [] => 0
  | x :: r => uptoBulkEntry x + uptoBulkEntries r
def uptoBulkEntry {H : Type} : Lit × DataW H → Nat
  | (.string bytes, d) => bytes.length + uptoBulk d + 1
  | (_, d) => uptoBulk d + 1
 end
def uptoSmall : (H : Type) → List (DataW H) → Bool := fun _ ds => decide (uptoBulkAll ds ≤ 1048576)
def OpenSpec.upto (s : _root_.Go.ChangeSpec) : _root_.Go.OpenSpec := { _root_.Go.OpenSpec.ofChange s with cond := some uptoSmall }

/-- 'basculelaw06.TableNames', WHERE WHAT IT READS IS OF BULK AT MOST 1048576: true; the input reads as it did. -/
def tableNamesUptoRow : OpenClaim := { program := "ytdomdaicedeojaadoor", sum := "d69fe454ff34a62c35d8ebe07fa71f5695ecb56fd60bf04270a022df7c744651", func := "bascule/basculelaw06.TableNames", spec := "tableNames", inPlace := ["slices.overlaps[bascule/api.Row]"], unfollowed := true, recurses := true, named := ["bascule/op.objects"], apart := false, laid := [("bascule/op.objects", laid_bascule_op_objects)], narrowed := true }
def TableNamesUptoSaid : Prop := tableNamesUptoRow.holds Tryd.pinned (OpenSpec.upto tableNamesSpec)

/-- 'basculelaw06.TableDoes', WHERE WHAT IT READS IS OF BULK AT MOST 1048576: true; the input reads as it did. -/
def tableDoesUptoRow : OpenClaim := { program := "ytdomdaicedeojaadoor", sum := "d69fe454ff34a62c35d8ebe07fa71f5695ecb56fd60bf04270a022df7c744651", func := "bascule/basculelaw06.TableDoes", spec := "tableDoes", inPlace := ["slices.overlaps[bascule/api.Row]"], unfollowed := true, recurses := true, named := ["bascule/op.objects"], apart := false, laid := [("bascule/op.objects", laid_bascule_op_objects)], narrowed := true }
def TableDoesUptoSaid : Prop := tableDoesUptoRow.holds Tryd.pinned (OpenSpec.upto tableDoesSpec)

/-- 'basculelaw06.TableRuns', WHERE WHAT IT READS IS OF BULK AT MOST 1048576: true; the input reads as it did. -/
def tableRunsUptoRow : OpenClaim := { program := "ytdomdaicedeojaadoor", sum := "d69fe454ff34a62c35d8ebe07fa71f5695ecb56fd60bf04270a022df7c744651", func := "bascule/basculelaw06.TableRuns", spec := "tableRuns", inPlace := ["slices.overlaps[bascule/api.Row]"], unfollowed := true, recurses := true, named := ["bascule/op.objects"], apart := false, laid := [("bascule/op.objects", laid_bascule_op_objects)], narrowed := true }
def TableRunsUptoSaid : Prop := tableRunsUptoRow.holds Tryd.pinned (OpenSpec.upto tableRunsSpec)

/-- 'basculelaw06.TableStays', WHERE WHAT IT READS IS OF BULK AT MOST 1048576: true; the input reads as it did. -/
def tableStaysUptoRow : OpenClaim := { program := "ytdomdaicedeojaadoor", sum := "d69fe454ff34a62c35d8ebe07fa71f5695ecb56fd60bf04270a022df7c744651", func := "bascule/basculelaw06.TableStays", spec := "tableStays", inPlace := ["slices.overlaps[bascule/api.Row]"], unfollowed := true, recurses := true, named := ["bascule/op.objects"], apart := false, laid := [("bascule/op.objects", laid_bascule_op_objects)], narrowed := true }
def TableStaysUptoSaid : Prop := tableStaysUptoRow.holds Tryd.pinned (OpenSpec.upto tableStaysSpec)

/-- 'basculelaw06.TableUndoes', WHERE WHAT IT READS IS OF BULK AT MOST 1048576: true; the input reads as it did. -/
def tableUndoesUptoRow : OpenClaim := { program := "ytdomdaicedeojaadoor", sum := "d69fe454ff34a62c35d8ebe07fa71f5695ecb56fd60bf04270a022df7c744651", func := "bascule/basculelaw06.TableUndoes", spec := "tableUndoes", inPlace := ["slices.overlaps[bascule/api.Row]"], unfollowed := true, recurses := true, named := ["bascule/op.objects"], apart := false, laid := [("bascule/op.objects", laid_bascule_op_objects)], narrowed := true }
def TableUndoesUptoSaid : Prop := tableUndoesUptoRow.holds Tryd.pinned (OpenSpec.upto tableUndoesSpec)

/-- 'basculelaw06.TableFinds', WHERE WHAT IT READS IS OF BULK AT MOST 1048576: true; the input reads as it did. -/
def tableFindsUptoRow : OpenClaim := { program := "ytdomdaicedeojaadoor", sum := "d69fe454ff34a62c35d8ebe07fa71f5695ecb56fd60bf04270a022df7c744651", func := "bascule/basculelaw06.TableFinds", spec := "tableFinds", inPlace := ["slices.overlaps[bascule/api.Row]"], unfollowed := true, recurses := true, named := ["bascule/op.objects"], apart := false, laid := [("bascule/op.objects", laid_bascule_op_objects)], narrowed := true }
def TableFindsUptoSaid : Prop := tableFindsUptoRow.holds Tryd.pinned (OpenSpec.upto tableFindsSpec)

end Rows
end Go.Proofs.YtdomdaicedeojaaDoor
