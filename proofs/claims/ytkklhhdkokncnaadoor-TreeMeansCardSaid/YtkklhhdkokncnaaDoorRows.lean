/-
  NARROWER THAN 'FOR EVERY INPUT', by the rows' own cells (each row's printed sentence says how): TreeActs: laid · TreeGoes: laid · TreeNames: laid · TreeSeeks: laid · TreeEnds: laid · TreeMeans: laid.
  DERIVED. THE GIVEN ROWS OF THIS SEAT. 6 by the template 'for every input the law returns true; each argument reads behind the call as it read before'; 0 by the template 'total and deterministic' (their statements: YtkklhhdkokncnaaDoorTotals.lean).
  GIVEN WITH THE SEED: the statements are not yours to turn. If you find one false, say at which input.
  Laid BY PROGRAM, IN A SANDBOX (cutbox-rows.mjs): the forced cells as the released guide's own fill.sh prints them over the translation 7e8c6da0e1f11a42… (all of the seat's roots in one cut). By AI agents, Wed Nov 11 2026. No macro, syntax, notation, axiom, sorry.
-/
import Derived.Test.YtkklhhdkokncnaaDoorChecked
import GoSem.Claim
import GoSem.ClaimJoined
import GoSem.ClaimMapViews
import Derived.JoinedTies
import Derived.KernelRfl
namespace Go.Proofs.YtkklhhdkokncnaaDoor
/- THE CELL 'sum', in the pinned program and in every row, IS THE sha256 OF THE DUMP (.gsa) THAT YtkklhhdkokncnaaDoorProg.lean LOADS. Nothing in Lean hashes anything: it is a label: what it is worth is what the hold of that sum in a sandbox is worth. -/
noncomputable def Tryd.pinned : Pinned := { name := "ytkklhhdkokncnaadoor", sum := "7e8c6da0e1f11a429603c3a86a0dc88c33c3ae5d16a956dad87760c75ca30791", checked := Tryd.checked }
namespace Rows
def none {H : Type} : Left H := { results := [], args := [] }

/- WHAT THE LISTED PACKAGE-LEVEL VARIABLES READ AS WHEN THE CALL BEGINS. Each datum BY PROGRAM (the guide's laid-datum.mjs) off the statement by which the dump's own 'gosem.cut.vars' lays the variable. In a bare row this is a premise. The card (YtkklhhdkokncnaaDoorCards.lean) ties it to the program's text. -/
def laid_bascule_rank_powers {H : Type} : DataW H := .agg [.agg [.lit (.int .i64 1), .lit (.int .i64 2), .lit (.int .i64 4), .lit (.int .i64 8), .lit (.int .i64 16)], .agg [.lit (.int .i64 1), .lit (.int .i64 3), .lit (.int .i64 9), .lit (.int .i64 27), .lit (.int .i64 81)], .agg [.lit (.int .i64 1), .lit (.int .i64 4), .lit (.int .i64 16), .lit (.int .i64 64), .lit (.int .i64 256)]]
def laid_bascule_op_objects {H : Type} : DataW H := .agg [.lit (.int .u8 0), .lit (.int .u8 1), .lit (.int .u8 1), .lit (.int .u8 1), .lit (.int .u8 2), .lit (.int .u8 2), .lit (.int .u8 2), .lit (.int .u8 2), .lit (.int .u8 2), .lit (.int .u8 3), .lit (.int .u8 3), .lit (.int .u8 3), .lit (.int .u8 4), .lit (.int .u8 4), .lit (.int .u8 4)]
def laid_bascule_op_writers {H : Type} : DataW H := .agg [.lit (.bool false), .lit (.bool true), .lit (.bool true), .lit (.bool false), .lit (.bool true), .lit (.bool true), .lit (.bool false), .lit (.bool false), .lit (.bool false), .lit (.bool true), .lit (.bool true), .lit (.bool false), .lit (.bool true), .lit (.bool true), .lit (.bool false)]

/-- 'basculelaw13.TreeActs': WHATEVER THE INPUT: true; the input reads as it did. -/
def treeActsSpec : ChangeSpec := { name := "treeActs", fn := fun _ => fun
  | [d1, d2] => { results := [.lit (.bool true)], args := [d1, d2] }
  | _ => none }
def treeActsRow : OpenClaim := { program := "ytkklhhdkokncnaadoor", sum := "7e8c6da0e1f11a429603c3a86a0dc88c33c3ae5d16a956dad87760c75ca30791", func := "bascule/basculelaw13.TreeActs", spec := "treeActs", unfollowed := true, recurses := true, named := ["bascule/rank.powers", "bascule/op.objects"], apart := false, laid := [("bascule/rank.powers", laid_bascule_rank_powers), ("bascule/op.objects", laid_bascule_op_objects)] }
def TreeActsSaid : Prop := treeActsRow.holds Tryd.pinned (OpenSpec.ofChange treeActsSpec)

/-- ITS FALSE NEIGHBOUR: 'it returns false'. Refute it at one input. -/
def treeActsWrong : ChangeSpec := { name := "treeActs", fn := fun _ => fun
  | [d1, d2] => { results := [.lit (.bool false)], args := [d1, d2] }
  | _ => none }
def TreeActsWrongFalsely : Prop := treeActsRow.holds Tryd.pinned (OpenSpec.ofChange treeActsWrong)

/-- 'basculelaw13.TreeGoes': WHATEVER THE INPUT: true; the input reads as it did. -/
def treeGoesSpec : ChangeSpec := { name := "treeGoes", fn := fun _ => fun
  | [d1, d2, d3] => { results := [.lit (.bool true)], args := [d1, d2, d3] }
  | _ => none }
def treeGoesRow : OpenClaim := { program := "ytkklhhdkokncnaadoor", sum := "7e8c6da0e1f11a429603c3a86a0dc88c33c3ae5d16a956dad87760c75ca30791", func := "bascule/basculelaw13.TreeGoes", spec := "treeGoes", unfollowed := true, recurses := true, named := ["bascule/rank.powers", "bascule/op.objects"], apart := false, laid := [("bascule/rank.powers", laid_bascule_rank_powers), ("bascule/op.objects", laid_bascule_op_objects)] }
def TreeGoesSaid : Prop := treeGoesRow.holds Tryd.pinned (OpenSpec.ofChange treeGoesSpec)

/-- ITS FALSE NEIGHBOUR: 'it returns false'. Refute it at one input. -/
def treeGoesWrong : ChangeSpec := { name := "treeGoes", fn := fun _ => fun
  | [d1, d2, d3] => { results := [.lit (.bool false)], args := [d1, d2, d3] }
  | _ => none }
def TreeGoesWrongFalsely : Prop := treeGoesRow.holds Tryd.pinned (OpenSpec.ofChange treeGoesWrong)

/-- 'basculelaw13.TreeNames': WHATEVER THE INPUT: true; the input reads as it did. -/
def treeNamesSpec : ChangeSpec := { name := "treeNames", fn := fun _ => fun
  | [] => { results := [.lit (.bool true)], args := [] }
  | _ => none }
def treeNamesRow : OpenClaim := { program := "ytkklhhdkokncnaadoor", sum := "7e8c6da0e1f11a429603c3a86a0dc88c33c3ae5d16a956dad87760c75ca30791", func := "bascule/basculelaw13.TreeNames", spec := "treeNames", unfollowed := true, recurses := true, named := ["bascule/rank.powers", "bascule/op.objects"], apart := false, laid := [("bascule/rank.powers", laid_bascule_rank_powers), ("bascule/op.objects", laid_bascule_op_objects)] }
def TreeNamesSaid : Prop := treeNamesRow.holds Tryd.pinned (OpenSpec.ofChange treeNamesSpec)

/-- ITS FALSE NEIGHBOUR: 'it returns false'. Refute it at one input. -/
def treeNamesWrong : ChangeSpec := { name := "treeNames", fn := fun _ => fun
  | [] => { results := [.lit (.bool false)], args := [] }
  | _ => none }
def TreeNamesWrongFalsely : Prop := treeNamesRow.holds Tryd.pinned (OpenSpec.ofChange treeNamesWrong)

/-- 'basculelaw13.TreeSeeks': WHATEVER THE INPUT: true; the input reads as it did. -/
def treeSeeksSpec : ChangeSpec := { name := "treeSeeks", fn := fun _ => fun
  | [d1, d2, d3] => { results := [.lit (.bool true)], args := [d1, d2, d3] }
  | _ => none }
def treeSeeksRow : OpenClaim := { program := "ytkklhhdkokncnaadoor", sum := "7e8c6da0e1f11a429603c3a86a0dc88c33c3ae5d16a956dad87760c75ca30791", func := "bascule/basculelaw13.TreeSeeks", spec := "treeSeeks", unfollowed := true, recurses := true, named := ["bascule/rank.powers", "bascule/op.objects"], apart := false, laid := [("bascule/rank.powers", laid_bascule_rank_powers), ("bascule/op.objects", laid_bascule_op_objects)] }
def TreeSeeksSaid : Prop := treeSeeksRow.holds Tryd.pinned (OpenSpec.ofChange treeSeeksSpec)

/-- ITS FALSE NEIGHBOUR: 'it returns false'. Refute it at one input. -/
def treeSeeksWrong : ChangeSpec := { name := "treeSeeks", fn := fun _ => fun
  | [d1, d2, d3] => { results := [.lit (.bool false)], args := [d1, d2, d3] }
  | _ => none }
def TreeSeeksWrongFalsely : Prop := treeSeeksRow.holds Tryd.pinned (OpenSpec.ofChange treeSeeksWrong)

/-- 'basculelaw13.TreeEnds': WHATEVER THE INPUT: true; the input reads as it did. -/
def treeEndsSpec : ChangeSpec := { name := "treeEnds", fn := fun _ => fun
  | [d1, d2, d3] => { results := [.lit (.bool true)], args := [d1, d2, d3] }
  | _ => none }
def treeEndsRow : OpenClaim := { program := "ytkklhhdkokncnaadoor", sum := "7e8c6da0e1f11a429603c3a86a0dc88c33c3ae5d16a956dad87760c75ca30791", func := "bascule/basculelaw13.TreeEnds", spec := "treeEnds", unfollowed := true, recurses := true, named := ["bascule/rank.powers", "bascule/op.objects"], apart := false, laid := [("bascule/rank.powers", laid_bascule_rank_powers), ("bascule/op.objects", laid_bascule_op_objects)] }
def TreeEndsSaid : Prop := treeEndsRow.holds Tryd.pinned (OpenSpec.ofChange treeEndsSpec)

/-- ITS FALSE NEIGHBOUR: 'it returns false'. Refute it at one input. -/
def treeEndsWrong : ChangeSpec := { name := "treeEnds", fn := fun _ => fun
  | [d1, d2, d3] => { results := [.lit (.bool false)], args := [d1, d2, d3] }
  | _ => none }
def TreeEndsWrongFalsely : Prop := treeEndsRow.holds Tryd.pinned (OpenSpec.ofChange treeEndsWrong)

/-- 'basculelaw13.TreeMeans': WHATEVER THE INPUT: true; the input reads as it did. -/
def treeMeansSpec : ChangeSpec := { name := "treeMeans", fn := fun _ => fun
  | [d1, d2] => { results := [.lit (.bool true)], args := [d1, d2] }
  | _ => none }
def treeMeansRow : OpenClaim := { program := "ytkklhhdkokncnaadoor", sum := "7e8c6da0e1f11a429603c3a86a0dc88c33c3ae5d16a956dad87760c75ca30791", func := "bascule/basculelaw13.TreeMeans", spec := "treeMeans", inPlace := ["slices.overlaps[bascule/api.Row]"], unfollowed := true, recurses := true, named := ["bascule/rank.powers", "bascule/op.objects", "bascule/op.writers"], apart := false, laid := [("bascule/rank.powers", laid_bascule_rank_powers), ("bascule/op.objects", laid_bascule_op_objects), ("bascule/op.writers", laid_bascule_op_writers)] }
def TreeMeansSaid : Prop := treeMeansRow.holds Tryd.pinned (OpenSpec.ofChange treeMeansSpec)

/-- ITS FALSE NEIGHBOUR: 'it returns false'. Refute it at one input. -/
def treeMeansWrong : ChangeSpec := { name := "treeMeans", fn := fun _ => fun
  | [d1, d2] => { results := [.lit (.bool false)], args := [d1, d2] }
  | _ => none }
def TreeMeansWrongFalsely : Prop := treeMeansRow.holds Tryd.pinned (OpenSpec.ofChange treeMeansWrong)

/- THE SECOND FORM. 'bulk': how many values and letters a reading holds, each counted each time it is reached (what is shared counts as often as it is met; a slice's spare places count too). A statement '..UptoSaid' is the law's where the arguments, and the package variables that the reading takes, are together of bulk at most 1048576: NARROWER than '..Said'. Prove '..Said' where nothing that the law and all that it calls make is longer than what came in: it says more and counts as full. Else prove '..UptoSaid'. A law counts once. -/
mutual
def uptoBulk {H : Type} : DataW H → Nat
  | .lit (.string bytes) => bytes.length + 1
  | .lit _ => 1
  | .nil => 1
  | .ptr d => uptoBulk d + 1
  | .slice elems spare => uptoBulkAll elems + uptoBulkAll spare + 1
  | .agg parts => uptoBulkAll parts + 1
  | .iface _ d => uptoBulk d + 1
  | .map entries => uptoBulkEntries entries + 1
  | .held _ => 1
def uptoBulkAll {H : Type} : List (DataW H) → Nat
  | [] => 0
  | d :: r => uptoBulk d + uptoBulkAll r
def uptoBulkEntries {H : Type} : List (Lit × DataW H) → Nat
  | [] => 0
  | x :: r => uptoBulkEntry x + uptoBulkEntries r
def uptoBulkEntry {H : Type} : Lit × DataW H → Nat
  | (.string bytes, d) => bytes.length + uptoBulk d + 1
  | (_, d) => uptoBulk d + 1
 end
def uptoSmall : (H : Type) → List (DataW H) → Bool := fun _ ds => decide (uptoBulkAll ds ≤ 1048576)
def OpenSpec.upto (s : _root_.Go.ChangeSpec) : _root_.Go.OpenSpec := { _root_.Go.OpenSpec.ofChange s with cond := some uptoSmall }

/-- 'basculelaw13.TreeActs', WHERE WHAT IT READS IS OF BULK AT MOST 1048576: true; the input reads as it did. -/
def treeActsUptoRow : OpenClaim := { program := "ytkklhhdkokncnaadoor", sum := "7e8c6da0e1f11a429603c3a86a0dc88c33c3ae5d16a956dad87760c75ca30791", func := "bascule/basculelaw13.TreeActs", spec := "treeActs", unfollowed := true, recurses := true, named := ["bascule/rank.powers", "bascule/op.objects"], apart := false, laid := [("bascule/rank.powers", laid_bascule_rank_powers), ("bascule/op.objects", laid_bascule_op_objects)], narrowed := true }
def TreeActsUptoSaid : Prop := treeActsUptoRow.holds Tryd.pinned (OpenSpec.upto treeActsSpec)

/-- 'basculelaw13.TreeGoes', WHERE WHAT IT READS IS OF BULK AT MOST 1048576: true; the input reads as it did. -/
def treeGoesUptoRow : OpenClaim := { program := "ytkklhhdkokncnaadoor", sum := "7e8c6da0e1f11a429603c3a86a0dc88c33c3ae5d16a956dad87760c75ca30791", func := "bascule/basculelaw13.TreeGoes", spec := "treeGoes", unfollowed := true, recurses := true, named := ["bascule/rank.powers", "bascule/op.objects"], apart := false, laid := [("bascule/rank.powers", laid_bascule_rank_powers), ("bascule/op.objects", laid_bascule_op_objects)], narrowed := true }
def TreeGoesUptoSaid : Prop := treeGoesUptoRow.holds Tryd.pinned (OpenSpec.upto treeGoesSpec)

/-- 'basculelaw13.TreeNames', WHERE WHAT IT READS IS OF BULK AT MOST 1048576: true; the input reads as it did. -/
def treeNamesUptoRow : OpenClaim := { program := "ytkklhhdkokncnaadoor", sum := "7e8c6da0e1f11a429603c3a86a0dc88c33c3ae5d16a956dad87760c75ca30791", func := "bascule/basculelaw13.TreeNames", spec := "treeNames", unfollowed := true, recurses := true, named := ["bascule/rank.powers", "bascule/op.objects"], apart := false, laid := [("bascule/rank.powers", laid_bascule_rank_powers), ("bascule/op.objects", laid_bascule_op_objects)], narrowed := true }
def TreeNamesUptoSaid : Prop := treeNamesUptoRow.holds Tryd.pinned (OpenSpec.upto treeNamesSpec)

/-- 'basculelaw13.TreeSeeks', WHERE WHAT IT READS IS OF BULK AT MOST 1048576: true; the input reads as it did. -/
def treeSeeksUptoRow : OpenClaim := { program := "ytkklhhdkokncnaadoor", sum := "7e8c6da0e1f11a429603c3a86a0dc88c33c3ae5d16a956dad87760c75ca30791", func := "bascule/basculelaw13.TreeSeeks", spec := "treeSeeks", unfollowed := true, recurses := true, named := ["bascule/rank.powers", "bascule/op.objects"], apart := false, laid := [("bascule/rank.powers", laid_bascule_rank_powers), ("bascule/op.objects", laid_bascule_op_objects)], narrowed := true }
def TreeSeeksUptoSaid : Prop := treeSeeksUptoRow.holds Tryd.pinned (OpenSpec.upto treeSeeksSpec)

/-- 'basculelaw13.TreeEnds', WHERE WHAT IT READS IS OF BULK AT MOST 1048576: true; the input reads as it did. -/
def treeEndsUptoRow : OpenClaim := { program := "ytkklhhdkokncnaadoor", sum := "7e8c6da0e1f11a429603c3a86a0dc88c33c3ae5d16a956dad87760c75ca30791", func := "bascule/basculelaw13.TreeEnds", spec := "treeEnds", unfollowed := true, recurses := true, named := ["bascule/rank.powers", "bascule/op.objects"], apart := false, laid := [("bascule/rank.powers", laid_bascule_rank_powers), ("bascule/op.objects", laid_bascule_op_objects)], narrowed := true }
def TreeEndsUptoSaid : Prop := treeEndsUptoRow.holds Tryd.pinned (OpenSpec.upto treeEndsSpec)

/-- 'basculelaw13.TreeMeans', WHERE WHAT IT READS IS OF BULK AT MOST 1048576: true; the input reads as it did. -/
def treeMeansUptoRow : OpenClaim := { program := "ytkklhhdkokncnaadoor", sum := "7e8c6da0e1f11a429603c3a86a0dc88c33c3ae5d16a956dad87760c75ca30791", func := "bascule/basculelaw13.TreeMeans", spec := "treeMeans", inPlace := ["slices.overlaps[bascule/api.Row]"], unfollowed := true, recurses := true, named := ["bascule/rank.powers", "bascule/op.objects", "bascule/op.writers"], apart := false, laid := [("bascule/rank.powers", laid_bascule_rank_powers), ("bascule/op.objects", laid_bascule_op_objects), ("bascule/op.writers", laid_bascule_op_writers)], narrowed := true }
def TreeMeansUptoSaid : Prop := treeMeansUptoRow.holds Tryd.pinned (OpenSpec.upto treeMeansSpec)

end Rows
end Go.Proofs.YtkklhhdkokncnaaDoor
