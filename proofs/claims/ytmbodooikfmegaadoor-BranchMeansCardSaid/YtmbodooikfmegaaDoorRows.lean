/-
  NARROWER THAN 'FOR EVERY INPUT', by the rows' own cells (each row's printed sentence says how): BranchActs: laid · BranchGoes: laid · BranchNames: laid · BranchRoom: laid · BranchEnds: laid · BranchMeans: laid.
  DERIVED. THE GIVEN ROWS OF THIS SEAT. 6 by the template 'for every input the law returns true; each argument reads behind the call as it read before'; 0 by the template 'total and deterministic' (their statements: YtmbodooikfmegaaDoorTotals.lean).
  GIVEN WITH THE SEED: the statements are not yours to turn. If you find one false, say at which input.
  Laid BY PROGRAM, IN A SANDBOX (cutbox-rows.mjs): the forced cells as the released guide's own fill.sh prints them over the translation c3f81dac8363ad33… (all of the seat's roots in one cut). By AI agents, Wed Nov 11 2026. No macro, syntax, notation, axiom, sorry.
-/
import Derived.Test.YtmbodooikfmegaaDoorChecked
import GoSem.Claim
import GoSem.ClaimJoined
import GoSem.ClaimMapViews
import Derived.JoinedTies
import Derived.KernelRfl
namespace Go.Proofs.YtmbodooikfmegaaDoor
/- THE CELL 'sum', in the pinned program and in every row, IS THE sha256 OF THE DUMP (.gsa) THAT YtmbodooikfmegaaDoorProg.lean LOADS. Nothing in Lean hashes anything: it is a label: what it is worth is what the hold of that sum in a sandbox is worth. -/
noncomputable def Tryd.pinned : Pinned := { name := "ytmbodooikfmegaadoor", sum := "c3f81dac8363ad33ad60f445788ef042655bf8f5460baf051cbc7c90cbbc8014", checked := Tryd.checked }
namespace Rows
def none {H : Type} : Left H := { results := [], args := [] }

/- WHAT THE LISTED PACKAGE-LEVEL VARIABLES READ AS WHEN THE CALL BEGINS. Each datum BY PROGRAM (the guide's laid-datum.mjs) off the statement by which the dump's own 'gosem.cut.vars' lays the variable. In a bare row this is a premise. The card (YtmbodooikfmegaaDoorCards.lean) ties it to the program's text. -/
def laid_bascule_op_objects {H : Type} : DataW H := .agg [.lit (.int .u8 0), .lit (.int .u8 1), .lit (.int .u8 1), .lit (.int .u8 1), .lit (.int .u8 2), .lit (.int .u8 2), .lit (.int .u8 2), .lit (.int .u8 2), .lit (.int .u8 2), .lit (.int .u8 3), .lit (.int .u8 3), .lit (.int .u8 3), .lit (.int .u8 4), .lit (.int .u8 4), .lit (.int .u8 4)]

/-- 'basculelaw15.BranchActs': WHATEVER THE INPUT: true; the input reads as it did. -/
def branchActsSpec : ChangeSpec := { name := "branchActs", fn := fun _ => fun
  | [d1, d2] => { results := [.lit (.bool true)], args := [d1, d2] }
  | _ => none }
def branchActsRow : OpenClaim := { program := "ytmbodooikfmegaadoor", sum := "c3f81dac8363ad33ad60f445788ef042655bf8f5460baf051cbc7c90cbbc8014", func := "bascule/basculelaw15.BranchActs", spec := "branchActs", named := ["bascule/op.objects"], apart := false, laid := [("bascule/op.objects", laid_bascule_op_objects)] }
def BranchActsSaid : Prop := branchActsRow.holds Tryd.pinned (OpenSpec.ofChange branchActsSpec)

/-- ITS FALSE NEIGHBOUR: 'it returns false'. Refute it at one input. -/
def branchActsWrong : ChangeSpec := { name := "branchActs", fn := fun _ => fun
  | [d1, d2] => { results := [.lit (.bool false)], args := [d1, d2] }
  | _ => none }
def BranchActsWrongFalsely : Prop := branchActsRow.holds Tryd.pinned (OpenSpec.ofChange branchActsWrong)

/-- 'basculelaw15.BranchGoes': WHATEVER THE INPUT: true; the input reads as it did. -/
def branchGoesSpec : ChangeSpec := { name := "branchGoes", fn := fun _ => fun
  | [d1, d2, d3] => { results := [.lit (.bool true)], args := [d1, d2, d3] }
  | _ => none }
def branchGoesRow : OpenClaim := { program := "ytmbodooikfmegaadoor", sum := "c3f81dac8363ad33ad60f445788ef042655bf8f5460baf051cbc7c90cbbc8014", func := "bascule/basculelaw15.BranchGoes", spec := "branchGoes", unfollowed := true, recurses := true, named := ["bascule/op.objects"], apart := false, laid := [("bascule/op.objects", laid_bascule_op_objects)] }
def BranchGoesSaid : Prop := branchGoesRow.holds Tryd.pinned (OpenSpec.ofChange branchGoesSpec)

/-- ITS FALSE NEIGHBOUR: 'it returns false'. Refute it at one input. -/
def branchGoesWrong : ChangeSpec := { name := "branchGoes", fn := fun _ => fun
  | [d1, d2, d3] => { results := [.lit (.bool false)], args := [d1, d2, d3] }
  | _ => none }
def BranchGoesWrongFalsely : Prop := branchGoesRow.holds Tryd.pinned (OpenSpec.ofChange branchGoesWrong)

/-- 'basculelaw15.BranchNames': WHATEVER THE INPUT: true; the input reads as it did. -/
def branchNamesSpec : ChangeSpec := { name := "branchNames", fn := fun _ => fun
  | [] => { results := [.lit (.bool true)], args := [] }
  | _ => none }
def branchNamesRow : OpenClaim := { program := "ytmbodooikfmegaadoor", sum := "c3f81dac8363ad33ad60f445788ef042655bf8f5460baf051cbc7c90cbbc8014", func := "bascule/basculelaw15.BranchNames", spec := "branchNames", unfollowed := true, recurses := true, named := ["bascule/op.objects"], apart := false, laid := [("bascule/op.objects", laid_bascule_op_objects)] }
def BranchNamesSaid : Prop := branchNamesRow.holds Tryd.pinned (OpenSpec.ofChange branchNamesSpec)

/-- ITS FALSE NEIGHBOUR: 'it returns false'. Refute it at one input. -/
def branchNamesWrong : ChangeSpec := { name := "branchNames", fn := fun _ => fun
  | [] => { results := [.lit (.bool false)], args := [] }
  | _ => none }
def BranchNamesWrongFalsely : Prop := branchNamesRow.holds Tryd.pinned (OpenSpec.ofChange branchNamesWrong)

/-- 'basculelaw15.BranchRoom': WHATEVER THE INPUT: true; the input reads as it did. -/
def branchRoomSpec : ChangeSpec := { name := "branchRoom", fn := fun _ => fun
  | [d1, d2, d3] => { results := [.lit (.bool true)], args := [d1, d2, d3] }
  | _ => none }
def branchRoomRow : OpenClaim := { program := "ytmbodooikfmegaadoor", sum := "c3f81dac8363ad33ad60f445788ef042655bf8f5460baf051cbc7c90cbbc8014", func := "bascule/basculelaw15.BranchRoom", spec := "branchRoom", unfollowed := true, recurses := true, named := ["bascule/op.objects"], apart := false, laid := [("bascule/op.objects", laid_bascule_op_objects)] }
def BranchRoomSaid : Prop := branchRoomRow.holds Tryd.pinned (OpenSpec.ofChange branchRoomSpec)

/-- ITS FALSE NEIGHBOUR: 'it returns false'. Refute it at one input. -/
def branchRoomWrong : ChangeSpec := { name := "branchRoom", fn := fun _ => fun
  | [d1, d2, d3] => { results := [.lit (.bool false)], args := [d1, d2, d3] }
  | _ => none }
def BranchRoomWrongFalsely : Prop := branchRoomRow.holds Tryd.pinned (OpenSpec.ofChange branchRoomWrong)

/-- 'basculelaw15.BranchEnds': WHATEVER THE INPUT: true; the input reads as it did. -/
def branchEndsSpec : ChangeSpec := { name := "branchEnds", fn := fun _ => fun
  | [d1, d2, d3] => { results := [.lit (.bool true)], args := [d1, d2, d3] }
  | _ => none }
def branchEndsRow : OpenClaim := { program := "ytmbodooikfmegaadoor", sum := "c3f81dac8363ad33ad60f445788ef042655bf8f5460baf051cbc7c90cbbc8014", func := "bascule/basculelaw15.BranchEnds", spec := "branchEnds", unfollowed := true, recurses := true, named := ["bascule/op.objects"], apart := false, laid := [("bascule/op.objects", laid_bascule_op_objects)] }
def BranchEndsSaid : Prop := branchEndsRow.holds Tryd.pinned (OpenSpec.ofChange branchEndsSpec)

/-- ITS FALSE NEIGHBOUR: 'it returns false'. Refute it at one input. -/
def branchEndsWrong : ChangeSpec := { name := "branchEnds", fn := fun _ => fun
  | [d1, d2, d3] => { results := [.lit (.bool false)], args := [d1, d2, d3] }
  | _ => none }
def BranchEndsWrongFalsely : Prop := branchEndsRow.holds Tryd.pinned (OpenSpec.ofChange branchEndsWrong)

/-- 'basculelaw15.BranchMeans': WHATEVER THE INPUT: true; the input reads as it did. -/
def branchMeansSpec : ChangeSpec := { name := "branchMeans", fn := fun _ => fun
  | [d1, d2] => { results := [.lit (.bool true)], args := [d1, d2] }
  | _ => none }
def branchMeansRow : OpenClaim := { program := "ytmbodooikfmegaadoor", sum := "c3f81dac8363ad33ad60f445788ef042655bf8f5460baf051cbc7c90cbbc8014", func := "bascule/basculelaw15.BranchMeans", spec := "branchMeans", inPlace := ["slices.overlaps[bascule/api.Row]"], unfollowed := true, recurses := true, named := ["bascule/op.objects"], apart := false, laid := [("bascule/op.objects", laid_bascule_op_objects)] }
def BranchMeansSaid : Prop := branchMeansRow.holds Tryd.pinned (OpenSpec.ofChange branchMeansSpec)

/-- ITS FALSE NEIGHBOUR: 'it returns false'. Refute it at one input. -/
def branchMeansWrong : ChangeSpec := { name := "branchMeans", fn := fun _ => fun
  | [d1, d2] => { results := [.lit (.bool false)], args := [d1, d2] }
  | _ => none }
def BranchMeansWrongFalsely : Prop := branchMeansRow.holds Tryd.pinned (OpenSpec.ofChange branchMeansWrong)

/- THE SECOND FORM. 'bulk': how many values and letters a reading holds, each counted each time it is reached (what is shared counts as often as it is met; a slice's spare places count too). A statement '..UptoSaid' is the law's where the arguments, and the package variables that the reading takes, are together of bulk at most 1048576: NARROWER than '..Said'. Prove '..Said' where nothing that the law and all that it calls make is longer than what came in: it says more and counts as full. Else prove '..UptoSaid'. A law counts once. -/
mutual
def uptoBulk {H : Type} : DataW H → Nat
  | .lit (.string bytes) => bytes.length + 1
  | .lit _ => 1
  | .nil => 1
  | .ptr d => uptoBulk d + 1
  | .slice elems spare => uptoBulkAll elems + uptoBulkAll spare + 1
  | .agg parts => uptoBulkAll parts + 1
  | .iface _ d => uptoBulk d + 1
  | .map entries => uptoBulkEntries entries + 1
  | .held _ => 1
def uptoBulkAll {H : Type} : List (DataW H) → Nat
  | [] => 0
  | d :: r => uptoBulk d + uptoBulkAll r
def uptoBulkEntries {H : Type} : List (Lit × DataW H) → Nat
  | [] => 0
  | x :: r => uptoBulkEntry x + uptoBulkEntries r
def uptoBulkEntry {H : Type} : Lit × DataW H → Nat
  | (.string bytes, d) => bytes.length + uptoBulk d + 1
  | (_, d) => uptoBulk d + 1
 end
def uptoSmall : (H : Type) → List (DataW H) → Bool := fun _ ds => decide (uptoBulkAll ds ≤ 1048576)
def OpenSpec.upto (s : _root_.Go.ChangeSpec) : _root_.Go.OpenSpec := { _root_.Go.OpenSpec.ofChange s with cond := some uptoSmall }

/-- 'basculelaw15.BranchActs', WHERE WHAT IT READS IS OF BULK AT MOST 1048576: true; the input reads as it did. -/
def branchActsUptoRow : OpenClaim := { program := "ytmbodooikfmegaadoor", sum := "c3f81dac8363ad33ad60f445788ef042655bf8f5460baf051cbc7c90cbbc8014", func := "bascule/basculelaw15.BranchActs", spec := "branchActs", named := ["bascule/op.objects"], apart := false, laid := [("bascule/op.objects", laid_bascule_op_objects)], narrowed := true }
def BranchActsUptoSaid : Prop := branchActsUptoRow.holds Tryd.pinned (OpenSpec.upto branchActsSpec)

/-- 'basculelaw15.BranchGoes', WHERE WHAT IT READS IS OF BULK AT MOST 1048576: true; the input reads as it did. -/
def branchGoesUptoRow : OpenClaim := { program := "ytmbodooikfmegaadoor", sum := "c3f81dac8363ad33ad60f445788ef042655bf8f5460baf051cbc7c90cbbc8014", func := "bascule/basculelaw15.BranchGoes", spec := "branchGoes", unfollowed := true, recurses := true, named := ["bascule/op.objects"], apart := false, laid := [("bascule/op.objects", laid_bascule_op_objects)], narrowed := true }
def BranchGoesUptoSaid : Prop := branchGoesUptoRow.holds Tryd.pinned (OpenSpec.upto branchGoesSpec)

/-- 'basculelaw15.BranchNames', WHERE WHAT IT READS IS OF BULK AT MOST 1048576: true; the input reads as it did. -/
def branchNamesUptoRow : OpenClaim := { program := "ytmbodooikfmegaadoor", sum := "c3f81dac8363ad33ad60f445788ef042655bf8f5460baf051cbc7c90cbbc8014", func := "bascule/basculelaw15.BranchNames", spec := "branchNames", unfollowed := true, recurses := true, named := ["bascule/op.objects"], apart := false, laid := [("bascule/op.objects", laid_bascule_op_objects)], narrowed := true }
def BranchNamesUptoSaid : Prop := branchNamesUptoRow.holds Tryd.pinned (OpenSpec.upto branchNamesSpec)

/-- 'basculelaw15.BranchRoom', WHERE WHAT IT READS IS OF BULK AT MOST 1048576: true; the input reads as it did. -/
def branchRoomUptoRow : OpenClaim := { program := "ytmbodooikfmegaadoor", sum := "c3f81dac8363ad33ad60f445788ef042655bf8f5460baf051cbc7c90cbbc8014", func := "bascule/basculelaw15.BranchRoom", spec := "branchRoom", unfollowed := true, recurses := true, named := ["bascule/op.objects"], apart := false, laid := [("bascule/op.objects", laid_bascule_op_objects)], narrowed := true }
def BranchRoomUptoSaid : Prop := branchRoomUptoRow.holds Tryd.pinned (OpenSpec.upto branchRoomSpec)

/-- 'basculelaw15.BranchEnds', WHERE WHAT IT READS IS OF BULK AT MOST 1048576: true; the input reads as it did. -/
def branchEndsUptoRow : OpenClaim := { program := "ytmbodooikfmegaadoor", sum := "c3f81dac8363ad33ad60f445788ef042655bf8f5460baf051cbc7c90cbbc8014", func := "bascule/basculelaw15.BranchEnds", spec := "branchEnds", unfollowed := true, recurses := true, named := ["bascule/op.objects"], apart := false, laid := [("bascule/op.objects", laid_bascule_op_objects)], narrowed := true }
def BranchEndsUptoSaid : Prop := branchEndsUptoRow.holds Tryd.pinned (OpenSpec.upto branchEndsSpec)

/-- 'basculelaw15.BranchMeans', WHERE WHAT IT READS IS OF BULK AT MOST 1048576: true; the input reads as it did. -/
def branchMeansUptoRow : OpenClaim := { program := "ytmbodooikfmegaadoor", sum := "c3f81dac8363ad33ad60f445788ef042655bf8f5460baf051cbc7c90cbbc8014", func := "bascule/basculelaw15.BranchMeans", spec := "branchMeans", inPlace := ["slices.overlaps[bascule/api.Row]"], unfollowed := true, recurses := true, named := ["bascule/op.objects"], apart := false, laid := [("bascule/op.objects", laid_bascule_op_objects)], narrowed := true }
def BranchMeansUptoSaid : Prop := branchMeansUptoRow.holds Tryd.pinned (OpenSpec.upto branchMeansSpec)

end Rows
end Go.Proofs.YtmbodooikfmegaaDoor
