/-
  NARROWER THAN 'FOR EVERY INPUT', by the rows' own cells (each row's printed sentence says how): TrieActs: laid · TrieGoes: laid · TrieNames: laid · TrieEnds: laid · TrieMeans: laid.
  DERIVED. THE GIVEN ROWS OF THIS SEAT. 5 by the template 'for every input the law returns true; each argument reads behind the call as it read before'; 0 by the template 'total and deterministic' (their statements: YtpaplhkjaniafaaDoorTotals.lean).
  GIVEN WITH THE SEED: the statements are not yours to turn. If you find one false, say at which input.
  Laid BY PROGRAM, IN A SANDBOX (cutbox-rows.mjs): the forced cells as the released guide's own fill.sh prints them over the translation d6ac82de0d9e0c6c… (all of the seat's roots in one cut). By AI agents, Wed Nov 11 2026. No macro, syntax, notation, axiom, sorry.
-/
import Derived.Test.YtpaplhkjaniafaaDoorChecked
import GoSem.Claim
import GoSem.ClaimJoined
import GoSem.ClaimMapViews
import Derived.JoinedTies
import Derived.KernelRfl
namespace Go.Proofs.YtpaplhkjaniafaaDoor
/- THE CELL 'sum', in the pinned program and in every row, IS THE sha256 OF THE DUMP (.gsa) THAT YtpaplhkjaniafaaDoorProg.lean LOADS. Nothing in Lean hashes anything: it is a label: what it is worth is what the hold of that sum in a sandbox is worth. -/
noncomputable def Tryd.pinned : Pinned := { name := "ytpaplhkjaniafaadoor", sum := "d6ac82de0d9e0c6cecf700f8f99bc9c114968c1456868206a909b6ac50988aac", checked := Tryd.checked }
namespace Rows
def none {H : Type} : Left H := { results := [], args := [] }

/- WHAT THE LISTED PACKAGE-LEVEL VARIABLES READ AS WHEN THE CALL BEGINS. Each datum BY PROGRAM (the guide's laid-datum.mjs) off the statement by which the dump's own 'gosem.cut.vars' lays the variable. In a bare row this is a premise. The card (YtpaplhkjaniafaaDoorCards.lean) ties it to the program's text. -/
def laid_bascule_op_objects {H : Type} : DataW H := .agg [.lit (.int .u8 0), .lit (.int .u8 1), .lit (.int .u8 1), .lit (.int .u8 1), .lit (.int .u8 2), .lit (.int .u8 2), .lit (.int .u8 2), .lit (.int .u8 2), .lit (.int .u8 2), .lit (.int .u8 3), .lit (.int .u8 3), .lit (.int .u8 3), .lit (.int .u8 4), .lit (.int .u8 4), .lit (.int .u8 4)]

/-- 'basculelaw12.TrieActs': WHATEVER THE INPUT: true; the input reads as it did. -/
def trieActsSpec : ChangeSpec := { name := "trieActs", fn := fun _ => fun
  | [d1, d2] => { results := [.lit (.bool true)], args := [d1, d2] }
  | _ => none }
def trieActsRow : OpenClaim := { program := "ytpaplhkjaniafaadoor", sum := "d6ac82de0d9e0c6cecf700f8f99bc9c114968c1456868206a909b6ac50988aac", func := "bascule/basculelaw12.TrieActs", spec := "trieActs", unfollowed := true, recurses := true, named := ["bascule/op.objects"], apart := false, laid := [("bascule/op.objects", laid_bascule_op_objects)] }
def TrieActsSaid : Prop := trieActsRow.holds Tryd.pinned (OpenSpec.ofChange trieActsSpec)

/-- ITS FALSE NEIGHBOUR: 'it returns false'. Refute it at one input. -/
def trieActsWrong : ChangeSpec := { name := "trieActs", fn := fun _ => fun
  | [d1, d2] => { results := [.lit (.bool false)], args := [d1, d2] }
  | _ => none }
def TrieActsWrongFalsely : Prop := trieActsRow.holds Tryd.pinned (OpenSpec.ofChange trieActsWrong)

/-- 'basculelaw12.TrieGoes': WHATEVER THE INPUT: true; the input reads as it did. -/
def trieGoesSpec : ChangeSpec := { name := "trieGoes", fn := fun _ => fun
  | [d1, d2, d3] => { results := [.lit (.bool true)], args := [d1, d2, d3] }
  | _ => none }
def trieGoesRow : OpenClaim := { program := "ytpaplhkjaniafaadoor", sum := "d6ac82de0d9e0c6cecf700f8f99bc9c114968c1456868206a909b6ac50988aac", func := "bascule/basculelaw12.TrieGoes", spec := "trieGoes", unfollowed := true, recurses := true, named := ["bascule/op.objects"], apart := false, laid := [("bascule/op.objects", laid_bascule_op_objects)] }
def TrieGoesSaid : Prop := trieGoesRow.holds Tryd.pinned (OpenSpec.ofChange trieGoesSpec)

/-- ITS FALSE NEIGHBOUR: 'it returns false'. Refute it at one input. -/
def trieGoesWrong : ChangeSpec := { name := "trieGoes", fn := fun _ => fun
  | [d1, d2, d3] => { results := [.lit (.bool false)], args := [d1, d2, d3] }
  | _ => none }
def TrieGoesWrongFalsely : Prop := trieGoesRow.holds Tryd.pinned (OpenSpec.ofChange trieGoesWrong)

/-- 'basculelaw12.TrieNames': WHATEVER THE INPUT: true; the input reads as it did. -/
def trieNamesSpec : ChangeSpec := { name := "trieNames", fn := fun _ => fun
  | [] => { results := [.lit (.bool true)], args := [] }
  | _ => none }
def trieNamesRow : OpenClaim := { program := "ytpaplhkjaniafaadoor", sum := "d6ac82de0d9e0c6cecf700f8f99bc9c114968c1456868206a909b6ac50988aac", func := "bascule/basculelaw12.TrieNames", spec := "trieNames", unfollowed := true, recurses := true, named := ["bascule/op.objects"], apart := false, laid := [("bascule/op.objects", laid_bascule_op_objects)] }
def TrieNamesSaid : Prop := trieNamesRow.holds Tryd.pinned (OpenSpec.ofChange trieNamesSpec)

/-- ITS FALSE NEIGHBOUR: 'it returns false'. Refute it at one input. -/
def trieNamesWrong : ChangeSpec := { name := "trieNames", fn := fun _ => fun
  | [] => { results := [.lit (.bool false)], args := [] }
  | _ => none }
def TrieNamesWrongFalsely : Prop := trieNamesRow.holds Tryd.pinned (OpenSpec.ofChange trieNamesWrong)

/-- 'basculelaw12.TrieEnds': WHATEVER THE INPUT: true; the input reads as it did. -/
def trieEndsSpec : ChangeSpec := { name := "trieEnds", fn := fun _ => fun
  | [d1, d2, d3] => { results := [.lit (.bool true)], args := [d1, d2, d3] }
  | _ => none }
def trieEndsRow : OpenClaim := { program := "ytpaplhkjaniafaadoor", sum := "d6ac82de0d9e0c6cecf700f8f99bc9c114968c1456868206a909b6ac50988aac", func := "bascule/basculelaw12.TrieEnds", spec := "trieEnds", unfollowed := true, recurses := true, named := ["bascule/op.objects"], apart := false, laid := [("bascule/op.objects", laid_bascule_op_objects)] }
def TrieEndsSaid : Prop := trieEndsRow.holds Tryd.pinned (OpenSpec.ofChange trieEndsSpec)

/-- ITS FALSE NEIGHBOUR: 'it returns false'. Refute it at one input. -/
def trieEndsWrong : ChangeSpec := { name := "trieEnds", fn := fun _ => fun
  | [d1, d2, d3] => { results := [.lit (.bool false)], args := [d1, d2, d3] }
  | _ => none }
def TrieEndsWrongFalsely : Prop := trieEndsRow.holds Tryd.pinned (OpenSpec.ofChange trieEndsWrong)

/-- 'basculelaw12.TrieMeans': WHATEVER THE INPUT: true; the input reads as it did. -/
def trieMeansSpec : ChangeSpec := { name := "trieMeans", fn := fun _ => fun
  | [d1, d2] => { results := [.lit (.bool true)], args := [d1, d2] }
  | _ => none }
def trieMeansRow : OpenClaim := { program := "ytpaplhkjaniafaadoor", sum := "d6ac82de0d9e0c6cecf700f8f99bc9c114968c1456868206a909b6ac50988aac", func := "bascule/basculelaw12.TrieMeans", spec := "trieMeans", inPlace := ["slices.overlaps[bascule/api.Row]"], unfollowed := true, recurses := true, named := ["bascule/op.objects"], apart := false, laid := [("bascule/op.objects", laid_bascule_op_objects)] }
def TrieMeansSaid : Prop := trieMeansRow.holds Tryd.pinned (OpenSpec.ofChange trieMeansSpec)

/-- ITS FALSE NEIGHBOUR: 'it returns false'. Refute it at one input. -/
def trieMeansWrong : ChangeSpec := { name := "trieMeans", fn := fun _ => fun
  | [d1, d2] => { results := [.lit (.bool false)], args := [d1, d2] }
  | _ => none }
def TrieMeansWrongFalsely : Prop := trieMeansRow.holds Tryd.pinned (OpenSpec.ofChange trieMeansWrong)

/- THE SECOND FORM. 'bulk': how many values and letters a reading holds, each counted each time it is reached (what is shared counts as often as it is met; a slice's spare places count too). A statement '..UptoSaid' is the law's where the arguments, and the package variables that the reading takes, are together of bulk at most 1048576: NARROWER than '..Said'. Prove '..Said' where nothing that the law and all that it calls make is longer than what came in: it says more and counts as full. Else prove '..UptoSaid'. A law counts once. -/
mutual
def uptoBulk {H : Type} : DataW H → Nat
  | .lit (.string bytes) => bytes.length + 1
  | .lit _ => 1
  | .nil => 1
  | .ptr d => uptoBulk d + 1
  | .slice elems spare => uptoBulkAll elems + uptoBulkAll spare + 1
  | .agg parts => uptoBulkAll parts + 1
  | .iface _ d => uptoBulk d + 1
  | .map entries => uptoBulkEntries entries + 1
  | .held _ => 1
def uptoBulkAll {H : Type} : List (DataW H) → Nat
  | [] => 0
  | d :: r => uptoBulk d + uptoBulkAll r
def uptoBulkEntries {H : Type} : List (Lit × DataW H) → Nat
  | [] => 0
  | x :: r => uptoBulkEntry x + uptoBulkEntries r
def uptoBulkEntry {H : Type} : Lit × DataW H → Nat
  | (.string bytes, d) => bytes.length + uptoBulk d + 1
  | (_, d) => uptoBulk d + 1
 end
def uptoSmall : (H : Type) → List (DataW H) → Bool := fun _ ds => decide (uptoBulkAll ds ≤ 1048576)
def OpenSpec.upto (s : _root_.Go.ChangeSpec) : _root_.Go.OpenSpec := { _root_.Go.OpenSpec.ofChange s with cond := some uptoSmall }

/-- 'basculelaw12.TrieActs', WHERE WHAT IT READS IS OF BULK AT MOST 1048576: true; the input reads as it did. -/
def trieActsUptoRow : OpenClaim := { program := "ytpaplhkjaniafaadoor", sum := "d6ac82de0d9e0c6cecf700f8f99bc9c114968c1456868206a909b6ac50988aac", func := "bascule/basculelaw12.TrieActs", spec := "trieActs", unfollowed := true, recurses := true, named := ["bascule/op.objects"], apart := false, laid := [("bascule/op.objects", laid_bascule_op_objects)], narrowed := true }
def TrieActsUptoSaid : Prop := trieActsUptoRow.holds Tryd.pinned (OpenSpec.upto trieActsSpec)

/-- 'basculelaw12.TrieGoes', WHERE WHAT IT READS IS OF BULK AT MOST 1048576: true; the input reads as it did. -/
def trieGoesUptoRow : OpenClaim := { program := "ytpaplhkjaniafaadoor", sum := "d6ac82de0d9e0c6cecf700f8f99bc9c114968c1456868206a909b6ac50988aac", func := "bascule/basculelaw12.TrieGoes", spec := "trieGoes", unfollowed := true, recurses := true, named := ["bascule/op.objects"], apart := false, laid := [("bascule/op.objects", laid_bascule_op_objects)], narrowed := true }
def TrieGoesUptoSaid : Prop := trieGoesUptoRow.holds Tryd.pinned (OpenSpec.upto trieGoesSpec)

/-- 'basculelaw12.TrieNames', WHERE WHAT IT READS IS OF BULK AT MOST 1048576: true; the input reads as it did. -/
def trieNamesUptoRow : OpenClaim := { program := "ytpaplhkjaniafaadoor", sum := "d6ac82de0d9e0c6cecf700f8f99bc9c114968c1456868206a909b6ac50988aac", func := "bascule/basculelaw12.TrieNames", spec := "trieNames", unfollowed := true, recurses := true, named := ["bascule/op.objects"], apart := false, laid := [("bascule/op.objects", laid_bascule_op_objects)], narrowed := true }
def TrieNamesUptoSaid : Prop := trieNamesUptoRow.holds Tryd.pinned (OpenSpec.upto trieNamesSpec)

/-- 'basculelaw12.TrieEnds', WHERE WHAT IT READS IS OF BULK AT MOST 1048576: true; the input reads as it did. -/
def trieEndsUptoRow : OpenClaim := { program := "ytpaplhkjaniafaadoor", sum := "d6ac82de0d9e0c6cecf700f8f99bc9c114968c1456868206a909b6ac50988aac", func := "bascule/basculelaw12.TrieEnds", spec := "trieEnds", unfollowed := true, recurses := true, named := ["bascule/op.objects"], apart := false, laid := [("bascule/op.objects", laid_bascule_op_objects)], narrowed := true }
def TrieEndsUptoSaid : Prop := trieEndsUptoRow.holds Tryd.pinned (OpenSpec.upto trieEndsSpec)

/-- 'basculelaw12.TrieMeans', WHERE WHAT IT READS IS OF BULK AT MOST 1048576: true; the input reads as it did. -/
def trieMeansUptoRow : OpenClaim := { program := "ytpaplhkjaniafaadoor", sum := "d6ac82de0d9e0c6cecf700f8f99bc9c114968c1456868206a909b6ac50988aac", func := "bascule/basculelaw12.TrieMeans", spec := "trieMeans", inPlace := ["slices.overlaps[bascule/api.Row]"], unfollowed := true, recurses := true, named := ["bascule/op.objects"], apart := false, laid := [("bascule/op.objects", laid_bascule_op_objects)], narrowed := true }
def TrieMeansUptoSaid : Prop := trieMeansUptoRow.holds Tryd.pinned (OpenSpec.upto trieMeansSpec)

end Rows
end Go.Proofs.YtpaplhkjaniafaaDoor
