/-
  NARROWER THAN 'FOR EVERY INPUT', by the rows' own cells (each row's printed sentence says how): ProgNames: laid · ProgStarts: laid · ProgAlone: laid · ProgReads: laid.
  DERIVED. THE GIVEN ROWS OF THIS SEAT. 4 by the template 'for every input the law returns true; each argument reads behind the call as it read before'; 0 by the template 'total and deterministic' (their statements: YtmhmaifmendebaaDoorTotals.lean).
  GIVEN WITH THE SEED: the statements are not yours to turn. If you find one false, say at which input.
  Laid BY PROGRAM, IN A SANDBOX (cutbox-rows.mjs): the forced cells as the released guide's own fill.sh prints them over the translation e265aa9b1e1b647e… (all of the seat's roots in one cut). By AI agents, Wed Nov 11 2026. No macro, syntax, notation, axiom, sorry.
-/
import Derived.Test.YtmhmaifmendebaaDoorChecked
import GoSem.Claim
import GoSem.ClaimJoined
import GoSem.ClaimMapViews
import Derived.JoinedTies
import Derived.KernelRfl
namespace Go.Proofs.YtmhmaifmendebaaDoor
/- THE CELL 'sum', in the pinned program and in every row, IS THE sha256 OF THE DUMP (.gsa) THAT YtmhmaifmendebaaDoorProg.lean LOADS. Nothing in Lean hashes anything: it is a label: what it is worth is what the hold of that sum in a sandbox is worth. -/
noncomputable def Tryd.pinned : Pinned := { name := "ytmhmaifmendebaadoor", sum := "e265aa9b1e1b647ed69d1400e1b19f1a84860a839e7e98e4f811437981e7eb48", checked := Tryd.checked }
namespace Rows
def none {H : Type} : Left H := { results := [], args := [] }

/- WHAT THE LISTED PACKAGE-LEVEL VARIABLES READ AS WHEN THE CALL BEGINS. Each datum BY PROGRAM (the guide's laid-datum.mjs) off the statement by which the dump's own 'gosem.cut.vars' lays the variable. In a bare row this is a premise. The card (YtmhmaifmendebaaDoorCards.lean) ties it to the program's text. -/
def laid_bascule_rank_powers {H : Type} : DataW H := .agg [.agg [.lit (.int .i64 1), .lit (.int .i64 2), .lit (.int .i64 4), .lit (.int .i64 8), .lit (.int .i64 16)], .agg [.lit (.int .i64 1), .lit (.int .i64 3), .lit (.int .i64 9), .lit (.int .i64 27), .lit (.int .i64 81)], .agg [.lit (.int .i64 1), .lit (.int .i64 4), .lit (.int .i64 16), .lit (.int .i64 64), .lit (.int .i64 256)]]
def laid_bascule_op_objects {H : Type} : DataW H := .agg [.lit (.int .u8 0), .lit (.int .u8 1), .lit (.int .u8 1), .lit (.int .u8 1), .lit (.int .u8 2), .lit (.int .u8 2), .lit (.int .u8 2), .lit (.int .u8 2), .lit (.int .u8 2), .lit (.int .u8 3), .lit (.int .u8 3), .lit (.int .u8 3), .lit (.int .u8 4), .lit (.int .u8 4), .lit (.int .u8 4)]
def laid_bascule_op_writers {H : Type} : DataW H := .agg [.lit (.bool false), .lit (.bool true), .lit (.bool true), .lit (.bool false), .lit (.bool true), .lit (.bool true), .lit (.bool false), .lit (.bool false), .lit (.bool false), .lit (.bool true), .lit (.bool true), .lit (.bool false), .lit (.bool true), .lit (.bool true), .lit (.bool false)]

/-- 'basculelaw16.ProgNames': WHATEVER THE INPUT: true; the input reads as it did. -/
def progNamesSpec : ChangeSpec := { name := "progNames", fn := fun _ => fun
  | [] => { results := [.lit (.bool true)], args := [] }
  | _ => none }
def progNamesRow : OpenClaim := { program := "ytmhmaifmendebaadoor", sum := "e265aa9b1e1b647ed69d1400e1b19f1a84860a839e7e98e4f811437981e7eb48", func := "bascule/basculelaw16.ProgNames", spec := "progNames", unfollowed := true, recurses := true, named := ["bascule/op.objects", "bascule/rank.powers"], apart := false, laid := [("bascule/rank.powers", laid_bascule_rank_powers), ("bascule/op.objects", laid_bascule_op_objects)] }
def ProgNamesSaid : Prop := progNamesRow.holds Tryd.pinned (OpenSpec.ofChange progNamesSpec)

/-- ITS FALSE NEIGHBOUR: 'it returns false'. Refute it at one input. -/
def progNamesWrong : ChangeSpec := { name := "progNames", fn := fun _ => fun
  | [] => { results := [.lit (.bool false)], args := [] }
  | _ => none }
def ProgNamesWrongFalsely : Prop := progNamesRow.holds Tryd.pinned (OpenSpec.ofChange progNamesWrong)

/-- 'basculelaw16.ProgStarts': WHATEVER THE INPUT: true; the input reads as it did. -/
def progStartsSpec : ChangeSpec := { name := "progStarts", fn := fun _ => fun
  | [d1, d2] => { results := [.lit (.bool true)], args := [d1, d2] }
  | _ => none }
def progStartsRow : OpenClaim := { program := "ytmhmaifmendebaadoor", sum := "e265aa9b1e1b647ed69d1400e1b19f1a84860a839e7e98e4f811437981e7eb48", func := "bascule/basculelaw16.ProgStarts", spec := "progStarts", unfollowed := true, recurses := true, named := ["bascule/op.objects", "bascule/rank.powers"], apart := false, laid := [("bascule/rank.powers", laid_bascule_rank_powers), ("bascule/op.objects", laid_bascule_op_objects)] }
def ProgStartsSaid : Prop := progStartsRow.holds Tryd.pinned (OpenSpec.ofChange progStartsSpec)

/-- ITS FALSE NEIGHBOUR: 'it returns false'. Refute it at one input. -/
def progStartsWrong : ChangeSpec := { name := "progStarts", fn := fun _ => fun
  | [d1, d2] => { results := [.lit (.bool false)], args := [d1, d2] }
  | _ => none }
def ProgStartsWrongFalsely : Prop := progStartsRow.holds Tryd.pinned (OpenSpec.ofChange progStartsWrong)

/-- 'basculelaw16.ProgAlone': WHATEVER THE INPUT: true; the input reads as it did. -/
def progAloneSpec : ChangeSpec := { name := "progAlone", fn := fun _ => fun
  | [d1, d2, d3, d4] => { results := [.lit (.bool true)], args := [d1, d2, d3, d4] }
  | _ => none }
def progAloneRow : OpenClaim := { program := "ytmhmaifmendebaadoor", sum := "e265aa9b1e1b647ed69d1400e1b19f1a84860a839e7e98e4f811437981e7eb48", func := "bascule/basculelaw16.ProgAlone", spec := "progAlone", unfollowed := true, recurses := true, named := ["bascule/op.objects", "bascule/rank.powers"], apart := false, laid := [("bascule/rank.powers", laid_bascule_rank_powers), ("bascule/op.objects", laid_bascule_op_objects)] }
def ProgAloneSaid : Prop := progAloneRow.holds Tryd.pinned (OpenSpec.ofChange progAloneSpec)

/-- ITS FALSE NEIGHBOUR: 'it returns false'. Refute it at one input. -/
def progAloneWrong : ChangeSpec := { name := "progAlone", fn := fun _ => fun
  | [d1, d2, d3, d4] => { results := [.lit (.bool false)], args := [d1, d2, d3, d4] }
  | _ => none }
def ProgAloneWrongFalsely : Prop := progAloneRow.holds Tryd.pinned (OpenSpec.ofChange progAloneWrong)

/-- 'basculelaw16.ProgReads': WHATEVER THE INPUT: true; the input reads as it did. -/
def progReadsSpec : ChangeSpec := { name := "progReads", fn := fun _ => fun
  | [d1, d2, d3] => { results := [.lit (.bool true)], args := [d1, d2, d3] }
  | _ => none }
def progReadsRow : OpenClaim := { program := "ytmhmaifmendebaadoor", sum := "e265aa9b1e1b647ed69d1400e1b19f1a84860a839e7e98e4f811437981e7eb48", func := "bascule/basculelaw16.ProgReads", spec := "progReads", unfollowed := true, recurses := true, named := ["bascule/op.objects", "bascule/rank.powers", "bascule/op.writers"], apart := false, laid := [("bascule/rank.powers", laid_bascule_rank_powers), ("bascule/op.objects", laid_bascule_op_objects), ("bascule/op.writers", laid_bascule_op_writers)] }
def ProgReadsSaid : Prop := progReadsRow.holds Tryd.pinned (OpenSpec.ofChange progReadsSpec)

/-- ITS FALSE NEIGHBOUR: 'it returns false'. Refute it at one input. -/
def progReadsWrong : ChangeSpec := { name := "progReads", fn := fun _ => fun
  | [d1, d2, d3] => { results := [.lit (.bool false)], args := [d1, d2, d3] }
  | _ => none }
def ProgReadsWrongFalsely : Prop := progReadsRow.holds Tryd.pinned (OpenSpec.ofChange progReadsWrong)

/- THE SECOND FORM. 'bulk': how many values and letters a reading holds, each counted each time it is reached (what is shared counts as often as it is met; a slice's spare places count too). A statement '..UptoSaid' is the law's where the arguments, and the package variables that the reading takes, are together of bulk at most 1048576: NARROWER than '..Said'. Prove '..Said' where nothing that the law and all that it calls make is longer than what came in: it says more and counts as full. Else prove '..UptoSaid'. A law counts once. -/
mutual
def uptoBulk {H : Type} : DataW H → Nat
  | .lit (.string bytes) => bytes.length + 1
  | .lit _ => 1
  | .nil => 1
  | .ptr d => uptoBulk d + 1
  | .slice elems spare => uptoBulkAll elems + uptoBulkAll spare + 1
  | .agg parts => uptoBulkAll parts + 1
  | .iface _ d => uptoBulk d + 1
  | .map entries => uptoBulkEntries entries + 1
  | .held _ => 1
def uptoBulkAll {H : Type} : List (DataW H) → Nat
  | [] => 0
  | d :: r => uptoBulk d + uptoBulkAll r
def uptoBulkEntries {H : Type} : List (Lit × DataW H) → Nat
  | [] => 0
  | x :: r => uptoBulkEntry x + uptoBulkEntries r
def uptoBulkEntry {H : Type} : Lit × DataW H → Nat
  | (.string bytes, d) => bytes.length + uptoBulk d + 1
  | (_, d) => uptoBulk d + 1
 end
def uptoSmall : (H : Type) → List (DataW H) → Bool := fun _ ds => decide (uptoBulkAll ds ≤ 1048576)
def OpenSpec.upto (s : _root_.Go.ChangeSpec) : _root_.Go.OpenSpec := { _root_.Go.OpenSpec.ofChange s with cond := some uptoSmall }

/-- 'basculelaw16.ProgNames', WHERE WHAT IT READS IS OF BULK AT MOST 1048576: true; the input reads as it did. -/
def progNamesUptoRow : OpenClaim := { program := "ytmhmaifmendebaadoor", sum := "e265aa9b1e1b647ed69d1400e1b19f1a84860a839e7e98e4f811437981e7eb48", func := "bascule/basculelaw16.ProgNames", spec := "progNames", unfollowed := true, recurses := true, named := ["bascule/op.objects", "bascule/rank.powers"], apart := false, laid := [("bascule/rank.powers", laid_bascule_rank_powers), ("bascule/op.objects", laid_bascule_op_objects)], narrowed := true }
def ProgNamesUptoSaid : Prop := progNamesUptoRow.holds Tryd.pinned (OpenSpec.upto progNamesSpec)

/-- 'basculelaw16.ProgStarts', WHERE WHAT IT READS IS OF BULK AT MOST 1048576: true; the input reads as it did. -/
def progStartsUptoRow : OpenClaim := { program := "ytmhmaifmendebaadoor", sum := "e265aa9b1e1b647ed69d1400e1b19f1a84860a839e7e98e4f811437981e7eb48", func := "bascule/basculelaw16.ProgStarts", spec := "progStarts", unfollowed := true, recurses := true, named := ["bascule/op.objects", "bascule/rank.powers"], apart := false, laid := [("bascule/rank.powers", laid_bascule_rank_powers), ("bascule/op.objects", laid_bascule_op_objects)], narrowed := true }
def ProgStartsUptoSaid : Prop := progStartsUptoRow.holds Tryd.pinned (OpenSpec.upto progStartsSpec)

/-- 'basculelaw16.ProgAlone', WHERE WHAT IT READS IS OF BULK AT MOST 1048576: true; the input reads as it did. -/
def progAloneUptoRow : OpenClaim := { program := "ytmhmaifmendebaadoor", sum := "e265aa9b1e1b647ed69d1400e1b19f1a84860a839e7e98e4f811437981e7eb48", func := "bascule/basculelaw16.ProgAlone", spec := "progAlone", unfollowed := true, recurses := true, named := ["bascule/op.objects", "bascule/rank.powers"], apart := false, laid := [("bascule/rank.powers", laid_bascule_rank_powers), ("bascule/op.objects", laid_bascule_op_objects)], narrowed := true }
def ProgAloneUptoSaid : Prop := progAloneUptoRow.holds Tryd.pinned (OpenSpec.upto progAloneSpec)

/-- 'basculelaw16.ProgReads', WHERE WHAT IT READS IS OF BULK AT MOST 1048576: true; the input reads as it did. -/
def progReadsUptoRow : OpenClaim := { program := "ytmhmaifmendebaadoor", sum := "e265aa9b1e1b647ed69d1400e1b19f1a84860a839e7e98e4f811437981e7eb48", func := "bascule/basculelaw16.ProgReads", spec := "progReads", unfollowed := true, recurses := true, named := ["bascule/op.objects", "bascule/rank.powers", "bascule/op.writers"], apart := false, laid := [("bascule/rank.powers", laid_bascule_rank_powers), ("bascule/op.objects", laid_bascule_op_objects), ("bascule/op.writers", laid_bascule_op_writers)], narrowed := true }
def ProgReadsUptoSaid : Prop := progReadsUptoRow.holds Tryd.pinned (OpenSpec.upto progReadsSpec)

end Rows
end Go.Proofs.YtmhmaifmendebaaDoor
