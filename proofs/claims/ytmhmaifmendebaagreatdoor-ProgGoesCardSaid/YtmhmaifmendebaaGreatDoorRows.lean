/-
  NARROWER THAN 'FOR EVERY INPUT', by the rows' own cells (each row's printed sentence says how): ProgActs: laid · ProgGoes: laid.
  DERIVED. THE GIVEN ROWS OF THIS SEAT. 2 by the template 'for every input the law returns true; each argument reads behind the call as it read before'; 0 by the template 'total and deterministic' (their statements: YtmhmaifmendebaaGreatDoorTotals.lean).
  GIVEN WITH THE SEED: the statements are not yours to turn. If you find one false, say at which input.
  Laid BY PROGRAM, IN A SANDBOX (cutbox-rows.mjs): the forced cells as the released guide's own fill.sh prints them over the translation 568e0e24e8873df5… (all of the seat's roots in one cut). By AI agents, Wed Nov 11 2026. No macro, syntax, notation, axiom, sorry.
-/
import Derived.Test.YtmhmaifmendebaaGreatDoorChecked
import GoSem.Claim
import GoSem.ClaimJoined
import GoSem.ClaimMapViews
import Derived.JoinedTies
import Derived.KernelRfl
namespace Go.Proofs.YtmhmaifmendebaaGreatDoor
/- THE CELL 'sum', in the pinned program and in every row, IS THE sha256 OF THE DUMP (.gsa) THAT YtmhmaifmendebaaGreatDoorProg.lean LOADS. Nothing in Lean hashes anything: it is a label: what it is worth is what the hold of that sum in a sandbox is worth. -/
noncomputable def Tryz.pinned : Pinned := { name := "ytmhmaifmendebaagreatdoor", sum := "568e0e24e8873df53141159ec8fa541c8dc82aaabf5bf0937eb659badb78c644", checked := Tryz.checked }
namespace Rows
def none {H : Type} : Left H := { results := [], args := [] }

/- WHAT THE LISTED PACKAGE-LEVEL VARIABLES READ AS WHEN THE CALL BEGINS. Each datum BY PROGRAM (the guide's laid-datum.mjs) off the statement by which the dump's own 'gosem.cut.vars' lays the variable. In a bare row this is a premise. The card (YtmhmaifmendebaaGreatDoorCards.lean) ties it to the program's text. -/
def laid_bascule_rank_powers {H : Type} : DataW H := .agg [.agg [.lit (.int .i64 1), .lit (.int .i64 2), .lit (.int .i64 4), .lit (.int .i64 8), .lit (.int .i64 16)], .agg [.lit (.int .i64 1), .lit (.int .i64 3), .lit (.int .i64 9), .lit (.int .i64 27), .lit (.int .i64 81)], .agg [.lit (.int .i64 1), .lit (.int .i64 4), .lit (.int .i64 16), .lit (.int .i64 64), .lit (.int .i64 256)]]
def laid_bascule_op_objects {H : Type} : DataW H := .agg [.lit (.int .u8 0), .lit (.int .u8 1), .lit (.int .u8 1), .lit (.int .u8 1), .lit (.int .u8 2), .lit (.int .u8 2), .lit (.int .u8 2), .lit (.int .u8 2), .lit (.int .u8 2), .lit (.int .u8 3), .lit (.int .u8 3), .lit (.int .u8 3), .lit (.int .u8 4), .lit (.int .u8 4), .lit (.int .u8 4)]

/-- 'basculelaw16.ProgActs': WHATEVER THE INPUT: true; the input reads as it did. -/
def progActsSpec : ChangeSpec := { name := "progActs", fn := fun _ => fun
  | [d1, d2] => { results := [.lit (.bool true)], args := [d1, d2] }
  | _ => none }
def progActsRow : OpenClaim := { program := "ytmhmaifmendebaagreatdoor", sum := "568e0e24e8873df53141159ec8fa541c8dc82aaabf5bf0937eb659badb78c644", func := "bascule/basculelaw16.ProgActs", spec := "progActs", unfollowed := true, recurses := true, named := ["bascule/op.objects", "bascule/rank.powers"], apart := false, laid := [("bascule/rank.powers", laid_bascule_rank_powers), ("bascule/op.objects", laid_bascule_op_objects)] }
def ProgActsSaid : Prop := progActsRow.holds Tryz.pinned (OpenSpec.ofChange progActsSpec)

/-- ITS FALSE NEIGHBOUR: 'it returns false'. Refute it at one input. -/
def progActsWrong : ChangeSpec := { name := "progActs", fn := fun _ => fun
  | [d1, d2] => { results := [.lit (.bool false)], args := [d1, d2] }
  | _ => none }
def ProgActsWrongFalsely : Prop := progActsRow.holds Tryz.pinned (OpenSpec.ofChange progActsWrong)

/-- 'basculelaw16.ProgGoes': WHATEVER THE INPUT: true; the input reads as it did. -/
def progGoesSpec : ChangeSpec := { name := "progGoes", fn := fun _ => fun
  | [d1, d2, d3] => { results := [.lit (.bool true)], args := [d1, d2, d3] }
  | _ => none }
def progGoesRow : OpenClaim := { program := "ytmhmaifmendebaagreatdoor", sum := "568e0e24e8873df53141159ec8fa541c8dc82aaabf5bf0937eb659badb78c644", func := "bascule/basculelaw16.ProgGoes", spec := "progGoes", unfollowed := true, recurses := true, named := ["bascule/op.objects", "bascule/rank.powers"], apart := false, laid := [("bascule/rank.powers", laid_bascule_rank_powers), ("bascule/op.objects", laid_bascule_op_objects)] }
def ProgGoesSaid : Prop := progGoesRow.holds Tryz.pinned (OpenSpec.ofChange progGoesSpec)

/-- ITS FALSE NEIGHBOUR: 'it returns false'. Refute it at one input. -/
def progGoesWrong : ChangeSpec := { name := "progGoes", fn := fun _ => fun
  | [d1, d2, d3] => { results := [.lit (.bool false)], args := [d1, d2, d3] }
  | _ => none }
def ProgGoesWrongFalsely : Prop := progGoesRow.holds Tryz.pinned (OpenSpec.ofChange progGoesWrong)

/- THE SECOND FORM. 'bulk': how many values and letters a reading holds, each counted each time it is reached (what is shared counts as often as it is met; a slice's spare places count too). A statement '..UptoSaid' is the law's where the arguments, and the package variables that the reading takes, are together of bulk at most 1048576: NARROWER than '..Said'. Prove '..Said' where nothing that the law and all that it calls make is longer than what came in: it says more and counts as full. Else prove '..UptoSaid'. A law counts once. -/
mutual
def uptoBulk {H : Type} : DataW H → Nat
  | .lit (.string bytes) => bytes.length + 1
  | .lit _ => 1
  | .nil => 1
  | .ptr d => uptoBulk d + 1
  | .slice elems spare => uptoBulkAll elems + uptoBulkAll spare + 1
  | .agg parts => uptoBulkAll parts + 1
  | .iface _ d => uptoBulk d + 1
  | .map entries => uptoBulkEntries entries + 1
  | .held _ => 1
def uptoBulkAll {H : Type} : List (DataW H) → Nat
  | [] => 0
  | d :: r => uptoBulk d + uptoBulkAll r
def uptoBulkEntries {H : Type} : List (Lit × DataW H) → Nat
  | [] => 0
  | x :: r => uptoBulkEntry x + uptoBulkEntries r
def uptoBulkEntry {H : Type} : Lit × DataW H → Nat
  | (.string bytes, d) => bytes.length + uptoBulk d + 1
  | (_, d) => uptoBulk d + 1
 end
def uptoSmall : (H : Type) → List (DataW H) → Bool := fun _ ds => decide (uptoBulkAll ds ≤ 1048576)
def OpenSpec.upto (s : _root_.Go.ChangeSpec) : _root_.Go.OpenSpec := { _root_.Go.OpenSpec.ofChange s with cond := some uptoSmall }

/-- 'basculelaw16.ProgActs', WHERE WHAT IT READS IS OF BULK AT MOST 1048576: true; the input reads as it did. -/
def progActsUptoRow : OpenClaim := { program := "ytmhmaifmendebaagreatdoor", sum := "568e0e24e8873df53141159ec8fa541c8dc82aaabf5bf0937eb659badb78c644", func := "bascule/basculelaw16.ProgActs", spec := "progActs", unfollowed := true, recurses := true, named := ["bascule/op.objects", "bascule/rank.powers"], apart := false, laid := [("bascule/rank.powers", laid_bascule_rank_powers), ("bascule/op.objects", laid_bascule_op_objects)], narrowed := true }
def ProgActsUptoSaid : Prop := progActsUptoRow.holds Tryz.pinned (OpenSpec.upto progActsSpec)

/-- 'basculelaw16.ProgGoes', WHERE WHAT IT READS IS OF BULK AT MOST 1048576: true; the input reads as it did. -/
def progGoesUptoRow : OpenClaim := { program := "ytmhmaifmendebaagreatdoor", sum := "568e0e24e8873df53141159ec8fa541c8dc82aaabf5bf0937eb659badb78c644", func := "bascule/basculelaw16.ProgGoes", spec := "progGoes", unfollowed := true, recurses := true, named := ["bascule/op.objects", "bascule/rank.powers"], apart := false, laid := [("bascule/rank.powers", laid_bascule_rank_powers), ("bascule/op.objects", laid_bascule_op_objects)], narrowed := true }
def ProgGoesUptoSaid : Prop := progGoesUptoRow.holds Tryz.pinned (OpenSpec.upto progGoesSpec)

end Rows
end Go.Proofs.YtmhmaifmendebaaGreatDoor
