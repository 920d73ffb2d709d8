/-
  DERIVED. GIVEN WITH THE SEED: THE PROGRAM's TIES (one call each: nine closed facts by the kernel) AND EACH ROW's TIE, after the 31st guide's Derived/Test/Toyas{Tie, Card}.lean. No idea stands in it: it is a product of the set-up. Laid BY PROGRAM, IN A SANDBOX (cutbox-door.mjs). By AI agents, Wed Nov 11 2026. No macro, syntax, notation, axiom, sorry.
-/
import Derived.Test.YtmhmaifmendebaaDoorRows
import Derived.LaidByTextLater
import Derived.SevenTiedAt
import Derived.LaidSub
import Derived.LaidOnce
namespace Go.Proofs.YtmhmaifmendebaaDoor
open Go
set_option maxRecDepth 100000
theorem seatTie1 : Tryd.prog.laidByTextLater [("bascule/rank.powers", Rows.laid_bascule_rank_powers), ("bascule/op.objects", Rows.laid_bascule_op_objects), ("bascule/op.writers", Rows.laid_bascule_op_writers)] [.data, .data, .data] true :=
  Program.laidByTextLater_by_one 27 8 16 (by kernel_rfl) (by kernel_rfl) (by kernel_rfl) (by kernel_rfl) (by kernel_rfl) (by kernel_rfl) (fun _ _ => by kernel_rfl)
theorem noOwnUnsafe : Tryd.pinned.checked.prog.headLifts.contains "ownunsafe" = false := by kernel_rfl
theorem tie : Tryd.prog.laidByTextLater [("bascule/rank.powers", Rows.laid_bascule_rank_powers), ("bascule/op.objects", Rows.laid_bascule_op_objects)] [.data, .data] true :=
  Program.laidByTextLater.sub seatTie1 ["bascule/rank.powers", "bascule/op.objects"] (by kernel_rfl) (by kernel_rfl)
theorem progNames_row_tie : Rows.progNamesRow.laidByTextAt .later Tryd.pinned [.data, .data] true :=
  OpenClaim.laidByTextAt_later rfl rfl tie noOwnUnsafe
theorem progStarts_row_tie : Rows.progStartsRow.laidByTextAt .later Tryd.pinned [.data, .data] true :=
  OpenClaim.laidByTextAt_later rfl rfl tie noOwnUnsafe
theorem progAlone_row_tie : Rows.progAloneRow.laidByTextAt .later Tryd.pinned [.data, .data] true :=
  OpenClaim.laidByTextAt_later rfl rfl tie noOwnUnsafe
theorem tie2 : Tryd.prog.laidByTextLater [("bascule/rank.powers", Rows.laid_bascule_rank_powers), ("bascule/op.objects", Rows.laid_bascule_op_objects), ("bascule/op.writers", Rows.laid_bascule_op_writers)] [.data, .data, .data] true :=
  Program.laidByTextLater.sub seatTie1 ["bascule/rank.powers", "bascule/op.objects", "bascule/op.writers"] (by kernel_rfl) (by kernel_rfl)
theorem progReads_row_tie : Rows.progReadsRow.laidByTextAt .later Tryd.pinned [.data, .data, .data] true :=
  OpenClaim.laidByTextAt_later rfl rfl tie2 noOwnUnsafe
theorem progNamesUpto_row_tie : Rows.progNamesUptoRow.laidByTextAt .later Tryd.pinned [.data, .data] true :=
  OpenClaim.laidByTextAt_later rfl rfl tie noOwnUnsafe
theorem progStartsUpto_row_tie : Rows.progStartsUptoRow.laidByTextAt .later Tryd.pinned [.data, .data] true :=
  OpenClaim.laidByTextAt_later rfl rfl tie noOwnUnsafe
theorem progAloneUpto_row_tie : Rows.progAloneUptoRow.laidByTextAt .later Tryd.pinned [.data, .data] true :=
  OpenClaim.laidByTextAt_later rfl rfl tie noOwnUnsafe
theorem progReadsUpto_row_tie : Rows.progReadsUptoRow.laidByTextAt .later Tryd.pinned [.data, .data, .data] true :=
  OpenClaim.laidByTextAt_later rfl rfl tie2 noOwnUnsafe
end Go.Proofs.YtmhmaifmendebaaDoor
