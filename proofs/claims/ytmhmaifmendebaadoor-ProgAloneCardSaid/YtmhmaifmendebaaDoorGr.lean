/- The walks of the references of the layers 'rank' and 'tree': items, levels, offsets. -/
import Derived.Test.YtmhmaifmendebaaDoorGc
import Derived.Test.YtmhmaifmendebaaDoorGd
import Derived.Test.YtmhmaifmendebaaDoorGf
import Derived.Outline
namespace Go.Proofs.YtmhmaifmendebaaDoor.tree
open Go Go.RowKit
set_option maxRecDepth 100000
set_option maxHeartbeats 8000000

theorem itN_succ (w h m : Nat) : itN w (h + 1) m = itN w h ((m + w - 1) / w) := rfl
theorem topI_of {n w : Int} {k : Nat} (_hn : 0 ≤ n ∧ n ≤ 32) (_hw : w = 2 ∨ w = 3 ∨ w = 4) (hk : k ≤ 4) (h1 : ∀ j : Nat, j < k → w < upI n w j) (h2 : upI n w k ≤ w) : topI n w = k := by
  have := lvN_of hk h1 (Or.inr h2)
  have h3 := (topI_bd n w).1
  unfold lvN at this
  omega
end Go.Proofs.YtmhmaifmendebaaDoor.tree
/- The walks of the reference of the layer 'tree': offsets, the last item, the table. -/
namespace Go.Proofs.YtmhmaifmendebaaDoor.tree
open Go Go.RowKit
set_option maxRecDepth 100000
set_option maxHeartbeats 8000000

theorem upI_step {n w h : Int} (hn : 0 ≤ n) (hw : w = 2 ∨ w = 3 ∨ w = 4) (hh : h = 1 ∨ h = 2 ∨ h = 3 ∨ h = 4) : upI n w h = (upI n w (h - 1) + w - 1) / w := by
  rw [upI_eq hn hw (by omega), upI_eq hn hw (h := h - 1) (by omega)]
  rcases hw with rfl | rfl | rfl <;> rcases hh with rfl | rfl | rfl | rfl
  all_goals
    simp only [Int.reduceSub, Int.reduceToNat, Int.reducePow]
    omega
end Go.Proofs.YtmhmaifmendebaaDoor.tree
/- The walks of the reference of the layer 'tree': the table, the numbers. -/
namespace Go.Proofs.YtmhmaifmendebaaDoor.tree
open Go Go.RowKit
set_option maxRecDepth 100000
set_option maxHeartbeats 8000000

theorem objOf_two {k : Int} (h : objOf k = 2) : k = 4 ∨ k = 5 ∨ k = 6 ∨ k = 7 ∨ k = 8 := by
  unfold objOf at h
  split at h <;> (try split at h) <;> (try split at h) <;> (try split at h) <;> (try split at h) <;> omega
end Go.Proofs.YtmhmaifmendebaaDoor.tree
