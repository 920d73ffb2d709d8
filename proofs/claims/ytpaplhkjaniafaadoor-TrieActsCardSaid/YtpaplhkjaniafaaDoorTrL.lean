/- The walk of the law 'TrieActs'. -/
import Derived.Test.YtpaplhkjaniafaaDoorTr6
import Derived.Test.YtpaplhkjaniafaaDoorTrR2
namespace Go.Proofs.YtpaplhkjaniafaaDoor
open Go Go.RowKit

set_option maxHeartbeats 4000000 in
theorem trieActs_walk (c : Cfg) (f : Frm) (hf : f.Fits) (w : World) (ht : Tab w) : Calls Tryd.prog 3 #[c.v, f.v] w
    fun e w' => e = .returned (.bool true) ∧ Ext w w' := by
  have HF := Lib.hid hf
  clear hf
  go_enter Tryd.func3, Tryd.ntmps3
  go_wp2_with (first | (go_at_call 8; refine (trNext_any c f HF.out _ (Tab.ext ht (by repeat (first | with_reducible exact Ext.refl _ | with_reducible assumption | with_reducible refine Ext.alloc ?_ _ | with_reducible refine Ext.gr ?_ _ | with_reducible refine Ext.drewN ?_ _ | with_reducible refine Ext.drew ?_ | with_reducible refine Ext.setCell ?_ ?_ _ | with_reducible refine Ext.more ?_ _ _ | (show _ ≤ _; dsimp only; omega))))).mono ?_; rintro e w1 ⟨rfl, os1, n1, rfl⟩) | (go_at_call 9; refine (trNextR_any c f HF.out _).mono ?_; rintro e w2 ⟨rfl, os2, n2, rfl⟩))
  go_ret
  exact ⟨rfl, (by repeat (first | with_reducible exact Ext.refl _ | with_reducible assumption | with_reducible refine Ext.alloc ?_ _ | with_reducible refine Ext.gr ?_ _ | with_reducible refine Ext.drewN ?_ _ | with_reducible refine Ext.drew ?_ | with_reducible refine Ext.setCell ?_ ?_ _ | with_reducible refine Ext.more ?_ _ _ | (show _ ≤ _; dsimp only; omega)))⟩
end Go.Proofs.YtpaplhkjaniafaaDoor
