/- The walk of the law 'TrieGoes'. -/
import Derived.Test.YtpaplhkjaniafaaDoorTr6
import Derived.Test.YtpaplhkjaniafaaDoorTrR3
namespace Go.Proofs.YtpaplhkjaniafaaDoor
open Go Go.RowKit

set_option maxHeartbeats 4000000 in
theorem trieGoes_walk (c : Cfg) (f : Frm) (l : Cel) (hf : f.Fits) (hl : l.Fits) (w : World) (ht : Tab w) : Calls Tryd.prog 4 #[c.v, f.v, l.v] w
    fun e w' => e = .returned (.bool true) ∧ Ext w w' := by
  have HF := Lib.hid hf
  have HL := Lib.hid hl
  clear hf hl
  go_enter Tryd.func4, Tryd.ntmps4
  go_wp2_with (first | (go_at_call 10; refine (trAfter_any c f l HF.out HL.out _ (Tab.ext ht (by repeat (first | with_reducible exact Ext.refl _ | with_reducible assumption | with_reducible refine Ext.alloc ?_ _ | with_reducible refine Ext.gr ?_ _ | with_reducible refine Ext.drewN ?_ _ | with_reducible refine Ext.drew ?_ | with_reducible refine Ext.setCell ?_ ?_ _ | with_reducible refine Ext.more ?_ _ _ | (show _ ≤ _; dsimp only; omega))))).mono ?_; rintro e w1 ⟨rfl, os1, n1, rfl⟩) | (go_at_call 11; refine (trAfterR_any c f l HF.out HL.out _).mono ?_; rintro e w2 ⟨rfl, os2, n2, rfl⟩))
  go_ret
  exact ⟨rfl, (by repeat (first | with_reducible exact Ext.refl _ | with_reducible assumption | with_reducible refine Ext.alloc ?_ _ | with_reducible refine Ext.gr ?_ _ | with_reducible refine Ext.drewN ?_ _ | with_reducible refine Ext.drew ?_ | with_reducible refine Ext.setCell ?_ ?_ _ | with_reducible refine Ext.more ?_ _ _ | (show _ ≤ _; dsimp only; omega)))⟩
end Go.Proofs.YtpaplhkjaniafaaDoor
