/- The walk of the law 'ProgActs'. -/
import Derived.Test.YtmhmaifmendebaaGreatDoorPN
namespace Go.Proofs.YtmhmaifmendebaaGreatDoor
open Go Go.RowKit
set_option maxRecDepth 100000
set_option maxHeartbeats 8000000

theorem progActs_walk (c : Cfg) (f : Frm) (hf : f.Fits) (w : World) (ht : Tab w) : Calls Tryz.prog 3 #[c.v, f.v] w
    fun e w' => e = .returned (.bool true) ∧ Ext w w' := by
  have HF := Lib.hid hf
  clear hf
  go_enter Tryz.func3, Tryz.ntmps3
  go_wp2_with (first | (go_at_call 5; refine (pgNext_any c f HF.out _ (Tab.ext ht EX)).mono ?_; rintro e w1 ⟨rfl, os1, n1, rfl⟩) | (go_at_call 6; refine (pgNextR_any c f HF.out _).mono ?_; rintro e w2 ⟨rfl, os2, n2, rfl⟩))
  go_ret
  exact ⟨rfl, EX⟩
end Go.Proofs.YtmhmaifmendebaaGreatDoor
