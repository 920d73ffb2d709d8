/- The walk of 'table.of'. -/
import Derived.Test.YtknfikdignpniaaDoorTab0
import Derived.Test.YtknfikdignpniaaDoorTab1
import Derived.Test.YtknfikdignpniaaDoorCheck
namespace Go.Proofs.YtknfikdignpniaaDoor.table
open Go Go.RowKit
set_option maxRecDepth 100000
set_option maxHeartbeats 8000000

theorem of_any (c : Cfg) (w : World) : Calls Tryd.prog 37 #[c.v] w fun e w' => e = .returned (.bool (partOk c && (c.object == 1))) ∧ Ext w w' := by
  cases hp : partOk c
  · have HC := Lib.hid (conf_no hp)
    go_enter Tryd.func37, Tryd.ntmps37
    go_wp2_with (go_at_call 11; refine (partCheck_any c _).mono ?_; rintro e w1 ⟨rfl, os1, n1, rfl⟩; rw [HC.out])
    go_ret
    exact ⟨rfl, EX⟩
  · have HC := Lib.hid (conf_ok hp)
    cases h1 : (c.object == 1)
    all_goals
      go_enter Tryd.func37, Tryd.ntmps37
      go_wp2_with (go_at_call 11; refine (partCheck_any c _).mono ?_; rintro e w1 ⟨rfl, os1, n1, rfl⟩; rw [HC.out])
      go_ret
      exact ⟨rfl, EX⟩
end Go.Proofs.YtknfikdignpniaaDoor.table
