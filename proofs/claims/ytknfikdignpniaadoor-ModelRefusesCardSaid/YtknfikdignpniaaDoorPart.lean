/- The walks of the layers 'part' and its reference: a config may be, or not. -/
import Derived.Test.YtknfikdignpniaaDoorProg
import Derived.Test.YtknfikdignpniaaDoorPlain
import Derived.Deep.QuietTactic
import Derived.BigQuiet
import Derived.Lib.Hide
namespace Go.Proofs.YtknfikdignpniaaDoor
open Go Go.RowKit
set_option maxRecDepth 100000
set_option maxHeartbeats 8000000

theorem within_any (is : Bool) (n a b : Int) (w : World) : Calls Tryd.prog 16 #[.bool is, .int .i64 n, .int .i64 a, .int .i64 b] w
    fun e w' => e = .returned (.bool (within is n a b)) ∧ w = w' := by
  cases is
  · go_enter Tryd.func16, Tryd.ntmps16
    go_wp2
    go_ret
    exact ⟨by simp [within], rfl⟩
  · go_enter Tryd.func16, Tryd.ntmps16
    go_wp2
    all_goals go_ret
    · have h : a ≤ n := by assumption
      exact ⟨by simp [within, h], rfl⟩
    · have h : n < a := by assumption
      exact ⟨by simp [within, show ¬ a ≤ n by omega], rfl⟩

theorem partCheck_any (c : Cfg) (w : World) : Calls Tryd.prog 11 #[c.v] w
    fun e w' => e = .returned (.int .i64 (confN c)) ∧ Ext w w' := by
  go_enter Tryd.func11, Tryd.ntmps11
  go_wp2
  go_quiet (fail)
  go_wp2_with (go_at_call 16; refine (within_any _ _ _ _ _).mono ?_; rintro e w' ⟨rfl, rfl⟩; generalize hq : within _ _ _ _ = q; cases q)
  all_goals (go_ret; refine ⟨ret_int ?_, EX⟩)
  all_goals (try clear ‹∀ (_ : Act) (_ : World), _›)
  all_goals (simp_all [confN, partOk])
  all_goals omega
end Go.Proofs.YtknfikdignpniaaDoor
