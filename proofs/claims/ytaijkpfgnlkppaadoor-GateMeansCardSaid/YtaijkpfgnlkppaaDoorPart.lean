/- The walks of the layers 'part' and its reference: a config may be, or not. -/
import Derived.Test.YtaijkpfgnlkppaaDoorProg
import Derived.Test.YtaijkpfgnlkppaaDoorPlain
import Derived.Deep.QuietTactic
import Derived.BigQuiet
import Derived.Lib.Hide
namespace Go.Proofs.YtaijkpfgnlkppaaDoor
open Go Go.RowKit

theorem within_any (is : Bool) (n a b : Int) (w : World) : Calls Tryd.prog 58 #[.bool is, .int .i64 n, .int .i64 a, .int .i64 b] w
    fun e w' => e = .returned (.bool (within is n a b)) ∧ w = w' := by
  cases is
  · go_enter Tryd.func58, Tryd.ntmps58
    go_wp2
    go_ret
    exact ⟨by simp [within], rfl⟩
  · go_enter Tryd.func58, Tryd.ntmps58
    go_wp2
    all_goals go_ret
    · have h : a ≤ n := by assumption
      exact ⟨by simp [within, h], rfl⟩
    · have h : n < a := by assumption
      exact ⟨by simp [within, show ¬ a ≤ n by omega], rfl⟩

set_option maxHeartbeats 4000000 in
theorem partCheck_any (c : Cfg) (w : World) : Calls Tryd.prog 43 #[c.v] w
    fun e w' => e = .returned (.int .i64 (confN c)) ∧ Ext w w' := by
  go_enter Tryd.func43, Tryd.ntmps43
  go_wp2
  go_quiet (fail)
  go_wp2_with (go_at_call 58; refine (within_any _ _ _ _ _).mono ?_; rintro e w' ⟨rfl, rfl⟩; generalize hq : within _ _ _ _ = q; cases q)
  all_goals (go_ret; refine ⟨ret_int ?_, (by repeat (first | with_reducible exact Ext.refl _ | with_reducible assumption | with_reducible refine Ext.alloc ?_ _ | with_reducible refine Ext.gr ?_ _ | with_reducible refine Ext.drewN ?_ _ | with_reducible refine Ext.drew ?_ | with_reducible refine Ext.setCell ?_ ?_ _ | with_reducible refine Ext.more ?_ _ _ | (show _ ≤ _; dsimp only; omega)))⟩)
  all_goals (try clear ‹∀ (_ : Act) (_ : World), _›)
  all_goals (simp_all [confN, partOk])
  all_goals omega
end Go.Proofs.YtaijkpfgnlkppaaDoor
