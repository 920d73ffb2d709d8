/- The walks of the layers 'part' and its reference: a config may be, or not. -/
import Derived.Test.YtmhmaifmendebaaGreatDoorProg
import Derived.Test.YtmhmaifmendebaaGreatDoorA0
import Derived.Deep.QuietTactic
import Derived.BigQuiet
import Derived.Lib.Hide
namespace Go.Proofs.YtmhmaifmendebaaGreatDoor
open Go Go.RowKit
set_option maxRecDepth 100000
set_option maxHeartbeats 8000000

theorem within_any (is : Bool) (n a b : Int) (w : World) : Calls Tryz.prog 21 #[.bool is, .int .i64 n, .int .i64 a, .int .i64 b] w
    fun e w' => e = .returned (.bool (within is n a b)) ∧ w = w' := by
  cases is
  · go_enter Tryz.func21, Tryz.ntmps21
    go_wp2
    go_ret
    exact ⟨by simp [within], rfl⟩
  · go_enter Tryz.func21, Tryz.ntmps21
    go_wp2
    all_goals go_ret
    · have h : a ≤ n := by assumption
      exact ⟨by simp [within, h], rfl⟩
    · have h : n < a := by assumption
      exact ⟨by simp [within, show ¬ a ≤ n by omega], rfl⟩

theorem partCheck_any (c : Cfg) (w : World) : Calls Tryz.prog 9 #[c.v] w
    fun e w' => e = .returned (.int .i64 (confN c)) ∧ Ext w w' := by
  go_enter Tryz.func9, Tryz.ntmps9
  go_wp2
  go_quiet (fail)
  go_wp2_with (go_at_call 21; refine (within_any _ _ _ _ _).mono ?_; rintro e w' ⟨rfl, rfl⟩; generalize hq : within _ _ _ _ = q; cases q)
  all_goals (go_ret; refine ⟨ret_int ?_, EX⟩)
  all_goals (try clear ‹∀ (_ : Act) (_ : World), _›)
  all_goals (simp_all [confN, partOk])
  all_goals omega
end Go.Proofs.YtmhmaifmendebaaGreatDoor
/- The walks of the reference of layer 'part': a config may be, or not. -/
namespace Go.Proofs.YtmhmaifmendebaaGreatDoor
open Go Go.RowKit
set_option maxRecDepth 100000
set_option maxHeartbeats 8000000

theorem wide_any (n : Int) (w : World) : Calls Tryz.prog 29 #[.int .i64 n] w fun e w' => e = .returned (.bool (within true n 2 4)) ∧ w = w' := by
  go_enter Tryz.func29, Tryz.ntmps29
  go_wp2
  all_goals go_ret
  · have h : 2 ≤ n := by assumption
    exact ⟨by simp [within, h], rfl⟩
  · have h : n < 2 := by assumption
    exact ⟨by simp [within, show ¬ 2 ≤ n by omega], rfl⟩

theorem mayBe_any (c : Cfg) (w : World) : Calls Tryz.prog 11 #[c.v] w
    fun e w' => e = .returned (.bool (partOk c)) ∧ Ext w w' := by
  go_enter Tryz.func11, Tryz.ntmps11
  go_wp2_with (go_at_call 29; refine (wide_any _ _).mono ?_; rintro e w' ⟨rfl, rfl⟩; generalize hq : within _ _ _ _ = q; cases q)
  all_goals (go_ret; refine ⟨ret_bool ?_, EX⟩)
  all_goals (try clear ‹∀ (_ : Act) (_ : World), _›)
  all_goals (simp_all [partOk, within])
  all_goals (first | omega | rfl)
end Go.Proofs.YtmhmaifmendebaaGreatDoor
