/- The walks of the reference of layer 'branch': names, and whether the table has a Pc. -/
import Derived.Test.YtmbodooikfmegaaDoorCheckR
import Derived.Test.YtmbodooikfmegaaDoorBranchP
import Derived.Test.YtmbodooikfmegaaDoorWorld
import Derived.Deep.Light
namespace Go.Proofs.YtmbodooikfmegaaDoor
open Go Go.RowKit

set_option maxHeartbeats 4000000 in
theorem nameR_any (f : Frm) (hf : f.Fits) (n : Int) (hn : n = 0 ∨ n = 1 ∨ n = 2 ∨ n < 0 ∨ 2 < n) (w : World) : Calls Tryd.prog 55 #[f.v, .int .i64 n] w
    fun e w' => e = .returned (.int .u32 (brName f n)) ∧ Ext w w' := by
  have HO : Hid (Opn.mk 0 f.a f.b 0).Fits := Lib.hid ⟨by simp, hf.a, hf.b, by simp⟩
  clear hf
  rcases hn with rfl | rfl | rfl | hn | hn
  · go_enter Tryd.func55, Tryd.ntmps55
    go_wp2_with (go_at_call 76; refine (namesR_any ⟨0, f.a, f.b, 0⟩ HO.out _).mono ?_; rintro e w1 ⟨rfl, os1, n1, rfl⟩)
    go_ret
    exact ⟨by simp [brName], (by repeat (first | with_reducible exact Ext.refl _ | with_reducible assumption | with_reducible refine Ext.alloc ?_ _ | with_reducible refine Ext.gr ?_ _ | with_reducible refine Ext.drewN ?_ _ | with_reducible refine Ext.drew ?_ | with_reducible refine Ext.setCell ?_ ?_ _ | with_reducible refine Ext.more ?_ _ _ | (show _ ≤ _; dsimp only; omega)))⟩
  · go_enter Tryd.func55, Tryd.ntmps55
    go_wp2_with (go_at_call 76; refine (namesR_any ⟨0, f.a, f.b, 0⟩ HO.out _).mono ?_; rintro e w1 ⟨rfl, os1, n1, rfl⟩)
    go_ret
    exact ⟨by simp [brName], (by repeat (first | with_reducible exact Ext.refl _ | with_reducible assumption | with_reducible refine Ext.alloc ?_ _ | with_reducible refine Ext.gr ?_ _ | with_reducible refine Ext.drewN ?_ _ | with_reducible refine Ext.drew ?_ | with_reducible refine Ext.setCell ?_ ?_ _ | with_reducible refine Ext.more ?_ _ _ | (show _ ≤ _; dsimp only; omega)))⟩
  · go_enter Tryd.func55, Tryd.ntmps55
    go_wp2_with (go_at_call 76; refine (namesR_any ⟨0, f.a, f.b, 0⟩ HO.out _).mono ?_; rintro e w1 ⟨rfl, os1, n1, rfl⟩)
    go_ret
    exact ⟨by simp [brName], (by repeat (first | with_reducible exact Ext.refl _ | with_reducible assumption | with_reducible refine Ext.alloc ?_ _ | with_reducible refine Ext.gr ?_ _ | with_reducible refine Ext.drewN ?_ _ | with_reducible refine Ext.drew ?_ | with_reducible refine Ext.setCell ?_ ?_ _ | with_reducible refine Ext.more ?_ _ _ | (show _ ≤ _; dsimp only; omega)))⟩
  · go_enter Tryd.func55, Tryd.ntmps55
    go_wp2_with (go_at_call 76; refine (namesR_any ⟨0, f.a, f.b, 0⟩ HO.out _).mono ?_; rintro e w1 ⟨rfl, os1, n1, rfl⟩)
    go_ret
    refine ⟨ret_int ?_, (by repeat (first | with_reducible exact Ext.refl _ | with_reducible assumption | with_reducible refine Ext.alloc ?_ _ | with_reducible refine Ext.gr ?_ _ | with_reducible refine Ext.drewN ?_ _ | with_reducible refine Ext.drew ?_ | with_reducible refine Ext.setCell ?_ ?_ _ | with_reducible refine Ext.more ?_ _ _ | (show _ ≤ _; dsimp only; omega)))⟩
    unfold brName
    rw [if_neg (by simp; omega), if_neg (by simp; omega), if_neg (by simp; omega)]
  · go_enter Tryd.func55, Tryd.ntmps55
    go_wp2_with (go_at_call 76; refine (namesR_any ⟨0, f.a, f.b, 0⟩ HO.out _).mono ?_; rintro e w1 ⟨rfl, os1, n1, rfl⟩)
    go_ret
    refine ⟨ret_int ?_, (by repeat (first | with_reducible exact Ext.refl _ | with_reducible assumption | with_reducible refine Ext.alloc ?_ _ | with_reducible refine Ext.gr ?_ _ | with_reducible refine Ext.drewN ?_ _ | with_reducible refine Ext.drew ?_ | with_reducible refine Ext.setCell ?_ ?_ _ | with_reducible refine Ext.more ?_ _ _ | (show _ ≤ _; dsimp only; omega)))⟩
    unfold brName
    rw [if_neg (by simp; omega), if_neg (by simp; omega), if_neg (by simp; omega)]

theorem thereR_any (k pc : Int) (hk : 0 ≤ k ∧ k ≤ 255) (hp : 0 ≤ pc ∧ pc ≤ 255) (w : World) : Calls Tryd.prog 53 #[.int .u8 k, .int .u8 pc] w
    fun e w' => e = .returned (.bool (pc == 0 || pc == 20 || (if k == 12 then pc == 2 || pc == 3 || pc == 4 || pc == 22 else if k == 13 then pc == 5 || pc == 6 || pc == 21 || pc == 23 else pc == 21))) ∧ w = w' := by
  obtain ⟨k0, k1⟩ := hk
  obtain ⟨p0, p1⟩ := hp
  go_enter Tryd.func53, Tryd.ntmps53
  go_wp2
  all_goals (go_ret; refine ⟨ret_bool ?_, rfl⟩)
  all_goals (go_light; simp_all)

set_option maxRecDepth 100000 in
set_option maxHeartbeats 4000000 in
theorem longR_any (f : Frm) (hf : f.Fits) (w : World) : Calls Tryd.prog 54 #[f.v] w
    fun e w' => e = .returned (.int .i64 (brLong f)) ∧ Ext w w' := by
  have HF := Lib.hid hf
  clear hf
  have n0 : Hid (brName f 0 = f.a % 65536) := rfl
  have n1 : Hid (brName f 1 = f.a / 65536) := rfl
  have n2 : Hid (brName f 2 = f.b) := rfl
  have HL : Hid (brLong f = if f.a % 65536 == 0 then 0 else if f.a / 65536 == 0 then 1 else if f.b == 0 then 2 else 3) := rfl
  cases z0 : (f.a % 65536 == 0)
  all_goals cases z1 : (f.a / 65536 == 0)
  all_goals cases z2 : (f.b == 0)
  all_goals
    have y0 : (brName f 0 != 0) = !(f.a % 65536 == 0) := by rw [n0.out]; rfl
    have y1 : (brName f 1 != 0) = !(f.a / 65536 == 0) := by rw [n1.out]; rfl
    have y2 : (brName f 2 != 0) = !(f.b == 0) := by rw [n2.out]; rfl
    rw [z0] at y0
    rw [z1] at y1
    rw [z2] at y2
    simp only [Bool.not_true, Bool.not_false] at y0 y1 y2
    go_enter Tryd.func54, Tryd.ntmps54
    go_wp2
    refine wp_loop_rounds 4 ?_
    repeat (rw [rounds_succ]; go_wp2_with (first | (go_at_call 55; (with_reducible refine (nameR_any f HF.out 0 (by omega) _).mono ?_); rintro e w1 ⟨rfl, os1, n1, rfl⟩) | (go_at_call 55; (with_reducible refine (nameR_any f HF.out 1 (by omega) _).mono ?_); rintro e w1 ⟨rfl, os1, n1, rfl⟩) | (go_at_call 55; (with_reducible refine (nameR_any f HF.out 2 (by omega) _).mono ?_); rintro e w1 ⟨rfl, os1, n1, rfl⟩)))
    go_ret
    exact ⟨by rw [HL.out, z0]; simp [z1, z2], (by repeat (first | with_reducible exact Ext.refl _ | with_reducible assumption | with_reducible refine Ext.alloc ?_ _ | with_reducible refine Ext.gr ?_ _ | with_reducible refine Ext.drewN ?_ _ | with_reducible refine Ext.drew ?_ | with_reducible refine Ext.setCell ?_ ?_ _ | with_reducible refine Ext.more ?_ _ _ | (show _ ≤ _; dsimp only; omega)))⟩
end Go.Proofs.YtmbodooikfmegaaDoor
