/- The walks of 'put', and of the closures of 'Join', 'places'. -/
import Derived.Test.YtmbodooikfmegaaDoorJn1
import Derived.StillTailTactics
namespace Go.Proofs.YtmbodooikfmegaaDoor
open Go Go.RowKit

set_option maxRecDepth 100000 in
set_option maxHeartbeats 2000000 in
theorem put_any (B : Nat) (a b v u : Int) (hb : 1 ≤ b ∧ b ≤ 32) (ha : 0 ≤ a ∧ a ≤ 64) (w : World) (hw : w.cell? ⟨B, 0, none⟩ = some (.int .u64 u)) (hf : w.frozen? ⟨B, 0, none⟩ = false) :
    Calls Tryd.prog 81 #[.pointer (some ⟨B, 0, none⟩), .int .i64 a, .int .i64 b, .int .u64 v] w
    fun e w' => e = .returned (.tuple #[]) ∧ ∃ u', Ext (w.setCell ⟨B, 0, none⟩ (.int .u64 u')) w' := by
  have hlt := World.block_lt_of_cell? _ _ hw
  dsimp only at hlt
  obtain ⟨M, hM⟩ : ∃ M, (2 : Int) ^ b.toNat - 1 = M := ⟨_, rfl⟩
  have HM := Lib.hid hM
  obtain ⟨P1, hP⟩ : ∃ P1, (2 : Int) ^ a.toNat = P1 := ⟨_, rfl⟩
  obtain ⟨S1, hS1⟩ : ∃ S, IntKind.u64.wrap (M * P1) = S := ⟨_, rfl⟩
  obtain ⟨S2, hS2⟩ : ∃ S, IntKind.u64.wrap (v * P1) = S := ⟨_, rfl⟩
  obtain ⟨a0, a1⟩ := ha
  obtain ⟨R1, hR1⟩ : ∃ R, bits .andNot .u64 u S1 = R := ⟨_, rfl⟩
  obtain ⟨R2, hR2⟩ : ∃ R, bits .or .u64 R1 S2 = R := ⟨_, rfl⟩
  have HK := Lib.hid hw
  clear hM
  go_enter Tryd.func81, Tryd.ntmps81
  go_upto_region 0 with fail
  refine wp_region_still_tail 16 (by kernel_rfl) (by kernel_rfl) ?_
  simp only [List.take_succ_cons, List.take_zero, List.drop_succ_cons, List.drop_zero]
  change wpStill _ _ (World.drew _) _ _ _
  repeat (first | still_step | still_call ((mask_still b hb _).mono fun e w' ⟨he, hw⟩ => ⟨he.trans (by rw [HM.out]), hw⟩))
  refine wpStill_nil ?_
  change wpList _ _ _ _ _ (World.drew _)
  go_wp2
  go_end0
  exact ⟨rfl, R2, (by repeat (first | with_reducible exact Ext.refl _ | with_reducible assumption | with_reducible refine Ext.alloc ?_ _ | with_reducible refine Ext.gr ?_ _ | with_reducible refine Ext.drewN ?_ _ | with_reducible refine Ext.drew ?_ | with_reducible refine Ext.setCell ?_ ?_ _ | with_reducible refine Ext.more ?_ _ _ | (show _ ≤ _; dsimp only; omega)))⟩
set_option maxRecDepth 100000 in
set_option maxHeartbeats 2000000 in
theorem bits_any (i bl b o n cap : Nat) (x : Int) (hi : i < n) (_hn : n ≤ 1000) (w : World) (hl : w.cell? ⟨bl, 0, none⟩ = some (.slice (some ⟨b, o, none⟩) n cap)) (hc : w.cell? ⟨b, o + i * 2, none⟩ = some (.int .i64 x)) :
    Calls Tryd.prog 79 #[.int .i64 i, .pointer (some ⟨bl, 0, none⟩)] w fun e w' => e = .returned (.int .i64 x) ∧ w' = w := by
  have h0 : (0 : Int) ≤ (i : Int) := by omega
  have h1 : (i : Int) < (n : Int) := by omega
  have l1 := World.block_lt_of_cell? _ _ hl
  have l2 := World.block_lt_of_cell? _ _ hc
  dsimp only at l1 l2
  go_enter Tryd.func79, Tryd.ntmps79
  go_wp2
  go_ret
  exact ⟨rfl, rfl⟩
set_option maxRecDepth 100000 in
set_option maxHeartbeats 2000000 in
theorem next_any (B : Nat) (a b : Int) (hb : 1 ≤ b ∧ b ≤ 32) (ha : 0 ≤ a ∧ a ≤ 64 - b) (w : World) (hw : w.cell? ⟨B, 0, none⟩ = some (.int .i64 a)) (hf : w.frozen? ⟨B, 0, none⟩ = false) :
    Calls Tryd.prog 88 #[.int .i64 b, .pointer (some ⟨B, 0, none⟩)] w fun e w' => e = .returned (.int .i64 a) ∧ w' = w.setCell ⟨B, 0, none⟩ (.int .i64 (a + b)) := by
  have hlt := World.block_lt_of_cell? _ _ hw
  dsimp only at hlt
  have hab : IntKind.i64.wrap (a + b) = a + b := by rw [IntKind.wrap_i64]; omega
  go_enter Tryd.func88, Tryd.ntmps88
  go_wp2_with (go_at_call 89; refine (may_any a b hb ha _).mono ?_; rintro e w1 ⟨rfl, rfl⟩)
  go_ret
  exact ⟨rfl, rfl⟩
end Go.Proofs.YtmbodooikfmegaaDoor
