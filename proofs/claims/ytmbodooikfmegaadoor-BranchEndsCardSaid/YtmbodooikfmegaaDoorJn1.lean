/- The walks of the small functions of 'pack'. -/
import Derived.Test.YtmbodooikfmegaaDoorProg
import Derived.Test.YtmbodooikfmegaaDoorWorld
import Derived.Laws.BitsAllLaws
import Derived.Laws.ShiftsVarLaws
import Derived.Lib.Hide
import Derived.Deep.Light
namespace Go.Proofs.YtmbodooikfmegaaDoor
open Go Go.RowKit

theorem pow_bd {b : Int} (hb : 1 ≤ b ∧ b ≤ 32) : (1 : Int) ≤ 2 ^ b.toNat ∧ (2 : Int) ^ b.toNat ≤ 4294967296 := by
  obtain ⟨n, hn⟩ : ∃ n : Nat, b = n := ⟨b.toNat, by omega⟩
  subst hn
  have h1 : (2 : Nat) ^ n ≤ 4294967296 := Nat.le_trans (Nat.pow_le_pow_right (n := 2) (by decide) (show n ≤ 32 by omega)) (by decide)
  have h2 : 1 ≤ (2 : Nat) ^ n := Nat.one_le_two_pow
  have e : (2 : Int) ^ n = ((2 ^ n : Nat) : Int) := by simp
  rw [Int.toNat_natCast, e]
  generalize (2 : Nat) ^ n = M at *
  omega
set_option maxRecDepth 100000 in
theorem mask_still (b : Int) (hb : 1 ≤ b ∧ b ≤ 32) (w : World) : Calls Tryd.prog 80 #[.int .i64 b] w fun e w' => e = .returned (.int .u64 ((2 : Int) ^ b.toNat - 1)) ∧ w' = w := by
  have hP : (1 : Int) ≤ 2 ^ b.toNat ∧ (2 : Int) ^ b.toNat ≤ 4294967296 := pow_bd hb
  obtain ⟨Q, hQ⟩ : ∃ Q, (2 : Int) ^ b.toNat = Q := ⟨_, rfl⟩
  rw [hQ] at hP
  have h64 : (b == 64) = false := by rw [beq_eq_false_iff_ne]; omega
  have hsh : IntKind.u64.wrap (1 * 2 ^ b.toNat) = Q := by rw [Int.one_mul, hQ, IntKind.wrap_u64]; omega
  obtain ⟨R, hR⟩ : ∃ R, Q - 1 = R := ⟨_, rfl⟩
  have hsb : IntKind.u64.wrap (Q - 1) = R := by rw [IntKind.wrap_u64]; omega
  rw [hQ, hR]
  clear hR
  go_enter Tryd.func80, Tryd.ntmps80
  go_wp2
  go_ret
  exact ⟨rfl, rfl⟩
theorem mask_any (b : Int) (hb : 1 ≤ b ∧ b ≤ 32) (w : World) : Calls Tryd.prog 80 #[.int .i64 b] w fun e w' => e = .returned (.int .u64 ((2 : Int) ^ b.toNat - 1)) ∧ Ext w w' :=
  (mask_still b hb w).mono fun _ _ h => ⟨h.1, h.2 ▸ Ext.refl _⟩
set_option maxRecDepth 100000 in
theorem may_any (a b : Int) (hb : 1 ≤ b ∧ b ≤ 32) (ha : 0 ≤ a ∧ a ≤ 64 - b) (w : World) : Calls Tryd.prog 89 #[.int .i64 a, .int .i64 b] w fun e w' => e = .returned (.bool true) ∧ w' = w := by
  have h1 : IntKind.i64.wrap (64 - b) = 64 - b := by rw [IntKind.wrap_i64]; omega
  have d1 : decide (1 ≤ b) = true := by rw [decide_eq_true_eq]; omega
  have d2 : decide (b ≤ 64) = true := by rw [decide_eq_true_eq]; omega
  have d3 : decide (0 ≤ a) = true := by rw [decide_eq_true_eq]; omega
  have d4 : decide (a ≤ 64 - b) = true := by rw [decide_eq_true_eq]; omega
  obtain ⟨e1, e2⟩ := hb
  obtain ⟨e3, e4⟩ := ha
  have e5 : b ≤ 64 := by omega
  go_enter Tryd.func89, Tryd.ntmps89
  go_wp2
  go_ret
  exact ⟨rfl, rfl⟩
end Go.Proofs.YtmbodooikfmegaaDoor
