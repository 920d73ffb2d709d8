/- The walks of the reference of layer 'trie': powers, nodes, the table. -/
import Derived.Test.YtpaplhkjaniafaaDoorCheckR
import Derived.Test.YtpaplhkjaniafaaDoorTrieP
import Derived.Test.YtpaplhkjaniafaaDoorWorld
import Derived.Deep.Light
import Derived.Outline
namespace Go.Proofs.YtpaplhkjaniafaaDoor
open Go Go.RowKit

theorem there12_any (k pc : Int) (hk : 0 ≤ k ∧ k ≤ 255) (hp : 0 ≤ pc ∧ pc ≤ 255) (w : World) : Calls Tryd.prog 49 #[.int .u8 k, .int .u8 pc] w
    fun e w' => e = .returned (.bool (trThere k pc)) ∧ w = w' := by
  obtain ⟨k0, k1⟩ := hk
  obtain ⟨p0, p1⟩ := hp
  go_enter Tryd.func49, Tryd.ntmps49
  go_wp2
  all_goals (go_ret; refine ⟨ret_bool ?_, rfl⟩)
  all_goals (go_light; rw [Bool.eq_iff_iff]; simp_all [trThere] <;> omega)

theorem half_pow (n : Int) (j : Nat) : n / 2 ^ j / 2 = n / 2 ^ (j + 1) := by
  rw [Int.pow_succ, Int.ediv_ediv_of_nonneg (Int.pow_nonneg (by decide))]
set_option maxHeartbeats 2000000 in
theorem aboveR_any (n : Int) (K : Nat) (hn : 0 ≤ n ∧ n ≤ 127) (hK : K ≤ 6) (w : World) : Calls Tryd.prog 51 #[.int .i64 n, .int .i64 (K : Int)] w
    fun e w' => e = .returned (.int .i64 (n / 2 ^ K)) ∧ w = w' := by
  obtain ⟨n0, n1⟩ := hn
  go_enter Tryd.func51, Tryd.ntmps51
  go_wp2
  go_loop [0, 5] (fun t i => ∃ k : Nat, k ≤ K ∧ i = .int .i64 k ∧ t = .int .i64 (n / 2 ^ k)) (fun _ i => K - (intOf i).toNat)
  case atStart => exact ⟨0, Nat.zero_le _, rfl, by simp⟩
  case round =>
    obtain ⟨k, hk, rfl, rfl⟩ := hrel
    have hh := half_pow n k
    have hm0 : 0 ≤ n / 2 ^ k := Int.ediv_nonneg n0 (Int.pow_nonneg (by decide))
    have hm1 : n / 2 ^ k ≤ n := Int.ediv_le_self _ n0
    obtain ⟨m, hm⟩ : ∃ m, n / 2 ^ k = m := ⟨_, rfl⟩
    rw [hm] at hh hm0 hm1
    have HM := Lib.hid hm
    have HH := Lib.hid hh
    rw [hm]
    clear hm hh
    by_cases hlt : k < K
    · go_wp2
      go_round
      case rel => exact ⟨k + 1, by omega, by go_num, by rw [← HH.out]⟩
      case measure => simp [intOf]; omega
    · obtain rfl : k = K := by omega
      go_wp2
      go_ret
      exact ⟨by rw [HM.out]; rfl, rfl⟩

theorem two_pow (j : Nat) : 2 * (2 : Int) ^ j = 2 ^ (j + 1) := by
  rw [Int.pow_succ, Int.mul_comm]
theorem pow_le6 (j : Nat) (h : j ≤ 6) : (1 : Int) ≤ 2 ^ j ∧ (2 : Int) ^ j ≤ 64 := by
  have := pow_le (j : Int) (by omega)
  simp at this
  exact ⟨Int.pow_pos (by decide), this⟩
set_option maxRecDepth 100000 in
set_option maxHeartbeats 4000000 in
theorem wholeR_any (c : Cfg) (f : Frm) (hf : f.Fits) (B : Nat) (hB : trMost c f = B) (hB6 : B ≤ 6) (ha : f.a < 2 ^ B) (w : World) : Calls Tryd.prog 50 #[c.v, f.v] w
    fun e w' => e = .returned (.tuple #[.int .i64 (trM c f), .int .i64 (B : Int)]) ∧ Ext w w' := by
  obtain ⟨_, ⟨a0, a1⟩, ⟨b0, b1⟩, _, _, _, _, _, _, _, _⟩ := hf
  have hb := pow_le6 B hB6
  have HM : Hid (trM c f = f.a + 2 ^ B) := Lib.hid (by rw [trM, hB]; simp [Int.add_comm])
  have hq : (if f.kind == 3 then c.bits else f.b) = B := hB
  clear hB
  cases k3 : (f.kind == 3)
  all_goals
    rw [k3] at hq
    simp only [Bool.false_eq_true, if_false, if_true] at hq
    have HQ := Lib.hid hq
    clear hq
    go_enter Tryd.func50, Tryd.ntmps50
    go_wp2
    rw [HQ.out]
    go_loop [8, 9] (fun t i => ∃ k : Nat, k ≤ B ∧ i = .int .i64 k ∧ t = .int .i64 (2 ^ k)) (fun _ i => B - (intOf i).toNat)
    case atStart => exact ⟨0, Nat.zero_le _, rfl, by simp⟩
    case round =>
      obtain ⟨k, hk, rfl, rfl⟩ := hrel
      have hh := two_pow k
      have hm1 := pow_le6 k (by omega)
      obtain ⟨m, hm⟩ : ∃ m, (2 : Int) ^ k = m := ⟨_, rfl⟩
      rw [hm] at hh hm1
      have HMM := Lib.hid hm
      have HH := Lib.hid hh
      rw [hm]
      clear hm hh
      by_cases hlt : k < B
      · go_wp2
        go_round
        case rel => exact ⟨k + 1, by omega, by go_num, by rw [← HH.out]⟩
        case measure => simp [intOf]; omega
      · obtain rfl : k = B := by omega
        rw [HMM.out] at hb ha
        go_wp2
        go_ret2
        exact ⟨by rw [HM.out, HMM.out]; rfl, (by repeat (first | with_reducible exact Ext.refl _ | with_reducible assumption | with_reducible refine Ext.alloc ?_ _ | with_reducible refine Ext.gr ?_ _ | with_reducible refine Ext.drewN ?_ _ | with_reducible refine Ext.drew ?_ | with_reducible refine Ext.setCell ?_ ?_ _ | with_reducible refine Ext.more ?_ _ _ | (show _ ≤ _; dsimp only; omega)))⟩
end Go.Proofs.YtpaplhkjaniafaaDoor
