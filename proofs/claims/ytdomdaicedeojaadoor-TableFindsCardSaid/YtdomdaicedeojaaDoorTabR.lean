/- The walks of the document's answer for a table (layer 6): 'pow', 'Deep', 'Above', 'Great', 'match', 'Word'. -/
import Derived.Test.YtdomdaicedeojaaDoorTabR0
import Derived.Test.YtdomdaicedeojaaDoorCheck
import Derived.Deep.QuietTactic
import Derived.BigQuiet
namespace Go.Proofs.YtdomdaicedeojaaDoor
open Go Go.RowKit

theorem two_le {j n : Nat} (h : j ≤ n) (hn : n ≤ 6) : 2 ^ j ≤ 64 := by
  have : 2 ^ j ≤ 2 ^ 6 := Nat.pow_le_pow_right (by omega) (by omega)
  omega
set_option maxRecDepth 100000 in
theorem pow_any (n : Nat) (hn : n ≤ 6) (w : World) : Calls Tryd.prog 49 #[.int .i64 n] w fun e w' => e = .returned (.int .i64 ((2 ^ n : Nat) : Int)) ∧ Ext w w' := by
  obtain ⟨R, hR⟩ : ∃ R, 2 ^ n = R := ⟨_, rfl⟩
  rw [hR]
  have HR := Lib.hid hR
  clear hR
  go_enter Tryd.func49, Tryd.ntmps49
  go_wp2
  go_loopw [3, 4] (fun x i wr => ∃ j m : Nat, j ≤ n ∧ x = .int .i64 m ∧ i = .int .i64 j ∧ Hid (m = 2 ^ j) ∧ Ext w wr) (fun _ i _ => n - (intOf i).toNat)
  case atStart => exact ⟨0, 1, Nat.zero_le _, rfl, rfl, Lib.hid rfl, Ext.refl _⟩
  case round =>
    obtain ⟨j, m, hj, rfl, rfl, HM, he⟩ := hrel
    have hm := two_le hj hn
    rw [← HM.out] at hm
    by_cases hlt : j < n
    · have i0 : (j : Int) < (n : Int) := by omega
      have i1 : IntKind.i64.wrap (2 * (m : Int)) = 2 * (m : Int) := by rw [IntKind.wrap_i64]; omega
      go_wp2
      go_roundw
      case rel => exact ⟨j + 1, 2 * m, by omega, by go_num, by go_num, Lib.hid (by rw [HM.out, Nat.pow_succ, Nat.mul_comm]), he⟩
      case measure => simp [intOf]; omega
    · obtain rfl : j = n := by omega
      obtain rfl : m = R := by rw [HM.out, HR.out]
      go_wp2
      go_ret
      exact ⟨rfl, he⟩
set_option maxRecDepth 100000 in
theorem deep_any (n : Nat) (hn : n ≤ 1000) (w : World) : Calls Tryd.prog 62 #[.int .i64 n] w fun e w' => e = .returned (.int .i64 ((Nat.log2 n : Nat) : Int)) ∧ Ext w w' := by
  obtain ⟨R, hR⟩ : ∃ R, Nat.log2 n = R := ⟨_, rfl⟩
  rw [hR]
  go_enter Tryd.func62, Tryd.ntmps62
  go_wp2
  go_loopw [0, 3] (fun x i wr => ∃ m k : Nat, m ≤ 1000 ∧ k ≤ R ∧ x = .int .i64 m ∧ i = .int .i64 k ∧ Hid (Nat.log2 m + k = R) ∧ Ext w wr) (fun x _ _ => (intOf x).toNat)
  case atStart => exact ⟨n, 0, hn, Nat.zero_le _, rfl, rfl, Lib.hid hR, Ext.refl _⟩
  case round =>
    obtain ⟨m, k, hm, hk, rfl, rfl, HM, he⟩ := hrel
    by_cases hlt : 2 ≤ m
    · have i0 : (1 : Int) < (m : Int) := by omega
      have h2 := HM.out
      rw [log2_half hlt] at h2
      have hk2 : k + 1 ≤ R := by omega
      have h3 : Hid (Nat.log2 (m / 2) + (k + 1) = R) := Lib.hid (by omega)
      have hR2 : R ≤ 1000 := by
        have h5 : Nat.log2 n ≤ 9 := by
          by_cases h0 : n = 0
          · subst h0; decide
          · exact log2_le h0 (by omega)
        omega
      clear h2
      go_wp2
      go_roundw
      case rel => exact ⟨m / 2, k + 1, by omega, hk2, by first | go_num | (congr 1; omega), by go_num, h3, he⟩
      case measure => simp [intOf]; omega
    · have HM2 : k = R := by have := HM.out; rw [log2_one (by omega)] at this; omega
      subst HM2
      have i0 : ¬ (1 : Int) < (m : Int) := by omega
      clear HM
      go_wp2
      go_ret
      exact ⟨rfl, he⟩
set_option maxRecDepth 100000 in
theorem above_any (n k : Nat) (hn : n ≤ 1000) (hk : k ≤ 1000) (w : World) : Calls Tryd.prog 67 #[.int .i64 n, .int .i64 k] w fun e w' => e = .returned (.int .i64 ((n / 2 ^ k : Nat) : Int)) ∧ Ext w w' := by
  obtain ⟨R, hR⟩ : ∃ R, n / 2 ^ k = R := ⟨_, rfl⟩
  rw [hR]
  go_enter Tryd.func67, Tryd.ntmps67
  go_wp2
  go_loopw [0, 5] (fun x i wr => ∃ m j : Nat, m ≤ 1000 ∧ j ≤ k ∧ x = .int .i64 m ∧ i = .int .i64 j ∧ Hid (n / 2 ^ j = m) ∧ Ext w wr) (fun _ i _ => k - (intOf i).toNat)
  case atStart => exact ⟨n, 0, hn, Nat.zero_le _, rfl, rfl, Lib.hid (by simp), Ext.refl _⟩
  case round =>
    obtain ⟨m, j, hm, hj, rfl, rfl, HM, he⟩ := hrel
    by_cases hlt : j < k
    · have i0 : (j : Int) < (k : Int) := by omega
      have h3 : Hid (n / 2 ^ (j + 1) = m / 2) := Lib.hid (by rw [← div_two, HM.out])
      go_wp2
      go_roundw
      case rel => exact ⟨m / 2, j + 1, by omega, by omega, by first | go_num | (congr 1; omega), by go_num, h3, he⟩
      case measure => simp [intOf]; omega
    · obtain rfl : j = k := by omega
      obtain rfl : m = R := by rw [← hR, HM.out]
      clear HM
      go_wp2
      go_ret
      exact ⟨rfl, he⟩
set_option maxRecDepth 100000 in
theorem great_any (c : Cfg) (h1 : (c.object == 1) = true) (hb : 0 ≤ c.bits ∧ c.bits ≤ 6) (w : World) : Calls Tryd.prog 35 #[c.v] w fun e w' => e = .returned (.int .i64 ((2 * 2 ^ c.bits.toNat : Nat) : Int)) ∧ Ext w w' := by
  obtain ⟨hb0, hb1⟩ := hb
  obtain ⟨R, hR⟩ : ∃ R, 2 * 2 ^ c.bits.toNat = R := ⟨_, rfl⟩
  rw [hR]
  have HR := Lib.hid hR
  clear hR
  go_enter Tryd.func35, Tryd.ntmps35
  go_wp2
  go_loopw [3, 4] (fun x i wr => ∃ j m : Nat, (j : Int) ≤ c.bits ∧ x = .int .i64 m ∧ i = .int .i64 j ∧ Hid (m = 2 * 2 ^ j) ∧ Hid (Ext (w.alloc (.cells #[.int .u8 c.object, .int .i64 c.instances, .int .i64 c.threads, .int .u8 c.kind, .int .i64 c.stripes, .int .i64 c.bits, .int .i64 c.cap, .int .i64 c.node, .int .i64 c.batch, .int .i64 c.chunk, .int .u64 c.limit, .int .u64 c.most] 33)) wr)) (fun _ i _ => c.bits.toNat - (intOf i).toNat)
  case atStart => exact ⟨0, 2, by omega, rfl, rfl, Lib.hid rfl, Lib.hid (Ext.refl _)⟩
  case round =>
    obtain ⟨j, m, hj, rfl, rfl, HM, HE⟩ := hrel
    have hm := two_le (j := j) (n := 6) (by omega) (by omega)
    have hm2 : m ≤ 128 := by rw [HM.out]; omega
    clear hm
    obtain ⟨os, d, rfl⟩ := HE.out
    clear HE
    by_cases hlt : (j : Int) < c.bits
    · have i1 : IntKind.i64.wrap (2 * (m : Int)) = 2 * (m : Int) := by rw [IntKind.wrap_i64]; omega
      go_wp2
      go_roundw
      case rel => exact ⟨j + 1, 2 * m, by omega, by go_num, by go_num, Lib.hid (by rw [HM.out, Nat.pow_succ]; omega), Lib.hid (by repeat (first | with_reducible exact Ext.refl _ | with_reducible assumption | with_reducible refine Ext.alloc ?_ _ | with_reducible refine Ext.gr ?_ _ | with_reducible refine Ext.drewN ?_ _ | with_reducible refine Ext.drew ?_ | with_reducible refine Ext.setCell ?_ ?_ _ | with_reducible refine Ext.more ?_ _ _ | (show _ ≤ _; dsimp only; omega)))⟩
      case measure => simp [intOf]; omega
    · obtain rfl : m = R := by rw [HM.out, ← HR.out, show c.bits.toNat = j by omega]
      go_wp2
      go_ret
      exact ⟨rfl, (by repeat (first | with_reducible exact Ext.refl _ | with_reducible assumption | with_reducible refine Ext.alloc ?_ _ | with_reducible refine Ext.gr ?_ _ | with_reducible refine Ext.drewN ?_ _ | with_reducible refine Ext.drew ?_ | with_reducible refine Ext.setCell ?_ ?_ _ | with_reducible refine Ext.more ?_ _ _ | (show _ ≤ _; dsimp only; omega)))⟩
theorem wordR_any (u : Int) (hu : 0 ≤ u ∧ u ≤ 2147483647) (w : World) : Calls Tryd.prog 51 #[.int .u64 u] w fun e w' => e = .returned (.int .u32 (u + 1)) ∧ w = w' := by
  go_enter Tryd.func51, Tryd.ntmps51
  go_wp2
  go_ret
  exact ⟨rfl, rfl⟩
theorem match_any (b p node : Nat) (hb : b ≤ 6) (hp : p < 2 ^ b) (hn : 1 ≤ node) (h2 : node < 2 * 2 ^ b) (w : World) : Calls Tryd.prog 61 #[.int .i64 node, .int .i64 b, .int .i64 p] w fun e w' => e = .returned (.bool (mB b (2 ^ b + p) node)) ∧ Ext w w' := by
  have hpl := match_plain (p := p) hn h2
  have hd : Nat.log2 node ≤ b := log2_le (by omega) (by rw [Nat.pow_succ]; omega)
  have h6 := two_le (Nat.le_refl b) hb
  have HN : Hid (node ≤ 1000) := Lib.hid (by omega)
  have hp64 : p ≤ 64 := by omega
  have HPP : Hid (p ≤ 1000) := Lib.hid (by omega)
  obtain ⟨R, hR⟩ : ∃ R, mB b (2 ^ b + p) node = R := ⟨_, rfl⟩
  rw [hR] at hpl ⊢
  obtain ⟨d, hdd⟩ : ∃ d, Nat.log2 node = d := ⟨_, rfl⟩
  rw [hdd] at hpl hd
  have HD := Lib.hid hdd
  have HDD : Hid (d ≤ 6) := Lib.hid (by omega)
  obtain ⟨k, hk⟩ : ∃ k, b - d = k := ⟨_, rfl⟩
  have hk2 : IntKind.i64.wrap ((b : Int) - (d : Int)) = (k : Int) := by rw [IntKind.wrap_i64]; omega
  have HKK : Hid (k ≤ 1000) := Lib.hid (by omega)
  rw [hk] at hpl
  have hpw := two_le hd hb
  obtain ⟨P, hP⟩ : ∃ P, 2 ^ d = P := ⟨_, rfl⟩
  rw [hP] at hpl hpw
  have HP := Lib.hid hP
  obtain ⟨A, hA⟩ : ∃ A, p / 2 ^ k = A := ⟨_, rfl⟩
  rw [hA] at hpl
  have HA := Lib.hid hA
  have HR : Hid ((((node : Nat) : Int) - (P : Int) == (A : Int)) = R) := Lib.hid (by rw [← hpl, Bool.eq_iff_iff]; simp)
  have hn2 : node ≤ 128 := by omega
  have hq : IntKind.i64.wrap ((node : Int) - (P : Int)) = (node : Int) - (P : Int) := by rw [IntKind.wrap_i64]; omega
  clear hP hA hdd hR hpl hd h6 hk hp h2
  go_enter Tryd.func61, Tryd.ntmps61
  go_wp2_with (first | (go_at_call 62; (with_reducible refine (deep_any node HN.out _).mono ?_); rintro e w1 ⟨rfl, os1, n1, rfl⟩; rw [HD.out]) | (go_at_call 49; (with_reducible refine (pow_any d HDD.out _).mono ?_); rintro e w2 ⟨rfl, os2, n2, rfl⟩; rw [HP.out]) | (go_at_call 67; (with_reducible refine (above_any p k HPP.out HKK.out _).mono ?_); rintro e w3 ⟨rfl, os3, n3, rfl⟩; rw [HA.out]))
  go_ret
  exact ⟨by rw [← HR.out] <;> rfl, (by repeat (first | with_reducible exact Ext.refl _ | with_reducible assumption | with_reducible refine Ext.alloc ?_ _ | with_reducible refine Ext.gr ?_ _ | with_reducible refine Ext.drewN ?_ _ | with_reducible refine Ext.drew ?_ | with_reducible refine Ext.setCell ?_ ?_ _ | with_reducible refine Ext.more ?_ _ _ | (show _ ≤ _; dsimp only; omega)))⟩
end Go.Proofs.YtdomdaicedeojaaDoor
