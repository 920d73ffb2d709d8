/- Plain: masks and shifts of a path's key. -/
import Derived.Test.YtmbodooikfmegaaDoorPat0
import Derived.Laws.BitsAllLaws
namespace Go.Proofs.YtmbodooikfmegaaDoor.paths
open Go Go.RowKit
set_option maxRecDepth 100000
set_option maxHeartbeats 8000000

theorem and_split (x m s : Nat) : x &&& m = 2 ^ s * ((x / 2 ^ s) &&& (m / 2 ^ s)) + (x % 2 ^ s &&& (m % 2 ^ s)) := by
  have h := Nat.div_add_mod (x &&& m) (2 ^ s)
  rw [Nat.and_div_two_pow, Nat.and_mod_two_pow] at h
  exact h.symm
theorem and_w16 (x : Nat) : x &&& 65535 = x % 65536 := Nat.and_two_pow_sub_one_eq_mod x 16
theorem and_w32 (x : Nat) : x &&& 4294967295 = x % 4294967296 := Nat.and_two_pow_sub_one_eq_mod x 32
theorem and_w48 (x : Nat) : x &&& 281474976710655 = x % 281474976710656 := Nat.and_two_pow_sub_one_eq_mod x 48
theorem mask_a (k : Int) (h0 : 0 ≤ k) (h1 : k ≤ 18446744073709551615) : bits .and .u64 k 65535 = k % 65536 := by
  rw [u64_and k 65535 h0 (by omega) (by omega) (by omega)]
  have h := and_w16 k.toNat
  show ((k.toNat &&& 65535 : Nat) : Int) = _
  rw [h]; omega
theorem mask_0 (k : Int) (h0 : 0 ≤ k) (h1 : k < 281474976710656) : bits .and .u64 k 281470681743360 = k / 4294967296 * 4294967296 := by
  rw [u64_and k 281470681743360 h0 (by omega) (by omega) (by omega)]
  have h := and_split k.toNat 281470681743360 32
  rw [show (281470681743360 / 2 ^ 32 : Nat) = 65535 from rfl, show (281470681743360 % 2 ^ 32 : Nat) = 0 from rfl, and_w16, Nat.and_zero] at h
  show ((k.toNat &&& 281470681743360 : Nat) : Int) = _
  rw [h]; omega
theorem mask_1 (k : Int) (h0 : 0 ≤ k) (h1 : k < 281474976710656) : bits .and .u64 k 281474976645120 = k / 65536 * 65536 := by
  rw [u64_and k 281474976645120 h0 (by omega) (by omega) (by omega)]
  have h := and_split k.toNat 281474976645120 16
  rw [show (281474976645120 / 2 ^ 16 : Nat) = 4294967295 from rfl, show (281474976645120 % 2 ^ 16 : Nat) = 0 from rfl, and_w32, Nat.and_zero] at h
  show ((k.toNat &&& 281474976645120 : Nat) : Int) = _
  rw [h]; omega
theorem mask_2 (k : Int) (h0 : 0 ≤ k) (h1 : k < 281474976710656) : bits .and .u64 k 281474976710655 = k := by
  rw [u64_and k 281474976710655 h0 (by omega) (by omega) (by omega)]
  have h := and_w48 k.toNat
  show ((k.toNat &&& 281474976710655 : Nat) : Int) = _
  rw [h]; omega
theorem join_u64 (i : Nat) (x y : Int) (hx0 : 0 ≤ x) (hx1 : x < 18446744073709551616) (hx : x.toNat % 2 ^ i = 0) (hy0 : 0 ≤ y) (hy1 : y < 18446744073709551616) (hy : y.toNat < 2 ^ i) : bits .or .u64 x y = x + y := by
  rw [u64_or x y hx0 hx1 hy0 hy1, nat_join i _ _ hx hy]
  omega
theorem key_or (a b : Int) (ha : 0 ≤ a ∧ a ≤ 4294967295) (hb : 0 ≤ b ∧ b ≤ 65535) : bits .or .u64 (bits .or .u64 (a % 65536 * 4294967296) (a / 65536 * 65536)) b = a % 65536 * 4294967296 + a / 65536 * 65536 + b := by
  rw [join_u64 32 (a % 65536 * 4294967296) (a / 65536 * 65536) (by omega) (by omega) (by omega) (by omega) (by omega) (by omega)]
  exact join_u64 16 _ _ (by omega) (by omega) (by omega) (by omega) (by omega) (by omega)
end Go.Proofs.YtmbodooikfmegaaDoor.paths
