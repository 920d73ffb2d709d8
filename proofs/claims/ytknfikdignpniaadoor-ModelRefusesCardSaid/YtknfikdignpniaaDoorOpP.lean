/- Plain: masks and powers of two; no program in sight. -/
import Derived.Test.YtknfikdignpniaaDoorPlain
namespace Go.Proofs.YtknfikdignpniaaDoor
open Go Go.RowKit
set_option maxRecDepth 100000
set_option maxHeartbeats 8000000

theorem and_mask (a : Int) (h0 : 0 ≤ a) (h1 : a ≤ 4294967295) : bits .and .u32 a 65535 = a % 65536 := by
  rw [u32_and a 65535 h0 (by omega) (by omega) (by omega)]
  have h : a.toNat &&& (65535 : Int).toNat = a.toNat % 65536 := Nat.and_two_pow_sub_one_eq_mod a.toNat 16
  rw [h]
  omega

theorem pow_mod (b : Int) (h0 : 0 ≤ b) (h1 : b ≤ 31) : (2 : Int) ^ b.toNat % 4294967296 = 2 ^ b.toNat := by
  have h := u32_shl_one_var b h0
  rw [if_neg (by omega), show min b.toNat 32 = b.toNat by omega] at h
  exact h

theorem pow_le (b : Int) (h1 : b ≤ 6) : (2 : Int) ^ b.toNat ≤ 64 := by
  have h : 2 ^ b.toNat ≤ 2 ^ 6 := Nat.pow_le_pow_right (by omega) (by omega)
  have h2 : ((2 ^ b.toNat : Nat) : Int) ≤ ((2 ^ 6 : Nat) : Int) := Int.ofNat_le.2 h
  simpa using h2

end Go.Proofs.YtknfikdignpniaaDoor
