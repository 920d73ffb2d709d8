/- The walk of 'basculeref04.Great', of a trie's config. -/
import Derived.Test.YtpaplhkjaniafaaDoorProg
import Derived.Test.YtpaplhkjaniafaaDoorA0
import Derived.Test.YtpaplhkjaniafaaDoorTrieP
import Derived.Test.YtpaplhkjaniafaaDoorCheck
import Derived.Lib.Hide
import Derived.Deep.QuietTactic
namespace Go.Proofs.YtpaplhkjaniafaaDoor
open Go Go.RowKit
set_option maxRecDepth 100000
set_option maxHeartbeats 8000000

theorem two_leG {j n : Nat} (h : j ≤ n) (hn : n ≤ 6) : 2 ^ j ≤ 64 := by
  have : 2 ^ j ≤ 2 ^ 6 := Nat.pow_le_pow_right (by omega) (by omega)
  omega
theorem great_any (c : Cfg) (h1 : (c.object == 1) = true) (hb : 0 ≤ c.bits ∧ c.bits ≤ 6) (w : World) : Calls Tryd.prog 16 #[c.v] w fun e w' => e = .returned (.int .i64 ((2 * 2 ^ c.bits.toNat : Nat) : Int)) ∧ Ext w w' := by
  obtain ⟨hb0, hb1⟩ := hb
  obtain ⟨R, hR⟩ : ∃ R, 2 * 2 ^ c.bits.toNat = R := ⟨_, rfl⟩
  rw [hR]
  have HR := Lib.hid hR
  clear hR
  go_enter Tryd.func16, Tryd.ntmps16
  go_wp2
  go_loopw [3, 4] (fun x i wr => ∃ j m : Nat, (j : Int) ≤ c.bits ∧ x = .int .i64 m ∧ i = .int .i64 j ∧ Hid (m = 2 * 2 ^ j) ∧ Hid (Ext (w.alloc (.cells #[.int .u8 c.object, .int .i64 c.instances, .int .i64 c.threads, .int .u8 c.kind, .int .i64 c.stripes, .int .i64 c.bits, .int .i64 c.cap, .int .i64 c.node, .int .i64 c.batch, .int .i64 c.chunk, .int .u64 c.limit, .int .u64 c.most] 24)) wr)) (fun _ i _ => c.bits.toNat - (intOf i).toNat)
  case atStart => exact ⟨0, 2, by omega, rfl, rfl, Lib.hid rfl, Lib.hid (Ext.refl _)⟩
  case round =>
    obtain ⟨j, m, hj, rfl, rfl, HM, HE⟩ := hrel
    have hm := two_leG (j := j) (n := 6) (by omega) (by omega)
    have hm2 : m ≤ 128 := by rw [HM.out]; omega
    clear hm
    obtain ⟨os, d, rfl⟩ := HE.out
    clear HE
    by_cases hlt : (j : Int) < c.bits
    · have i1 : IntKind.i64.wrap (2 * (m : Int)) = 2 * (m : Int) := by rw [IntKind.wrap_i64]; omega
      go_wp2
      go_roundw
      case rel => exact ⟨j + 1, 2 * m, by omega, by go_num, by go_num, Lib.hid (by rw [HM.out, Nat.pow_succ]; omega), Lib.hid EX⟩
      case measure => simp [intOf]; omega
    · obtain rfl : m = R := by rw [HM.out, ← HR.out, show c.bits.toNat = j by omega]
      go_wp2
      go_ret
      exact ⟨rfl, EX⟩
theorem great_i (c : Cfg) (h1 : (c.object == 1) = true) (hb : 0 ≤ c.bits ∧ c.bits ≤ 6) (w : World) (G : Nat) (hG : 2 * 2 ^ c.bits.toNat = G) : Calls Tryd.prog 16 #[c.v] w fun e w' => e = .returned (.int .i64 (G : Int)) ∧ Ext w w' := by
  subst hG
  exact great_any c h1 hb w
end Go.Proofs.YtpaplhkjaniafaaDoor
