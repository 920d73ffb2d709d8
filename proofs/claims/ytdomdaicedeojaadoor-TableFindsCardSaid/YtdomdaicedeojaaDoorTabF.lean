/- 'bits.Len', 'rank.Depth', 'rank.Over' at a trie's nodes. -/
import Derived.Test.YtdomdaicedeojaaDoorTab1
import Derived.Test.YtdomdaicedeojaaDoorTabR0
namespace Go.Proofs.YtdomdaicedeojaaDoor
open Go Go.RowKit

theorem fin_up {n : Nat} (hn : n ≤ 127) : ∃ m : Fin 128, n = m.1 := ⟨⟨n, by omega⟩, rfl⟩
set_option maxRecDepth 100000 in
theorem len64_any (n : Nat) (hn : n ≤ 127) (w : World) : Calls Tryd.prog 64 #[.int .u64 n] w fun e w' => e = .returned (.int .i64 (((if n = 0 then 0 else Nat.log2 n + 1 : Nat)) : Int)) ∧ Ext w w' := by
  have i0 : ¬ (4294967296 : Int) ≤ (n : Int) := by omega
  have i1 : ¬ (65536 : Int) ≤ (n : Int) := by omega
  have i2 : ¬ (256 : Int) ≤ (n : Int) := by omega
  have i3 : (n : Int) % 256 = (n : Int) := by omega
  have i4 : IntKind.u8.wrap (n : Int) = (n : Int) := by rw [IntKind.wrap_u8]; omega
  obtain ⟨R, hR⟩ : ∃ R, (if n = 0 then 0 else Nat.log2 n + 1) = R := ⟨_, rfl⟩
  rw [hR]
  go_enter Tryd.func64, Tryd.ntmps64
  go_wp2
  go_ret
  refine ⟨?_, (by repeat (first | with_reducible exact Ext.refl _ | with_reducible assumption | with_reducible refine Ext.alloc ?_ _ | with_reducible refine Ext.gr ?_ _ | with_reducible refine Ext.drewN ?_ _ | with_reducible refine Ext.drew ?_ | with_reducible refine Ext.setCell ?_ ?_ _ | with_reducible refine Ext.more ?_ _ _ | (show _ ≤ _; dsimp only; omega)))⟩
  simp
  subst hR
  clear i3 i4 i0 i1
  obtain ⟨m, rfl⟩ := fin_up hn
  clear hn
  revert m
  decide +kernel
theorem len_any (n : Nat) (hn : 1 ≤ n ∧ n ≤ 127) (w : World) (R : Nat) (hR : Nat.log2 n + 1 = R) : Calls Tryd.prog 54 #[.int .u64 n] w fun e w' => e = .returned (.int .i64 (R : Int)) ∧ Ext w w' := by
  have HR : Hid ((if n = 0 then 0 else Nat.log2 n + 1) = R) := Lib.hid (by rw [if_neg (by omega), hR])
  clear hR
  go_enter Tryd.func54, Tryd.ntmps54
  go_wp2_with (go_at_call 64; (with_reducible refine (len64_any n (by omega) _).mono ?_); rintro e w1 ⟨rfl, os1, n1, rfl⟩; rw [HR.out])
  go_ret
  exact ⟨rfl, (by repeat (first | with_reducible exact Ext.refl _ | with_reducible assumption | with_reducible refine Ext.alloc ?_ _ | with_reducible refine Ext.gr ?_ _ | with_reducible refine Ext.drewN ?_ _ | with_reducible refine Ext.drew ?_ | with_reducible refine Ext.setCell ?_ ?_ _ | with_reducible refine Ext.more ?_ _ _ | (show _ ≤ _; dsimp only; omega)))⟩
theorem depth_any (n : Nat) (hn : 1 ≤ n ∧ n ≤ 127) (w : World) (D : Nat) (hD : Nat.log2 n = D) : Calls Tryd.prog 36 #[.int .i64 n] w fun e w' => e = .returned (.tuple #[.int .i64 (D : Int), .int .i64 0]) ∧ Ext w w' := by
  obtain ⟨R, hR⟩ : ∃ R, Nat.log2 n + 1 = R := ⟨_, rfl⟩
  have hd7 : D ≤ 7 := by rw [← hD]; exact log2_le (by omega) (by omega)
  have hRD : R = D + 1 := by omega
  have HR := Lib.hid hR
  have i0 : ¬ (n : Int) < 1 := by omega
  have i1 : ¬ (127 : Int) < (n : Int) := by omega
  have i2 : IntKind.u64.wrap (n : Int) = (n : Int) := by rw [IntKind.wrap_u64]; omega
  have i3 : IntKind.i64.wrap ((R : Int) - 1) = (D : Int) := by rw [IntKind.wrap_i64]; omega
  clear hR hD hRD
  go_enter Tryd.func36, Tryd.ntmps36
  go_wp2_with (go_at_call 54; (with_reducible refine (len_any n hn _ R HR.out).mono ?_); rintro e w1 ⟨rfl, os1, n1, rfl⟩)
  refine bodyPost_ret (v := .tuple #[.int .i64 (D : Int), .int .i64 0]) (by simp [results, Tryd.results36, go_sem]) rfl ⟨rfl, (by repeat (first | with_reducible exact Ext.refl _ | with_reducible assumption | with_reducible refine Ext.alloc ?_ _ | with_reducible refine Ext.gr ?_ _ | with_reducible refine Ext.drewN ?_ _ | with_reducible refine Ext.drew ?_ | with_reducible refine Ext.setCell ?_ ?_ _ | with_reducible refine Ext.more ?_ _ _ | (show _ ≤ _; dsimp only; omega)))⟩
theorem over_any (n k : Nat) (hn : 1 ≤ n ∧ n ≤ 127) (w : World) (D : Nat) (hD : Nat.log2 n = D) (hk : k ≤ D) : Calls Tryd.prog 21 #[.int .i64 n, .int .i64 k] w fun e w' => e = .returned (.tuple #[.int .i64 ((n / 2 ^ k : Nat) : Int), .int .i64 0]) ∧ Ext w w' := by
  have hd7 : D ≤ 7 := by rw [← hD]; exact log2_le (by omega) (by omega)
  have HD := Lib.hid hD
  have i0 : ¬ (k : Int) < 0 := by omega
  have i1 : ¬ (D : Int) < (k : Int) := by omega
  clear hD
  go_enter Tryd.func21, Tryd.ntmps21
  go_wp2_with (go_at_call 36; (with_reducible refine (depth_any n hn _ D HD.out).mono ?_); rintro e w1 ⟨rfl, os1, n1, rfl⟩)
  refine bodyPost_ret (v := .tuple #[.int .i64 ((n / 2 ^ k : Nat) : Int), .int .i64 0]) (by simp [results, Tryd.results21, go_sem]) rfl ⟨rfl, (by repeat (first | with_reducible exact Ext.refl _ | with_reducible assumption | with_reducible refine Ext.alloc ?_ _ | with_reducible refine Ext.gr ?_ _ | with_reducible refine Ext.drewN ?_ _ | with_reducible refine Ext.drew ?_ | with_reducible refine Ext.setCell ?_ ?_ _ | with_reducible refine Ext.more ?_ _ _ | (show _ ≤ _; dsimp only; omega)))⟩
end Go.Proofs.YtdomdaicedeojaaDoor
