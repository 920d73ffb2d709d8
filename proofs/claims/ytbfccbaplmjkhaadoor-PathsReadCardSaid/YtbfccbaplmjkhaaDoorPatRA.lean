/- The walks of the document's answer for paths (layer 9): keys. -/
import Derived.Test.YtbfccbaplmjkhaaDoorPatE
import Derived.Test.YtbfccbaplmjkhaaDoorPatP
import Derived.Test.YtbfccbaplmjkhaaDoorRef6b
import Derived.Test.YtbfccbaplmjkhaaDoorOpR
import Derived.Test.YtbfccbaplmjkhaaDoorCheckR
namespace Go.Proofs.YtbfccbaplmjkhaaDoor
open Go Go.RowKit

theorem names9_any (k : Int) (hk : 0 ≤ k ∧ k ≤ 18446744073709551615) (w : World) : Calls Tryd.prog 39 #[.int .u64 k] w fun e w' => e = .returned (namesV k) ∧ Ext w w' := by
  have e1 : k.tdiv 4294967296 = k / 4294967296 := Int.tdiv_eq_ediv_of_nonneg hk.1
  have e2 : k.tdiv 65536 = k / 65536 := Int.tdiv_eq_ediv_of_nonneg hk.1
  have e3 : (k / 65536).tmod 65536 = k / 65536 % 65536 := Int.tmod_eq_emod_of_nonneg (by omega)
  have e4 : k.tmod 65536 = k % 65536 := Int.tmod_eq_emod_of_nonneg hk.1
  go_enter Tryd.func39, Tryd.ntmps39
  go_wp2
  exact bodyPost_ret (v := namesV k) (by simp [results, Tryd.results39, go_sem]) rfl ⟨rfl, (by repeat (first | with_reducible exact Ext.refl _ | with_reducible assumption | with_reducible refine Ext.alloc ?_ _ | with_reducible refine Ext.gr ?_ _ | with_reducible refine Ext.drewN ?_ _ | with_reducible refine Ext.drew ?_ | with_reducible refine Ext.setCell ?_ ?_ _ | with_reducible refine Ext.more ?_ _ _ | (show _ ≤ _; dsimp only; omega)))⟩
theorem keyR_any (x y z : Int) (hx : 0 ≤ x ∧ x ≤ 4294967295) (hy : 0 ≤ y ∧ y ≤ 65535) (hz : 0 ≤ z ∧ z ≤ 65535) (w : World) : Calls Tryd.prog 38 #[.agg #[.int .u64 x, .int .u64 y, .int .u64 z]] w fun e w' => e = .returned (.int .u64 (x * 4294967296 + y * 65536 + z)) ∧ Ext w w' := by
  have e1 : IntKind.u64.wrap (x * 4294967296) = x * 4294967296 := by rw [IntKind.wrap_u64]; omega
  have e2 : IntKind.u64.wrap (y * 65536) = y * 65536 := by rw [IntKind.wrap_u64]; omega
  have e3 : IntKind.u64.wrap (x * 4294967296 + y * 65536) = x * 4294967296 + y * 65536 := by rw [IntKind.wrap_u64]; omega
  have e4 : IntKind.u64.wrap (x * 4294967296 + y * 65536 + z) = x * 4294967296 + y * 65536 + z := by rw [IntKind.wrap_u64]; omega
  go_enter Tryd.func38, Tryd.ntmps38
  go_wp2
  go_ret
  exact ⟨rfl, (by repeat (first | with_reducible exact Ext.refl _ | with_reducible assumption | with_reducible refine Ext.alloc ?_ _ | with_reducible refine Ext.gr ?_ _ | with_reducible refine Ext.drewN ?_ _ | with_reducible refine Ext.drew ?_ | with_reducible refine Ext.setCell ?_ ?_ _ | with_reducible refine Ext.more ?_ _ _ | (show _ ≤ _; dsimp only; omega)))⟩
theorem isPathR_any (k : Int) (hk : 0 ≤ k ∧ k ≤ 18446744073709551615) (w : World) : Calls Tryd.prog 36 #[.int .u64 k] w fun e w' => e = .returned (.bool (wholeK k)) ∧ Ext w w' := by
  have HK := Lib.hid hk
  have hw := whole_iff k
  go_enter Tryd.func36, Tryd.ntmps36
  go_wp2_with (go_at_call 39; (with_reducible refine (names9_any k HK.out _).mono ?_); rintro e w1 ⟨rfl, os1, n1, rfl⟩)
  all_goals
    go_ret
    refine ⟨ret_bool ?_, (by repeat (first | with_reducible exact Ext.refl _ | with_reducible assumption | with_reducible refine Ext.alloc ?_ _ | with_reducible refine Ext.gr ?_ _ | with_reducible refine Ext.drewN ?_ _ | with_reducible refine Ext.drew ?_ | with_reducible refine Ext.setCell ?_ ?_ _ | with_reducible refine Ext.more ?_ _ _ | (show _ ≤ _; dsimp only; omega)))⟩
    rw [Bool.eq_iff_iff, hw]
    simp
    try omega
theorem parentR_any (k : Int) (hk : 0 ≤ k ∧ k ≤ 18446744073709551615) (w : World) : Calls Tryd.prog 19 #[.int .u64 k] w fun e w' => e = .returned (.int .u64 (parK k)) ∧ Ext w w' := by
  have HK := Lib.hid hk
  have HA : Hid (0 ≤ k / 4294967296 ∧ k / 4294967296 ≤ 4294967295) := Lib.hid (by omega)
  have HB : Hid (0 ≤ k / 65536 % 65536 ∧ k / 65536 % 65536 ≤ 65535) := Lib.hid (by omega)
  by_cases h2 : k % 65536 = 0
  · by_cases h1 : k / 65536 % 65536 = 0
    · have hp : parK k = 0 := by unfold parK; rw [if_pos h2, if_pos h1]
      have g1 : (k / 65536 % 65536 != 0) = false := by simp [h1]
      have g2 : (k % 65536 != 0) = false := by simp [h2]
      rw [hp]
      clear hp h1 h2 hk
      go_enter Tryd.func19, Tryd.ntmps19
      go_wp2_with (first | (go_at_call 39; (with_reducible refine (names9_any k HK.out _).mono ?_); rintro e w1 ⟨rfl, os1, n1, rfl⟩))
      go_ret
      exact ⟨rfl, (by first | ((repeat (first | with_reducible exact Ext.refl _ | with_reducible assumption | with_reducible refine Ext.alloc ?_ _ | with_reducible refine Ext.gr ?_ _ | with_reducible refine Ext.drewN ?_ _ | with_reducible refine Ext.drew ?_ | with_reducible refine Ext.setCell ?_ ?_ _ | with_reducible refine Ext.more ?_ _ _ | (show _ ≤ _; dsimp only; omega))); done) | ((repeat (first | with_reducible exact Ext.refl _ | with_reducible assumption | with_reducible apply Ext.bothR | with_reducible refine Ext.alloc ?_ _ | with_reducible refine Ext.gr ?_ _ | with_reducible refine Ext.drewN ?_ _ | with_reducible refine Ext.drew ?_ | with_reducible refine Ext.setCell ?_ ?_ _ | with_reducible refine Ext.more ?_ _ _ | (show _ ≤ _; dsimp only; omega))); done) | ((repeat (first | with_reducible exact Ext.refl _ | with_reducible exact Ext.sameG _ _ _ _ | with_reducible assumption | with_reducible refine Ext.bothR (n := 0) ?_ | with_reducible refine Ext.alloc ?_ _ | with_reducible refine Ext.gr ?_ _ | with_reducible refine Ext.drewN ?_ _ | with_reducible refine Ext.drew ?_ | with_reducible refine Ext.setCell ?_ ?_ _ | with_reducible refine Ext.more ?_ _ _ | (show _ ≤ _; dsimp only; omega))); done))⟩
    · have hp : parK k = k / 4294967296 * 4294967296 := by unfold parK; rw [if_pos h2, if_neg h1]
      have g1 : (k / 65536 % 65536 != 0) = true := by simpa using h1
      have g2 : (k % 65536 != 0) = false := by simp [h2]
      rw [hp]
      clear hp h1 h2 hk
      go_enter Tryd.func19, Tryd.ntmps19
      go_wp2_with (first | (go_at_call 39; (with_reducible refine (names9_any k HK.out _).mono ?_); rintro e w1 ⟨rfl, os1, n1, rfl⟩) | (go_at_call 38; (with_reducible refine (keyR_any _ 0 0 HA.out (by omega) (by omega) _).mono ?_); rintro e w2 ⟨rfl, os2, n2, rfl⟩))
      go_ret
      exact ⟨by simp, (by first | ((repeat (first | with_reducible exact Ext.refl _ | with_reducible assumption | with_reducible refine Ext.alloc ?_ _ | with_reducible refine Ext.gr ?_ _ | with_reducible refine Ext.drewN ?_ _ | with_reducible refine Ext.drew ?_ | with_reducible refine Ext.setCell ?_ ?_ _ | with_reducible refine Ext.more ?_ _ _ | (show _ ≤ _; dsimp only; omega))); done) | ((repeat (first | with_reducible exact Ext.refl _ | with_reducible assumption | with_reducible apply Ext.bothR | with_reducible refine Ext.alloc ?_ _ | with_reducible refine Ext.gr ?_ _ | with_reducible refine Ext.drewN ?_ _ | with_reducible refine Ext.drew ?_ | with_reducible refine Ext.setCell ?_ ?_ _ | with_reducible refine Ext.more ?_ _ _ | (show _ ≤ _; dsimp only; omega))); done) | ((repeat (first | with_reducible exact Ext.refl _ | with_reducible exact Ext.sameG _ _ _ _ | with_reducible assumption | with_reducible refine Ext.bothR (n := 0) ?_ | with_reducible refine Ext.alloc ?_ _ | with_reducible refine Ext.gr ?_ _ | with_reducible refine Ext.drewN ?_ _ | with_reducible refine Ext.drew ?_ | with_reducible refine Ext.setCell ?_ ?_ _ | with_reducible refine Ext.more ?_ _ _ | (show _ ≤ _; dsimp only; omega))); done))⟩
  · have hp : parK k = k / 4294967296 * 4294967296 + k / 65536 % 65536 * 65536 := by unfold parK; rw [if_neg h2]
    have g2 : (k % 65536 != 0) = true := by simpa using h2
    rw [hp]
    clear hp h2 hk
    go_enter Tryd.func19, Tryd.ntmps19
    go_wp2_with (first | (go_at_call 39; (with_reducible refine (names9_any k HK.out _).mono ?_); rintro e w1 ⟨rfl, os1, n1, rfl⟩) | (go_at_call 38; (with_reducible refine (keyR_any _ _ 0 HA.out HB.out (by omega) _).mono ?_); rintro e w2 ⟨rfl, os2, n2, rfl⟩))
    go_ret
    exact ⟨by simp, (by first | ((repeat (first | with_reducible exact Ext.refl _ | with_reducible assumption | with_reducible refine Ext.alloc ?_ _ | with_reducible refine Ext.gr ?_ _ | with_reducible refine Ext.drewN ?_ _ | with_reducible refine Ext.drew ?_ | with_reducible refine Ext.setCell ?_ ?_ _ | with_reducible refine Ext.more ?_ _ _ | (show _ ≤ _; dsimp only; omega))); done) | ((repeat (first | with_reducible exact Ext.refl _ | with_reducible assumption | with_reducible apply Ext.bothR | with_reducible refine Ext.alloc ?_ _ | with_reducible refine Ext.gr ?_ _ | with_reducible refine Ext.drewN ?_ _ | with_reducible refine Ext.drew ?_ | with_reducible refine Ext.setCell ?_ ?_ _ | with_reducible refine Ext.more ?_ _ _ | (show _ ≤ _; dsimp only; omega))); done) | ((repeat (first | with_reducible exact Ext.refl _ | with_reducible exact Ext.sameG _ _ _ _ | with_reducible assumption | with_reducible refine Ext.bothR (n := 0) ?_ | with_reducible refine Ext.alloc ?_ _ | with_reducible refine Ext.gr ?_ _ | with_reducible refine Ext.drewN ?_ _ | with_reducible refine Ext.drew ?_ | with_reducible refine Ext.setCell ?_ ?_ _ | with_reducible refine Ext.more ?_ _ _ | (show _ ≤ _; dsimp only; omega))); done))⟩
theorem path9_any (o : Opn) (ho : o.Fits) (hb : o.b ≤ 65535) (w : World) : Calls Tryd.prog 18 #[o.v] w fun e w' => e = .returned (.int .u64 (pathKey o)) ∧ Ext w w' := by
  have ha := ho.a
  have hb0 := ho.b.1
  have HA : Hid (0 ≤ o.a % 65536 ∧ o.a % 65536 ≤ 4294967295) := Lib.hid (by omega)
  have HB : Hid (0 ≤ o.a / 65536 ∧ o.a / 65536 ≤ 65535) := Lib.hid (by omega)
  have HC : Hid (0 ≤ o.b ∧ o.b ≤ 65535) := Lib.hid (by omega)
  have e1 : IntKind.u64.wrap (o.a % 65536) = o.a % 65536 := by rw [IntKind.wrap_u64]; omega
  have e2 : IntKind.u64.wrap (o.a / 65536) = o.a / 65536 := by rw [IntKind.wrap_u64]; omega
  have e3 : IntKind.u64.wrap o.b = o.b := by rw [IntKind.wrap_u64]; omega
  have HO := Lib.hid ho
  clear ho
  go_enter Tryd.func18, Tryd.ntmps18
  go_wp2_with (first | (go_at_call 37; (with_reducible refine (namesR_any o HO.out _).mono ?_); rintro e w1 ⟨rfl, os1, n1, rfl⟩) | (go_at_call 38; (with_reducible refine (keyR_any _ _ _ HA.out HB.out HC.out _).mono ?_); rintro e w2 ⟨rfl, os2, n2, rfl⟩))
  go_ret
  exact ⟨rfl, (by first | ((repeat (first | with_reducible exact Ext.refl _ | with_reducible assumption | with_reducible refine Ext.alloc ?_ _ | with_reducible refine Ext.gr ?_ _ | with_reducible refine Ext.drewN ?_ _ | with_reducible refine Ext.drew ?_ | with_reducible refine Ext.setCell ?_ ?_ _ | with_reducible refine Ext.more ?_ _ _ | (show _ ≤ _; dsimp only; omega))); done) | ((repeat (first | with_reducible exact Ext.refl _ | with_reducible assumption | with_reducible apply Ext.bothR | with_reducible refine Ext.alloc ?_ _ | with_reducible refine Ext.gr ?_ _ | with_reducible refine Ext.drewN ?_ _ | with_reducible refine Ext.drew ?_ | with_reducible refine Ext.setCell ?_ ?_ _ | with_reducible refine Ext.more ?_ _ _ | (show _ ≤ _; dsimp only; omega))); done) | ((repeat (first | with_reducible exact Ext.refl _ | with_reducible exact Ext.sameG _ _ _ _ | with_reducible assumption | with_reducible refine Ext.bothR (n := 0) ?_ | with_reducible refine Ext.alloc ?_ _ | with_reducible refine Ext.gr ?_ _ | with_reducible refine Ext.drewN ?_ _ | with_reducible refine Ext.drew ?_ | with_reducible refine Ext.setCell ?_ ?_ _ | with_reducible refine Ext.more ?_ _ _ | (show _ ≤ _; dsimp only; omega))); done))⟩
end Go.Proofs.YtbfccbaplmjkhaaDoor
