/- The walks of the references of the layers 'rank' and 'tree': items, levels, offsets. -/
import Derived.Test.YtkklhhdkokncnaaDoorTre1
namespace Go.Proofs.YtkklhhdkokncnaaDoor
open Go Go.RowKit

theorem itN_succ (w h m : Nat) : itN w (h + 1) m = itN w h ((m + w - 1) / w) := rfl
set_option maxRecDepth 100000 in
set_option maxHeartbeats 4000000 in
theorem items_any (m w h : Nat) (hm : m ≤ 1000) (hw : w = 2 ∨ w = 3 ∨ w = 4) (hh : h ≤ 300) (W : World) : Calls Tryd.prog 22 #[.int .i64 (m : Int), .int .i64 (w : Int), .int .i64 (h : Int)] W
    fun e w' => e = .returned (.int .i64 (itN w h m)) ∧ W = w' := by
  obtain ⟨R, hR⟩ : ∃ R, itN w h m = R := ⟨_, rfl⟩
  have HR := Lib.hid hR
  rw [hR]
  clear hR
  have hw2 : 2 ≤ w ∧ w ≤ 4 := by omega
  go_enter Tryd.func22, Tryd.ntmps22
  go_wp2
  go_loop [0, 7, 8, 9] (fun t0 t7 _ _ => ∃ k mk : Nat, k ≤ h ∧ t7 = .int .i64 k ∧ t0 = .int .i64 mk ∧ mk ≤ 1000 ∧ Hid (itN w (h - k) mk = R)) (fun _ t7 _ _ => h - (intOf t7).toNat)
  case atStart => exact ⟨0, m, Nat.zero_le _, rfl, rfl, hm, HR⟩
  case round =>
    obtain ⟨k, mk, hk, rfl, rfl, hmk, HI⟩ := hrel
    by_cases hlt : k < h
    · go_wp2
      go_loop [8, 9] (fun t8 t9 => ∃ j i : Nat, t8 = .int .i64 j ∧ t9 = .int .i64 i ∧ i = w * j ∧ j ≤ mk ∧ Hid (j = 0 ∨ w * (j - 1) < mk)) (fun _ t9 => mk - (intOf t9).toNat)
      case atStart => exact ⟨0, 0, rfl, rfl, by simp, Nat.zero_le _, Lib.hid (Or.inl rfl)⟩
      case round =>
        obtain ⟨j, i, rfl, rfl, hi, hj, HJ⟩ := hrel
        have hij : j ≤ i := by rw [hi]; exact Nat.le_mul_of_pos_left _ (by omega)
        have HIJ := Lib.hid hi
        clear hi
        by_cases hlt2 : i < mk
        · go_wp2
          go_round
          case rel => exact ⟨j + 1, i + w, by go_num, by go_num, by rw [HIJ.out, Nat.mul_succ], by omega, Lib.hid (Or.inr (by rw [Nat.add_sub_cancel, ← HIJ.out]; exact hlt2))⟩
          case measure => simp [intOf]; omega
        · have hceil : (mk + w - 1) / w = j := by
            have h1 := HIJ.out
            rcases HJ.out with h2 | h2
            · subst h2
              simp at h1
              have : mk = 0 := by omega
              subst this
              rcases hw with rfl | rfl | rfl <;> rfl
            · rcases hw with rfl | rfl | rfl <;> omega
          go_wp2
          go_round
          case rel => exact ⟨k + 1, j, by omega, by go_num, rfl, by omega, Lib.hid (by have h1 := HI.out; rw [show h - k = (h - (k + 1)) + 1 by omega, itN_succ, hceil] at h1; exact h1)⟩
          case measure => simp [intOf]; omega
    · obtain rfl : k = h := by omega
      go_wp2
      go_ret
      refine ⟨?_, rfl⟩
      have h1 := HI.out
      rw [Nat.sub_self] at h1
      rw [← h1]
      rfl

theorem itemsI_any (n w h : Int) (hn : 0 ≤ n ∧ n ≤ 1000) (hw : w = 2 ∨ w = 3 ∨ w = 4) (hh : 0 ≤ h ∧ h ≤ 300) (W : World) : Calls Tryd.prog 22 #[.int .i64 n, .int .i64 w, .int .i64 h] W
    fun e w' => e = .returned (.int .i64 (upI n w h)) ∧ W = w' := by
  obtain ⟨n, rfl⟩ := Int.eq_ofNat_of_zero_le hn.1
  obtain ⟨h, rfl⟩ := Int.eq_ofNat_of_zero_le hh.1
  rcases hw with rfl | rfl | rfl
  · exact items_any n 2 h (by omega) (by omega) (by omega) W
  · exact items_any n 3 h (by omega) (by omega) (by omega) W
  · exact items_any n 4 h (by omega) (by omega) (by omega) W

theorem topI_of {n w : Int} {k : Nat} (_hn : 0 ≤ n ∧ n ≤ 32) (_hw : w = 2 ∨ w = 3 ∨ w = 4) (hk : k ≤ 4) (h1 : ∀ j : Nat, j < k → w < upI n w j) (h2 : upI n w k ≤ w) : topI n w = k := by
  have := lvN_of hk h1 (Or.inr h2)
  have h3 := (topI_bd n w).1
  unfold lvN at this
  omega
set_option maxRecDepth 100000 in
set_option maxHeartbeats 4000000 in
theorem topR_any (n w : Int) (hn : 1 ≤ n ∧ n ≤ 32) (hw : w = 2 ∨ w = 3 ∨ w = 4) (W : World) : Calls Tryd.prog 41 #[.int .i64 n, .int .i64 w] W
    fun e w' => e = .returned (.int .i64 (topI n w)) ∧ W = w' := by
  go_enter Tryd.func41, Tryd.ntmps41
  go_wp2
  go_loop [5] (fun t5 => ∃ k : Nat, k ≤ 4 ∧ t5 = .int .i64 k ∧ Hid (∀ j : Nat, j < k → w < upI n w j)) (fun t5 => 5 - (intOf t5).toNat)
  case atStart => exact ⟨0, Nat.zero_le _, rfl, Lib.hid fun j hj => by omega⟩
  case round =>
    obtain ⟨k, hk, rfl, HJ⟩ := hrel
    obtain ⟨U, hU⟩ : ∃ U, upI n w k = U := ⟨_, rfl⟩
    have HU := Lib.hid hU
    have hle := upI_le (n := n) (w := w) (h := k) (by omega) hw (by omega)
    have hge := upI_nonneg n w k
    rw [hU] at hle hge
    clear hU
    by_cases hlt : w < U
    · have hk4 : k < 4 := by
        by_cases e : k = 4
        · subst e
          have := up4 (n := n) (w := w) (by omega) hw
          have h2 := HU.out
          change upI n w 4 = U at h2
          omega
        · omega
      go_wp2_with (go_at_call 22; refine (itemsI_any n w k (by omega) hw (by omega) _).mono ?_; rintro e w1 ⟨rfl, rfl⟩; rw [HU.out])
      go_round
      case rel =>
        refine ⟨k + 1, by omega, by go_num, Lib.hid fun j hj => ?_⟩
        by_cases e : j = k
        · subst e
          rw [HU.out]
          exact hlt
        · exact HJ.out j (by omega)
      case measure => simp [intOf]; omega
    · have hT := Lib.hid (topI_of (by omega) hw hk HJ.out (by rw [HU.out]; omega))
      go_wp2_with (go_at_call 22; refine (itemsI_any n w k (by omega) hw (by omega) _).mono ?_; rintro e w1 ⟨rfl, rfl⟩; rw [HU.out])
      go_ret
      exact ⟨by rw [hT.out]; rfl, rfl⟩
set_option maxRecDepth 100000 in
theorem topR13_any (c : Cfg) (hc : TreOk c) (W : World) : Calls Tryd.prog 20 #[c.v] W fun e w' => e = .returned (.int .i64 (treTop c)) ∧ Ext W w' := by
  have hcap := hc.cap
  have hnode := hc.node
  obtain ⟨T, hT⟩ : ∃ T, treTop c = T := ⟨_, rfl⟩
  have HT := Lib.hid hT
  rw [hT]
  clear hT hc
  go_enter Tryd.func20, Tryd.ntmps20
  go_wp2_with (go_at_call 41; refine (topR_any c.cap c.node hcap hnode _).mono ?_; rintro e w1 ⟨rfl, rfl⟩; (have ht := HT.out; unfold treTop at ht; rw [ht]))
  go_ret
  exact ⟨rfl, (by repeat (first | with_reducible exact Ext.refl _ | with_reducible assumption | with_reducible refine Ext.alloc ?_ _ | with_reducible refine Ext.gr ?_ _ | with_reducible refine Ext.drewN ?_ _ | with_reducible refine Ext.drew ?_ | with_reducible refine Ext.setCell ?_ ?_ _ | with_reducible refine Ext.more ?_ _ _ | (show _ ≤ _; dsimp only; omega)))⟩
set_option maxRecDepth 100000 in
theorem upR_any (c : Cfg) (hc : TreOk c) (n h : Int) (hn : 0 ≤ n ∧ n ≤ 255) (hh : 0 ≤ h ∧ h ≤ 255) (W : World) : Calls Tryd.prog 66 #[c.v, .int .u8 n, .int .u8 h] W fun e w' => e = .returned (.int .i64 (treUp c n h)) ∧ Ext W w' := by
  have hnode := hc.node
  obtain ⟨T, hT⟩ : ∃ T, treUp c n h = T := ⟨_, rfl⟩
  have HT := Lib.hid hT
  rw [hT]
  clear hT hc
  go_enter Tryd.func66, Tryd.ntmps66
  go_wp2_with (go_at_call 22; refine (itemsI_any n c.node h (by omega) hnode (by omega) _).mono ?_; rintro e w1 ⟨rfl, rfl⟩; (have ht := HT.out; unfold treUp at ht; rw [ht]))
  go_ret
  exact ⟨rfl, (by repeat (first | with_reducible exact Ext.refl _ | with_reducible assumption | with_reducible refine Ext.alloc ?_ _ | with_reducible refine Ext.gr ?_ _ | with_reducible refine Ext.drewN ?_ _ | with_reducible refine Ext.drew ?_ | with_reducible refine Ext.setCell ?_ ?_ _ | with_reducible refine Ext.more ?_ _ _ | (show _ ≤ _; dsimp only; omega)))⟩
end Go.Proofs.YtkklhhdkokncnaaDoor
