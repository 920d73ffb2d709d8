/- The walks of the closures of 'rules.speak'. -/
import Derived.Test.YtiooiljehigomaaDoorIdx
import Derived.RangeFuncNested
import Derived.RangeFuncBound
import Derived.RangeFuncCalls
import Derived.RangeFuncLeaves
import Derived.RangeFuncFrom
import Derived.Shelf.Abstract
import Derived.Shelf.RegionOpen
import Derived.WalkKit
import Derived.OwnWalkIn
import Derived.TacticsInMore
import Derived.LoopNIn
import Derived.LoopIn
namespace Go.Proofs.YtiooiljehigomaaDoor
open Go Go.RowKit

theorem cl48_any (x : Rw) (a b : Int) (ha : 0 ≤ a ∧ a ≤ 65535) (hb : 0 ≤ b ∧ b ≤ 65535) (A B : Nat) (w : World) (hA : w.cell? ⟨A, 0, none⟩ = some (.int .u32 a)) (hB : w.cell? ⟨B, 0, none⟩ = some (.int .u32 b)) :
    Calls Tryd.prog 48 #[x.val, .pointer (some ⟨A, 0, none⟩), .pointer (some ⟨B, 0, none⟩)] w
    fun e w' => e = .returned (.bool (x.k == a * 65536 + b)) ∧ Ext w w' := by
  have hl := World.block_lt_of_cell? _ _ hA
  have hl2 := World.block_lt_of_cell? _ _ hB
  dsimp only at hl hl2
  have HA := Lib.hid ha
  have HB := Lib.hid hb
  clear ha hb
  go_enter Tryd.func48, Tryd.ntmps48
  go_wp2
  go_quiet ((go_at_call 24; exact quiet_left (key_any _ _ HA.out HB.out _)))
  go_wp2
  go_ret
  exact ⟨rfl, (by repeat (first | with_reducible exact Ext.refl _ | with_reducible assumption | with_reducible refine Ext.alloc ?_ _ | with_reducible refine Ext.gr ?_ _ | with_reducible refine Ext.drewN ?_ _ | with_reducible refine Ext.drew ?_ | with_reducible refine Ext.setCell ?_ ?_ _ | with_reducible refine Ext.more ?_ _ _ | (show _ ≤ _; dsimp only; omega)))⟩

set_option maxRecDepth 100000 in
set_option maxHeartbeats 2000000 in
theorem idx48_any (v : Value) (L : List Rw) (a b : Int) (ha : 0 ≤ a ∧ a ≤ 65535) (hb : 0 ≤ b ∧ b ≤ 65535) (A B : Nat) (w : World) (hv : Sl w v L.length (rwCells L)) (hA : w.cell? ⟨A, 0, none⟩ = some (.int .u32 a)) (hB : w.cell? ⟨B, 0, none⟩ = some (.int .u32 b)) :
    Calls Tryd.prog 25 #[v, .func (.func 48) #[] #[.pointer (some ⟨A, 0, none⟩), .pointer (some ⟨B, 0, none⟩)]] w
    fun e w' => e = .returned (.int .i64 (findK L (a * 65536 + b))) ∧ Ext w w' := by
  obtain ⟨ad, cap, rfl, hv⟩ := hv
  have hm := hv.len
  have HV := Lib.hid hv
  have HAB := Lib.hid (And.intro hA hB)
  have HAL := Lib.hid (And.intro ha hb)
  clear hv hB hA ha hb
  obtain ⟨q, hq⟩ : ∃ q, a * 65536 + b = q := ⟨_, rfl⟩
  rw [hq]
  have HQQ := Lib.hid hq
  obtain ⟨R, hR⟩ : ∃ R, findK L q = R := ⟨_, rfl⟩
  rw [hR]
  have HR := Lib.hid hR
  clear hR hq
  go_enter Tryd.func25, Tryd.ntmps25
  go_wp2
  go_loopw [5, 8] (fun _ i wr => ∃ k : Nat, k ≤ L.length ∧ i = .int .i64 k ∧ Ext w wr ∧ Hid (∀ j, j < k → ¬ (L.getD j zrw).k = q)) (fun _ i _ => L.length - (intOf i).toNat)
  case atStart => exact ⟨0, Nat.zero_le _, rfl, Ext.refl _, Lib.hid fun j hj => absurd hj (Nat.not_lt_zero _)⟩
  case round =>
    obtain ⟨k, hk, rfl, he, HT⟩ := hrel
    have HE := Lib.hid he
    clear he
    by_cases hlt : k < L.length
    · obtain ⟨bb, o, rfl, _, r1, r2⟩ := (HV.out.ext HE.out).rw hlt
      obtain ⟨x, hx⟩ : ∃ x, L.getD k zrw = x := ⟨_, rfl⟩
      rw [hx] at r1 r2
      have HX := Lib.hid hx
      have i0 : (0 : Int) ≤ (k : Int) := by omega
      have i1 : (k : Int) < (L.length : Int) := by omega
      clear hx
      cases h1 : (x.k == q)
      · have HQ := Lib.hid h1
        have HT2 : Hid (∀ j, j < k + 1 → ¬ (L.getD j zrw).k = q) := Lib.hid (by
          intro j hj
          by_cases e : j = k
          · subst e; rw [HX.out]; simpa using h1
          · exact HT.out j (by omega))
        clear h1
        go_wp2_with (go_at_call 48; refine (cl48_any x a b HAL.out.1 HAL.out.2 A B _ (ext_cell (HE.out.trans (by repeat (first | with_reducible exact Ext.refl _ | with_reducible assumption | with_reducible refine Ext.alloc ?_ _ | with_reducible refine Ext.gr ?_ _ | with_reducible refine Ext.drewN ?_ _ | with_reducible refine Ext.drew ?_ | with_reducible refine Ext.setCell ?_ ?_ _ | with_reducible refine Ext.more ?_ _ _ | (show _ ≤ _; dsimp only; omega)))) HAB.out.1) (ext_cell (HE.out.trans (by repeat (first | with_reducible exact Ext.refl _ | with_reducible assumption | with_reducible refine Ext.alloc ?_ _ | with_reducible refine Ext.gr ?_ _ | with_reducible refine Ext.drewN ?_ _ | with_reducible refine Ext.drew ?_ | with_reducible refine Ext.setCell ?_ ?_ _ | with_reducible refine Ext.more ?_ _ _ | (show _ ≤ _; dsimp only; omega)))) HAB.out.2)).mono ?_; rintro e w1 ⟨rfl, os1, n1, rfl⟩; rw [HQQ.out, HQ.out])
        go_roundw
        case rel => exact ⟨k + 1, by omega, by go_num, HE.out.trans (by repeat (first | with_reducible exact Ext.refl _ | with_reducible assumption | with_reducible refine Ext.alloc ?_ _ | with_reducible refine Ext.gr ?_ _ | with_reducible refine Ext.drewN ?_ _ | with_reducible refine Ext.drew ?_ | with_reducible refine Ext.setCell ?_ ?_ _ | with_reducible refine Ext.more ?_ _ _ | (show _ ≤ _; dsimp only; omega))), HT2⟩
        case measure => simp [intOf]; omega
      · have HQ := Lib.hid h1
        have HR2 : Hid ((k : Int) = R) := Lib.hid (by
          rw [← HR.out]
          exact (findK_hit hlt (by rw [HX.out]; simpa using h1) HT.out).symm)
        clear h1
        go_wp2_with (go_at_call 48; refine (cl48_any x a b HAL.out.1 HAL.out.2 A B _ (ext_cell (HE.out.trans (by repeat (first | with_reducible exact Ext.refl _ | with_reducible assumption | with_reducible refine Ext.alloc ?_ _ | with_reducible refine Ext.gr ?_ _ | with_reducible refine Ext.drewN ?_ _ | with_reducible refine Ext.drew ?_ | with_reducible refine Ext.setCell ?_ ?_ _ | with_reducible refine Ext.more ?_ _ _ | (show _ ≤ _; dsimp only; omega)))) HAB.out.1) (ext_cell (HE.out.trans (by repeat (first | with_reducible exact Ext.refl _ | with_reducible assumption | with_reducible refine Ext.alloc ?_ _ | with_reducible refine Ext.gr ?_ _ | with_reducible refine Ext.drewN ?_ _ | with_reducible refine Ext.drew ?_ | with_reducible refine Ext.setCell ?_ ?_ _ | with_reducible refine Ext.more ?_ _ _ | (show _ ≤ _; dsimp only; omega)))) HAB.out.2)).mono ?_; rintro e w1 ⟨rfl, os1, n1, rfl⟩; rw [HQQ.out, HQ.out])
        go_ret
        exact ⟨by rw [HR2.out] <;> rfl, HE.out.trans (by repeat (first | with_reducible exact Ext.refl _ | with_reducible assumption | with_reducible refine Ext.alloc ?_ _ | with_reducible refine Ext.gr ?_ _ | with_reducible refine Ext.drewN ?_ _ | with_reducible refine Ext.drew ?_ | with_reducible refine Ext.setCell ?_ ?_ _ | with_reducible refine Ext.more ?_ _ _ | (show _ ≤ _; dsimp only; omega)))⟩
    · obtain rfl : k = L.length := by omega
      have HR2 : Hid (-1 = R) := Lib.hid (by
        rw [← HR.out]
        exact (findK_miss HT.out).symm)
      go_wp2
      go_ret
      exact ⟨by rw [HR2.out] <;> rfl, HE.out⟩
end Go.Proofs.YtiooiljehigomaaDoor
