/- The walk of 'sameAt', layer 'branch', at two slices that hold the same. -/
import Derived.Test.YtmbodooikfmegaaDoorBrW
import Derived.LoopTactic
namespace Go.Proofs.YtmbodooikfmegaaDoor
open Go Go.RowKit
set_option maxRecDepth 100000
set_option maxHeartbeats 8000000

theorem off_at {t : List Int} {k : Nat} (h : k < t.length) : (offV t)[k]? = some (.int .i64 (t.getD k 0)) := by
  simp [offV, h]
theorem sameAt_any (v u : Value) (t : List Int) (w : World) (hv : Sl w v t.length (offV t)) (hu : Sl w u t.length (offV t)) : Calls Tryd.prog 30 #[v, u] w
    fun e w' => e = .returned (.bool true) ∧ Ext w w' := by
  obtain ⟨ad, cap, rfl, hv⟩ := hv
  obtain ⟨ad2, cap2, rfl, hu⟩ := hu
  have hm : t.length ≤ 9223372036854775807 := by have h1 := hv.1; have h2 := hv.2.1; unfold maxLen at h2; omega
  have HV := Lib.hid hv
  have HU := Lib.hid hu
  clear hv hu
  go_enter Tryd.func30, Tryd.ntmps30
  go_wp2
  go_loopw [5] (fun i wr => ∃ k : Nat, k ≤ t.length ∧ i = .int .i64 k ∧ Ext w wr) (fun i _ => t.length - (intOf i).toNat)
  case atStart => exact ⟨0, Nat.zero_le _, rfl, Ext.refl _⟩
  case round =>
    obtain ⟨k, hk, rfl, he⟩ := hrel
    have HE := Lib.hid he
    clear he
    by_cases hlt : k < t.length
    · obtain ⟨b, o, rfl, hc⟩ := HV.out.pos (by omega)
      obtain ⟨b2, o2, rfl, hc2⟩ := HU.out.pos (by omega)
      have c1 := ext_cell HE.out (hc k _ (off_at hlt))
      have c2 := ext_cell HE.out (hc2 k _ (off_at hlt))
      have l1 := World.block_lt_of_cell? _ _ c1
      have l2 := World.block_lt_of_cell? _ _ c2
      dsimp only at l1 l2
      obtain ⟨x, hx⟩ : ∃ x, t.getD k 0 = x := ⟨_, rfl⟩
      rw [hx] at c1 c2
      have i0 : (0 : Int) ≤ (k : Int) := by omega
      have i1 : (k : Int) < (t.length : Int) := by omega
      clear hc hc2 hx
      go_wp2
      (refine wp_region_ext_lit (by kernel_rfl) (by kernel_rfl) ?_); (repeat (go_big_quiet_step (fail))); (refine wpQuiet_nil ?_; intro _ hw'; obtain ⟨⟨osq, nq⟩, hw''⟩ := hw'; replace hw'' : _ = grew _ osq nq := hw''; subst hw'')
      go_wp2
      go_roundw
      case rel => exact ⟨k + 1, by omega, by go_num, HE.out.trans EX⟩
      case measure => simp [intOf]; omega
    · obtain rfl : k = t.length := by omega
      go_wp2
      go_ret
      exact ⟨rfl, HE.out⟩
end Go.Proofs.YtmbodooikfmegaaDoor
