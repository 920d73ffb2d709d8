/- The walk of 'basculeref04.Great', of an index's config. -/
import Derived.Test.YtkklhhdkokncnaaDoorGd
import Derived.Test.YtkklhhdkokncnaaDoorGZ
namespace Go.Proofs.YtkklhhdkokncnaaDoor
open Go Go.RowKit
set_option maxRecDepth 100000
set_option maxHeartbeats 8000000

theorem greatT_any (c : Cfg) (hc : TreOk c) (h2 : (c.object == 2) = true) (w : World) : Calls Tryd.prog 25 #[c.v] w fun e w' => e = .returned (.int .i64 (treGreat c)) ∧ Ext w w' := by
  obtain ⟨R, hR⟩ : ∃ R, treGreat c = R := ⟨_, rfl⟩
  rw [hR]
  have HR := Lib.hid hR
  have h1 : (c.object == 1) = false := by
    have e : c.object = 2 := by simpa using h2
    simp [e]
  obtain ⟨T, hT⟩ : ∃ T, topI c.cap c.node = T := ⟨_, rfl⟩
  have HT := Lib.hid hT
  have ht : 0 ≤ T ∧ T ≤ 4 := by rw [← hT]; exact topI_bd c.cap c.node
  have hcap := hc.cap
  have hcap3 : 0 ≤ c.cap ∧ c.cap ≤ 1000 := by omega
  clear hR hT
  go_enter Tryd.func25, Tryd.ntmps25
  go_wp2
  go_loopw [5, 6] (fun x i wr => ∃ (k : Nat) (S : Int), (k : Int) ≤ T + 1 ∧ x = .int .i64 S ∧ i = .int .i64 k ∧ Hid (S = 1 + sumI c.cap c.node k) ∧ Hid (Ext (w.alloc (.cells #[.int .u8 c.object, .int .i64 c.instances, .int .i64 c.threads, .int .u8 c.kind, .int .i64 c.stripes, .int .i64 c.bits, .int .i64 c.cap, .int .i64 c.node, .int .i64 c.batch, .int .i64 c.chunk, .int .u64 c.limit, .int .u64 c.most] 24)) wr)) (fun _ i _ => 10 - (intOf i).toNat)
  case atStart => exact ⟨0, 1, by omega, rfl, rfl, Lib.hid rfl, Lib.hid (Ext.refl _)⟩
  case round =>
    obtain ⟨k, S, hk, rfl, rfl, HS, HE⟩ := hrel
    obtain ⟨os, d, rfl⟩ := HE.out
    clear HE
    have hk3 : 0 ≤ (k : Int) ∧ (k : Int) ≤ 300 := by omega
    by_cases hlt : (k : Int) ≤ T
    · obtain ⟨U, hU⟩ : ∃ U, upI c.cap c.node (k : Int) = U := ⟨_, rfl⟩
      have hs := sumI_bd (n := c.cap) (w := c.node) ⟨by omega, hcap.2⟩ hc.node k (by omega)
      have hu : 0 ≤ U ∧ U ≤ 32 := by
        have e1 := upI_nonneg c.cap c.node (k : Int)
        have e2 := upI_le (n := c.cap) (h := (k : Int)) (by omega) hc.node (by omega)
        omega
      have hs2 : 0 ≤ S ∧ S ≤ 200 := by have := HS.out; omega
      have i1 : IntKind.i64.wrap (S + U) = S + U := by rw [IntKind.wrap_i64]; omega
      have HU := Lib.hid hU
      clear hU hs
      go_wp2_with (first | (go_at_call 41; refine (topR_any c.cap c.node hc.cap hc.node _).mono ?_; rintro e w1 ⟨rfl, rfl⟩; rw [HT.out]) | (go_at_call 22; refine (itemsI_any c.cap c.node (k : Int) hcap3 hc.node hk3 _).mono ?_; rintro e w1 ⟨rfl, rfl⟩; rw [HU.out]))
      go_roundw
      case rel => exact ⟨k + 1, S + U, by omega, rfl, by go_num, Lib.hid (by rw [HS.out, ← HU.out]; show _ = 1 + (sumI c.cap c.node k + upI c.cap c.node (k : Int)); omega), Lib.hid EX⟩
      case measure => simp [intOf]; omega
    · have e : (k : Int) = T + 1 := by omega
      obtain rfl : S = R := by
        rw [HS.out, ← HR.out]
        unfold treGreat treTop
        rw [HT.out, show T.toNat + 1 = k by omega]
      clear e
      go_wp2_with (first | (go_at_call 41; refine (topR_any c.cap c.node hc.cap hc.node _).mono ?_; rintro e w1 ⟨rfl, rfl⟩; rw [HT.out]) | (go_at_call 22; refine (itemsI_any c.cap c.node (k : Int) hcap3 hc.node hk3 _).mono ?_; rintro e w1 ⟨rfl, rfl⟩; rw [HU.out]))
      go_ret
      exact ⟨rfl, EX⟩
end Go.Proofs.YtkklhhdkokncnaaDoor
