/- The walks of the document's answer for a set of rules (layer 8). -/
import Derived.Test.YtiooiljehigomaaDoorRef6b
import Derived.Test.YtiooiljehigomaaDoorRul0
import Derived.Test.YtiooiljehigomaaDoorCheckR
import Derived.Deep.QuietTactic
import Derived.BigQuiet
namespace Go.Proofs.YtiooiljehigomaaDoor
open Go Go.RowKit

theorem speaks_any (k who what : Int) (hk : 0 ≤ k ∧ k < 4294967296) (w : World) : Calls Tryd.prog 52 #[.int .u64 k, .int .u32 who, .int .u32 what] w
    fun e w' => e = .returned (.bool (speaksB k who what)) ∧ Ext w w' := by
  have q1 : IntKind.u32.wrap (k / 65536) = k / 65536 := by rw [IntKind.wrap_u32]; omega
  have q2 : IntKind.u32.wrap (k % 65536) = k % 65536 := by rw [IntKind.wrap_u32]; omega
  obtain ⟨R, hR⟩ : ∃ R, speaksB k who what = R := ⟨_, rfl⟩
  rw [hR]
  have HR := Lib.hid hR
  clear hR
  go_enter Tryd.func52, Tryd.ntmps52
  go_wp2
  all_goals (go_ret; refine ⟨ret_bool ?_, (by repeat (first | with_reducible exact Ext.refl _ | with_reducible assumption | with_reducible refine Ext.alloc ?_ _ | with_reducible refine Ext.gr ?_ _ | with_reducible refine Ext.drewN ?_ _ | with_reducible refine Ext.drew ?_ | with_reducible refine Ext.setCell ?_ ?_ _ | with_reducible refine Ext.more ?_ _ _ | (show _ ≤ _; dsimp only; omega)))⟩)
  all_goals (go_light; rw [← HR.out]; clear HR; rw [Bool.eq_iff_iff]; simp [speaksB] at *; omega)

set_option maxRecDepth 100000 in
set_option maxHeartbeats 4000000 in
theorem saysR_any (v : Value) (L : List Rw) (hL : ∀ x ∈ L, RuleOk x) (who what : Int) (w : World) (hv : Sl w v L.length (rwCells L)) : Calls Tryd.prog 43 #[v, .int .u32 who, .int .u32 what] w
    fun e w' => e = .returned (.int .u32 (rulesSay L who what)) ∧ Ext w w' := by
  obtain ⟨ad, cap, rfl, hv⟩ := hv
  have hm := hv.len
  have HV := Lib.hid hv
  have HL := Lib.hid hL
  clear hv hL
  obtain ⟨R, hR⟩ : ∃ R, rulesSay L who what = R := ⟨_, rfl⟩
  rw [hR]
  have HR := Lib.hid hR
  clear hR
  go_enter Tryd.func43, Tryd.ntmps43
  go_wp2
  go_loopw [7, 8] (fun t i wr => ∃ (k : Nat) (s : Int), k ≤ L.length ∧ i = .int .i64 k ∧ t = .int .u32 s ∧ Ext w wr ∧ Hid ((L.take k).foldl (sayStep who what) 0 = s)) (fun _ i _ => L.length - (intOf i).toNat)
  case atStart => exact ⟨0, 0, Nat.zero_le _, rfl, rfl, Ext.refl _, Lib.hid rfl⟩
  case round =>
    obtain ⟨k, s, hk, rfl, rfl, he, HT⟩ := hrel
    have HE := Lib.hid he
    clear he
    by_cases hlt : k < L.length
    · obtain ⟨b, o, rfl, hb, r1, r2⟩ := (HV.out.ext HE.out).rw hlt
      have hst := rulesSay_take who what k hlt
      rw [HT.out] at hst
      have hx0 : RuleOk (L.getD k zrw) := HL.out _ (by rw [getD_rw L k hlt]; exact List.getElem_mem hlt)
      obtain ⟨x, hx⟩ : ∃ x, L.getD k zrw = x := ⟨_, rfl⟩
      rw [hx] at r1 r2 hst hx0
      have HB := Lib.hid hx0.1
      have q1 : IntKind.u32.wrap x.v = x.v := by rw [IntKind.wrap_u32]; have := hx0.2; omega
      have i0 : (0 : Int) ≤ (k : Int) := by omega
      have i1 : (k : Int) < (L.length : Int) := by omega
      clear hx HT hx0
      cases h1 : speaksB x.k who what
      · have HT2 : Hid ((L.take (k + 1)).foldl (sayStep who what) 0 = s) := Lib.hid (by rw [hst]; simp [sayStep, h1])
        have HQ := Lib.hid h1
        clear hst h1
        go_wp2_with (go_at_call 52; refine (speaks_any _ _ _ HB.out _).mono ?_; rintro e w1 ⟨rfl, os1, n1, rfl⟩; rw [HQ.out])
        go_roundw
        case rel => exact ⟨k + 1, s, by omega, by go_num, rfl, HE.out.trans (by repeat (first | with_reducible exact Ext.refl _ | with_reducible assumption | with_reducible refine Ext.alloc ?_ _ | with_reducible refine Ext.gr ?_ _ | with_reducible refine Ext.drewN ?_ _ | with_reducible refine Ext.drew ?_ | with_reducible refine Ext.setCell ?_ ?_ _ | with_reducible refine Ext.more ?_ _ _ | (show _ ≤ _; dsimp only; omega))), HT2⟩
        case measure => simp [intOf]; omega
      · have HQ := Lib.hid h1
        by_cases h2 : s < x.v
        · have HT2 : Hid ((L.take (k + 1)).foldl (sayStep who what) 0 = x.v) := Lib.hid (by rw [hst]; simp [sayStep, h1, h2])
          clear hst h1
          go_wp2_with (go_at_call 52; refine (speaks_any _ _ _ HB.out _).mono ?_; rintro e w1 ⟨rfl, os1, n1, rfl⟩; rw [HQ.out])
          go_roundw
          case rel => exact ⟨k + 1, x.v, by omega, by go_num, rfl, HE.out.trans (by repeat (first | with_reducible exact Ext.refl _ | with_reducible assumption | with_reducible refine Ext.alloc ?_ _ | with_reducible refine Ext.gr ?_ _ | with_reducible refine Ext.drewN ?_ _ | with_reducible refine Ext.drew ?_ | with_reducible refine Ext.setCell ?_ ?_ _ | with_reducible refine Ext.more ?_ _ _ | (show _ ≤ _; dsimp only; omega))), HT2⟩
          case measure => simp [intOf]; omega
        · have HT2 : Hid ((L.take (k + 1)).foldl (sayStep who what) 0 = s) := Lib.hid (by rw [hst]; simp [sayStep, h1, h2])
          clear hst h1
          go_wp2_with (go_at_call 52; refine (speaks_any _ _ _ HB.out _).mono ?_; rintro e w1 ⟨rfl, os1, n1, rfl⟩; rw [HQ.out])
          go_roundw
          case rel => exact ⟨k + 1, s, by omega, by go_num, rfl, HE.out.trans (by repeat (first | with_reducible exact Ext.refl _ | with_reducible assumption | with_reducible refine Ext.alloc ?_ _ | with_reducible refine Ext.gr ?_ _ | with_reducible refine Ext.drewN ?_ _ | with_reducible refine Ext.drew ?_ | with_reducible refine Ext.setCell ?_ ?_ _ | with_reducible refine Ext.more ?_ _ _ | (show _ ≤ _; dsimp only; omega))), HT2⟩
          case measure => simp [intOf]; omega
    · obtain rfl : k = L.length := by omega
      have HR2 : Hid (s = R) := Lib.hid (by rw [← HR.out, ← HT.out, List.take_length]; rfl)
      go_wp2
      go_ret
      exact ⟨by rw [HR2.out] <;> rfl, HE.out⟩
end Go.Proofs.YtiooiljehigomaaDoor
