/- The walk of the reference's 'May', layer 'tree'. -/
import Derived.Test.YtkklhhdkokncnaaDoorTreR6
namespace Go.Proofs.YtkklhhdkokncnaaDoor
open Go Go.RowKit

set_option maxRecDepth 100000 in
set_option maxHeartbeats 4000000 in
theorem mayR_other (c : Cfg) (f : Frm) (hp : partOk c = true) (ho : c.object = 2) (hf : f.Fits) (hk : (f.kind == 5) = false) (w : World) : Calls Tryd.prog 32 #[c.v, f.v] w
    fun e w' => e = .returned (.bool (treMay c f)) ∧ Ext w w' := by
  have hc := treOk_of hp ho
  have hop : treOp f = ⟨f.kind, f.a, f.b, 0⟩ := by unfold treOp; rw [hk]; rfl
  have HO := Lib.hid (treOp_fits hf)
  rw [hop] at HO
  have HF := Lib.hid hf
  obtain ⟨A, hA⟩ : ∃ A, treStep c f = A := ⟨_, rfl⟩
  have HST := Lib.hid hA
  have HM : Hid (treMay c f = (opErr c ⟨f.kind, f.a, f.b, 0⟩ == 0 && treHas f && treNum c f && decide (0 ≤ (treStep c f).at'))) := Lib.hid (by rw [← hop]; rfl)
  have hfa : ∀ w : World, (Instr.field 30 A.v 1).run Tryd.prog w = .ok (.int .i64 A.at') w := fun _ => by kernel_rfl
  have HKD : Hid (opErr c ⟨f.kind, f.a, f.b, 0⟩ = 0 → f.kind = 4 ∨ f.kind = 5 ∨ f.kind = 6 ∨ f.kind = 7 ∨ f.kind = 8) := Lib.hid fun h => objOf_two ((opErr_kind h).trans ho)
  obtain ⟨E, hE⟩ : ∃ E, opErr c ⟨f.kind, f.a, f.b, 0⟩ = E := ⟨_, rfl⟩
  have HE := Lib.hid hE
  clear hA hE hop hp ho
  cases e0 : (E == 0)
  · go_enter Tryd.func32, Tryd.ntmps32
    go_wp2_with (go_at_call 63; refine (opCheckR_any c ⟨f.kind, f.a, f.b, 0⟩ HO.out _).mono ?_; rintro e w1 ⟨rfl, os1, n1, rfl⟩; rw [HE.out])
    (go_ret; refine ⟨ret_bool ?_, (by repeat (first | with_reducible exact Ext.refl _ | with_reducible assumption | with_reducible refine Ext.alloc ?_ _ | with_reducible refine Ext.gr ?_ _ | with_reducible refine Ext.drewN ?_ _ | with_reducible refine Ext.drew ?_ | with_reducible refine Ext.setCell ?_ ?_ _ | with_reducible refine Ext.more ?_ _ _ | (show _ ≤ _; dsimp only; omega)))⟩)
    rw [HM.out, HE.out, e0]
    rfl
  · obtain rfl : E = 0 := by simpa using e0
    have HK := Lib.hid (HKD.out HE.out)
    cases hb : treHas f
    · have HB := Lib.hid hb
      clear hb
      go_enter Tryd.func32, Tryd.ntmps32
      go_wp2_with (first | (go_at_call 63; refine (opCheckR_any c ⟨f.kind, f.a, f.b, 0⟩ HO.out _).mono ?_; rintro e w1 ⟨rfl, os1, n1, rfl⟩; rw [HE.out]) | (go_at_call 64; refine (thereR_any f HF.out HK.out _).mono ?_; rintro e w2 ⟨rfl, os2, n2, rfl⟩; rw [HB.out]))
      (go_ret; refine ⟨ret_bool ?_, (by repeat (first | with_reducible exact Ext.refl _ | with_reducible assumption | with_reducible refine Ext.alloc ?_ _ | with_reducible refine Ext.gr ?_ _ | with_reducible refine Ext.drewN ?_ _ | with_reducible refine Ext.drew ?_ | with_reducible refine Ext.setCell ?_ ?_ _ | with_reducible refine Ext.more ?_ _ _ | (show _ ≤ _; dsimp only; omega)))⟩)
      rw [HM.out, HE.out, HB.out]
      rfl
    · have HB := Lib.hid hb
      clear hb
      cases hn : treNum c f
      · have HN := Lib.hid hn
        clear hn
        go_enter Tryd.func32, Tryd.ntmps32
        go_wp2_with (first | (go_at_call 63; refine (opCheckR_any c ⟨f.kind, f.a, f.b, 0⟩ HO.out _).mono ?_; rintro e w1 ⟨rfl, os1, n1, rfl⟩; rw [HE.out]) | (go_at_call 64; refine (thereR_any f HF.out HK.out _).mono ?_; rintro e w2 ⟨rfl, os2, n2, rfl⟩; rw [HB.out]) | (go_at_call 65; refine (numbersR_any c f hc HF.out _).mono ?_; rintro e w3 ⟨rfl, os3, n3, rfl⟩; rw [HN.out]))
        (go_ret; refine ⟨ret_bool ?_, (by repeat (first | with_reducible exact Ext.refl _ | with_reducible assumption | with_reducible refine Ext.alloc ?_ _ | with_reducible refine Ext.gr ?_ _ | with_reducible refine Ext.drewN ?_ _ | with_reducible refine Ext.drew ?_ | with_reducible refine Ext.setCell ?_ ?_ _ | with_reducible refine Ext.more ?_ _ _ | (show _ ≤ _; dsimp only; omega)))⟩)
        rw [HM.out, HE.out, HB.out, HN.out]
        rfl
      · have HN := Lib.hid hn
        clear hn
        go_enter Tryd.func32, Tryd.ntmps32
        go_wp2_with (first | (go_at_call 63; refine (opCheckR_any c ⟨f.kind, f.a, f.b, 0⟩ HO.out _).mono ?_; rintro e w1 ⟨rfl, os1, n1, rfl⟩; rw [HE.out]) | (go_at_call 64; refine (thereR_any f HF.out HK.out _).mono ?_; rintro e w2 ⟨rfl, os2, n2, rfl⟩; rw [HB.out]) | (go_at_call 65; refine (numbersR_any c f hc HF.out _).mono ?_; rintro e w3 ⟨rfl, os3, n3, rfl⟩; rw [HN.out]) | (go_at_call 33; refine (stepR_any c f hc HF.out HB.out HN.out _).mono ?_; rintro e w4 ⟨rfl, os4, n4, rfl⟩; rw [HST.out]))
        (go_ret; refine ⟨ret_bool ?_, (by repeat (first | with_reducible exact Ext.refl _ | with_reducible assumption | with_reducible refine Ext.alloc ?_ _ | with_reducible refine Ext.gr ?_ _ | with_reducible refine Ext.drewN ?_ _ | with_reducible refine Ext.drew ?_ | with_reducible refine Ext.setCell ?_ ?_ _ | with_reducible refine Ext.more ?_ _ _ | (show _ ≤ _; dsimp only; omega)))⟩)
        rw [HM.out, HE.out, HB.out, HN.out, HST.out]
        rfl
end Go.Proofs.YtkklhhdkokncnaaDoor
