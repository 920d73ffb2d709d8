/- The walk of the reference's After, layer 'branch'. -/
import Derived.Test.YtmbodooikfmegaaDoorBrR3
import Derived.Test.YtmbodooikfmegaaDoorBrR5
namespace Go.Proofs.YtmbodooikfmegaaDoor
open Go Go.RowKit

set_option maxRecDepth 100000 in
set_option maxHeartbeats 4000000 in
theorem brAfterR_any (c : Cfg) (f : Frm) (l : Cel) (hf : f.Fits) (hl : l.Fits) (w : World) : Calls Tryd.prog 12 #[c.v, f.v, l.v] w
    fun e w' => e = .returned (.tuple #[(brAfterA c f l).v, .int .i64 (brErr c f)]) ∧ Ext w w' := by
  have HF := Lib.hid hf
  have HL := Lib.hid hl
  clear hf hl
  cases hp : partOk c
  · have HG := Lib.hid (brErr_conf (f := f) hp)
    have HN : Hid (brAfterA c f l = zeroFrm) := Lib.hid (by simp [brAfterA, HG.out])
    have HC := Lib.hid hp
    clear hp
    go_enter Tryd.func12, Tryd.ntmps12
    go_wp2_with (go_at_call 25; refine (mayBe_any c _).mono ?_; rintro e w1 ⟨rfl, os1, n1, rfl⟩; rw [HC.out])
    (refine bodyPost_ret (v := .tuple #[(zeroFrm).v, .int .i64 40]) (by simp [results, Tryd.results12, go_sem]) rfl ?_)
    exact ⟨by rw [HN.out, HG.out], (by repeat (first | with_reducible exact Ext.refl _ | with_reducible assumption | with_reducible refine Ext.alloc ?_ _ | with_reducible refine Ext.gr ?_ _ | with_reducible refine Ext.drewN ?_ _ | with_reducible refine Ext.drew ?_ | with_reducible refine Ext.setCell ?_ ?_ _ | with_reducible refine Ext.more ?_ _ _ | (show _ ≤ _; dsimp only; omega)))⟩
  · have HC := Lib.hid hp
    cases h2 : (c.object == 4)
    · have HG := Lib.hid (brErr_obj (f := f) h2)
      have HN : Hid (brAfterA c f l = zeroFrm) := Lib.hid (by simp [brAfterA, HG.out])
      clear hp
      go_enter Tryd.func12, Tryd.ntmps12
      go_wp2_with (go_at_call 25; refine (mayBe_any c _).mono ?_; rintro e w1 ⟨rfl, os1, n1, rfl⟩; rw [HC.out])
      (refine bodyPost_ret (v := .tuple #[(zeroFrm).v, .int .i64 40]) (by simp [results, Tryd.results12, go_sem]) rfl ?_)
      exact ⟨by rw [HN.out, HG.out], (by repeat (first | with_reducible exact Ext.refl _ | with_reducible assumption | with_reducible refine Ext.alloc ?_ _ | with_reducible refine Ext.gr ?_ _ | with_reducible refine Ext.drewN ?_ _ | with_reducible refine Ext.drew ?_ | with_reducible refine Ext.setCell ?_ ?_ _ | with_reducible refine Ext.more ?_ _ _ | (show _ ≤ _; dsimp only; omega)))⟩
    · have HOB : Hid (c.object = 4) := Lib.hid (by simpa using h2)
      cases h3 : brMay c f
      · have HG := Lib.hid (brErr_arg hp h2 h3)
        have HN : Hid (brAfterA c f l = zeroFrm) := Lib.hid (by simp [brAfterA, HG.out])
        have HM := Lib.hid h3
        clear hp h3
        go_enter Tryd.func12, Tryd.ntmps12
        go_wp2_with (first | (go_at_call 25; refine (mayBe_any c _).mono ?_; rintro e w1 ⟨rfl, os1, n1, rfl⟩; rw [HC.out]) | (go_at_call 26; refine (brMayR_any c f HF.out HOB.out _).mono ?_; rintro e w2 ⟨rfl, os2, n2, rfl⟩; rw [HM.out]))
        (refine bodyPost_ret (v := .tuple #[(zeroFrm).v, .int .i64 2]) (by simp [results, Tryd.results12, go_sem]) rfl ?_)
        exact ⟨by rw [HN.out, HG.out], (by repeat (first | with_reducible exact Ext.refl _ | with_reducible assumption | with_reducible refine Ext.alloc ?_ _ | with_reducible refine Ext.gr ?_ _ | with_reducible refine Ext.drewN ?_ _ | with_reducible refine Ext.drew ?_ | with_reducible refine Ext.setCell ?_ ?_ _ | with_reducible refine Ext.more ?_ _ _ | (show _ ≤ _; dsimp only; omega)))⟩
      · have HG := Lib.hid (brErr_yes hp h2 h3)
        have HN : Hid (brAfterA c f l = brBehind c f l) := Lib.hid (by simp [brAfterA, HG.out])
        have HM := Lib.hid h3
        obtain ⟨R, hR⟩ : ∃ R, brBehind c f l = R := ⟨_, rfl⟩
        have HR := Lib.hid hR
        clear hp h3 hR
        go_enter Tryd.func12, Tryd.ntmps12
        go_wp2_with (first | (go_at_call 25; refine (mayBe_any c _).mono ?_; rintro e w1 ⟨rfl, os1, n1, rfl⟩; rw [HC.out]) | (go_at_call 26; refine (brMayR_any c f HF.out HOB.out _).mono ?_; rintro e w2 ⟨rfl, os2, n2, rfl⟩; rw [HM.out]) | (go_at_call 29; refine (behindR_any c f HF.out l HL.out HG.out _).mono ?_; rintro e w3 ⟨rfl, os3, n3, rfl⟩; rw [HR.out]))
        (refine bodyPost_ret (v := .tuple #[R.v, .int .i64 0]) (by simp [results, Tryd.results12, go_sem]) rfl ?_)
        exact ⟨by rw [HN.out, HG.out, HR.out], (by repeat (first | with_reducible exact Ext.refl _ | with_reducible assumption | with_reducible refine Ext.alloc ?_ _ | with_reducible refine Ext.gr ?_ _ | with_reducible refine Ext.drewN ?_ _ | with_reducible refine Ext.drew ?_ | with_reducible refine Ext.setCell ?_ ?_ _ | with_reducible refine Ext.more ?_ _ _ | (show _ ≤ _; dsimp only; omega)))⟩
end Go.Proofs.YtmbodooikfmegaaDoor
