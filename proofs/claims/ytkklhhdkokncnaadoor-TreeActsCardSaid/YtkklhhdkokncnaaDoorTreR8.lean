/- The walks of the reference's 'May', 'Next', layer 'tree'. -/
import Derived.Test.YtkklhhdkokncnaaDoorTreR7a
import Derived.Test.YtkklhhdkokncnaaDoorTreR7b
import Derived.Test.YtkklhhdkokncnaaDoorTreErr
namespace Go.Proofs.YtkklhhdkokncnaaDoor
open Go Go.RowKit

theorem mayR13_any (c : Cfg) (f : Frm) (hp : partOk c = true) (ho : c.object = 2) (hf : f.Fits) (w : World) : Calls Tryd.prog 32 #[c.v, f.v] w
    fun e w' => e = .returned (.bool (treMay c f)) ∧ Ext w w' := by
  cases hk : (f.kind == 5)
  · exact mayR_other c f hp ho hf hk w
  · exact mayR_delete c f hp ho hf hk w
set_option maxRecDepth 100000 in
set_option maxHeartbeats 4000000 in
theorem treNextR_any (c : Cfg) (f : Frm) (hf : f.Fits) (w : World) : Calls Tryd.prog 10 #[c.v, f.v] w
    fun e w' => e = .returned (.tuple #[(treNextA c f).v, .int .i64 (treErr c f)]) ∧ Ext w w' := by
  have HF := Lib.hid hf
  clear hf
  cases hp : partOk c
  · have HG := Lib.hid (treErr_conf (f := f) hp)
    have HN : Hid (treNextA c f = zeroAct) := Lib.hid (by simp [treNextA, HG.out])
    have HC := Lib.hid hp
    clear hp
    go_enter Tryd.func10, Tryd.ntmps10
    go_wp2_with (go_at_call 31; refine (mayBe_any c _).mono ?_; rintro e w1 ⟨rfl, os1, n1, rfl⟩; rw [HC.out])
    (refine bodyPost_ret (v := .tuple #[(zeroAct).v, .int .i64 40]) (by simp [results, Tryd.results10, go_sem]) rfl ?_)
    exact ⟨by rw [HN.out, HG.out], (by repeat (first | with_reducible exact Ext.refl _ | with_reducible assumption | with_reducible refine Ext.alloc ?_ _ | with_reducible refine Ext.gr ?_ _ | with_reducible refine Ext.drewN ?_ _ | with_reducible refine Ext.drew ?_ | with_reducible refine Ext.setCell ?_ ?_ _ | with_reducible refine Ext.more ?_ _ _ | (show _ ≤ _; dsimp only; omega)))⟩
  · have HC := Lib.hid hp
    cases h2 : (c.object == 2)
    · have HG := Lib.hid (treErr_obj (f := f) h2)
      have HN : Hid (treNextA c f = zeroAct) := Lib.hid (by simp [treNextA, HG.out])
      have h2' : (c.object != 2) = true := by simpa using h2
      clear hp
      go_enter Tryd.func10, Tryd.ntmps10
      go_wp2_with (go_at_call 31; refine (mayBe_any c _).mono ?_; rintro e w1 ⟨rfl, os1, n1, rfl⟩; rw [HC.out])
      (refine bodyPost_ret (v := .tuple #[(zeroAct).v, .int .i64 40]) (by simp [results, Tryd.results10, go_sem]) rfl ?_)
      exact ⟨by rw [HN.out, HG.out], (by repeat (first | with_reducible exact Ext.refl _ | with_reducible assumption | with_reducible refine Ext.alloc ?_ _ | with_reducible refine Ext.gr ?_ _ | with_reducible refine Ext.drewN ?_ _ | with_reducible refine Ext.drew ?_ | with_reducible refine Ext.setCell ?_ ?_ _ | with_reducible refine Ext.more ?_ _ _ | (show _ ≤ _; dsimp only; omega)))⟩
    · have HOB : Hid (c.object = 2) := Lib.hid (by simpa using h2)
      have h2' : (c.object != 2) = false := by simpa using h2
      cases h3 : treMay c f
      · have HG := Lib.hid (treErr_arg hp h2 h3)
        have HN : Hid (treNextA c f = zeroAct) := Lib.hid (by simp [treNextA, HG.out])
        have HM := Lib.hid h3
        clear hp h3
        go_enter Tryd.func10, Tryd.ntmps10
        go_wp2_with (first | (go_at_call 31; refine (mayBe_any c _).mono ?_; rintro e w1 ⟨rfl, os1, n1, rfl⟩; rw [HC.out]) | (go_at_call 32; refine (mayR13_any c f HC.out HOB.out HF.out _).mono ?_; rintro e w2 ⟨rfl, os2, n2, rfl⟩; rw [HM.out]))
        (refine bodyPost_ret (v := .tuple #[(zeroAct).v, .int .i64 2]) (by simp [results, Tryd.results10, go_sem]) rfl ?_)
        exact ⟨by rw [HN.out, HG.out], (by repeat (first | with_reducible exact Ext.refl _ | with_reducible assumption | with_reducible refine Ext.alloc ?_ _ | with_reducible refine Ext.gr ?_ _ | with_reducible refine Ext.drewN ?_ _ | with_reducible refine Ext.drew ?_ | with_reducible refine Ext.setCell ?_ ?_ _ | with_reducible refine Ext.more ?_ _ _ | (show _ ≤ _; dsimp only; omega)))⟩
      · have HG := Lib.hid (treErr_yes hp h2 h3)
        have HN : Hid (treNextA c f = treStep c f) := Lib.hid (by simp [treNextA, HG.out])
        have HM := Lib.hid h3
        have HMF := Lib.hid (treMay_facts h3)
        have HOK := Lib.hid (treOk_of hp HOB.out)
        clear hp h3
        go_enter Tryd.func10, Tryd.ntmps10
        go_wp2_with (first | (go_at_call 31; refine (mayBe_any c _).mono ?_; rintro e w1 ⟨rfl, os1, n1, rfl⟩; rw [HC.out]) | (go_at_call 32; refine (mayR13_any c f HC.out HOB.out HF.out _).mono ?_; rintro e w2 ⟨rfl, os2, n2, rfl⟩; rw [HM.out]) | (go_at_call 33; refine (stepR_any c f HOK.out HF.out HMF.out.2.1 HMF.out.2.2.1 _).mono ?_; rintro e w3 ⟨rfl, os3, n3, rfl⟩))
        (refine bodyPost_ret (v := .tuple #[(treStep c f).v, .int .i64 0]) (by simp [results, Tryd.results10, go_sem]) rfl ?_)
        exact ⟨by rw [HN.out, HG.out], (by repeat (first | with_reducible exact Ext.refl _ | with_reducible assumption | with_reducible refine Ext.alloc ?_ _ | with_reducible refine Ext.gr ?_ _ | with_reducible refine Ext.drewN ?_ _ | with_reducible refine Ext.drew ?_ | with_reducible refine Ext.setCell ?_ ?_ _ | with_reducible refine Ext.more ?_ _ _ | (show _ ≤ _; dsimp only; omega)))⟩
end Go.Proofs.YtkklhhdkokncnaaDoor
