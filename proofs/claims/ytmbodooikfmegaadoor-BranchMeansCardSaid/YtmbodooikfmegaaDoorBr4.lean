/- The walk of 'branch.Next'. -/
import Derived.Test.YtmbodooikfmegaaDoorBr3b
namespace Go.Proofs.YtmbodooikfmegaaDoor
open Go Go.RowKit
set_option maxRecDepth 100000
set_option maxHeartbeats 8000000

def brNextE (c : Cfg) (f : Frm) : Int := brErr c f
theorem brNext_any (c : Cfg) (f : Frm) (hf : f.Fits) (w : World) (ht : Tab w) : Calls Tryd.prog 9 #[c.v, f.v] w
    fun e w' => e = .returned (.tuple #[(brNextA c f).v, .int .i64 (brErr c f)]) ∧ Ext w w' := by
  have HF := Lib.hid hf
  have HT := Lib.hid ht
  clear ht hf
  cases h0 : (brErr c f == 0)
  · have HN : Hid (brNextA c f = zeroAct) := Lib.hid (by simp [brNextA, h0])
    have H0 := Lib.hid h0
    obtain ⟨E, hE⟩ : ∃ E, E = brErr c f := ⟨_, rfl⟩
    have HE := Lib.hid hE
    have h1 : (E != 0) = true := by rw [hE]; simpa using h0
    clear h0 hE
    go_enter Tryd.func9, Tryd.ntmps9
    go_wp2_with (go_at_call 23; refine (brStart_no c f HF.out H0.out _ (Tab.ext HT.out EX)).mono ?_; rintro e w1 ⟨rfl, os1, n1, rfl⟩; rw [← HE.out])
    (refine bodyPost_ret (v := .tuple #[(zeroAct).v, .int .i64 E]) (by simp [results, Tryd.results9, go_sem]) rfl ?_)
    exact ⟨by rw [HN.out, HE.out], EX⟩
  · have he : brErr c f = 0 := by simpa using h0
    have hok := brErr_ok he
    have HN : Hid (brNextA c f = brStep f) := Lib.hid (by simp [brNextA, he])
    have HE := Lib.hid he
    have HO := Lib.hid hok.2.1
    have HM := Lib.hid hok.2.2
    clear h0 he hok
    go_enter Tryd.func9, Tryd.ntmps9
    go_wp2_with (first | (go_at_call 23; refine (brStart_yes c f HF.out HE.out _ (Tab.ext HT.out EX)).mono ?_; rintro e w1 ⟨V, ⟨osv, dv, rfl⟩, rfl, os1, n1, rfl⟩) | (go_at_call 24; refine (brAct_any c f HF.out HO.out HM.out _ _ (by simp [wl, Holds, go_sem])).mono ?_; rintro e w2 ⟨rfl, os2, n2, rfl⟩))
    (refine bodyPost_ret (v := .tuple #[(brStep f).v, .int .i64 0]) (by simp [results, Tryd.results9, go_sem]) rfl ?_)
    exact ⟨by rw [HN.out, HE.out], EX⟩
end Go.Proofs.YtmbodooikfmegaaDoor
