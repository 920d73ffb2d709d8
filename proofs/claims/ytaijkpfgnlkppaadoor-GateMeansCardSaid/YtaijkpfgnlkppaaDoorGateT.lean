/- The walk of 'gate.After'. -/
import Derived.Test.YtaijkpfgnlkppaaDoorGateS
namespace Go.Proofs.YtaijkpfgnlkppaaDoor
open Go Go.RowKit

theorem gateSeek_any (c : Cfg) (f : Frm) (l : Cel) (hf : f.Fits) (hi : f.i < c.cap) (hc : c.cap ≤ 32) (hk : f.kind = 9 ∨ f.kind = 10 ∨ f.kind = 11) (w : World) : Calls Tryd.prog 27 #[c.v, f.v, l.v] w
    fun e w' => e = .returned (gateSeek c f l).v ∧ Ext w w' := by
  rcases hk with hk | hk | hk
  · exact gateSeek_9 c f l hf hi hc hk w
  · exact gateSeek_10 c f l hf hi hc hk w
  · exact gateSeek_11 c f l hf hi hc hk w

set_option maxHeartbeats 4000000 in
theorem gateAfter_any (c : Cfg) (f : Frm) (l : Cel) (hf : f.Fits) (w : World) (ht : Tab w) : Calls Tryd.prog 11 #[c.v, f.v, l.v] w
    fun e w' => e = .returned (.tuple #[(gateAfterA c f l).v, .int .i64 (gateErr c f)]) ∧ Ext w w' := by
  have HF := Lib.hid hf
  clear hf
  obtain ⟨E, hE⟩ : ∃ E, E = gateErr c f := ⟨_, rfl⟩
  have HG := Lib.hid hE
  cases h0 : (E == 0)
  · have HN := Lib.hid (gateAfter_no (c := c) (f := f) (l := l) (by rw [← hE]; exact h0))
    clear hE
    go_enter Tryd.func11, Tryd.ntmps11
    go_wp2_with (go_at_call 23; refine (gateCheck_any c f HF.out _ (Tab.ext ht (by repeat (first | with_reducible exact Ext.refl _ | with_reducible assumption | with_reducible refine Ext.alloc ?_ _ | with_reducible refine Ext.gr ?_ _ | with_reducible refine Ext.drewN ?_ _ | with_reducible refine Ext.drew ?_ | with_reducible refine Ext.setCell ?_ ?_ _ | with_reducible refine Ext.more ?_ _ _ | (show _ ≤ _; dsimp only; omega))))).mono ?_; rintro e w1 ⟨rfl, os1, n1, rfl⟩; rw [← HG.out])
    (refine bodyPost_ret (v := .tuple #[(zeroFrm).v, .int .i64 E]) (by simp [results, Tryd.results11, go_sem]) rfl ?_)
    exact ⟨by rw [HN.out, HG.out], (by repeat (first | with_reducible exact Ext.refl _ | with_reducible assumption | with_reducible refine Ext.alloc ?_ _ | with_reducible refine Ext.gr ?_ _ | with_reducible refine Ext.drewN ?_ _ | with_reducible refine Ext.drew ?_ | with_reducible refine Ext.setCell ?_ ?_ _ | with_reducible refine Ext.more ?_ _ _ | (show _ ≤ _; dsimp only; omega)))⟩
  · have HN := Lib.hid (gateAfter_yes (c := c) (f := f) (l := l) (by rw [← hE]; exact h0))
    have hok := gateErr_ok (by rw [← hE]; exact h0)
    have hm := gateMay_pc hok.2.2
    have hfs := gateMay_facts hok.2.2
    have hcap := partOk_cap hok.1
    have HI := Lib.hid (And.intro hfs.2.1 (And.intro hcap.2 (gateMay_kind hok.2.2 hok.1 (by simpa using hok.2.1))))
    have hE0 : E = 0 := by simpa using h0
    subst hE0
    clear hE hok hfs hcap h0
    cases hp0 : (f.pc == 0)
    · cases hp2 : (f.pc == 2)
      · have HS : Hid (gateBehind c f l = f) := by simp [Hid, gateBehind, hp0, hp2]
        clear hm
        go_enter Tryd.func11, Tryd.ntmps11
        go_wp2_with (go_at_call 23; refine (gateCheck_any c f HF.out _ (Tab.ext ht (by repeat (first | with_reducible exact Ext.refl _ | with_reducible assumption | with_reducible refine Ext.alloc ?_ _ | with_reducible refine Ext.gr ?_ _ | with_reducible refine Ext.drewN ?_ _ | with_reducible refine Ext.drew ?_ | with_reducible refine Ext.setCell ?_ ?_ _ | with_reducible refine Ext.more ?_ _ _ | (show _ ≤ _; dsimp only; omega))))).mono ?_; rintro e w1 ⟨rfl, os1, n1, rfl⟩; rw [← HG.out])
        (refine bodyPost_ret (v := .tuple #[f.v, .int .i64 0]) (by simp [results, Tryd.results11, go_sem]) rfl ?_)
        exact ⟨by rw [HN.out, ← HG.out, HS.out], (by repeat (first | with_reducible exact Ext.refl _ | with_reducible assumption | with_reducible refine Ext.alloc ?_ _ | with_reducible refine Ext.gr ?_ _ | with_reducible refine Ext.drewN ?_ _ | with_reducible refine Ext.drew ?_ | with_reducible refine Ext.setCell ?_ ?_ _ | with_reducible refine Ext.more ?_ _ _ | (show _ ≤ _; dsimp only; omega)))⟩
      · have HS : Hid (gateBehind c f l = { f with pc := 20 }) := by simp [Hid, gateBehind, hp0, hp2]
        clear hm
        go_enter Tryd.func11, Tryd.ntmps11
        go_wp2_with (go_at_call 23; refine (gateCheck_any c f HF.out _ (Tab.ext ht (by repeat (first | with_reducible exact Ext.refl _ | with_reducible assumption | with_reducible refine Ext.alloc ?_ _ | with_reducible refine Ext.gr ?_ _ | with_reducible refine Ext.drewN ?_ _ | with_reducible refine Ext.drew ?_ | with_reducible refine Ext.setCell ?_ ?_ _ | with_reducible refine Ext.more ?_ _ _ | (show _ ≤ _; dsimp only; omega))))).mono ?_; rintro e w1 ⟨rfl, os1, n1, rfl⟩; rw [← HG.out])
        (refine bodyPost_ret (v := .tuple #[(Frm.mk f.kind f.a f.b 20 f.i f.j f.n f.p f.h f.x f.y).v, .int .i64 0]) (by simp [results, Tryd.results11, go_sem]) rfl ?_)
        exact ⟨by rw [HN.out, ← HG.out, HS.out], (by repeat (first | with_reducible exact Ext.refl _ | with_reducible assumption | with_reducible refine Ext.alloc ?_ _ | with_reducible refine Ext.gr ?_ _ | with_reducible refine Ext.drewN ?_ _ | with_reducible refine Ext.drew ?_ | with_reducible refine Ext.setCell ?_ ?_ _ | with_reducible refine Ext.more ?_ _ _ | (show _ ≤ _; dsimp only; omega)))⟩
    · have HS : Hid (gateBehind c f l = gateSeek c f l) := by simp [Hid, gateBehind, hp0]
      clear hm
      go_enter Tryd.func11, Tryd.ntmps11
      go_wp2_with (first | (go_at_call 23; refine (gateCheck_any c f HF.out _ (Tab.ext ht (by repeat (first | with_reducible exact Ext.refl _ | with_reducible assumption | with_reducible refine Ext.alloc ?_ _ | with_reducible refine Ext.gr ?_ _ | with_reducible refine Ext.drewN ?_ _ | with_reducible refine Ext.drew ?_ | with_reducible refine Ext.setCell ?_ ?_ _ | with_reducible refine Ext.more ?_ _ _ | (show _ ≤ _; dsimp only; omega))))).mono ?_; rintro e w1 ⟨rfl, os1, n1, rfl⟩; rw [← HG.out]) | (go_at_call 27; refine (gateSeek_any c f l HF.out HI.out.1 HI.out.2.1 HI.out.2.2 _).mono ?_; rintro e w2 ⟨rfl, os2, n2, rfl⟩))
      (refine bodyPost_ret (v := .tuple #[(gateSeek c f l).v, .int .i64 0]) (by simp [results, Tryd.results11, go_sem]) rfl ?_)
      exact ⟨by rw [HN.out, ← HG.out, HS.out], (by repeat (first | with_reducible exact Ext.refl _ | with_reducible assumption | with_reducible refine Ext.alloc ?_ _ | with_reducible refine Ext.gr ?_ _ | with_reducible refine Ext.drewN ?_ _ | with_reducible refine Ext.drew ?_ | with_reducible refine Ext.setCell ?_ ?_ _ | with_reducible refine Ext.more ?_ _ _ | (show _ ≤ _; dsimp only; omega)))⟩
end Go.Proofs.YtaijkpfgnlkppaaDoor
