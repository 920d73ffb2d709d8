/- The walks of the layer 'gate', as far as 'Next'. -/
import Derived.Test.YtmhmaifmendebaaGreatDoorA4
import Derived.Test.YtmhmaifmendebaaGreatDoorA1
import Derived.Deep.Light
namespace Go.Proofs.YtmhmaifmendebaaGreatDoor.gate
open Go Go.RowKit
set_option maxRecDepth 100000
set_option maxHeartbeats 8000000

theorem gateMay_any (c : Cfg) (f : Frm) (hf : f.Fits) (w : World) (ht : Tab w) : Calls Tryz.prog 93 #[c.v, f.v] w
    fun e w' => e = .returned (.bool (gateMay c f)) ∧ Ext w w' := by
  have ho := gateOp_fits hf
  obtain ⟨⟨k0, k1⟩, _, _, ⟨p0, p1⟩, ⟨i0, i1⟩, ⟨j0, j1⟩, _, _, ⟨q0, q1⟩, _, _⟩ := hf
  obtain ⟨E, hE⟩ : ∃ E, E = opErr c (gateOp f) := ⟨_, rfl⟩
  have HM : Hid (gateMay c f = (E == 0 && decide (f.i < c.cap) && decide (f.j < c.cap) && decide (f.h ≤ 1) && gatePc f)) := by rw [hE]; rfl
  cases hk : (f.kind == 9)
  · have hg : gateOp f = ⟨f.kind, f.a, f.b, 0⟩ := by simp [gateOp, hk]
    rw [hg] at ho hE
    have HO := Lib.hid ho
    have HE := Lib.hid hE
    clear ho hE hg
    go_enter Tryz.func93, Tryz.ntmps93
    go_wp2_with (go_at_call 115; refine (opCheck_any c ⟨f.kind, f.a, f.b, 0⟩ HO.out _ (Tab.ext ht EX)).mono ?_; rintro e w1 ⟨rfl, os1, n1, rfl⟩; rw [← HE.out];)
    all_goals (go_ret; refine ⟨ret_bool ?_, EX⟩)
    all_goals (go_light; rw [HM.out, Bool.eq_iff_iff]; clear HM HO HE; simp only [gatePc]; simp at * <;> omega)
  · have hg : gateOp f = ⟨f.kind, f.a, f.b, f.y⟩ := by simp [gateOp, hk]
    rw [hg] at ho hE
    have HO := Lib.hid ho
    have HE := Lib.hid hE
    clear ho hE hg
    go_enter Tryz.func93, Tryz.ntmps93
    go_wp2_with (go_at_call 115; refine (opCheck_any c ⟨f.kind, f.a, f.b, f.y⟩ HO.out _ (Tab.ext ht EX)).mono ?_; rintro e w1 ⟨rfl, os1, n1, rfl⟩; rw [← HE.out];)
    all_goals (go_ret; refine ⟨ret_bool ?_, EX⟩)
    all_goals (go_light; rw [HM.out, Bool.eq_iff_iff]; clear HM HO HE; simp only [gatePc]; simp at * <;> omega)

theorem gateCheck_any (c : Cfg) (f : Frm) (hf : f.Fits) (w : World) (ht : Tab w) : Calls Tryz.prog 46 #[c.v, f.v] w
    fun e w' => e = .returned (.int .i64 (gateErr c f)) ∧ Ext w w' := by
  have HF := Lib.hid hf
  clear hf
  cases hp : partOk c
  · have HE := Lib.hid (gateErr_conf (f := f) hp)
    have HC := Lib.hid (conf_no hp)
    clear hp
    go_enter Tryz.func46, Tryz.ntmps46
    go_wp2_with (go_at_call 9; refine (partCheck_any c _).mono ?_; rintro e w1 ⟨rfl, os1, n1, rfl⟩; rw [HC.out];)
    go_ret
    exact ⟨ret_int HE.out.symm, EX⟩
  · have HC := Lib.hid (conf_ok hp)
    cases h2 : (c.object == 3)
    · have HE := Lib.hid (gateErr_obj (f := f) h2)
      clear hp
      go_enter Tryz.func46, Tryz.ntmps46
      go_wp2_with (go_at_call 9; refine (partCheck_any c _).mono ?_; rintro e w1 ⟨rfl, os1, n1, rfl⟩; rw [HC.out];)
      go_ret
      exact ⟨ret_int HE.out.symm, EX⟩
    · cases h3 : gateMay c f
      · have HE := Lib.hid (gateErr_arg hp h2 h3)
        have HM := Lib.hid h3
        clear hp h3
        go_enter Tryz.func46, Tryz.ntmps46
        go_wp2_with (first | (go_at_call 9; refine (partCheck_any c _).mono ?_; rintro e w1 ⟨rfl, os1, n1, rfl⟩; rw [HC.out];) | (go_at_call 93; refine (gateMay_any c f HF.out _ (Tab.ext ht EX)).mono ?_; rintro e w2 ⟨rfl, os2, n2, rfl⟩; rw [HM.out];))
        go_ret
        exact ⟨ret_int HE.out.symm, EX⟩
      · have HE := Lib.hid (gateErr_yes hp h2 h3)
        have HM := Lib.hid h3
        clear hp h3
        go_enter Tryz.func46, Tryz.ntmps46
        go_wp2_with (first | (go_at_call 9; refine (partCheck_any c _).mono ?_; rintro e w1 ⟨rfl, os1, n1, rfl⟩; rw [HC.out];) | (go_at_call 93; refine (gateMay_any c f HF.out _ (Tab.ext ht EX)).mono ?_; rintro e w2 ⟨rfl, os2, n2, rfl⟩; rw [HM.out];))
        go_ret
        exact ⟨ret_int HE.out.symm, EX⟩

theorem gateNext_any (c : Cfg) (f : Frm) (hf : f.Fits) (w : World) (ht : Tab w) : Calls Tryz.prog 24 #[c.v, f.v] w
    fun e w' => e = .returned (.tuple #[(gateNextA c f).v, .int .i64 (gateErr c f)]) ∧ Ext w w' := by
  have HF := Lib.hid hf
  obtain ⟨⟨k0, k1⟩, _, _, ⟨p0, p1⟩, ⟨i0, i1⟩, ⟨j0, j1⟩, _, _, ⟨q0, q1⟩, _, _⟩ := hf
  obtain ⟨E, hE⟩ : ∃ E, E = gateErr c f := ⟨_, rfl⟩
  have HG := Lib.hid hE
  cases h0 : (E == 0)
  · have HN := Lib.hid (gateNext_no (c := c) (f := f) (by rw [← hE]; exact h0))
    clear hE
    go_enter Tryz.func24, Tryz.ntmps24
    go_wp2_with (go_at_call 46; refine (gateCheck_any c f HF.out _ (Tab.ext ht EX)).mono ?_; rintro e w1 ⟨rfl, os1, n1, rfl⟩; rw [← HG.out];)
    (refine bodyPost_ret (v := .tuple #[(zeroAct).v, .int .i64 E]) (by simp [results, Tryz.results24, go_sem]) rfl ?_)
    exact ⟨by rw [HN.out, HG.out], EX⟩
  · have HN := Lib.hid (gateNext_yes (c := c) (f := f) (by rw [← hE]; exact h0))
    have hm := gateMay_pc (gateErr_ok (by rw [← hE]; exact h0)).2.2
    have hE0 : E = 0 := by simpa using h0
    subst hE0
    clear hE
    rcases hm with hm | hm | hm | hm | hm
    · have HS : Hid (gateStep f = ⟨1, f.i, 0, 0, 0, 0, 0⟩) := by simp [Hid, gateStep, hm]
      have hm' : (f.pc == 0) = true := by simpa using hm
      clear hm
      go_enter Tryz.func24, Tryz.ntmps24
      go_wp2_with (go_at_call 46; refine (gateCheck_any c f HF.out _ (Tab.ext ht EX)).mono ?_; rintro e w1 ⟨rfl, os1, n1, rfl⟩; rw [← HG.out];)
      (refine bodyPost_ret (v := .tuple #[(Actn.mk 1 f.i 0 0 0 0 0).v, .int .i64 0]) (by simp [results, Tryz.results24, go_sem]) rfl ?_)
      exact ⟨by rw [HN.out, ← HG.out, HS.out], EX⟩
    · have HS : Hid (gateStep f = ⟨4, 0, 0, 0, 0, 0, f.x⟩) := by simp [Hid, gateStep, hm]
      have hm' : (f.pc == 20) = true := by simpa using hm
      clear hm
      go_enter Tryz.func24, Tryz.ntmps24
      go_wp2_with (go_at_call 46; refine (gateCheck_any c f HF.out _ (Tab.ext ht EX)).mono ?_; rintro e w1 ⟨rfl, os1, n1, rfl⟩; rw [← HG.out];)
      (refine bodyPost_ret (v := .tuple #[(Actn.mk 4 0 0 0 0 0 f.x).v, .int .i64 0]) (by simp [results, Tryz.results24, go_sem]) rfl ?_)
      exact ⟨by rw [HN.out, ← HG.out, HS.out], EX⟩
    · cases hk : (f.kind == 9)
      · have HS : Hid (gateStep f = ⟨2, f.j, 0, 0, 0, 0, 0⟩) := by simp [Hid, gateStep, hm, hk]
        have hm' : (f.pc == 2) = true := by simpa using hm.1
        clear hm
        go_enter Tryz.func24, Tryz.ntmps24
        go_wp2_with (go_at_call 46; refine (gateCheck_any c f HF.out _ (Tab.ext ht EX)).mono ?_; rintro e w1 ⟨rfl, os1, n1, rfl⟩; rw [← HG.out];)
        (refine bodyPost_ret (v := .tuple #[(Actn.mk 2 f.j 0 0 0 0 0).v, .int .i64 0]) (by simp [results, Tryz.results24, go_sem]) rfl ?_)
        exact ⟨by rw [HN.out, ← HG.out, HS.out], EX⟩
      · have HS : Hid (gateStep f = ⟨2, f.j, f.y, f.a, f.b, 0, 0⟩) := by simp [Hid, gateStep, hm, hk]
        have hm' : (f.pc == 2) = true := by simpa using hm.1
        clear hm
        go_enter Tryz.func24, Tryz.ntmps24
        go_wp2_with (go_at_call 46; refine (gateCheck_any c f HF.out _ (Tab.ext ht EX)).mono ?_; rintro e w1 ⟨rfl, os1, n1, rfl⟩; rw [← HG.out];)
        go_region
        all_goals go_wp2
        all_goals (refine bodyPost_ret (v := .tuple #[(Actn.mk 2 f.j f.y f.a f.b 0 0).v, .int .i64 0]) (by simp [results, Tryz.results24, go_sem]) rfl ?_)
        all_goals exact ⟨by rw [HN.out, ← HG.out, HS.out], EX⟩
    · have HS : Hid (gateStep f = ⟨4, 0, 0, 0, 0, 6, 0⟩) := by simp [Hid, gateStep, hm]
      have hm' : (f.pc == 21) = true := by simpa using hm.1
      clear hm
      go_enter Tryz.func24, Tryz.ntmps24
      go_wp2_with (go_at_call 46; refine (gateCheck_any c f HF.out _ (Tab.ext ht EX)).mono ?_; rintro e w1 ⟨rfl, os1, n1, rfl⟩; rw [← HG.out];)
      (refine bodyPost_ret (v := .tuple #[(Actn.mk 4 0 0 0 0 6 0).v, .int .i64 0]) (by simp [results, Tryz.results24, go_sem]) rfl ?_)
      exact ⟨by rw [HN.out, ← HG.out, HS.out], EX⟩
    · have HS : Hid (gateStep f = ⟨4, 0, 0, 0, 0, 9, 0⟩) := by simp [Hid, gateStep, hm]
      have hm' : (f.pc == 22) = true := by simpa using hm.1
      clear hm
      go_enter Tryz.func24, Tryz.ntmps24
      go_wp2_with (go_at_call 46; refine (gateCheck_any c f HF.out _ (Tab.ext ht EX)).mono ?_; rintro e w1 ⟨rfl, os1, n1, rfl⟩; rw [← HG.out];)
      (refine bodyPost_ret (v := .tuple #[(Actn.mk 4 0 0 0 0 9 0).v, .int .i64 0]) (by simp [results, Tryz.results24, go_sem]) rfl ?_)
      exact ⟨by rw [HN.out, ← HG.out, HS.out], EX⟩
end Go.Proofs.YtmhmaifmendebaaGreatDoor.gate
/- The walks of the reference of layer 'gate', as far as 'Next'. -/
namespace Go.Proofs.YtmhmaifmendebaaGreatDoor.gate
open Go Go.RowKit
set_option maxRecDepth 100000
set_option maxHeartbeats 8000000

theorem gateMayR_any (c : Cfg) (f : Frm) (hf : f.Fits) (w : World) : Calls Tryz.prog 34 #[c.v, f.v] w
    fun e w' => e = .returned (.bool (gateMay c f)) ∧ Ext w w' := by
  have ho := gateOp_fits hf
  obtain ⟨⟨k0, k1⟩, _, _, ⟨p0, p1⟩, ⟨i0, i1⟩, ⟨j0, j1⟩, _, _, ⟨q0, q1⟩, _, _⟩ := hf
  obtain ⟨E, hE⟩ : ∃ E, E = opErr c (gateOp f) := ⟨_, rfl⟩
  have HM : Hid (gateMay c f = (E == 0 && decide (f.i < c.cap) && decide (f.j < c.cap) && decide (f.h ≤ 1) && gatePc f)) := by rw [hE]; rfl
  cases hk : (f.kind == 9)
  · have hg : gateOp f = ⟨f.kind, f.a, f.b, 0⟩ := by simp [gateOp, hk]
    rw [hg] at ho hE
    have HO := Lib.hid ho
    have HE := Lib.hid hE
    clear ho hE hg
    go_enter Tryz.func34, Tryz.ntmps34
    go_wp2_with (go_at_call 52; refine (opCheckR_any c ⟨f.kind, f.a, f.b, 0⟩ HO.out _).mono ?_; rintro e w1 ⟨rfl, os1, n1, rfl⟩; rw [← HE.out];)
    all_goals (go_ret; refine ⟨ret_bool ?_, EX⟩)
    all_goals (go_light; rw [HM.out, Bool.eq_iff_iff]; clear HM HO HE; simp only [gatePc]; simp at * <;> omega)
  · have hg : gateOp f = ⟨f.kind, f.a, f.b, f.y⟩ := by simp [gateOp, hk]
    rw [hg] at ho hE
    have HO := Lib.hid ho
    have HE := Lib.hid hE
    clear ho hE hg
    go_enter Tryz.func34, Tryz.ntmps34
    go_wp2_with (go_at_call 52; refine (opCheckR_any c ⟨f.kind, f.a, f.b, f.y⟩ HO.out _).mono ?_; rintro e w1 ⟨rfl, os1, n1, rfl⟩; rw [← HE.out];)
    all_goals (go_ret; refine ⟨ret_bool ?_, EX⟩)
    all_goals (go_light; rw [HM.out, Bool.eq_iff_iff]; clear HM HO HE; simp only [gatePc]; simp at * <;> omega)

theorem gateStepR_any (f : Frm) (hf : f.Fits) (hm : f.pc = 0 ∨ f.pc = 20 ∨ (f.pc = 2 ∧ f.kind ≠ 11) ∨ (f.pc = 21 ∧ f.kind = 10) ∨ (f.pc = 22 ∧ f.kind = 9)) (w : World) : Calls Tryz.prog 35 #[f.v] w
    fun e w' => e = .returned (gateStep f).v ∧ Ext w w' := by
  obtain ⟨⟨k0, k1⟩, ⟨a0, a1⟩, ⟨b0, b1⟩, ⟨p0, p1⟩, ⟨i0, i1⟩, ⟨j0, j1⟩, _, _, ⟨q0, q1⟩, _, ⟨y0, y1⟩⟩ := hf
  rcases hm with hm | hm | hm | hm | hm
  · have HS : Hid (gateStep f = ⟨1, f.i, 0, 0, 0, 0, 0⟩) := by simp [Hid, gateStep, hm]
    have hm' : (f.pc == 0) = true := by simpa using hm
    clear hm
    go_enter Tryz.func35, Tryz.ntmps35
    go_wp2
    (refine bodyPost_ret (v := (Actn.mk 1 f.i 0 0 0 0 0).v) (by simp [results, Tryz.results35, go_sem]) rfl ?_)
    exact ⟨by rw [HS.out], EX⟩
  · have HS : Hid (gateStep f = ⟨4, 0, 0, 0, 0, 0, f.x⟩) := by simp [Hid, gateStep, hm]
    have hm' : (f.pc == 20) = true := by simpa using hm
    clear hm
    go_enter Tryz.func35, Tryz.ntmps35
    go_wp2
    (refine bodyPost_ret (v := (Actn.mk 4 0 0 0 0 0 f.x).v) (by simp [results, Tryz.results35, go_sem]) rfl ?_)
    exact ⟨by rw [HS.out], EX⟩
  · cases hk : (f.kind == 9)
    · have HS : Hid (gateStep f = ⟨2, f.j, 0, 0, 0, 0, 0⟩) := by simp [Hid, gateStep, hm, hk]
      have hm' : (f.pc == 2) = true := by simpa using hm.1
      clear hm
      go_enter Tryz.func35, Tryz.ntmps35
      go_wp2
      (refine bodyPost_ret (v := (Actn.mk 2 f.j 0 0 0 0 0).v) (by simp [results, Tryz.results35, go_sem]) rfl ?_)
      exact ⟨by rw [HS.out], EX⟩
    · have HS : Hid (gateStep f = ⟨2, f.j, f.y, f.a, f.b, 0, 0⟩) := by simp [Hid, gateStep, hm, hk]
      have hm' : (f.pc == 2) = true := by simpa using hm.1
      clear hm
      go_enter Tryz.func35, Tryz.ntmps35
      go_wp2
      (refine bodyPost_ret (v := (Actn.mk 2 f.j f.y f.a f.b 0 0).v) (by simp [results, Tryz.results35, go_sem]) rfl ?_)
      exact ⟨by rw [HS.out], EX⟩
  · have HS : Hid (gateStep f = ⟨4, 0, 0, 0, 0, 6, 0⟩) := by simp [Hid, gateStep, hm]
    have hm' : (f.pc == 21) = true := by simpa using hm.1
    clear hm
    go_enter Tryz.func35, Tryz.ntmps35
    go_wp2
    (refine bodyPost_ret (v := (Actn.mk 4 0 0 0 0 6 0).v) (by simp [results, Tryz.results35, go_sem]) rfl ?_)
    exact ⟨by rw [HS.out], EX⟩
  · have HS : Hid (gateStep f = ⟨4, 0, 0, 0, 0, 9, 0⟩) := by simp [Hid, gateStep, hm]
    have hm' : (f.pc == 22) = true := by simpa using hm.1
    clear hm
    go_enter Tryz.func35, Tryz.ntmps35
    go_wp2
    (refine bodyPost_ret (v := (Actn.mk 4 0 0 0 0 9 0).v) (by simp [results, Tryz.results35, go_sem]) rfl ?_)
    exact ⟨by rw [HS.out], EX⟩

theorem gateNextR_any (c : Cfg) (f : Frm) (hf : f.Fits) (w : World) : Calls Tryz.prog 14 #[c.v, f.v] w
    fun e w' => e = .returned (.tuple #[(gateNextA c f).v, .int .i64 (gateErr c f)]) ∧ Ext w w' := by
  have HF := Lib.hid hf
  clear hf
  cases hp : partOk c
  · have HG := Lib.hid (gateErr_conf (f := f) hp)
    have HN := Lib.hid (gateNext_no (c := c) (f := f) (by rw [HG.out]; rfl))
    have HC := Lib.hid hp
    clear hp
    go_enter Tryz.func14, Tryz.ntmps14
    go_wp2_with (go_at_call 11; refine (mayBe_any c _).mono ?_; rintro e w1 ⟨rfl, os1, n1, rfl⟩; rw [HC.out])
    (refine bodyPost_ret (v := .tuple #[(zeroAct).v, .int .i64 40]) (by simp [results, Tryz.results14, go_sem]) rfl ?_)
    exact ⟨by rw [HN.out, HG.out], EX⟩
  · have HC := Lib.hid hp
    cases h2 : (c.object == 3)
    · have HG := Lib.hid (gateErr_obj (f := f) h2)
      have HN := Lib.hid (gateNext_no (c := c) (f := f) (by rw [HG.out]; rfl))
      clear hp
      go_enter Tryz.func14, Tryz.ntmps14
      go_wp2_with (go_at_call 11; refine (mayBe_any c _).mono ?_; rintro e w1 ⟨rfl, os1, n1, rfl⟩; rw [HC.out])
      (refine bodyPost_ret (v := .tuple #[(zeroAct).v, .int .i64 40]) (by simp [results, Tryz.results14, go_sem]) rfl ?_)
      exact ⟨by rw [HN.out, HG.out], EX⟩
    · cases h3 : gateMay c f
      · have HG := Lib.hid (gateErr_arg hp h2 h3)
        have HN := Lib.hid (gateNext_no (c := c) (f := f) (by rw [HG.out]; rfl))
        have HM := Lib.hid h3
        clear hp h3
        go_enter Tryz.func14, Tryz.ntmps14
        go_wp2_with (first | (go_at_call 11; refine (mayBe_any c _).mono ?_; rintro e w1 ⟨rfl, os1, n1, rfl⟩; rw [HC.out]) | (go_at_call 34; refine (gateMayR_any c f HF.out _).mono ?_; rintro e w2 ⟨rfl, os2, n2, rfl⟩; rw [HM.out]))
        (refine bodyPost_ret (v := .tuple #[(zeroAct).v, .int .i64 2]) (by simp [results, Tryz.results14, go_sem]) rfl ?_)
        exact ⟨by rw [HN.out, HG.out], EX⟩
      · have HG := Lib.hid (gateErr_yes hp h2 h3)
        have HN := Lib.hid (gateNext_yes (c := c) (f := f) (by rw [HG.out]; rfl))
        have HM := Lib.hid h3
        have HP := Lib.hid (gateMay_pc h3)
        clear hp h3
        go_enter Tryz.func14, Tryz.ntmps14
        go_wp2_with (first | (go_at_call 11; refine (mayBe_any c _).mono ?_; rintro e w1 ⟨rfl, os1, n1, rfl⟩; rw [HC.out]) | (go_at_call 34; refine (gateMayR_any c f HF.out _).mono ?_; rintro e w2 ⟨rfl, os2, n2, rfl⟩; rw [HM.out]) | (go_at_call 35; refine (gateStepR_any f HF.out HP.out _).mono ?_; rintro e w3 ⟨rfl, os3, n3, rfl⟩))
        (refine bodyPost_ret (v := .tuple #[(gateStep f).v, .int .i64 0]) (by simp [results, Tryz.results14, go_sem]) rfl ?_)
        exact ⟨by rw [HN.out, HG.out], EX⟩
end Go.Proofs.YtmhmaifmendebaaGreatDoor.gate
