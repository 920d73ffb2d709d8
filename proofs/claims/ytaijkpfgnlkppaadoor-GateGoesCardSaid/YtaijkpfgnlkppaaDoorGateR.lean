/- The walks of the reference of layer 'gate', as far as 'Next'. -/
import Derived.Test.YtaijkpfgnlkppaaDoorCheckR
import Derived.Test.YtaijkpfgnlkppaaDoorGateP
import Derived.Deep.Light
namespace Go.Proofs.YtaijkpfgnlkppaaDoor
open Go Go.RowKit

set_option maxHeartbeats 4000000 in
theorem gateMayR_any (c : Cfg) (f : Frm) (hf : f.Fits) (w : World) : Calls Tryd.prog 25 #[c.v, f.v] w
    fun e w' => e = .returned (.bool (gateMay c f)) ∧ Ext w w' := by
  have ho := gateOp_fits hf
  obtain ⟨⟨k0, k1⟩, _, _, ⟨p0, p1⟩, ⟨i0, i1⟩, ⟨j0, j1⟩, _, _, ⟨q0, q1⟩, _, _⟩ := hf
  obtain ⟨E, hE⟩ : ∃ E, E = opErr c (gateOp f) := ⟨_, rfl⟩
  have HM : Hid (gateMay c f = (E == 0 && decide (f.i < c.cap) && decide (f.j < c.cap) && decide (f.h ≤ 1) && gatePc f)) := by rw [hE]; rfl
  cases hk : (f.kind == 9)
  · have hg : gateOp f = ⟨f.kind, f.a, f.b, 0⟩ := by simp [gateOp, hk]
    rw [hg] at ho hE
    have HO := Lib.hid ho
    have HE := Lib.hid hE
    clear ho hE hg
    go_enter Tryd.func25, Tryd.ntmps25
    go_wp2_with (go_at_call 46; refine (opCheckR_any c ⟨f.kind, f.a, f.b, 0⟩ HO.out _).mono ?_; rintro e w1 ⟨rfl, os1, n1, rfl⟩; rw [← HE.out];)
    all_goals (go_ret; refine ⟨ret_bool ?_, (by repeat (first | with_reducible exact Ext.refl _ | with_reducible assumption | with_reducible refine Ext.alloc ?_ _ | with_reducible refine Ext.drewN ?_ _ | with_reducible refine Ext.drew ?_ | with_reducible refine Ext.setCell ?_ ?_ _ | with_reducible refine Ext.more ?_ _ _ | (show _ ≤ _; dsimp only; omega)))⟩)
    all_goals (go_light; rw [HM.out, Bool.eq_iff_iff]; clear HM HO HE; simp only [gatePc]; simp at * <;> omega)
  · have hg : gateOp f = ⟨f.kind, f.a, f.b, f.y⟩ := by simp [gateOp, hk]
    rw [hg] at ho hE
    have HO := Lib.hid ho
    have HE := Lib.hid hE
    clear ho hE hg
    go_enter Tryd.func25, Tryd.ntmps25
    go_wp2_with (go_at_call 46; refine (opCheckR_any c ⟨f.kind, f.a, f.b, f.y⟩ HO.out _).mono ?_; rintro e w1 ⟨rfl, os1, n1, rfl⟩; rw [← HE.out];)
    all_goals (go_ret; refine ⟨ret_bool ?_, (by repeat (first | with_reducible exact Ext.refl _ | with_reducible assumption | with_reducible refine Ext.alloc ?_ _ | with_reducible refine Ext.drewN ?_ _ | with_reducible refine Ext.drew ?_ | with_reducible refine Ext.setCell ?_ ?_ _ | with_reducible refine Ext.more ?_ _ _ | (show _ ≤ _; dsimp only; omega)))⟩)
    all_goals (go_light; rw [HM.out, Bool.eq_iff_iff]; clear HM HO HE; simp only [gatePc]; simp at * <;> omega)

set_option maxHeartbeats 4000000 in
theorem gateStepR_any (f : Frm) (hf : f.Fits) (hm : f.pc = 0 ∨ f.pc = 20 ∨ (f.pc = 2 ∧ f.kind ≠ 11) ∨ (f.pc = 21 ∧ f.kind = 10) ∨ (f.pc = 22 ∧ f.kind = 9)) (w : World) : Calls Tryd.prog 26 #[f.v] w
    fun e w' => e = .returned (gateStep f).v ∧ Ext w w' := by
  obtain ⟨⟨k0, k1⟩, ⟨a0, a1⟩, ⟨b0, b1⟩, ⟨p0, p1⟩, ⟨i0, i1⟩, ⟨j0, j1⟩, _, _, ⟨q0, q1⟩, _, ⟨y0, y1⟩⟩ := hf
  rcases hm with hm | hm | hm | hm | hm
  · have HS : Hid (gateStep f = ⟨1, f.i, 0, 0, 0, 0, 0⟩) := by simp [Hid, gateStep, hm]
    have hm' : (f.pc == 0) = true := by simpa using hm
    clear hm
    go_enter Tryd.func26, Tryd.ntmps26
    go_wp2
    (refine bodyPost_ret (v := (Actn.mk 1 f.i 0 0 0 0 0).v) (by simp [results, Tryd.results26, go_sem]) rfl ?_)
    exact ⟨by rw [HS.out], (by repeat (first | with_reducible exact Ext.refl _ | with_reducible assumption | with_reducible refine Ext.alloc ?_ _ | with_reducible refine Ext.drewN ?_ _ | with_reducible refine Ext.drew ?_ | with_reducible refine Ext.setCell ?_ ?_ _ | with_reducible refine Ext.more ?_ _ _ | (show _ ≤ _; dsimp only; omega)))⟩
  · have HS : Hid (gateStep f = ⟨4, 0, 0, 0, 0, 0, f.x⟩) := by simp [Hid, gateStep, hm]
    have hm' : (f.pc == 20) = true := by simpa using hm
    clear hm
    go_enter Tryd.func26, Tryd.ntmps26
    go_wp2
    (refine bodyPost_ret (v := (Actn.mk 4 0 0 0 0 0 f.x).v) (by simp [results, Tryd.results26, go_sem]) rfl ?_)
    exact ⟨by rw [HS.out], (by repeat (first | with_reducible exact Ext.refl _ | with_reducible assumption | with_reducible refine Ext.alloc ?_ _ | with_reducible refine Ext.drewN ?_ _ | with_reducible refine Ext.drew ?_ | with_reducible refine Ext.setCell ?_ ?_ _ | with_reducible refine Ext.more ?_ _ _ | (show _ ≤ _; dsimp only; omega)))⟩
  · cases hk : (f.kind == 9)
    · have HS : Hid (gateStep f = ⟨2, f.j, 0, 0, 0, 0, 0⟩) := by simp [Hid, gateStep, hm, hk]
      have hm' : (f.pc == 2) = true := by simpa using hm.1
      clear hm
      go_enter Tryd.func26, Tryd.ntmps26
      go_wp2
      (refine bodyPost_ret (v := (Actn.mk 2 f.j 0 0 0 0 0).v) (by simp [results, Tryd.results26, go_sem]) rfl ?_)
      exact ⟨by rw [HS.out], (by repeat (first | with_reducible exact Ext.refl _ | with_reducible assumption | with_reducible refine Ext.alloc ?_ _ | with_reducible refine Ext.drewN ?_ _ | with_reducible refine Ext.drew ?_ | with_reducible refine Ext.setCell ?_ ?_ _ | with_reducible refine Ext.more ?_ _ _ | (show _ ≤ _; dsimp only; omega)))⟩
    · have HS : Hid (gateStep f = ⟨2, f.j, f.y, f.a, f.b, 0, 0⟩) := by simp [Hid, gateStep, hm, hk]
      have hm' : (f.pc == 2) = true := by simpa using hm.1
      clear hm
      go_enter Tryd.func26, Tryd.ntmps26
      go_wp2
      (refine bodyPost_ret (v := (Actn.mk 2 f.j f.y f.a f.b 0 0).v) (by simp [results, Tryd.results26, go_sem]) rfl ?_)
      exact ⟨by rw [HS.out], (by repeat (first | with_reducible exact Ext.refl _ | with_reducible assumption | with_reducible refine Ext.alloc ?_ _ | with_reducible refine Ext.drewN ?_ _ | with_reducible refine Ext.drew ?_ | with_reducible refine Ext.setCell ?_ ?_ _ | with_reducible refine Ext.more ?_ _ _ | (show _ ≤ _; dsimp only; omega)))⟩
  · have HS : Hid (gateStep f = ⟨4, 0, 0, 0, 0, 6, 0⟩) := by simp [Hid, gateStep, hm]
    have hm' : (f.pc == 21) = true := by simpa using hm.1
    clear hm
    go_enter Tryd.func26, Tryd.ntmps26
    go_wp2
    (refine bodyPost_ret (v := (Actn.mk 4 0 0 0 0 6 0).v) (by simp [results, Tryd.results26, go_sem]) rfl ?_)
    exact ⟨by rw [HS.out], (by repeat (first | with_reducible exact Ext.refl _ | with_reducible assumption | with_reducible refine Ext.alloc ?_ _ | with_reducible refine Ext.drewN ?_ _ | with_reducible refine Ext.drew ?_ | with_reducible refine Ext.setCell ?_ ?_ _ | with_reducible refine Ext.more ?_ _ _ | (show _ ≤ _; dsimp only; omega)))⟩
  · have HS : Hid (gateStep f = ⟨4, 0, 0, 0, 0, 9, 0⟩) := by simp [Hid, gateStep, hm]
    have hm' : (f.pc == 22) = true := by simpa using hm.1
    clear hm
    go_enter Tryd.func26, Tryd.ntmps26
    go_wp2
    (refine bodyPost_ret (v := (Actn.mk 4 0 0 0 0 9 0).v) (by simp [results, Tryd.results26, go_sem]) rfl ?_)
    exact ⟨by rw [HS.out], (by repeat (first | with_reducible exact Ext.refl _ | with_reducible assumption | with_reducible refine Ext.alloc ?_ _ | with_reducible refine Ext.drewN ?_ _ | with_reducible refine Ext.drew ?_ | with_reducible refine Ext.setCell ?_ ?_ _ | with_reducible refine Ext.more ?_ _ _ | (show _ ≤ _; dsimp only; omega)))⟩

set_option maxHeartbeats 4000000 in
theorem gateNextR_any (c : Cfg) (f : Frm) (hf : f.Fits) (w : World) : Calls Tryd.prog 10 #[c.v, f.v] w
    fun e w' => e = .returned (.tuple #[(gateNextA c f).v, .int .i64 (gateErr c f)]) ∧ Ext w w' := by
  have HF := Lib.hid hf
  clear hf
  cases hp : partOk c
  · have HG := Lib.hid (gateErr_conf (f := f) hp)
    have HN := Lib.hid (gateNext_no (c := c) (f := f) (by rw [HG.out]; rfl))
    have HC := Lib.hid hp
    clear hp
    go_enter Tryd.func10, Tryd.ntmps10
    go_wp2_with (go_at_call 24; refine (mayBe_any c _).mono ?_; rintro e w1 ⟨rfl, os1, n1, rfl⟩; rw [HC.out])
    (refine bodyPost_ret (v := .tuple #[(zeroAct).v, .int .i64 40]) (by simp [results, Tryd.results10, go_sem]) rfl ?_)
    exact ⟨by rw [HN.out, HG.out], (by repeat (first | with_reducible exact Ext.refl _ | with_reducible assumption | with_reducible refine Ext.alloc ?_ _ | with_reducible refine Ext.drewN ?_ _ | with_reducible refine Ext.drew ?_ | with_reducible refine Ext.setCell ?_ ?_ _ | with_reducible refine Ext.more ?_ _ _ | (show _ ≤ _; dsimp only; omega)))⟩
  · have HC := Lib.hid hp
    cases h2 : (c.object == 3)
    · have HG := Lib.hid (gateErr_obj (f := f) h2)
      have HN := Lib.hid (gateNext_no (c := c) (f := f) (by rw [HG.out]; rfl))
      clear hp
      go_enter Tryd.func10, Tryd.ntmps10
      go_wp2_with (go_at_call 24; refine (mayBe_any c _).mono ?_; rintro e w1 ⟨rfl, os1, n1, rfl⟩; rw [HC.out])
      (refine bodyPost_ret (v := .tuple #[(zeroAct).v, .int .i64 40]) (by simp [results, Tryd.results10, go_sem]) rfl ?_)
      exact ⟨by rw [HN.out, HG.out], (by repeat (first | with_reducible exact Ext.refl _ | with_reducible assumption | with_reducible refine Ext.alloc ?_ _ | with_reducible refine Ext.drewN ?_ _ | with_reducible refine Ext.drew ?_ | with_reducible refine Ext.setCell ?_ ?_ _ | with_reducible refine Ext.more ?_ _ _ | (show _ ≤ _; dsimp only; omega)))⟩
    · cases h3 : gateMay c f
      · have HG := Lib.hid (gateErr_arg hp h2 h3)
        have HN := Lib.hid (gateNext_no (c := c) (f := f) (by rw [HG.out]; rfl))
        have HM := Lib.hid h3
        clear hp h3
        go_enter Tryd.func10, Tryd.ntmps10
        go_wp2_with (first | (go_at_call 24; refine (mayBe_any c _).mono ?_; rintro e w1 ⟨rfl, os1, n1, rfl⟩; rw [HC.out]) | (go_at_call 25; refine (gateMayR_any c f HF.out _).mono ?_; rintro e w2 ⟨rfl, os2, n2, rfl⟩; rw [HM.out]))
        (refine bodyPost_ret (v := .tuple #[(zeroAct).v, .int .i64 2]) (by simp [results, Tryd.results10, go_sem]) rfl ?_)
        exact ⟨by rw [HN.out, HG.out], (by repeat (first | with_reducible exact Ext.refl _ | with_reducible assumption | with_reducible refine Ext.alloc ?_ _ | with_reducible refine Ext.drewN ?_ _ | with_reducible refine Ext.drew ?_ | with_reducible refine Ext.setCell ?_ ?_ _ | with_reducible refine Ext.more ?_ _ _ | (show _ ≤ _; dsimp only; omega)))⟩
      · have HG := Lib.hid (gateErr_yes hp h2 h3)
        have HN := Lib.hid (gateNext_yes (c := c) (f := f) (by rw [HG.out]; rfl))
        have HM := Lib.hid h3
        have HP := Lib.hid (gateMay_pc h3)
        clear hp h3
        go_enter Tryd.func10, Tryd.ntmps10
        go_wp2_with (first | (go_at_call 24; refine (mayBe_any c _).mono ?_; rintro e w1 ⟨rfl, os1, n1, rfl⟩; rw [HC.out]) | (go_at_call 25; refine (gateMayR_any c f HF.out _).mono ?_; rintro e w2 ⟨rfl, os2, n2, rfl⟩; rw [HM.out]) | (go_at_call 26; refine (gateStepR_any f HF.out HP.out _).mono ?_; rintro e w3 ⟨rfl, os3, n3, rfl⟩))
        (refine bodyPost_ret (v := .tuple #[(gateStep f).v, .int .i64 0]) (by simp [results, Tryd.results10, go_sem]) rfl ?_)
        exact ⟨by rw [HN.out, HG.out], (by repeat (first | with_reducible exact Ext.refl _ | with_reducible assumption | with_reducible refine Ext.alloc ?_ _ | with_reducible refine Ext.drewN ?_ _ | with_reducible refine Ext.drew ?_ | with_reducible refine Ext.setCell ?_ ?_ _ | with_reducible refine Ext.more ?_ _ _ | (show _ ≤ _; dsimp only; omega)))⟩
end Go.Proofs.YtaijkpfgnlkppaaDoor
