/- The walks of the layer 'gate', as far as 'Next'. -/
import Derived.Test.YtaijkpfgnlkppaaDoorCheck
import Derived.Test.YtaijkpfgnlkppaaDoorGateP
namespace Go.Proofs.YtaijkpfgnlkppaaDoor
open Go Go.RowKit

set_option maxHeartbeats 4000000 in
theorem gateMay_any (c : Cfg) (f : Frm) (hf : f.Fits) (w : World) (ht : Tab w) : Calls Tryd.prog 44 #[c.v, f.v] w
    fun e w' => e = .returned (.bool (gateMay c f)) ∧ Ext w w' := by
  have ho := gateOp_fits hf
  obtain ⟨⟨k0, k1⟩, _, _, ⟨p0, p1⟩, ⟨i0, i1⟩, ⟨j0, j1⟩, _, _, ⟨q0, q1⟩, _, _⟩ := hf
  obtain ⟨E, hE⟩ : ∃ E, E = opErr c (gateOp f) := ⟨_, rfl⟩
  have HM : Hid (gateMay c f = (E == 0 && decide (f.i < c.cap) && decide (f.j < c.cap) && decide (f.h ≤ 1) && gatePc f)) := by rw [hE]; rfl
  cases hk : (f.kind == 9)
  · have hg : gateOp f = ⟨f.kind, f.a, f.b, 0⟩ := by simp [gateOp, hk]
    rw [hg] at ho hE
    have HO := Lib.hid ho
    have HE := Lib.hid hE
    clear ho hE hg
    go_enter Tryd.func44, Tryd.ntmps44
    go_wp2_with (go_at_call 34; refine (opCheck_any c ⟨f.kind, f.a, f.b, 0⟩ HO.out _ (Tab.ext ht (by repeat (first | with_reducible exact Ext.refl _ | with_reducible assumption | with_reducible refine Ext.alloc ?_ _ | with_reducible refine Ext.gr ?_ _ | with_reducible refine Ext.drewN ?_ _ | with_reducible refine Ext.drew ?_ | with_reducible refine Ext.setCell ?_ ?_ _ | with_reducible refine Ext.more ?_ _ _ | (show _ ≤ _; dsimp only; omega))))).mono ?_; rintro e w1 ⟨rfl, os1, n1, rfl⟩; rw [← HE.out];)
    all_goals (go_ret; refine ⟨ret_bool ?_, (by repeat (first | with_reducible exact Ext.refl _ | with_reducible assumption | with_reducible refine Ext.alloc ?_ _ | with_reducible refine Ext.gr ?_ _ | with_reducible refine Ext.drewN ?_ _ | with_reducible refine Ext.drew ?_ | with_reducible refine Ext.setCell ?_ ?_ _ | with_reducible refine Ext.more ?_ _ _ | (show _ ≤ _; dsimp only; omega)))⟩)
    all_goals (go_light; rw [HM.out, Bool.eq_iff_iff]; clear HM HO HE; simp only [gatePc]; simp at * <;> omega)
  · have hg : gateOp f = ⟨f.kind, f.a, f.b, f.y⟩ := by simp [gateOp, hk]
    rw [hg] at ho hE
    have HO := Lib.hid ho
    have HE := Lib.hid hE
    clear ho hE hg
    go_enter Tryd.func44, Tryd.ntmps44
    go_wp2_with (go_at_call 34; refine (opCheck_any c ⟨f.kind, f.a, f.b, f.y⟩ HO.out _ (Tab.ext ht (by repeat (first | with_reducible exact Ext.refl _ | with_reducible assumption | with_reducible refine Ext.alloc ?_ _ | with_reducible refine Ext.gr ?_ _ | with_reducible refine Ext.drewN ?_ _ | with_reducible refine Ext.drew ?_ | with_reducible refine Ext.setCell ?_ ?_ _ | with_reducible refine Ext.more ?_ _ _ | (show _ ≤ _; dsimp only; omega))))).mono ?_; rintro e w1 ⟨rfl, os1, n1, rfl⟩; rw [← HE.out];)
    all_goals (go_ret; refine ⟨ret_bool ?_, (by repeat (first | with_reducible exact Ext.refl _ | with_reducible assumption | with_reducible refine Ext.alloc ?_ _ | with_reducible refine Ext.gr ?_ _ | with_reducible refine Ext.drewN ?_ _ | with_reducible refine Ext.drew ?_ | with_reducible refine Ext.setCell ?_ ?_ _ | with_reducible refine Ext.more ?_ _ _ | (show _ ≤ _; dsimp only; omega)))⟩)
    all_goals (go_light; rw [HM.out, Bool.eq_iff_iff]; clear HM HO HE; simp only [gatePc]; simp at * <;> omega)

theorem gateCheck_any (c : Cfg) (f : Frm) (hf : f.Fits) (w : World) (ht : Tab w) : Calls Tryd.prog 23 #[c.v, f.v] w
    fun e w' => e = .returned (.int .i64 (gateErr c f)) ∧ Ext w w' := by
  have HF := Lib.hid hf
  clear hf
  cases hp : partOk c
  · have HE := Lib.hid (gateErr_conf (f := f) hp)
    have HC := Lib.hid (conf_no hp)
    clear hp
    go_enter Tryd.func23, Tryd.ntmps23
    go_wp2_with (go_at_call 43; refine (partCheck_any c _).mono ?_; rintro e w1 ⟨rfl, os1, n1, rfl⟩; rw [HC.out];)
    go_ret
    exact ⟨ret_int HE.out.symm, (by repeat (first | with_reducible exact Ext.refl _ | with_reducible assumption | with_reducible refine Ext.alloc ?_ _ | with_reducible refine Ext.gr ?_ _ | with_reducible refine Ext.drewN ?_ _ | with_reducible refine Ext.drew ?_ | with_reducible refine Ext.setCell ?_ ?_ _ | with_reducible refine Ext.more ?_ _ _ | (show _ ≤ _; dsimp only; omega)))⟩
  · have HC := Lib.hid (conf_ok hp)
    cases h2 : (c.object == 3)
    · have HE := Lib.hid (gateErr_obj (f := f) h2)
      clear hp
      go_enter Tryd.func23, Tryd.ntmps23
      go_wp2_with (go_at_call 43; refine (partCheck_any c _).mono ?_; rintro e w1 ⟨rfl, os1, n1, rfl⟩; rw [HC.out];)
      go_ret
      exact ⟨ret_int HE.out.symm, (by repeat (first | with_reducible exact Ext.refl _ | with_reducible assumption | with_reducible refine Ext.alloc ?_ _ | with_reducible refine Ext.gr ?_ _ | with_reducible refine Ext.drewN ?_ _ | with_reducible refine Ext.drew ?_ | with_reducible refine Ext.setCell ?_ ?_ _ | with_reducible refine Ext.more ?_ _ _ | (show _ ≤ _; dsimp only; omega)))⟩
    · cases h3 : gateMay c f
      · have HE := Lib.hid (gateErr_arg hp h2 h3)
        have HM := Lib.hid h3
        clear hp h3
        go_enter Tryd.func23, Tryd.ntmps23
        go_wp2_with (first | (go_at_call 43; refine (partCheck_any c _).mono ?_; rintro e w1 ⟨rfl, os1, n1, rfl⟩; rw [HC.out];) | (go_at_call 44; refine (gateMay_any c f HF.out _ (Tab.ext ht (by repeat (first | with_reducible exact Ext.refl _ | with_reducible assumption | with_reducible refine Ext.alloc ?_ _ | with_reducible refine Ext.gr ?_ _ | with_reducible refine Ext.drewN ?_ _ | with_reducible refine Ext.drew ?_ | with_reducible refine Ext.setCell ?_ ?_ _ | with_reducible refine Ext.more ?_ _ _ | (show _ ≤ _; dsimp only; omega))))).mono ?_; rintro e w2 ⟨rfl, os2, n2, rfl⟩; rw [HM.out];))
        go_ret
        exact ⟨ret_int HE.out.symm, (by repeat (first | with_reducible exact Ext.refl _ | with_reducible assumption | with_reducible refine Ext.alloc ?_ _ | with_reducible refine Ext.gr ?_ _ | with_reducible refine Ext.drewN ?_ _ | with_reducible refine Ext.drew ?_ | with_reducible refine Ext.setCell ?_ ?_ _ | with_reducible refine Ext.more ?_ _ _ | (show _ ≤ _; dsimp only; omega)))⟩
      · have HE := Lib.hid (gateErr_yes hp h2 h3)
        have HM := Lib.hid h3
        clear hp h3
        go_enter Tryd.func23, Tryd.ntmps23
        go_wp2_with (first | (go_at_call 43; refine (partCheck_any c _).mono ?_; rintro e w1 ⟨rfl, os1, n1, rfl⟩; rw [HC.out];) | (go_at_call 44; refine (gateMay_any c f HF.out _ (Tab.ext ht (by repeat (first | with_reducible exact Ext.refl _ | with_reducible assumption | with_reducible refine Ext.alloc ?_ _ | with_reducible refine Ext.gr ?_ _ | with_reducible refine Ext.drewN ?_ _ | with_reducible refine Ext.drew ?_ | with_reducible refine Ext.setCell ?_ ?_ _ | with_reducible refine Ext.more ?_ _ _ | (show _ ≤ _; dsimp only; omega))))).mono ?_; rintro e w2 ⟨rfl, os2, n2, rfl⟩; rw [HM.out];))
        go_ret
        exact ⟨ret_int HE.out.symm, (by repeat (first | with_reducible exact Ext.refl _ | with_reducible assumption | with_reducible refine Ext.alloc ?_ _ | with_reducible refine Ext.gr ?_ _ | with_reducible refine Ext.drewN ?_ _ | with_reducible refine Ext.drew ?_ | with_reducible refine Ext.setCell ?_ ?_ _ | with_reducible refine Ext.more ?_ _ _ | (show _ ≤ _; dsimp only; omega)))⟩

set_option maxHeartbeats 4000000 in
theorem gateNext_any (c : Cfg) (f : Frm) (hf : f.Fits) (w : World) (ht : Tab w) : Calls Tryd.prog 9 #[c.v, f.v] w
    fun e w' => e = .returned (.tuple #[(gateNextA c f).v, .int .i64 (gateErr c f)]) ∧ Ext w w' := by
  have HF := Lib.hid hf
  obtain ⟨⟨k0, k1⟩, _, _, ⟨p0, p1⟩, ⟨i0, i1⟩, ⟨j0, j1⟩, _, _, ⟨q0, q1⟩, _, _⟩ := hf
  obtain ⟨E, hE⟩ : ∃ E, E = gateErr c f := ⟨_, rfl⟩
  have HG := Lib.hid hE
  cases h0 : (E == 0)
  · have HN := Lib.hid (gateNext_no (c := c) (f := f) (by rw [← hE]; exact h0))
    clear hE
    go_enter Tryd.func9, Tryd.ntmps9
    go_wp2_with (go_at_call 23; refine (gateCheck_any c f HF.out _ (Tab.ext ht (by repeat (first | with_reducible exact Ext.refl _ | with_reducible assumption | with_reducible refine Ext.alloc ?_ _ | with_reducible refine Ext.gr ?_ _ | with_reducible refine Ext.drewN ?_ _ | with_reducible refine Ext.drew ?_ | with_reducible refine Ext.setCell ?_ ?_ _ | with_reducible refine Ext.more ?_ _ _ | (show _ ≤ _; dsimp only; omega))))).mono ?_; rintro e w1 ⟨rfl, os1, n1, rfl⟩; rw [← HG.out];)
    (refine bodyPost_ret (v := .tuple #[(zeroAct).v, .int .i64 E]) (by simp [results, Tryd.results9, go_sem]) rfl ?_)
    exact ⟨by rw [HN.out, HG.out], (by repeat (first | with_reducible exact Ext.refl _ | with_reducible assumption | with_reducible refine Ext.alloc ?_ _ | with_reducible refine Ext.gr ?_ _ | with_reducible refine Ext.drewN ?_ _ | with_reducible refine Ext.drew ?_ | with_reducible refine Ext.setCell ?_ ?_ _ | with_reducible refine Ext.more ?_ _ _ | (show _ ≤ _; dsimp only; omega)))⟩
  · have HN := Lib.hid (gateNext_yes (c := c) (f := f) (by rw [← hE]; exact h0))
    have hm := gateMay_pc (gateErr_ok (by rw [← hE]; exact h0)).2.2
    have hE0 : E = 0 := by simpa using h0
    subst hE0
    clear hE
    rcases hm with hm | hm | hm | hm | hm
    · have HS : Hid (gateStep f = ⟨1, f.i, 0, 0, 0, 0, 0⟩) := by simp [Hid, gateStep, hm]
      have hm' : (f.pc == 0) = true := by simpa using hm
      clear hm
      go_enter Tryd.func9, Tryd.ntmps9
      go_wp2_with (go_at_call 23; refine (gateCheck_any c f HF.out _ (Tab.ext ht (by repeat (first | with_reducible exact Ext.refl _ | with_reducible assumption | with_reducible refine Ext.alloc ?_ _ | with_reducible refine Ext.gr ?_ _ | with_reducible refine Ext.drewN ?_ _ | with_reducible refine Ext.drew ?_ | with_reducible refine Ext.setCell ?_ ?_ _ | with_reducible refine Ext.more ?_ _ _ | (show _ ≤ _; dsimp only; omega))))).mono ?_; rintro e w1 ⟨rfl, os1, n1, rfl⟩; rw [← HG.out];)
      (refine bodyPost_ret (v := .tuple #[(Actn.mk 1 f.i 0 0 0 0 0).v, .int .i64 0]) (by simp [results, Tryd.results9, go_sem]) rfl ?_)
      exact ⟨by rw [HN.out, ← HG.out, HS.out], (by repeat (first | with_reducible exact Ext.refl _ | with_reducible assumption | with_reducible refine Ext.alloc ?_ _ | with_reducible refine Ext.gr ?_ _ | with_reducible refine Ext.drewN ?_ _ | with_reducible refine Ext.drew ?_ | with_reducible refine Ext.setCell ?_ ?_ _ | with_reducible refine Ext.more ?_ _ _ | (show _ ≤ _; dsimp only; omega)))⟩
    · have HS : Hid (gateStep f = ⟨4, 0, 0, 0, 0, 0, f.x⟩) := by simp [Hid, gateStep, hm]
      have hm' : (f.pc == 20) = true := by simpa using hm
      clear hm
      go_enter Tryd.func9, Tryd.ntmps9
      go_wp2_with (go_at_call 23; refine (gateCheck_any c f HF.out _ (Tab.ext ht (by repeat (first | with_reducible exact Ext.refl _ | with_reducible assumption | with_reducible refine Ext.alloc ?_ _ | with_reducible refine Ext.gr ?_ _ | with_reducible refine Ext.drewN ?_ _ | with_reducible refine Ext.drew ?_ | with_reducible refine Ext.setCell ?_ ?_ _ | with_reducible refine Ext.more ?_ _ _ | (show _ ≤ _; dsimp only; omega))))).mono ?_; rintro e w1 ⟨rfl, os1, n1, rfl⟩; rw [← HG.out];)
      (refine bodyPost_ret (v := .tuple #[(Actn.mk 4 0 0 0 0 0 f.x).v, .int .i64 0]) (by simp [results, Tryd.results9, go_sem]) rfl ?_)
      exact ⟨by rw [HN.out, ← HG.out, HS.out], (by repeat (first | with_reducible exact Ext.refl _ | with_reducible assumption | with_reducible refine Ext.alloc ?_ _ | with_reducible refine Ext.gr ?_ _ | with_reducible refine Ext.drewN ?_ _ | with_reducible refine Ext.drew ?_ | with_reducible refine Ext.setCell ?_ ?_ _ | with_reducible refine Ext.more ?_ _ _ | (show _ ≤ _; dsimp only; omega)))⟩
    · cases hk : (f.kind == 9)
      · have HS : Hid (gateStep f = ⟨2, f.j, 0, 0, 0, 0, 0⟩) := by simp [Hid, gateStep, hm, hk]
        have hm' : (f.pc == 2) = true := by simpa using hm.1
        clear hm
        go_enter Tryd.func9, Tryd.ntmps9
        go_wp2_with (go_at_call 23; refine (gateCheck_any c f HF.out _ (Tab.ext ht (by repeat (first | with_reducible exact Ext.refl _ | with_reducible assumption | with_reducible refine Ext.alloc ?_ _ | with_reducible refine Ext.gr ?_ _ | with_reducible refine Ext.drewN ?_ _ | with_reducible refine Ext.drew ?_ | with_reducible refine Ext.setCell ?_ ?_ _ | with_reducible refine Ext.more ?_ _ _ | (show _ ≤ _; dsimp only; omega))))).mono ?_; rintro e w1 ⟨rfl, os1, n1, rfl⟩; rw [← HG.out];)
        (refine bodyPost_ret (v := .tuple #[(Actn.mk 2 f.j 0 0 0 0 0).v, .int .i64 0]) (by simp [results, Tryd.results9, go_sem]) rfl ?_)
        exact ⟨by rw [HN.out, ← HG.out, HS.out], (by repeat (first | with_reducible exact Ext.refl _ | with_reducible assumption | with_reducible refine Ext.alloc ?_ _ | with_reducible refine Ext.gr ?_ _ | with_reducible refine Ext.drewN ?_ _ | with_reducible refine Ext.drew ?_ | with_reducible refine Ext.setCell ?_ ?_ _ | with_reducible refine Ext.more ?_ _ _ | (show _ ≤ _; dsimp only; omega)))⟩
      · have HS : Hid (gateStep f = ⟨2, f.j, f.y, f.a, f.b, 0, 0⟩) := by simp [Hid, gateStep, hm, hk]
        have hm' : (f.pc == 2) = true := by simpa using hm.1
        clear hm
        go_enter Tryd.func9, Tryd.ntmps9
        go_wp2_with (go_at_call 23; refine (gateCheck_any c f HF.out _ (Tab.ext ht (by repeat (first | with_reducible exact Ext.refl _ | with_reducible assumption | with_reducible refine Ext.alloc ?_ _ | with_reducible refine Ext.gr ?_ _ | with_reducible refine Ext.drewN ?_ _ | with_reducible refine Ext.drew ?_ | with_reducible refine Ext.setCell ?_ ?_ _ | with_reducible refine Ext.more ?_ _ _ | (show _ ≤ _; dsimp only; omega))))).mono ?_; rintro e w1 ⟨rfl, os1, n1, rfl⟩; rw [← HG.out];)
        go_region
        all_goals go_wp2
        all_goals (refine bodyPost_ret (v := .tuple #[(Actn.mk 2 f.j f.y f.a f.b 0 0).v, .int .i64 0]) (by simp [results, Tryd.results9, go_sem]) rfl ?_)
        all_goals exact ⟨by rw [HN.out, ← HG.out, HS.out], (by repeat (first | with_reducible exact Ext.refl _ | with_reducible assumption | with_reducible refine Ext.alloc ?_ _ | with_reducible refine Ext.gr ?_ _ | with_reducible refine Ext.drewN ?_ _ | with_reducible refine Ext.drew ?_ | with_reducible refine Ext.setCell ?_ ?_ _ | with_reducible refine Ext.more ?_ _ _ | (show _ ≤ _; dsimp only; omega)))⟩
    · have HS : Hid (gateStep f = ⟨4, 0, 0, 0, 0, 6, 0⟩) := by simp [Hid, gateStep, hm]
      have hm' : (f.pc == 21) = true := by simpa using hm.1
      clear hm
      go_enter Tryd.func9, Tryd.ntmps9
      go_wp2_with (go_at_call 23; refine (gateCheck_any c f HF.out _ (Tab.ext ht (by repeat (first | with_reducible exact Ext.refl _ | with_reducible assumption | with_reducible refine Ext.alloc ?_ _ | with_reducible refine Ext.gr ?_ _ | with_reducible refine Ext.drewN ?_ _ | with_reducible refine Ext.drew ?_ | with_reducible refine Ext.setCell ?_ ?_ _ | with_reducible refine Ext.more ?_ _ _ | (show _ ≤ _; dsimp only; omega))))).mono ?_; rintro e w1 ⟨rfl, os1, n1, rfl⟩; rw [← HG.out];)
      (refine bodyPost_ret (v := .tuple #[(Actn.mk 4 0 0 0 0 6 0).v, .int .i64 0]) (by simp [results, Tryd.results9, go_sem]) rfl ?_)
      exact ⟨by rw [HN.out, ← HG.out, HS.out], (by repeat (first | with_reducible exact Ext.refl _ | with_reducible assumption | with_reducible refine Ext.alloc ?_ _ | with_reducible refine Ext.gr ?_ _ | with_reducible refine Ext.drewN ?_ _ | with_reducible refine Ext.drew ?_ | with_reducible refine Ext.setCell ?_ ?_ _ | with_reducible refine Ext.more ?_ _ _ | (show _ ≤ _; dsimp only; omega)))⟩
    · have HS : Hid (gateStep f = ⟨4, 0, 0, 0, 0, 9, 0⟩) := by simp [Hid, gateStep, hm]
      have hm' : (f.pc == 22) = true := by simpa using hm.1
      clear hm
      go_enter Tryd.func9, Tryd.ntmps9
      go_wp2_with (go_at_call 23; refine (gateCheck_any c f HF.out _ (Tab.ext ht (by repeat (first | with_reducible exact Ext.refl _ | with_reducible assumption | with_reducible refine Ext.alloc ?_ _ | with_reducible refine Ext.gr ?_ _ | with_reducible refine Ext.drewN ?_ _ | with_reducible refine Ext.drew ?_ | with_reducible refine Ext.setCell ?_ ?_ _ | with_reducible refine Ext.more ?_ _ _ | (show _ ≤ _; dsimp only; omega))))).mono ?_; rintro e w1 ⟨rfl, os1, n1, rfl⟩; rw [← HG.out];)
      (refine bodyPost_ret (v := .tuple #[(Actn.mk 4 0 0 0 0 9 0).v, .int .i64 0]) (by simp [results, Tryd.results9, go_sem]) rfl ?_)
      exact ⟨by rw [HN.out, ← HG.out, HS.out], (by repeat (first | with_reducible exact Ext.refl _ | with_reducible assumption | with_reducible refine Ext.alloc ?_ _ | with_reducible refine Ext.gr ?_ _ | with_reducible refine Ext.drewN ?_ _ | with_reducible refine Ext.drew ?_ | with_reducible refine Ext.setCell ?_ ?_ _ | with_reducible refine Ext.more ?_ _ _ | (show _ ≤ _; dsimp only; omega)))⟩
end Go.Proofs.YtaijkpfgnlkppaaDoor
