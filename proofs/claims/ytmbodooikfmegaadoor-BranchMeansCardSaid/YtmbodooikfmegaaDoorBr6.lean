/- The walk of 'seek'. -/
import Derived.Test.YtmbodooikfmegaaDoorBr5
namespace Go.Proofs.YtmbodooikfmegaaDoor
open Go Go.RowKit
set_option maxRecDepth 100000
set_option maxHeartbeats 8000000

theorem brMiss_of {c : Cfg} {f : Frm} {M : Int} (h : brLong f = M) (hi : ¬ f.i + 1 < c.cap) : brMore c f = brMiss f M := by
  simp only [brMore, brMiss, if_neg hi, h]
theorem brSeek_far (c : Cfg) (f : Frm) (hf : f.Fits) (l : Cel) (hl : l.Fits) (hc : c.cap ≤ 32) (hfi : f.i < c.cap) (hn : f.n ≤ 32) (M : Int) (hM : 0 ≤ M ∧ M ≤ 3) (hLM : brLong f = M) (hh : f.h < M) (ht : (l.a == f.p + 1) = false) (V w : World) (hw : Ext (V.alloc (.cells (wlM c (f) M) 79)) w) : Calls Tryd.prog 56 #[.pointer (some ⟨V.heap.size, 0, none⟩), l.v] w
    fun e w' => e = .returned (.tuple #[]) ∧ Ext (V.alloc (.cells (wlM c (brOther c f l) M) 79)) w' := by
  obtain ⟨os, d, rfl⟩ := hw
  have HF := Lib.hid hf
  have HLM := Lib.hid hLM
  obtain ⟨⟨k0, k1⟩, ⟨a0, a1⟩, ⟨b0, b1⟩, ⟨p0, p1⟩, ⟨i0, i1⟩, ⟨j0, j1⟩, ⟨m0, m1⟩, ⟨q0, q1⟩, ⟨h0, h1⟩, ⟨x0, x1⟩, ⟨y0, y1⟩⟩ := hf
  obtain ⟨⟨t0, t1⟩, ⟨la0, la1⟩, ⟨lb0, lb1⟩, ⟨lc0, lc1⟩⟩ := hl
  have hq : f.h = 0 ∨ f.h = 1 ∨ f.h = 2 := by omega
  have HMM := Lib.hid hM
  have e1 : (l.a != f.p + 1) = true := by simpa using ht
  cases z : (l.a == 0)
  · cases ci : decide (f.i + 1 < c.cap)
    · have hi : ¬ f.i + 1 < c.cap := by simpa using ci
      have HFF : Hid (Frm.Fits f) := Lib.hid (by have hf := HF.out; exact hf)
      have HS : Hid (brOther c f l = (brMiss f M)) := Lib.hid (by simp only [brOther, z, Bool.false_eq_true, if_false]; exact brMiss_of (f := f) HLM.out hi)
      have HI : Hid (c.cap ≤ f.i + 1) := Lib.hid (by omega)
      clear ci hi hLM ht
      go_enter Tryd.func56, Tryd.ntmps56
      go_wp2
      ((refine wp_region_ext_lit (by kernel_rfl) (by kernel_rfl) ?_); (repeat (go_big_quiet_step (fail))); (refine wpQuiet_nil ?_; intro _ hw'; obtain ⟨⟨osq, nq⟩, hw''⟩ := hw'; replace hw'' : _ = grew _ osq nq := hw''; subst hw''))
      go_wp2_with (go_at_call 57; refine (brMore_missed c f HFF.out HI.out M HMM.out V _ EX).mono ?_; rintro e w1 ⟨rfl, os1, n1, rfl⟩)
      (refine bodyPost_ret (results_none rfl _ _ _) rfl ⟨rfl, ?_⟩)
      rw [HS.out]
      exact EX
    · have hi : f.i + 1 < c.cap := by simpa using ci
      have HFF : Hid (Frm.Fits f) := Lib.hid (by have hf := HF.out; exact hf)
      have HS : Hid (brOther c f l = ({ f with i := f.i + 1 } : Frm)) := Lib.hid (by simp only [brOther, z, Bool.false_eq_true, if_false, brMore, if_pos hi])
      have HI := Lib.hid hi
      clear ci hi hLM ht
      go_enter Tryd.func56, Tryd.ntmps56
      go_wp2
      ((refine wp_region_ext_lit (by kernel_rfl) (by kernel_rfl) ?_); (repeat (go_big_quiet_step (fail))); (refine wpQuiet_nil ?_; intro _ hw'; obtain ⟨⟨osq, nq⟩, hw''⟩ := hw'; replace hw'' : _ = grew _ osq nq := hw''; subst hw''))
      go_wp2_with (go_at_call 57; refine (brMore_on 77 c f HFF.out hc HI.out M V _ EX).mono ?_; rintro e w1 ⟨rfl, os1, n1, rfl⟩)
      (refine bodyPost_ret (results_none rfl _ _ _) rfl ⟨rfl, ?_⟩)
      rw [HS.out]
      exact EX
  · cases zn : (f.n == 0)
    · cases ci : decide (f.i + 1 < c.cap)
      · have hi : ¬ f.i + 1 < c.cap := by simpa using ci
        have HFF : Hid (Frm.Fits (Frm.mk f.kind f.a f.b f.pc f.i f.j (f.n + 1) f.p f.h f.x f.y)) := Lib.hid (by have hf := HF.out; exact ⟨hf.kind, hf.a, hf.b, hf.pc, hf.i, hf.j, by dsimp only; omega, hf.p, hf.h, hf.x, hf.y⟩)
        have HS : Hid (brOther c f l = (brMiss (Frm.mk f.kind f.a f.b f.pc f.i f.j (f.n + 1) f.p f.h f.x f.y) M)) := Lib.hid (by simp only [brOther, z, zn, Bool.false_eq_true, if_false, if_true]; exact brMiss_of (f := (Frm.mk f.kind f.a f.b f.pc f.i f.j (f.n + 1) f.p f.h f.x f.y)) HLM.out hi)
        have HI : Hid (c.cap ≤ f.i + 1) := Lib.hid (by omega)
        clear ci hi hLM ht
        go_enter Tryd.func56, Tryd.ntmps56
        go_wp2
        ((refine wp_region_ext_lit (by kernel_rfl) (by kernel_rfl) ?_); (repeat (go_big_quiet_step (fail))); (refine wpQuiet_nil ?_; intro _ hw'; obtain ⟨⟨osq, nq⟩, hw''⟩ := hw'; replace hw'' : _ = grew _ osq nq := hw''; subst hw''))
        go_wp2_with (go_at_call 57; refine (brMore_missed c (Frm.mk f.kind f.a f.b f.pc f.i f.j (f.n + 1) f.p f.h f.x f.y) HFF.out HI.out M HMM.out V _ EX).mono ?_; rintro e w1 ⟨rfl, os1, n1, rfl⟩)
        (refine bodyPost_ret (results_none rfl _ _ _) rfl ⟨rfl, ?_⟩)
        rw [HS.out]
        exact EX
      · have hi : f.i + 1 < c.cap := by simpa using ci
        have HFF : Hid (Frm.Fits (Frm.mk f.kind f.a f.b f.pc f.i f.j (f.n + 1) f.p f.h f.x f.y)) := Lib.hid (by have hf := HF.out; exact ⟨hf.kind, hf.a, hf.b, hf.pc, hf.i, hf.j, by dsimp only; omega, hf.p, hf.h, hf.x, hf.y⟩)
        have HS : Hid (brOther c f l = ({ (Frm.mk f.kind f.a f.b f.pc f.i f.j (f.n + 1) f.p f.h f.x f.y) with i := f.i + 1 } : Frm)) := Lib.hid (by simp only [brOther, z, zn, Bool.false_eq_true, if_false, if_true, brMore, if_pos hi])
        have HI := Lib.hid hi
        clear ci hi hLM ht
        go_enter Tryd.func56, Tryd.ntmps56
        go_wp2
        ((refine wp_region_ext_lit (by kernel_rfl) (by kernel_rfl) ?_); (repeat (go_big_quiet_step (fail))); (refine wpQuiet_nil ?_; intro _ hw'; obtain ⟨⟨osq, nq⟩, hw''⟩ := hw'; replace hw'' : _ = grew _ osq nq := hw''; subst hw''))
        go_wp2_with (go_at_call 57; refine (brMore_on 77 c (Frm.mk f.kind f.a f.b f.pc f.i f.j (f.n + 1) f.p f.h f.x f.y) HFF.out hc HI.out M V _ EX).mono ?_; rintro e w1 ⟨rfl, os1, n1, rfl⟩)
        (refine bodyPost_ret (results_none rfl _ _ _) rfl ⟨rfl, ?_⟩)
        rw [HS.out]
        exact EX
    · cases ci : decide (f.i + 1 < c.cap)
      · have hi : ¬ f.i + 1 < c.cap := by simpa using ci
        have HFF : Hid (Frm.Fits (Frm.mk f.kind f.a f.b f.pc f.i f.i (f.n + 1) f.p f.h f.x f.y)) := Lib.hid (by have hf := HF.out; exact ⟨hf.kind, hf.a, hf.b, hf.pc, hf.i, hf.i, by dsimp only; omega, hf.p, hf.h, hf.x, hf.y⟩)
        have HS : Hid (brOther c f l = (brMiss (Frm.mk f.kind f.a f.b f.pc f.i f.i (f.n + 1) f.p f.h f.x f.y) M)) := Lib.hid (by simp only [brOther, z, zn, if_true]; exact brMiss_of (f := (Frm.mk f.kind f.a f.b f.pc f.i f.i (f.n + 1) f.p f.h f.x f.y)) HLM.out hi)
        have HI : Hid (c.cap ≤ f.i + 1) := Lib.hid (by omega)
        clear ci hi hLM ht
        go_enter Tryd.func56, Tryd.ntmps56
        go_wp2
        ((refine wp_region_ext_lit (by kernel_rfl) (by kernel_rfl) ?_); (repeat (go_big_quiet_step (fail))); (refine wpQuiet_nil ?_; intro _ hw'; obtain ⟨⟨osq, nq⟩, hw''⟩ := hw'; replace hw'' : _ = grew _ osq nq := hw''; subst hw''))
        go_wp2_with (go_at_call 57; refine (brMore_missed c (Frm.mk f.kind f.a f.b f.pc f.i f.i (f.n + 1) f.p f.h f.x f.y) HFF.out HI.out M HMM.out V _ EX).mono ?_; rintro e w1 ⟨rfl, os1, n1, rfl⟩)
        (refine bodyPost_ret (results_none rfl _ _ _) rfl ⟨rfl, ?_⟩)
        rw [HS.out]
        exact EX
      · have hi : f.i + 1 < c.cap := by simpa using ci
        have HFF : Hid (Frm.Fits (Frm.mk f.kind f.a f.b f.pc f.i f.i (f.n + 1) f.p f.h f.x f.y)) := Lib.hid (by have hf := HF.out; exact ⟨hf.kind, hf.a, hf.b, hf.pc, hf.i, hf.i, by dsimp only; omega, hf.p, hf.h, hf.x, hf.y⟩)
        have HS : Hid (brOther c f l = ({ (Frm.mk f.kind f.a f.b f.pc f.i f.i (f.n + 1) f.p f.h f.x f.y) with i := f.i + 1 } : Frm)) := Lib.hid (by simp only [brOther, z, zn, if_true, brMore, if_pos hi])
        have HI := Lib.hid hi
        clear ci hi hLM ht
        go_enter Tryd.func56, Tryd.ntmps56
        go_wp2
        ((refine wp_region_ext_lit (by kernel_rfl) (by kernel_rfl) ?_); (repeat (go_big_quiet_step (fail))); (refine wpQuiet_nil ?_; intro _ hw'; obtain ⟨⟨osq, nq⟩, hw''⟩ := hw'; replace hw'' : _ = grew _ osq nq := hw''; subst hw''))
        go_wp2_with (go_at_call 57; refine (brMore_on 77 c (Frm.mk f.kind f.a f.b f.pc f.i f.i (f.n + 1) f.p f.h f.x f.y) HFF.out hc HI.out M V _ EX).mono ?_; rintro e w1 ⟨rfl, os1, n1, rfl⟩)
        (refine bodyPost_ret (results_none rfl _ _ _) rfl ⟨rfl, ?_⟩)
        rw [HS.out]
        exact EX
theorem brSeek_near (c : Cfg) (f : Frm) (hf : f.Fits) (l : Cel) (hl : l.Fits) (hc : c.cap ≤ 32) (hfi : f.i < c.cap) (_hn : f.n ≤ 32) (M : Int) (hM : 0 ≤ M ∧ M ≤ 3) (hLM : brLong f = M) (hh : f.h < M) (ht : (l.a == f.p + 1) = true ∧ (l.b == brName f f.h) = false) (V w : World) (hw : Ext (V.alloc (.cells (wlM c (f) M) 79)) w) : Calls Tryd.prog 56 #[.pointer (some ⟨V.heap.size, 0, none⟩), l.v] w
    fun e w' => e = .returned (.tuple #[]) ∧ Ext (V.alloc (.cells (wlM c (brOther c f l) M) 79)) w' := by
  obtain ⟨os, d, rfl⟩ := hw
  have HF := Lib.hid hf
  have HLM := Lib.hid hLM
  obtain ⟨⟨k0, k1⟩, ⟨a0, a1⟩, ⟨b0, b1⟩, ⟨p0, p1⟩, ⟨i0, i1⟩, ⟨j0, j1⟩, ⟨m0, m1⟩, ⟨q0, q1⟩, ⟨h0, h1⟩, ⟨x0, x1⟩, ⟨y0, y1⟩⟩ := hf
  obtain ⟨⟨t0, t1⟩, ⟨la0, la1⟩, ⟨lb0, lb1⟩, ⟨lc0, lc1⟩⟩ := hl
  have hq : f.h = 0 ∨ f.h = 1 ∨ f.h = 2 := by omega
  have HMM := Lib.hid hM
  obtain ⟨ht, ht2⟩ := ht
  have e1 : (l.a != f.p + 1) = false := by simpa using ht
  have z : (l.a == 0) = false := by simp at ht ⊢; omega
  rcases hq with hq | hq | hq
  · have e2 : (l.b != f.a % 65536) = true := by rw [hq] at ht2; simpa [brName] using ht2
    cases ci : decide (f.i + 1 < c.cap)
    · have hi : ¬ f.i + 1 < c.cap := by simpa using ci
      have HFF : Hid (Frm.Fits f) := Lib.hid (by have hf := HF.out; exact hf)
      have HS : Hid (brOther c f l = (brMiss f M)) := Lib.hid (by simp only [brOther, z, Bool.false_eq_true, if_false]; exact brMiss_of (f := f) HLM.out hi)
      have HI : Hid (c.cap ≤ f.i + 1) := Lib.hid (by omega)
      clear ci hi hLM ht ht2
      go_enter Tryd.func56, Tryd.ntmps56
      go_wp2
      ((refine wp_region_ext_lit (by kernel_rfl) (by kernel_rfl) ?_); (repeat (go_big_quiet_step (fail))); (refine wpQuiet_nil ?_; intro _ hw'; obtain ⟨⟨osq, nq⟩, hw''⟩ := hw'; replace hw'' : _ = grew _ osq nq := hw''; subst hw''))
      go_wp2_with (go_at_call 57; refine (brMore_missed c f HFF.out HI.out M HMM.out V _ EX).mono ?_; rintro e w1 ⟨rfl, os1, n1, rfl⟩)
      (refine bodyPost_ret (results_none rfl _ _ _) rfl ⟨rfl, ?_⟩)
      rw [HS.out]
      (try simp only [wlM])
      exact EX
    · have hi : f.i + 1 < c.cap := by simpa using ci
      have HFF : Hid (Frm.Fits f) := Lib.hid (by have hf := HF.out; exact hf)
      have HS : Hid (brOther c f l = ({ f with i := f.i + 1 } : Frm)) := Lib.hid (by simp only [brOther, z, Bool.false_eq_true, if_false, brMore, if_pos hi])
      have HI := Lib.hid hi
      clear ci hi hLM ht ht2
      go_enter Tryd.func56, Tryd.ntmps56
      go_wp2
      ((refine wp_region_ext_lit (by kernel_rfl) (by kernel_rfl) ?_); (repeat (go_big_quiet_step (fail))); (refine wpQuiet_nil ?_; intro _ hw'; obtain ⟨⟨osq, nq⟩, hw''⟩ := hw'; replace hw'' : _ = grew _ osq nq := hw''; subst hw''))
      go_wp2_with (go_at_call 57; refine (brMore_on 77 c f HFF.out hc HI.out M V _ EX).mono ?_; rintro e w1 ⟨rfl, os1, n1, rfl⟩)
      (refine bodyPost_ret (results_none rfl _ _ _) rfl ⟨rfl, ?_⟩)
      rw [HS.out]
      (try simp only [wlM, hq])
      exact EX
  · have e2 : (l.b != f.a / 65536) = true := by rw [hq] at ht2; simpa [brName] using ht2
    cases ci : decide (f.i + 1 < c.cap)
    · have hi : ¬ f.i + 1 < c.cap := by simpa using ci
      have HFF : Hid (Frm.Fits f) := Lib.hid (by have hf := HF.out; exact hf)
      have HS : Hid (brOther c f l = (brMiss f M)) := Lib.hid (by simp only [brOther, z, Bool.false_eq_true, if_false]; exact brMiss_of (f := f) HLM.out hi)
      have HI : Hid (c.cap ≤ f.i + 1) := Lib.hid (by omega)
      clear ci hi hLM ht ht2
      go_enter Tryd.func56, Tryd.ntmps56
      go_wp2
      ((refine wp_region_ext_lit (by kernel_rfl) (by kernel_rfl) ?_); (repeat (go_big_quiet_step (fail))); (refine wpQuiet_nil ?_; intro _ hw'; obtain ⟨⟨osq, nq⟩, hw''⟩ := hw'; replace hw'' : _ = grew _ osq nq := hw''; subst hw''))
      go_wp2_with (go_at_call 57; refine (brMore_missed c f HFF.out HI.out M HMM.out V _ EX).mono ?_; rintro e w1 ⟨rfl, os1, n1, rfl⟩)
      (refine bodyPost_ret (results_none rfl _ _ _) rfl ⟨rfl, ?_⟩)
      rw [HS.out]
      (try simp only [wlM])
      exact EX
    · have hi : f.i + 1 < c.cap := by simpa using ci
      have HFF : Hid (Frm.Fits f) := Lib.hid (by have hf := HF.out; exact hf)
      have HS : Hid (brOther c f l = ({ f with i := f.i + 1 } : Frm)) := Lib.hid (by simp only [brOther, z, Bool.false_eq_true, if_false, brMore, if_pos hi])
      have HI := Lib.hid hi
      clear ci hi hLM ht ht2
      go_enter Tryd.func56, Tryd.ntmps56
      go_wp2
      ((refine wp_region_ext_lit (by kernel_rfl) (by kernel_rfl) ?_); (repeat (go_big_quiet_step (fail))); (refine wpQuiet_nil ?_; intro _ hw'; obtain ⟨⟨osq, nq⟩, hw''⟩ := hw'; replace hw'' : _ = grew _ osq nq := hw''; subst hw''))
      go_wp2_with (go_at_call 57; refine (brMore_on 77 c f HFF.out hc HI.out M V _ EX).mono ?_; rintro e w1 ⟨rfl, os1, n1, rfl⟩)
      (refine bodyPost_ret (results_none rfl _ _ _) rfl ⟨rfl, ?_⟩)
      rw [HS.out]
      (try simp only [wlM, hq])
      exact EX
  · have e2 : (l.b != f.b) = true := by rw [hq] at ht2; simpa [brName] using ht2
    cases ci : decide (f.i + 1 < c.cap)
    · have hi : ¬ f.i + 1 < c.cap := by simpa using ci
      have HFF : Hid (Frm.Fits f) := Lib.hid (by have hf := HF.out; exact hf)
      have HS : Hid (brOther c f l = (brMiss f M)) := Lib.hid (by simp only [brOther, z, Bool.false_eq_true, if_false]; exact brMiss_of (f := f) HLM.out hi)
      have HI : Hid (c.cap ≤ f.i + 1) := Lib.hid (by omega)
      clear ci hi hLM ht ht2
      go_enter Tryd.func56, Tryd.ntmps56
      go_wp2
      ((refine wp_region_ext_lit (by kernel_rfl) (by kernel_rfl) ?_); (repeat (go_big_quiet_step (fail))); (refine wpQuiet_nil ?_; intro _ hw'; obtain ⟨⟨osq, nq⟩, hw''⟩ := hw'; replace hw'' : _ = grew _ osq nq := hw''; subst hw''))
      go_wp2_with (go_at_call 57; refine (brMore_missed c f HFF.out HI.out M HMM.out V _ EX).mono ?_; rintro e w1 ⟨rfl, os1, n1, rfl⟩)
      (refine bodyPost_ret (results_none rfl _ _ _) rfl ⟨rfl, ?_⟩)
      rw [HS.out]
      (try simp only [wlM])
      exact EX
    · have hi : f.i + 1 < c.cap := by simpa using ci
      have HFF : Hid (Frm.Fits f) := Lib.hid (by have hf := HF.out; exact hf)
      have HS : Hid (brOther c f l = ({ f with i := f.i + 1 } : Frm)) := Lib.hid (by simp only [brOther, z, Bool.false_eq_true, if_false, brMore, if_pos hi])
      have HI := Lib.hid hi
      clear ci hi hLM ht ht2
      go_enter Tryd.func56, Tryd.ntmps56
      go_wp2
      ((refine wp_region_ext_lit (by kernel_rfl) (by kernel_rfl) ?_); (repeat (go_big_quiet_step (fail))); (refine wpQuiet_nil ?_; intro _ hw'; obtain ⟨⟨osq, nq⟩, hw''⟩ := hw'; replace hw'' : _ = grew _ osq nq := hw''; subst hw''))
      go_wp2_with (go_at_call 57; refine (brMore_on 77 c f HFF.out hc HI.out M V _ EX).mono ?_; rintro e w1 ⟨rfl, os1, n1, rfl⟩)
      (refine bodyPost_ret (results_none rfl _ _ _) rfl ⟨rfl, ?_⟩)
      rw [HS.out]
      (try simp only [wlM, hq])
      exact EX
end Go.Proofs.YtmbodooikfmegaaDoor
