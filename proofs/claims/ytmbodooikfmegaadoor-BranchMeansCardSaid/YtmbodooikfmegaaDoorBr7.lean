/- The walk of 'after'. -/
import Derived.Test.YtmbodooikfmegaaDoorBr6
import Derived.Test.YtmbodooikfmegaaDoorBr6b
import Derived.Test.YtmbodooikfmegaaDoorBr3
namespace Go.Proofs.YtmbodooikfmegaaDoor
open Go Go.RowKit
set_option maxRecDepth 100000
set_option maxHeartbeats 8000000


def brSought (c : Cfg) (f : Frm) (l : Cel) : Frm := if l.a == f.p + 1 && l.b == brName f f.h then brFound f l else brOther c f l
theorem brSeek_any (c : Cfg) (f : Frm) (hf : f.Fits) (l : Cel) (hl : l.Fits) (hc : c.cap ≤ 32) (hfi : f.i < c.cap) (hn : f.n ≤ 32) (M : Int) (hM : 0 ≤ M ∧ M ≤ 3) (hLM : brLong f = M) (hh : f.h < M) (V w : World) (hw : Ext (V.alloc (.cells (wlM c (f) M) 79)) w) : Calls Tryd.prog 56 #[.pointer (some ⟨V.heap.size, 0, none⟩), l.v] w
    fun e w' => e = .returned (.tuple #[]) ∧ Ext (V.alloc (.cells (wlM c (brSought c f l) M) 79)) w' := by
  cases e1 : (l.a == f.p + 1)
  · have hs : brSought c f l = brOther c f l := by simp [brSought, e1]
    rw [hs]
    exact brSeek_far c f hf l hl hc hfi hn M hM hLM hh e1 V w hw
  · cases e2 : (l.b == brName f f.h)
    · have hs : brSought c f l = brOther c f l := by simp [brSought, e2]
      rw [hs]
      exact brSeek_near c f hf l hl hc hfi hn M hM hLM hh ⟨e1, e2⟩ V w hw
    · have hs : brSought c f l = brFoundC c f l := by simp only [brSought, e1, e2, brFoundC]; rfl
      rw [hs]
      exact brSeek_yes c f hf l hl hc hfi hn M hM hLM hh ⟨e1, e2⟩ V w hw

theorem brAfterW_0 (c : Cfg) (f : Frm) (hf : f.Fits) (l : Cel) (hl : l.Fits) (hc : c.cap ≤ 32) (hfi : f.i < c.cap) (hn : f.n ≤ 32) (M : Int) (hM : 0 ≤ M ∧ M ≤ 3) (hLM : brLong f = M) (hh : f.h < M) (hp : f.pc = 0) (V w : World) (hw : Ext (V.alloc (.cells (wlM c (f) M) 79)) w) : Calls Tryd.prog 28 #[.pointer (some ⟨V.heap.size, 0, none⟩), l.v] w
    fun e w' => e = .returned (.tuple #[]) ∧ Ext (V.alloc (.cells (wlM c (brBehind c f l) M) 79)) w' := by
  obtain ⟨os, d, rfl⟩ := hw
  have HF := Lib.hid hf
  have HL := Lib.hid hl
  have HLM := Lib.hid hLM
  have HMM := Lib.hid hM
  have HP := Lib.hid hp
  have HS : Hid (brBehind c f l = brSought c f l) := Lib.hid (by simp [brBehind, hp, brSought])
  obtain ⟨⟨k0, k1⟩, ⟨a0, a1⟩, ⟨b0, b1⟩, ⟨p0, p1⟩, ⟨i0, i1⟩, ⟨j0, j1⟩, ⟨m0, m1⟩, ⟨q0, q1⟩, ⟨h0, h1⟩, ⟨x0, x1⟩, ⟨y0, y1⟩⟩ := hf; obtain ⟨⟨t0, t1⟩, ⟨la0, la1⟩, ⟨lb0, lb1⟩, ⟨lc0, lc1⟩⟩ := hl
  obtain ⟨fk, fa, fb, fp, fi, fj, fn, fq, fh, fx, fy⟩ := f
  dsimp only at *
  subst hp
  clear hLM
  go_enter Tryd.func28, Tryd.ntmps28
  go_wp2_with (go_at_call 56; refine (brSeek_any c _ HF.out l HL.out hc hfi hn M HMM.out HLM.out hh V _ EX).mono ?_; rintro e w1 ⟨rfl, os1, n1, rfl⟩)
  (go_end0; refine ⟨rfl, ?_⟩; rw [HS.out]; exact EX)

theorem brAfterW_2 (c : Cfg) (f : Frm) (hf : f.Fits) (l : Cel) (hl : l.Fits) (hc : c.cap ≤ 32) (hj : f.j < c.cap) (M : Int) (hM : 0 ≤ M ∧ M ≤ 3) (hLM : brLong f = M) (hh : f.h < M) (hp : f.pc = 2) (V w : World) (hw : Ext (V.alloc (.cells (wlM c (f) M) 79)) w) : Calls Tryd.prog 28 #[.pointer (some ⟨V.heap.size, 0, none⟩), l.v] w
    fun e w' => e = .returned (.tuple #[]) ∧ Ext (V.alloc (.cells (wlM c (brBehind c f l) M) 79)) w' := by
  obtain ⟨os, d, rfl⟩ := hw
  have HLM := Lib.hid hLM
  obtain ⟨⟨k0, k1⟩, ⟨a0, a1⟩, ⟨b0, b1⟩, ⟨p0, p1⟩, ⟨i0, i1⟩, ⟨j0, j1⟩, ⟨m0, m1⟩, ⟨q0, q1⟩, ⟨h0, h1⟩, ⟨x0, x1⟩, ⟨y0, y1⟩⟩ := hf; obtain ⟨⟨t0, t1⟩, ⟨la0, la1⟩, ⟨lb0, lb1⟩, ⟨lc0, lc1⟩⟩ := hl
  have HP := Lib.hid hp
  obtain ⟨fk, fa, fb, fp, fi, fj, fn, fq, fh, fx, fy⟩ := f
  dsimp only at *
  subst hp
  clear hLM
  cases z : (fh + 1 == M)
  · cases zj : decide (fj + 1 < c.cap)
    · have HS : Hid (brBehind c (Frm.mk fk fa fb 2 fi fj fn fq fh fx fy) l = Frm.mk fk fa fb 22 fi fj fn (fj + 1) (fh + 1) fx fy) := Lib.hid (by simp only [brBehind, brMade, HLM.out, z]; simp at zj; simp; omega)
      go_enter Tryd.func28, Tryd.ntmps28
      go_upto_region 5 with fail
      go_region
      go_wp2
      ((refine wp_region_ext_lit (by kernel_rfl) (by kernel_rfl) ?_); (repeat (go_big_quiet_step (fail))); (refine wpQuiet_nil ?_; intro _ hw'; obtain ⟨⟨osq, nq⟩, hw''⟩ := hw'; replace hw'' : _ = grew _ osq nq := hw''; subst hw''))
      go_wp2
      ((refine wp_region_ext_lit (by kernel_rfl) (by kernel_rfl) ?_); (repeat (go_big_quiet_step (fail))); (refine wpQuiet_nil ?_; intro _ hw'; obtain ⟨⟨osq, nq⟩, hw''⟩ := hw'; replace hw'' : _ = grew _ osq nq := hw''; subst hw''))
      go_wp2
      (go_end0; refine ⟨rfl, ?_⟩; rw [HS.out]; exact EX)
    · have HS : Hid (brBehind c (Frm.mk fk fa fb 2 fi fj fn fq fh fx fy) l = Frm.mk fk fa fb 3 (fj + 1) fj fn (fj + 1) (fh + 1) fx fy) := Lib.hid (by simp only [brBehind, brMade, HLM.out, z]; simp at zj; simp; omega)
      go_enter Tryd.func28, Tryd.ntmps28
      go_upto_region 5 with fail
      go_region
      go_wp2
      ((refine wp_region_ext_lit (by kernel_rfl) (by kernel_rfl) ?_); (repeat (go_big_quiet_step (fail))); (refine wpQuiet_nil ?_; intro _ hw'; obtain ⟨⟨osq, nq⟩, hw''⟩ := hw'; replace hw'' : _ = grew _ osq nq := hw''; subst hw''))
      go_wp2
      ((refine wp_region_ext_lit (by kernel_rfl) (by kernel_rfl) ?_); (repeat (go_big_quiet_step (fail))); (refine wpQuiet_nil ?_; intro _ hw'; obtain ⟨⟨osq, nq⟩, hw''⟩ := hw'; replace hw'' : _ = grew _ osq nq := hw''; subst hw''))
      go_wp2
      (go_end0; refine ⟨rfl, ?_⟩; rw [HS.out]; exact EX)
  · have HS : Hid (brBehind c (Frm.mk fk fa fb 2 fi fj fn fq fh fx fy) l = Frm.mk fk fa fb 20 fi fj fn (fj + 1) (fh + 1) 0 fy) := Lib.hid (by simp only [brBehind, brMade, HLM.out, z]; simp)
    go_enter Tryd.func28, Tryd.ntmps28
    go_upto_region 5 with fail
    go_region
    go_wp2
    ((refine wp_region_ext_lit (by kernel_rfl) (by kernel_rfl) ?_); (repeat (go_big_quiet_step (fail))); (refine wpQuiet_nil ?_; intro _ hw'; obtain ⟨⟨osq, nq⟩, hw''⟩ := hw'; replace hw'' : _ = grew _ osq nq := hw''; subst hw''))
    go_wp2
    (refine bodyPost_ret (results_none rfl _ _ _) rfl ⟨rfl, ?_⟩; rw [HS.out]; exact EX)

theorem brAfterW_3 (c : Cfg) (f : Frm) (hf : f.Fits) (l : Cel) (hl : l.Fits) (hc : c.cap ≤ 32) (M : Int) (hM : 0 ≤ M ∧ M ≤ 3) (hp : f.pc = 3) (V w : World) (hw : Ext (V.alloc (.cells (wlM c (f) M) 79)) w) : Calls Tryd.prog 28 #[.pointer (some ⟨V.heap.size, 0, none⟩), l.v] w
    fun e w' => e = .returned (.tuple #[]) ∧ Ext (V.alloc (.cells (wlM c (brBehind c f l) M) 79)) w' := by
  obtain ⟨os, d, rfl⟩ := hw
  have HF := Lib.hid hf
  have HMM := Lib.hid hM
  obtain ⟨⟨k0, k1⟩, ⟨a0, a1⟩, ⟨b0, b1⟩, ⟨p0, p1⟩, ⟨i0, i1⟩, ⟨j0, j1⟩, ⟨m0, m1⟩, ⟨q0, q1⟩, ⟨h0, h1⟩, ⟨x0, x1⟩, ⟨y0, y1⟩⟩ := hf; obtain ⟨⟨t0, t1⟩, ⟨la0, la1⟩, ⟨lb0, lb1⟩, ⟨lc0, lc1⟩⟩ := hl
  obtain ⟨fk, fa, fb, fp, fi, fj, fn, fq, fh, fx, fy⟩ := f
  dsimp only at *
  subst hp
  cases z : (l.a == 0)
  · by_cases hi : fi + 1 < c.cap
    · have HS : Hid (brBehind c (Frm.mk fk fa fb 3 fi fj fn fq fh fx fy) l = Frm.mk fk fa fb 3 (fi + 1) fj fn fq fh fx fy) := Lib.hid (by simp [brBehind, z, hi])
      have HI := Lib.hid hi
      clear hi
      go_enter Tryd.func28, Tryd.ntmps28
      go_wp2_with (go_at_call 57; refine (brMore_on 58 c (Frm.mk fk fa fb 3 fi fj fn fq fh fx fy) HF.out hc HI.out M V _ EX).mono ?_; rintro e w1 ⟨rfl, os1, n1, rfl⟩)
      (go_end0; refine ⟨rfl, ?_⟩; rw [HS.out]; exact EX)
    · have HS : Hid (brBehind c (Frm.mk fk fa fb 3 fi fj fn fq fh fx fy) l = Frm.mk fk fa fb 22 fi fj fn fq fh fx fy) := Lib.hid (by simp [brBehind, z, hi])
      have HI : Hid (c.cap ≤ fi + 1) := Lib.hid (by omega)
      clear hi
      go_enter Tryd.func28, Tryd.ntmps28
      go_wp2_with (go_at_call 57; refine (brMore_packed c (Frm.mk fk fa fb 3 fi fj fn fq fh fx fy) HF.out HI.out M HMM.out V _ EX).mono ?_; rintro e w1 ⟨rfl, os1, n1, rfl⟩)
      (go_end0; refine ⟨rfl, ?_⟩; rw [HS.out]; exact EX)
  · have HS : Hid (brBehind c (Frm.mk fk fa fb 3 fi fj fn fq fh fx fy) l = Frm.mk fk fa fb 2 fi fi fn fq fh fx fy) := Lib.hid (by simp [brBehind, z])
    go_enter Tryd.func28, Tryd.ntmps28
    go_wp2
    (refine bodyPost_ret (results_none rfl _ _ _) rfl ⟨rfl, ?_⟩; rw [HS.out]; exact EX)

theorem brAfterW_5 (c : Cfg) (f : Frm) (hf : f.Fits) (l : Cel) (hl : l.Fits) (hc : c.cap ≤ 32) (M : Int) (hM : 0 ≤ M ∧ M ≤ 3) (hp : f.pc = 5) (V w : World) (hw : Ext (V.alloc (.cells (wlM c (f) M) 79)) w) : Calls Tryd.prog 28 #[.pointer (some ⟨V.heap.size, 0, none⟩), l.v] w
    fun e w' => e = .returned (.tuple #[]) ∧ Ext (V.alloc (.cells (wlM c (brBehind c f l) M) 79)) w' := by
  obtain ⟨os, d, rfl⟩ := hw
  have HF := Lib.hid hf
  have HMM := Lib.hid hM
  obtain ⟨⟨k0, k1⟩, ⟨a0, a1⟩, ⟨b0, b1⟩, ⟨p0, p1⟩, ⟨i0, i1⟩, ⟨j0, j1⟩, ⟨m0, m1⟩, ⟨q0, q1⟩, ⟨h0, h1⟩, ⟨x0, x1⟩, ⟨y0, y1⟩⟩ := hf; obtain ⟨⟨t0, t1⟩, ⟨la0, la1⟩, ⟨lb0, lb1⟩, ⟨lc0, lc1⟩⟩ := hl
  obtain ⟨fk, fa, fb, fp, fi, fj, fn, fq, fh, fx, fy⟩ := f
  dsimp only at *
  subst hp
  cases z : (l.a == fq + 1)
  · by_cases hi : fi + 1 < c.cap
    · have HS : Hid (brBehind c (Frm.mk fk fa fb 5 fi fj fn fq fh fx fy) l = Frm.mk fk fa fb 5 (fi + 1) fj fn fq fh fx fy) := Lib.hid (by simp [brBehind, z, hi])
      have HI := Lib.hid hi
      clear hi
      go_enter Tryd.func28, Tryd.ntmps28
      go_wp2
      ((refine wp_region_ext_lit (by kernel_rfl) (by kernel_rfl) ?_); (repeat (go_big_quiet_step (fail))); (refine wpQuiet_nil ?_; intro _ hw'; obtain ⟨⟨osq, nq⟩, hw''⟩ := hw'; replace hw'' : _ = grew _ osq nq := hw''; subst hw''))
      go_wp2_with (go_at_call 57; refine (brMore_on 59 c (Frm.mk fk fa fb 5 fi fj fn fq fh fx fy) HF.out hc HI.out M V _ EX).mono ?_; rintro e w1 ⟨rfl, os1, n1, rfl⟩)
      (go_end0; refine ⟨rfl, ?_⟩; rw [HS.out]; exact EX)
    · have HS : Hid (brBehind c (Frm.mk fk fa fb 5 fi fj fn fq fh fx fy) l = Frm.mk fk fa fb 6 fi fj fn fq fh fx fy) := Lib.hid (by simp [brBehind, z, hi])
      have HI : Hid (c.cap ≤ fi + 1) := Lib.hid (by omega)
      clear hi
      go_enter Tryd.func28, Tryd.ntmps28
      go_wp2
      ((refine wp_region_ext_lit (by kernel_rfl) (by kernel_rfl) ?_); (repeat (go_big_quiet_step (fail))); (refine wpQuiet_nil ?_; intro _ hw'; obtain ⟨⟨osq, nq⟩, hw''⟩ := hw'; replace hw'' : _ = grew _ osq nq := hw''; subst hw''))
      go_wp2_with (go_at_call 57; refine (brMore_alone c (Frm.mk fk fa fb 5 fi fj fn fq fh fx fy) HF.out HI.out M HMM.out V _ EX).mono ?_; rintro e w1 ⟨rfl, os1, n1, rfl⟩)
      (go_end0; refine ⟨rfl, ?_⟩; rw [HS.out]; exact EX)
  · have HS : Hid (brBehind c (Frm.mk fk fa fb 5 fi fj fn fq fh fx fy) l = Frm.mk fk fa fb 23 fi fj fn fq fh fx fy) := Lib.hid (by simp [brBehind, z])
    go_enter Tryd.func28, Tryd.ntmps28
    go_wp2
    ((refine wp_region_ext_lit (by kernel_rfl) (by kernel_rfl) ?_); (repeat (go_big_quiet_step (fail))); (refine wpQuiet_nil ?_; intro _ hw'; obtain ⟨⟨osq, nq⟩, hw''⟩ := hw'; replace hw'' : _ = grew _ osq nq := hw''; subst hw''))
    go_wp2
    (refine bodyPost_ret (results_none rfl _ _ _) rfl ⟨rfl, ?_⟩; rw [HS.out]; exact EX)

theorem brAfterW_4 (c : Cfg) (f : Frm) (l : Cel) (M : Int) (hp : f.pc = 4 ∨ f.pc = 6) (V w : World) (hw : Ext (V.alloc (.cells (wlM c (f) M) 79)) w) : Calls Tryd.prog 28 #[.pointer (some ⟨V.heap.size, 0, none⟩), l.v] w
    fun e w' => e = .returned (.tuple #[]) ∧ Ext (V.alloc (.cells (wlM c (brBehind c f l) M) 79)) w' := by
  obtain ⟨os, d, rfl⟩ := hw
  obtain ⟨fk, fa, fb, fp, fi, fj, fn, fq, fh, fx, fy⟩ := f
  dsimp only at *
  rcases hp with rfl | rfl
  · have HS : Hid (brBehind c (Frm.mk fk fa fb 4 fi fj fn fq fh fx fy) l = Frm.mk fk fa fb 20 fi fj fn fq fh fx fy) := Lib.hid (by simp [brBehind])
    go_enter Tryd.func28, Tryd.ntmps28
    go_wp2
    (go_end0; refine ⟨rfl, ?_⟩; rw [HS.out]; exact EX)
  · have HS : Hid (brBehind c (Frm.mk fk fa fb 6 fi fj fn fq fh fx fy) l = Frm.mk fk fa fb 20 fi fj fn fq fh fx fy) := Lib.hid (by simp [brBehind])
    go_enter Tryd.func28, Tryd.ntmps28
    go_wp2
    (go_end0; refine ⟨rfl, ?_⟩; rw [HS.out]; exact EX)
theorem brAfterW_20 (c : Cfg) (f : Frm) (l : Cel) (M : Int) (hp : f.pc = 20 ∨ f.pc = 21 ∨ f.pc = 22 ∨ f.pc = 23) (V w : World) (hw : Ext (V.alloc (.cells (wlM c (f) M) 79)) w) : Calls Tryd.prog 28 #[.pointer (some ⟨V.heap.size, 0, none⟩), l.v] w
    fun e w' => e = .returned (.tuple #[]) ∧ Ext (V.alloc (.cells (wlM c (brBehind c f l) M) 79)) w' := by
  obtain ⟨os, d, rfl⟩ := hw
  obtain ⟨fk, fa, fb, fp, fi, fj, fn, fq, fh, fx, fy⟩ := f
  dsimp only at *
  rcases hp with rfl | rfl | rfl | rfl
  · have HS : Hid (brBehind c (Frm.mk fk fa fb 20 fi fj fn fq fh fx fy) l = Frm.mk fk fa fb 20 fi fj fn fq fh fx fy) := Lib.hid (by simp [brBehind])
    go_enter Tryd.func28, Tryd.ntmps28
    go_wp2
    (go_end0; refine ⟨rfl, ?_⟩; rw [HS.out]; exact EX)
  · have HS : Hid (brBehind c (Frm.mk fk fa fb 21 fi fj fn fq fh fx fy) l = Frm.mk fk fa fb 21 fi fj fn fq fh fx fy) := Lib.hid (by simp [brBehind])
    go_enter Tryd.func28, Tryd.ntmps28
    go_wp2
    (go_end0; refine ⟨rfl, ?_⟩; rw [HS.out]; exact EX)
  · have HS : Hid (brBehind c (Frm.mk fk fa fb 22 fi fj fn fq fh fx fy) l = Frm.mk fk fa fb 22 fi fj fn fq fh fx fy) := Lib.hid (by simp [brBehind])
    go_enter Tryd.func28, Tryd.ntmps28
    go_wp2
    (go_end0; refine ⟨rfl, ?_⟩; rw [HS.out]; exact EX)
  · have HS : Hid (brBehind c (Frm.mk fk fa fb 23 fi fj fn fq fh fx fy) l = Frm.mk fk fa fb 23 fi fj fn fq fh fx fy) := Lib.hid (by simp [brBehind])
    go_enter Tryd.func28, Tryd.ntmps28
    go_wp2
    (go_end0; refine ⟨rfl, ?_⟩; rw [HS.out]; exact EX)
end Go.Proofs.YtmbodooikfmegaaDoor
