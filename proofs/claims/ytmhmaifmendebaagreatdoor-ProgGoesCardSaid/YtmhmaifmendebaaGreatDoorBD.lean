/- The walk of 'after'. -/
import Derived.Test.YtmhmaifmendebaaGreatDoorBC
import Derived.Test.YtmhmaifmendebaaGreatDoorBA
namespace Go.Proofs.YtmhmaifmendebaaGreatDoor.branch
open Go Go.RowKit
set_option maxRecDepth 100000
set_option maxHeartbeats 8000000


def brSought (c : Cfg) (f : Frm) (l : Cel) : Frm := if l.a == f.p + 1 && l.b == brName f f.h then brFound f l else brOther c f l
theorem brSeek_any (c : Cfg) (f : Frm) (hf : f.Fits) (l : Cel) (hl : l.Fits) (hc : c.cap ≤ 32) (hfi : f.i < c.cap) (hn : f.n ≤ 32) (M : Int) (hM : 0 ≤ M ∧ M ≤ 3) (hLM : brLong f = M) (hh : f.h < M) (V w : World) (hw : Ext (V.alloc (.cells (wlM c (f) M) 79)) w) : Calls Tryz.prog 100 #[.pointer (some ⟨V.heap.size, 0, none⟩), l.v] w
    fun e w' => e = .returned (.tuple #[]) ∧ Ext (V.alloc (.cells (wlM c (brSought c f l) M) 79)) w' := by
  cases e1 : (l.a == f.p + 1)
  · have hs : brSought c f l = brOther c f l := by simp [brSought, e1]
    rw [hs]
    exact brSeek_far c f hf l hl hc hfi hn M hM hLM hh e1 V w hw
  · cases e2 : (l.b == brName f f.h)
    · have hs : brSought c f l = brOther c f l := by simp [brSought, e2]
      rw [hs]
      exact brSeek_near c f hf l hl hc hfi hn M hM hLM hh ⟨e1, e2⟩ V w hw
    · have hs : brSought c f l = brFoundC c f l := by simp only [brSought, e1, e2, brFoundC]; rfl
      rw [hs]
      exact brSeek_yes c f hf l hl hc hfi hn M hM hLM hh ⟨e1, e2⟩ V w hw

theorem brAfterW_0 (c : Cfg) (f : Frm) (hf : f.Fits) (l : Cel) (hl : l.Fits) (hc : c.cap ≤ 32) (hfi : f.i < c.cap) (hn : f.n ≤ 32) (M : Int) (hM : 0 ≤ M ∧ M ≤ 3) (hLM : brLong f = M) (hh : f.h < M) (hp : f.pc = 0) (V w : World) (hw : Ext (V.alloc (.cells (wlM c (f) M) 79)) w) : Calls Tryz.prog 50 #[.pointer (some ⟨V.heap.size, 0, none⟩), l.v] w
    fun e w' => e = .returned (.tuple #[]) ∧ Ext (V.alloc (.cells (wlM c (brBehind c f l) M) 79)) w' := by
  obtain ⟨os, d, rfl⟩ := hw
  have HF := Lib.hid hf
  have HL := Lib.hid hl
  have HLM := Lib.hid hLM
  have HMM := Lib.hid hM
  have HP := Lib.hid hp
  have HS : Hid (brBehind c f l = brSought c f l) := Lib.hid (by simp [brBehind, hp, brSought])
  obtain ⟨⟨k0, k1⟩, ⟨a0, a1⟩, ⟨b0, b1⟩, ⟨p0, p1⟩, ⟨i0, i1⟩, ⟨j0, j1⟩, ⟨m0, m1⟩, ⟨q0, q1⟩, ⟨h0, h1⟩, ⟨x0, x1⟩, ⟨y0, y1⟩⟩ := hf; obtain ⟨⟨t0, t1⟩, ⟨la0, la1⟩, ⟨lb0, lb1⟩, ⟨lc0, lc1⟩⟩ := hl
  obtain ⟨fk, fa, fb, fp, fi, fj, fn, fq, fh, fx, fy⟩ := f
  dsimp only at *
  subst hp
  clear hLM
  go_enter Tryz.func50, Tryz.ntmps50
  go_wp2_with (go_at_call 100; refine (brSeek_any c _ HF.out l HL.out hc hfi hn M HMM.out HLM.out hh V _ EX).mono ?_; rintro e w1 ⟨rfl, os1, n1, rfl⟩)
  (go_end0; refine ⟨rfl, ?_⟩; rw [HS.out]; exact EX)

theorem brAfterW_2 (c : Cfg) (f : Frm) (hf : f.Fits) (l : Cel) (hl : l.Fits) (hc : c.cap ≤ 32) (hj : f.j < c.cap) (M : Int) (hM : 0 ≤ M ∧ M ≤ 3) (hLM : brLong f = M) (hh : f.h < M) (hp : f.pc = 2) (V w : World) (hw : Ext (V.alloc (.cells (wlM c (f) M) 79)) w) : Calls Tryz.prog 50 #[.pointer (some ⟨V.heap.size, 0, none⟩), l.v] w
    fun e w' => e = .returned (.tuple #[]) ∧ Ext (V.alloc (.cells (wlM c (brBehind c f l) M) 79)) w' := by
  obtain ⟨os, d, rfl⟩ := hw
  have HLM := Lib.hid hLM
  obtain ⟨⟨k0, k1⟩, ⟨a0, a1⟩, ⟨b0, b1⟩, ⟨p0, p1⟩, ⟨i0, i1⟩, ⟨j0, j1⟩, ⟨m0, m1⟩, ⟨q0, q1⟩, ⟨h0, h1⟩, ⟨x0, x1⟩, ⟨y0, y1⟩⟩ := hf; obtain ⟨⟨t0, t1⟩, ⟨la0, la1⟩, ⟨lb0, lb1⟩, ⟨lc0, lc1⟩⟩ := hl
  have HP := Lib.hid hp
  obtain ⟨fk, fa, fb, fp, fi, fj, fn, fq, fh, fx, fy⟩ := f
  dsimp only at *
  subst hp
  clear hLM
  cases z : (fh + 1 == M)
  · cases zj : decide (fj + 1 < c.cap)
    · have HS : Hid (brBehind c (Frm.mk fk fa fb 2 fi fj fn fq fh fx fy) l = Frm.mk fk fa fb 22 fi fj fn (fj + 1) (fh + 1) fx fy) := Lib.hid (by simp only [brBehind, brMade, HLM.out, z]; simp at zj; simp; omega)
      go_enter Tryz.func50, Tryz.ntmps50
      go_upto_region 5 with fail
      go_region
      go_wp2
      ((refine wp_region_ext_lit (by kernel_rfl) (by kernel_rfl) ?_); (repeat (go_big_quiet_step (fail))); (refine wpQuiet_nil ?_; intro _ hw'; obtain ⟨⟨osq, nq⟩, hw''⟩ := hw'; replace hw'' : _ = grew _ osq nq := hw''; subst hw''))
      go_wp2
      ((refine wp_region_ext_lit (by kernel_rfl) (by kernel_rfl) ?_); (repeat (go_big_quiet_step (fail))); (refine wpQuiet_nil ?_; intro _ hw'; obtain ⟨⟨osq, nq⟩, hw''⟩ := hw'; replace hw'' : _ = grew _ osq nq := hw''; subst hw''))
      go_wp2
      (go_end0; refine ⟨rfl, ?_⟩; rw [HS.out]; exact EX)
    · have HS : Hid (brBehind c (Frm.mk fk fa fb 2 fi fj fn fq fh fx fy) l = Frm.mk fk fa fb 3 (fj + 1) fj fn (fj + 1) (fh + 1) fx fy) := Lib.hid (by simp only [brBehind, brMade, HLM.out, z]; simp at zj; simp; omega)
      go_enter Tryz.func50, Tryz.ntmps50
      go_upto_region 5 with fail
      go_region
      go_wp2
      ((refine wp_region_ext_lit (by kernel_rfl) (by kernel_rfl) ?_); (repeat (go_big_quiet_step (fail))); (refine wpQuiet_nil ?_; intro _ hw'; obtain ⟨⟨osq, nq⟩, hw''⟩ := hw'; replace hw'' : _ = grew _ osq nq := hw''; subst hw''))
      go_wp2
      ((refine wp_region_ext_lit (by kernel_rfl) (by kernel_rfl) ?_); (repeat (go_big_quiet_step (fail))); (refine wpQuiet_nil ?_; intro _ hw'; obtain ⟨⟨osq, nq⟩, hw''⟩ := hw'; replace hw'' : _ = grew _ osq nq := hw''; subst hw''))
      go_wp2
      (go_end0; refine ⟨rfl, ?_⟩; rw [HS.out]; exact EX)
  · have HS : Hid (brBehind c (Frm.mk fk fa fb 2 fi fj fn fq fh fx fy) l = Frm.mk fk fa fb 20 fi fj fn (fj + 1) (fh + 1) 0 fy) := Lib.hid (by simp only [brBehind, brMade, HLM.out, z]; simp)
    go_enter Tryz.func50, Tryz.ntmps50
    go_upto_region 5 with fail
    go_region
    go_wp2
    ((refine wp_region_ext_lit (by kernel_rfl) (by kernel_rfl) ?_); (repeat (go_big_quiet_step (fail))); (refine wpQuiet_nil ?_; intro _ hw'; obtain ⟨⟨osq, nq⟩, hw''⟩ := hw'; replace hw'' : _ = grew _ osq nq := hw''; subst hw''))
    go_wp2
    (refine bodyPost_ret (results_none rfl _ _ _) rfl ⟨rfl, ?_⟩; rw [HS.out]; exact EX)

theorem brAfterW_3 (c : Cfg) (f : Frm) (hf : f.Fits) (l : Cel) (hl : l.Fits) (hc : c.cap ≤ 32) (M : Int) (hM : 0 ≤ M ∧ M ≤ 3) (hp : f.pc = 3) (V w : World) (hw : Ext (V.alloc (.cells (wlM c (f) M) 79)) w) : Calls Tryz.prog 50 #[.pointer (some ⟨V.heap.size, 0, none⟩), l.v] w
    fun e w' => e = .returned (.tuple #[]) ∧ Ext (V.alloc (.cells (wlM c (brBehind c f l) M) 79)) w' := by
  obtain ⟨os, d, rfl⟩ := hw
  have HF := Lib.hid hf
  have HMM := Lib.hid hM
  obtain ⟨⟨k0, k1⟩, ⟨a0, a1⟩, ⟨b0, b1⟩, ⟨p0, p1⟩, ⟨i0, i1⟩, ⟨j0, j1⟩, ⟨m0, m1⟩, ⟨q0, q1⟩, ⟨h0, h1⟩, ⟨x0, x1⟩, ⟨y0, y1⟩⟩ := hf; obtain ⟨⟨t0, t1⟩, ⟨la0, la1⟩, ⟨lb0, lb1⟩, ⟨lc0, lc1⟩⟩ := hl
  obtain ⟨fk, fa, fb, fp, fi, fj, fn, fq, fh, fx, fy⟩ := f
  dsimp only at *
  subst hp
  cases z : (l.a == 0)
  · by_cases hi : fi + 1 < c.cap
    · have HS : Hid (brBehind c (Frm.mk fk fa fb 3 fi fj fn fq fh fx fy) l = Frm.mk fk fa fb 3 (fi + 1) fj fn fq fh fx fy) := Lib.hid (by simp [brBehind, z, hi])
      have HI := Lib.hid hi
      clear hi
      go_enter Tryz.func50, Tryz.ntmps50
      go_wp2_with (go_at_call 101; refine (brMore_on 102 c (Frm.mk fk fa fb 3 fi fj fn fq fh fx fy) HF.out hc HI.out M V _ EX).mono ?_; rintro e w1 ⟨rfl, os1, n1, rfl⟩)
      (go_end0; refine ⟨rfl, ?_⟩; rw [HS.out]; exact EX)
    · have HS : Hid (brBehind c (Frm.mk fk fa fb 3 fi fj fn fq fh fx fy) l = Frm.mk fk fa fb 22 fi fj fn fq fh fx fy) := Lib.hid (by simp [brBehind, z, hi])
      have HI : Hid (c.cap ≤ fi + 1) := Lib.hid (by omega)
      clear hi
      go_enter Tryz.func50, Tryz.ntmps50
      go_wp2_with (go_at_call 101; refine (brMore_packed c (Frm.mk fk fa fb 3 fi fj fn fq fh fx fy) HF.out HI.out M HMM.out V _ EX).mono ?_; rintro e w1 ⟨rfl, os1, n1, rfl⟩)
      (go_end0; refine ⟨rfl, ?_⟩; rw [HS.out]; exact EX)
  · have HS : Hid (brBehind c (Frm.mk fk fa fb 3 fi fj fn fq fh fx fy) l = Frm.mk fk fa fb 2 fi fi fn fq fh fx fy) := Lib.hid (by simp [brBehind, z])
    go_enter Tryz.func50, Tryz.ntmps50
    go_wp2
    (refine bodyPost_ret (results_none rfl _ _ _) rfl ⟨rfl, ?_⟩; rw [HS.out]; exact EX)

theorem brAfterW_5 (c : Cfg) (f : Frm) (hf : f.Fits) (l : Cel) (hl : l.Fits) (hc : c.cap ≤ 32) (M : Int) (hM : 0 ≤ M ∧ M ≤ 3) (hp : f.pc = 5) (V w : World) (hw : Ext (V.alloc (.cells (wlM c (f) M) 79)) w) : Calls Tryz.prog 50 #[.pointer (some ⟨V.heap.size, 0, none⟩), l.v] w
    fun e w' => e = .returned (.tuple #[]) ∧ Ext (V.alloc (.cells (wlM c (brBehind c f l) M) 79)) w' := by
  obtain ⟨os, d, rfl⟩ := hw
  have HF := Lib.hid hf
  have HMM := Lib.hid hM
  obtain ⟨⟨k0, k1⟩, ⟨a0, a1⟩, ⟨b0, b1⟩, ⟨p0, p1⟩, ⟨i0, i1⟩, ⟨j0, j1⟩, ⟨m0, m1⟩, ⟨q0, q1⟩, ⟨h0, h1⟩, ⟨x0, x1⟩, ⟨y0, y1⟩⟩ := hf; obtain ⟨⟨t0, t1⟩, ⟨la0, la1⟩, ⟨lb0, lb1⟩, ⟨lc0, lc1⟩⟩ := hl
  obtain ⟨fk, fa, fb, fp, fi, fj, fn, fq, fh, fx, fy⟩ := f
  dsimp only at *
  subst hp
  cases z : (l.a == fq + 1)
  · by_cases hi : fi + 1 < c.cap
    · have HS : Hid (brBehind c (Frm.mk fk fa fb 5 fi fj fn fq fh fx fy) l = Frm.mk fk fa fb 5 (fi + 1) fj fn fq fh fx fy) := Lib.hid (by simp [brBehind, z, hi])
      have HI := Lib.hid hi
      clear hi
      go_enter Tryz.func50, Tryz.ntmps50
      go_wp2
      ((refine wp_region_ext_lit (by kernel_rfl) (by kernel_rfl) ?_); (repeat (go_big_quiet_step (fail))); (refine wpQuiet_nil ?_; intro _ hw'; obtain ⟨⟨osq, nq⟩, hw''⟩ := hw'; replace hw'' : _ = grew _ osq nq := hw''; subst hw''))
      go_wp2_with (go_at_call 101; refine (brMore_on 103 c (Frm.mk fk fa fb 5 fi fj fn fq fh fx fy) HF.out hc HI.out M V _ EX).mono ?_; rintro e w1 ⟨rfl, os1, n1, rfl⟩)
      (go_end0; refine ⟨rfl, ?_⟩; rw [HS.out]; exact EX)
    · have HS : Hid (brBehind c (Frm.mk fk fa fb 5 fi fj fn fq fh fx fy) l = Frm.mk fk fa fb 6 fi fj fn fq fh fx fy) := Lib.hid (by simp [brBehind, z, hi])
      have HI : Hid (c.cap ≤ fi + 1) := Lib.hid (by omega)
      clear hi
      go_enter Tryz.func50, Tryz.ntmps50
      go_wp2
      ((refine wp_region_ext_lit (by kernel_rfl) (by kernel_rfl) ?_); (repeat (go_big_quiet_step (fail))); (refine wpQuiet_nil ?_; intro _ hw'; obtain ⟨⟨osq, nq⟩, hw''⟩ := hw'; replace hw'' : _ = grew _ osq nq := hw''; subst hw''))
      go_wp2_with (go_at_call 101; refine (brMore_alone c (Frm.mk fk fa fb 5 fi fj fn fq fh fx fy) HF.out HI.out M HMM.out V _ EX).mono ?_; rintro e w1 ⟨rfl, os1, n1, rfl⟩)
      (go_end0; refine ⟨rfl, ?_⟩; rw [HS.out]; exact EX)
  · have HS : Hid (brBehind c (Frm.mk fk fa fb 5 fi fj fn fq fh fx fy) l = Frm.mk fk fa fb 23 fi fj fn fq fh fx fy) := Lib.hid (by simp [brBehind, z])
    go_enter Tryz.func50, Tryz.ntmps50
    go_wp2
    ((refine wp_region_ext_lit (by kernel_rfl) (by kernel_rfl) ?_); (repeat (go_big_quiet_step (fail))); (refine wpQuiet_nil ?_; intro _ hw'; obtain ⟨⟨osq, nq⟩, hw''⟩ := hw'; replace hw'' : _ = grew _ osq nq := hw''; subst hw''))
    go_wp2
    (refine bodyPost_ret (results_none rfl _ _ _) rfl ⟨rfl, ?_⟩; rw [HS.out]; exact EX)

theorem brAfterW_4 (c : Cfg) (f : Frm) (l : Cel) (M : Int) (hp : f.pc = 4 ∨ f.pc = 6) (V w : World) (hw : Ext (V.alloc (.cells (wlM c (f) M) 79)) w) : Calls Tryz.prog 50 #[.pointer (some ⟨V.heap.size, 0, none⟩), l.v] w
    fun e w' => e = .returned (.tuple #[]) ∧ Ext (V.alloc (.cells (wlM c (brBehind c f l) M) 79)) w' := by
  obtain ⟨os, d, rfl⟩ := hw
  obtain ⟨fk, fa, fb, fp, fi, fj, fn, fq, fh, fx, fy⟩ := f
  dsimp only at *
  rcases hp with rfl | rfl
  · have HS : Hid (brBehind c (Frm.mk fk fa fb 4 fi fj fn fq fh fx fy) l = Frm.mk fk fa fb 20 fi fj fn fq fh fx fy) := Lib.hid (by simp [brBehind])
    go_enter Tryz.func50, Tryz.ntmps50
    go_wp2
    (go_end0; refine ⟨rfl, ?_⟩; rw [HS.out]; exact EX)
  · have HS : Hid (brBehind c (Frm.mk fk fa fb 6 fi fj fn fq fh fx fy) l = Frm.mk fk fa fb 20 fi fj fn fq fh fx fy) := Lib.hid (by simp [brBehind])
    go_enter Tryz.func50, Tryz.ntmps50
    go_wp2
    (go_end0; refine ⟨rfl, ?_⟩; rw [HS.out]; exact EX)
theorem brAfterW_20 (c : Cfg) (f : Frm) (l : Cel) (M : Int) (hp : f.pc = 20 ∨ f.pc = 21 ∨ f.pc = 22 ∨ f.pc = 23) (V w : World) (hw : Ext (V.alloc (.cells (wlM c (f) M) 79)) w) : Calls Tryz.prog 50 #[.pointer (some ⟨V.heap.size, 0, none⟩), l.v] w
    fun e w' => e = .returned (.tuple #[]) ∧ Ext (V.alloc (.cells (wlM c (brBehind c f l) M) 79)) w' := by
  obtain ⟨os, d, rfl⟩ := hw
  obtain ⟨fk, fa, fb, fp, fi, fj, fn, fq, fh, fx, fy⟩ := f
  dsimp only at *
  rcases hp with rfl | rfl | rfl | rfl
  · have HS : Hid (brBehind c (Frm.mk fk fa fb 20 fi fj fn fq fh fx fy) l = Frm.mk fk fa fb 20 fi fj fn fq fh fx fy) := Lib.hid (by simp [brBehind])
    go_enter Tryz.func50, Tryz.ntmps50
    go_wp2
    (go_end0; refine ⟨rfl, ?_⟩; rw [HS.out]; exact EX)
  · have HS : Hid (brBehind c (Frm.mk fk fa fb 21 fi fj fn fq fh fx fy) l = Frm.mk fk fa fb 21 fi fj fn fq fh fx fy) := Lib.hid (by simp [brBehind])
    go_enter Tryz.func50, Tryz.ntmps50
    go_wp2
    (go_end0; refine ⟨rfl, ?_⟩; rw [HS.out]; exact EX)
  · have HS : Hid (brBehind c (Frm.mk fk fa fb 22 fi fj fn fq fh fx fy) l = Frm.mk fk fa fb 22 fi fj fn fq fh fx fy) := Lib.hid (by simp [brBehind])
    go_enter Tryz.func50, Tryz.ntmps50
    go_wp2
    (go_end0; refine ⟨rfl, ?_⟩; rw [HS.out]; exact EX)
  · have HS : Hid (brBehind c (Frm.mk fk fa fb 23 fi fj fn fq fh fx fy) l = Frm.mk fk fa fb 23 fi fj fn fq fh fx fy) := Lib.hid (by simp [brBehind])
    go_enter Tryz.func50, Tryz.ntmps50
    go_wp2
    (go_end0; refine ⟨rfl, ?_⟩; rw [HS.out]; exact EX)
end Go.Proofs.YtmhmaifmendebaaGreatDoor.branch
/- The walk of 'branch.After'. -/
namespace Go.Proofs.YtmhmaifmendebaaGreatDoor.branch
open Go Go.RowKit
set_option maxRecDepth 100000
set_option maxHeartbeats 8000000

theorem brAfterW_any (c : Cfg) (f : Frm) (hf : f.Fits) (l : Cel) (hl : l.Fits) (he : brErr c f = 0) (M : Int) (hLM : brLong f = M) (V w : World) (b : Nat) (hb : V.heap.size = b) (hw : Ext (V.alloc (.cells (wlM c (f) M) 79)) w) : Calls Tryz.prog 50 #[.pointer (some ⟨b, 0, none⟩), l.v] w
    fun e w' => e = .returned (.tuple #[]) ∧ Ext (V.alloc (.cells (wlM c (brBehind c f l) M) 79)) w' := by
  subst hb
  obtain ⟨hp, ho, h4⟩ := brErr_ok he
  obtain ⟨m1, m2, m3, m4, m5, m6, m7, m8, m9, m10, m11⟩ := brMay_facts h4
  have hc := (partOk_cap hp).2
  have hl3 := brLong_le f
  rw [hLM] at hl3 m7 m8
  have hpc := brHas_pc m2
  have hat : (f.pc = 0 → f.i < c.cap) ∧ (f.pc = 2 → f.j < c.cap) := by
    constructor <;> (intro h; simpa [brAt, h] using m10)
  have hn := m5
  rcases hpc with h | h | h | h | h | h | h | h | h | h
  · exact brAfterW_0 c f hf l hl hc (hat.1 h) (by omega) M hl3 hLM (m8 (Or.inl h)) h V w hw
  · exact brAfterW_3 c f hf l hl hc M hl3 h V w hw
  · exact brAfterW_5 c f hf l hl hc M hl3 h V w hw
  · exact brAfterW_4 c f l M (Or.inr h) V w hw
  · exact brAfterW_2 c f hf l hl hc (hat.2 h) M hl3 hLM (m8 (Or.inr h)) h V w hw
  · exact brAfterW_4 c f l M (Or.inl h) V w hw
  · exact brAfterW_20 c f l M (by omega) V w hw
  · exact brAfterW_20 c f l M (by omega) V w hw
  · exact brAfterW_20 c f l M (by omega) V w hw
  · exact brAfterW_20 c f l M (by omega) V w hw

theorem brStart_yesM (c : Cfg) (f : Frm) (hf : f.Fits) (he : brErr c f = 0) (M : Int) (hLM : brLong f = M) (w : World) (ht : Tab w) : Calls Tryz.prog 48 #[c.v, f.v] w
    fun e w' => ∃ V, Ext w V ∧ e = .returned (.tuple #[.pointer (some ⟨V.heap.size, 0, none⟩), .int .i64 0]) ∧ ∃ os d, w' = grew (V.alloc (.cells (wlM c f M) 79)) os d := by
  refine (brStart_yes c f hf he w ht).mono ?_
  rintro e w' ⟨V, hV, rfl, os, d, rfl⟩
  obtain ⟨hp, ho, h4⟩ := brErr_ok he
  obtain ⟨m1, m2, m3, m4, m5, m6, m7, m8, m9, m10, m11⟩ := brMay_facts h4
  refine ⟨V, hV, rfl, os, d, ?_⟩
  have h : wlArr c f = wlM c f M := by
    have := (brMany_pos ho m1).1
    rw [hLM] at this
    simp only [wlArr, wlM, this]
  rw [h]

theorem brAfter_any (c : Cfg) (f : Frm) (l : Cel) (hf : f.Fits) (hl : l.Fits) (w : World) (ht : Tab w) : Calls Tryz.prog 27 #[c.v, f.v, l.v] w
    fun e w' => e = .returned (.tuple #[(brAfterA c f l).v, .int .i64 (brErr c f)]) ∧ Ext w w' := by
  have HF := Lib.hid hf
  have HT := Lib.hid ht
  have HL := Lib.hid hl
  clear ht hf hl
  cases h0 : (brErr c f == 0)
  · have HN : Hid (brAfterA c f l = zeroFrm) := Lib.hid (by simp [brAfterA, h0])
    have H0 := Lib.hid h0
    obtain ⟨E, hE⟩ : ∃ E, E = brErr c f := ⟨_, rfl⟩
    have HE := Lib.hid hE
    have h1 : (E != 0) = true := by rw [hE]; simpa using h0
    clear h0 hE
    go_enter Tryz.func27, Tryz.ntmps27
    go_wp2_with (go_at_call 48; refine (brStart_no c f HF.out H0.out _ (Tab.ext HT.out EX)).mono ?_; rintro e w1 ⟨rfl, os1, n1, rfl⟩; rw [← HE.out])
    (refine bodyPost_ret (v := .tuple #[(zeroFrm).v, .int .i64 E]) (by simp [results, Tryz.results27, go_sem]) rfl ?_)
    exact ⟨by rw [HN.out, HE.out], EX⟩
  · have he : brErr c f = 0 := by simpa using h0
    have HN : Hid (brAfterA c f l = brBehind c f l) := Lib.hid (by simp [brAfterA, he])
    obtain ⟨G, hG⟩ : ∃ G, brBehind c f l = G := ⟨_, rfl⟩
    have HG := Lib.hid hG
    have HE := Lib.hid he
    obtain ⟨M, hLM⟩ : ∃ M, brLong f = M := ⟨_, rfl⟩
    have HLM := Lib.hid hLM
    clear h0 he hG hLM
    go_enter Tryz.func27, Tryz.ntmps27
    go_wp2_with (first | (go_at_call 48; refine (brStart_yesM c f HF.out HE.out M HLM.out _ (Tab.ext HT.out EX)).mono ?_; rintro e w1 ⟨V, ⟨osv, dv, rfl⟩, rfl, os1, n1, rfl⟩) | ((go_at_call 50; refine (brAfterW_any c f HF.out l HL.out HE.out M HLM.out (grew ((((w.alloc (.cells #[.int .u8 c.object, .int .i64 c.instances, .int .i64 c.threads, .int .u8 c.kind, .int .i64 c.stripes, .int .i64 c.bits, .int .i64 c.cap, .int .i64 c.node, .int .i64 c.batch, .int .i64 c.chunk, .int .u64 c.limit, .int .u64 c.most] 24)).alloc (.cells #[.int .u8 f.kind, .int .u32 f.a, .int .u32 f.b, .int .u8 f.pc, .int .u8 f.i, .int .u8 f.j, .int .u8 f.n, .int .u8 f.p, .int .u8 f.h, .int .u32 f.x, .int .u32 f.y] 27)).alloc (.cells #[.int .u64 l.tag, .int .u64 l.a, .int .u64 l.b, .int .u64 l.c] 37)).alloc (.cells #[.int .u8 zeroFrm.kind, .int .u32 zeroFrm.a, .int .u32 zeroFrm.b, .int .u8 zeroFrm.pc, .int .u8 zeroFrm.i, .int .u8 zeroFrm.j, .int .u8 zeroFrm.n, .int .u8 zeroFrm.p, .int .u8 zeroFrm.h, .int .u32 zeroFrm.x, .int .u32 zeroFrm.y] 27)) osv dv) _ _ (by simp [go_sem]) EX).mono ?_; rintro e w2 ⟨rfl, os2, n2, rfl⟩); rw [HG.out]))
    (refine bodyPost_ret (v := .tuple #[G.v, .int .i64 0]) (by simp [results, Tryz.results27, go_sem]) rfl ?_)
    exact ⟨by rw [HN.out, HE.out, HG.out], EX⟩
end Go.Proofs.YtmhmaifmendebaaGreatDoor.branch
