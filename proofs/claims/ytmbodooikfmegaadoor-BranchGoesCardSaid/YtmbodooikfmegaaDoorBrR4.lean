/- The walks of the reference of layer 'branch': what a frame is behind its act. -/
import Derived.Test.YtmbodooikfmegaaDoorBrR1
namespace Go.Proofs.YtmbodooikfmegaaDoor
open Go Go.RowKit

theorem brLong_le4 (f : Frm) : 0 ≤ brLong f ∧ brLong f ≤ 3 := by
  unfold brLong
  split
  · omega
  · split
    · omega
    · split <;> omega

set_option maxRecDepth 100000 in
set_option maxHeartbeats 4000000 in
theorem nextR_any (f : Frm) (hf : f.Fits) (l : Cel) (hl : l.Fits) (hi : f.i ≤ 254) (hh : f.h ≤ 254) (w : World) : Calls Tryd.prog 60 #[f.v, l.v] w
    fun e w' => e = .returned (brFound f l).v ∧ Ext w w' := by
  have HF := Lib.hid hf
  have HL := Lib.hid hl
  obtain ⟨X, hX⟩ : ∃ X, l.c % 4294967296 = X := ⟨_, rfl⟩
  have x2 : 0 ≤ X ∧ X ≤ 4294967295 := by omega
  obtain ⟨L, hL⟩ : ∃ L, brLong f = L := ⟨_, rfl⟩
  have hl3 := brLong_le4 f
  rw [hL] at hl3
  obtain ⟨⟨k0, k1⟩, ⟨a0, a1⟩, ⟨b0, b1⟩, ⟨p0, p1⟩, ⟨i0, i1⟩, ⟨j0, j1⟩, ⟨m0, m1⟩, ⟨q0, q1⟩, ⟨h0, h1⟩, ⟨x0, x1⟩, ⟨y0, y1⟩⟩ := hf; obtain ⟨⟨t0, t1⟩, ⟨la0, la1⟩, ⟨lb0, lb1⟩, ⟨lc0, lc1⟩⟩ := hl; obtain ⟨fk, fa, fb, fpc, fi, fj, fn, fq, fh, fx, fy⟩ := f; dsimp only at *
  have HFF : Hid (Frm.mk fk fa fb fpc fi fq fn (fi + 1) (fh + 1) X fy).Fits := Lib.hid ⟨⟨k0, k1⟩, ⟨a0, a1⟩, ⟨b0, b1⟩, ⟨p0, p1⟩, ⟨i0, i1⟩, ⟨q0, q1⟩, ⟨m0, m1⟩, by dsimp only; omega, by dsimp only; omega, x2, ⟨y0, y1⟩⟩
  have HLL : Hid (brLong (Frm.mk fk fa fb fpc fi fq fn (fi + 1) (fh + 1) X fy) = L) := Lib.hid hL
  have HX := Lib.hid hX
  have HL0 := Lib.hid hL
  clear hX hL
  by_cases hm : fh + 1 < L
  · have hm' : decide (fh + 1 < L) = true := by simpa using hm
    have HS : Hid (brFound (Frm.mk fk fa fb fpc fi fj fn fq fh fx fy) l = (Frm.mk fk fa fb fpc 0 fq 0 (fi + 1) (fh + 1) X fy)) := Lib.hid (by simp only [brFound, HL0.out, HX.out, if_pos hm])
    have hx := HX.out
    go_enter Tryd.func60, Tryd.ntmps60
    go_wp2
    ((refine wp_region_ext_lit (by kernel_rfl) (by kernel_rfl) ?_); (repeat (go_big_quiet_step ((go_at_call 54; exact quiet_ext ((longR_any _ HFF.out _).mono fun e w' ⟨he, hx⟩ => ⟨by rw [he, HLL.out], hx⟩))))); (refine wpQuiet_nil ?_; intro _ hw'; obtain ⟨⟨osq, nq⟩, hw''⟩ := hw'; replace hw'' : _ = grew _ osq nq := hw''; subst hw''))
    go_wp2
    refine bodyPost_ret (v := ((Frm.mk fk fa fb fpc 0 fq 0 (fi + 1) (fh + 1) X fy)).v) (by simp [results, Tryd.results60, go_sem]) rfl ⟨by rw [HS.out], (by repeat (first | with_reducible exact Ext.refl _ | with_reducible assumption | with_reducible refine Ext.alloc ?_ _ | with_reducible refine Ext.gr ?_ _ | with_reducible refine Ext.drewN ?_ _ | with_reducible refine Ext.drew ?_ | with_reducible refine Ext.setCell ?_ ?_ _ | with_reducible refine Ext.more ?_ _ _ | (show _ ≤ _; dsimp only; omega)))⟩
  · have hm' : decide (fh + 1 < L) = false := by simpa using hm
    cases k12 : (fk == 12)
    · cases k13 : (fk == 13)
      · cases xz : (X == 0)
        · have xz' : (X != 0) = true := by simpa using xz
          have HS : Hid (brFound (Frm.mk fk fa fb fpc fi fj fn fq fh fx fy) l = (Frm.mk fk fa fb 20 fi fq fn (fi + 1) (fh + 1) X fy)) := Lib.hid (by simp only [brFound, HL0.out, HX.out, if_neg hm, k12, k13, xz, Bool.false_eq_true, if_false])
          have hx := HX.out
          go_enter Tryd.func60, Tryd.ntmps60
          go_wp2
          ((refine wp_region_ext_lit (by kernel_rfl) (by kernel_rfl) ?_); (repeat (go_big_quiet_step ((go_at_call 54; exact quiet_ext ((longR_any _ HFF.out _).mono fun e w' ⟨he, hx⟩ => ⟨by rw [he, HLL.out], hx⟩))))); (refine wpQuiet_nil ?_; intro _ hw'; obtain ⟨⟨osq, nq⟩, hw''⟩ := hw'; replace hw'' : _ = grew _ osq nq := hw''; subst hw''))
          go_wp2
          refine bodyPost_ret (v := ((Frm.mk fk fa fb 20 fi fq fn (fi + 1) (fh + 1) X fy)).v) (by simp [results, Tryd.results60, go_sem]) rfl ⟨by rw [HS.out], (by repeat (first | with_reducible exact Ext.refl _ | with_reducible assumption | with_reducible refine Ext.alloc ?_ _ | with_reducible refine Ext.gr ?_ _ | with_reducible refine Ext.drewN ?_ _ | with_reducible refine Ext.drew ?_ | with_reducible refine Ext.setCell ?_ ?_ _ | with_reducible refine Ext.more ?_ _ _ | (show _ ≤ _; dsimp only; omega)))⟩
        · have xz' : (X != 0) = false := by simpa using xz
          have HS : Hid (brFound (Frm.mk fk fa fb fpc fi fj fn fq fh fx fy) l = (Frm.mk fk fa fb 21 fi fq fn (fi + 1) (fh + 1) X fy)) := Lib.hid (by simp only [brFound, HL0.out, HX.out, if_neg hm, k12, k13, xz, Bool.false_eq_true, if_false, if_true])
          have hx := HX.out
          go_enter Tryd.func60, Tryd.ntmps60
          go_wp2
          ((refine wp_region_ext_lit (by kernel_rfl) (by kernel_rfl) ?_); (repeat (go_big_quiet_step ((go_at_call 54; exact quiet_ext ((longR_any _ HFF.out _).mono fun e w' ⟨he, hx⟩ => ⟨by rw [he, HLL.out], hx⟩))))); (refine wpQuiet_nil ?_; intro _ hw'; obtain ⟨⟨osq, nq⟩, hw''⟩ := hw'; replace hw'' : _ = grew _ osq nq := hw''; subst hw''))
          go_wp2
          refine bodyPost_ret (v := ((Frm.mk fk fa fb 21 fi fq fn (fi + 1) (fh + 1) X fy)).v) (by simp [results, Tryd.results60, go_sem]) rfl ⟨by rw [HS.out], (by repeat (first | with_reducible exact Ext.refl _ | with_reducible assumption | with_reducible refine Ext.alloc ?_ _ | with_reducible refine Ext.gr ?_ _ | with_reducible refine Ext.drewN ?_ _ | with_reducible refine Ext.drew ?_ | with_reducible refine Ext.setCell ?_ ?_ _ | with_reducible refine Ext.more ?_ _ _ | (show _ ≤ _; dsimp only; omega)))⟩
      · skip
        have HS : Hid (brFound (Frm.mk fk fa fb fpc fi fj fn fq fh fx fy) l = (Frm.mk fk fa fb 5 0 fq fn (fi + 1) (fh + 1) X fy)) := Lib.hid (by simp only [brFound, HL0.out, HX.out, if_neg hm, k12, k13, Bool.false_eq_true, if_false, if_true])
        have hx := HX.out
        go_enter Tryd.func60, Tryd.ntmps60
        go_wp2
        ((refine wp_region_ext_lit (by kernel_rfl) (by kernel_rfl) ?_); (repeat (go_big_quiet_step ((go_at_call 54; exact quiet_ext ((longR_any _ HFF.out _).mono fun e w' ⟨he, hx⟩ => ⟨by rw [he, HLL.out], hx⟩))))); (refine wpQuiet_nil ?_; intro _ hw'; obtain ⟨⟨osq, nq⟩, hw''⟩ := hw'; replace hw'' : _ = grew _ osq nq := hw''; subst hw''))
        go_wp2
        refine bodyPost_ret (v := ((Frm.mk fk fa fb 5 0 fq fn (fi + 1) (fh + 1) X fy)).v) (by simp [results, Tryd.results60, go_sem]) rfl ⟨by rw [HS.out], (by repeat (first | with_reducible exact Ext.refl _ | with_reducible assumption | with_reducible refine Ext.alloc ?_ _ | with_reducible refine Ext.gr ?_ _ | with_reducible refine Ext.drewN ?_ _ | with_reducible refine Ext.drew ?_ | with_reducible refine Ext.setCell ?_ ?_ _ | with_reducible refine Ext.more ?_ _ _ | (show _ ≤ _; dsimp only; omega)))⟩
    · skip
      have HS : Hid (brFound (Frm.mk fk fa fb fpc fi fj fn fq fh fx fy) l = (Frm.mk fk fa fb 4 fi fq fn (fi + 1) (fh + 1) X fy)) := Lib.hid (by simp only [brFound, HL0.out, HX.out, if_neg hm, k12, if_true])
      have hx := HX.out
      go_enter Tryd.func60, Tryd.ntmps60
      go_wp2
      ((refine wp_region_ext_lit (by kernel_rfl) (by kernel_rfl) ?_); (repeat (go_big_quiet_step ((go_at_call 54; exact quiet_ext ((longR_any _ HFF.out _).mono fun e w' ⟨he, hx⟩ => ⟨by rw [he, HLL.out], hx⟩))))); (refine wpQuiet_nil ?_; intro _ hw'; obtain ⟨⟨osq, nq⟩, hw''⟩ := hw'; replace hw'' : _ = grew _ osq nq := hw''; subst hw''))
      go_wp2
      refine bodyPost_ret (v := ((Frm.mk fk fa fb 4 fi fq fn (fi + 1) (fh + 1) X fy)).v) (by simp [results, Tryd.results60, go_sem]) rfl ⟨by rw [HS.out], (by repeat (first | with_reducible exact Ext.refl _ | with_reducible assumption | with_reducible refine Ext.alloc ?_ _ | with_reducible refine Ext.gr ?_ _ | with_reducible refine Ext.drewN ?_ _ | with_reducible refine Ext.drew ?_ | with_reducible refine Ext.setCell ?_ ?_ _ | with_reducible refine Ext.more ?_ _ _ | (show _ ≤ _; dsimp only; omega)))⟩

set_option maxRecDepth 100000 in
set_option maxHeartbeats 4000000 in
theorem madeR_any (c : Cfg) (f : Frm) (hf : f.Fits) (l : Cel) (hl : l.Fits) (hj : f.j ≤ 254) (hh : f.h ≤ 254) (w : World) : Calls Tryd.prog 62 #[c.v, f.v] w
    fun e w' => e = .returned (brMade c f).v ∧ Ext w w' := by
  have HF := Lib.hid hf
  obtain ⟨L, hL⟩ : ∃ L, brLong f = L := ⟨_, rfl⟩
  have hl3 := brLong_le4 f
  rw [hL] at hl3
  obtain ⟨⟨k0, k1⟩, ⟨a0, a1⟩, ⟨b0, b1⟩, ⟨p0, p1⟩, ⟨i0, i1⟩, ⟨j0, j1⟩, ⟨m0, m1⟩, ⟨q0, q1⟩, ⟨h0, h1⟩, ⟨x0, x1⟩, ⟨y0, y1⟩⟩ := hf; obtain ⟨⟨t0, t1⟩, ⟨la0, la1⟩, ⟨lb0, lb1⟩, ⟨lc0, lc1⟩⟩ := hl; obtain ⟨fk, fa, fb, fpc, fi, fj, fn, fq, fh, fx, fy⟩ := f; dsimp only at *
  have HFF : Hid (Frm.mk fk fa fb fpc fi fj fn (fj + 1) (fh + 1) fx fy).Fits := Lib.hid ⟨⟨k0, k1⟩, ⟨a0, a1⟩, ⟨b0, b1⟩, ⟨p0, p1⟩, ⟨i0, i1⟩, ⟨j0, j1⟩, ⟨m0, m1⟩, by dsimp only; omega, by dsimp only; omega, ⟨x0, x1⟩, ⟨y0, y1⟩⟩
  have HLL : Hid (brLong (Frm.mk fk fa fb fpc fi fj fn (fj + 1) (fh + 1) fx fy) = L) := Lib.hid hL
  have HL0 := Lib.hid hL
  clear hL
  cases z : (fh + 1 == L)
  · by_cases hk : fj + 1 < c.cap
    · skip
      have HS : Hid (brMade c (Frm.mk fk fa fb fpc fi fj fn fq fh fx fy) = (Frm.mk fk fa fb 3 (fj + 1) fj fn (fj + 1) (fh + 1) fx fy)) := Lib.hid (by simp only [brMade, HL0.out, z, Bool.false_eq_true, if_false, if_pos hk])
      go_enter Tryd.func62, Tryd.ntmps62
      go_wp2
      ((refine wp_region_ext_lit (by kernel_rfl) (by kernel_rfl) ?_); (repeat (go_big_quiet_step ((go_at_call 54; exact quiet_ext ((longR_any _ HFF.out _).mono fun e w' ⟨he, hx⟩ => ⟨by rw [he, HLL.out], hx⟩))))); (refine wpQuiet_nil ?_; intro _ hw'; obtain ⟨⟨osq, nq⟩, hw''⟩ := hw'; replace hw'' : _ = grew _ osq nq := hw''; subst hw''))
      go_wp2
      refine bodyPost_ret (v := ((Frm.mk fk fa fb 3 (fj + 1) fj fn (fj + 1) (fh + 1) fx fy)).v) (by simp [results, Tryd.results62, go_sem]) rfl ⟨by rw [HS.out], (by repeat (first | with_reducible exact Ext.refl _ | with_reducible assumption | with_reducible refine Ext.alloc ?_ _ | with_reducible refine Ext.gr ?_ _ | with_reducible refine Ext.drewN ?_ _ | with_reducible refine Ext.drew ?_ | with_reducible refine Ext.setCell ?_ ?_ _ | with_reducible refine Ext.more ?_ _ _ | (show _ ≤ _; dsimp only; omega)))⟩
    · skip
      have HS : Hid (brMade c (Frm.mk fk fa fb fpc fi fj fn fq fh fx fy) = (Frm.mk fk fa fb 22 fi fj fn (fj + 1) (fh + 1) fx fy)) := Lib.hid (by simp only [brMade, HL0.out, z, Bool.false_eq_true, if_false, if_neg hk])
      go_enter Tryd.func62, Tryd.ntmps62
      go_wp2
      ((refine wp_region_ext_lit (by kernel_rfl) (by kernel_rfl) ?_); (repeat (go_big_quiet_step ((go_at_call 54; exact quiet_ext ((longR_any _ HFF.out _).mono fun e w' ⟨he, hx⟩ => ⟨by rw [he, HLL.out], hx⟩))))); (refine wpQuiet_nil ?_; intro _ hw'; obtain ⟨⟨osq, nq⟩, hw''⟩ := hw'; replace hw'' : _ = grew _ osq nq := hw''; subst hw''))
      go_wp2
      refine bodyPost_ret (v := ((Frm.mk fk fa fb 22 fi fj fn (fj + 1) (fh + 1) fx fy)).v) (by simp [results, Tryd.results62, go_sem]) rfl ⟨by rw [HS.out], (by repeat (first | with_reducible exact Ext.refl _ | with_reducible assumption | with_reducible refine Ext.alloc ?_ _ | with_reducible refine Ext.gr ?_ _ | with_reducible refine Ext.drewN ?_ _ | with_reducible refine Ext.drew ?_ | with_reducible refine Ext.setCell ?_ ?_ _ | with_reducible refine Ext.more ?_ _ _ | (show _ ≤ _; dsimp only; omega)))⟩
  · skip
    have HS : Hid (brMade c (Frm.mk fk fa fb fpc fi fj fn fq fh fx fy) = (Frm.mk fk fa fb 20 fi fj fn (fj + 1) (fh + 1) 0 fy)) := Lib.hid (by simp only [brMade, HL0.out, z, if_true])
    go_enter Tryd.func62, Tryd.ntmps62
    go_wp2
    ((refine wp_region_ext_lit (by kernel_rfl) (by kernel_rfl) ?_); (repeat (go_big_quiet_step ((go_at_call 54; exact quiet_ext ((longR_any _ HFF.out _).mono fun e w' ⟨he, hx⟩ => ⟨by rw [he, HLL.out], hx⟩))))); (refine wpQuiet_nil ?_; intro _ hw'; obtain ⟨⟨osq, nq⟩, hw''⟩ := hw'; replace hw'' : _ = grew _ osq nq := hw''; subst hw''))
    go_wp2
    refine bodyPost_ret (v := ((Frm.mk fk fa fb 20 fi fj fn (fj + 1) (fh + 1) 0 fy)).v) (by simp [results, Tryd.results62, go_sem]) rfl ⟨by rw [HS.out], (by repeat (first | with_reducible exact Ext.refl _ | with_reducible assumption | with_reducible refine Ext.alloc ?_ _ | with_reducible refine Ext.gr ?_ _ | with_reducible refine Ext.drewN ?_ _ | with_reducible refine Ext.drew ?_ | with_reducible refine Ext.setCell ?_ ?_ _ | with_reducible refine Ext.more ?_ _ _ | (show _ ≤ _; dsimp only; omega)))⟩

set_option maxRecDepth 100000 in
set_option maxHeartbeats 8000000 in
theorem otherR_any (c : Cfg) (f : Frm) (hf : f.Fits) (l : Cel) (hl : l.Fits) (hc : c.cap ≤ 32) (hn : f.n ≤ 254) (w : World) : Calls Tryd.prog 61 #[c.v, f.v, l.v] w
    fun e w' => e = .returned (brOther c f l).v ∧ Ext w w' := by
  have HF := Lib.hid hf
  obtain ⟨L, hL⟩ : ∃ L, brLong f = L := ⟨_, rfl⟩
  have hl3 := brLong_le4 f
  rw [hL] at hl3
  obtain ⟨⟨k0, k1⟩, ⟨a0, a1⟩, ⟨b0, b1⟩, ⟨p0, p1⟩, ⟨i0, i1⟩, ⟨j0, j1⟩, ⟨m0, m1⟩, ⟨q0, q1⟩, ⟨h0, h1⟩, ⟨x0, x1⟩, ⟨y0, y1⟩⟩ := hf; obtain ⟨⟨t0, t1⟩, ⟨la0, la1⟩, ⟨lb0, lb1⟩, ⟨lc0, lc1⟩⟩ := hl; obtain ⟨fk, fa, fb, fpc, fi, fj, fn, fq, fh, fx, fy⟩ := f; dsimp only at *
  have HL0 := Lib.hid hL
  clear hL
  cases z : (l.a == 0)
  · skip
    have HFF : Hid (Frm.mk fk fa fb 2 fi fj fn fq fh fx fy).Fits := Lib.hid ⟨⟨k0, k1⟩, ⟨a0, a1⟩, ⟨b0, b1⟩, by dsimp only; omega, ⟨i0, i1⟩, by dsimp only; omega, by dsimp only; omega, ⟨q0, q1⟩, ⟨h0, h1⟩, ⟨x0, x1⟩, ⟨y0, y1⟩⟩
    have HLL : Hid (brLong (Frm.mk fk fa fb 2 fi fj fn fq fh fx fy) = L) := Lib.hid HL0.out
    have HLB : ∀ x y, brLong (Frm.mk fk fa fb fpc fi x y fq fh fx fy) = L := fun _ _ => HL0.out
    have HLB := Lib.hid HLB
    by_cases hi : fi + 1 < c.cap
    · skip
      have HS : Hid (brOther c (Frm.mk fk fa fb fpc fi fj fn fq fh fx fy) l = (Frm.mk fk fa fb fpc (fi + 1) fj fn fq fh fx fy)) := Lib.hid (by simp only [brOther, brMore, HLB.out, z, Bool.false_eq_true, if_false, if_pos hi])
      go_enter Tryd.func61, Tryd.ntmps61
      go_wp2
      refine bodyPost_ret (v := ((Frm.mk fk fa fb fpc (fi + 1) fj fn fq fh fx fy)).v) (by simp [results, Tryd.results61, go_sem]) rfl ⟨by rw [HS.out], (by repeat (first | with_reducible exact Ext.refl _ | with_reducible assumption | with_reducible refine Ext.alloc ?_ _ | with_reducible refine Ext.gr ?_ _ | with_reducible refine Ext.drewN ?_ _ | with_reducible refine Ext.drew ?_ | with_reducible refine Ext.setCell ?_ ?_ _ | with_reducible refine Ext.more ?_ _ _ | (show _ ≤ _; dsimp only; omega)))⟩
    · cases k12 : (fk == 12)
      · skip
        have HS : Hid (brOther c (Frm.mk fk fa fb fpc fi fj fn fq fh fx fy) l = (Frm.mk fk fa fb 21 fi fj fn fq fh fx fy)) := Lib.hid (by simp only [brOther, brMore, HLB.out, z, Bool.false_eq_true, if_false, if_neg hi, k12, Bool.false_eq_true, if_false])
        go_enter Tryd.func61, Tryd.ntmps61
        go_wp2
        refine bodyPost_ret (v := ((Frm.mk fk fa fb 21 fi fj fn fq fh fx fy)).v) (by simp [results, Tryd.results61, go_sem]) rfl ⟨by rw [HS.out], (by repeat (first | with_reducible exact Ext.refl _ | with_reducible assumption | with_reducible refine Ext.alloc ?_ _ | with_reducible refine Ext.gr ?_ _ | with_reducible refine Ext.drewN ?_ _ | with_reducible refine Ext.drew ?_ | with_reducible refine Ext.setCell ?_ ?_ _ | with_reducible refine Ext.more ?_ _ _ | (show _ ≤ _; dsimp only; omega)))⟩
      · by_cases hr : fn < L - fh
        · skip
          have HS : Hid (brOther c (Frm.mk fk fa fb fpc fi fj fn fq fh fx fy) l = (Frm.mk fk fa fb 22 fi fj fn fq fh fx fy)) := Lib.hid (by simp only [brOther, brMore, HLB.out, z, Bool.false_eq_true, if_false, if_neg hi, k12, if_true, if_pos hr])
          go_enter Tryd.func61, Tryd.ntmps61
          go_wp2
          ((refine wp_region_ext_lit (by kernel_rfl) (by kernel_rfl) ?_); (repeat (go_big_quiet_step ((go_at_call 54; exact quiet_ext ((longR_any _ HFF.out _).mono fun e w' ⟨he, hx⟩ => ⟨by rw [he, HLL.out], hx⟩))))); (refine wpQuiet_nil ?_; intro _ hw'; obtain ⟨⟨osq, nq⟩, hw''⟩ := hw'; replace hw'' : _ = grew _ osq nq := hw''; subst hw''))
          go_wp2
          refine bodyPost_ret (v := ((Frm.mk fk fa fb 22 fi fj fn fq fh fx fy)).v) (by simp [results, Tryd.results61, go_sem]) rfl ⟨by rw [HS.out], (by repeat (first | with_reducible exact Ext.refl _ | with_reducible assumption | with_reducible refine Ext.alloc ?_ _ | with_reducible refine Ext.gr ?_ _ | with_reducible refine Ext.drewN ?_ _ | with_reducible refine Ext.drew ?_ | with_reducible refine Ext.setCell ?_ ?_ _ | with_reducible refine Ext.more ?_ _ _ | (show _ ≤ _; dsimp only; omega)))⟩
        · skip
          have HS : Hid (brOther c (Frm.mk fk fa fb fpc fi fj fn fq fh fx fy) l = (Frm.mk fk fa fb 2 fi fj fn fq fh fx fy)) := Lib.hid (by simp only [brOther, brMore, HLB.out, z, Bool.false_eq_true, if_false, if_neg hi, k12, if_true, if_neg hr])
          go_enter Tryd.func61, Tryd.ntmps61
          go_wp2
          ((refine wp_region_ext_lit (by kernel_rfl) (by kernel_rfl) ?_); (repeat (go_big_quiet_step ((go_at_call 54; exact quiet_ext ((longR_any _ HFF.out _).mono fun e w' ⟨he, hx⟩ => ⟨by rw [he, HLL.out], hx⟩))))); (refine wpQuiet_nil ?_; intro _ hw'; obtain ⟨⟨osq, nq⟩, hw''⟩ := hw'; replace hw'' : _ = grew _ osq nq := hw''; subst hw''))
          go_wp2
          refine bodyPost_ret (v := ((Frm.mk fk fa fb 2 fi fj fn fq fh fx fy)).v) (by simp [results, Tryd.results61, go_sem]) rfl ⟨by rw [HS.out], (by repeat (first | with_reducible exact Ext.refl _ | with_reducible assumption | with_reducible refine Ext.alloc ?_ _ | with_reducible refine Ext.gr ?_ _ | with_reducible refine Ext.drewN ?_ _ | with_reducible refine Ext.drew ?_ | with_reducible refine Ext.setCell ?_ ?_ _ | with_reducible refine Ext.more ?_ _ _ | (show _ ≤ _; dsimp only; omega)))⟩
  · cases zn : (fn == 0)
    · skip
      have HFF : Hid (Frm.mk fk fa fb 2 fi fj (fn + 1) fq fh fx fy).Fits := Lib.hid ⟨⟨k0, k1⟩, ⟨a0, a1⟩, ⟨b0, b1⟩, by dsimp only; omega, ⟨i0, i1⟩, by dsimp only; omega, by dsimp only; omega, ⟨q0, q1⟩, ⟨h0, h1⟩, ⟨x0, x1⟩, ⟨y0, y1⟩⟩
      have HLL : Hid (brLong (Frm.mk fk fa fb 2 fi fj (fn + 1) fq fh fx fy) = L) := Lib.hid HL0.out
      have HLB : ∀ x y, brLong (Frm.mk fk fa fb fpc fi x y fq fh fx fy) = L := fun _ _ => HL0.out
      have HLB := Lib.hid HLB
      by_cases hi : fi + 1 < c.cap
      · skip
        have HS : Hid (brOther c (Frm.mk fk fa fb fpc fi fj fn fq fh fx fy) l = (Frm.mk fk fa fb fpc (fi + 1) fj (fn + 1) fq fh fx fy)) := Lib.hid (by simp only [brOther, brMore, HLB.out, z, zn, Bool.false_eq_true, if_false, if_true, if_pos hi])
        go_enter Tryd.func61, Tryd.ntmps61
        go_wp2
        refine bodyPost_ret (v := ((Frm.mk fk fa fb fpc (fi + 1) fj (fn + 1) fq fh fx fy)).v) (by simp [results, Tryd.results61, go_sem]) rfl ⟨by rw [HS.out], (by repeat (first | with_reducible exact Ext.refl _ | with_reducible assumption | with_reducible refine Ext.alloc ?_ _ | with_reducible refine Ext.gr ?_ _ | with_reducible refine Ext.drewN ?_ _ | with_reducible refine Ext.drew ?_ | with_reducible refine Ext.setCell ?_ ?_ _ | with_reducible refine Ext.more ?_ _ _ | (show _ ≤ _; dsimp only; omega)))⟩
      · cases k12 : (fk == 12)
        · skip
          have HS : Hid (brOther c (Frm.mk fk fa fb fpc fi fj fn fq fh fx fy) l = (Frm.mk fk fa fb 21 fi fj (fn + 1) fq fh fx fy)) := Lib.hid (by simp only [brOther, brMore, HLB.out, z, zn, Bool.false_eq_true, if_false, if_true, if_neg hi, k12, Bool.false_eq_true, if_false])
          go_enter Tryd.func61, Tryd.ntmps61
          go_wp2
          refine bodyPost_ret (v := ((Frm.mk fk fa fb 21 fi fj (fn + 1) fq fh fx fy)).v) (by simp [results, Tryd.results61, go_sem]) rfl ⟨by rw [HS.out], (by repeat (first | with_reducible exact Ext.refl _ | with_reducible assumption | with_reducible refine Ext.alloc ?_ _ | with_reducible refine Ext.gr ?_ _ | with_reducible refine Ext.drewN ?_ _ | with_reducible refine Ext.drew ?_ | with_reducible refine Ext.setCell ?_ ?_ _ | with_reducible refine Ext.more ?_ _ _ | (show _ ≤ _; dsimp only; omega)))⟩
        · by_cases hr : (fn + 1) < L - fh
          · skip
            have HS : Hid (brOther c (Frm.mk fk fa fb fpc fi fj fn fq fh fx fy) l = (Frm.mk fk fa fb 22 fi fj (fn + 1) fq fh fx fy)) := Lib.hid (by simp only [brOther, brMore, HLB.out, z, zn, Bool.false_eq_true, if_false, if_true, if_neg hi, k12, if_true, if_pos hr])
            go_enter Tryd.func61, Tryd.ntmps61
            go_wp2
            ((refine wp_region_ext_lit (by kernel_rfl) (by kernel_rfl) ?_); (repeat (go_big_quiet_step ((go_at_call 54; exact quiet_ext ((longR_any _ HFF.out _).mono fun e w' ⟨he, hx⟩ => ⟨by rw [he, HLL.out], hx⟩))))); (refine wpQuiet_nil ?_; intro _ hw'; obtain ⟨⟨osq, nq⟩, hw''⟩ := hw'; replace hw'' : _ = grew _ osq nq := hw''; subst hw''))
            go_wp2
            refine bodyPost_ret (v := ((Frm.mk fk fa fb 22 fi fj (fn + 1) fq fh fx fy)).v) (by simp [results, Tryd.results61, go_sem]) rfl ⟨by rw [HS.out], (by repeat (first | with_reducible exact Ext.refl _ | with_reducible assumption | with_reducible refine Ext.alloc ?_ _ | with_reducible refine Ext.gr ?_ _ | with_reducible refine Ext.drewN ?_ _ | with_reducible refine Ext.drew ?_ | with_reducible refine Ext.setCell ?_ ?_ _ | with_reducible refine Ext.more ?_ _ _ | (show _ ≤ _; dsimp only; omega)))⟩
          · skip
            have HS : Hid (brOther c (Frm.mk fk fa fb fpc fi fj fn fq fh fx fy) l = (Frm.mk fk fa fb 2 fi fj (fn + 1) fq fh fx fy)) := Lib.hid (by simp only [brOther, brMore, HLB.out, z, zn, Bool.false_eq_true, if_false, if_true, if_neg hi, k12, if_true, if_neg hr])
            go_enter Tryd.func61, Tryd.ntmps61
            go_wp2
            ((refine wp_region_ext_lit (by kernel_rfl) (by kernel_rfl) ?_); (repeat (go_big_quiet_step ((go_at_call 54; exact quiet_ext ((longR_any _ HFF.out _).mono fun e w' ⟨he, hx⟩ => ⟨by rw [he, HLL.out], hx⟩))))); (refine wpQuiet_nil ?_; intro _ hw'; obtain ⟨⟨osq, nq⟩, hw''⟩ := hw'; replace hw'' : _ = grew _ osq nq := hw''; subst hw''))
            go_wp2
            refine bodyPost_ret (v := ((Frm.mk fk fa fb 2 fi fj (fn + 1) fq fh fx fy)).v) (by simp [results, Tryd.results61, go_sem]) rfl ⟨by rw [HS.out], (by repeat (first | with_reducible exact Ext.refl _ | with_reducible assumption | with_reducible refine Ext.alloc ?_ _ | with_reducible refine Ext.gr ?_ _ | with_reducible refine Ext.drewN ?_ _ | with_reducible refine Ext.drew ?_ | with_reducible refine Ext.setCell ?_ ?_ _ | with_reducible refine Ext.more ?_ _ _ | (show _ ≤ _; dsimp only; omega)))⟩
    · skip
      have HFF : Hid (Frm.mk fk fa fb 2 fi fi (fn + 1) fq fh fx fy).Fits := Lib.hid ⟨⟨k0, k1⟩, ⟨a0, a1⟩, ⟨b0, b1⟩, by dsimp only; omega, ⟨i0, i1⟩, by dsimp only; omega, by dsimp only; omega, ⟨q0, q1⟩, ⟨h0, h1⟩, ⟨x0, x1⟩, ⟨y0, y1⟩⟩
      have HLL : Hid (brLong (Frm.mk fk fa fb 2 fi fi (fn + 1) fq fh fx fy) = L) := Lib.hid HL0.out
      have HLB : ∀ x y, brLong (Frm.mk fk fa fb fpc fi x y fq fh fx fy) = L := fun _ _ => HL0.out
      have HLB := Lib.hid HLB
      by_cases hi : fi + 1 < c.cap
      · skip
        have HS : Hid (brOther c (Frm.mk fk fa fb fpc fi fj fn fq fh fx fy) l = (Frm.mk fk fa fb fpc (fi + 1) fi (fn + 1) fq fh fx fy)) := Lib.hid (by simp only [brOther, brMore, HLB.out, z, zn, if_true, if_pos hi])
        go_enter Tryd.func61, Tryd.ntmps61
        go_wp2
        refine bodyPost_ret (v := ((Frm.mk fk fa fb fpc (fi + 1) fi (fn + 1) fq fh fx fy)).v) (by simp [results, Tryd.results61, go_sem]) rfl ⟨by rw [HS.out], (by repeat (first | with_reducible exact Ext.refl _ | with_reducible assumption | with_reducible refine Ext.alloc ?_ _ | with_reducible refine Ext.gr ?_ _ | with_reducible refine Ext.drewN ?_ _ | with_reducible refine Ext.drew ?_ | with_reducible refine Ext.setCell ?_ ?_ _ | with_reducible refine Ext.more ?_ _ _ | (show _ ≤ _; dsimp only; omega)))⟩
      · cases k12 : (fk == 12)
        · skip
          have HS : Hid (brOther c (Frm.mk fk fa fb fpc fi fj fn fq fh fx fy) l = (Frm.mk fk fa fb 21 fi fi (fn + 1) fq fh fx fy)) := Lib.hid (by simp only [brOther, brMore, HLB.out, z, zn, if_true, if_neg hi, k12, Bool.false_eq_true, if_false])
          go_enter Tryd.func61, Tryd.ntmps61
          go_wp2
          refine bodyPost_ret (v := ((Frm.mk fk fa fb 21 fi fi (fn + 1) fq fh fx fy)).v) (by simp [results, Tryd.results61, go_sem]) rfl ⟨by rw [HS.out], (by repeat (first | with_reducible exact Ext.refl _ | with_reducible assumption | with_reducible refine Ext.alloc ?_ _ | with_reducible refine Ext.gr ?_ _ | with_reducible refine Ext.drewN ?_ _ | with_reducible refine Ext.drew ?_ | with_reducible refine Ext.setCell ?_ ?_ _ | with_reducible refine Ext.more ?_ _ _ | (show _ ≤ _; dsimp only; omega)))⟩
        · by_cases hr : (fn + 1) < L - fh
          · skip
            have HS : Hid (brOther c (Frm.mk fk fa fb fpc fi fj fn fq fh fx fy) l = (Frm.mk fk fa fb 22 fi fi (fn + 1) fq fh fx fy)) := Lib.hid (by simp only [brOther, brMore, HLB.out, z, zn, if_true, if_neg hi, k12, if_true, if_pos hr])
            go_enter Tryd.func61, Tryd.ntmps61
            go_wp2
            ((refine wp_region_ext_lit (by kernel_rfl) (by kernel_rfl) ?_); (repeat (go_big_quiet_step ((go_at_call 54; exact quiet_ext ((longR_any _ HFF.out _).mono fun e w' ⟨he, hx⟩ => ⟨by rw [he, HLL.out], hx⟩))))); (refine wpQuiet_nil ?_; intro _ hw'; obtain ⟨⟨osq, nq⟩, hw''⟩ := hw'; replace hw'' : _ = grew _ osq nq := hw''; subst hw''))
            go_wp2
            refine bodyPost_ret (v := ((Frm.mk fk fa fb 22 fi fi (fn + 1) fq fh fx fy)).v) (by simp [results, Tryd.results61, go_sem]) rfl ⟨by rw [HS.out], (by repeat (first | with_reducible exact Ext.refl _ | with_reducible assumption | with_reducible refine Ext.alloc ?_ _ | with_reducible refine Ext.gr ?_ _ | with_reducible refine Ext.drewN ?_ _ | with_reducible refine Ext.drew ?_ | with_reducible refine Ext.setCell ?_ ?_ _ | with_reducible refine Ext.more ?_ _ _ | (show _ ≤ _; dsimp only; omega)))⟩
          · skip
            have HS : Hid (brOther c (Frm.mk fk fa fb fpc fi fj fn fq fh fx fy) l = (Frm.mk fk fa fb 2 fi fi (fn + 1) fq fh fx fy)) := Lib.hid (by simp only [brOther, brMore, HLB.out, z, zn, if_true, if_neg hi, k12, if_true, if_neg hr])
            go_enter Tryd.func61, Tryd.ntmps61
            go_wp2
            ((refine wp_region_ext_lit (by kernel_rfl) (by kernel_rfl) ?_); (repeat (go_big_quiet_step ((go_at_call 54; exact quiet_ext ((longR_any _ HFF.out _).mono fun e w' ⟨he, hx⟩ => ⟨by rw [he, HLL.out], hx⟩))))); (refine wpQuiet_nil ?_; intro _ hw'; obtain ⟨⟨osq, nq⟩, hw''⟩ := hw'; replace hw'' : _ = grew _ osq nq := hw''; subst hw''))
            go_wp2
            refine bodyPost_ret (v := ((Frm.mk fk fa fb 2 fi fi (fn + 1) fq fh fx fy)).v) (by simp [results, Tryd.results61, go_sem]) rfl ⟨by rw [HS.out], (by repeat (first | with_reducible exact Ext.refl _ | with_reducible assumption | with_reducible refine Ext.alloc ?_ _ | with_reducible refine Ext.gr ?_ _ | with_reducible refine Ext.drewN ?_ _ | with_reducible refine Ext.drew ?_ | with_reducible refine Ext.setCell ?_ ?_ _ | with_reducible refine Ext.more ?_ _ _ | (show _ ≤ _; dsimp only; omega)))⟩
end Go.Proofs.YtmbodooikfmegaaDoor
