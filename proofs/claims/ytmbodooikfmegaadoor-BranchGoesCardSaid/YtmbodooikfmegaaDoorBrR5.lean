/- The walks of the reference of layer 'branch': Behind. -/
import Derived.Test.YtmbodooikfmegaaDoorBrR4
import Derived.Test.YtmbodooikfmegaaDoorBrR2
namespace Go.Proofs.YtmbodooikfmegaaDoor
open Go Go.RowKit

set_option maxRecDepth 100000 in
set_option maxHeartbeats 4000000 in
theorem behindR_0 (c : Cfg) (f : Frm) (hf : f.Fits) (l : Cel) (hl : l.Fits) (hc : c.cap ≤ 32) (hfi : f.i ≤ 254) (hfn : f.n ≤ 254) (hfh : f.h ≤ 254) (hp : f.pc = 0) (w : World) : Calls Tryd.prog 29 #[c.v, f.v, l.v] w
    fun e w' => e = .returned (brBehind c f l).v ∧ Ext w w' := by
  have HF := Lib.hid hf
  have HL := Lib.hid hl
  obtain ⟨N, hN⟩ : ∃ N, brName f f.h = N := ⟨_, rfl⟩
  have hn := brName_bd hf f.h
  rw [hN] at hn
  obtain ⟨n0, n1⟩ := hn
  obtain ⟨⟨k0, k1⟩, ⟨a0, a1⟩, ⟨b0, b1⟩, ⟨p0, p1⟩, ⟨i0, i1⟩, ⟨j0, j1⟩, ⟨m0, m1⟩, ⟨q0, q1⟩, ⟨h0, h1⟩, ⟨x0, x1⟩, ⟨y0, y1⟩⟩ := hf; obtain ⟨⟨t0, t1⟩, ⟨la0, la1⟩, ⟨lb0, lb1⟩, ⟨lc0, lc1⟩⟩ := hl; obtain ⟨fk, fa, fb, fpc, fi, fj, fn, fq, fh, fx, fy⟩ := f; dsimp only at *; subst hp
  have HN := Lib.hid hN
  have HQ := Lib.hid hN
  clear hN
  cases e1 : (l.a == fq + 1)
  · obtain ⟨G, hG⟩ : ∃ G, brOther c (Frm.mk fk fa fb 0 fi fj fn fq fh fx fy) l = G := ⟨_, rfl⟩
    have HS : Hid (brBehind c (Frm.mk fk fa fb 0 fi fj fn fq fh fx fy) l = G) := Lib.hid (by rw [← hG]; simp [brBehind, e1])
    have HB := Lib.hid hG
    clear hG
    go_enter Tryd.func29, Tryd.ntmps29
    go_wp2
    ((refine wp_region_ext_lit (by kernel_rfl) (by kernel_rfl) ?_); (repeat (go_big_quiet_step ((go_at_call 55; exact quiet_ext ((nameR_any _ HF.out fh (by omega) _).mono fun e w' ⟨he, hx⟩ => ⟨by rw [he, HN.out], hx⟩))))); (refine wpQuiet_nil ?_; intro _ hw'; obtain ⟨⟨osq, nq⟩, hw''⟩ := hw'; replace hw'' : _ = grew _ osq nq := hw''; subst hw''))
    go_wp2_with (go_at_call 61; refine (otherR_any c _ HF.out l HL.out hc (by omega) _).mono ?_; rintro e w1 ⟨rfl, os1, n1, rfl⟩; rw [HB.out])
    (refine bodyPost_ret (v := (G).v) (by simp [results, Tryd.results29, go_sem]) rfl ⟨by rw [HS.out], (by repeat (first | with_reducible exact Ext.refl _ | with_reducible assumption | with_reducible refine Ext.alloc ?_ _ | with_reducible refine Ext.gr ?_ _ | with_reducible refine Ext.drewN ?_ _ | with_reducible refine Ext.drew ?_ | with_reducible refine Ext.setCell ?_ ?_ _ | with_reducible refine Ext.more ?_ _ _ | (show _ ≤ _; dsimp only; omega)))⟩)
  · cases e2 : (l.b == N)
    · obtain ⟨G, hG⟩ : ∃ G, brOther c (Frm.mk fk fa fb 0 fi fj fn fq fh fx fy) l = G := ⟨_, rfl⟩
      have HS : Hid (brBehind c (Frm.mk fk fa fb 0 fi fj fn fq fh fx fy) l = G) := Lib.hid (by rw [← hG]; simp only [brBehind, e1, HQ.out, e2]; rfl)
      have HB := Lib.hid hG
      clear hG
      go_enter Tryd.func29, Tryd.ntmps29
      go_wp2
      ((refine wp_region_ext_lit (by kernel_rfl) (by kernel_rfl) ?_); (repeat (go_big_quiet_step ((go_at_call 55; exact quiet_ext ((nameR_any _ HF.out fh (by omega) _).mono fun e w' ⟨he, hx⟩ => ⟨by rw [he, HN.out], hx⟩))))); (refine wpQuiet_nil ?_; intro _ hw'; obtain ⟨⟨osq, nq⟩, hw''⟩ := hw'; replace hw'' : _ = grew _ osq nq := hw''; subst hw''))
      go_wp2_with (go_at_call 61; refine (otherR_any c _ HF.out l HL.out hc (by omega) _).mono ?_; rintro e w1 ⟨rfl, os1, n1, rfl⟩; rw [HB.out])
      (refine bodyPost_ret (v := (G).v) (by simp [results, Tryd.results29, go_sem]) rfl ⟨by rw [HS.out], (by repeat (first | with_reducible exact Ext.refl _ | with_reducible assumption | with_reducible refine Ext.alloc ?_ _ | with_reducible refine Ext.gr ?_ _ | with_reducible refine Ext.drewN ?_ _ | with_reducible refine Ext.drew ?_ | with_reducible refine Ext.setCell ?_ ?_ _ | with_reducible refine Ext.more ?_ _ _ | (show _ ≤ _; dsimp only; omega)))⟩)
    · obtain ⟨G, hG⟩ : ∃ G, brFound (Frm.mk fk fa fb 0 fi fj fn fq fh fx fy) l = G := ⟨_, rfl⟩
      have HS : Hid (brBehind c (Frm.mk fk fa fb 0 fi fj fn fq fh fx fy) l = G) := Lib.hid (by rw [← hG]; simp only [brBehind, e1, HQ.out, e2]; rfl)
      have HB := Lib.hid hG
      clear hG
      go_enter Tryd.func29, Tryd.ntmps29
      go_wp2
      ((refine wp_region_ext_lit (by kernel_rfl) (by kernel_rfl) ?_); (repeat (go_big_quiet_step ((go_at_call 55; exact quiet_ext ((nameR_any _ HF.out fh (by omega) _).mono fun e w' ⟨he, hx⟩ => ⟨by rw [he, HN.out], hx⟩))))); (refine wpQuiet_nil ?_; intro _ hw'; obtain ⟨⟨osq, nq⟩, hw''⟩ := hw'; replace hw'' : _ = grew _ osq nq := hw''; subst hw''))
      go_wp2_with (go_at_call 60; refine (nextR_any _ HF.out l HL.out (by omega) (by omega) _).mono ?_; rintro e w1 ⟨rfl, os1, n1, rfl⟩; rw [HB.out])
      (refine bodyPost_ret (v := (G).v) (by simp [results, Tryd.results29, go_sem]) rfl ⟨by rw [HS.out], (by repeat (first | with_reducible exact Ext.refl _ | with_reducible assumption | with_reducible refine Ext.alloc ?_ _ | with_reducible refine Ext.gr ?_ _ | with_reducible refine Ext.drewN ?_ _ | with_reducible refine Ext.drew ?_ | with_reducible refine Ext.setCell ?_ ?_ _ | with_reducible refine Ext.more ?_ _ _ | (show _ ≤ _; dsimp only; omega)))⟩)

set_option maxRecDepth 100000 in
set_option maxHeartbeats 4000000 in
theorem behindR_2 (c : Cfg) (f : Frm) (hf : f.Fits) (l : Cel) (hl : l.Fits) (hc : c.cap ≤ 32) (hfi : f.i ≤ 254) (hfj : f.j ≤ 254) (hfh : f.h ≤ 254) (hp : f.pc = 2) (w : World) : Calls Tryd.prog 29 #[c.v, f.v, l.v] w (fun e w' => e = .returned (brBehind c f l).v ∧ Ext w w') := by
  have HF := Lib.hid hf
  have HL := Lib.hid hl
  obtain ⟨⟨k0, k1⟩, ⟨a0, a1⟩, ⟨b0, b1⟩, ⟨p0, p1⟩, ⟨i0, i1⟩, ⟨j0, j1⟩, ⟨m0, m1⟩, ⟨q0, q1⟩, ⟨h0, h1⟩, ⟨x0, x1⟩, ⟨y0, y1⟩⟩ := hf; obtain ⟨⟨t0, t1⟩, ⟨la0, la1⟩, ⟨lb0, lb1⟩, ⟨lc0, lc1⟩⟩ := hl; obtain ⟨fk, fa, fb, fpc, fi, fj, fn, fq, fh, fx, fy⟩ := f; dsimp only at *; subst hp
  obtain ⟨G, hG⟩ : ∃ G, brMade c (Frm.mk fk fa fb 2 fi fj fn fq fh fx fy) = G := ⟨_, rfl⟩
  have HS : Hid (brBehind c (Frm.mk fk fa fb 2 fi fj fn fq fh fx fy) l = G) := Lib.hid (by rw [← hG]; simp [brBehind])
  have HB := Lib.hid hG
  clear hG
  go_enter Tryd.func29, Tryd.ntmps29
  go_wp2_with (go_at_call 62; refine (madeR_any c _ HF.out l HL.out (by omega) (by omega) _).mono ?_; rintro e w1 ⟨rfl, os1, n1, rfl⟩; rw [HB.out])
  (refine bodyPost_ret (v := (G).v) (by simp [results, Tryd.results29, go_sem]) rfl ⟨by rw [HS.out], (by repeat (first | with_reducible exact Ext.refl _ | with_reducible assumption | with_reducible refine Ext.alloc ?_ _ | with_reducible refine Ext.gr ?_ _ | with_reducible refine Ext.drewN ?_ _ | with_reducible refine Ext.drew ?_ | with_reducible refine Ext.setCell ?_ ?_ _ | with_reducible refine Ext.more ?_ _ _ | (show _ ≤ _; dsimp only; omega)))⟩)
set_option maxRecDepth 100000 in
set_option maxHeartbeats 4000000 in
theorem behindR_3 (c : Cfg) (f : Frm) (hf : f.Fits) (l : Cel) (hl : l.Fits) (hc : c.cap ≤ 32) (hfi : f.i ≤ 254) (hfj : f.j ≤ 254) (hfh : f.h ≤ 254) (hp : f.pc = 3) (w : World) : Calls Tryd.prog 29 #[c.v, f.v, l.v] w (fun e w' => e = .returned (brBehind c f l).v ∧ Ext w w') := by
  obtain ⟨⟨k0, k1⟩, ⟨a0, a1⟩, ⟨b0, b1⟩, ⟨p0, p1⟩, ⟨i0, i1⟩, ⟨j0, j1⟩, ⟨m0, m1⟩, ⟨q0, q1⟩, ⟨h0, h1⟩, ⟨x0, x1⟩, ⟨y0, y1⟩⟩ := hf; obtain ⟨⟨t0, t1⟩, ⟨la0, la1⟩, ⟨lb0, lb1⟩, ⟨lc0, lc1⟩⟩ := hl; obtain ⟨fk, fa, fb, fpc, fi, fj, fn, fq, fh, fx, fy⟩ := f; dsimp only at *; subst hp
  cases z : (l.a == 0)
  · cases hi : decide (c.cap ≤ fi + 1)
    · have HS : Hid (brBehind c (Frm.mk fk fa fb 3 fi fj fn fq fh fx fy) l = Frm.mk fk fa fb 3 (fi + 1) fj fn fq fh fx fy) := Lib.hid (by simp at hi; simp [brBehind, z, hi])
      go_enter Tryd.func29, Tryd.ntmps29
      go_wp2
      (refine bodyPost_ret (v := (Frm.mk fk fa fb 3 (fi + 1) fj fn fq fh fx fy).v) (by simp [results, Tryd.results29, go_sem]) rfl ⟨by rw [HS.out], (by repeat (first | with_reducible exact Ext.refl _ | with_reducible assumption | with_reducible refine Ext.alloc ?_ _ | with_reducible refine Ext.gr ?_ _ | with_reducible refine Ext.drewN ?_ _ | with_reducible refine Ext.drew ?_ | with_reducible refine Ext.setCell ?_ ?_ _ | with_reducible refine Ext.more ?_ _ _ | (show _ ≤ _; dsimp only; omega)))⟩)
    · have HS : Hid (brBehind c (Frm.mk fk fa fb 3 fi fj fn fq fh fx fy) l = Frm.mk fk fa fb 22 fi fj fn fq fh fx fy) := Lib.hid (by simp at hi; simp [brBehind, z]; omega)
      go_enter Tryd.func29, Tryd.ntmps29
      go_wp2
      (refine bodyPost_ret (v := (Frm.mk fk fa fb 22 fi fj fn fq fh fx fy).v) (by simp [results, Tryd.results29, go_sem]) rfl ⟨by rw [HS.out], (by repeat (first | with_reducible exact Ext.refl _ | with_reducible assumption | with_reducible refine Ext.alloc ?_ _ | with_reducible refine Ext.gr ?_ _ | with_reducible refine Ext.drewN ?_ _ | with_reducible refine Ext.drew ?_ | with_reducible refine Ext.setCell ?_ ?_ _ | with_reducible refine Ext.more ?_ _ _ | (show _ ≤ _; dsimp only; omega)))⟩)
  · have HS : Hid (brBehind c (Frm.mk fk fa fb 3 fi fj fn fq fh fx fy) l = Frm.mk fk fa fb 2 fi fi fn fq fh fx fy) := Lib.hid (by simp [brBehind, z])
    cases hi : decide (c.cap ≤ fi + 1)
    · go_enter Tryd.func29, Tryd.ntmps29
      go_wp2
      (refine bodyPost_ret (v := (Frm.mk fk fa fb 2 fi fi fn fq fh fx fy).v) (by simp [results, Tryd.results29, go_sem]) rfl ⟨by rw [HS.out], (by repeat (first | with_reducible exact Ext.refl _ | with_reducible assumption | with_reducible refine Ext.alloc ?_ _ | with_reducible refine Ext.gr ?_ _ | with_reducible refine Ext.drewN ?_ _ | with_reducible refine Ext.drew ?_ | with_reducible refine Ext.setCell ?_ ?_ _ | with_reducible refine Ext.more ?_ _ _ | (show _ ≤ _; dsimp only; omega)))⟩)
    · go_enter Tryd.func29, Tryd.ntmps29
      go_wp2
      (refine bodyPost_ret (v := (Frm.mk fk fa fb 2 fi fi fn fq fh fx fy).v) (by simp [results, Tryd.results29, go_sem]) rfl ⟨by rw [HS.out], (by repeat (first | with_reducible exact Ext.refl _ | with_reducible assumption | with_reducible refine Ext.alloc ?_ _ | with_reducible refine Ext.gr ?_ _ | with_reducible refine Ext.drewN ?_ _ | with_reducible refine Ext.drew ?_ | with_reducible refine Ext.setCell ?_ ?_ _ | with_reducible refine Ext.more ?_ _ _ | (show _ ≤ _; dsimp only; omega)))⟩)
set_option maxRecDepth 100000 in
set_option maxHeartbeats 4000000 in
theorem behindR_5 (c : Cfg) (f : Frm) (hf : f.Fits) (l : Cel) (hl : l.Fits) (hc : c.cap ≤ 32) (hfi : f.i ≤ 254) (hfj : f.j ≤ 254) (hfh : f.h ≤ 254) (hp : f.pc = 5) (w : World) : Calls Tryd.prog 29 #[c.v, f.v, l.v] w (fun e w' => e = .returned (brBehind c f l).v ∧ Ext w w') := by
  obtain ⟨⟨k0, k1⟩, ⟨a0, a1⟩, ⟨b0, b1⟩, ⟨p0, p1⟩, ⟨i0, i1⟩, ⟨j0, j1⟩, ⟨m0, m1⟩, ⟨q0, q1⟩, ⟨h0, h1⟩, ⟨x0, x1⟩, ⟨y0, y1⟩⟩ := hf; obtain ⟨⟨t0, t1⟩, ⟨la0, la1⟩, ⟨lb0, lb1⟩, ⟨lc0, lc1⟩⟩ := hl; obtain ⟨fk, fa, fb, fpc, fi, fj, fn, fq, fh, fx, fy⟩ := f; dsimp only at *; subst hp
  cases z : (l.a == fq + 1)
  · cases hi : decide (c.cap ≤ fi + 1)
    · have HS : Hid (brBehind c (Frm.mk fk fa fb 5 fi fj fn fq fh fx fy) l = Frm.mk fk fa fb 5 (fi + 1) fj fn fq fh fx fy) := Lib.hid (by simp at hi; simp [brBehind, z, hi])
      go_enter Tryd.func29, Tryd.ntmps29
      go_wp2
      (refine bodyPost_ret (v := (Frm.mk fk fa fb 5 (fi + 1) fj fn fq fh fx fy).v) (by simp [results, Tryd.results29, go_sem]) rfl ⟨by rw [HS.out], (by repeat (first | with_reducible exact Ext.refl _ | with_reducible assumption | with_reducible refine Ext.alloc ?_ _ | with_reducible refine Ext.gr ?_ _ | with_reducible refine Ext.drewN ?_ _ | with_reducible refine Ext.drew ?_ | with_reducible refine Ext.setCell ?_ ?_ _ | with_reducible refine Ext.more ?_ _ _ | (show _ ≤ _; dsimp only; omega)))⟩)
    · have HS : Hid (brBehind c (Frm.mk fk fa fb 5 fi fj fn fq fh fx fy) l = Frm.mk fk fa fb 6 fi fj fn fq fh fx fy) := Lib.hid (by simp at hi; simp [brBehind, z]; omega)
      go_enter Tryd.func29, Tryd.ntmps29
      go_wp2
      (refine bodyPost_ret (v := (Frm.mk fk fa fb 6 fi fj fn fq fh fx fy).v) (by simp [results, Tryd.results29, go_sem]) rfl ⟨by rw [HS.out], (by repeat (first | with_reducible exact Ext.refl _ | with_reducible assumption | with_reducible refine Ext.alloc ?_ _ | with_reducible refine Ext.gr ?_ _ | with_reducible refine Ext.drewN ?_ _ | with_reducible refine Ext.drew ?_ | with_reducible refine Ext.setCell ?_ ?_ _ | with_reducible refine Ext.more ?_ _ _ | (show _ ≤ _; dsimp only; omega)))⟩)
  · have HS : Hid (brBehind c (Frm.mk fk fa fb 5 fi fj fn fq fh fx fy) l = Frm.mk fk fa fb 23 fi fj fn fq fh fx fy) := Lib.hid (by simp [brBehind, z])
    cases hi : decide (c.cap ≤ fi + 1)
    · go_enter Tryd.func29, Tryd.ntmps29
      go_wp2
      (refine bodyPost_ret (v := (Frm.mk fk fa fb 23 fi fj fn fq fh fx fy).v) (by simp [results, Tryd.results29, go_sem]) rfl ⟨by rw [HS.out], (by repeat (first | with_reducible exact Ext.refl _ | with_reducible assumption | with_reducible refine Ext.alloc ?_ _ | with_reducible refine Ext.gr ?_ _ | with_reducible refine Ext.drewN ?_ _ | with_reducible refine Ext.drew ?_ | with_reducible refine Ext.setCell ?_ ?_ _ | with_reducible refine Ext.more ?_ _ _ | (show _ ≤ _; dsimp only; omega)))⟩)
    · go_enter Tryd.func29, Tryd.ntmps29
      go_wp2
      (refine bodyPost_ret (v := (Frm.mk fk fa fb 23 fi fj fn fq fh fx fy).v) (by simp [results, Tryd.results29, go_sem]) rfl ⟨by rw [HS.out], (by repeat (first | with_reducible exact Ext.refl _ | with_reducible assumption | with_reducible refine Ext.alloc ?_ _ | with_reducible refine Ext.gr ?_ _ | with_reducible refine Ext.drewN ?_ _ | with_reducible refine Ext.drew ?_ | with_reducible refine Ext.setCell ?_ ?_ _ | with_reducible refine Ext.more ?_ _ _ | (show _ ≤ _; dsimp only; omega)))⟩)
set_option maxRecDepth 100000 in
set_option maxHeartbeats 4000000 in
theorem behindR_4 (c : Cfg) (f : Frm) (hf : f.Fits) (l : Cel) (hl : l.Fits) (hc : c.cap ≤ 32) (hfi : f.i ≤ 254) (hfj : f.j ≤ 254) (hfh : f.h ≤ 254) (hp : f.pc = 4) (w : World) : Calls Tryd.prog 29 #[c.v, f.v, l.v] w (fun e w' => e = .returned (brBehind c f l).v ∧ Ext w w') := by
  obtain ⟨⟨k0, k1⟩, ⟨a0, a1⟩, ⟨b0, b1⟩, ⟨p0, p1⟩, ⟨i0, i1⟩, ⟨j0, j1⟩, ⟨m0, m1⟩, ⟨q0, q1⟩, ⟨h0, h1⟩, ⟨x0, x1⟩, ⟨y0, y1⟩⟩ := hf; obtain ⟨⟨t0, t1⟩, ⟨la0, la1⟩, ⟨lb0, lb1⟩, ⟨lc0, lc1⟩⟩ := hl; obtain ⟨fk, fa, fb, fpc, fi, fj, fn, fq, fh, fx, fy⟩ := f; dsimp only at *; subst hp
  have HS : Hid (brBehind c (Frm.mk fk fa fb 4 fi fj fn fq fh fx fy) l = Frm.mk fk fa fb 20 fi fj fn fq fh fx fy) := Lib.hid (by simp [brBehind])
  cases hi : decide (c.cap ≤ fi + 1)
  · go_enter Tryd.func29, Tryd.ntmps29
    go_wp2
    (refine bodyPost_ret (v := (Frm.mk fk fa fb 20 fi fj fn fq fh fx fy).v) (by simp [results, Tryd.results29, go_sem]) rfl ⟨by rw [HS.out], (by repeat (first | with_reducible exact Ext.refl _ | with_reducible assumption | with_reducible refine Ext.alloc ?_ _ | with_reducible refine Ext.gr ?_ _ | with_reducible refine Ext.drewN ?_ _ | with_reducible refine Ext.drew ?_ | with_reducible refine Ext.setCell ?_ ?_ _ | with_reducible refine Ext.more ?_ _ _ | (show _ ≤ _; dsimp only; omega)))⟩)
  · go_enter Tryd.func29, Tryd.ntmps29
    go_wp2
    (refine bodyPost_ret (v := (Frm.mk fk fa fb 20 fi fj fn fq fh fx fy).v) (by simp [results, Tryd.results29, go_sem]) rfl ⟨by rw [HS.out], (by repeat (first | with_reducible exact Ext.refl _ | with_reducible assumption | with_reducible refine Ext.alloc ?_ _ | with_reducible refine Ext.gr ?_ _ | with_reducible refine Ext.drewN ?_ _ | with_reducible refine Ext.drew ?_ | with_reducible refine Ext.setCell ?_ ?_ _ | with_reducible refine Ext.more ?_ _ _ | (show _ ≤ _; dsimp only; omega)))⟩)
set_option maxRecDepth 100000 in
set_option maxHeartbeats 4000000 in
theorem behindR_6 (c : Cfg) (f : Frm) (hf : f.Fits) (l : Cel) (hl : l.Fits) (hc : c.cap ≤ 32) (hfi : f.i ≤ 254) (hfj : f.j ≤ 254) (hfh : f.h ≤ 254) (hp : f.pc = 6) (w : World) : Calls Tryd.prog 29 #[c.v, f.v, l.v] w (fun e w' => e = .returned (brBehind c f l).v ∧ Ext w w') := by
  obtain ⟨⟨k0, k1⟩, ⟨a0, a1⟩, ⟨b0, b1⟩, ⟨p0, p1⟩, ⟨i0, i1⟩, ⟨j0, j1⟩, ⟨m0, m1⟩, ⟨q0, q1⟩, ⟨h0, h1⟩, ⟨x0, x1⟩, ⟨y0, y1⟩⟩ := hf; obtain ⟨⟨t0, t1⟩, ⟨la0, la1⟩, ⟨lb0, lb1⟩, ⟨lc0, lc1⟩⟩ := hl; obtain ⟨fk, fa, fb, fpc, fi, fj, fn, fq, fh, fx, fy⟩ := f; dsimp only at *; subst hp
  have HS : Hid (brBehind c (Frm.mk fk fa fb 6 fi fj fn fq fh fx fy) l = Frm.mk fk fa fb 20 fi fj fn fq fh fx fy) := Lib.hid (by simp [brBehind])
  cases hi : decide (c.cap ≤ fi + 1)
  · go_enter Tryd.func29, Tryd.ntmps29
    go_wp2
    (refine bodyPost_ret (v := (Frm.mk fk fa fb 20 fi fj fn fq fh fx fy).v) (by simp [results, Tryd.results29, go_sem]) rfl ⟨by rw [HS.out], (by repeat (first | with_reducible exact Ext.refl _ | with_reducible assumption | with_reducible refine Ext.alloc ?_ _ | with_reducible refine Ext.gr ?_ _ | with_reducible refine Ext.drewN ?_ _ | with_reducible refine Ext.drew ?_ | with_reducible refine Ext.setCell ?_ ?_ _ | with_reducible refine Ext.more ?_ _ _ | (show _ ≤ _; dsimp only; omega)))⟩)
  · go_enter Tryd.func29, Tryd.ntmps29
    go_wp2
    (refine bodyPost_ret (v := (Frm.mk fk fa fb 20 fi fj fn fq fh fx fy).v) (by simp [results, Tryd.results29, go_sem]) rfl ⟨by rw [HS.out], (by repeat (first | with_reducible exact Ext.refl _ | with_reducible assumption | with_reducible refine Ext.alloc ?_ _ | with_reducible refine Ext.gr ?_ _ | with_reducible refine Ext.drewN ?_ _ | with_reducible refine Ext.drew ?_ | with_reducible refine Ext.setCell ?_ ?_ _ | with_reducible refine Ext.more ?_ _ _ | (show _ ≤ _; dsimp only; omega)))⟩)
set_option maxRecDepth 100000 in
set_option maxHeartbeats 4000000 in
theorem behindR_20 (c : Cfg) (f : Frm) (hf : f.Fits) (l : Cel) (hl : l.Fits) (hc : c.cap ≤ 32) (hfi : f.i ≤ 254) (hfj : f.j ≤ 254) (hfh : f.h ≤ 254) (hp : f.pc = 20) (w : World) : Calls Tryd.prog 29 #[c.v, f.v, l.v] w (fun e w' => e = .returned (brBehind c f l).v ∧ Ext w w') := by
  obtain ⟨⟨k0, k1⟩, ⟨a0, a1⟩, ⟨b0, b1⟩, ⟨p0, p1⟩, ⟨i0, i1⟩, ⟨j0, j1⟩, ⟨m0, m1⟩, ⟨q0, q1⟩, ⟨h0, h1⟩, ⟨x0, x1⟩, ⟨y0, y1⟩⟩ := hf; obtain ⟨⟨t0, t1⟩, ⟨la0, la1⟩, ⟨lb0, lb1⟩, ⟨lc0, lc1⟩⟩ := hl; obtain ⟨fk, fa, fb, fpc, fi, fj, fn, fq, fh, fx, fy⟩ := f; dsimp only at *; subst hp
  have HS : Hid (brBehind c (Frm.mk fk fa fb 20 fi fj fn fq fh fx fy) l = Frm.mk fk fa fb 20 fi fj fn fq fh fx fy) := Lib.hid (by simp [brBehind])
  cases hi : decide (c.cap ≤ fi + 1)
  · go_enter Tryd.func29, Tryd.ntmps29
    go_wp2
    (refine bodyPost_ret (v := (Frm.mk fk fa fb 20 fi fj fn fq fh fx fy).v) (by simp [results, Tryd.results29, go_sem]) rfl ⟨by rw [HS.out], (by repeat (first | with_reducible exact Ext.refl _ | with_reducible assumption | with_reducible refine Ext.alloc ?_ _ | with_reducible refine Ext.gr ?_ _ | with_reducible refine Ext.drewN ?_ _ | with_reducible refine Ext.drew ?_ | with_reducible refine Ext.setCell ?_ ?_ _ | with_reducible refine Ext.more ?_ _ _ | (show _ ≤ _; dsimp only; omega)))⟩)
  · go_enter Tryd.func29, Tryd.ntmps29
    go_wp2
    (refine bodyPost_ret (v := (Frm.mk fk fa fb 20 fi fj fn fq fh fx fy).v) (by simp [results, Tryd.results29, go_sem]) rfl ⟨by rw [HS.out], (by repeat (first | with_reducible exact Ext.refl _ | with_reducible assumption | with_reducible refine Ext.alloc ?_ _ | with_reducible refine Ext.gr ?_ _ | with_reducible refine Ext.drewN ?_ _ | with_reducible refine Ext.drew ?_ | with_reducible refine Ext.setCell ?_ ?_ _ | with_reducible refine Ext.more ?_ _ _ | (show _ ≤ _; dsimp only; omega)))⟩)
set_option maxRecDepth 100000 in
set_option maxHeartbeats 4000000 in
theorem behindR_21 (c : Cfg) (f : Frm) (hf : f.Fits) (l : Cel) (hl : l.Fits) (hc : c.cap ≤ 32) (hfi : f.i ≤ 254) (hfj : f.j ≤ 254) (hfh : f.h ≤ 254) (hp : f.pc = 21) (w : World) : Calls Tryd.prog 29 #[c.v, f.v, l.v] w (fun e w' => e = .returned (brBehind c f l).v ∧ Ext w w') := by
  obtain ⟨⟨k0, k1⟩, ⟨a0, a1⟩, ⟨b0, b1⟩, ⟨p0, p1⟩, ⟨i0, i1⟩, ⟨j0, j1⟩, ⟨m0, m1⟩, ⟨q0, q1⟩, ⟨h0, h1⟩, ⟨x0, x1⟩, ⟨y0, y1⟩⟩ := hf; obtain ⟨⟨t0, t1⟩, ⟨la0, la1⟩, ⟨lb0, lb1⟩, ⟨lc0, lc1⟩⟩ := hl; obtain ⟨fk, fa, fb, fpc, fi, fj, fn, fq, fh, fx, fy⟩ := f; dsimp only at *; subst hp
  have HS : Hid (brBehind c (Frm.mk fk fa fb 21 fi fj fn fq fh fx fy) l = Frm.mk fk fa fb 21 fi fj fn fq fh fx fy) := Lib.hid (by simp [brBehind])
  cases hi : decide (c.cap ≤ fi + 1)
  · go_enter Tryd.func29, Tryd.ntmps29
    go_wp2
    (refine bodyPost_ret (v := (Frm.mk fk fa fb 21 fi fj fn fq fh fx fy).v) (by simp [results, Tryd.results29, go_sem]) rfl ⟨by rw [HS.out], (by repeat (first | with_reducible exact Ext.refl _ | with_reducible assumption | with_reducible refine Ext.alloc ?_ _ | with_reducible refine Ext.gr ?_ _ | with_reducible refine Ext.drewN ?_ _ | with_reducible refine Ext.drew ?_ | with_reducible refine Ext.setCell ?_ ?_ _ | with_reducible refine Ext.more ?_ _ _ | (show _ ≤ _; dsimp only; omega)))⟩)
  · go_enter Tryd.func29, Tryd.ntmps29
    go_wp2
    (refine bodyPost_ret (v := (Frm.mk fk fa fb 21 fi fj fn fq fh fx fy).v) (by simp [results, Tryd.results29, go_sem]) rfl ⟨by rw [HS.out], (by repeat (first | with_reducible exact Ext.refl _ | with_reducible assumption | with_reducible refine Ext.alloc ?_ _ | with_reducible refine Ext.gr ?_ _ | with_reducible refine Ext.drewN ?_ _ | with_reducible refine Ext.drew ?_ | with_reducible refine Ext.setCell ?_ ?_ _ | with_reducible refine Ext.more ?_ _ _ | (show _ ≤ _; dsimp only; omega)))⟩)
set_option maxRecDepth 100000 in
set_option maxHeartbeats 4000000 in
theorem behindR_22 (c : Cfg) (f : Frm) (hf : f.Fits) (l : Cel) (hl : l.Fits) (hc : c.cap ≤ 32) (hfi : f.i ≤ 254) (hfj : f.j ≤ 254) (hfh : f.h ≤ 254) (hp : f.pc = 22) (w : World) : Calls Tryd.prog 29 #[c.v, f.v, l.v] w (fun e w' => e = .returned (brBehind c f l).v ∧ Ext w w') := by
  obtain ⟨⟨k0, k1⟩, ⟨a0, a1⟩, ⟨b0, b1⟩, ⟨p0, p1⟩, ⟨i0, i1⟩, ⟨j0, j1⟩, ⟨m0, m1⟩, ⟨q0, q1⟩, ⟨h0, h1⟩, ⟨x0, x1⟩, ⟨y0, y1⟩⟩ := hf; obtain ⟨⟨t0, t1⟩, ⟨la0, la1⟩, ⟨lb0, lb1⟩, ⟨lc0, lc1⟩⟩ := hl; obtain ⟨fk, fa, fb, fpc, fi, fj, fn, fq, fh, fx, fy⟩ := f; dsimp only at *; subst hp
  have HS : Hid (brBehind c (Frm.mk fk fa fb 22 fi fj fn fq fh fx fy) l = Frm.mk fk fa fb 22 fi fj fn fq fh fx fy) := Lib.hid (by simp [brBehind])
  cases hi : decide (c.cap ≤ fi + 1)
  · go_enter Tryd.func29, Tryd.ntmps29
    go_wp2
    (refine bodyPost_ret (v := (Frm.mk fk fa fb 22 fi fj fn fq fh fx fy).v) (by simp [results, Tryd.results29, go_sem]) rfl ⟨by rw [HS.out], (by repeat (first | with_reducible exact Ext.refl _ | with_reducible assumption | with_reducible refine Ext.alloc ?_ _ | with_reducible refine Ext.gr ?_ _ | with_reducible refine Ext.drewN ?_ _ | with_reducible refine Ext.drew ?_ | with_reducible refine Ext.setCell ?_ ?_ _ | with_reducible refine Ext.more ?_ _ _ | (show _ ≤ _; dsimp only; omega)))⟩)
  · go_enter Tryd.func29, Tryd.ntmps29
    go_wp2
    (refine bodyPost_ret (v := (Frm.mk fk fa fb 22 fi fj fn fq fh fx fy).v) (by simp [results, Tryd.results29, go_sem]) rfl ⟨by rw [HS.out], (by repeat (first | with_reducible exact Ext.refl _ | with_reducible assumption | with_reducible refine Ext.alloc ?_ _ | with_reducible refine Ext.gr ?_ _ | with_reducible refine Ext.drewN ?_ _ | with_reducible refine Ext.drew ?_ | with_reducible refine Ext.setCell ?_ ?_ _ | with_reducible refine Ext.more ?_ _ _ | (show _ ≤ _; dsimp only; omega)))⟩)
set_option maxRecDepth 100000 in
set_option maxHeartbeats 4000000 in
theorem behindR_23 (c : Cfg) (f : Frm) (hf : f.Fits) (l : Cel) (hl : l.Fits) (hc : c.cap ≤ 32) (hfi : f.i ≤ 254) (hfj : f.j ≤ 254) (hfh : f.h ≤ 254) (hp : f.pc = 23) (w : World) : Calls Tryd.prog 29 #[c.v, f.v, l.v] w (fun e w' => e = .returned (brBehind c f l).v ∧ Ext w w') := by
  obtain ⟨⟨k0, k1⟩, ⟨a0, a1⟩, ⟨b0, b1⟩, ⟨p0, p1⟩, ⟨i0, i1⟩, ⟨j0, j1⟩, ⟨m0, m1⟩, ⟨q0, q1⟩, ⟨h0, h1⟩, ⟨x0, x1⟩, ⟨y0, y1⟩⟩ := hf; obtain ⟨⟨t0, t1⟩, ⟨la0, la1⟩, ⟨lb0, lb1⟩, ⟨lc0, lc1⟩⟩ := hl; obtain ⟨fk, fa, fb, fpc, fi, fj, fn, fq, fh, fx, fy⟩ := f; dsimp only at *; subst hp
  have HS : Hid (brBehind c (Frm.mk fk fa fb 23 fi fj fn fq fh fx fy) l = Frm.mk fk fa fb 23 fi fj fn fq fh fx fy) := Lib.hid (by simp [brBehind])
  cases hi : decide (c.cap ≤ fi + 1)
  · go_enter Tryd.func29, Tryd.ntmps29
    go_wp2
    (refine bodyPost_ret (v := (Frm.mk fk fa fb 23 fi fj fn fq fh fx fy).v) (by simp [results, Tryd.results29, go_sem]) rfl ⟨by rw [HS.out], (by repeat (first | with_reducible exact Ext.refl _ | with_reducible assumption | with_reducible refine Ext.alloc ?_ _ | with_reducible refine Ext.gr ?_ _ | with_reducible refine Ext.drewN ?_ _ | with_reducible refine Ext.drew ?_ | with_reducible refine Ext.setCell ?_ ?_ _ | with_reducible refine Ext.more ?_ _ _ | (show _ ≤ _; dsimp only; omega)))⟩)
  · go_enter Tryd.func29, Tryd.ntmps29
    go_wp2
    (refine bodyPost_ret (v := (Frm.mk fk fa fb 23 fi fj fn fq fh fx fy).v) (by simp [results, Tryd.results29, go_sem]) rfl ⟨by rw [HS.out], (by repeat (first | with_reducible exact Ext.refl _ | with_reducible assumption | with_reducible refine Ext.alloc ?_ _ | with_reducible refine Ext.gr ?_ _ | with_reducible refine Ext.drewN ?_ _ | with_reducible refine Ext.drew ?_ | with_reducible refine Ext.setCell ?_ ?_ _ | with_reducible refine Ext.more ?_ _ _ | (show _ ≤ _; dsimp only; omega)))⟩)

theorem behindR_any (c : Cfg) (f : Frm) (hf : f.Fits) (l : Cel) (hl : l.Fits) (he : brErr c f = 0) (w : World) : Calls Tryd.prog 29 #[c.v, f.v, l.v] w
    fun e w' => e = .returned (brBehind c f l).v ∧ Ext w w' := by
  obtain ⟨hp, ho, h4⟩ := brErr_ok he
  obtain ⟨m1, m2, m3, m4, m5, m6, m7, m8, m9, m10, m11⟩ := brMay_facts h4
  have hc := (partOk_cap hp).2
  have hl3 := brLong_le f
  rcases brHas_pc m2 with h | h | h | h | h | h | h | h | h | h
  · exact behindR_0 c f hf l hl hc (by omega) (by omega) (by omega) h w
  · exact behindR_3 c f hf l hl hc (by omega) (by omega) (by omega) h w
  · exact behindR_5 c f hf l hl hc (by omega) (by omega) (by omega) h w
  · exact behindR_6 c f hf l hl hc (by omega) (by omega) (by omega) h w
  · exact behindR_2 c f hf l hl hc (by omega) (by omega) (by omega) h w
  · exact behindR_4 c f hf l hl hc (by omega) (by omega) (by omega) h w
  · exact behindR_20 c f hf l hl hc (by omega) (by omega) (by omega) h w
  · exact behindR_21 c f hf l hl hc (by omega) (by omega) (by omega) h w
  · exact behindR_22 c f hf l hl hc (by omega) (by omega) (by omega) h w
  · exact behindR_23 c f hf l hl hc (by omega) (by omega) (by omega) h w

end Go.Proofs.YtmbodooikfmegaaDoor
