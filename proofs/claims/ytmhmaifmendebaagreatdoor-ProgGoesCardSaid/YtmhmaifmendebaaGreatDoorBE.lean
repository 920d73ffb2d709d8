/- The walks of the reference of layer 'branch': what a frame is behind its act. -/
import Derived.Test.YtmhmaifmendebaaGreatDoorBB
namespace Go.Proofs.YtmhmaifmendebaaGreatDoor.branch
open Go Go.RowKit
set_option maxRecDepth 100000
set_option maxHeartbeats 8000000

theorem brLong_le4 (f : Frm) : 0 ≤ brLong f ∧ brLong f ≤ 3 := by
  unfold brLong
  split
  · omega
  · split
    · omega
    · split <;> omega

theorem nextR_any (f : Frm) (hf : f.Fits) (l : Cel) (hl : l.Fits) (hi : f.i ≤ 254) (hh : f.h ≤ 254) (w : World) : Calls Tryz.prog 88 #[f.v, l.v] w
    fun e w' => e = .returned (brFound f l).v ∧ Ext w w' := by
  have HF := Lib.hid hf
  have HL := Lib.hid hl
  obtain ⟨X, hX⟩ : ∃ X, l.c % 4294967296 = X := ⟨_, rfl⟩
  have x2 : 0 ≤ X ∧ X ≤ 4294967295 := by omega
  obtain ⟨L, hL⟩ : ∃ L, brLong f = L := ⟨_, rfl⟩
  have hl3 := brLong_le4 f
  rw [hL] at hl3
  obtain ⟨⟨k0, k1⟩, ⟨a0, a1⟩, ⟨b0, b1⟩, ⟨p0, p1⟩, ⟨i0, i1⟩, ⟨j0, j1⟩, ⟨m0, m1⟩, ⟨q0, q1⟩, ⟨h0, h1⟩, ⟨x0, x1⟩, ⟨y0, y1⟩⟩ := hf; obtain ⟨⟨t0, t1⟩, ⟨la0, la1⟩, ⟨lb0, lb1⟩, ⟨lc0, lc1⟩⟩ := hl; obtain ⟨fk, fa, fb, fpc, fi, fj, fn, fq, fh, fx, fy⟩ := f; dsimp only at *
  have HFF : Hid (Frm.mk fk fa fb fpc fi fq fn (fi + 1) (fh + 1) X fy).Fits := Lib.hid ⟨⟨k0, k1⟩, ⟨a0, a1⟩, ⟨b0, b1⟩, ⟨p0, p1⟩, ⟨i0, i1⟩, ⟨q0, q1⟩, ⟨m0, m1⟩, by dsimp only; omega, by dsimp only; omega, x2, ⟨y0, y1⟩⟩
  have HLL : Hid (brLong (Frm.mk fk fa fb fpc fi fq fn (fi + 1) (fh + 1) X fy) = L) := Lib.hid hL
  have HX := Lib.hid hX
  have HL0 := Lib.hid hL
  clear hX hL
  by_cases hm : fh + 1 < L
  · have hm' : decide (fh + 1 < L) = true := by simpa using hm
    have HS : Hid (brFound (Frm.mk fk fa fb fpc fi fj fn fq fh fx fy) l = (Frm.mk fk fa fb fpc 0 fq 0 (fi + 1) (fh + 1) X fy)) := Lib.hid (by simp only [brFound, HL0.out, HX.out, if_pos hm])
    have hx := HX.out
    go_enter Tryz.func88, Tryz.ntmps88
    go_wp2
    ((refine wp_region_ext_lit (by kernel_rfl) (by kernel_rfl) ?_); (repeat (go_big_quiet_step ((go_at_call 62; exact quiet_ext ((longR_any _ HFF.out _).mono fun e w' ⟨he, hx⟩ => ⟨by rw [he, HLL.out], hx⟩))))); (refine wpQuiet_nil ?_; intro _ hw'; obtain ⟨⟨osq, nq⟩, hw''⟩ := hw'; replace hw'' : _ = grew _ osq nq := hw''; subst hw''))
    go_wp2
    refine bodyPost_ret (v := ((Frm.mk fk fa fb fpc 0 fq 0 (fi + 1) (fh + 1) X fy)).v) (by simp [results, Tryz.results88, go_sem]) rfl ⟨by rw [HS.out], EX⟩
  · have hm' : decide (fh + 1 < L) = false := by simpa using hm
    cases k12 : (fk == 12)
    · cases k13 : (fk == 13)
      · cases xz : (X == 0)
        · have xz' : (X != 0) = true := by simpa using xz
          have HS : Hid (brFound (Frm.mk fk fa fb fpc fi fj fn fq fh fx fy) l = (Frm.mk fk fa fb 20 fi fq fn (fi + 1) (fh + 1) X fy)) := Lib.hid (by simp only [brFound, HL0.out, HX.out, if_neg hm, k12, k13, xz, Bool.false_eq_true, if_false])
          have hx := HX.out
          go_enter Tryz.func88, Tryz.ntmps88
          go_wp2
          ((refine wp_region_ext_lit (by kernel_rfl) (by kernel_rfl) ?_); (repeat (go_big_quiet_step ((go_at_call 62; exact quiet_ext ((longR_any _ HFF.out _).mono fun e w' ⟨he, hx⟩ => ⟨by rw [he, HLL.out], hx⟩))))); (refine wpQuiet_nil ?_; intro _ hw'; obtain ⟨⟨osq, nq⟩, hw''⟩ := hw'; replace hw'' : _ = grew _ osq nq := hw''; subst hw''))
          go_wp2
          refine bodyPost_ret (v := ((Frm.mk fk fa fb 20 fi fq fn (fi + 1) (fh + 1) X fy)).v) (by simp [results, Tryz.results88, go_sem]) rfl ⟨by rw [HS.out], EX⟩
        · have xz' : (X != 0) = false := by simpa using xz
          have HS : Hid (brFound (Frm.mk fk fa fb fpc fi fj fn fq fh fx fy) l = (Frm.mk fk fa fb 21 fi fq fn (fi + 1) (fh + 1) X fy)) := Lib.hid (by simp only [brFound, HL0.out, HX.out, if_neg hm, k12, k13, xz, Bool.false_eq_true, if_false, if_true])
          have hx := HX.out
          go_enter Tryz.func88, Tryz.ntmps88
          go_wp2
          ((refine wp_region_ext_lit (by kernel_rfl) (by kernel_rfl) ?_); (repeat (go_big_quiet_step ((go_at_call 62; exact quiet_ext ((longR_any _ HFF.out _).mono fun e w' ⟨he, hx⟩ => ⟨by rw [he, HLL.out], hx⟩))))); (refine wpQuiet_nil ?_; intro _ hw'; obtain ⟨⟨osq, nq⟩, hw''⟩ := hw'; replace hw'' : _ = grew _ osq nq := hw''; subst hw''))
          go_wp2
          refine bodyPost_ret (v := ((Frm.mk fk fa fb 21 fi fq fn (fi + 1) (fh + 1) X fy)).v) (by simp [results, Tryz.results88, go_sem]) rfl ⟨by rw [HS.out], EX⟩
      · skip
        have HS : Hid (brFound (Frm.mk fk fa fb fpc fi fj fn fq fh fx fy) l = (Frm.mk fk fa fb 5 0 fq fn (fi + 1) (fh + 1) X fy)) := Lib.hid (by simp only [brFound, HL0.out, HX.out, if_neg hm, k12, k13, Bool.false_eq_true, if_false, if_true])
        have hx := HX.out
        go_enter Tryz.func88, Tryz.ntmps88
        go_wp2
        ((refine wp_region_ext_lit (by kernel_rfl) (by kernel_rfl) ?_); (repeat (go_big_quiet_step ((go_at_call 62; exact quiet_ext ((longR_any _ HFF.out _).mono fun e w' ⟨he, hx⟩ => ⟨by rw [he, HLL.out], hx⟩))))); (refine wpQuiet_nil ?_; intro _ hw'; obtain ⟨⟨osq, nq⟩, hw''⟩ := hw'; replace hw'' : _ = grew _ osq nq := hw''; subst hw''))
        go_wp2
        refine bodyPost_ret (v := ((Frm.mk fk fa fb 5 0 fq fn (fi + 1) (fh + 1) X fy)).v) (by simp [results, Tryz.results88, go_sem]) rfl ⟨by rw [HS.out], EX⟩
    · skip
      have HS : Hid (brFound (Frm.mk fk fa fb fpc fi fj fn fq fh fx fy) l = (Frm.mk fk fa fb 4 fi fq fn (fi + 1) (fh + 1) X fy)) := Lib.hid (by simp only [brFound, HL0.out, HX.out, if_neg hm, k12, if_true])
      have hx := HX.out
      go_enter Tryz.func88, Tryz.ntmps88
      go_wp2
      ((refine wp_region_ext_lit (by kernel_rfl) (by kernel_rfl) ?_); (repeat (go_big_quiet_step ((go_at_call 62; exact quiet_ext ((longR_any _ HFF.out _).mono fun e w' ⟨he, hx⟩ => ⟨by rw [he, HLL.out], hx⟩))))); (refine wpQuiet_nil ?_; intro _ hw'; obtain ⟨⟨osq, nq⟩, hw''⟩ := hw'; replace hw'' : _ = grew _ osq nq := hw''; subst hw''))
      go_wp2
      refine bodyPost_ret (v := ((Frm.mk fk fa fb 4 fi fq fn (fi + 1) (fh + 1) X fy)).v) (by simp [results, Tryz.results88, go_sem]) rfl ⟨by rw [HS.out], EX⟩

theorem madeR_any (c : Cfg) (f : Frm) (hf : f.Fits) (l : Cel) (hl : l.Fits) (hj : f.j ≤ 254) (hh : f.h ≤ 254) (w : World) : Calls Tryz.prog 90 #[c.v, f.v] w
    fun e w' => e = .returned (brMade c f).v ∧ Ext w w' := by
  have HF := Lib.hid hf
  obtain ⟨L, hL⟩ : ∃ L, brLong f = L := ⟨_, rfl⟩
  have hl3 := brLong_le4 f
  rw [hL] at hl3
  obtain ⟨⟨k0, k1⟩, ⟨a0, a1⟩, ⟨b0, b1⟩, ⟨p0, p1⟩, ⟨i0, i1⟩, ⟨j0, j1⟩, ⟨m0, m1⟩, ⟨q0, q1⟩, ⟨h0, h1⟩, ⟨x0, x1⟩, ⟨y0, y1⟩⟩ := hf; obtain ⟨⟨t0, t1⟩, ⟨la0, la1⟩, ⟨lb0, lb1⟩, ⟨lc0, lc1⟩⟩ := hl; obtain ⟨fk, fa, fb, fpc, fi, fj, fn, fq, fh, fx, fy⟩ := f; dsimp only at *
  have HFF : Hid (Frm.mk fk fa fb fpc fi fj fn (fj + 1) (fh + 1) fx fy).Fits := Lib.hid ⟨⟨k0, k1⟩, ⟨a0, a1⟩, ⟨b0, b1⟩, ⟨p0, p1⟩, ⟨i0, i1⟩, ⟨j0, j1⟩, ⟨m0, m1⟩, by dsimp only; omega, by dsimp only; omega, ⟨x0, x1⟩, ⟨y0, y1⟩⟩
  have HLL : Hid (brLong (Frm.mk fk fa fb fpc fi fj fn (fj + 1) (fh + 1) fx fy) = L) := Lib.hid hL
  have HL0 := Lib.hid hL
  clear hL
  cases z : (fh + 1 == L)
  · by_cases hk : fj + 1 < c.cap
    · skip
      have HS : Hid (brMade c (Frm.mk fk fa fb fpc fi fj fn fq fh fx fy) = (Frm.mk fk fa fb 3 (fj + 1) fj fn (fj + 1) (fh + 1) fx fy)) := Lib.hid (by simp only [brMade, HL0.out, z, Bool.false_eq_true, if_false, if_pos hk])
      go_enter Tryz.func90, Tryz.ntmps90
      go_wp2
      ((refine wp_region_ext_lit (by kernel_rfl) (by kernel_rfl) ?_); (repeat (go_big_quiet_step ((go_at_call 62; exact quiet_ext ((longR_any _ HFF.out _).mono fun e w' ⟨he, hx⟩ => ⟨by rw [he, HLL.out], hx⟩))))); (refine wpQuiet_nil ?_; intro _ hw'; obtain ⟨⟨osq, nq⟩, hw''⟩ := hw'; replace hw'' : _ = grew _ osq nq := hw''; subst hw''))
      go_wp2
      refine bodyPost_ret (v := ((Frm.mk fk fa fb 3 (fj + 1) fj fn (fj + 1) (fh + 1) fx fy)).v) (by simp [results, Tryz.results90, go_sem]) rfl ⟨by rw [HS.out], EX⟩
    · skip
      have HS : Hid (brMade c (Frm.mk fk fa fb fpc fi fj fn fq fh fx fy) = (Frm.mk fk fa fb 22 fi fj fn (fj + 1) (fh + 1) fx fy)) := Lib.hid (by simp only [brMade, HL0.out, z, Bool.false_eq_true, if_false, if_neg hk])
      go_enter Tryz.func90, Tryz.ntmps90
      go_wp2
      ((refine wp_region_ext_lit (by kernel_rfl) (by kernel_rfl) ?_); (repeat (go_big_quiet_step ((go_at_call 62; exact quiet_ext ((longR_any _ HFF.out _).mono fun e w' ⟨he, hx⟩ => ⟨by rw [he, HLL.out], hx⟩))))); (refine wpQuiet_nil ?_; intro _ hw'; obtain ⟨⟨osq, nq⟩, hw''⟩ := hw'; replace hw'' : _ = grew _ osq nq := hw''; subst hw''))
      go_wp2
      refine bodyPost_ret (v := ((Frm.mk fk fa fb 22 fi fj fn (fj + 1) (fh + 1) fx fy)).v) (by simp [results, Tryz.results90, go_sem]) rfl ⟨by rw [HS.out], EX⟩
  · skip
    have HS : Hid (brMade c (Frm.mk fk fa fb fpc fi fj fn fq fh fx fy) = (Frm.mk fk fa fb 20 fi fj fn (fj + 1) (fh + 1) 0 fy)) := Lib.hid (by simp only [brMade, HL0.out, z, if_true])
    go_enter Tryz.func90, Tryz.ntmps90
    go_wp2
    ((refine wp_region_ext_lit (by kernel_rfl) (by kernel_rfl) ?_); (repeat (go_big_quiet_step ((go_at_call 62; exact quiet_ext ((longR_any _ HFF.out _).mono fun e w' ⟨he, hx⟩ => ⟨by rw [he, HLL.out], hx⟩))))); (refine wpQuiet_nil ?_; intro _ hw'; obtain ⟨⟨osq, nq⟩, hw''⟩ := hw'; replace hw'' : _ = grew _ osq nq := hw''; subst hw''))
    go_wp2
    refine bodyPost_ret (v := ((Frm.mk fk fa fb 20 fi fj fn (fj + 1) (fh + 1) 0 fy)).v) (by simp [results, Tryz.results90, go_sem]) rfl ⟨by rw [HS.out], EX⟩

theorem otherR_any (c : Cfg) (f : Frm) (hf : f.Fits) (l : Cel) (hl : l.Fits) (hc : c.cap ≤ 32) (hn : f.n ≤ 254) (w : World) : Calls Tryz.prog 89 #[c.v, f.v, l.v] w
    fun e w' => e = .returned (brOther c f l).v ∧ Ext w w' := by
  have HF := Lib.hid hf
  obtain ⟨L, hL⟩ : ∃ L, brLong f = L := ⟨_, rfl⟩
  have hl3 := brLong_le4 f
  rw [hL] at hl3
  obtain ⟨⟨k0, k1⟩, ⟨a0, a1⟩, ⟨b0, b1⟩, ⟨p0, p1⟩, ⟨i0, i1⟩, ⟨j0, j1⟩, ⟨m0, m1⟩, ⟨q0, q1⟩, ⟨h0, h1⟩, ⟨x0, x1⟩, ⟨y0, y1⟩⟩ := hf; obtain ⟨⟨t0, t1⟩, ⟨la0, la1⟩, ⟨lb0, lb1⟩, ⟨lc0, lc1⟩⟩ := hl; obtain ⟨fk, fa, fb, fpc, fi, fj, fn, fq, fh, fx, fy⟩ := f; dsimp only at *
  have HL0 := Lib.hid hL
  clear hL
  cases z : (l.a == 0)
  · skip
    have HFF : Hid (Frm.mk fk fa fb 2 fi fj fn fq fh fx fy).Fits := Lib.hid ⟨⟨k0, k1⟩, ⟨a0, a1⟩, ⟨b0, b1⟩, by dsimp only; omega, ⟨i0, i1⟩, by dsimp only; omega, by dsimp only; omega, ⟨q0, q1⟩, ⟨h0, h1⟩, ⟨x0, x1⟩, ⟨y0, y1⟩⟩
    have HLL : Hid (brLong (Frm.mk fk fa fb 2 fi fj fn fq fh fx fy) = L) := Lib.hid HL0.out
    have HLB : ∀ x y, brLong (Frm.mk fk fa fb fpc fi x y fq fh fx fy) = L := fun _ _ => HL0.out
    have HLB := Lib.hid HLB
    by_cases hi : fi + 1 < c.cap
    · skip
      have HS : Hid (brOther c (Frm.mk fk fa fb fpc fi fj fn fq fh fx fy) l = (Frm.mk fk fa fb fpc (fi + 1) fj fn fq fh fx fy)) := Lib.hid (by simp only [brOther, brMore, HLB.out, z, Bool.false_eq_true, if_false, if_pos hi])
      go_enter Tryz.func89, Tryz.ntmps89
      go_wp2
      refine bodyPost_ret (v := ((Frm.mk fk fa fb fpc (fi + 1) fj fn fq fh fx fy)).v) (by simp [results, Tryz.results89, go_sem]) rfl ⟨by rw [HS.out], EX⟩
    · cases k12 : (fk == 12)
      · skip
        have HS : Hid (brOther c (Frm.mk fk fa fb fpc fi fj fn fq fh fx fy) l = (Frm.mk fk fa fb 21 fi fj fn fq fh fx fy)) := Lib.hid (by simp only [brOther, brMore, HLB.out, z, Bool.false_eq_true, if_false, if_neg hi, k12, Bool.false_eq_true, if_false])
        go_enter Tryz.func89, Tryz.ntmps89
        go_wp2
        refine bodyPost_ret (v := ((Frm.mk fk fa fb 21 fi fj fn fq fh fx fy)).v) (by simp [results, Tryz.results89, go_sem]) rfl ⟨by rw [HS.out], EX⟩
      · by_cases hr : fn < L - fh
        · skip
          have HS : Hid (brOther c (Frm.mk fk fa fb fpc fi fj fn fq fh fx fy) l = (Frm.mk fk fa fb 22 fi fj fn fq fh fx fy)) := Lib.hid (by simp only [brOther, brMore, HLB.out, z, Bool.false_eq_true, if_false, if_neg hi, k12, if_true, if_pos hr])
          go_enter Tryz.func89, Tryz.ntmps89
          go_wp2
          ((refine wp_region_ext_lit (by kernel_rfl) (by kernel_rfl) ?_); (repeat (go_big_quiet_step ((go_at_call 62; exact quiet_ext ((longR_any _ HFF.out _).mono fun e w' ⟨he, hx⟩ => ⟨by rw [he, HLL.out], hx⟩))))); (refine wpQuiet_nil ?_; intro _ hw'; obtain ⟨⟨osq, nq⟩, hw''⟩ := hw'; replace hw'' : _ = grew _ osq nq := hw''; subst hw''))
          go_wp2
          refine bodyPost_ret (v := ((Frm.mk fk fa fb 22 fi fj fn fq fh fx fy)).v) (by simp [results, Tryz.results89, go_sem]) rfl ⟨by rw [HS.out], EX⟩
        · skip
          have HS : Hid (brOther c (Frm.mk fk fa fb fpc fi fj fn fq fh fx fy) l = (Frm.mk fk fa fb 2 fi fj fn fq fh fx fy)) := Lib.hid (by simp only [brOther, brMore, HLB.out, z, Bool.false_eq_true, if_false, if_neg hi, k12, if_true, if_neg hr])
          go_enter Tryz.func89, Tryz.ntmps89
          go_wp2
          ((refine wp_region_ext_lit (by kernel_rfl) (by kernel_rfl) ?_); (repeat (go_big_quiet_step ((go_at_call 62; exact quiet_ext ((longR_any _ HFF.out _).mono fun e w' ⟨he, hx⟩ => ⟨by rw [he, HLL.out], hx⟩))))); (refine wpQuiet_nil ?_; intro _ hw'; obtain ⟨⟨osq, nq⟩, hw''⟩ := hw'; replace hw'' : _ = grew _ osq nq := hw''; subst hw''))
          go_wp2
          refine bodyPost_ret (v := ((Frm.mk fk fa fb 2 fi fj fn fq fh fx fy)).v) (by simp [results, Tryz.results89, go_sem]) rfl ⟨by rw [HS.out], EX⟩
  · cases zn : (fn == 0)
    · skip
      have HFF : Hid (Frm.mk fk fa fb 2 fi fj (fn + 1) fq fh fx fy).Fits := Lib.hid ⟨⟨k0, k1⟩, ⟨a0, a1⟩, ⟨b0, b1⟩, by dsimp only; omega, ⟨i0, i1⟩, by dsimp only; omega, by dsimp only; omega, ⟨q0, q1⟩, ⟨h0, h1⟩, ⟨x0, x1⟩, ⟨y0, y1⟩⟩
      have HLL : Hid (brLong (Frm.mk fk fa fb 2 fi fj (fn + 1) fq fh fx fy) = L) := Lib.hid HL0.out
      have HLB : ∀ x y, brLong (Frm.mk fk fa fb fpc fi x y fq fh fx fy) = L := fun _ _ => HL0.out
      have HLB := Lib.hid HLB
      by_cases hi : fi + 1 < c.cap
      · skip
        have HS : Hid (brOther c (Frm.mk fk fa fb fpc fi fj fn fq fh fx fy) l = (Frm.mk fk fa fb fpc (fi + 1) fj (fn + 1) fq fh fx fy)) := Lib.hid (by simp only [brOther, brMore, HLB.out, z, zn, Bool.false_eq_true, if_false, if_true, if_pos hi])
        go_enter Tryz.func89, Tryz.ntmps89
        go_wp2
        refine bodyPost_ret (v := ((Frm.mk fk fa fb fpc (fi + 1) fj (fn + 1) fq fh fx fy)).v) (by simp [results, Tryz.results89, go_sem]) rfl ⟨by rw [HS.out], EX⟩
      · cases k12 : (fk == 12)
        · skip
          have HS : Hid (brOther c (Frm.mk fk fa fb fpc fi fj fn fq fh fx fy) l = (Frm.mk fk fa fb 21 fi fj (fn + 1) fq fh fx fy)) := Lib.hid (by simp only [brOther, brMore, HLB.out, z, zn, Bool.false_eq_true, if_false, if_true, if_neg hi, k12, Bool.false_eq_true, if_false])
          go_enter Tryz.func89, Tryz.ntmps89
          go_wp2
          refine bodyPost_ret (v := ((Frm.mk fk fa fb 21 fi fj (fn + 1) fq fh fx fy)).v) (by simp [results, Tryz.results89, go_sem]) rfl ⟨by rw [HS.out], EX⟩
        · by_cases hr : (fn + 1) < L - fh
          · skip
            have HS : Hid (brOther c (Frm.mk fk fa fb fpc fi fj fn fq fh fx fy) l = (Frm.mk fk fa fb 22 fi fj (fn + 1) fq fh fx fy)) := Lib.hid (by simp only [brOther, brMore, HLB.out, z, zn, Bool.false_eq_true, if_false, if_true, if_neg hi, k12, if_true, if_pos hr])
            go_enter Tryz.func89, Tryz.ntmps89
            go_wp2
            ((refine wp_region_ext_lit (by kernel_rfl) (by kernel_rfl) ?_); (repeat (go_big_quiet_step ((go_at_call 62; exact quiet_ext ((longR_any _ HFF.out _).mono fun e w' ⟨he, hx⟩ => ⟨by rw [he, HLL.out], hx⟩))))); (refine wpQuiet_nil ?_; intro _ hw'; obtain ⟨⟨osq, nq⟩, hw''⟩ := hw'; replace hw'' : _ = grew _ osq nq := hw''; subst hw''))
            go_wp2
            refine bodyPost_ret (v := ((Frm.mk fk fa fb 22 fi fj (fn + 1) fq fh fx fy)).v) (by simp [results, Tryz.results89, go_sem]) rfl ⟨by rw [HS.out], EX⟩
          · skip
            have HS : Hid (brOther c (Frm.mk fk fa fb fpc fi fj fn fq fh fx fy) l = (Frm.mk fk fa fb 2 fi fj (fn + 1) fq fh fx fy)) := Lib.hid (by simp only [brOther, brMore, HLB.out, z, zn, Bool.false_eq_true, if_false, if_true, if_neg hi, k12, if_true, if_neg hr])
            go_enter Tryz.func89, Tryz.ntmps89
            go_wp2
            ((refine wp_region_ext_lit (by kernel_rfl) (by kernel_rfl) ?_); (repeat (go_big_quiet_step ((go_at_call 62; exact quiet_ext ((longR_any _ HFF.out _).mono fun e w' ⟨he, hx⟩ => ⟨by rw [he, HLL.out], hx⟩))))); (refine wpQuiet_nil ?_; intro _ hw'; obtain ⟨⟨osq, nq⟩, hw''⟩ := hw'; replace hw'' : _ = grew _ osq nq := hw''; subst hw''))
            go_wp2
            refine bodyPost_ret (v := ((Frm.mk fk fa fb 2 fi fj (fn + 1) fq fh fx fy)).v) (by simp [results, Tryz.results89, go_sem]) rfl ⟨by rw [HS.out], EX⟩
    · skip
      have HFF : Hid (Frm.mk fk fa fb 2 fi fi (fn + 1) fq fh fx fy).Fits := Lib.hid ⟨⟨k0, k1⟩, ⟨a0, a1⟩, ⟨b0, b1⟩, by dsimp only; omega, ⟨i0, i1⟩, by dsimp only; omega, by dsimp only; omega, ⟨q0, q1⟩, ⟨h0, h1⟩, ⟨x0, x1⟩, ⟨y0, y1⟩⟩
      have HLL : Hid (brLong (Frm.mk fk fa fb 2 fi fi (fn + 1) fq fh fx fy) = L) := Lib.hid HL0.out
      have HLB : ∀ x y, brLong (Frm.mk fk fa fb fpc fi x y fq fh fx fy) = L := fun _ _ => HL0.out
      have HLB := Lib.hid HLB
      by_cases hi : fi + 1 < c.cap
      · skip
        have HS : Hid (brOther c (Frm.mk fk fa fb fpc fi fj fn fq fh fx fy) l = (Frm.mk fk fa fb fpc (fi + 1) fi (fn + 1) fq fh fx fy)) := Lib.hid (by simp only [brOther, brMore, HLB.out, z, zn, if_true, if_pos hi])
        go_enter Tryz.func89, Tryz.ntmps89
        go_wp2
        refine bodyPost_ret (v := ((Frm.mk fk fa fb fpc (fi + 1) fi (fn + 1) fq fh fx fy)).v) (by simp [results, Tryz.results89, go_sem]) rfl ⟨by rw [HS.out], EX⟩
      · cases k12 : (fk == 12)
        · skip
          have HS : Hid (brOther c (Frm.mk fk fa fb fpc fi fj fn fq fh fx fy) l = (Frm.mk fk fa fb 21 fi fi (fn + 1) fq fh fx fy)) := Lib.hid (by simp only [brOther, brMore, HLB.out, z, zn, if_true, if_neg hi, k12, Bool.false_eq_true, if_false])
          go_enter Tryz.func89, Tryz.ntmps89
          go_wp2
          refine bodyPost_ret (v := ((Frm.mk fk fa fb 21 fi fi (fn + 1) fq fh fx fy)).v) (by simp [results, Tryz.results89, go_sem]) rfl ⟨by rw [HS.out], EX⟩
        · by_cases hr : (fn + 1) < L - fh
          · skip
            have HS : Hid (brOther c (Frm.mk fk fa fb fpc fi fj fn fq fh fx fy) l = (Frm.mk fk fa fb 22 fi fi (fn + 1) fq fh fx fy)) := Lib.hid (by simp only [brOther, brMore, HLB.out, z, zn, if_true, if_neg hi, k12, if_true, if_pos hr])
            go_enter Tryz.func89, Tryz.ntmps89
            go_wp2
            ((refine wp_region_ext_lit (by kernel_rfl) (by kernel_rfl) ?_); (repeat (go_big_quiet_step ((go_at_call 62; exact quiet_ext ((longR_any _ HFF.out _).mono fun e w' ⟨he, hx⟩ => ⟨by rw [he, HLL.out], hx⟩))))); (refine wpQuiet_nil ?_; intro _ hw'; obtain ⟨⟨osq, nq⟩, hw''⟩ := hw'; replace hw'' : _ = grew _ osq nq := hw''; subst hw''))
            go_wp2
            refine bodyPost_ret (v := ((Frm.mk fk fa fb 22 fi fi (fn + 1) fq fh fx fy)).v) (by simp [results, Tryz.results89, go_sem]) rfl ⟨by rw [HS.out], EX⟩
          · skip
            have HS : Hid (brOther c (Frm.mk fk fa fb fpc fi fj fn fq fh fx fy) l = (Frm.mk fk fa fb 2 fi fi (fn + 1) fq fh fx fy)) := Lib.hid (by simp only [brOther, brMore, HLB.out, z, zn, if_true, if_neg hi, k12, if_true, if_neg hr])
            go_enter Tryz.func89, Tryz.ntmps89
            go_wp2
            ((refine wp_region_ext_lit (by kernel_rfl) (by kernel_rfl) ?_); (repeat (go_big_quiet_step ((go_at_call 62; exact quiet_ext ((longR_any _ HFF.out _).mono fun e w' ⟨he, hx⟩ => ⟨by rw [he, HLL.out], hx⟩))))); (refine wpQuiet_nil ?_; intro _ hw'; obtain ⟨⟨osq, nq⟩, hw''⟩ := hw'; replace hw'' : _ = grew _ osq nq := hw''; subst hw''))
            go_wp2
            refine bodyPost_ret (v := ((Frm.mk fk fa fb 2 fi fi (fn + 1) fq fh fx fy)).v) (by simp [results, Tryz.results89, go_sem]) rfl ⟨by rw [HS.out], EX⟩
end Go.Proofs.YtmhmaifmendebaaGreatDoor.branch
/- The walks of the reference of layer 'branch': Behind. -/
namespace Go.Proofs.YtmhmaifmendebaaGreatDoor.branch
open Go Go.RowKit
set_option maxRecDepth 100000
set_option maxHeartbeats 8000000

theorem behindR_0 (c : Cfg) (f : Frm) (hf : f.Fits) (l : Cel) (hl : l.Fits) (hc : c.cap ≤ 32) (hfi : f.i ≤ 254) (hfn : f.n ≤ 254) (hfh : f.h ≤ 254) (hp : f.pc = 0) (w : World) : Calls Tryz.prog 44 #[c.v, f.v, l.v] w
    fun e w' => e = .returned (brBehind c f l).v ∧ Ext w w' := by
  have HF := Lib.hid hf
  have HL := Lib.hid hl
  obtain ⟨N, hN⟩ : ∃ N, brName f f.h = N := ⟨_, rfl⟩
  have hn := brName_bd hf f.h
  rw [hN] at hn
  obtain ⟨n0, n1⟩ := hn
  obtain ⟨⟨k0, k1⟩, ⟨a0, a1⟩, ⟨b0, b1⟩, ⟨p0, p1⟩, ⟨i0, i1⟩, ⟨j0, j1⟩, ⟨m0, m1⟩, ⟨q0, q1⟩, ⟨h0, h1⟩, ⟨x0, x1⟩, ⟨y0, y1⟩⟩ := hf; obtain ⟨⟨t0, t1⟩, ⟨la0, la1⟩, ⟨lb0, lb1⟩, ⟨lc0, lc1⟩⟩ := hl; obtain ⟨fk, fa, fb, fpc, fi, fj, fn, fq, fh, fx, fy⟩ := f; dsimp only at *; subst hp
  have HN := Lib.hid hN
  have HQ := Lib.hid hN
  clear hN
  cases e1 : (l.a == fq + 1)
  · obtain ⟨G, hG⟩ : ∃ G, brOther c (Frm.mk fk fa fb 0 fi fj fn fq fh fx fy) l = G := ⟨_, rfl⟩
    have HS : Hid (brBehind c (Frm.mk fk fa fb 0 fi fj fn fq fh fx fy) l = G) := Lib.hid (by rw [← hG]; simp [brBehind, e1])
    have HB := Lib.hid hG
    clear hG
    go_enter Tryz.func44, Tryz.ntmps44
    go_wp2
    ((refine wp_region_ext_lit (by kernel_rfl) (by kernel_rfl) ?_); (repeat (go_big_quiet_step ((go_at_call 63; exact quiet_ext ((nameR_any _ HF.out fh (by omega) _).mono fun e w' ⟨he, hx⟩ => ⟨by rw [he, HN.out], hx⟩))))); (refine wpQuiet_nil ?_; intro _ hw'; obtain ⟨⟨osq, nq⟩, hw''⟩ := hw'; replace hw'' : _ = grew _ osq nq := hw''; subst hw''))
    go_wp2_with (go_at_call 89; refine (otherR_any c _ HF.out l HL.out hc (by omega) _).mono ?_; rintro e w1 ⟨rfl, os1, n1, rfl⟩; rw [HB.out])
    (refine bodyPost_ret (v := (G).v) (by simp [results, Tryz.results44, go_sem]) rfl ⟨by rw [HS.out], EX⟩)
  · cases e2 : (l.b == N)
    · obtain ⟨G, hG⟩ : ∃ G, brOther c (Frm.mk fk fa fb 0 fi fj fn fq fh fx fy) l = G := ⟨_, rfl⟩
      have HS : Hid (brBehind c (Frm.mk fk fa fb 0 fi fj fn fq fh fx fy) l = G) := Lib.hid (by rw [← hG]; simp only [brBehind, e1, HQ.out, e2]; rfl)
      have HB := Lib.hid hG
      clear hG
      go_enter Tryz.func44, Tryz.ntmps44
      go_wp2
      ((refine wp_region_ext_lit (by kernel_rfl) (by kernel_rfl) ?_); (repeat (go_big_quiet_step ((go_at_call 63; exact quiet_ext ((nameR_any _ HF.out fh (by omega) _).mono fun e w' ⟨he, hx⟩ => ⟨by rw [he, HN.out], hx⟩))))); (refine wpQuiet_nil ?_; intro _ hw'; obtain ⟨⟨osq, nq⟩, hw''⟩ := hw'; replace hw'' : _ = grew _ osq nq := hw''; subst hw''))
      go_wp2_with (go_at_call 89; refine (otherR_any c _ HF.out l HL.out hc (by omega) _).mono ?_; rintro e w1 ⟨rfl, os1, n1, rfl⟩; rw [HB.out])
      (refine bodyPost_ret (v := (G).v) (by simp [results, Tryz.results44, go_sem]) rfl ⟨by rw [HS.out], EX⟩)
    · obtain ⟨G, hG⟩ : ∃ G, brFound (Frm.mk fk fa fb 0 fi fj fn fq fh fx fy) l = G := ⟨_, rfl⟩
      have HS : Hid (brBehind c (Frm.mk fk fa fb 0 fi fj fn fq fh fx fy) l = G) := Lib.hid (by rw [← hG]; simp only [brBehind, e1, HQ.out, e2]; rfl)
      have HB := Lib.hid hG
      clear hG
      go_enter Tryz.func44, Tryz.ntmps44
      go_wp2
      ((refine wp_region_ext_lit (by kernel_rfl) (by kernel_rfl) ?_); (repeat (go_big_quiet_step ((go_at_call 63; exact quiet_ext ((nameR_any _ HF.out fh (by omega) _).mono fun e w' ⟨he, hx⟩ => ⟨by rw [he, HN.out], hx⟩))))); (refine wpQuiet_nil ?_; intro _ hw'; obtain ⟨⟨osq, nq⟩, hw''⟩ := hw'; replace hw'' : _ = grew _ osq nq := hw''; subst hw''))
      go_wp2_with (go_at_call 88; refine (nextR_any _ HF.out l HL.out (by omega) (by omega) _).mono ?_; rintro e w1 ⟨rfl, os1, n1, rfl⟩; rw [HB.out])
      (refine bodyPost_ret (v := (G).v) (by simp [results, Tryz.results44, go_sem]) rfl ⟨by rw [HS.out], EX⟩)

theorem behindR_2 (c : Cfg) (f : Frm) (hf : f.Fits) (l : Cel) (hl : l.Fits) (_hc : c.cap ≤ 32) (hfi : f.i ≤ 254) (hfj : f.j ≤ 254) (hfh : f.h ≤ 254) (hp : f.pc = 2) (w : World) : Calls Tryz.prog 44 #[c.v, f.v, l.v] w (fun e w' => e = .returned (brBehind c f l).v ∧ Ext w w') := by
  have HF := Lib.hid hf
  have HL := Lib.hid hl
  obtain ⟨⟨k0, k1⟩, ⟨a0, a1⟩, ⟨b0, b1⟩, ⟨p0, p1⟩, ⟨i0, i1⟩, ⟨j0, j1⟩, ⟨m0, m1⟩, ⟨q0, q1⟩, ⟨h0, h1⟩, ⟨x0, x1⟩, ⟨y0, y1⟩⟩ := hf; obtain ⟨⟨t0, t1⟩, ⟨la0, la1⟩, ⟨lb0, lb1⟩, ⟨lc0, lc1⟩⟩ := hl; obtain ⟨fk, fa, fb, fpc, fi, fj, fn, fq, fh, fx, fy⟩ := f; dsimp only at *; subst hp
  obtain ⟨G, hG⟩ : ∃ G, brMade c (Frm.mk fk fa fb 2 fi fj fn fq fh fx fy) = G := ⟨_, rfl⟩
  have HS : Hid (brBehind c (Frm.mk fk fa fb 2 fi fj fn fq fh fx fy) l = G) := Lib.hid (by rw [← hG]; simp [brBehind])
  have HB := Lib.hid hG
  clear hG
  go_enter Tryz.func44, Tryz.ntmps44
  go_wp2_with (go_at_call 90; refine (madeR_any c _ HF.out l HL.out (by omega) (by omega) _).mono ?_; rintro e w1 ⟨rfl, os1, n1, rfl⟩; rw [HB.out])
  (refine bodyPost_ret (v := (G).v) (by simp [results, Tryz.results44, go_sem]) rfl ⟨by rw [HS.out], EX⟩)
theorem behindR_3 (c : Cfg) (f : Frm) (hf : f.Fits) (l : Cel) (hl : l.Fits) (_hc : c.cap ≤ 32) (hfi : f.i ≤ 254) (hfj : f.j ≤ 254) (hfh : f.h ≤ 254) (hp : f.pc = 3) (w : World) : Calls Tryz.prog 44 #[c.v, f.v, l.v] w (fun e w' => e = .returned (brBehind c f l).v ∧ Ext w w') := by
  obtain ⟨⟨k0, k1⟩, ⟨a0, a1⟩, ⟨b0, b1⟩, ⟨p0, p1⟩, ⟨i0, i1⟩, ⟨j0, j1⟩, ⟨m0, m1⟩, ⟨q0, q1⟩, ⟨h0, h1⟩, ⟨x0, x1⟩, ⟨y0, y1⟩⟩ := hf; obtain ⟨⟨t0, t1⟩, ⟨la0, la1⟩, ⟨lb0, lb1⟩, ⟨lc0, lc1⟩⟩ := hl; obtain ⟨fk, fa, fb, fpc, fi, fj, fn, fq, fh, fx, fy⟩ := f; dsimp only at *; subst hp
  cases z : (l.a == 0)
  · cases hi : decide (c.cap ≤ fi + 1)
    · have HS : Hid (brBehind c (Frm.mk fk fa fb 3 fi fj fn fq fh fx fy) l = Frm.mk fk fa fb 3 (fi + 1) fj fn fq fh fx fy) := Lib.hid (by simp at hi; simp [brBehind, z, hi])
      go_enter Tryz.func44, Tryz.ntmps44
      go_wp2
      (refine bodyPost_ret (v := (Frm.mk fk fa fb 3 (fi + 1) fj fn fq fh fx fy).v) (by simp [results, Tryz.results44, go_sem]) rfl ⟨by rw [HS.out], EX⟩)
    · have HS : Hid (brBehind c (Frm.mk fk fa fb 3 fi fj fn fq fh fx fy) l = Frm.mk fk fa fb 22 fi fj fn fq fh fx fy) := Lib.hid (by simp at hi; simp [brBehind, z]; omega)
      go_enter Tryz.func44, Tryz.ntmps44
      go_wp2
      (refine bodyPost_ret (v := (Frm.mk fk fa fb 22 fi fj fn fq fh fx fy).v) (by simp [results, Tryz.results44, go_sem]) rfl ⟨by rw [HS.out], EX⟩)
  · have HS : Hid (brBehind c (Frm.mk fk fa fb 3 fi fj fn fq fh fx fy) l = Frm.mk fk fa fb 2 fi fi fn fq fh fx fy) := Lib.hid (by simp [brBehind, z])
    cases hi : decide (c.cap ≤ fi + 1)
    · go_enter Tryz.func44, Tryz.ntmps44
      go_wp2
      (refine bodyPost_ret (v := (Frm.mk fk fa fb 2 fi fi fn fq fh fx fy).v) (by simp [results, Tryz.results44, go_sem]) rfl ⟨by rw [HS.out], EX⟩)
    · go_enter Tryz.func44, Tryz.ntmps44
      go_wp2
      (refine bodyPost_ret (v := (Frm.mk fk fa fb 2 fi fi fn fq fh fx fy).v) (by simp [results, Tryz.results44, go_sem]) rfl ⟨by rw [HS.out], EX⟩)
theorem behindR_5 (c : Cfg) (f : Frm) (hf : f.Fits) (l : Cel) (hl : l.Fits) (_hc : c.cap ≤ 32) (hfi : f.i ≤ 254) (hfj : f.j ≤ 254) (hfh : f.h ≤ 254) (hp : f.pc = 5) (w : World) : Calls Tryz.prog 44 #[c.v, f.v, l.v] w (fun e w' => e = .returned (brBehind c f l).v ∧ Ext w w') := by
  obtain ⟨⟨k0, k1⟩, ⟨a0, a1⟩, ⟨b0, b1⟩, ⟨p0, p1⟩, ⟨i0, i1⟩, ⟨j0, j1⟩, ⟨m0, m1⟩, ⟨q0, q1⟩, ⟨h0, h1⟩, ⟨x0, x1⟩, ⟨y0, y1⟩⟩ := hf; obtain ⟨⟨t0, t1⟩, ⟨la0, la1⟩, ⟨lb0, lb1⟩, ⟨lc0, lc1⟩⟩ := hl; obtain ⟨fk, fa, fb, fpc, fi, fj, fn, fq, fh, fx, fy⟩ := f; dsimp only at *; subst hp
  cases z : (l.a == fq + 1)
  · cases hi : decide (c.cap ≤ fi + 1)
    · have HS : Hid (brBehind c (Frm.mk fk fa fb 5 fi fj fn fq fh fx fy) l = Frm.mk fk fa fb 5 (fi + 1) fj fn fq fh fx fy) := Lib.hid (by simp at hi; simp [brBehind, z, hi])
      go_enter Tryz.func44, Tryz.ntmps44
      go_wp2
      (refine bodyPost_ret (v := (Frm.mk fk fa fb 5 (fi + 1) fj fn fq fh fx fy).v) (by simp [results, Tryz.results44, go_sem]) rfl ⟨by rw [HS.out], EX⟩)
    · have HS : Hid (brBehind c (Frm.mk fk fa fb 5 fi fj fn fq fh fx fy) l = Frm.mk fk fa fb 6 fi fj fn fq fh fx fy) := Lib.hid (by simp at hi; simp [brBehind, z]; omega)
      go_enter Tryz.func44, Tryz.ntmps44
      go_wp2
      (refine bodyPost_ret (v := (Frm.mk fk fa fb 6 fi fj fn fq fh fx fy).v) (by simp [results, Tryz.results44, go_sem]) rfl ⟨by rw [HS.out], EX⟩)
  · have HS : Hid (brBehind c (Frm.mk fk fa fb 5 fi fj fn fq fh fx fy) l = Frm.mk fk fa fb 23 fi fj fn fq fh fx fy) := Lib.hid (by simp [brBehind, z])
    cases hi : decide (c.cap ≤ fi + 1)
    · go_enter Tryz.func44, Tryz.ntmps44
      go_wp2
      (refine bodyPost_ret (v := (Frm.mk fk fa fb 23 fi fj fn fq fh fx fy).v) (by simp [results, Tryz.results44, go_sem]) rfl ⟨by rw [HS.out], EX⟩)
    · go_enter Tryz.func44, Tryz.ntmps44
      go_wp2
      (refine bodyPost_ret (v := (Frm.mk fk fa fb 23 fi fj fn fq fh fx fy).v) (by simp [results, Tryz.results44, go_sem]) rfl ⟨by rw [HS.out], EX⟩)
theorem behindR_4 (c : Cfg) (f : Frm) (hf : f.Fits) (l : Cel) (hl : l.Fits) (_hc : c.cap ≤ 32) (hfi : f.i ≤ 254) (hfj : f.j ≤ 254) (hfh : f.h ≤ 254) (hp : f.pc = 4) (w : World) : Calls Tryz.prog 44 #[c.v, f.v, l.v] w (fun e w' => e = .returned (brBehind c f l).v ∧ Ext w w') := by
  obtain ⟨⟨k0, k1⟩, ⟨a0, a1⟩, ⟨b0, b1⟩, ⟨p0, p1⟩, ⟨i0, i1⟩, ⟨j0, j1⟩, ⟨m0, m1⟩, ⟨q0, q1⟩, ⟨h0, h1⟩, ⟨x0, x1⟩, ⟨y0, y1⟩⟩ := hf; obtain ⟨⟨t0, t1⟩, ⟨la0, la1⟩, ⟨lb0, lb1⟩, ⟨lc0, lc1⟩⟩ := hl; obtain ⟨fk, fa, fb, fpc, fi, fj, fn, fq, fh, fx, fy⟩ := f; dsimp only at *; subst hp
  have HS : Hid (brBehind c (Frm.mk fk fa fb 4 fi fj fn fq fh fx fy) l = Frm.mk fk fa fb 20 fi fj fn fq fh fx fy) := Lib.hid (by simp [brBehind])
  cases hi : decide (c.cap ≤ fi + 1)
  · go_enter Tryz.func44, Tryz.ntmps44
    go_wp2
    (refine bodyPost_ret (v := (Frm.mk fk fa fb 20 fi fj fn fq fh fx fy).v) (by simp [results, Tryz.results44, go_sem]) rfl ⟨by rw [HS.out], EX⟩)
  · go_enter Tryz.func44, Tryz.ntmps44
    go_wp2
    (refine bodyPost_ret (v := (Frm.mk fk fa fb 20 fi fj fn fq fh fx fy).v) (by simp [results, Tryz.results44, go_sem]) rfl ⟨by rw [HS.out], EX⟩)
theorem behindR_6 (c : Cfg) (f : Frm) (hf : f.Fits) (l : Cel) (hl : l.Fits) (_hc : c.cap ≤ 32) (hfi : f.i ≤ 254) (hfj : f.j ≤ 254) (hfh : f.h ≤ 254) (hp : f.pc = 6) (w : World) : Calls Tryz.prog 44 #[c.v, f.v, l.v] w (fun e w' => e = .returned (brBehind c f l).v ∧ Ext w w') := by
  obtain ⟨⟨k0, k1⟩, ⟨a0, a1⟩, ⟨b0, b1⟩, ⟨p0, p1⟩, ⟨i0, i1⟩, ⟨j0, j1⟩, ⟨m0, m1⟩, ⟨q0, q1⟩, ⟨h0, h1⟩, ⟨x0, x1⟩, ⟨y0, y1⟩⟩ := hf; obtain ⟨⟨t0, t1⟩, ⟨la0, la1⟩, ⟨lb0, lb1⟩, ⟨lc0, lc1⟩⟩ := hl; obtain ⟨fk, fa, fb, fpc, fi, fj, fn, fq, fh, fx, fy⟩ := f; dsimp only at *; subst hp
  have HS : Hid (brBehind c (Frm.mk fk fa fb 6 fi fj fn fq fh fx fy) l = Frm.mk fk fa fb 20 fi fj fn fq fh fx fy) := Lib.hid (by simp [brBehind])
  cases hi : decide (c.cap ≤ fi + 1)
  · go_enter Tryz.func44, Tryz.ntmps44
    go_wp2
    (refine bodyPost_ret (v := (Frm.mk fk fa fb 20 fi fj fn fq fh fx fy).v) (by simp [results, Tryz.results44, go_sem]) rfl ⟨by rw [HS.out], EX⟩)
  · go_enter Tryz.func44, Tryz.ntmps44
    go_wp2
    (refine bodyPost_ret (v := (Frm.mk fk fa fb 20 fi fj fn fq fh fx fy).v) (by simp [results, Tryz.results44, go_sem]) rfl ⟨by rw [HS.out], EX⟩)
theorem behindR_20 (c : Cfg) (f : Frm) (hf : f.Fits) (l : Cel) (hl : l.Fits) (_hc : c.cap ≤ 32) (hfi : f.i ≤ 254) (hfj : f.j ≤ 254) (hfh : f.h ≤ 254) (hp : f.pc = 20) (w : World) : Calls Tryz.prog 44 #[c.v, f.v, l.v] w (fun e w' => e = .returned (brBehind c f l).v ∧ Ext w w') := by
  obtain ⟨⟨k0, k1⟩, ⟨a0, a1⟩, ⟨b0, b1⟩, ⟨p0, p1⟩, ⟨i0, i1⟩, ⟨j0, j1⟩, ⟨m0, m1⟩, ⟨q0, q1⟩, ⟨h0, h1⟩, ⟨x0, x1⟩, ⟨y0, y1⟩⟩ := hf; obtain ⟨⟨t0, t1⟩, ⟨la0, la1⟩, ⟨lb0, lb1⟩, ⟨lc0, lc1⟩⟩ := hl; obtain ⟨fk, fa, fb, fpc, fi, fj, fn, fq, fh, fx, fy⟩ := f; dsimp only at *; subst hp
  have HS : Hid (brBehind c (Frm.mk fk fa fb 20 fi fj fn fq fh fx fy) l = Frm.mk fk fa fb 20 fi fj fn fq fh fx fy) := Lib.hid (by simp [brBehind])
  cases hi : decide (c.cap ≤ fi + 1)
  · go_enter Tryz.func44, Tryz.ntmps44
    go_wp2
    (refine bodyPost_ret (v := (Frm.mk fk fa fb 20 fi fj fn fq fh fx fy).v) (by simp [results, Tryz.results44, go_sem]) rfl ⟨by rw [HS.out], EX⟩)
  · go_enter Tryz.func44, Tryz.ntmps44
    go_wp2
    (refine bodyPost_ret (v := (Frm.mk fk fa fb 20 fi fj fn fq fh fx fy).v) (by simp [results, Tryz.results44, go_sem]) rfl ⟨by rw [HS.out], EX⟩)
theorem behindR_21 (c : Cfg) (f : Frm) (hf : f.Fits) (l : Cel) (hl : l.Fits) (_hc : c.cap ≤ 32) (hfi : f.i ≤ 254) (hfj : f.j ≤ 254) (hfh : f.h ≤ 254) (hp : f.pc = 21) (w : World) : Calls Tryz.prog 44 #[c.v, f.v, l.v] w (fun e w' => e = .returned (brBehind c f l).v ∧ Ext w w') := by
  obtain ⟨⟨k0, k1⟩, ⟨a0, a1⟩, ⟨b0, b1⟩, ⟨p0, p1⟩, ⟨i0, i1⟩, ⟨j0, j1⟩, ⟨m0, m1⟩, ⟨q0, q1⟩, ⟨h0, h1⟩, ⟨x0, x1⟩, ⟨y0, y1⟩⟩ := hf; obtain ⟨⟨t0, t1⟩, ⟨la0, la1⟩, ⟨lb0, lb1⟩, ⟨lc0, lc1⟩⟩ := hl; obtain ⟨fk, fa, fb, fpc, fi, fj, fn, fq, fh, fx, fy⟩ := f; dsimp only at *; subst hp
  have HS : Hid (brBehind c (Frm.mk fk fa fb 21 fi fj fn fq fh fx fy) l = Frm.mk fk fa fb 21 fi fj fn fq fh fx fy) := Lib.hid (by simp [brBehind])
  cases hi : decide (c.cap ≤ fi + 1)
  · go_enter Tryz.func44, Tryz.ntmps44
    go_wp2
    (refine bodyPost_ret (v := (Frm.mk fk fa fb 21 fi fj fn fq fh fx fy).v) (by simp [results, Tryz.results44, go_sem]) rfl ⟨by rw [HS.out], EX⟩)
  · go_enter Tryz.func44, Tryz.ntmps44
    go_wp2
    (refine bodyPost_ret (v := (Frm.mk fk fa fb 21 fi fj fn fq fh fx fy).v) (by simp [results, Tryz.results44, go_sem]) rfl ⟨by rw [HS.out], EX⟩)
theorem behindR_22 (c : Cfg) (f : Frm) (hf : f.Fits) (l : Cel) (hl : l.Fits) (_hc : c.cap ≤ 32) (hfi : f.i ≤ 254) (hfj : f.j ≤ 254) (hfh : f.h ≤ 254) (hp : f.pc = 22) (w : World) : Calls Tryz.prog 44 #[c.v, f.v, l.v] w (fun e w' => e = .returned (brBehind c f l).v ∧ Ext w w') := by
  obtain ⟨⟨k0, k1⟩, ⟨a0, a1⟩, ⟨b0, b1⟩, ⟨p0, p1⟩, ⟨i0, i1⟩, ⟨j0, j1⟩, ⟨m0, m1⟩, ⟨q0, q1⟩, ⟨h0, h1⟩, ⟨x0, x1⟩, ⟨y0, y1⟩⟩ := hf; obtain ⟨⟨t0, t1⟩, ⟨la0, la1⟩, ⟨lb0, lb1⟩, ⟨lc0, lc1⟩⟩ := hl; obtain ⟨fk, fa, fb, fpc, fi, fj, fn, fq, fh, fx, fy⟩ := f; dsimp only at *; subst hp
  have HS : Hid (brBehind c (Frm.mk fk fa fb 22 fi fj fn fq fh fx fy) l = Frm.mk fk fa fb 22 fi fj fn fq fh fx fy) := Lib.hid (by simp [brBehind])
  cases hi : decide (c.cap ≤ fi + 1)
  · go_enter Tryz.func44, Tryz.ntmps44
    go_wp2
    (refine bodyPost_ret (v := (Frm.mk fk fa fb 22 fi fj fn fq fh fx fy).v) (by simp [results, Tryz.results44, go_sem]) rfl ⟨by rw [HS.out], EX⟩)
  · go_enter Tryz.func44, Tryz.ntmps44
    go_wp2
    (refine bodyPost_ret (v := (Frm.mk fk fa fb 22 fi fj fn fq fh fx fy).v) (by simp [results, Tryz.results44, go_sem]) rfl ⟨by rw [HS.out], EX⟩)
theorem behindR_23 (c : Cfg) (f : Frm) (hf : f.Fits) (l : Cel) (hl : l.Fits) (_hc : c.cap ≤ 32) (hfi : f.i ≤ 254) (hfj : f.j ≤ 254) (hfh : f.h ≤ 254) (hp : f.pc = 23) (w : World) : Calls Tryz.prog 44 #[c.v, f.v, l.v] w (fun e w' => e = .returned (brBehind c f l).v ∧ Ext w w') := by
  obtain ⟨⟨k0, k1⟩, ⟨a0, a1⟩, ⟨b0, b1⟩, ⟨p0, p1⟩, ⟨i0, i1⟩, ⟨j0, j1⟩, ⟨m0, m1⟩, ⟨q0, q1⟩, ⟨h0, h1⟩, ⟨x0, x1⟩, ⟨y0, y1⟩⟩ := hf; obtain ⟨⟨t0, t1⟩, ⟨la0, la1⟩, ⟨lb0, lb1⟩, ⟨lc0, lc1⟩⟩ := hl; obtain ⟨fk, fa, fb, fpc, fi, fj, fn, fq, fh, fx, fy⟩ := f; dsimp only at *; subst hp
  have HS : Hid (brBehind c (Frm.mk fk fa fb 23 fi fj fn fq fh fx fy) l = Frm.mk fk fa fb 23 fi fj fn fq fh fx fy) := Lib.hid (by simp [brBehind])
  cases hi : decide (c.cap ≤ fi + 1)
  · go_enter Tryz.func44, Tryz.ntmps44
    go_wp2
    (refine bodyPost_ret (v := (Frm.mk fk fa fb 23 fi fj fn fq fh fx fy).v) (by simp [results, Tryz.results44, go_sem]) rfl ⟨by rw [HS.out], EX⟩)
  · go_enter Tryz.func44, Tryz.ntmps44
    go_wp2
    (refine bodyPost_ret (v := (Frm.mk fk fa fb 23 fi fj fn fq fh fx fy).v) (by simp [results, Tryz.results44, go_sem]) rfl ⟨by rw [HS.out], EX⟩)

theorem behindR_any (c : Cfg) (f : Frm) (hf : f.Fits) (l : Cel) (hl : l.Fits) (he : brErr c f = 0) (w : World) : Calls Tryz.prog 44 #[c.v, f.v, l.v] w
    fun e w' => e = .returned (brBehind c f l).v ∧ Ext w w' := by
  obtain ⟨hp, ho, h4⟩ := brErr_ok he
  obtain ⟨m1, m2, m3, m4, m5, m6, m7, m8, m9, m10, m11⟩ := brMay_facts h4
  have hc := (partOk_cap hp).2
  have hl3 := brLong_le f
  rcases brHas_pc m2 with h | h | h | h | h | h | h | h | h | h
  · exact behindR_0 c f hf l hl hc (by omega) (by omega) (by omega) h w
  · exact behindR_3 c f hf l hl hc (by omega) (by omega) (by omega) h w
  · exact behindR_5 c f hf l hl hc (by omega) (by omega) (by omega) h w
  · exact behindR_6 c f hf l hl hc (by omega) (by omega) (by omega) h w
  · exact behindR_2 c f hf l hl hc (by omega) (by omega) (by omega) h w
  · exact behindR_4 c f hf l hl hc (by omega) (by omega) (by omega) h w
  · exact behindR_20 c f hf l hl hc (by omega) (by omega) (by omega) h w
  · exact behindR_21 c f hf l hl hc (by omega) (by omega) (by omega) h w
  · exact behindR_22 c f hf l hl hc (by omega) (by omega) (by omega) h w
  · exact behindR_23 c f hf l hl hc (by omega) (by omega) (by omega) h w

end Go.Proofs.YtmhmaifmendebaaGreatDoor.branch
/- The walk of the reference's After, layer 'branch'. -/
namespace Go.Proofs.YtmhmaifmendebaaGreatDoor.branch
open Go Go.RowKit
set_option maxRecDepth 100000
set_option maxHeartbeats 8000000

theorem brAfterR_any (c : Cfg) (f : Frm) (l : Cel) (hf : f.Fits) (hl : l.Fits) (w : World) : Calls Tryz.prog 20 #[c.v, f.v, l.v] w
    fun e w' => e = .returned (.tuple #[(brAfterA c f l).v, .int .i64 (brErr c f)]) ∧ Ext w w' := by
  have HF := Lib.hid hf
  have HL := Lib.hid hl
  clear hf hl
  cases hp : partOk c
  · have HG := Lib.hid (brErr_conf (f := f) hp)
    have HN : Hid (brAfterA c f l = zeroFrm) := Lib.hid (by simp [brAfterA, HG.out])
    have HC := Lib.hid hp
    clear hp
    go_enter Tryz.func20, Tryz.ntmps20
    go_wp2_with (go_at_call 11; refine (mayBe_any c _).mono ?_; rintro e w1 ⟨rfl, os1, n1, rfl⟩; rw [HC.out])
    (refine bodyPost_ret (v := .tuple #[(zeroFrm).v, .int .i64 40]) (by simp [results, Tryz.results20, go_sem]) rfl ?_)
    exact ⟨by rw [HN.out, HG.out], EX⟩
  · have HC := Lib.hid hp
    cases h2 : (c.object == 4)
    · have HG := Lib.hid (brErr_obj (f := f) h2)
      have HN : Hid (brAfterA c f l = zeroFrm) := Lib.hid (by simp [brAfterA, HG.out])
      clear hp
      go_enter Tryz.func20, Tryz.ntmps20
      go_wp2_with (go_at_call 11; refine (mayBe_any c _).mono ?_; rintro e w1 ⟨rfl, os1, n1, rfl⟩; rw [HC.out])
      (refine bodyPost_ret (v := .tuple #[(zeroFrm).v, .int .i64 40]) (by simp [results, Tryz.results20, go_sem]) rfl ?_)
      exact ⟨by rw [HN.out, HG.out], EX⟩
    · have HOB : Hid (c.object = 4) := Lib.hid (by simpa using h2)
      cases h3 : brMay c f
      · have HG := Lib.hid (brErr_arg hp h2 h3)
        have HN : Hid (brAfterA c f l = zeroFrm) := Lib.hid (by simp [brAfterA, HG.out])
        have HM := Lib.hid h3
        clear hp h3
        go_enter Tryz.func20, Tryz.ntmps20
        go_wp2_with (first | (go_at_call 11; refine (mayBe_any c _).mono ?_; rintro e w1 ⟨rfl, os1, n1, rfl⟩; rw [HC.out]) | (go_at_call 36; refine (brMayR_any c f HF.out HOB.out _).mono ?_; rintro e w2 ⟨rfl, os2, n2, rfl⟩; rw [HM.out]))
        (refine bodyPost_ret (v := .tuple #[(zeroFrm).v, .int .i64 2]) (by simp [results, Tryz.results20, go_sem]) rfl ?_)
        exact ⟨by rw [HN.out, HG.out], EX⟩
      · have HG := Lib.hid (brErr_yes hp h2 h3)
        have HN : Hid (brAfterA c f l = brBehind c f l) := Lib.hid (by simp [brAfterA, HG.out])
        have HM := Lib.hid h3
        obtain ⟨R, hR⟩ : ∃ R, brBehind c f l = R := ⟨_, rfl⟩
        have HR := Lib.hid hR
        clear hp h3 hR
        go_enter Tryz.func20, Tryz.ntmps20
        go_wp2_with (first | (go_at_call 11; refine (mayBe_any c _).mono ?_; rintro e w1 ⟨rfl, os1, n1, rfl⟩; rw [HC.out]) | (go_at_call 36; refine (brMayR_any c f HF.out HOB.out _).mono ?_; rintro e w2 ⟨rfl, os2, n2, rfl⟩; rw [HM.out]) | (go_at_call 44; refine (behindR_any c f HF.out l HL.out HG.out _).mono ?_; rintro e w3 ⟨rfl, os3, n3, rfl⟩; rw [HR.out]))
        (refine bodyPost_ret (v := .tuple #[R.v, .int .i64 0]) (by simp [results, Tryz.results20, go_sem]) rfl ?_)
        exact ⟨by rw [HN.out, HG.out, HR.out], EX⟩
end Go.Proofs.YtmhmaifmendebaaGreatDoor.branch
