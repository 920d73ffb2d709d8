/- The walks of 'missed', 'more', 'packed', 'alone'. -/
import Derived.Test.YtmhmaifmendebaaGreatDoorBA
import Derived.BigRegion
import Derived.Outline
import Derived.Laws.EntriesVeiled
namespace Go.Proofs.YtmhmaifmendebaaGreatDoor.branch
open Go Go.RowKit
set_option maxRecDepth 100000
set_option maxHeartbeats 8000000

/-- A walk's cells, the number of its names under a name of its own. -/
abbrev wlM (c : Cfg) (f : Frm) (M : Int) : Array Value := #[.int .u8 f.kind, .int .u32 f.a, .int .u32 f.b, .int .u8 f.pc, .int .u8 f.i, .int .u8 f.j, .int .u8 f.n, .int .u8 f.p, .int .u8 f.h, .int .u32 f.x, .int .u32 f.y, .int .i64 c.cap, .int .u32 (f.a % 65536), .int .u32 (f.a / 65536), .int .u32 f.b, .int .i64 M]
def brMiss (f : Frm) (M : Int) : Frm := if f.kind == 12 then (if f.n < M - f.h then { f with pc := 22 } else { f with pc := 2 }) else { f with pc := 21 }

theorem brMissed_any (c : Cfg) (f : Frm) (hf : f.Fits) (M : Int) (hM : 0 ≤ M ∧ M ≤ 3) (V w : World) (hw : Ext (V.alloc (.cells (wlM c (f) M) 79)) w) : Calls Tryz.prog 134 #[.pointer (some ⟨V.heap.size, 0, none⟩)] w
    fun e w' => e = .returned (.tuple #[]) ∧ Ext (V.alloc (.cells (wlM c (brMiss f M) M) 79)) w' := by
  obtain ⟨os, d, rfl⟩ := hw
  obtain ⟨⟨k0, k1⟩, ⟨a0, a1⟩, ⟨b0, b1⟩, ⟨p0, p1⟩, ⟨i0, i1⟩, ⟨j0, j1⟩, ⟨m0, m1⟩, ⟨q0, q1⟩, ⟨h0, h1⟩, ⟨x0, x1⟩, ⟨y0, y1⟩⟩ := hf
  obtain ⟨M0, M1⟩ := hM
  cases hk : (f.kind == 12)
  · have HS : Hid (brMiss f M = { f with pc := 21 }) := Lib.hid (by simp [brMiss, hk])
    have hk' : (f.kind != 12) = true := by simpa using hk
    go_enter Tryz.func134, Tryz.ntmps134
    go_wp2
    (go_end0; refine ⟨rfl, ?_⟩)
    rw [HS.out]
    exact EX
  · cases hn : decide (f.n < M - f.h)
    · have HS : Hid (brMiss f M = { f with pc := 2 }) := Lib.hid (by simp at hn; simp [brMiss, hk]; omega)
      have hk' : (f.kind != 12) = false := by simpa using hk
      go_enter Tryz.func134, Tryz.ntmps134
      go_wp2
      (refine wp_region_ext_lit (by kernel_rfl) (by kernel_rfl) ?_); (repeat (go_big_quiet_step (fail))); (refine wpQuiet_nil ?_; intro _ hw'; obtain ⟨⟨osq, nq⟩, hw''⟩ := hw'; replace hw'' : _ = grew _ osq nq := hw''; subst hw'')
      go_wp2
      (go_end0; refine ⟨rfl, ?_⟩)
      rw [HS.out]
      exact EX
    · have HS : Hid (brMiss f M = { f with pc := 22 }) := Lib.hid (by simp at hn; simp [brMiss, hk]; omega)
      have hk' : (f.kind != 12) = false := by simpa using hk
      go_enter Tryz.func134, Tryz.ntmps134
      go_wp2
      (refine wp_region_ext_lit (by kernel_rfl) (by kernel_rfl) ?_); (repeat (go_big_quiet_step (fail))); (refine wpQuiet_nil ?_; intro _ hw'; obtain ⟨⟨osq, nq⟩, hw''⟩ := hw'; replace hw'' : _ = grew _ osq nq := hw''; subst hw'')
      go_wp2
      (go_end0; refine ⟨rfl, ?_⟩)
      rw [HS.out]
      exact EX

theorem brPacked_any (c : Cfg) (f : Frm) (M : Int) (V w : World) (hw : Ext (V.alloc (.cells (wlM c (f) M) 79)) w) : Calls Tryz.prog 102 #[.pointer (some ⟨V.heap.size, 0, none⟩)] w
    fun e w' => e = .returned (.tuple #[]) ∧ Ext (V.alloc (.cells (wlM c ({ f with pc := 22 }) M) 79)) w' := by
  obtain ⟨os, d, rfl⟩ := hw
  go_enter Tryz.func102, Tryz.ntmps102
  go_wp2
  (go_end0; refine ⟨rfl, ?_⟩)
  exact EX
theorem brAlone_any (c : Cfg) (f : Frm) (M : Int) (V w : World) (hw : Ext (V.alloc (.cells (wlM c (f) M) 79)) w) : Calls Tryz.prog 103 #[.pointer (some ⟨V.heap.size, 0, none⟩)] w
    fun e w' => e = .returned (.tuple #[]) ∧ Ext (V.alloc (.cells (wlM c ({ f with pc := 6 }) M) 79)) w' := by
  obtain ⟨os, d, rfl⟩ := hw
  go_enter Tryz.func103, Tryz.ntmps103
  go_wp2
  (go_end0; refine ⟨rfl, ?_⟩)
  exact EX

theorem brMore_on (g : Nat) (c : Cfg) (f : Frm) (hf : f.Fits) (hc : c.cap ≤ 32) (hi : f.i + 1 < c.cap) (M : Int) (V w : World) (hw : Ext (V.alloc (.cells (wlM c (f) M) 79)) w) : Calls Tryz.prog 101 #[.pointer (some ⟨V.heap.size, 0, none⟩), .func (.func g) #[.pointer (some ⟨V.heap.size, 0, none⟩)] #[]] w
    fun e w' => e = .returned (.tuple #[]) ∧ Ext (V.alloc (.cells (wlM c ({ f with i := f.i + 1 }) M) 79)) w' := by
  obtain ⟨os, d, rfl⟩ := hw
  obtain ⟨_, _, _, _, ⟨i0, i1⟩, _, _, _, _, _, _⟩ := hf
  have h1 : decide (c.cap ≤ f.i + 1) = false := by simp; omega
  go_enter Tryz.func101, Tryz.ntmps101
  go_wp2
  (refine wp_region_ext_lit (by kernel_rfl) (by kernel_rfl) ?_); (repeat (go_big_quiet_step (fail))); (refine wpQuiet_nil ?_; intro _ hw'; obtain ⟨⟨osq, nq⟩, hw''⟩ := hw'; replace hw'' : _ = grew _ osq nq := hw''; subst hw'')
  go_wp2
  (go_end0; refine ⟨rfl, ?_⟩)
  exact EX
theorem brMore_missed (c : Cfg) (f : Frm) (hf : f.Fits) (hi : c.cap ≤ f.i + 1) (M : Int) (hM : 0 ≤ M ∧ M ≤ 3) (V w : World) (hw : Ext (V.alloc (.cells (wlM c (f) M) 79)) w) : Calls Tryz.prog 101 #[.pointer (some ⟨V.heap.size, 0, none⟩), (.func (.func 134) #[.pointer (some ⟨V.heap.size, 0, none⟩)] #[])] w
    fun e w' => e = .returned (.tuple #[]) ∧ Ext (V.alloc (.cells (wlM c (brMiss f M) M) 79)) w' := by
  obtain ⟨os, d, rfl⟩ := hw
  have HF := Lib.hid hf
  obtain ⟨_, _, _, _, ⟨i0, i1⟩, _, _, _, _, _, _⟩ := hf
  have h1 : decide (c.cap ≤ f.i + 1) = true := by simp; omega
  go_enter Tryz.func101, Tryz.ntmps101
  go_wp2
  (refine wp_region_ext_lit (by kernel_rfl) (by kernel_rfl) ?_); (repeat (go_big_quiet_step (fail))); (refine wpQuiet_nil ?_; intro _ hw'; obtain ⟨⟨osq, nq⟩, hw''⟩ := hw'; replace hw'' : _ = grew _ osq nq := hw''; subst hw'')
  go_wp2_with (go_at_call 134; refine (brMissed_any c f HF.out M hM V _ EX).mono ?_; rintro e w1 ⟨rfl, os1, n1, rfl⟩)
  refine bodyPost_ret (results_none rfl _ _ _) rfl ⟨rfl, ?_⟩
  exact EX
theorem brMore_packed (c : Cfg) (f : Frm) (hf : f.Fits) (hi : c.cap ≤ f.i + 1) (M : Int) (_hM : 0 ≤ M ∧ M ≤ 3) (V w : World) (hw : Ext (V.alloc (.cells (wlM c (f) M) 79)) w) : Calls Tryz.prog 101 #[.pointer (some ⟨V.heap.size, 0, none⟩), (.func (.func 102) #[.pointer (some ⟨V.heap.size, 0, none⟩)] #[])] w
    fun e w' => e = .returned (.tuple #[]) ∧ Ext (V.alloc (.cells (wlM c ({ f with pc := 22 }) M) 79)) w' := by
  obtain ⟨os, d, rfl⟩ := hw
  have HF := Lib.hid hf
  obtain ⟨_, _, _, _, ⟨i0, i1⟩, _, _, _, _, _, _⟩ := hf
  have h1 : decide (c.cap ≤ f.i + 1) = true := by simp; omega
  go_enter Tryz.func101, Tryz.ntmps101
  go_wp2
  (refine wp_region_ext_lit (by kernel_rfl) (by kernel_rfl) ?_); (repeat (go_big_quiet_step (fail))); (refine wpQuiet_nil ?_; intro _ hw'; obtain ⟨⟨osq, nq⟩, hw''⟩ := hw'; replace hw'' : _ = grew _ osq nq := hw''; subst hw'')
  go_wp2_with (go_at_call 102; refine (brPacked_any c f M V _ EX).mono ?_; rintro e w1 ⟨rfl, os1, n1, rfl⟩)
  refine bodyPost_ret (results_none rfl _ _ _) rfl ⟨rfl, ?_⟩
  exact EX
theorem brMore_alone (c : Cfg) (f : Frm) (hf : f.Fits) (hi : c.cap ≤ f.i + 1) (M : Int) (_hM : 0 ≤ M ∧ M ≤ 3) (V w : World) (hw : Ext (V.alloc (.cells (wlM c (f) M) 79)) w) : Calls Tryz.prog 101 #[.pointer (some ⟨V.heap.size, 0, none⟩), (.func (.func 103) #[.pointer (some ⟨V.heap.size, 0, none⟩)] #[])] w
    fun e w' => e = .returned (.tuple #[]) ∧ Ext (V.alloc (.cells (wlM c ({ f with pc := 6 }) M) 79)) w' := by
  obtain ⟨os, d, rfl⟩ := hw
  have HF := Lib.hid hf
  obtain ⟨_, _, _, _, ⟨i0, i1⟩, _, _, _, _, _, _⟩ := hf
  have h1 : decide (c.cap ≤ f.i + 1) = true := by simp; omega
  go_enter Tryz.func101, Tryz.ntmps101
  go_wp2
  (refine wp_region_ext_lit (by kernel_rfl) (by kernel_rfl) ?_); (repeat (go_big_quiet_step (fail))); (refine wpQuiet_nil ?_; intro _ hw'; obtain ⟨⟨osq, nq⟩, hw''⟩ := hw'; replace hw'' : _ = grew _ osq nq := hw''; subst hw'')
  go_wp2_with (go_at_call 103; refine (brAlone_any c f M V _ EX).mono ?_; rintro e w1 ⟨rfl, os1, n1, rfl⟩)
  refine bodyPost_ret (results_none rfl _ _ _) rfl ⟨rfl, ?_⟩
  exact EX
end Go.Proofs.YtmhmaifmendebaaGreatDoor.branch
/- The walk of 'seek'. -/
namespace Go.Proofs.YtmhmaifmendebaaGreatDoor.branch
open Go Go.RowKit
set_option maxRecDepth 100000
set_option maxHeartbeats 8000000

theorem brMiss_of {c : Cfg} {f : Frm} {M : Int} (h : brLong f = M) (hi : ¬ f.i + 1 < c.cap) : brMore c f = brMiss f M := by
  simp only [brMore, brMiss, if_neg hi, h]
theorem brSeek_far (c : Cfg) (f : Frm) (hf : f.Fits) (l : Cel) (hl : l.Fits) (hc : c.cap ≤ 32) (hfi : f.i < c.cap) (hn : f.n ≤ 32) (M : Int) (hM : 0 ≤ M ∧ M ≤ 3) (hLM : brLong f = M) (hh : f.h < M) (ht : (l.a == f.p + 1) = false) (V w : World) (hw : Ext (V.alloc (.cells (wlM c (f) M) 79)) w) : Calls Tryz.prog 100 #[.pointer (some ⟨V.heap.size, 0, none⟩), l.v] w
    fun e w' => e = .returned (.tuple #[]) ∧ Ext (V.alloc (.cells (wlM c (brOther c f l) M) 79)) w' := by
  obtain ⟨os, d, rfl⟩ := hw
  have HF := Lib.hid hf
  have HLM := Lib.hid hLM
  obtain ⟨⟨k0, k1⟩, ⟨a0, a1⟩, ⟨b0, b1⟩, ⟨p0, p1⟩, ⟨i0, i1⟩, ⟨j0, j1⟩, ⟨m0, m1⟩, ⟨q0, q1⟩, ⟨h0, h1⟩, ⟨x0, x1⟩, ⟨y0, y1⟩⟩ := hf
  obtain ⟨⟨t0, t1⟩, ⟨la0, la1⟩, ⟨lb0, lb1⟩, ⟨lc0, lc1⟩⟩ := hl
  have hq : f.h = 0 ∨ f.h = 1 ∨ f.h = 2 := by omega
  have HMM := Lib.hid hM
  have e1 : (l.a != f.p + 1) = true := by simpa using ht
  cases z : (l.a == 0)
  · cases ci : decide (f.i + 1 < c.cap)
    · have hi : ¬ f.i + 1 < c.cap := by simpa using ci
      have HFF : Hid (Frm.Fits f) := Lib.hid (by have hf := HF.out; exact hf)
      have HS : Hid (brOther c f l = (brMiss f M)) := Lib.hid (by simp only [brOther, z, Bool.false_eq_true, if_false]; exact brMiss_of (f := f) HLM.out hi)
      have HI : Hid (c.cap ≤ f.i + 1) := Lib.hid (by omega)
      clear ci hi hLM ht
      go_enter Tryz.func100, Tryz.ntmps100
      go_wp2
      ((refine wp_region_ext_lit (by kernel_rfl) (by kernel_rfl) ?_); (repeat (go_big_quiet_step (fail))); (refine wpQuiet_nil ?_; intro _ hw'; obtain ⟨⟨osq, nq⟩, hw''⟩ := hw'; replace hw'' : _ = grew _ osq nq := hw''; subst hw''))
      go_wp2_with (go_at_call 101; refine (brMore_missed c f HFF.out HI.out M HMM.out V _ EX).mono ?_; rintro e w1 ⟨rfl, os1, n1, rfl⟩)
      (refine bodyPost_ret (results_none rfl _ _ _) rfl ⟨rfl, ?_⟩)
      rw [HS.out]
      exact EX
    · have hi : f.i + 1 < c.cap := by simpa using ci
      have HFF : Hid (Frm.Fits f) := Lib.hid (by have hf := HF.out; exact hf)
      have HS : Hid (brOther c f l = ({ f with i := f.i + 1 } : Frm)) := Lib.hid (by simp only [brOther, z, Bool.false_eq_true, if_false, brMore, if_pos hi])
      have HI := Lib.hid hi
      clear ci hi hLM ht
      go_enter Tryz.func100, Tryz.ntmps100
      go_wp2
      ((refine wp_region_ext_lit (by kernel_rfl) (by kernel_rfl) ?_); (repeat (go_big_quiet_step (fail))); (refine wpQuiet_nil ?_; intro _ hw'; obtain ⟨⟨osq, nq⟩, hw''⟩ := hw'; replace hw'' : _ = grew _ osq nq := hw''; subst hw''))
      go_wp2_with (go_at_call 101; refine (brMore_on 134 c f HFF.out hc HI.out M V _ EX).mono ?_; rintro e w1 ⟨rfl, os1, n1, rfl⟩)
      (refine bodyPost_ret (results_none rfl _ _ _) rfl ⟨rfl, ?_⟩)
      rw [HS.out]
      exact EX
  · cases zn : (f.n == 0)
    · cases ci : decide (f.i + 1 < c.cap)
      · have hi : ¬ f.i + 1 < c.cap := by simpa using ci
        have HFF : Hid (Frm.Fits (Frm.mk f.kind f.a f.b f.pc f.i f.j (f.n + 1) f.p f.h f.x f.y)) := Lib.hid (by have hf := HF.out; exact ⟨hf.kind, hf.a, hf.b, hf.pc, hf.i, hf.j, by dsimp only; omega, hf.p, hf.h, hf.x, hf.y⟩)
        have HS : Hid (brOther c f l = (brMiss (Frm.mk f.kind f.a f.b f.pc f.i f.j (f.n + 1) f.p f.h f.x f.y) M)) := Lib.hid (by simp only [brOther, z, zn, Bool.false_eq_true, if_false, if_true]; exact brMiss_of (f := (Frm.mk f.kind f.a f.b f.pc f.i f.j (f.n + 1) f.p f.h f.x f.y)) HLM.out hi)
        have HI : Hid (c.cap ≤ f.i + 1) := Lib.hid (by omega)
        clear ci hi hLM ht
        go_enter Tryz.func100, Tryz.ntmps100
        go_wp2
        ((refine wp_region_ext_lit (by kernel_rfl) (by kernel_rfl) ?_); (repeat (go_big_quiet_step (fail))); (refine wpQuiet_nil ?_; intro _ hw'; obtain ⟨⟨osq, nq⟩, hw''⟩ := hw'; replace hw'' : _ = grew _ osq nq := hw''; subst hw''))
        go_wp2_with (go_at_call 101; refine (brMore_missed c (Frm.mk f.kind f.a f.b f.pc f.i f.j (f.n + 1) f.p f.h f.x f.y) HFF.out HI.out M HMM.out V _ EX).mono ?_; rintro e w1 ⟨rfl, os1, n1, rfl⟩)
        (refine bodyPost_ret (results_none rfl _ _ _) rfl ⟨rfl, ?_⟩)
        rw [HS.out]
        exact EX
      · have hi : f.i + 1 < c.cap := by simpa using ci
        have HFF : Hid (Frm.Fits (Frm.mk f.kind f.a f.b f.pc f.i f.j (f.n + 1) f.p f.h f.x f.y)) := Lib.hid (by have hf := HF.out; exact ⟨hf.kind, hf.a, hf.b, hf.pc, hf.i, hf.j, by dsimp only; omega, hf.p, hf.h, hf.x, hf.y⟩)
        have HS : Hid (brOther c f l = ({ (Frm.mk f.kind f.a f.b f.pc f.i f.j (f.n + 1) f.p f.h f.x f.y) with i := f.i + 1 } : Frm)) := Lib.hid (by simp only [brOther, z, zn, Bool.false_eq_true, if_false, if_true, brMore, if_pos hi])
        have HI := Lib.hid hi
        clear ci hi hLM ht
        go_enter Tryz.func100, Tryz.ntmps100
        go_wp2
        ((refine wp_region_ext_lit (by kernel_rfl) (by kernel_rfl) ?_); (repeat (go_big_quiet_step (fail))); (refine wpQuiet_nil ?_; intro _ hw'; obtain ⟨⟨osq, nq⟩, hw''⟩ := hw'; replace hw'' : _ = grew _ osq nq := hw''; subst hw''))
        go_wp2_with (go_at_call 101; refine (brMore_on 134 c (Frm.mk f.kind f.a f.b f.pc f.i f.j (f.n + 1) f.p f.h f.x f.y) HFF.out hc HI.out M V _ EX).mono ?_; rintro e w1 ⟨rfl, os1, n1, rfl⟩)
        (refine bodyPost_ret (results_none rfl _ _ _) rfl ⟨rfl, ?_⟩)
        rw [HS.out]
        exact EX
    · cases ci : decide (f.i + 1 < c.cap)
      · have hi : ¬ f.i + 1 < c.cap := by simpa using ci
        have HFF : Hid (Frm.Fits (Frm.mk f.kind f.a f.b f.pc f.i f.i (f.n + 1) f.p f.h f.x f.y)) := Lib.hid (by have hf := HF.out; exact ⟨hf.kind, hf.a, hf.b, hf.pc, hf.i, hf.i, by dsimp only; omega, hf.p, hf.h, hf.x, hf.y⟩)
        have HS : Hid (brOther c f l = (brMiss (Frm.mk f.kind f.a f.b f.pc f.i f.i (f.n + 1) f.p f.h f.x f.y) M)) := Lib.hid (by simp only [brOther, z, zn, if_true]; exact brMiss_of (f := (Frm.mk f.kind f.a f.b f.pc f.i f.i (f.n + 1) f.p f.h f.x f.y)) HLM.out hi)
        have HI : Hid (c.cap ≤ f.i + 1) := Lib.hid (by omega)
        clear ci hi hLM ht
        go_enter Tryz.func100, Tryz.ntmps100
        go_wp2
        ((refine wp_region_ext_lit (by kernel_rfl) (by kernel_rfl) ?_); (repeat (go_big_quiet_step (fail))); (refine wpQuiet_nil ?_; intro _ hw'; obtain ⟨⟨osq, nq⟩, hw''⟩ := hw'; replace hw'' : _ = grew _ osq nq := hw''; subst hw''))
        go_wp2_with (go_at_call 101; refine (brMore_missed c (Frm.mk f.kind f.a f.b f.pc f.i f.i (f.n + 1) f.p f.h f.x f.y) HFF.out HI.out M HMM.out V _ EX).mono ?_; rintro e w1 ⟨rfl, os1, n1, rfl⟩)
        (refine bodyPost_ret (results_none rfl _ _ _) rfl ⟨rfl, ?_⟩)
        rw [HS.out]
        exact EX
      · have hi : f.i + 1 < c.cap := by simpa using ci
        have HFF : Hid (Frm.Fits (Frm.mk f.kind f.a f.b f.pc f.i f.i (f.n + 1) f.p f.h f.x f.y)) := Lib.hid (by have hf := HF.out; exact ⟨hf.kind, hf.a, hf.b, hf.pc, hf.i, hf.i, by dsimp only; omega, hf.p, hf.h, hf.x, hf.y⟩)
        have HS : Hid (brOther c f l = ({ (Frm.mk f.kind f.a f.b f.pc f.i f.i (f.n + 1) f.p f.h f.x f.y) with i := f.i + 1 } : Frm)) := Lib.hid (by simp only [brOther, z, zn, if_true, brMore, if_pos hi])
        have HI := Lib.hid hi
        clear ci hi hLM ht
        go_enter Tryz.func100, Tryz.ntmps100
        go_wp2
        ((refine wp_region_ext_lit (by kernel_rfl) (by kernel_rfl) ?_); (repeat (go_big_quiet_step (fail))); (refine wpQuiet_nil ?_; intro _ hw'; obtain ⟨⟨osq, nq⟩, hw''⟩ := hw'; replace hw'' : _ = grew _ osq nq := hw''; subst hw''))
        go_wp2_with (go_at_call 101; refine (brMore_on 134 c (Frm.mk f.kind f.a f.b f.pc f.i f.i (f.n + 1) f.p f.h f.x f.y) HFF.out hc HI.out M V _ EX).mono ?_; rintro e w1 ⟨rfl, os1, n1, rfl⟩)
        (refine bodyPost_ret (results_none rfl _ _ _) rfl ⟨rfl, ?_⟩)
        rw [HS.out]
        exact EX
theorem brSeek_near (c : Cfg) (f : Frm) (hf : f.Fits) (l : Cel) (hl : l.Fits) (hc : c.cap ≤ 32) (hfi : f.i < c.cap) (_hn : f.n ≤ 32) (M : Int) (hM : 0 ≤ M ∧ M ≤ 3) (hLM : brLong f = M) (hh : f.h < M) (ht : (l.a == f.p + 1) = true ∧ (l.b == brName f f.h) = false) (V w : World) (hw : Ext (V.alloc (.cells (wlM c (f) M) 79)) w) : Calls Tryz.prog 100 #[.pointer (some ⟨V.heap.size, 0, none⟩), l.v] w
    fun e w' => e = .returned (.tuple #[]) ∧ Ext (V.alloc (.cells (wlM c (brOther c f l) M) 79)) w' := by
  obtain ⟨os, d, rfl⟩ := hw
  have HF := Lib.hid hf
  have HLM := Lib.hid hLM
  obtain ⟨⟨k0, k1⟩, ⟨a0, a1⟩, ⟨b0, b1⟩, ⟨p0, p1⟩, ⟨i0, i1⟩, ⟨j0, j1⟩, ⟨m0, m1⟩, ⟨q0, q1⟩, ⟨h0, h1⟩, ⟨x0, x1⟩, ⟨y0, y1⟩⟩ := hf
  obtain ⟨⟨t0, t1⟩, ⟨la0, la1⟩, ⟨lb0, lb1⟩, ⟨lc0, lc1⟩⟩ := hl
  have hq : f.h = 0 ∨ f.h = 1 ∨ f.h = 2 := by omega
  have HMM := Lib.hid hM
  obtain ⟨ht, ht2⟩ := ht
  have e1 : (l.a != f.p + 1) = false := by simpa using ht
  have z : (l.a == 0) = false := by simp at ht ⊢; omega
  rcases hq with hq | hq | hq
  · have e2 : (l.b != f.a % 65536) = true := by rw [hq] at ht2; simpa [brName] using ht2
    cases ci : decide (f.i + 1 < c.cap)
    · have hi : ¬ f.i + 1 < c.cap := by simpa using ci
      have HFF : Hid (Frm.Fits f) := Lib.hid (by have hf := HF.out; exact hf)
      have HS : Hid (brOther c f l = (brMiss f M)) := Lib.hid (by simp only [brOther, z, Bool.false_eq_true, if_false]; exact brMiss_of (f := f) HLM.out hi)
      have HI : Hid (c.cap ≤ f.i + 1) := Lib.hid (by omega)
      clear ci hi hLM ht ht2
      go_enter Tryz.func100, Tryz.ntmps100
      go_wp2
      ((refine wp_region_ext_lit (by kernel_rfl) (by kernel_rfl) ?_); (repeat (go_big_quiet_step (fail))); (refine wpQuiet_nil ?_; intro _ hw'; obtain ⟨⟨osq, nq⟩, hw''⟩ := hw'; replace hw'' : _ = grew _ osq nq := hw''; subst hw''))
      go_wp2_with (go_at_call 101; refine (brMore_missed c f HFF.out HI.out M HMM.out V _ EX).mono ?_; rintro e w1 ⟨rfl, os1, n1, rfl⟩)
      (refine bodyPost_ret (results_none rfl _ _ _) rfl ⟨rfl, ?_⟩)
      rw [HS.out]
      (try simp only [wlM])
      exact EX
    · have hi : f.i + 1 < c.cap := by simpa using ci
      have HFF : Hid (Frm.Fits f) := Lib.hid (by have hf := HF.out; exact hf)
      have HS : Hid (brOther c f l = ({ f with i := f.i + 1 } : Frm)) := Lib.hid (by simp only [brOther, z, Bool.false_eq_true, if_false, brMore, if_pos hi])
      have HI := Lib.hid hi
      clear ci hi hLM ht ht2
      go_enter Tryz.func100, Tryz.ntmps100
      go_wp2
      ((refine wp_region_ext_lit (by kernel_rfl) (by kernel_rfl) ?_); (repeat (go_big_quiet_step (fail))); (refine wpQuiet_nil ?_; intro _ hw'; obtain ⟨⟨osq, nq⟩, hw''⟩ := hw'; replace hw'' : _ = grew _ osq nq := hw''; subst hw''))
      go_wp2_with (go_at_call 101; refine (brMore_on 134 c f HFF.out hc HI.out M V _ EX).mono ?_; rintro e w1 ⟨rfl, os1, n1, rfl⟩)
      (refine bodyPost_ret (results_none rfl _ _ _) rfl ⟨rfl, ?_⟩)
      rw [HS.out]
      (try simp only [wlM, hq])
      exact EX
  · have e2 : (l.b != f.a / 65536) = true := by rw [hq] at ht2; simpa [brName] using ht2
    cases ci : decide (f.i + 1 < c.cap)
    · have hi : ¬ f.i + 1 < c.cap := by simpa using ci
      have HFF : Hid (Frm.Fits f) := Lib.hid (by have hf := HF.out; exact hf)
      have HS : Hid (brOther c f l = (brMiss f M)) := Lib.hid (by simp only [brOther, z, Bool.false_eq_true, if_false]; exact brMiss_of (f := f) HLM.out hi)
      have HI : Hid (c.cap ≤ f.i + 1) := Lib.hid (by omega)
      clear ci hi hLM ht ht2
      go_enter Tryz.func100, Tryz.ntmps100
      go_wp2
      ((refine wp_region_ext_lit (by kernel_rfl) (by kernel_rfl) ?_); (repeat (go_big_quiet_step (fail))); (refine wpQuiet_nil ?_; intro _ hw'; obtain ⟨⟨osq, nq⟩, hw''⟩ := hw'; replace hw'' : _ = grew _ osq nq := hw''; subst hw''))
      go_wp2_with (go_at_call 101; refine (brMore_missed c f HFF.out HI.out M HMM.out V _ EX).mono ?_; rintro e w1 ⟨rfl, os1, n1, rfl⟩)
      (refine bodyPost_ret (results_none rfl _ _ _) rfl ⟨rfl, ?_⟩)
      rw [HS.out]
      (try simp only [wlM])
      exact EX
    · have hi : f.i + 1 < c.cap := by simpa using ci
      have HFF : Hid (Frm.Fits f) := Lib.hid (by have hf := HF.out; exact hf)
      have HS : Hid (brOther c f l = ({ f with i := f.i + 1 } : Frm)) := Lib.hid (by simp only [brOther, z, Bool.false_eq_true, if_false, brMore, if_pos hi])
      have HI := Lib.hid hi
      clear ci hi hLM ht ht2
      go_enter Tryz.func100, Tryz.ntmps100
      go_wp2
      ((refine wp_region_ext_lit (by kernel_rfl) (by kernel_rfl) ?_); (repeat (go_big_quiet_step (fail))); (refine wpQuiet_nil ?_; intro _ hw'; obtain ⟨⟨osq, nq⟩, hw''⟩ := hw'; replace hw'' : _ = grew _ osq nq := hw''; subst hw''))
      go_wp2_with (go_at_call 101; refine (brMore_on 134 c f HFF.out hc HI.out M V _ EX).mono ?_; rintro e w1 ⟨rfl, os1, n1, rfl⟩)
      (refine bodyPost_ret (results_none rfl _ _ _) rfl ⟨rfl, ?_⟩)
      rw [HS.out]
      (try simp only [wlM, hq])
      exact EX
  · have e2 : (l.b != f.b) = true := by rw [hq] at ht2; simpa [brName] using ht2
    cases ci : decide (f.i + 1 < c.cap)
    · have hi : ¬ f.i + 1 < c.cap := by simpa using ci
      have HFF : Hid (Frm.Fits f) := Lib.hid (by have hf := HF.out; exact hf)
      have HS : Hid (brOther c f l = (brMiss f M)) := Lib.hid (by simp only [brOther, z, Bool.false_eq_true, if_false]; exact brMiss_of (f := f) HLM.out hi)
      have HI : Hid (c.cap ≤ f.i + 1) := Lib.hid (by omega)
      clear ci hi hLM ht ht2
      go_enter Tryz.func100, Tryz.ntmps100
      go_wp2
      ((refine wp_region_ext_lit (by kernel_rfl) (by kernel_rfl) ?_); (repeat (go_big_quiet_step (fail))); (refine wpQuiet_nil ?_; intro _ hw'; obtain ⟨⟨osq, nq⟩, hw''⟩ := hw'; replace hw'' : _ = grew _ osq nq := hw''; subst hw''))
      go_wp2_with (go_at_call 101; refine (brMore_missed c f HFF.out HI.out M HMM.out V _ EX).mono ?_; rintro e w1 ⟨rfl, os1, n1, rfl⟩)
      (refine bodyPost_ret (results_none rfl _ _ _) rfl ⟨rfl, ?_⟩)
      rw [HS.out]
      (try simp only [wlM])
      exact EX
    · have hi : f.i + 1 < c.cap := by simpa using ci
      have HFF : Hid (Frm.Fits f) := Lib.hid (by have hf := HF.out; exact hf)
      have HS : Hid (brOther c f l = ({ f with i := f.i + 1 } : Frm)) := Lib.hid (by simp only [brOther, z, Bool.false_eq_true, if_false, brMore, if_pos hi])
      have HI := Lib.hid hi
      clear ci hi hLM ht ht2
      go_enter Tryz.func100, Tryz.ntmps100
      go_wp2
      ((refine wp_region_ext_lit (by kernel_rfl) (by kernel_rfl) ?_); (repeat (go_big_quiet_step (fail))); (refine wpQuiet_nil ?_; intro _ hw'; obtain ⟨⟨osq, nq⟩, hw''⟩ := hw'; replace hw'' : _ = grew _ osq nq := hw''; subst hw''))
      go_wp2_with (go_at_call 101; refine (brMore_on 134 c f HFF.out hc HI.out M V _ EX).mono ?_; rintro e w1 ⟨rfl, os1, n1, rfl⟩)
      (refine bodyPost_ret (results_none rfl _ _ _) rfl ⟨rfl, ?_⟩)
      rw [HS.out]
      (try simp only [wlM, hq])
      exact EX
end Go.Proofs.YtmhmaifmendebaaGreatDoor.branch
/- The walk of (found) 'seek'. -/
namespace Go.Proofs.YtmhmaifmendebaaGreatDoor.branch
open Go Go.RowKit
set_option maxRecDepth 100000
set_option maxHeartbeats 8000000

def brFoundC (_ : Cfg) (f : Frm) (l : Cel) : Frm := brFound f l
theorem brSeek_yes (c : Cfg) (f : Frm) (hf : f.Fits) (l : Cel) (hl : l.Fits) (hc : c.cap ≤ 32) (hfi : f.i < c.cap) (_hn : f.n ≤ 32) (M : Int) (hM : 0 ≤ M ∧ M ≤ 3) (hLM : brLong f = M) (hh : f.h < M) (ht : (l.a == f.p + 1) = true ∧ (l.b == brName f f.h) = true) (V w : World) (hw : Ext (V.alloc (.cells (wlM c (f) M) 79)) w) : Calls Tryz.prog 100 #[.pointer (some ⟨V.heap.size, 0, none⟩), l.v] w
    fun e w' => e = .returned (.tuple #[]) ∧ Ext (V.alloc (.cells (wlM c (brFoundC c f l) M) 79)) w' := by
  obtain ⟨os, d, rfl⟩ := hw
  have HF := Lib.hid hf
  have HLM := Lib.hid hLM
  obtain ⟨⟨k0, k1⟩, ⟨a0, a1⟩, ⟨b0, b1⟩, ⟨p0, p1⟩, ⟨i0, i1⟩, ⟨j0, j1⟩, ⟨m0, m1⟩, ⟨q0, q1⟩, ⟨h0, h1⟩, ⟨x0, x1⟩, ⟨y0, y1⟩⟩ := hf
  obtain ⟨⟨t0, t1⟩, ⟨la0, la1⟩, ⟨lb0, lb1⟩, ⟨lc0, lc1⟩⟩ := hl
  have hq : f.h = 0 ∨ f.h = 1 ∨ f.h = 2 := by omega
  have HMM := Lib.hid hM
  obtain ⟨ht, ht2⟩ := ht
  have e1 : (l.a != f.p + 1) = false := by simpa using ht
  have HQ := Lib.hid hq
  obtain ⟨X, hX⟩ : ∃ X, l.c % 4294967296 = X := ⟨_, rfl⟩
  have HX := Lib.hid hX
  have x2 : 0 ≤ X ∧ X ≤ 4294967295 := by omega
  have hwi : IntKind.u8.wrap (f.i + 1) = f.i + 1 := by rw [IntKind.wrap_u8]; omega
  have hwi2 : (f.i + 1) % 256 = f.i + 1 := by omega
  have hwx : IntKind.u32.wrap l.c = X := by rw [IntKind.wrap_u32, hX]
  clear hX
  by_cases hm : f.h + 1 < M
  · have hm' : decide (f.h + 1 < M) = true := by simpa using hm
    have HS : Hid (brFoundC c f l = (Frm.mk f.kind f.a f.b f.pc 0 f.p 0 (f.i + 1) (f.h + 1) X f.y)) := Lib.hid (by simp only [brFoundC, brFound, HLM.out, HX.out, if_pos hm])
    rcases hq with hq | hq | hq
    · have e2 : (l.b != f.a % 65536) = false := by rw [hq] at ht2; simpa [brName] using ht2
      clear hLM ht ht2
      go_enter Tryz.func100, Tryz.ntmps100
      go_wp2
      ((refine wp_region_ext_lit (by kernel_rfl) (by kernel_rfl) ?_); (repeat (go_big_quiet_step (fail))); (refine wpQuiet_nil ?_; intro _ hw'; obtain ⟨⟨osq, nq⟩, hw''⟩ := hw'; replace hw'' : _ = grew _ osq nq := hw''; subst hw''))
      go_upto_region 7 with fail
      go_region
      go_wp2
      ((refine wp_region_ext_lit (by kernel_rfl) (by kernel_rfl) ?_); (repeat (go_big_quiet_step (fail))); (refine wpQuiet_nil ?_; intro _ hw'; obtain ⟨⟨osq, nq⟩, hw''⟩ := hw'; replace hw'' : _ = grew _ osq nq := hw''; subst hw''))
      go_wp2
      go_end0
      refine ⟨rfl, ?_⟩
      rw [HS.out]
      (try simp only [wlM, hq, Int.reduceAdd])
      exact EX
    · have e2 : (l.b != f.a / 65536) = false := by rw [hq] at ht2; simpa [brName] using ht2
      clear hLM ht ht2
      go_enter Tryz.func100, Tryz.ntmps100
      go_wp2
      ((refine wp_region_ext_lit (by kernel_rfl) (by kernel_rfl) ?_); (repeat (go_big_quiet_step (fail))); (refine wpQuiet_nil ?_; intro _ hw'; obtain ⟨⟨osq, nq⟩, hw''⟩ := hw'; replace hw'' : _ = grew _ osq nq := hw''; subst hw''))
      go_upto_region 7 with fail
      go_region
      go_wp2
      ((refine wp_region_ext_lit (by kernel_rfl) (by kernel_rfl) ?_); (repeat (go_big_quiet_step (fail))); (refine wpQuiet_nil ?_; intro _ hw'; obtain ⟨⟨osq, nq⟩, hw''⟩ := hw'; replace hw'' : _ = grew _ osq nq := hw''; subst hw''))
      go_wp2
      go_end0
      refine ⟨rfl, ?_⟩
      rw [HS.out]
      (try simp only [wlM, hq, Int.reduceAdd])
      exact EX
    · have e2 : (l.b != f.b) = false := by rw [hq] at ht2; simpa [brName] using ht2
      omega
  · have hm' : decide (f.h + 1 < M) = false := by simpa using hm
    cases k12 : (f.kind == 12)
    · cases k13 : (f.kind == 13)
      · cases xz : (X == 0)
        · have xz' : (X != 0) = true := by simpa using xz
          have HS : Hid (brFoundC c f l = (Frm.mk f.kind f.a f.b 20 f.i f.p f.n (f.i + 1) (f.h + 1) X f.y)) := Lib.hid (by simp only [brFoundC, brFound, HLM.out, HX.out, if_neg hm, k12, k13, xz, Bool.false_eq_true, if_false])
          rcases hq with hq | hq | hq
          · have e2 : (l.b != f.a % 65536) = false := by rw [hq] at ht2; simpa [brName] using ht2
            clear hLM ht ht2
            go_enter Tryz.func100, Tryz.ntmps100
            go_wp2
            ((refine wp_region_ext_lit (by kernel_rfl) (by kernel_rfl) ?_); (repeat (go_big_quiet_step (fail))); (refine wpQuiet_nil ?_; intro _ hw'; obtain ⟨⟨osq, nq⟩, hw''⟩ := hw'; replace hw'' : _ = grew _ osq nq := hw''; subst hw''))
            go_upto_region 7 with fail
            go_region
            go_wp2
            ((refine wp_region_ext_lit (by kernel_rfl) (by kernel_rfl) ?_); (repeat (go_big_quiet_step (fail))); (refine wpQuiet_nil ?_; intro _ hw'; obtain ⟨⟨osq, nq⟩, hw''⟩ := hw'; replace hw'' : _ = grew _ osq nq := hw''; subst hw''))
            go_wp2
            go_end0
            refine ⟨rfl, ?_⟩
            rw [HS.out]
            (try simp only [wlM, hq, Int.reduceAdd])
            exact EX
          · have e2 : (l.b != f.a / 65536) = false := by rw [hq] at ht2; simpa [brName] using ht2
            clear hLM ht ht2
            go_enter Tryz.func100, Tryz.ntmps100
            go_wp2
            ((refine wp_region_ext_lit (by kernel_rfl) (by kernel_rfl) ?_); (repeat (go_big_quiet_step (fail))); (refine wpQuiet_nil ?_; intro _ hw'; obtain ⟨⟨osq, nq⟩, hw''⟩ := hw'; replace hw'' : _ = grew _ osq nq := hw''; subst hw''))
            go_upto_region 7 with fail
            go_region
            go_wp2
            ((refine wp_region_ext_lit (by kernel_rfl) (by kernel_rfl) ?_); (repeat (go_big_quiet_step (fail))); (refine wpQuiet_nil ?_; intro _ hw'; obtain ⟨⟨osq, nq⟩, hw''⟩ := hw'; replace hw'' : _ = grew _ osq nq := hw''; subst hw''))
            go_wp2
            go_end0
            refine ⟨rfl, ?_⟩
            rw [HS.out]
            (try simp only [wlM, hq, Int.reduceAdd])
            exact EX
          · have e2 : (l.b != f.b) = false := by rw [hq] at ht2; simpa [brName] using ht2
            clear hLM ht ht2
            go_enter Tryz.func100, Tryz.ntmps100
            go_wp2
            ((refine wp_region_ext_lit (by kernel_rfl) (by kernel_rfl) ?_); (repeat (go_big_quiet_step (fail))); (refine wpQuiet_nil ?_; intro _ hw'; obtain ⟨⟨osq, nq⟩, hw''⟩ := hw'; replace hw'' : _ = grew _ osq nq := hw''; subst hw''))
            go_upto_region 7 with fail
            go_region
            go_wp2
            ((refine wp_region_ext_lit (by kernel_rfl) (by kernel_rfl) ?_); (repeat (go_big_quiet_step (fail))); (refine wpQuiet_nil ?_; intro _ hw'; obtain ⟨⟨osq, nq⟩, hw''⟩ := hw'; replace hw'' : _ = grew _ osq nq := hw''; subst hw''))
            go_wp2
            go_end0
            refine ⟨rfl, ?_⟩
            rw [HS.out]
            (try simp only [wlM, hq, Int.reduceAdd])
            exact EX
        · have xz' : (X != 0) = false := by simpa using xz
          have HS : Hid (brFoundC c f l = (Frm.mk f.kind f.a f.b 21 f.i f.p f.n (f.i + 1) (f.h + 1) X f.y)) := Lib.hid (by simp only [brFoundC, brFound, HLM.out, HX.out, if_neg hm, k12, k13, xz, Bool.false_eq_true, if_false, if_true])
          rcases hq with hq | hq | hq
          · have e2 : (l.b != f.a % 65536) = false := by rw [hq] at ht2; simpa [brName] using ht2
            clear hLM ht ht2
            go_enter Tryz.func100, Tryz.ntmps100
            go_wp2
            ((refine wp_region_ext_lit (by kernel_rfl) (by kernel_rfl) ?_); (repeat (go_big_quiet_step (fail))); (refine wpQuiet_nil ?_; intro _ hw'; obtain ⟨⟨osq, nq⟩, hw''⟩ := hw'; replace hw'' : _ = grew _ osq nq := hw''; subst hw''))
            go_upto_region 7 with fail
            go_region
            go_wp2
            ((refine wp_region_ext_lit (by kernel_rfl) (by kernel_rfl) ?_); (repeat (go_big_quiet_step (fail))); (refine wpQuiet_nil ?_; intro _ hw'; obtain ⟨⟨osq, nq⟩, hw''⟩ := hw'; replace hw'' : _ = grew _ osq nq := hw''; subst hw''))
            go_wp2
            go_end0
            refine ⟨rfl, ?_⟩
            rw [HS.out]
            (try simp only [wlM, hq, Int.reduceAdd])
            exact EX
          · have e2 : (l.b != f.a / 65536) = false := by rw [hq] at ht2; simpa [brName] using ht2
            clear hLM ht ht2
            go_enter Tryz.func100, Tryz.ntmps100
            go_wp2
            ((refine wp_region_ext_lit (by kernel_rfl) (by kernel_rfl) ?_); (repeat (go_big_quiet_step (fail))); (refine wpQuiet_nil ?_; intro _ hw'; obtain ⟨⟨osq, nq⟩, hw''⟩ := hw'; replace hw'' : _ = grew _ osq nq := hw''; subst hw''))
            go_upto_region 7 with fail
            go_region
            go_wp2
            ((refine wp_region_ext_lit (by kernel_rfl) (by kernel_rfl) ?_); (repeat (go_big_quiet_step (fail))); (refine wpQuiet_nil ?_; intro _ hw'; obtain ⟨⟨osq, nq⟩, hw''⟩ := hw'; replace hw'' : _ = grew _ osq nq := hw''; subst hw''))
            go_wp2
            go_end0
            refine ⟨rfl, ?_⟩
            rw [HS.out]
            (try simp only [wlM, hq, Int.reduceAdd])
            exact EX
          · have e2 : (l.b != f.b) = false := by rw [hq] at ht2; simpa [brName] using ht2
            clear hLM ht ht2
            go_enter Tryz.func100, Tryz.ntmps100
            go_wp2
            ((refine wp_region_ext_lit (by kernel_rfl) (by kernel_rfl) ?_); (repeat (go_big_quiet_step (fail))); (refine wpQuiet_nil ?_; intro _ hw'; obtain ⟨⟨osq, nq⟩, hw''⟩ := hw'; replace hw'' : _ = grew _ osq nq := hw''; subst hw''))
            go_upto_region 7 with fail
            go_region
            go_wp2
            ((refine wp_region_ext_lit (by kernel_rfl) (by kernel_rfl) ?_); (repeat (go_big_quiet_step (fail))); (refine wpQuiet_nil ?_; intro _ hw'; obtain ⟨⟨osq, nq⟩, hw''⟩ := hw'; replace hw'' : _ = grew _ osq nq := hw''; subst hw''))
            go_wp2
            go_end0
            refine ⟨rfl, ?_⟩
            rw [HS.out]
            (try simp only [wlM, hq, Int.reduceAdd])
            exact EX
      · skip
        have HS : Hid (brFoundC c f l = (Frm.mk f.kind f.a f.b 5 0 f.p f.n (f.i + 1) (f.h + 1) X f.y)) := Lib.hid (by simp only [brFoundC, brFound, HLM.out, HX.out, if_neg hm, k12, k13, Bool.false_eq_true, if_false, if_true])
        rcases hq with hq | hq | hq
        · have e2 : (l.b != f.a % 65536) = false := by rw [hq] at ht2; simpa [brName] using ht2
          clear hLM ht ht2
          go_enter Tryz.func100, Tryz.ntmps100
          go_wp2
          ((refine wp_region_ext_lit (by kernel_rfl) (by kernel_rfl) ?_); (repeat (go_big_quiet_step (fail))); (refine wpQuiet_nil ?_; intro _ hw'; obtain ⟨⟨osq, nq⟩, hw''⟩ := hw'; replace hw'' : _ = grew _ osq nq := hw''; subst hw''))
          go_upto_region 7 with fail
          go_region
          go_wp2
          ((refine wp_region_ext_lit (by kernel_rfl) (by kernel_rfl) ?_); (repeat (go_big_quiet_step (fail))); (refine wpQuiet_nil ?_; intro _ hw'; obtain ⟨⟨osq, nq⟩, hw''⟩ := hw'; replace hw'' : _ = grew _ osq nq := hw''; subst hw''))
          go_wp2
          go_end0
          refine ⟨rfl, ?_⟩
          rw [HS.out]
          (try simp only [wlM, hq, Int.reduceAdd])
          exact EX
        · have e2 : (l.b != f.a / 65536) = false := by rw [hq] at ht2; simpa [brName] using ht2
          clear hLM ht ht2
          go_enter Tryz.func100, Tryz.ntmps100
          go_wp2
          ((refine wp_region_ext_lit (by kernel_rfl) (by kernel_rfl) ?_); (repeat (go_big_quiet_step (fail))); (refine wpQuiet_nil ?_; intro _ hw'; obtain ⟨⟨osq, nq⟩, hw''⟩ := hw'; replace hw'' : _ = grew _ osq nq := hw''; subst hw''))
          go_upto_region 7 with fail
          go_region
          go_wp2
          ((refine wp_region_ext_lit (by kernel_rfl) (by kernel_rfl) ?_); (repeat (go_big_quiet_step (fail))); (refine wpQuiet_nil ?_; intro _ hw'; obtain ⟨⟨osq, nq⟩, hw''⟩ := hw'; replace hw'' : _ = grew _ osq nq := hw''; subst hw''))
          go_wp2
          go_end0
          refine ⟨rfl, ?_⟩
          rw [HS.out]
          (try simp only [wlM, hq, Int.reduceAdd])
          exact EX
        · have e2 : (l.b != f.b) = false := by rw [hq] at ht2; simpa [brName] using ht2
          clear hLM ht ht2
          go_enter Tryz.func100, Tryz.ntmps100
          go_wp2
          ((refine wp_region_ext_lit (by kernel_rfl) (by kernel_rfl) ?_); (repeat (go_big_quiet_step (fail))); (refine wpQuiet_nil ?_; intro _ hw'; obtain ⟨⟨osq, nq⟩, hw''⟩ := hw'; replace hw'' : _ = grew _ osq nq := hw''; subst hw''))
          go_upto_region 7 with fail
          go_region
          go_wp2
          ((refine wp_region_ext_lit (by kernel_rfl) (by kernel_rfl) ?_); (repeat (go_big_quiet_step (fail))); (refine wpQuiet_nil ?_; intro _ hw'; obtain ⟨⟨osq, nq⟩, hw''⟩ := hw'; replace hw'' : _ = grew _ osq nq := hw''; subst hw''))
          go_wp2
          go_end0
          refine ⟨rfl, ?_⟩
          rw [HS.out]
          (try simp only [wlM, hq, Int.reduceAdd])
          exact EX
    · skip
      have HS : Hid (brFoundC c f l = (Frm.mk f.kind f.a f.b 4 f.i f.p f.n (f.i + 1) (f.h + 1) X f.y)) := Lib.hid (by simp only [brFoundC, brFound, HLM.out, HX.out, if_neg hm, k12, if_true])
      rcases hq with hq | hq | hq
      · have e2 : (l.b != f.a % 65536) = false := by rw [hq] at ht2; simpa [brName] using ht2
        clear hLM ht ht2
        go_enter Tryz.func100, Tryz.ntmps100
        go_wp2
        ((refine wp_region_ext_lit (by kernel_rfl) (by kernel_rfl) ?_); (repeat (go_big_quiet_step (fail))); (refine wpQuiet_nil ?_; intro _ hw'; obtain ⟨⟨osq, nq⟩, hw''⟩ := hw'; replace hw'' : _ = grew _ osq nq := hw''; subst hw''))
        go_upto_region 7 with fail
        go_region
        go_wp2
        ((refine wp_region_ext_lit (by kernel_rfl) (by kernel_rfl) ?_); (repeat (go_big_quiet_step (fail))); (refine wpQuiet_nil ?_; intro _ hw'; obtain ⟨⟨osq, nq⟩, hw''⟩ := hw'; replace hw'' : _ = grew _ osq nq := hw''; subst hw''))
        go_wp2
        go_end0
        refine ⟨rfl, ?_⟩
        rw [HS.out]
        (try simp only [wlM, hq, Int.reduceAdd])
        exact EX
      · have e2 : (l.b != f.a / 65536) = false := by rw [hq] at ht2; simpa [brName] using ht2
        clear hLM ht ht2
        go_enter Tryz.func100, Tryz.ntmps100
        go_wp2
        ((refine wp_region_ext_lit (by kernel_rfl) (by kernel_rfl) ?_); (repeat (go_big_quiet_step (fail))); (refine wpQuiet_nil ?_; intro _ hw'; obtain ⟨⟨osq, nq⟩, hw''⟩ := hw'; replace hw'' : _ = grew _ osq nq := hw''; subst hw''))
        go_upto_region 7 with fail
        go_region
        go_wp2
        ((refine wp_region_ext_lit (by kernel_rfl) (by kernel_rfl) ?_); (repeat (go_big_quiet_step (fail))); (refine wpQuiet_nil ?_; intro _ hw'; obtain ⟨⟨osq, nq⟩, hw''⟩ := hw'; replace hw'' : _ = grew _ osq nq := hw''; subst hw''))
        go_wp2
        go_end0
        refine ⟨rfl, ?_⟩
        rw [HS.out]
        (try simp only [wlM, hq, Int.reduceAdd])
        exact EX
      · have e2 : (l.b != f.b) = false := by rw [hq] at ht2; simpa [brName] using ht2
        clear hLM ht ht2
        go_enter Tryz.func100, Tryz.ntmps100
        go_wp2
        ((refine wp_region_ext_lit (by kernel_rfl) (by kernel_rfl) ?_); (repeat (go_big_quiet_step (fail))); (refine wpQuiet_nil ?_; intro _ hw'; obtain ⟨⟨osq, nq⟩, hw''⟩ := hw'; replace hw'' : _ = grew _ osq nq := hw''; subst hw''))
        go_upto_region 7 with fail
        go_region
        go_wp2
        ((refine wp_region_ext_lit (by kernel_rfl) (by kernel_rfl) ?_); (repeat (go_big_quiet_step (fail))); (refine wpQuiet_nil ?_; intro _ hw'; obtain ⟨⟨osq, nq⟩, hw''⟩ := hw'; replace hw'' : _ = grew _ osq nq := hw''; subst hw''))
        go_wp2
        go_end0
        refine ⟨rfl, ?_⟩
        rw [HS.out]
        (try simp only [wlM, hq, Int.reduceAdd])
        exact EX
end Go.Proofs.YtmhmaifmendebaaGreatDoor.branch
