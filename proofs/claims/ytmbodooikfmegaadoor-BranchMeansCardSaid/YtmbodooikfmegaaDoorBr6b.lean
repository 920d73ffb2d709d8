/- The walk of (found) 'seek'. -/
import Derived.Test.YtmbodooikfmegaaDoorBr5
namespace Go.Proofs.YtmbodooikfmegaaDoor
open Go Go.RowKit
set_option maxRecDepth 100000
set_option maxHeartbeats 8000000

def brFoundC (_ : Cfg) (f : Frm) (l : Cel) : Frm := brFound f l
theorem brSeek_yes (c : Cfg) (f : Frm) (hf : f.Fits) (l : Cel) (hl : l.Fits) (hc : c.cap ≤ 32) (hfi : f.i < c.cap) (_hn : f.n ≤ 32) (M : Int) (hM : 0 ≤ M ∧ M ≤ 3) (hLM : brLong f = M) (hh : f.h < M) (ht : (l.a == f.p + 1) = true ∧ (l.b == brName f f.h) = true) (V w : World) (hw : Ext (V.alloc (.cells (wlM c (f) M) 79)) w) : Calls Tryd.prog 56 #[.pointer (some ⟨V.heap.size, 0, none⟩), l.v] w
    fun e w' => e = .returned (.tuple #[]) ∧ Ext (V.alloc (.cells (wlM c (brFoundC c f l) M) 79)) w' := by
  obtain ⟨os, d, rfl⟩ := hw
  have HF := Lib.hid hf
  have HLM := Lib.hid hLM
  obtain ⟨⟨k0, k1⟩, ⟨a0, a1⟩, ⟨b0, b1⟩, ⟨p0, p1⟩, ⟨i0, i1⟩, ⟨j0, j1⟩, ⟨m0, m1⟩, ⟨q0, q1⟩, ⟨h0, h1⟩, ⟨x0, x1⟩, ⟨y0, y1⟩⟩ := hf
  obtain ⟨⟨t0, t1⟩, ⟨la0, la1⟩, ⟨lb0, lb1⟩, ⟨lc0, lc1⟩⟩ := hl
  have hq : f.h = 0 ∨ f.h = 1 ∨ f.h = 2 := by omega
  have HMM := Lib.hid hM
  obtain ⟨ht, ht2⟩ := ht
  have e1 : (l.a != f.p + 1) = false := by simpa using ht
  have HQ := Lib.hid hq
  obtain ⟨X, hX⟩ : ∃ X, l.c % 4294967296 = X := ⟨_, rfl⟩
  have HX := Lib.hid hX
  have x2 : 0 ≤ X ∧ X ≤ 4294967295 := by omega
  have hwi : IntKind.u8.wrap (f.i + 1) = f.i + 1 := by rw [IntKind.wrap_u8]; omega
  have hwi2 : (f.i + 1) % 256 = f.i + 1 := by omega
  have hwx : IntKind.u32.wrap l.c = X := by rw [IntKind.wrap_u32, hX]
  clear hX
  by_cases hm : f.h + 1 < M
  · have hm' : decide (f.h + 1 < M) = true := by simpa using hm
    have HS : Hid (brFoundC c f l = (Frm.mk f.kind f.a f.b f.pc 0 f.p 0 (f.i + 1) (f.h + 1) X f.y)) := Lib.hid (by simp only [brFoundC, brFound, HLM.out, HX.out, if_pos hm])
    rcases hq with hq | hq | hq
    · have e2 : (l.b != f.a % 65536) = false := by rw [hq] at ht2; simpa [brName] using ht2
      clear hLM ht ht2
      go_enter Tryd.func56, Tryd.ntmps56
      go_wp2
      ((refine wp_region_ext_lit (by kernel_rfl) (by kernel_rfl) ?_); (repeat (go_big_quiet_step (fail))); (refine wpQuiet_nil ?_; intro _ hw'; obtain ⟨⟨osq, nq⟩, hw''⟩ := hw'; replace hw'' : _ = grew _ osq nq := hw''; subst hw''))
      go_upto_region 7 with fail
      go_region
      go_wp2
      ((refine wp_region_ext_lit (by kernel_rfl) (by kernel_rfl) ?_); (repeat (go_big_quiet_step (fail))); (refine wpQuiet_nil ?_; intro _ hw'; obtain ⟨⟨osq, nq⟩, hw''⟩ := hw'; replace hw'' : _ = grew _ osq nq := hw''; subst hw''))
      go_wp2
      go_end0
      refine ⟨rfl, ?_⟩
      rw [HS.out]
      (try simp only [wlM, hq, Int.reduceAdd])
      exact EX
    · have e2 : (l.b != f.a / 65536) = false := by rw [hq] at ht2; simpa [brName] using ht2
      clear hLM ht ht2
      go_enter Tryd.func56, Tryd.ntmps56
      go_wp2
      ((refine wp_region_ext_lit (by kernel_rfl) (by kernel_rfl) ?_); (repeat (go_big_quiet_step (fail))); (refine wpQuiet_nil ?_; intro _ hw'; obtain ⟨⟨osq, nq⟩, hw''⟩ := hw'; replace hw'' : _ = grew _ osq nq := hw''; subst hw''))
      go_upto_region 7 with fail
      go_region
      go_wp2
      ((refine wp_region_ext_lit (by kernel_rfl) (by kernel_rfl) ?_); (repeat (go_big_quiet_step (fail))); (refine wpQuiet_nil ?_; intro _ hw'; obtain ⟨⟨osq, nq⟩, hw''⟩ := hw'; replace hw'' : _ = grew _ osq nq := hw''; subst hw''))
      go_wp2
      go_end0
      refine ⟨rfl, ?_⟩
      rw [HS.out]
      (try simp only [wlM, hq, Int.reduceAdd])
      exact EX
    · have e2 : (l.b != f.b) = false := by rw [hq] at ht2; simpa [brName] using ht2
      omega
  · have hm' : decide (f.h + 1 < M) = false := by simpa using hm
    cases k12 : (f.kind == 12)
    · cases k13 : (f.kind == 13)
      · cases xz : (X == 0)
        · have xz' : (X != 0) = true := by simpa using xz
          have HS : Hid (brFoundC c f l = (Frm.mk f.kind f.a f.b 20 f.i f.p f.n (f.i + 1) (f.h + 1) X f.y)) := Lib.hid (by simp only [brFoundC, brFound, HLM.out, HX.out, if_neg hm, k12, k13, xz, Bool.false_eq_true, if_false])
          rcases hq with hq | hq | hq
          · have e2 : (l.b != f.a % 65536) = false := by rw [hq] at ht2; simpa [brName] using ht2
            clear hLM ht ht2
            go_enter Tryd.func56, Tryd.ntmps56
            go_wp2
            ((refine wp_region_ext_lit (by kernel_rfl) (by kernel_rfl) ?_); (repeat (go_big_quiet_step (fail))); (refine wpQuiet_nil ?_; intro _ hw'; obtain ⟨⟨osq, nq⟩, hw''⟩ := hw'; replace hw'' : _ = grew _ osq nq := hw''; subst hw''))
            go_upto_region 7 with fail
            go_region
            go_wp2
            ((refine wp_region_ext_lit (by kernel_rfl) (by kernel_rfl) ?_); (repeat (go_big_quiet_step (fail))); (refine wpQuiet_nil ?_; intro _ hw'; obtain ⟨⟨osq, nq⟩, hw''⟩ := hw'; replace hw'' : _ = grew _ osq nq := hw''; subst hw''))
            go_wp2
            go_end0
            refine ⟨rfl, ?_⟩
            rw [HS.out]
            (try simp only [wlM, hq, Int.reduceAdd])
            exact EX
          · have e2 : (l.b != f.a / 65536) = false := by rw [hq] at ht2; simpa [brName] using ht2
            clear hLM ht ht2
            go_enter Tryd.func56, Tryd.ntmps56
            go_wp2
            ((refine wp_region_ext_lit (by kernel_rfl) (by kernel_rfl) ?_); (repeat (go_big_quiet_step (fail))); (refine wpQuiet_nil ?_; intro _ hw'; obtain ⟨⟨osq, nq⟩, hw''⟩ := hw'; replace hw'' : _ = grew _ osq nq := hw''; subst hw''))
            go_upto_region 7 with fail
            go_region
            go_wp2
            ((refine wp_region_ext_lit (by kernel_rfl) (by kernel_rfl) ?_); (repeat (go_big_quiet_step (fail))); (refine wpQuiet_nil ?_; intro _ hw'; obtain ⟨⟨osq, nq⟩, hw''⟩ := hw'; replace hw'' : _ = grew _ osq nq := hw''; subst hw''))
            go_wp2
            go_end0
            refine ⟨rfl, ?_⟩
            rw [HS.out]
            (try simp only [wlM, hq, Int.reduceAdd])
            exact EX
          · have e2 : (l.b != f.b) = false := by rw [hq] at ht2; simpa [brName] using ht2
            clear hLM ht ht2
            go_enter Tryd.func56, Tryd.ntmps56
            go_wp2
            ((refine wp_region_ext_lit (by kernel_rfl) (by kernel_rfl) ?_); (repeat (go_big_quiet_step (fail))); (refine wpQuiet_nil ?_; intro _ hw'; obtain ⟨⟨osq, nq⟩, hw''⟩ := hw'; replace hw'' : _ = grew _ osq nq := hw''; subst hw''))
            go_upto_region 7 with fail
            go_region
            go_wp2
            ((refine wp_region_ext_lit (by kernel_rfl) (by kernel_rfl) ?_); (repeat (go_big_quiet_step (fail))); (refine wpQuiet_nil ?_; intro _ hw'; obtain ⟨⟨osq, nq⟩, hw''⟩ := hw'; replace hw'' : _ = grew _ osq nq := hw''; subst hw''))
            go_wp2
            go_end0
            refine ⟨rfl, ?_⟩
            rw [HS.out]
            (try simp only [wlM, hq, Int.reduceAdd])
            exact EX
        · have xz' : (X != 0) = false := by simpa using xz
          have HS : Hid (brFoundC c f l = (Frm.mk f.kind f.a f.b 21 f.i f.p f.n (f.i + 1) (f.h + 1) X f.y)) := Lib.hid (by simp only [brFoundC, brFound, HLM.out, HX.out, if_neg hm, k12, k13, xz, Bool.false_eq_true, if_false, if_true])
          rcases hq with hq | hq | hq
          · have e2 : (l.b != f.a % 65536) = false := by rw [hq] at ht2; simpa [brName] using ht2
            clear hLM ht ht2
            go_enter Tryd.func56, Tryd.ntmps56
            go_wp2
            ((refine wp_region_ext_lit (by kernel_rfl) (by kernel_rfl) ?_); (repeat (go_big_quiet_step (fail))); (refine wpQuiet_nil ?_; intro _ hw'; obtain ⟨⟨osq, nq⟩, hw''⟩ := hw'; replace hw'' : _ = grew _ osq nq := hw''; subst hw''))
            go_upto_region 7 with fail
            go_region
            go_wp2
            ((refine wp_region_ext_lit (by kernel_rfl) (by kernel_rfl) ?_); (repeat (go_big_quiet_step (fail))); (refine wpQuiet_nil ?_; intro _ hw'; obtain ⟨⟨osq, nq⟩, hw''⟩ := hw'; replace hw'' : _ = grew _ osq nq := hw''; subst hw''))
            go_wp2
            go_end0
            refine ⟨rfl, ?_⟩
            rw [HS.out]
            (try simp only [wlM, hq, Int.reduceAdd])
            exact EX
          · have e2 : (l.b != f.a / 65536) = false := by rw [hq] at ht2; simpa [brName] using ht2
            clear hLM ht ht2
            go_enter Tryd.func56, Tryd.ntmps56
            go_wp2
            ((refine wp_region_ext_lit (by kernel_rfl) (by kernel_rfl) ?_); (repeat (go_big_quiet_step (fail))); (refine wpQuiet_nil ?_; intro _ hw'; obtain ⟨⟨osq, nq⟩, hw''⟩ := hw'; replace hw'' : _ = grew _ osq nq := hw''; subst hw''))
            go_upto_region 7 with fail
            go_region
            go_wp2
            ((refine wp_region_ext_lit (by kernel_rfl) (by kernel_rfl) ?_); (repeat (go_big_quiet_step (fail))); (refine wpQuiet_nil ?_; intro _ hw'; obtain ⟨⟨osq, nq⟩, hw''⟩ := hw'; replace hw'' : _ = grew _ osq nq := hw''; subst hw''))
            go_wp2
            go_end0
            refine ⟨rfl, ?_⟩
            rw [HS.out]
            (try simp only [wlM, hq, Int.reduceAdd])
            exact EX
          · have e2 : (l.b != f.b) = false := by rw [hq] at ht2; simpa [brName] using ht2
            clear hLM ht ht2
            go_enter Tryd.func56, Tryd.ntmps56
            go_wp2
            ((refine wp_region_ext_lit (by kernel_rfl) (by kernel_rfl) ?_); (repeat (go_big_quiet_step (fail))); (refine wpQuiet_nil ?_; intro _ hw'; obtain ⟨⟨osq, nq⟩, hw''⟩ := hw'; replace hw'' : _ = grew _ osq nq := hw''; subst hw''))
            go_upto_region 7 with fail
            go_region
            go_wp2
            ((refine wp_region_ext_lit (by kernel_rfl) (by kernel_rfl) ?_); (repeat (go_big_quiet_step (fail))); (refine wpQuiet_nil ?_; intro _ hw'; obtain ⟨⟨osq, nq⟩, hw''⟩ := hw'; replace hw'' : _ = grew _ osq nq := hw''; subst hw''))
            go_wp2
            go_end0
            refine ⟨rfl, ?_⟩
            rw [HS.out]
            (try simp only [wlM, hq, Int.reduceAdd])
            exact EX
      · skip
        have HS : Hid (brFoundC c f l = (Frm.mk f.kind f.a f.b 5 0 f.p f.n (f.i + 1) (f.h + 1) X f.y)) := Lib.hid (by simp only [brFoundC, brFound, HLM.out, HX.out, if_neg hm, k12, k13, Bool.false_eq_true, if_false, if_true])
        rcases hq with hq | hq | hq
        · have e2 : (l.b != f.a % 65536) = false := by rw [hq] at ht2; simpa [brName] using ht2
          clear hLM ht ht2
          go_enter Tryd.func56, Tryd.ntmps56
          go_wp2
          ((refine wp_region_ext_lit (by kernel_rfl) (by kernel_rfl) ?_); (repeat (go_big_quiet_step (fail))); (refine wpQuiet_nil ?_; intro _ hw'; obtain ⟨⟨osq, nq⟩, hw''⟩ := hw'; replace hw'' : _ = grew _ osq nq := hw''; subst hw''))
          go_upto_region 7 with fail
          go_region
          go_wp2
          ((refine wp_region_ext_lit (by kernel_rfl) (by kernel_rfl) ?_); (repeat (go_big_quiet_step (fail))); (refine wpQuiet_nil ?_; intro _ hw'; obtain ⟨⟨osq, nq⟩, hw''⟩ := hw'; replace hw'' : _ = grew _ osq nq := hw''; subst hw''))
          go_wp2
          go_end0
          refine ⟨rfl, ?_⟩
          rw [HS.out]
          (try simp only [wlM, hq, Int.reduceAdd])
          exact EX
        · have e2 : (l.b != f.a / 65536) = false := by rw [hq] at ht2; simpa [brName] using ht2
          clear hLM ht ht2
          go_enter Tryd.func56, Tryd.ntmps56
          go_wp2
          ((refine wp_region_ext_lit (by kernel_rfl) (by kernel_rfl) ?_); (repeat (go_big_quiet_step (fail))); (refine wpQuiet_nil ?_; intro _ hw'; obtain ⟨⟨osq, nq⟩, hw''⟩ := hw'; replace hw'' : _ = grew _ osq nq := hw''; subst hw''))
          go_upto_region 7 with fail
          go_region
          go_wp2
          ((refine wp_region_ext_lit (by kernel_rfl) (by kernel_rfl) ?_); (repeat (go_big_quiet_step (fail))); (refine wpQuiet_nil ?_; intro _ hw'; obtain ⟨⟨osq, nq⟩, hw''⟩ := hw'; replace hw'' : _ = grew _ osq nq := hw''; subst hw''))
          go_wp2
          go_end0
          refine ⟨rfl, ?_⟩
          rw [HS.out]
          (try simp only [wlM, hq, Int.reduceAdd])
          exact EX
        · have e2 : (l.b != f.b) = false := by rw [hq] at ht2; simpa [brName] using ht2
          clear hLM ht ht2
          go_enter Tryd.func56, Tryd.ntmps56
          go_wp2
          ((refine wp_region_ext_lit (by kernel_rfl) (by kernel_rfl) ?_); (repeat (go_big_quiet_step (fail))); (refine wpQuiet_nil ?_; intro _ hw'; obtain ⟨⟨osq, nq⟩, hw''⟩ := hw'; replace hw'' : _ = grew _ osq nq := hw''; subst hw''))
          go_upto_region 7 with fail
          go_region
          go_wp2
          ((refine wp_region_ext_lit (by kernel_rfl) (by kernel_rfl) ?_); (repeat (go_big_quiet_step (fail))); (refine wpQuiet_nil ?_; intro _ hw'; obtain ⟨⟨osq, nq⟩, hw''⟩ := hw'; replace hw'' : _ = grew _ osq nq := hw''; subst hw''))
          go_wp2
          go_end0
          refine ⟨rfl, ?_⟩
          rw [HS.out]
          (try simp only [wlM, hq, Int.reduceAdd])
          exact EX
    · skip
      have HS : Hid (brFoundC c f l = (Frm.mk f.kind f.a f.b 4 f.i f.p f.n (f.i + 1) (f.h + 1) X f.y)) := Lib.hid (by simp only [brFoundC, brFound, HLM.out, HX.out, if_neg hm, k12, if_true])
      rcases hq with hq | hq | hq
      · have e2 : (l.b != f.a % 65536) = false := by rw [hq] at ht2; simpa [brName] using ht2
        clear hLM ht ht2
        go_enter Tryd.func56, Tryd.ntmps56
        go_wp2
        ((refine wp_region_ext_lit (by kernel_rfl) (by kernel_rfl) ?_); (repeat (go_big_quiet_step (fail))); (refine wpQuiet_nil ?_; intro _ hw'; obtain ⟨⟨osq, nq⟩, hw''⟩ := hw'; replace hw'' : _ = grew _ osq nq := hw''; subst hw''))
        go_upto_region 7 with fail
        go_region
        go_wp2
        ((refine wp_region_ext_lit (by kernel_rfl) (by kernel_rfl) ?_); (repeat (go_big_quiet_step (fail))); (refine wpQuiet_nil ?_; intro _ hw'; obtain ⟨⟨osq, nq⟩, hw''⟩ := hw'; replace hw'' : _ = grew _ osq nq := hw''; subst hw''))
        go_wp2
        go_end0
        refine ⟨rfl, ?_⟩
        rw [HS.out]
        (try simp only [wlM, hq, Int.reduceAdd])
        exact EX
      · have e2 : (l.b != f.a / 65536) = false := by rw [hq] at ht2; simpa [brName] using ht2
        clear hLM ht ht2
        go_enter Tryd.func56, Tryd.ntmps56
        go_wp2
        ((refine wp_region_ext_lit (by kernel_rfl) (by kernel_rfl) ?_); (repeat (go_big_quiet_step (fail))); (refine wpQuiet_nil ?_; intro _ hw'; obtain ⟨⟨osq, nq⟩, hw''⟩ := hw'; replace hw'' : _ = grew _ osq nq := hw''; subst hw''))
        go_upto_region 7 with fail
        go_region
        go_wp2
        ((refine wp_region_ext_lit (by kernel_rfl) (by kernel_rfl) ?_); (repeat (go_big_quiet_step (fail))); (refine wpQuiet_nil ?_; intro _ hw'; obtain ⟨⟨osq, nq⟩, hw''⟩ := hw'; replace hw'' : _ = grew _ osq nq := hw''; subst hw''))
        go_wp2
        go_end0
        refine ⟨rfl, ?_⟩
        rw [HS.out]
        (try simp only [wlM, hq, Int.reduceAdd])
        exact EX
      · have e2 : (l.b != f.b) = false := by rw [hq] at ht2; simpa [brName] using ht2
        clear hLM ht ht2
        go_enter Tryd.func56, Tryd.ntmps56
        go_wp2
        ((refine wp_region_ext_lit (by kernel_rfl) (by kernel_rfl) ?_); (repeat (go_big_quiet_step (fail))); (refine wpQuiet_nil ?_; intro _ hw'; obtain ⟨⟨osq, nq⟩, hw''⟩ := hw'; replace hw'' : _ = grew _ osq nq := hw''; subst hw''))
        go_upto_region 7 with fail
        go_region
        go_wp2
        ((refine wp_region_ext_lit (by kernel_rfl) (by kernel_rfl) ?_); (repeat (go_big_quiet_step (fail))); (refine wpQuiet_nil ?_; intro _ hw'; obtain ⟨⟨osq, nq⟩, hw''⟩ := hw'; replace hw'' : _ = grew _ osq nq := hw''; subst hw''))
        go_wp2
        go_end0
        refine ⟨rfl, ?_⟩
        rw [HS.out]
        (try simp only [wlM, hq, Int.reduceAdd])
        exact EX
end Go.Proofs.YtmbodooikfmegaaDoor
