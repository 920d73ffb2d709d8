/- The walks of 'missed', 'more', 'packed', 'alone'. -/
import Derived.Test.YtmbodooikfmegaaDoorBr2
import Derived.BigRegion
import Derived.Outline
import Derived.Laws.EntriesVeiled
namespace Go.Proofs.YtmbodooikfmegaaDoor
open Go Go.RowKit
set_option maxRecDepth 100000
set_option maxHeartbeats 8000000

/-- A walk's cells, the number of its names under a name of its own. -/
abbrev wlM (c : Cfg) (f : Frm) (M : Int) : Array Value := #[.int .u8 f.kind, .int .u32 f.a, .int .u32 f.b, .int .u8 f.pc, .int .u8 f.i, .int .u8 f.j, .int .u8 f.n, .int .u8 f.p, .int .u8 f.h, .int .u32 f.x, .int .u32 f.y, .int .i64 c.cap, .int .u32 (f.a % 65536), .int .u32 (f.a / 65536), .int .u32 f.b, .int .i64 M]
def brMiss (f : Frm) (M : Int) : Frm := if f.kind == 12 then (if f.n < M - f.h then { f with pc := 22 } else { f with pc := 2 }) else { f with pc := 21 }

theorem brMissed_any (c : Cfg) (f : Frm) (hf : f.Fits) (M : Int) (hM : 0 ≤ M ∧ M ≤ 3) (V w : World) (hw : Ext (V.alloc (.cells (wlM c (f) M) 79)) w) : Calls Tryd.prog 77 #[.pointer (some ⟨V.heap.size, 0, none⟩)] w
    fun e w' => e = .returned (.tuple #[]) ∧ Ext (V.alloc (.cells (wlM c (brMiss f M) M) 79)) w' := by
  obtain ⟨os, d, rfl⟩ := hw
  obtain ⟨⟨k0, k1⟩, ⟨a0, a1⟩, ⟨b0, b1⟩, ⟨p0, p1⟩, ⟨i0, i1⟩, ⟨j0, j1⟩, ⟨m0, m1⟩, ⟨q0, q1⟩, ⟨h0, h1⟩, ⟨x0, x1⟩, ⟨y0, y1⟩⟩ := hf
  obtain ⟨M0, M1⟩ := hM
  cases hk : (f.kind == 12)
  · have HS : Hid (brMiss f M = { f with pc := 21 }) := Lib.hid (by simp [brMiss, hk])
    have hk' : (f.kind != 12) = true := by simpa using hk
    go_enter Tryd.func77, Tryd.ntmps77
    go_wp2
    (go_end0; refine ⟨rfl, ?_⟩)
    rw [HS.out]
    exact EX
  · cases hn : decide (f.n < M - f.h)
    · have HS : Hid (brMiss f M = { f with pc := 2 }) := Lib.hid (by simp at hn; simp [brMiss, hk]; omega)
      have hk' : (f.kind != 12) = false := by simpa using hk
      go_enter Tryd.func77, Tryd.ntmps77
      go_wp2
      (refine wp_region_ext_lit (by kernel_rfl) (by kernel_rfl) ?_); (repeat (go_big_quiet_step (fail))); (refine wpQuiet_nil ?_; intro _ hw'; obtain ⟨⟨osq, nq⟩, hw''⟩ := hw'; replace hw'' : _ = grew _ osq nq := hw''; subst hw'')
      go_wp2
      (go_end0; refine ⟨rfl, ?_⟩)
      rw [HS.out]
      exact EX
    · have HS : Hid (brMiss f M = { f with pc := 22 }) := Lib.hid (by simp at hn; simp [brMiss, hk]; omega)
      have hk' : (f.kind != 12) = false := by simpa using hk
      go_enter Tryd.func77, Tryd.ntmps77
      go_wp2
      (refine wp_region_ext_lit (by kernel_rfl) (by kernel_rfl) ?_); (repeat (go_big_quiet_step (fail))); (refine wpQuiet_nil ?_; intro _ hw'; obtain ⟨⟨osq, nq⟩, hw''⟩ := hw'; replace hw'' : _ = grew _ osq nq := hw''; subst hw'')
      go_wp2
      (go_end0; refine ⟨rfl, ?_⟩)
      rw [HS.out]
      exact EX

theorem brPacked_any (c : Cfg) (f : Frm) (M : Int) (V w : World) (hw : Ext (V.alloc (.cells (wlM c (f) M) 79)) w) : Calls Tryd.prog 58 #[.pointer (some ⟨V.heap.size, 0, none⟩)] w
    fun e w' => e = .returned (.tuple #[]) ∧ Ext (V.alloc (.cells (wlM c ({ f with pc := 22 }) M) 79)) w' := by
  obtain ⟨os, d, rfl⟩ := hw
  go_enter Tryd.func58, Tryd.ntmps58
  go_wp2
  (go_end0; refine ⟨rfl, ?_⟩)
  exact EX
theorem brAlone_any (c : Cfg) (f : Frm) (M : Int) (V w : World) (hw : Ext (V.alloc (.cells (wlM c (f) M) 79)) w) : Calls Tryd.prog 59 #[.pointer (some ⟨V.heap.size, 0, none⟩)] w
    fun e w' => e = .returned (.tuple #[]) ∧ Ext (V.alloc (.cells (wlM c ({ f with pc := 6 }) M) 79)) w' := by
  obtain ⟨os, d, rfl⟩ := hw
  go_enter Tryd.func59, Tryd.ntmps59
  go_wp2
  (go_end0; refine ⟨rfl, ?_⟩)
  exact EX

theorem brMore_on (g : Nat) (c : Cfg) (f : Frm) (hf : f.Fits) (hc : c.cap ≤ 32) (hi : f.i + 1 < c.cap) (M : Int) (V w : World) (hw : Ext (V.alloc (.cells (wlM c (f) M) 79)) w) : Calls Tryd.prog 57 #[.pointer (some ⟨V.heap.size, 0, none⟩), .func (.func g) #[.pointer (some ⟨V.heap.size, 0, none⟩)] #[]] w
    fun e w' => e = .returned (.tuple #[]) ∧ Ext (V.alloc (.cells (wlM c ({ f with i := f.i + 1 }) M) 79)) w' := by
  obtain ⟨os, d, rfl⟩ := hw
  obtain ⟨_, _, _, _, ⟨i0, i1⟩, _, _, _, _, _, _⟩ := hf
  have h1 : decide (c.cap ≤ f.i + 1) = false := by simp; omega
  go_enter Tryd.func57, Tryd.ntmps57
  go_wp2
  (refine wp_region_ext_lit (by kernel_rfl) (by kernel_rfl) ?_); (repeat (go_big_quiet_step (fail))); (refine wpQuiet_nil ?_; intro _ hw'; obtain ⟨⟨osq, nq⟩, hw''⟩ := hw'; replace hw'' : _ = grew _ osq nq := hw''; subst hw'')
  go_wp2
  (go_end0; refine ⟨rfl, ?_⟩)
  exact EX
theorem brMore_missed (c : Cfg) (f : Frm) (hf : f.Fits) (hi : c.cap ≤ f.i + 1) (M : Int) (hM : 0 ≤ M ∧ M ≤ 3) (V w : World) (hw : Ext (V.alloc (.cells (wlM c (f) M) 79)) w) : Calls Tryd.prog 57 #[.pointer (some ⟨V.heap.size, 0, none⟩), (.func (.func 77) #[.pointer (some ⟨V.heap.size, 0, none⟩)] #[])] w
    fun e w' => e = .returned (.tuple #[]) ∧ Ext (V.alloc (.cells (wlM c (brMiss f M) M) 79)) w' := by
  obtain ⟨os, d, rfl⟩ := hw
  have HF := Lib.hid hf
  obtain ⟨_, _, _, _, ⟨i0, i1⟩, _, _, _, _, _, _⟩ := hf
  have h1 : decide (c.cap ≤ f.i + 1) = true := by simp; omega
  go_enter Tryd.func57, Tryd.ntmps57
  go_wp2
  (refine wp_region_ext_lit (by kernel_rfl) (by kernel_rfl) ?_); (repeat (go_big_quiet_step (fail))); (refine wpQuiet_nil ?_; intro _ hw'; obtain ⟨⟨osq, nq⟩, hw''⟩ := hw'; replace hw'' : _ = grew _ osq nq := hw''; subst hw'')
  go_wp2_with (go_at_call 77; refine (brMissed_any c f HF.out M hM V _ EX).mono ?_; rintro e w1 ⟨rfl, os1, n1, rfl⟩)
  refine bodyPost_ret (results_none rfl _ _ _) rfl ⟨rfl, ?_⟩
  exact EX
theorem brMore_packed (c : Cfg) (f : Frm) (hf : f.Fits) (hi : c.cap ≤ f.i + 1) (M : Int) (_hM : 0 ≤ M ∧ M ≤ 3) (V w : World) (hw : Ext (V.alloc (.cells (wlM c (f) M) 79)) w) : Calls Tryd.prog 57 #[.pointer (some ⟨V.heap.size, 0, none⟩), (.func (.func 58) #[.pointer (some ⟨V.heap.size, 0, none⟩)] #[])] w
    fun e w' => e = .returned (.tuple #[]) ∧ Ext (V.alloc (.cells (wlM c ({ f with pc := 22 }) M) 79)) w' := by
  obtain ⟨os, d, rfl⟩ := hw
  have HF := Lib.hid hf
  obtain ⟨_, _, _, _, ⟨i0, i1⟩, _, _, _, _, _, _⟩ := hf
  have h1 : decide (c.cap ≤ f.i + 1) = true := by simp; omega
  go_enter Tryd.func57, Tryd.ntmps57
  go_wp2
  (refine wp_region_ext_lit (by kernel_rfl) (by kernel_rfl) ?_); (repeat (go_big_quiet_step (fail))); (refine wpQuiet_nil ?_; intro _ hw'; obtain ⟨⟨osq, nq⟩, hw''⟩ := hw'; replace hw'' : _ = grew _ osq nq := hw''; subst hw'')
  go_wp2_with (go_at_call 58; refine (brPacked_any c f M V _ EX).mono ?_; rintro e w1 ⟨rfl, os1, n1, rfl⟩)
  refine bodyPost_ret (results_none rfl _ _ _) rfl ⟨rfl, ?_⟩
  exact EX
theorem brMore_alone (c : Cfg) (f : Frm) (hf : f.Fits) (hi : c.cap ≤ f.i + 1) (M : Int) (_hM : 0 ≤ M ∧ M ≤ 3) (V w : World) (hw : Ext (V.alloc (.cells (wlM c (f) M) 79)) w) : Calls Tryd.prog 57 #[.pointer (some ⟨V.heap.size, 0, none⟩), (.func (.func 59) #[.pointer (some ⟨V.heap.size, 0, none⟩)] #[])] w
    fun e w' => e = .returned (.tuple #[]) ∧ Ext (V.alloc (.cells (wlM c ({ f with pc := 6 }) M) 79)) w' := by
  obtain ⟨os, d, rfl⟩ := hw
  have HF := Lib.hid hf
  obtain ⟨_, _, _, _, ⟨i0, i1⟩, _, _, _, _, _, _⟩ := hf
  have h1 : decide (c.cap ≤ f.i + 1) = true := by simp; omega
  go_enter Tryd.func57, Tryd.ntmps57
  go_wp2
  (refine wp_region_ext_lit (by kernel_rfl) (by kernel_rfl) ?_); (repeat (go_big_quiet_step (fail))); (refine wpQuiet_nil ?_; intro _ hw'; obtain ⟨⟨osq, nq⟩, hw''⟩ := hw'; replace hw'' : _ = grew _ osq nq := hw''; subst hw'')
  go_wp2_with (go_at_call 59; refine (brAlone_any c f M V _ EX).mono ?_; rintro e w1 ⟨rfl, os1, n1, rfl⟩)
  refine bodyPost_ret (results_none rfl _ _ _) rfl ⟨rfl, ?_⟩
  exact EX
end Go.Proofs.YtmbodooikfmegaaDoor
