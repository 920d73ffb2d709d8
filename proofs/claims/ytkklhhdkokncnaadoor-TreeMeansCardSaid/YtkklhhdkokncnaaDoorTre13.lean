/- The walk of 'after', the layer 'tree', case by case. -/
import Derived.Test.YtkklhhdkokncnaaDoorGk
namespace Go.Proofs.YtkklhhdkokncnaaDoor
open Go Go.RowKit
set_option maxRecDepth 100000
set_option maxHeartbeats 8000000

theorem treAfter_6 (c : Cfg) (s : Value) (hok : TreOk c) (f : Frm) (rk rv : Int) (rt : Bool) (l : Cel) (hl : l.Fits) (hf : f.Fits) (hnum : treNum c f = true) (_hi : f.pc = 1 ∨ f.pc = 14 → f.i ≤ 32) (_h15 : f.pc = 15 → 1 ≤ f.n) (hp : f.pc = 6) (V w : World) (ht : Tab V) (hsw : ∀ (o : Obj) (W' : World), Ext (swp o V w) W' → Sl W' s (lvC c) (lvL c)) (hw : Ext (V.alloc (.cells (trA c s (⟨f, rk, rv, rt⟩)) 84)) w) : Calls Tryd.prog 34 #[.pointer (some ⟨V.heap.size, 0, none⟩), l.v] w (fun e w' => e = .returned (.tuple #[]) ∧ Ext (swp (.cells (trA c s (tAfter c ⟨f, rk, rv, rt⟩ l)) 84) V w) w') := by
  obtain ⟨os, d, rfl⟩ := hw
  rw [swp_a]
  simp only [swp_a] at hsw
  have HSW := Lib.hid hsw
  have HT := Lib.hid ht
  have HF := Lib.hid hf
  have HLF := Lib.hid hl
  obtain ⟨m1, m2, m3, m4, m5, m6, m7, m8⟩ := treNum_facts hnum
  have htop := topI_bd c.cap c.node
  change 0 ≤ treTop c ∧ treTop c ≤ 4 at htop
  have hcap := hok.cap
  have hchunk := hok.chunk
  have HFO := Lib.hid (over_fits hf l f.p hf.p)
  obtain ⟨⟨k0, k1⟩, ⟨a0, a1⟩, ⟨b0, b1⟩, ⟨p0, p1⟩, ⟨i0, i1⟩, ⟨j0, j1⟩, ⟨n0, n1⟩, ⟨q0, q1⟩, ⟨h0, h1⟩, ⟨x0, x1⟩, ⟨y0, y1⟩⟩ := hf
  obtain ⟨⟨t0, t1⟩, ⟨la0, la1⟩, ⟨lb0, lb1⟩, ⟨lc0, lc1⟩⟩ := hl
  obtain ⟨T, hT⟩ : ∃ T, treTop c = T := ⟨_, rfl⟩
  have HTOP := Lib.hid hT
  rw [hT] at m4 htop
  have hp' : (f.pc == 6) = true := by simpa using hp
  have hi3 := m5 hp
  have hw1 : IntKind.u8.wrap (f.i - 1) = f.i - 1 := by rw [IntKind.wrap_u8]; omega
  have hw2 : (f.i - 1) % 256 = f.i - 1 := by omega
  cases zz : decide (f.i - 1 ≤ f.p)
  · have HB : Hid (tAfter c ⟨f, rk, rv, rt⟩ l = ⟨{ f with i := f.i - 1, pc := 5 }, rk, rv, rt⟩) := Lib.hid (by
      have hz : ¬ f.i - 1 ≤ f.p := by simpa using zz
      simp only [tAfter, treBehind, hp, if_neg hz]
      rfl)
    clear ht hsw hnum hp _hi _h15 m5 m6 m7 m8 hT
    go_enter Tryd.func34, Tryd.ntmps34
    go_upto_region 26 with fail
    go_region_held3 (fun W => W.cell? ⟨V.heap.size, 4, none⟩ = some (.int .u8 (f.i - 1)) ∧ W.cell? ⟨V.heap.size, 7, none⟩ = some (.int .u8 (f.p))) ((refine ⟨?_, ?_⟩ <;> simp [go_sem])) (first | (go_at_call 72; refine (trePick_any false _ _ _).mono ?_; rintro e w1 ⟨rfl, rfl⟩))
    all_goals
      go_wp2
      (first | (go_end0; refine ⟨rfl, ?_⟩; rw [HB.out]; exact EXX) | (refine bodyPost_ret (results_none rfl _ _ _) rfl ⟨rfl, ?_⟩; rw [HB.out]; exact EXX))
  · have HB : Hid (tAfter c ⟨f, rk, rv, rt⟩ l = ⟨{ f with i := f.i - 1, pc := 7 }, rk, rv, rt⟩) := Lib.hid (by
      have hz : f.i - 1 ≤ f.p := by simpa using zz
      simp only [tAfter, treBehind, hp, if_pos hz]
      rfl)
    clear ht hsw hnum hp _hi _h15 m5 m6 m7 m8 hT
    go_enter Tryd.func34, Tryd.ntmps34
    go_upto_region 26 with fail
    go_region_held3 (fun W => W.cell? ⟨V.heap.size, 4, none⟩ = some (.int .u8 (f.i - 1)) ∧ W.cell? ⟨V.heap.size, 7, none⟩ = some (.int .u8 (f.p))) ((refine ⟨?_, ?_⟩ <;> simp [go_sem])) (first | (go_at_call 72; refine (trePick_any true _ _ _).mono ?_; rintro e w1 ⟨rfl, rfl⟩))
    all_goals
      go_wp2
      (first | (go_end0; refine ⟨rfl, ?_⟩; rw [HB.out]; exact EXX) | (refine bodyPost_ret (results_none rfl _ _ _) rfl ⟨rfl, ?_⟩; rw [HB.out]; exact EXX))
theorem treAfter_14 (c : Cfg) (s : Value) (hok : TreOk c) (f : Frm) (rk rv : Int) (rt : Bool) (l : Cel) (hl : l.Fits) (hf : f.Fits) (hnum : treNum c f = true) (hi : f.pc = 1 ∨ f.pc = 14 → f.i ≤ 32) (_h15 : f.pc = 15 → 1 ≤ f.n) (hp : f.pc = 14) (V w : World) (ht : Tab V) (hsw : ∀ (o : Obj) (W' : World), Ext (swp o V w) W' → Sl W' s (lvC c) (lvL c)) (hw : Ext (V.alloc (.cells (trA c s (⟨f, rk, rv, rt⟩)) 84)) w) : Calls Tryd.prog 34 #[.pointer (some ⟨V.heap.size, 0, none⟩), l.v] w (fun e w' => e = .returned (.tuple #[]) ∧ Ext (swp (.cells (trA c s (tAfter c ⟨f, rk, rv, rt⟩ l)) 84) V w) w') := by
  obtain ⟨os, d, rfl⟩ := hw
  rw [swp_a]
  simp only [swp_a] at hsw
  have HSW := Lib.hid hsw
  have HT := Lib.hid ht
  have HF := Lib.hid hf
  have HLF := Lib.hid hl
  obtain ⟨m1, m2, m3, m4, m5, m6, m7, m8⟩ := treNum_facts hnum
  have htop := topI_bd c.cap c.node
  change 0 ≤ treTop c ∧ treTop c ≤ 4 at htop
  have hcap := hok.cap
  have hchunk := hok.chunk
  have HFO := Lib.hid (over_fits hf l f.p hf.p)
  obtain ⟨⟨k0, k1⟩, ⟨a0, a1⟩, ⟨b0, b1⟩, ⟨p0, p1⟩, ⟨i0, i1⟩, ⟨j0, j1⟩, ⟨n0, n1⟩, ⟨q0, q1⟩, ⟨h0, h1⟩, ⟨x0, x1⟩, ⟨y0, y1⟩⟩ := hf
  obtain ⟨⟨t0, t1⟩, ⟨la0, la1⟩, ⟨lb0, lb1⟩, ⟨lc0, lc1⟩⟩ := hl
  obtain ⟨T, hT⟩ : ∃ T, treTop c = T := ⟨_, rfl⟩
  have HTOP := Lib.hid hT
  rw [hT] at m4 htop
  have hp' : (f.pc == 14) = true := by simpa using hp
  have hi3 := hi (Or.inr hp)
  have hw1 : IntKind.u8.wrap (f.i + 1) = f.i + 1 := by rw [IntKind.wrap_u8]; omega
  have hw2 : (f.i + 1) % 256 = f.i + 1 := by omega
  cases zz : decide (f.n ≤ f.i + 1)
  · have HB : Hid (tAfter c ⟨f, rk, rv, rt⟩ l = ⟨{ f with i := f.i + 1, pc := 13 }, rk, rv, rt⟩) := Lib.hid (by
      have hz : ¬ f.n ≤ f.i + 1 := by simpa using zz
      simp only [tAfter, treBehind, hp, if_neg hz]
      rfl)
    clear ht hsw hnum hp hi _h15 m5 m6 m7 m8 hT
    go_enter Tryd.func34, Tryd.ntmps34
    go_upto_region 43 with fail
    go_region_held3 (fun W => W.cell? ⟨V.heap.size, 4, none⟩ = some (.int .u8 (f.i + 1)) ∧ W.cell? ⟨V.heap.size, 6, none⟩ = some (.int .u8 (f.n))) ((refine ⟨?_, ?_⟩ <;> simp [go_sem])) (first | (go_at_call 72; refine (trePick_any false _ _ _).mono ?_; rintro e w1 ⟨rfl, rfl⟩))
    all_goals
      go_wp2
      (first | (go_end0; refine ⟨rfl, ?_⟩; rw [HB.out]; exact EXX) | (refine bodyPost_ret (results_none rfl _ _ _) rfl ⟨rfl, ?_⟩; rw [HB.out]; exact EXX))
  · have HB : Hid (tAfter c ⟨f, rk, rv, rt⟩ l = ⟨{ f with i := f.i + 1, pc := 15 }, rk, rv, rt⟩) := Lib.hid (by
      have hz : f.n ≤ f.i + 1 := by simpa using zz
      simp only [tAfter, treBehind, hp, if_pos hz]
      rfl)
    clear ht hsw hnum hp hi _h15 m5 m6 m7 m8 hT
    go_enter Tryd.func34, Tryd.ntmps34
    go_upto_region 43 with fail
    go_region_held3 (fun W => W.cell? ⟨V.heap.size, 4, none⟩ = some (.int .u8 (f.i + 1)) ∧ W.cell? ⟨V.heap.size, 6, none⟩ = some (.int .u8 (f.n))) ((refine ⟨?_, ?_⟩ <;> simp [go_sem])) (first | (go_at_call 72; refine (trePick_any true _ _ _).mono ?_; rintro e w1 ⟨rfl, rfl⟩))
    all_goals
      go_wp2
      (first | (go_end0; refine ⟨rfl, ?_⟩; rw [HB.out]; exact EXX) | (refine bodyPost_ret (results_none rfl _ _ _) rfl ⟨rfl, ?_⟩; rw [HB.out]; exact EXX))
theorem treAfter_15 (c : Cfg) (s : Value) (hok : TreOk c) (f : Frm) (rk rv : Int) (rt : Bool) (l : Cel) (hl : l.Fits) (hf : f.Fits) (hnum : treNum c f = true) (_hi : f.pc = 1 ∨ f.pc = 14 → f.i ≤ 32) (h15 : f.pc = 15 → 1 ≤ f.n) (hp : f.pc = 15) (V w : World) (ht : Tab V) (hsw : ∀ (o : Obj) (W' : World), Ext (swp o V w) W' → Sl W' s (lvC c) (lvL c)) (hw : Ext (V.alloc (.cells (trA c s (⟨f, rk, rv, rt⟩)) 84)) w) : Calls Tryd.prog 34 #[.pointer (some ⟨V.heap.size, 0, none⟩), l.v] w (fun e w' => e = .returned (.tuple #[]) ∧ Ext (swp (.cells (trA c s (tAfter c ⟨f, rk, rv, rt⟩ l)) 84) V w) w') := by
  obtain ⟨os, d, rfl⟩ := hw
  rw [swp_a]
  simp only [swp_a] at hsw
  have HSW := Lib.hid hsw
  have HT := Lib.hid ht
  have HF := Lib.hid hf
  have HLF := Lib.hid hl
  obtain ⟨m1, m2, m3, m4, m5, m6, m7, m8⟩ := treNum_facts hnum
  have htop := topI_bd c.cap c.node
  change 0 ≤ treTop c ∧ treTop c ≤ 4 at htop
  have hcap := hok.cap
  have hchunk := hok.chunk
  have HFO := Lib.hid (over_fits hf l f.p hf.p)
  obtain ⟨⟨k0, k1⟩, ⟨a0, a1⟩, ⟨b0, b1⟩, ⟨p0, p1⟩, ⟨i0, i1⟩, ⟨j0, j1⟩, ⟨n0, n1⟩, ⟨q0, q1⟩, ⟨h0, h1⟩, ⟨x0, x1⟩, ⟨y0, y1⟩⟩ := hf
  obtain ⟨⟨t0, t1⟩, ⟨la0, la1⟩, ⟨lb0, lb1⟩, ⟨lc0, lc1⟩⟩ := hl
  obtain ⟨T, hT⟩ : ∃ T, treTop c = T := ⟨_, rfl⟩
  have HTOP := Lib.hid hT
  rw [hT] at m4 htop
  have hp' : (f.pc == 15) = true := by simpa using hp
  have hn3 := h15 hp
  have hw1 : IntKind.u8.wrap (f.n - 1) = f.n - 1 := by rw [IntKind.wrap_u8]; omega
  have hw2 : (f.n - 1) % 256 = f.n - 1 := by omega
  have HB : Hid (tAfter c ⟨f, rk, rv, rt⟩ l = ⟨{ f with n := f.n - 1, pc := 8 }, rk, rv, rt⟩) := Lib.hid (by simp [tAfter, treBehind, hp])
  clear ht hsw hnum hp _hi h15 m5 m6 m7 m8 hT
  go_enter Tryd.func34, Tryd.ntmps34
  go_wp2
  (first | (go_end0; refine ⟨rfl, ?_⟩; rw [HB.out]; exact EXX) | (refine bodyPost_ret (results_none rfl _ _ _) rfl ⟨rfl, ?_⟩; rw [HB.out]; exact EXX))
theorem treAfter_0 (c : Cfg) (s : Value) (hok : TreOk c) (f : Frm) (rk rv : Int) (rt : Bool) (l : Cel) (hl : l.Fits) (hf : f.Fits) (hnum : treNum c f = true) (_hi : f.pc = 1 ∨ f.pc = 14 → f.i ≤ 32) (_h15 : f.pc = 15 → 1 ≤ f.n) (hp : f.pc = 0) (V w : World) (ht : Tab V) (hsw : ∀ (o : Obj) (W' : World), Ext (swp o V w) W' → Sl W' s (lvC c) (lvL c)) (hw : Ext (V.alloc (.cells (trA c s (⟨f, rk, rv, rt⟩)) 84)) w) : Calls Tryd.prog 34 #[.pointer (some ⟨V.heap.size, 0, none⟩), l.v] w (fun e w' => e = .returned (.tuple #[]) ∧ Ext (swp (.cells (trA c s (tAfter c ⟨f, rk, rv, rt⟩ l)) 84) V w) w') := by
  obtain ⟨os, d, rfl⟩ := hw
  rw [swp_a]
  simp only [swp_a] at hsw
  have HSW := Lib.hid hsw
  have HT := Lib.hid ht
  have HF := Lib.hid hf
  have HLF := Lib.hid hl
  obtain ⟨m1, m2, m3, m4, m5, m6, m7, m8⟩ := treNum_facts hnum
  have htop := topI_bd c.cap c.node
  change 0 ≤ treTop c ∧ treTop c ≤ 4 at htop
  have hcap := hok.cap
  have hchunk := hok.chunk
  have HFO := Lib.hid (over_fits hf l f.p hf.p)
  obtain ⟨⟨k0, k1⟩, ⟨a0, a1⟩, ⟨b0, b1⟩, ⟨p0, p1⟩, ⟨i0, i1⟩, ⟨j0, j1⟩, ⟨n0, n1⟩, ⟨q0, q1⟩, ⟨h0, h1⟩, ⟨x0, x1⟩, ⟨y0, y1⟩⟩ := hf
  obtain ⟨⟨t0, t1⟩, ⟨la0, la1⟩, ⟨lb0, lb1⟩, ⟨lc0, lc1⟩⟩ := hl
  obtain ⟨T, hT⟩ : ∃ T, treTop c = T := ⟨_, rfl⟩
  have HTOP := Lib.hid hT
  rw [hT] at m4 htop
  have hp' : (f.pc == 0) = true := by simpa using hp
  obtain ⟨M, hM⟩ : ∃ M, (if l.a < c.cap then l.a else c.cap) = M := ⟨_, rfl⟩
  have hM2 : 0 ≤ M ∧ M ≤ 32 := by rw [← hM]; split <;> omega
  have hmn : ∀ w : World, (Builtin.min_ #[22, 22] 22 #[.int .u64 l.a, .int .u64 c.cap]).run Tryd.prog w = .ok (.int .u64 M) w := fun w => by
    rw [run_min_int2, ← hM]
    congr 2
    split <;> split <;> omega
  have hw1 : IntKind.u64.wrap c.cap = c.cap := by rw [IntKind.wrap_u64]; omega
  have hw2 : IntKind.u8.wrap M = M := by rw [IntKind.wrap_u8]; omega
  have HMM := Lib.hid hM
  cases zz : (M == 0)
  · have HB : Hid (tAfter c ⟨f, rk, rv, rt⟩ l = ⟨{ f with n := M, h := T, i := 0, pc := 1 }, rk, rv, rt⟩) := Lib.hid (by simp only [tAfter, hp, hM, zz, hT]; rfl)
    clear hM
    clear ht hsw hnum hp _hi _h15 m5 m6 m7 m8 hT
    go_enter Tryd.func34, Tryd.ntmps34
    go_upto_region 10 with fail
    go_region
    all_goals
      go_wp2_with (go_at_call 69; refine (treTop_any c { f with n := M } s _ _ (by simp [tl, Holds, go_sem]) (HSW.out _ _ EXX)).mono ?_; rintro e w1 ⟨rfl, rfl⟩; rw [HTOP.out])
      (first | (go_end0; refine ⟨rfl, ?_⟩; rw [HB.out]; exact EXX) | (refine bodyPost_ret (results_none rfl _ _ _) rfl ⟨rfl, ?_⟩; rw [HB.out]; exact EXX))
  · have HB : Hid (tAfter c ⟨f, rk, rv, rt⟩ l = tNone c ⟨{ f with n := 0 }, rk, rv, rt⟩) := Lib.hid (by simp only [tAfter, hp, hM, zz]; rfl)
    have HFN : Hid (Frm.Fits { f with n := 0 }) := Lib.hid ⟨HF.out.kind, HF.out.a, HF.out.b, HF.out.pc, HF.out.i, HF.out.j, by simp, HF.out.p, HF.out.h, HF.out.x, HF.out.y⟩
    obtain rfl : M = 0 := by simpa using zz
    clear hM
    clear ht hsw hnum hp _hi _h15 m5 m6 m7 m8 hT
    go_enter Tryd.func34, Tryd.ntmps34
    go_upto_region 10 with fail
    go_region
    all_goals
      go_wp2_with (go_at_call 68; refine (treNone_any c s ⟨{ f with n := 0 }, rk, rv, rt⟩ HFN.out V _ EXX).mono ?_; rintro e w1 ⟨rfl, os2, n2, rfl⟩; ((try rw [swp_drew]); (try rw [swp_c]); (try rw [swp_b]); (try rw [swp_a]); (try unfold tTell); (try unfold tTake); (try unfold treOver); (try dsimp only)))
      (first | (go_end0; refine ⟨rfl, ?_⟩; rw [HB.out]; exact EXX) | (refine bodyPost_ret (results_none rfl _ _ _) rfl ⟨rfl, ?_⟩; rw [HB.out]; exact EXX))
end Go.Proofs.YtkklhhdkokncnaaDoor
