/- The walk of 'after', the layer 'tree', case by case. -/
import Derived.Test.YtkklhhdkokncnaaDoorGk
namespace Go.Proofs.YtkklhhdkokncnaaDoor
open Go Go.RowKit
set_option maxRecDepth 100000
set_option maxHeartbeats 8000000

theorem treAfter_20 (c : Cfg) (s : Value) (hok : TreOk c) (f : Frm) (rk rv : Int) (rt : Bool) (l : Cel) (hl : l.Fits) (hf : f.Fits) (hnum : treNum c f = true) (_hi : f.pc = 1 ∨ f.pc = 14 → f.i ≤ 32) (_h15 : f.pc = 15 → 1 ≤ f.n) (hp : f.pc = 20) (V w : World) (ht : Tab V) (hsw : ∀ (o : Obj) (W' : World), Ext (swp o V w) W' → Sl W' s (lvC c) (lvL c)) (hw : Ext (V.alloc (.cells (trA c s (⟨f, rk, rv, rt⟩)) 84)) w) : Calls Tryd.prog 34 #[.pointer (some ⟨V.heap.size, 0, none⟩), l.v] w (fun e w' => e = .returned (.tuple #[]) ∧ Ext (swp (.cells (trA c s (tAfter c ⟨f, rk, rv, rt⟩ l)) 84) V w) w') := by
  obtain ⟨os, d, rfl⟩ := hw
  rw [swp_a]
  simp only [swp_a] at hsw
  have HSW := Lib.hid hsw
  have HT := Lib.hid ht
  have HF := Lib.hid hf
  have HLF := Lib.hid hl
  obtain ⟨m1, m2, m3, m4, m5, m6, m7, m8⟩ := treNum_facts hnum
  have htop := topI_bd c.cap c.node
  change 0 ≤ treTop c ∧ treTop c ≤ 4 at htop
  have hcap := hok.cap
  have hchunk := hok.chunk
  have HFO := Lib.hid (over_fits hf l f.p hf.p)
  obtain ⟨⟨k0, k1⟩, ⟨a0, a1⟩, ⟨b0, b1⟩, ⟨p0, p1⟩, ⟨i0, i1⟩, ⟨j0, j1⟩, ⟨n0, n1⟩, ⟨q0, q1⟩, ⟨h0, h1⟩, ⟨x0, x1⟩, ⟨y0, y1⟩⟩ := hf
  obtain ⟨⟨t0, t1⟩, ⟨la0, la1⟩, ⟨lb0, lb1⟩, ⟨lc0, lc1⟩⟩ := hl
  obtain ⟨T, hT⟩ : ∃ T, treTop c = T := ⟨_, rfl⟩
  have HTOP := Lib.hid hT
  rw [hT] at m4 htop
  have hp' : (f.pc == 20) = true := by simpa using hp
  have HB : Hid (tAfter c ⟨f, rk, rv, rt⟩ l = ⟨f, rk, rv, rt⟩) := Lib.hid (by simp [tAfter, treBehind, hp])
  clear ht hsw hnum hp _hi _h15 m5 m6 m7 m8 hT
  go_enter Tryd.func34, Tryd.ntmps34
  go_wp2
  (first | (go_end0; refine ⟨rfl, ?_⟩; rw [HB.out]; exact EXX) | (refine bodyPost_ret (results_none rfl _ _ _) rfl ⟨rfl, ?_⟩; rw [HB.out]; exact EXX))
theorem treAfter_21 (c : Cfg) (s : Value) (hok : TreOk c) (f : Frm) (rk rv : Int) (rt : Bool) (l : Cel) (hl : l.Fits) (hf : f.Fits) (hnum : treNum c f = true) (_hi : f.pc = 1 ∨ f.pc = 14 → f.i ≤ 32) (_h15 : f.pc = 15 → 1 ≤ f.n) (hp : f.pc = 21) (V w : World) (ht : Tab V) (hsw : ∀ (o : Obj) (W' : World), Ext (swp o V w) W' → Sl W' s (lvC c) (lvL c)) (hw : Ext (V.alloc (.cells (trA c s (⟨f, rk, rv, rt⟩)) 84)) w) : Calls Tryd.prog 34 #[.pointer (some ⟨V.heap.size, 0, none⟩), l.v] w (fun e w' => e = .returned (.tuple #[]) ∧ Ext (swp (.cells (trA c s (tAfter c ⟨f, rk, rv, rt⟩ l)) 84) V w) w') := by
  obtain ⟨os, d, rfl⟩ := hw
  rw [swp_a]
  simp only [swp_a] at hsw
  have HSW := Lib.hid hsw
  have HT := Lib.hid ht
  have HF := Lib.hid hf
  have HLF := Lib.hid hl
  obtain ⟨m1, m2, m3, m4, m5, m6, m7, m8⟩ := treNum_facts hnum
  have htop := topI_bd c.cap c.node
  change 0 ≤ treTop c ∧ treTop c ≤ 4 at htop
  have hcap := hok.cap
  have hchunk := hok.chunk
  have HFO := Lib.hid (over_fits hf l f.p hf.p)
  obtain ⟨⟨k0, k1⟩, ⟨a0, a1⟩, ⟨b0, b1⟩, ⟨p0, p1⟩, ⟨i0, i1⟩, ⟨j0, j1⟩, ⟨n0, n1⟩, ⟨q0, q1⟩, ⟨h0, h1⟩, ⟨x0, x1⟩, ⟨y0, y1⟩⟩ := hf
  obtain ⟨⟨t0, t1⟩, ⟨la0, la1⟩, ⟨lb0, lb1⟩, ⟨lc0, lc1⟩⟩ := hl
  obtain ⟨T, hT⟩ : ∃ T, treTop c = T := ⟨_, rfl⟩
  have HTOP := Lib.hid hT
  rw [hT] at m4 htop
  have hp' : (f.pc == 21) = true := by simpa using hp
  have HB : Hid (tAfter c ⟨f, rk, rv, rt⟩ l = ⟨f, rk, rv, rt⟩) := Lib.hid (by simp [tAfter, treBehind, hp])
  clear ht hsw hnum hp _hi _h15 m5 m6 m7 m8 hT
  go_enter Tryd.func34, Tryd.ntmps34
  go_wp2
  (first | (go_end0; refine ⟨rfl, ?_⟩; rw [HB.out]; exact EXX) | (refine bodyPost_ret (results_none rfl _ _ _) rfl ⟨rfl, ?_⟩; rw [HB.out]; exact EXX))
theorem treAfter_22 (c : Cfg) (s : Value) (hok : TreOk c) (f : Frm) (rk rv : Int) (rt : Bool) (l : Cel) (hl : l.Fits) (hf : f.Fits) (hnum : treNum c f = true) (_hi : f.pc = 1 ∨ f.pc = 14 → f.i ≤ 32) (_h15 : f.pc = 15 → 1 ≤ f.n) (hp : f.pc = 22) (V w : World) (ht : Tab V) (hsw : ∀ (o : Obj) (W' : World), Ext (swp o V w) W' → Sl W' s (lvC c) (lvL c)) (hw : Ext (V.alloc (.cells (trA c s (⟨f, rk, rv, rt⟩)) 84)) w) : Calls Tryd.prog 34 #[.pointer (some ⟨V.heap.size, 0, none⟩), l.v] w (fun e w' => e = .returned (.tuple #[]) ∧ Ext (swp (.cells (trA c s (tAfter c ⟨f, rk, rv, rt⟩ l)) 84) V w) w') := by
  obtain ⟨os, d, rfl⟩ := hw
  rw [swp_a]
  simp only [swp_a] at hsw
  have HSW := Lib.hid hsw
  have HT := Lib.hid ht
  have HF := Lib.hid hf
  have HLF := Lib.hid hl
  obtain ⟨m1, m2, m3, m4, m5, m6, m7, m8⟩ := treNum_facts hnum
  have htop := topI_bd c.cap c.node
  change 0 ≤ treTop c ∧ treTop c ≤ 4 at htop
  have hcap := hok.cap
  have hchunk := hok.chunk
  have HFO := Lib.hid (over_fits hf l f.p hf.p)
  obtain ⟨⟨k0, k1⟩, ⟨a0, a1⟩, ⟨b0, b1⟩, ⟨p0, p1⟩, ⟨i0, i1⟩, ⟨j0, j1⟩, ⟨n0, n1⟩, ⟨q0, q1⟩, ⟨h0, h1⟩, ⟨x0, x1⟩, ⟨y0, y1⟩⟩ := hf
  obtain ⟨⟨t0, t1⟩, ⟨la0, la1⟩, ⟨lb0, lb1⟩, ⟨lc0, lc1⟩⟩ := hl
  obtain ⟨T, hT⟩ : ∃ T, treTop c = T := ⟨_, rfl⟩
  have HTOP := Lib.hid hT
  rw [hT] at m4 htop
  have hp' : (f.pc == 22) = true := by simpa using hp
  have HB : Hid (tAfter c ⟨f, rk, rv, rt⟩ l = ⟨f, rk, rv, rt⟩) := Lib.hid (by simp [tAfter, treBehind, hp])
  clear ht hsw hnum hp _hi _h15 m5 m6 m7 m8 hT
  go_enter Tryd.func34, Tryd.ntmps34
  go_wp2
  (first | (go_end0; refine ⟨rfl, ?_⟩; rw [HB.out]; exact EXX) | (refine bodyPost_ret (results_none rfl _ _ _) rfl ⟨rfl, ?_⟩; rw [HB.out]; exact EXX))
theorem treAfter_23 (c : Cfg) (s : Value) (hok : TreOk c) (f : Frm) (rk rv : Int) (rt : Bool) (l : Cel) (hl : l.Fits) (hf : f.Fits) (hnum : treNum c f = true) (_hi : f.pc = 1 ∨ f.pc = 14 → f.i ≤ 32) (_h15 : f.pc = 15 → 1 ≤ f.n) (hp : f.pc = 23) (V w : World) (ht : Tab V) (hsw : ∀ (o : Obj) (W' : World), Ext (swp o V w) W' → Sl W' s (lvC c) (lvL c)) (hw : Ext (V.alloc (.cells (trA c s (⟨f, rk, rv, rt⟩)) 84)) w) : Calls Tryd.prog 34 #[.pointer (some ⟨V.heap.size, 0, none⟩), l.v] w (fun e w' => e = .returned (.tuple #[]) ∧ Ext (swp (.cells (trA c s (tAfter c ⟨f, rk, rv, rt⟩ l)) 84) V w) w') := by
  obtain ⟨os, d, rfl⟩ := hw
  rw [swp_a]
  simp only [swp_a] at hsw
  have HSW := Lib.hid hsw
  have HT := Lib.hid ht
  have HF := Lib.hid hf
  have HLF := Lib.hid hl
  obtain ⟨m1, m2, m3, m4, m5, m6, m7, m8⟩ := treNum_facts hnum
  have htop := topI_bd c.cap c.node
  change 0 ≤ treTop c ∧ treTop c ≤ 4 at htop
  have hcap := hok.cap
  have hchunk := hok.chunk
  have HFO := Lib.hid (over_fits hf l f.p hf.p)
  obtain ⟨⟨k0, k1⟩, ⟨a0, a1⟩, ⟨b0, b1⟩, ⟨p0, p1⟩, ⟨i0, i1⟩, ⟨j0, j1⟩, ⟨n0, n1⟩, ⟨q0, q1⟩, ⟨h0, h1⟩, ⟨x0, x1⟩, ⟨y0, y1⟩⟩ := hf
  obtain ⟨⟨t0, t1⟩, ⟨la0, la1⟩, ⟨lb0, lb1⟩, ⟨lc0, lc1⟩⟩ := hl
  obtain ⟨T, hT⟩ : ∃ T, treTop c = T := ⟨_, rfl⟩
  have HTOP := Lib.hid hT
  rw [hT] at m4 htop
  have hp' : (f.pc == 23) = true := by simpa using hp
  have HB : Hid (tAfter c ⟨f, rk, rv, rt⟩ l = ⟨f, rk, rv, rt⟩) := Lib.hid (by simp [tAfter, treBehind, hp])
  clear ht hsw hnum hp _hi _h15 m5 m6 m7 m8 hT
  go_enter Tryd.func34, Tryd.ntmps34
  go_wp2
  (first | (go_end0; refine ⟨rfl, ?_⟩; rw [HB.out]; exact EXX) | (refine bodyPost_ret (results_none rfl _ _ _) rfl ⟨rfl, ?_⟩; rw [HB.out]; exact EXX))
theorem treAfter_24 (c : Cfg) (s : Value) (hok : TreOk c) (f : Frm) (rk rv : Int) (rt : Bool) (l : Cel) (hl : l.Fits) (hf : f.Fits) (hnum : treNum c f = true) (_hi : f.pc = 1 ∨ f.pc = 14 → f.i ≤ 32) (_h15 : f.pc = 15 → 1 ≤ f.n) (hp : f.pc = 24) (V w : World) (ht : Tab V) (hsw : ∀ (o : Obj) (W' : World), Ext (swp o V w) W' → Sl W' s (lvC c) (lvL c)) (hw : Ext (V.alloc (.cells (trA c s (⟨f, rk, rv, rt⟩)) 84)) w) : Calls Tryd.prog 34 #[.pointer (some ⟨V.heap.size, 0, none⟩), l.v] w (fun e w' => e = .returned (.tuple #[]) ∧ Ext (swp (.cells (trA c s (tAfter c ⟨f, rk, rv, rt⟩ l)) 84) V w) w') := by
  obtain ⟨os, d, rfl⟩ := hw
  rw [swp_a]
  simp only [swp_a] at hsw
  have HSW := Lib.hid hsw
  have HT := Lib.hid ht
  have HF := Lib.hid hf
  have HLF := Lib.hid hl
  obtain ⟨m1, m2, m3, m4, m5, m6, m7, m8⟩ := treNum_facts hnum
  have htop := topI_bd c.cap c.node
  change 0 ≤ treTop c ∧ treTop c ≤ 4 at htop
  have hcap := hok.cap
  have hchunk := hok.chunk
  have HFO := Lib.hid (over_fits hf l f.p hf.p)
  obtain ⟨⟨k0, k1⟩, ⟨a0, a1⟩, ⟨b0, b1⟩, ⟨p0, p1⟩, ⟨i0, i1⟩, ⟨j0, j1⟩, ⟨n0, n1⟩, ⟨q0, q1⟩, ⟨h0, h1⟩, ⟨x0, x1⟩, ⟨y0, y1⟩⟩ := hf
  obtain ⟨⟨t0, t1⟩, ⟨la0, la1⟩, ⟨lb0, lb1⟩, ⟨lc0, lc1⟩⟩ := hl
  obtain ⟨T, hT⟩ : ∃ T, treTop c = T := ⟨_, rfl⟩
  have HTOP := Lib.hid hT
  rw [hT] at m4 htop
  have hp' : (f.pc == 24) = true := by simpa using hp
  have HB : Hid (tAfter c ⟨f, rk, rv, rt⟩ l = ⟨f, rk, rv, rt⟩) := Lib.hid (by simp [tAfter, treBehind, hp])
  clear ht hsw hnum hp _hi _h15 m5 m6 m7 m8 hT
  go_enter Tryd.func34, Tryd.ntmps34
  go_wp2
  (first | (go_end0; refine ⟨rfl, ?_⟩; rw [HB.out]; exact EXX) | (refine bodyPost_ret (results_none rfl _ _ _) rfl ⟨rfl, ?_⟩; rw [HB.out]; exact EXX))
theorem treAfter_25 (c : Cfg) (s : Value) (hok : TreOk c) (f : Frm) (rk rv : Int) (rt : Bool) (l : Cel) (hl : l.Fits) (hf : f.Fits) (hnum : treNum c f = true) (_hi : f.pc = 1 ∨ f.pc = 14 → f.i ≤ 32) (_h15 : f.pc = 15 → 1 ≤ f.n) (hp : f.pc = 25) (V w : World) (ht : Tab V) (hsw : ∀ (o : Obj) (W' : World), Ext (swp o V w) W' → Sl W' s (lvC c) (lvL c)) (hw : Ext (V.alloc (.cells (trA c s (⟨f, rk, rv, rt⟩)) 84)) w) : Calls Tryd.prog 34 #[.pointer (some ⟨V.heap.size, 0, none⟩), l.v] w (fun e w' => e = .returned (.tuple #[]) ∧ Ext (swp (.cells (trA c s (tAfter c ⟨f, rk, rv, rt⟩ l)) 84) V w) w') := by
  obtain ⟨os, d, rfl⟩ := hw
  rw [swp_a]
  simp only [swp_a] at hsw
  have HSW := Lib.hid hsw
  have HT := Lib.hid ht
  have HF := Lib.hid hf
  have HLF := Lib.hid hl
  obtain ⟨m1, m2, m3, m4, m5, m6, m7, m8⟩ := treNum_facts hnum
  have htop := topI_bd c.cap c.node
  change 0 ≤ treTop c ∧ treTop c ≤ 4 at htop
  have hcap := hok.cap
  have hchunk := hok.chunk
  have HFO := Lib.hid (over_fits hf l f.p hf.p)
  obtain ⟨⟨k0, k1⟩, ⟨a0, a1⟩, ⟨b0, b1⟩, ⟨p0, p1⟩, ⟨i0, i1⟩, ⟨j0, j1⟩, ⟨n0, n1⟩, ⟨q0, q1⟩, ⟨h0, h1⟩, ⟨x0, x1⟩, ⟨y0, y1⟩⟩ := hf
  obtain ⟨⟨t0, t1⟩, ⟨la0, la1⟩, ⟨lb0, lb1⟩, ⟨lc0, lc1⟩⟩ := hl
  obtain ⟨T, hT⟩ : ∃ T, treTop c = T := ⟨_, rfl⟩
  have HTOP := Lib.hid hT
  rw [hT] at m4 htop
  have hp' : (f.pc == 25) = true := by simpa using hp
  have HB : Hid (tAfter c ⟨f, rk, rv, rt⟩ l = ⟨f, rk, rv, rt⟩) := Lib.hid (by simp [tAfter, treBehind, hp])
  clear ht hsw hnum hp _hi _h15 m5 m6 m7 m8 hT
  go_enter Tryd.func34, Tryd.ntmps34
  go_wp2
  (first | (go_end0; refine ⟨rfl, ?_⟩; rw [HB.out]; exact EXX) | (refine bodyPost_ret (results_none rfl _ _ _) rfl ⟨rfl, ?_⟩; rw [HB.out]; exact EXX))
theorem treAfter_17 (c : Cfg) (s : Value) (hok : TreOk c) (f : Frm) (rk rv : Int) (rt : Bool) (l : Cel) (hl : l.Fits) (hf : f.Fits) (hnum : treNum c f = true) (_hi : f.pc = 1 ∨ f.pc = 14 → f.i ≤ 32) (_h15 : f.pc = 15 → 1 ≤ f.n) (hp : f.pc = 17) (V w : World) (ht : Tab V) (hsw : ∀ (o : Obj) (W' : World), Ext (swp o V w) W' → Sl W' s (lvC c) (lvL c)) (hw : Ext (V.alloc (.cells (trA c s (⟨f, rk, rv, rt⟩)) 84)) w) : Calls Tryd.prog 34 #[.pointer (some ⟨V.heap.size, 0, none⟩), l.v] w (fun e w' => e = .returned (.tuple #[]) ∧ Ext (swp (.cells (trA c s (tAfter c ⟨f, rk, rv, rt⟩ l)) 84) V w) w') := by
  obtain ⟨os, d, rfl⟩ := hw
  rw [swp_a]
  simp only [swp_a] at hsw
  have HSW := Lib.hid hsw
  have HT := Lib.hid ht
  have HF := Lib.hid hf
  have HLF := Lib.hid hl
  obtain ⟨m1, m2, m3, m4, m5, m6, m7, m8⟩ := treNum_facts hnum
  have htop := topI_bd c.cap c.node
  change 0 ≤ treTop c ∧ treTop c ≤ 4 at htop
  have hcap := hok.cap
  have hchunk := hok.chunk
  have HFO := Lib.hid (over_fits hf l f.p hf.p)
  obtain ⟨⟨k0, k1⟩, ⟨a0, a1⟩, ⟨b0, b1⟩, ⟨p0, p1⟩, ⟨i0, i1⟩, ⟨j0, j1⟩, ⟨n0, n1⟩, ⟨q0, q1⟩, ⟨h0, h1⟩, ⟨x0, x1⟩, ⟨y0, y1⟩⟩ := hf
  obtain ⟨⟨t0, t1⟩, ⟨la0, la1⟩, ⟨lb0, lb1⟩, ⟨lc0, lc1⟩⟩ := hl
  obtain ⟨T, hT⟩ : ∃ T, treTop c = T := ⟨_, rfl⟩
  have HTOP := Lib.hid hT
  rw [hT] at m4 htop
  have hp' : (f.pc == 17) = true := by simpa using hp
  have HB : Hid (tAfter c ⟨f, rk, rv, rt⟩ l = tScan c ⟨{ f with x := l.a % 4294967296, y := l.b % 4294967296 }, rk, rv, rt⟩) := Lib.hid (by simp [tAfter, treOver, hp])
  clear ht hsw hnum hp _hi _h15 m5 m6 m7 m8 hT
  go_enter Tryd.func34, Tryd.ntmps34
  go_wp2_with (first | (go_at_call 67; refine (treTake_any c s ⟨f, rk, rv, rt⟩ l V _ EXX).mono ?_; rintro e w1 ⟨rfl, os1, n1, rfl⟩; ((try rw [swp_drew]); (try rw [swp_c]); (try rw [swp_b]); (try rw [swp_a]); (try unfold tTell); (try unfold tTake); (try unfold treOver); (try dsimp only))) | (go_at_call 75; refine (treScan_any c s ⟨{ f with x := l.a % 4294967296, y := l.b % 4294967296 }, rk, rv, rt⟩ HFO.out (by dsimp only; omega) (by dsimp only; omega) (by dsimp only; omega) V _ EXX).mono ?_; rintro e w1 ⟨rfl, os2, n2, rfl⟩; ((try rw [swp_drew]); (try rw [swp_c]); (try rw [swp_b]); (try rw [swp_a]); (try unfold tTell); (try unfold tTake); (try unfold treOver); (try dsimp only))))
  (first | (go_end0; refine ⟨rfl, ?_⟩; rw [HB.out]; exact EXX) | (refine bodyPost_ret (results_none rfl _ _ _) rfl ⟨rfl, ?_⟩; rw [HB.out]; exact EXX))
theorem treAfter_1 (c : Cfg) (s : Value) (hok : TreOk c) (f : Frm) (rk rv : Int) (rt : Bool) (l : Cel) (hl : l.Fits) (hf : f.Fits) (hnum : treNum c f = true) (hi : f.pc = 1 ∨ f.pc = 14 → f.i ≤ 32) (_h15 : f.pc = 15 → 1 ≤ f.n) (hp : f.pc = 1) (V w : World) (ht : Tab V) (hsw : ∀ (o : Obj) (W' : World), Ext (swp o V w) W' → Sl W' s (lvC c) (lvL c)) (hw : Ext (V.alloc (.cells (trA c s (⟨f, rk, rv, rt⟩)) 84)) w) : Calls Tryd.prog 34 #[.pointer (some ⟨V.heap.size, 0, none⟩), l.v] w (fun e w' => e = .returned (.tuple #[]) ∧ Ext (swp (.cells (trA c s (tAfter c ⟨f, rk, rv, rt⟩ l)) 84) V w) w') := by
  obtain ⟨os, d, rfl⟩ := hw
  rw [swp_a]
  simp only [swp_a] at hsw
  have HSW := Lib.hid hsw
  have HT := Lib.hid ht
  have HF := Lib.hid hf
  have HLF := Lib.hid hl
  obtain ⟨m1, m2, m3, m4, m5, m6, m7, m8⟩ := treNum_facts hnum
  have htop := topI_bd c.cap c.node
  change 0 ≤ treTop c ∧ treTop c ≤ 4 at htop
  have hcap := hok.cap
  have hchunk := hok.chunk
  have HFO := Lib.hid (over_fits hf l f.p hf.p)
  obtain ⟨⟨k0, k1⟩, ⟨a0, a1⟩, ⟨b0, b1⟩, ⟨p0, p1⟩, ⟨i0, i1⟩, ⟨j0, j1⟩, ⟨n0, n1⟩, ⟨q0, q1⟩, ⟨h0, h1⟩, ⟨x0, x1⟩, ⟨y0, y1⟩⟩ := hf
  obtain ⟨⟨t0, t1⟩, ⟨la0, la1⟩, ⟨lb0, lb1⟩, ⟨lc0, lc1⟩⟩ := hl
  obtain ⟨T, hT⟩ : ∃ T, treTop c = T := ⟨_, rfl⟩
  have HTOP := Lib.hid hT
  rw [hT] at m4 htop
  have hp' : (f.pc == 1) = true := by simpa using hp
  have hi3 := hi (Or.inl hp)
  have HB : Hid (tAfter c ⟨f, rk, rv, rt⟩ l = tItem c ⟨f, rk, rv, rt⟩ l) := Lib.hid (by simp [tAfter, hp])
  clear ht hsw hnum hp hi _h15 m5 m6 m7 m8 hT
  go_enter Tryd.func34, Tryd.ntmps34
  go_wp2_with (go_at_call 70; refine (treDown_any c s hok ⟨f, rk, rv, rt⟩ l HLF.out HF.out (by dsimp only; omega) (by dsimp only; omega) (by dsimp only; omega) (by dsimp only; omega) V _ HT.out EXX).mono ?_; rintro e w1 ⟨rfl, os2, n2, rfl⟩; ((try rw [swp_drew]); (try rw [swp_c]); (try rw [swp_b]); (try rw [swp_a]); (try unfold tTell); (try unfold tTake); (try unfold treOver); (try dsimp only)))
  (first | (go_end0; refine ⟨rfl, ?_⟩; rw [HB.out]; exact EXX) | (refine bodyPost_ret (results_none rfl _ _ _) rfl ⟨rfl, ?_⟩; rw [HB.out]; exact EXX))
theorem treAfter_16 (c : Cfg) (s : Value) (hok : TreOk c) (f : Frm) (rk rv : Int) (rt : Bool) (l : Cel) (hl : l.Fits) (hf : f.Fits) (hnum : treNum c f = true) (_hi : f.pc = 1 ∨ f.pc = 14 → f.i ≤ 32) (_h15 : f.pc = 15 → 1 ≤ f.n) (hp : f.pc = 16) (V w : World) (ht : Tab V) (hsw : ∀ (o : Obj) (W' : World), Ext (swp o V w) W' → Sl W' s (lvC c) (lvL c)) (hw : Ext (V.alloc (.cells (trA c s (⟨f, rk, rv, rt⟩)) 84)) w) : Calls Tryd.prog 34 #[.pointer (some ⟨V.heap.size, 0, none⟩), l.v] w (fun e w' => e = .returned (.tuple #[]) ∧ Ext (swp (.cells (trA c s (tAfter c ⟨f, rk, rv, rt⟩ l)) 84) V w) w') := by
  obtain ⟨os, d, rfl⟩ := hw
  rw [swp_a]
  simp only [swp_a] at hsw
  have HSW := Lib.hid hsw
  have HT := Lib.hid ht
  have HF := Lib.hid hf
  have HLF := Lib.hid hl
  obtain ⟨m1, m2, m3, m4, m5, m6, m7, m8⟩ := treNum_facts hnum
  have htop := topI_bd c.cap c.node
  change 0 ≤ treTop c ∧ treTop c ≤ 4 at htop
  have hcap := hok.cap
  have hchunk := hok.chunk
  have HFO := Lib.hid (over_fits hf l f.p hf.p)
  obtain ⟨⟨k0, k1⟩, ⟨a0, a1⟩, ⟨b0, b1⟩, ⟨p0, p1⟩, ⟨i0, i1⟩, ⟨j0, j1⟩, ⟨n0, n1⟩, ⟨q0, q1⟩, ⟨h0, h1⟩, ⟨x0, x1⟩, ⟨y0, y1⟩⟩ := hf
  obtain ⟨⟨t0, t1⟩, ⟨la0, la1⟩, ⟨lb0, lb1⟩, ⟨lc0, lc1⟩⟩ := hl
  obtain ⟨T, hT⟩ : ∃ T, treTop c = T := ⟨_, rfl⟩
  have HTOP := Lib.hid hT
  rw [hT] at m4 htop
  have hp' : (f.pc == 16) = true := by simpa using hp
  have hw0 := m1
  have HB : Hid (tAfter c ⟨f, rk, rv, rt⟩ l = tNext ⟨{ f with j := 0 }, rk, rv, rt⟩) := Lib.hid (by simp [tAfter, treBehind, tNext, hp])
  clear ht hsw hnum hp _hi _h15 m5 m6 m7 m8 hT
  go_enter Tryd.func34, Tryd.ntmps34
  go_wp2_with (go_at_call 74; refine (treNext1_any c s ⟨{ f with j := 0 }, rk, rv, rt⟩ ⟨q0, by dsimp only; omega⟩ ⟨n0, by dsimp only; omega⟩ V _ EXX).mono ?_; rintro e w1 ⟨rfl, os2, n2, rfl⟩; ((try rw [swp_drew]); (try rw [swp_c]); (try rw [swp_b]); (try rw [swp_a]); (try unfold tTell); (try unfold tTake); (try unfold treOver); (try dsimp only)))
  (first | (go_end0; refine ⟨rfl, ?_⟩; rw [HB.out]; exact EXX) | (refine bodyPost_ret (results_none rfl _ _ _) rfl ⟨rfl, ?_⟩; rw [HB.out]; exact EXX))
end Go.Proofs.YtkklhhdkokncnaaDoor
