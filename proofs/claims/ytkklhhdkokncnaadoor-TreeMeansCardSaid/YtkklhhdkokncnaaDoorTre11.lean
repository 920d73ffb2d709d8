/- The walk of 'after', the layer 'tree', case by case. -/
import Derived.Test.YtkklhhdkokncnaaDoorGk
namespace Go.Proofs.YtkklhhdkokncnaaDoor
open Go Go.RowKit
set_option maxRecDepth 100000
set_option maxHeartbeats 8000000

theorem treAfter_3 (c : Cfg) (s : Value) (hok : TreOk c) (f : Frm) (rk rv : Int) (rt : Bool) (l : Cel) (hl : l.Fits) (hf : f.Fits) (hnum : treNum c f = true) (_hi : f.pc = 1 ∨ f.pc = 14 → f.i ≤ 32) (_h15 : f.pc = 15 → 1 ≤ f.n) (hp : f.pc = 3) (V w : World) (ht : Tab V) (hsw : ∀ (o : Obj) (W' : World), Ext (swp o V w) W' → Sl W' s (lvC c) (lvL c)) (hw : Ext (V.alloc (.cells (trA c s (⟨f, rk, rv, rt⟩)) 84)) w) : Calls Tryd.prog 34 #[.pointer (some ⟨V.heap.size, 0, none⟩), l.v] w (fun e w' => e = .returned (.tuple #[]) ∧ Ext (swp (.cells (trA c s (tAfter c ⟨f, rk, rv, rt⟩ l)) 84) V w) w') := by
  obtain ⟨os, d, rfl⟩ := hw
  rw [swp_a]
  simp only [swp_a] at hsw
  have HSW := Lib.hid hsw
  have HT := Lib.hid ht
  have HF := Lib.hid hf
  have HLF := Lib.hid hl
  obtain ⟨m1, m2, m3, m4, m5, m6, m7, m8⟩ := treNum_facts hnum
  have htop := topI_bd c.cap c.node
  change 0 ≤ treTop c ∧ treTop c ≤ 4 at htop
  have hcap := hok.cap
  have hchunk := hok.chunk
  have HFO := Lib.hid (over_fits hf l f.p hf.p)
  obtain ⟨⟨k0, k1⟩, ⟨a0, a1⟩, ⟨b0, b1⟩, ⟨p0, p1⟩, ⟨i0, i1⟩, ⟨j0, j1⟩, ⟨n0, n1⟩, ⟨q0, q1⟩, ⟨h0, h1⟩, ⟨x0, x1⟩, ⟨y0, y1⟩⟩ := hf
  obtain ⟨⟨t0, t1⟩, ⟨la0, la1⟩, ⟨lb0, lb1⟩, ⟨lc0, lc1⟩⟩ := hl
  obtain ⟨T, hT⟩ : ∃ T, treTop c = T := ⟨_, rfl⟩
  have HTOP := Lib.hid hT
  rw [hT] at m4 htop
  have hp' : (f.pc == 3) = true := by simpa using hp
  have HB : Hid (tAfter c ⟨f, rk, rv, rt⟩ l = ⟨{ f with x := l.a % 4294967296, y := l.b % 4294967296, pc := 20 }, l.a % 4294967296, l.b % 4294967296, true⟩) := Lib.hid (by simp [tAfter, treOver, hp])
  clear ht hsw hnum hp _hi _h15 m5 m6 m7 m8 hT
  go_enter Tryd.func34, Tryd.ntmps34
  go_wp2_with (first | (go_at_call 67; refine (treTake_any c s ⟨f, rk, rv, rt⟩ l V _ EXX).mono ?_; rintro e w1 ⟨rfl, os1, n1, rfl⟩; ((try rw [swp_drew]); (try rw [swp_c]); (try rw [swp_b]); (try rw [swp_a]); (try unfold tTell); (try unfold tTake); (try unfold treOver); (try dsimp only))) | (go_at_call 71; refine (treTell_any c s ⟨{ f with x := l.a % 4294967296, y := l.b % 4294967296 }, rk, rv, rt⟩ HFO.out V _ EXX).mono ?_; rintro e w1 ⟨rfl, os2, n2, rfl⟩; ((try rw [swp_drew]); (try rw [swp_c]); (try rw [swp_b]); (try rw [swp_a]); (try unfold tTell); (try unfold tTake); (try unfold treOver); (try dsimp only))))
  (first | (go_end0; refine ⟨rfl, ?_⟩; rw [HB.out]; exact EXX) | (refine bodyPost_ret (results_none rfl _ _ _) rfl ⟨rfl, ?_⟩; rw [HB.out]; exact EXX))
theorem treAfter_4 (c : Cfg) (s : Value) (hok : TreOk c) (f : Frm) (rk rv : Int) (rt : Bool) (l : Cel) (hl : l.Fits) (hf : f.Fits) (hnum : treNum c f = true) (_hi : f.pc = 1 ∨ f.pc = 14 → f.i ≤ 32) (_h15 : f.pc = 15 → 1 ≤ f.n) (hp : f.pc = 4) (V w : World) (ht : Tab V) (hsw : ∀ (o : Obj) (W' : World), Ext (swp o V w) W' → Sl W' s (lvC c) (lvL c)) (hw : Ext (V.alloc (.cells (trA c s (⟨f, rk, rv, rt⟩)) 84)) w) : Calls Tryd.prog 34 #[.pointer (some ⟨V.heap.size, 0, none⟩), l.v] w (fun e w' => e = .returned (.tuple #[]) ∧ Ext (swp (.cells (trA c s (tAfter c ⟨f, rk, rv, rt⟩ l)) 84) V w) w') := by
  obtain ⟨os, d, rfl⟩ := hw
  rw [swp_a]
  simp only [swp_a] at hsw
  have HSW := Lib.hid hsw
  have HT := Lib.hid ht
  have HF := Lib.hid hf
  have HLF := Lib.hid hl
  obtain ⟨m1, m2, m3, m4, m5, m6, m7, m8⟩ := treNum_facts hnum
  have htop := topI_bd c.cap c.node
  change 0 ≤ treTop c ∧ treTop c ≤ 4 at htop
  have hcap := hok.cap
  have hchunk := hok.chunk
  have HFO := Lib.hid (over_fits hf l f.p hf.p)
  obtain ⟨⟨k0, k1⟩, ⟨a0, a1⟩, ⟨b0, b1⟩, ⟨p0, p1⟩, ⟨i0, i1⟩, ⟨j0, j1⟩, ⟨n0, n1⟩, ⟨q0, q1⟩, ⟨h0, h1⟩, ⟨x0, x1⟩, ⟨y0, y1⟩⟩ := hf
  obtain ⟨⟨t0, t1⟩, ⟨la0, la1⟩, ⟨lb0, lb1⟩, ⟨lc0, lc1⟩⟩ := hl
  obtain ⟨T, hT⟩ : ∃ T, treTop c = T := ⟨_, rfl⟩
  have HTOP := Lib.hid hT
  rw [hT] at m4 htop
  have hp' : (f.pc == 4) = true := by simpa using hp
  have HB : Hid (tAfter c ⟨f, rk, rv, rt⟩ l = ⟨{ f with pc := 23 }, rk, rv, rt⟩) := Lib.hid (by simp [tAfter, treBehind, hp])
  clear ht hsw hnum hp _hi _h15 m5 m6 m7 m8 hT
  go_enter Tryd.func34, Tryd.ntmps34
  go_wp2
  (first | (go_end0; refine ⟨rfl, ?_⟩; rw [HB.out]; exact EXX) | (refine bodyPost_ret (results_none rfl _ _ _) rfl ⟨rfl, ?_⟩; rw [HB.out]; exact EXX))
theorem treAfter_5 (c : Cfg) (s : Value) (hok : TreOk c) (f : Frm) (rk rv : Int) (rt : Bool) (l : Cel) (hl : l.Fits) (hf : f.Fits) (hnum : treNum c f = true) (_hi : f.pc = 1 ∨ f.pc = 14 → f.i ≤ 32) (_h15 : f.pc = 15 → 1 ≤ f.n) (hp : f.pc = 5) (V w : World) (ht : Tab V) (hsw : ∀ (o : Obj) (W' : World), Ext (swp o V w) W' → Sl W' s (lvC c) (lvL c)) (hw : Ext (V.alloc (.cells (trA c s (⟨f, rk, rv, rt⟩)) 84)) w) : Calls Tryd.prog 34 #[.pointer (some ⟨V.heap.size, 0, none⟩), l.v] w (fun e w' => e = .returned (.tuple #[]) ∧ Ext (swp (.cells (trA c s (tAfter c ⟨f, rk, rv, rt⟩ l)) 84) V w) w') := by
  obtain ⟨os, d, rfl⟩ := hw
  rw [swp_a]
  simp only [swp_a] at hsw
  have HSW := Lib.hid hsw
  have HT := Lib.hid ht
  have HF := Lib.hid hf
  have HLF := Lib.hid hl
  obtain ⟨m1, m2, m3, m4, m5, m6, m7, m8⟩ := treNum_facts hnum
  have htop := topI_bd c.cap c.node
  change 0 ≤ treTop c ∧ treTop c ≤ 4 at htop
  have hcap := hok.cap
  have hchunk := hok.chunk
  have HFO := Lib.hid (over_fits hf l f.p hf.p)
  obtain ⟨⟨k0, k1⟩, ⟨a0, a1⟩, ⟨b0, b1⟩, ⟨p0, p1⟩, ⟨i0, i1⟩, ⟨j0, j1⟩, ⟨n0, n1⟩, ⟨q0, q1⟩, ⟨h0, h1⟩, ⟨x0, x1⟩, ⟨y0, y1⟩⟩ := hf
  obtain ⟨⟨t0, t1⟩, ⟨la0, la1⟩, ⟨lb0, lb1⟩, ⟨lc0, lc1⟩⟩ := hl
  obtain ⟨T, hT⟩ : ∃ T, treTop c = T := ⟨_, rfl⟩
  have HTOP := Lib.hid hT
  rw [hT] at m4 htop
  have hp' : (f.pc == 5) = true := by simpa using hp
  have hwpc : IntKind.u8.wrap (f.pc + 1) = 6 := by rw [IntKind.wrap_u8, hp]; rfl
  have hwpd : (f.pc + 1) % 256 = 6 := by rw [hp]; rfl
  have HB : Hid (tAfter c ⟨f, rk, rv, rt⟩ l = ⟨{ f with x := l.a % 4294967296, y := l.b % 4294967296, pc := 6 }, rk, rv, rt⟩) := Lib.hid (by simp [tAfter, treBehind, treOver, hp])
  clear ht hsw hnum hp _hi _h15 m5 m6 m7 m8 hT
  go_enter Tryd.func34, Tryd.ntmps34
  go_wp2_with (go_at_call 67; refine (treTake_any c s ⟨f, rk, rv, rt⟩ l V _ EXX).mono ?_; rintro e w1 ⟨rfl, os1, n1, rfl⟩; ((try rw [swp_drew]); (try rw [swp_c]); (try rw [swp_b]); (try rw [swp_a]); (try unfold tTell); (try unfold tTake); (try unfold treOver); (try dsimp only)))
  (first | (go_end0; refine ⟨rfl, ?_⟩; rw [HB.out]; exact EXX) | (refine bodyPost_ret (results_none rfl _ _ _) rfl ⟨rfl, ?_⟩; rw [HB.out]; exact EXX))
theorem treAfter_13 (c : Cfg) (s : Value) (hok : TreOk c) (f : Frm) (rk rv : Int) (rt : Bool) (l : Cel) (hl : l.Fits) (hf : f.Fits) (hnum : treNum c f = true) (_hi : f.pc = 1 ∨ f.pc = 14 → f.i ≤ 32) (_h15 : f.pc = 15 → 1 ≤ f.n) (hp : f.pc = 13) (V w : World) (ht : Tab V) (hsw : ∀ (o : Obj) (W' : World), Ext (swp o V w) W' → Sl W' s (lvC c) (lvL c)) (hw : Ext (V.alloc (.cells (trA c s (⟨f, rk, rv, rt⟩)) 84)) w) : Calls Tryd.prog 34 #[.pointer (some ⟨V.heap.size, 0, none⟩), l.v] w (fun e w' => e = .returned (.tuple #[]) ∧ Ext (swp (.cells (trA c s (tAfter c ⟨f, rk, rv, rt⟩ l)) 84) V w) w') := by
  obtain ⟨os, d, rfl⟩ := hw
  rw [swp_a]
  simp only [swp_a] at hsw
  have HSW := Lib.hid hsw
  have HT := Lib.hid ht
  have HF := Lib.hid hf
  have HLF := Lib.hid hl
  obtain ⟨m1, m2, m3, m4, m5, m6, m7, m8⟩ := treNum_facts hnum
  have htop := topI_bd c.cap c.node
  change 0 ≤ treTop c ∧ treTop c ≤ 4 at htop
  have hcap := hok.cap
  have hchunk := hok.chunk
  have HFO := Lib.hid (over_fits hf l f.p hf.p)
  obtain ⟨⟨k0, k1⟩, ⟨a0, a1⟩, ⟨b0, b1⟩, ⟨p0, p1⟩, ⟨i0, i1⟩, ⟨j0, j1⟩, ⟨n0, n1⟩, ⟨q0, q1⟩, ⟨h0, h1⟩, ⟨x0, x1⟩, ⟨y0, y1⟩⟩ := hf
  obtain ⟨⟨t0, t1⟩, ⟨la0, la1⟩, ⟨lb0, lb1⟩, ⟨lc0, lc1⟩⟩ := hl
  obtain ⟨T, hT⟩ : ∃ T, treTop c = T := ⟨_, rfl⟩
  have HTOP := Lib.hid hT
  rw [hT] at m4 htop
  have hp' : (f.pc == 13) = true := by simpa using hp
  have hwpc : IntKind.u8.wrap (f.pc + 1) = 14 := by rw [IntKind.wrap_u8, hp]; rfl
  have hwpd : (f.pc + 1) % 256 = 14 := by rw [hp]; rfl
  have HB : Hid (tAfter c ⟨f, rk, rv, rt⟩ l = ⟨{ f with x := l.a % 4294967296, y := l.b % 4294967296, pc := 14 }, rk, rv, rt⟩) := Lib.hid (by simp [tAfter, treBehind, treOver, hp])
  clear ht hsw hnum hp _hi _h15 m5 m6 m7 m8 hT
  go_enter Tryd.func34, Tryd.ntmps34
  go_wp2_with (go_at_call 67; refine (treTake_any c s ⟨f, rk, rv, rt⟩ l V _ EXX).mono ?_; rintro e w1 ⟨rfl, os1, n1, rfl⟩; ((try rw [swp_drew]); (try rw [swp_c]); (try rw [swp_b]); (try rw [swp_a]); (try unfold tTell); (try unfold tTake); (try unfold treOver); (try dsimp only)))
  (first | (go_end0; refine ⟨rfl, ?_⟩; rw [HB.out]; exact EXX) | (refine bodyPost_ret (results_none rfl _ _ _) rfl ⟨rfl, ?_⟩; rw [HB.out]; exact EXX))
theorem treAfter_9 (c : Cfg) (s : Value) (hok : TreOk c) (f : Frm) (rk rv : Int) (rt : Bool) (l : Cel) (hl : l.Fits) (hf : f.Fits) (hnum : treNum c f = true) (_hi : f.pc = 1 ∨ f.pc = 14 → f.i ≤ 32) (_h15 : f.pc = 15 → 1 ≤ f.n) (hp : f.pc = 9) (V w : World) (ht : Tab V) (hsw : ∀ (o : Obj) (W' : World), Ext (swp o V w) W' → Sl W' s (lvC c) (lvL c)) (hw : Ext (V.alloc (.cells (trA c s (⟨f, rk, rv, rt⟩)) 84)) w) : Calls Tryd.prog 34 #[.pointer (some ⟨V.heap.size, 0, none⟩), l.v] w (fun e w' => e = .returned (.tuple #[]) ∧ Ext (swp (.cells (trA c s (tAfter c ⟨f, rk, rv, rt⟩ l)) 84) V w) w') := by
  obtain ⟨os, d, rfl⟩ := hw
  rw [swp_a]
  simp only [swp_a] at hsw
  have HSW := Lib.hid hsw
  have HT := Lib.hid ht
  have HF := Lib.hid hf
  have HLF := Lib.hid hl
  obtain ⟨m1, m2, m3, m4, m5, m6, m7, m8⟩ := treNum_facts hnum
  have htop := topI_bd c.cap c.node
  change 0 ≤ treTop c ∧ treTop c ≤ 4 at htop
  have hcap := hok.cap
  have hchunk := hok.chunk
  have HFO := Lib.hid (over_fits hf l f.p hf.p)
  obtain ⟨⟨k0, k1⟩, ⟨a0, a1⟩, ⟨b0, b1⟩, ⟨p0, p1⟩, ⟨i0, i1⟩, ⟨j0, j1⟩, ⟨n0, n1⟩, ⟨q0, q1⟩, ⟨h0, h1⟩, ⟨x0, x1⟩, ⟨y0, y1⟩⟩ := hf
  obtain ⟨⟨t0, t1⟩, ⟨la0, la1⟩, ⟨lb0, lb1⟩, ⟨lc0, lc1⟩⟩ := hl
  obtain ⟨T, hT⟩ : ∃ T, treTop c = T := ⟨_, rfl⟩
  have HTOP := Lib.hid hT
  rw [hT] at m4 htop
  have hp' : (f.pc == 9) = true := by simpa using hp
  have HB : Hid (tAfter c ⟨f, rk, rv, rt⟩ l = ⟨{ f with x := l.a % 4294967296, y := l.b % 4294967296, pc := 11 }, rk, rv, rt⟩) := Lib.hid (by simp [tAfter, treBehind, treOver, hp])
  clear ht hsw hnum hp _hi _h15 m5 m6 m7 m8 hT
  go_enter Tryd.func34, Tryd.ntmps34
  go_wp2_with (go_at_call 67; refine (treTake_any c s ⟨f, rk, rv, rt⟩ l V _ EXX).mono ?_; rintro e w1 ⟨rfl, os1, n1, rfl⟩; ((try rw [swp_drew]); (try rw [swp_c]); (try rw [swp_b]); (try rw [swp_a]); (try unfold tTell); (try unfold tTake); (try unfold treOver); (try dsimp only)))
  (first | (go_end0; refine ⟨rfl, ?_⟩; rw [HB.out]; exact EXX) | (refine bodyPost_ret (results_none rfl _ _ _) rfl ⟨rfl, ?_⟩; rw [HB.out]; exact EXX))
theorem treAfter_7 (c : Cfg) (s : Value) (hok : TreOk c) (f : Frm) (rk rv : Int) (rt : Bool) (l : Cel) (hl : l.Fits) (hf : f.Fits) (hnum : treNum c f = true) (_hi : f.pc = 1 ∨ f.pc = 14 → f.i ≤ 32) (_h15 : f.pc = 15 → 1 ≤ f.n) (hp : f.pc = 7) (V w : World) (ht : Tab V) (hsw : ∀ (o : Obj) (W' : World), Ext (swp o V w) W' → Sl W' s (lvC c) (lvL c)) (hw : Ext (V.alloc (.cells (trA c s (⟨f, rk, rv, rt⟩)) 84)) w) : Calls Tryd.prog 34 #[.pointer (some ⟨V.heap.size, 0, none⟩), l.v] w (fun e w' => e = .returned (.tuple #[]) ∧ Ext (swp (.cells (trA c s (tAfter c ⟨f, rk, rv, rt⟩ l)) 84) V w) w') := by
  obtain ⟨os, d, rfl⟩ := hw
  rw [swp_a]
  simp only [swp_a] at hsw
  have HSW := Lib.hid hsw
  have HT := Lib.hid ht
  have HF := Lib.hid hf
  have HLF := Lib.hid hl
  obtain ⟨m1, m2, m3, m4, m5, m6, m7, m8⟩ := treNum_facts hnum
  have htop := topI_bd c.cap c.node
  change 0 ≤ treTop c ∧ treTop c ≤ 4 at htop
  have hcap := hok.cap
  have hchunk := hok.chunk
  have HFO := Lib.hid (over_fits hf l f.p hf.p)
  obtain ⟨⟨k0, k1⟩, ⟨a0, a1⟩, ⟨b0, b1⟩, ⟨p0, p1⟩, ⟨i0, i1⟩, ⟨j0, j1⟩, ⟨n0, n1⟩, ⟨q0, q1⟩, ⟨h0, h1⟩, ⟨x0, x1⟩, ⟨y0, y1⟩⟩ := hf
  obtain ⟨⟨t0, t1⟩, ⟨la0, la1⟩, ⟨lb0, lb1⟩, ⟨lc0, lc1⟩⟩ := hl
  obtain ⟨T, hT⟩ : ∃ T, treTop c = T := ⟨_, rfl⟩
  have HTOP := Lib.hid hT
  rw [hT] at m4 htop
  have hp' : (f.pc == 7) = true := by simpa using hp
  have hw1 : IntKind.u8.wrap (f.n + 1) = f.n + 1 := by rw [IntKind.wrap_u8]; omega
  have hw2 : (f.n + 1) % 256 = f.n + 1 := by omega
  have HB : Hid (tAfter c ⟨f, rk, rv, rt⟩ l = ⟨{ f with n := f.n + 1, pc := 8 }, rk, rv, rt⟩) := Lib.hid (by simp [tAfter, treBehind, hp])
  clear ht hsw hnum hp _hi _h15 m5 m6 m7 m8 hT
  go_enter Tryd.func34, Tryd.ntmps34
  go_wp2
  (first | (go_end0; refine ⟨rfl, ?_⟩; rw [HB.out]; exact EXX) | (refine bodyPost_ret (results_none rfl _ _ _) rfl ⟨rfl, ?_⟩; rw [HB.out]; exact EXX))
end Go.Proofs.YtkklhhdkokncnaaDoor
