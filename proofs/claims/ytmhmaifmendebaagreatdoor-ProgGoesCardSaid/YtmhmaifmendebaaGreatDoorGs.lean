/- The walk of the reference's 'Behind', layer 'tree'. -/
import Derived.Test.YtmhmaifmendebaaGreatDoorGl
namespace Go.Proofs.YtmhmaifmendebaaGreatDoor.tree
open Go Go.RowKit
set_option maxRecDepth 100000
set_option maxHeartbeats 8000000

theorem behindR_3 (c : Cfg) (hc : TreOk c) (f : Frm) (hf : f.Fits) (hkd : f.kind = 4 ∨ f.kind = 5 ∨ f.kind = 6 ∨ f.kind = 7 ∨ f.kind = 8) (l : Cel) (hl : l.Fits) (hnum : treNum c f = true) (_hi : f.pc = 1 ∨ f.pc = 14 → f.i ≤ 32) (_h15 : f.pc = 15 → 1 ≤ f.n) (hp : f.pc = 3) (w : World) : Calls Tryz.prog 41 #[c.v, f.v, l.v] w
    fun e w' => e = .returned (tupFB (treBehind c f l)) ∧ Ext w w' := by
  have HF := Lib.hid hf
  have HL := Lib.hid hl
  have HKD := Lib.hid hkd
  obtain ⟨m1, m2, m3, m4, m5, m6, m7, m8⟩ := treNum_facts hnum
  have htop := topI_bd c.cap c.node
  change 0 ≤ treTop c ∧ treTop c ≤ 4 at htop
  have hcap := hc.cap
  have hchunk := hc.chunk
  obtain ⟨⟨k0, k1⟩, ⟨a0, a1⟩, ⟨b0, b1⟩, ⟨p0, p1⟩, ⟨i0, i1⟩, ⟨j0, j1⟩, ⟨n0, n1⟩, ⟨q0, q1⟩, ⟨h0, h1⟩, ⟨x0, x1⟩, ⟨y0, y1⟩⟩ := hf
  obtain ⟨⟨t0, t1⟩, ⟨la0, la1⟩, ⟨lb0, lb1⟩, ⟨lc0, lc1⟩⟩ := hl
  obtain ⟨T, hT⟩ : ∃ T, treTop c = T := ⟨_, rfl⟩
  have HTOP := Lib.hid hT
  rw [hT] at m4 htop
  have hp' : (f.pc == 3) = true := by simpa using hp
  have HS : Hid (treBehind c f l = ({ f with x := l.a % 4294967296, y := l.b % 4294967296, pc := 20 }, true)) := Lib.hid (by simp [treBehind, treOver, hp])
  clear hkd hnum hp _hi _h15 m5 m6 m7 m8 hT
  go_enter Tryz.func41, Tryz.ntmps41
  go_wp2_with (first | (go_at_call 81; refine (overR_any f l HL.out _).mono ?_; rintro e w1 ⟨rfl, os1, n1, rfl⟩; simp only [treOver]) | (go_at_call 79; refine (atR_any ({ f with x := l.a % 4294967296, y := l.b % 4294967296 }) _ _).mono ?_; rintro e w1 ⟨rfl, os1, n1, rfl⟩))
  all_goals (refine bodyPost_ret (v := tupFB (({ f with x := l.a % 4294967296, y := l.b % 4294967296, pc := 20 }, true))) (by simp [results, Tryz.results41, go_sem]) rfl ⟨by rw [HS.out], EXX⟩)
theorem behindR_4 (c : Cfg) (hc : TreOk c) (f : Frm) (hf : f.Fits) (hkd : f.kind = 4 ∨ f.kind = 5 ∨ f.kind = 6 ∨ f.kind = 7 ∨ f.kind = 8) (l : Cel) (hl : l.Fits) (hnum : treNum c f = true) (_hi : f.pc = 1 ∨ f.pc = 14 → f.i ≤ 32) (_h15 : f.pc = 15 → 1 ≤ f.n) (hp : f.pc = 4) (w : World) : Calls Tryz.prog 41 #[c.v, f.v, l.v] w
    fun e w' => e = .returned (tupFB (treBehind c f l)) ∧ Ext w w' := by
  have HF := Lib.hid hf
  have HL := Lib.hid hl
  have HKD := Lib.hid hkd
  obtain ⟨m1, m2, m3, m4, m5, m6, m7, m8⟩ := treNum_facts hnum
  have htop := topI_bd c.cap c.node
  change 0 ≤ treTop c ∧ treTop c ≤ 4 at htop
  have hcap := hc.cap
  have hchunk := hc.chunk
  obtain ⟨⟨k0, k1⟩, ⟨a0, a1⟩, ⟨b0, b1⟩, ⟨p0, p1⟩, ⟨i0, i1⟩, ⟨j0, j1⟩, ⟨n0, n1⟩, ⟨q0, q1⟩, ⟨h0, h1⟩, ⟨x0, x1⟩, ⟨y0, y1⟩⟩ := hf
  obtain ⟨⟨t0, t1⟩, ⟨la0, la1⟩, ⟨lb0, lb1⟩, ⟨lc0, lc1⟩⟩ := hl
  obtain ⟨T, hT⟩ : ∃ T, treTop c = T := ⟨_, rfl⟩
  have HTOP := Lib.hid hT
  rw [hT] at m4 htop
  have hp' : (f.pc == 4) = true := by simpa using hp
  have HS : Hid (treBehind c f l = ({ f with pc := 23 }, false)) := Lib.hid (by simp [treBehind, hp])
  clear hkd hnum hp _hi _h15 m5 m6 m7 m8 hT
  go_enter Tryz.func41, Tryz.ntmps41
  go_wp2_with (go_at_call 79; refine (atR_any (f) _ _).mono ?_; rintro e w1 ⟨rfl, os1, n1, rfl⟩)
  all_goals (refine bodyPost_ret (v := tupFB (({ f with pc := 23 }, false))) (by simp [results, Tryz.results41, go_sem]) rfl ⟨by rw [HS.out], EXX⟩)
theorem behindR_5 (c : Cfg) (hc : TreOk c) (f : Frm) (hf : f.Fits) (hkd : f.kind = 4 ∨ f.kind = 5 ∨ f.kind = 6 ∨ f.kind = 7 ∨ f.kind = 8) (l : Cel) (hl : l.Fits) (hnum : treNum c f = true) (_hi : f.pc = 1 ∨ f.pc = 14 → f.i ≤ 32) (_h15 : f.pc = 15 → 1 ≤ f.n) (hp : f.pc = 5) (w : World) : Calls Tryz.prog 41 #[c.v, f.v, l.v] w
    fun e w' => e = .returned (tupFB (treBehind c f l)) ∧ Ext w w' := by
  have HF := Lib.hid hf
  have HL := Lib.hid hl
  have HKD := Lib.hid hkd
  obtain ⟨m1, m2, m3, m4, m5, m6, m7, m8⟩ := treNum_facts hnum
  have htop := topI_bd c.cap c.node
  change 0 ≤ treTop c ∧ treTop c ≤ 4 at htop
  have hcap := hc.cap
  have hchunk := hc.chunk
  obtain ⟨⟨k0, k1⟩, ⟨a0, a1⟩, ⟨b0, b1⟩, ⟨p0, p1⟩, ⟨i0, i1⟩, ⟨j0, j1⟩, ⟨n0, n1⟩, ⟨q0, q1⟩, ⟨h0, h1⟩, ⟨x0, x1⟩, ⟨y0, y1⟩⟩ := hf
  obtain ⟨⟨t0, t1⟩, ⟨la0, la1⟩, ⟨lb0, lb1⟩, ⟨lc0, lc1⟩⟩ := hl
  obtain ⟨T, hT⟩ : ∃ T, treTop c = T := ⟨_, rfl⟩
  have HTOP := Lib.hid hT
  rw [hT] at m4 htop
  have hp' : (f.pc == 5) = true := by simpa using hp
  have HS : Hid (treBehind c f l = ({ f with x := l.a % 4294967296, y := l.b % 4294967296, pc := 6 }, false)) := Lib.hid (by simp [treBehind, treOver, hp])
  clear hkd hnum hp _hi _h15 m5 m6 m7 m8 hT
  go_enter Tryz.func41, Tryz.ntmps41
  go_wp2_with (first | (go_at_call 81; refine (overR_any f l HL.out _).mono ?_; rintro e w1 ⟨rfl, os1, n1, rfl⟩; simp only [treOver]) | (go_at_call 79; refine (atR_any ({ f with x := l.a % 4294967296, y := l.b % 4294967296 }) _ _).mono ?_; rintro e w1 ⟨rfl, os1, n1, rfl⟩))
  all_goals (refine bodyPost_ret (v := tupFB (({ f with x := l.a % 4294967296, y := l.b % 4294967296, pc := 6 }, false))) (by simp [results, Tryz.results41, go_sem]) rfl ⟨by rw [HS.out], EXX⟩)
theorem behindR_9 (c : Cfg) (hc : TreOk c) (f : Frm) (hf : f.Fits) (hkd : f.kind = 4 ∨ f.kind = 5 ∨ f.kind = 6 ∨ f.kind = 7 ∨ f.kind = 8) (l : Cel) (hl : l.Fits) (hnum : treNum c f = true) (_hi : f.pc = 1 ∨ f.pc = 14 → f.i ≤ 32) (_h15 : f.pc = 15 → 1 ≤ f.n) (hp : f.pc = 9) (w : World) : Calls Tryz.prog 41 #[c.v, f.v, l.v] w
    fun e w' => e = .returned (tupFB (treBehind c f l)) ∧ Ext w w' := by
  have HF := Lib.hid hf
  have HL := Lib.hid hl
  have HKD := Lib.hid hkd
  obtain ⟨m1, m2, m3, m4, m5, m6, m7, m8⟩ := treNum_facts hnum
  have htop := topI_bd c.cap c.node
  change 0 ≤ treTop c ∧ treTop c ≤ 4 at htop
  have hcap := hc.cap
  have hchunk := hc.chunk
  obtain ⟨⟨k0, k1⟩, ⟨a0, a1⟩, ⟨b0, b1⟩, ⟨p0, p1⟩, ⟨i0, i1⟩, ⟨j0, j1⟩, ⟨n0, n1⟩, ⟨q0, q1⟩, ⟨h0, h1⟩, ⟨x0, x1⟩, ⟨y0, y1⟩⟩ := hf
  obtain ⟨⟨t0, t1⟩, ⟨la0, la1⟩, ⟨lb0, lb1⟩, ⟨lc0, lc1⟩⟩ := hl
  obtain ⟨T, hT⟩ : ∃ T, treTop c = T := ⟨_, rfl⟩
  have HTOP := Lib.hid hT
  rw [hT] at m4 htop
  have hp' : (f.pc == 9) = true := by simpa using hp
  have HS : Hid (treBehind c f l = ({ f with x := l.a % 4294967296, y := l.b % 4294967296, pc := 11 }, false)) := Lib.hid (by simp [treBehind, treOver, hp])
  clear hkd hnum hp _hi _h15 m5 m6 m7 m8 hT
  go_enter Tryz.func41, Tryz.ntmps41
  go_wp2_with (first | (go_at_call 81; refine (overR_any f l HL.out _).mono ?_; rintro e w1 ⟨rfl, os1, n1, rfl⟩; simp only [treOver]) | (go_at_call 79; refine (atR_any ({ f with x := l.a % 4294967296, y := l.b % 4294967296 }) _ _).mono ?_; rintro e w1 ⟨rfl, os1, n1, rfl⟩))
  all_goals (refine bodyPost_ret (v := tupFB (({ f with x := l.a % 4294967296, y := l.b % 4294967296, pc := 11 }, false))) (by simp [results, Tryz.results41, go_sem]) rfl ⟨by rw [HS.out], EXX⟩)
theorem behindR_13 (c : Cfg) (hc : TreOk c) (f : Frm) (hf : f.Fits) (hkd : f.kind = 4 ∨ f.kind = 5 ∨ f.kind = 6 ∨ f.kind = 7 ∨ f.kind = 8) (l : Cel) (hl : l.Fits) (hnum : treNum c f = true) (_hi : f.pc = 1 ∨ f.pc = 14 → f.i ≤ 32) (_h15 : f.pc = 15 → 1 ≤ f.n) (hp : f.pc = 13) (w : World) : Calls Tryz.prog 41 #[c.v, f.v, l.v] w
    fun e w' => e = .returned (tupFB (treBehind c f l)) ∧ Ext w w' := by
  have HF := Lib.hid hf
  have HL := Lib.hid hl
  have HKD := Lib.hid hkd
  obtain ⟨m1, m2, m3, m4, m5, m6, m7, m8⟩ := treNum_facts hnum
  have htop := topI_bd c.cap c.node
  change 0 ≤ treTop c ∧ treTop c ≤ 4 at htop
  have hcap := hc.cap
  have hchunk := hc.chunk
  obtain ⟨⟨k0, k1⟩, ⟨a0, a1⟩, ⟨b0, b1⟩, ⟨p0, p1⟩, ⟨i0, i1⟩, ⟨j0, j1⟩, ⟨n0, n1⟩, ⟨q0, q1⟩, ⟨h0, h1⟩, ⟨x0, x1⟩, ⟨y0, y1⟩⟩ := hf
  obtain ⟨⟨t0, t1⟩, ⟨la0, la1⟩, ⟨lb0, lb1⟩, ⟨lc0, lc1⟩⟩ := hl
  obtain ⟨T, hT⟩ : ∃ T, treTop c = T := ⟨_, rfl⟩
  have HTOP := Lib.hid hT
  rw [hT] at m4 htop
  have hp' : (f.pc == 13) = true := by simpa using hp
  have HS : Hid (treBehind c f l = ({ f with x := l.a % 4294967296, y := l.b % 4294967296, pc := 14 }, false)) := Lib.hid (by simp [treBehind, treOver, hp])
  clear hkd hnum hp _hi _h15 m5 m6 m7 m8 hT
  go_enter Tryz.func41, Tryz.ntmps41
  go_wp2_with (first | (go_at_call 81; refine (overR_any f l HL.out _).mono ?_; rintro e w1 ⟨rfl, os1, n1, rfl⟩; simp only [treOver]) | (go_at_call 79; refine (atR_any ({ f with x := l.a % 4294967296, y := l.b % 4294967296 }) _ _).mono ?_; rintro e w1 ⟨rfl, os1, n1, rfl⟩))
  all_goals (refine bodyPost_ret (v := tupFB (({ f with x := l.a % 4294967296, y := l.b % 4294967296, pc := 14 }, false))) (by simp [results, Tryz.results41, go_sem]) rfl ⟨by rw [HS.out], EXX⟩)
theorem behindR_20 (c : Cfg) (hc : TreOk c) (f : Frm) (hf : f.Fits) (hkd : f.kind = 4 ∨ f.kind = 5 ∨ f.kind = 6 ∨ f.kind = 7 ∨ f.kind = 8) (l : Cel) (hl : l.Fits) (hnum : treNum c f = true) (_hi : f.pc = 1 ∨ f.pc = 14 → f.i ≤ 32) (_h15 : f.pc = 15 → 1 ≤ f.n) (hp : f.pc = 20) (w : World) : Calls Tryz.prog 41 #[c.v, f.v, l.v] w
    fun e w' => e = .returned (tupFB (treBehind c f l)) ∧ Ext w w' := by
  have HF := Lib.hid hf
  have HL := Lib.hid hl
  have HKD := Lib.hid hkd
  obtain ⟨m1, m2, m3, m4, m5, m6, m7, m8⟩ := treNum_facts hnum
  have htop := topI_bd c.cap c.node
  change 0 ≤ treTop c ∧ treTop c ≤ 4 at htop
  have hcap := hc.cap
  have hchunk := hc.chunk
  obtain ⟨⟨k0, k1⟩, ⟨a0, a1⟩, ⟨b0, b1⟩, ⟨p0, p1⟩, ⟨i0, i1⟩, ⟨j0, j1⟩, ⟨n0, n1⟩, ⟨q0, q1⟩, ⟨h0, h1⟩, ⟨x0, x1⟩, ⟨y0, y1⟩⟩ := hf
  obtain ⟨⟨t0, t1⟩, ⟨la0, la1⟩, ⟨lb0, lb1⟩, ⟨lc0, lc1⟩⟩ := hl
  obtain ⟨T, hT⟩ : ∃ T, treTop c = T := ⟨_, rfl⟩
  have HTOP := Lib.hid hT
  rw [hT] at m4 htop
  have hp' : (f.pc == 20) = true := by simpa using hp
  have HS : Hid (treBehind c f l = (f, false)) := Lib.hid (by simp [treBehind, hp])
  clear hkd hnum hp _hi _h15 m5 m6 m7 m8 hT
  go_enter Tryz.func41, Tryz.ntmps41
  go_wp2
  all_goals (refine bodyPost_ret (v := tupFB ((f, false))) (by simp [results, Tryz.results41, go_sem]) rfl ⟨by rw [HS.out], EXX⟩)
theorem behindR_21 (c : Cfg) (hc : TreOk c) (f : Frm) (hf : f.Fits) (hkd : f.kind = 4 ∨ f.kind = 5 ∨ f.kind = 6 ∨ f.kind = 7 ∨ f.kind = 8) (l : Cel) (hl : l.Fits) (hnum : treNum c f = true) (_hi : f.pc = 1 ∨ f.pc = 14 → f.i ≤ 32) (_h15 : f.pc = 15 → 1 ≤ f.n) (hp : f.pc = 21) (w : World) : Calls Tryz.prog 41 #[c.v, f.v, l.v] w
    fun e w' => e = .returned (tupFB (treBehind c f l)) ∧ Ext w w' := by
  have HF := Lib.hid hf
  have HL := Lib.hid hl
  have HKD := Lib.hid hkd
  obtain ⟨m1, m2, m3, m4, m5, m6, m7, m8⟩ := treNum_facts hnum
  have htop := topI_bd c.cap c.node
  change 0 ≤ treTop c ∧ treTop c ≤ 4 at htop
  have hcap := hc.cap
  have hchunk := hc.chunk
  obtain ⟨⟨k0, k1⟩, ⟨a0, a1⟩, ⟨b0, b1⟩, ⟨p0, p1⟩, ⟨i0, i1⟩, ⟨j0, j1⟩, ⟨n0, n1⟩, ⟨q0, q1⟩, ⟨h0, h1⟩, ⟨x0, x1⟩, ⟨y0, y1⟩⟩ := hf
  obtain ⟨⟨t0, t1⟩, ⟨la0, la1⟩, ⟨lb0, lb1⟩, ⟨lc0, lc1⟩⟩ := hl
  obtain ⟨T, hT⟩ : ∃ T, treTop c = T := ⟨_, rfl⟩
  have HTOP := Lib.hid hT
  rw [hT] at m4 htop
  have hp' : (f.pc == 21) = true := by simpa using hp
  have HS : Hid (treBehind c f l = (f, false)) := Lib.hid (by simp [treBehind, hp])
  clear hkd hnum hp _hi _h15 m5 m6 m7 m8 hT
  go_enter Tryz.func41, Tryz.ntmps41
  go_wp2
  all_goals (refine bodyPost_ret (v := tupFB ((f, false))) (by simp [results, Tryz.results41, go_sem]) rfl ⟨by rw [HS.out], EXX⟩)
theorem behindR_22 (c : Cfg) (hc : TreOk c) (f : Frm) (hf : f.Fits) (hkd : f.kind = 4 ∨ f.kind = 5 ∨ f.kind = 6 ∨ f.kind = 7 ∨ f.kind = 8) (l : Cel) (hl : l.Fits) (hnum : treNum c f = true) (_hi : f.pc = 1 ∨ f.pc = 14 → f.i ≤ 32) (_h15 : f.pc = 15 → 1 ≤ f.n) (hp : f.pc = 22) (w : World) : Calls Tryz.prog 41 #[c.v, f.v, l.v] w
    fun e w' => e = .returned (tupFB (treBehind c f l)) ∧ Ext w w' := by
  have HF := Lib.hid hf
  have HL := Lib.hid hl
  have HKD := Lib.hid hkd
  obtain ⟨m1, m2, m3, m4, m5, m6, m7, m8⟩ := treNum_facts hnum
  have htop := topI_bd c.cap c.node
  change 0 ≤ treTop c ∧ treTop c ≤ 4 at htop
  have hcap := hc.cap
  have hchunk := hc.chunk
  obtain ⟨⟨k0, k1⟩, ⟨a0, a1⟩, ⟨b0, b1⟩, ⟨p0, p1⟩, ⟨i0, i1⟩, ⟨j0, j1⟩, ⟨n0, n1⟩, ⟨q0, q1⟩, ⟨h0, h1⟩, ⟨x0, x1⟩, ⟨y0, y1⟩⟩ := hf
  obtain ⟨⟨t0, t1⟩, ⟨la0, la1⟩, ⟨lb0, lb1⟩, ⟨lc0, lc1⟩⟩ := hl
  obtain ⟨T, hT⟩ : ∃ T, treTop c = T := ⟨_, rfl⟩
  have HTOP := Lib.hid hT
  rw [hT] at m4 htop
  have hp' : (f.pc == 22) = true := by simpa using hp
  have HS : Hid (treBehind c f l = (f, false)) := Lib.hid (by simp [treBehind, hp])
  clear hkd hnum hp _hi _h15 m5 m6 m7 m8 hT
  go_enter Tryz.func41, Tryz.ntmps41
  go_wp2
  all_goals (refine bodyPost_ret (v := tupFB ((f, false))) (by simp [results, Tryz.results41, go_sem]) rfl ⟨by rw [HS.out], EXX⟩)
theorem behindR_23 (c : Cfg) (hc : TreOk c) (f : Frm) (hf : f.Fits) (hkd : f.kind = 4 ∨ f.kind = 5 ∨ f.kind = 6 ∨ f.kind = 7 ∨ f.kind = 8) (l : Cel) (hl : l.Fits) (hnum : treNum c f = true) (_hi : f.pc = 1 ∨ f.pc = 14 → f.i ≤ 32) (_h15 : f.pc = 15 → 1 ≤ f.n) (hp : f.pc = 23) (w : World) : Calls Tryz.prog 41 #[c.v, f.v, l.v] w
    fun e w' => e = .returned (tupFB (treBehind c f l)) ∧ Ext w w' := by
  have HF := Lib.hid hf
  have HL := Lib.hid hl
  have HKD := Lib.hid hkd
  obtain ⟨m1, m2, m3, m4, m5, m6, m7, m8⟩ := treNum_facts hnum
  have htop := topI_bd c.cap c.node
  change 0 ≤ treTop c ∧ treTop c ≤ 4 at htop
  have hcap := hc.cap
  have hchunk := hc.chunk
  obtain ⟨⟨k0, k1⟩, ⟨a0, a1⟩, ⟨b0, b1⟩, ⟨p0, p1⟩, ⟨i0, i1⟩, ⟨j0, j1⟩, ⟨n0, n1⟩, ⟨q0, q1⟩, ⟨h0, h1⟩, ⟨x0, x1⟩, ⟨y0, y1⟩⟩ := hf
  obtain ⟨⟨t0, t1⟩, ⟨la0, la1⟩, ⟨lb0, lb1⟩, ⟨lc0, lc1⟩⟩ := hl
  obtain ⟨T, hT⟩ : ∃ T, treTop c = T := ⟨_, rfl⟩
  have HTOP := Lib.hid hT
  rw [hT] at m4 htop
  have hp' : (f.pc == 23) = true := by simpa using hp
  have HS : Hid (treBehind c f l = (f, false)) := Lib.hid (by simp [treBehind, hp])
  clear hkd hnum hp _hi _h15 m5 m6 m7 m8 hT
  go_enter Tryz.func41, Tryz.ntmps41
  go_wp2
  all_goals (refine bodyPost_ret (v := tupFB ((f, false))) (by simp [results, Tryz.results41, go_sem]) rfl ⟨by rw [HS.out], EXX⟩)
theorem behindR_24 (c : Cfg) (hc : TreOk c) (f : Frm) (hf : f.Fits) (hkd : f.kind = 4 ∨ f.kind = 5 ∨ f.kind = 6 ∨ f.kind = 7 ∨ f.kind = 8) (l : Cel) (hl : l.Fits) (hnum : treNum c f = true) (_hi : f.pc = 1 ∨ f.pc = 14 → f.i ≤ 32) (_h15 : f.pc = 15 → 1 ≤ f.n) (hp : f.pc = 24) (w : World) : Calls Tryz.prog 41 #[c.v, f.v, l.v] w
    fun e w' => e = .returned (tupFB (treBehind c f l)) ∧ Ext w w' := by
  have HF := Lib.hid hf
  have HL := Lib.hid hl
  have HKD := Lib.hid hkd
  obtain ⟨m1, m2, m3, m4, m5, m6, m7, m8⟩ := treNum_facts hnum
  have htop := topI_bd c.cap c.node
  change 0 ≤ treTop c ∧ treTop c ≤ 4 at htop
  have hcap := hc.cap
  have hchunk := hc.chunk
  obtain ⟨⟨k0, k1⟩, ⟨a0, a1⟩, ⟨b0, b1⟩, ⟨p0, p1⟩, ⟨i0, i1⟩, ⟨j0, j1⟩, ⟨n0, n1⟩, ⟨q0, q1⟩, ⟨h0, h1⟩, ⟨x0, x1⟩, ⟨y0, y1⟩⟩ := hf
  obtain ⟨⟨t0, t1⟩, ⟨la0, la1⟩, ⟨lb0, lb1⟩, ⟨lc0, lc1⟩⟩ := hl
  obtain ⟨T, hT⟩ : ∃ T, treTop c = T := ⟨_, rfl⟩
  have HTOP := Lib.hid hT
  rw [hT] at m4 htop
  have hp' : (f.pc == 24) = true := by simpa using hp
  have HS : Hid (treBehind c f l = (f, false)) := Lib.hid (by simp [treBehind, hp])
  clear hkd hnum hp _hi _h15 m5 m6 m7 m8 hT
  go_enter Tryz.func41, Tryz.ntmps41
  go_wp2
  all_goals (refine bodyPost_ret (v := tupFB ((f, false))) (by simp [results, Tryz.results41, go_sem]) rfl ⟨by rw [HS.out], EXX⟩)
theorem behindR_25 (c : Cfg) (hc : TreOk c) (f : Frm) (hf : f.Fits) (hkd : f.kind = 4 ∨ f.kind = 5 ∨ f.kind = 6 ∨ f.kind = 7 ∨ f.kind = 8) (l : Cel) (hl : l.Fits) (hnum : treNum c f = true) (_hi : f.pc = 1 ∨ f.pc = 14 → f.i ≤ 32) (_h15 : f.pc = 15 → 1 ≤ f.n) (hp : f.pc = 25) (w : World) : Calls Tryz.prog 41 #[c.v, f.v, l.v] w
    fun e w' => e = .returned (tupFB (treBehind c f l)) ∧ Ext w w' := by
  have HF := Lib.hid hf
  have HL := Lib.hid hl
  have HKD := Lib.hid hkd
  obtain ⟨m1, m2, m3, m4, m5, m6, m7, m8⟩ := treNum_facts hnum
  have htop := topI_bd c.cap c.node
  change 0 ≤ treTop c ∧ treTop c ≤ 4 at htop
  have hcap := hc.cap
  have hchunk := hc.chunk
  obtain ⟨⟨k0, k1⟩, ⟨a0, a1⟩, ⟨b0, b1⟩, ⟨p0, p1⟩, ⟨i0, i1⟩, ⟨j0, j1⟩, ⟨n0, n1⟩, ⟨q0, q1⟩, ⟨h0, h1⟩, ⟨x0, x1⟩, ⟨y0, y1⟩⟩ := hf
  obtain ⟨⟨t0, t1⟩, ⟨la0, la1⟩, ⟨lb0, lb1⟩, ⟨lc0, lc1⟩⟩ := hl
  obtain ⟨T, hT⟩ : ∃ T, treTop c = T := ⟨_, rfl⟩
  have HTOP := Lib.hid hT
  rw [hT] at m4 htop
  have hp' : (f.pc == 25) = true := by simpa using hp
  have HS : Hid (treBehind c f l = (f, false)) := Lib.hid (by simp [treBehind, hp])
  clear hkd hnum hp _hi _h15 m5 m6 m7 m8 hT
  go_enter Tryz.func41, Tryz.ntmps41
  go_wp2
  all_goals (refine bodyPost_ret (v := tupFB ((f, false))) (by simp [results, Tryz.results41, go_sem]) rfl ⟨by rw [HS.out], EXX⟩)
theorem behindR_6 (c : Cfg) (hc : TreOk c) (f : Frm) (hf : f.Fits) (hkd : f.kind = 4 ∨ f.kind = 5 ∨ f.kind = 6 ∨ f.kind = 7 ∨ f.kind = 8) (l : Cel) (hl : l.Fits) (hnum : treNum c f = true) (_hi : f.pc = 1 ∨ f.pc = 14 → f.i ≤ 32) (_h15 : f.pc = 15 → 1 ≤ f.n) (hp : f.pc = 6) (w : World) : Calls Tryz.prog 41 #[c.v, f.v, l.v] w
    fun e w' => e = .returned (tupFB (treBehind c f l)) ∧ Ext w w' := by
  have HF := Lib.hid hf
  have HL := Lib.hid hl
  have HKD := Lib.hid hkd
  obtain ⟨m1, m2, m3, m4, m5, m6, m7, m8⟩ := treNum_facts hnum
  have htop := topI_bd c.cap c.node
  change 0 ≤ treTop c ∧ treTop c ≤ 4 at htop
  have hcap := hc.cap
  have hchunk := hc.chunk
  obtain ⟨⟨k0, k1⟩, ⟨a0, a1⟩, ⟨b0, b1⟩, ⟨p0, p1⟩, ⟨i0, i1⟩, ⟨j0, j1⟩, ⟨n0, n1⟩, ⟨q0, q1⟩, ⟨h0, h1⟩, ⟨x0, x1⟩, ⟨y0, y1⟩⟩ := hf
  obtain ⟨⟨t0, t1⟩, ⟨la0, la1⟩, ⟨lb0, lb1⟩, ⟨lc0, lc1⟩⟩ := hl
  obtain ⟨T, hT⟩ : ∃ T, treTop c = T := ⟨_, rfl⟩
  have HTOP := Lib.hid hT
  rw [hT] at m4 htop
  have hp' : (f.pc == 6) = true := by simpa using hp
  have h6 := m5 hp
  have hw1 : IntKind.u8.wrap (f.i - 1) = f.i - 1 := by rw [IntKind.wrap_u8]; omega
  have hw2 : (f.i - 1) % 256 = f.i - 1 := by omega
  cases zz : decide (f.i - 1 ≤ f.p)
  · have hz : ¬ f.i - 1 ≤ f.p := by simpa using zz
    have HS : Hid (treBehind c f l = ({ f with i := f.i - 1, pc := 5 }, false)) := Lib.hid (by simp [treBehind, hp, hz])
    clear hkd hnum hp _hi _h15 m5 m6 m7 m8 hT
    go_enter Tryz.func41, Tryz.ntmps41
    go_wp2_with (go_at_call 79; refine (atR_any ({ f with i := f.i - 1 }) _ _).mono ?_; rintro e w1 ⟨rfl, os1, n1, rfl⟩)
    all_goals (refine bodyPost_ret (v := tupFB (({ f with i := f.i - 1, pc := 5 }, false))) (by simp [results, Tryz.results41, go_sem]) rfl ⟨by rw [HS.out], EXX⟩)
  · have hz : f.i - 1 ≤ f.p := by simpa using zz
    have HS : Hid (treBehind c f l = ({ f with i := f.i - 1, pc := 7 }, false)) := Lib.hid (by simp [treBehind, hp, hz])
    clear hkd hnum hp _hi _h15 m5 m6 m7 m8 hT
    go_enter Tryz.func41, Tryz.ntmps41
    go_wp2_with (go_at_call 79; refine (atR_any ({ f with i := f.i - 1 }) _ _).mono ?_; rintro e w1 ⟨rfl, os1, n1, rfl⟩)
    all_goals (refine bodyPost_ret (v := tupFB (({ f with i := f.i - 1, pc := 7 }, false))) (by simp [results, Tryz.results41, go_sem]) rfl ⟨by rw [HS.out], EXX⟩)
theorem behindR_7 (c : Cfg) (hc : TreOk c) (f : Frm) (hf : f.Fits) (hkd : f.kind = 4 ∨ f.kind = 5 ∨ f.kind = 6 ∨ f.kind = 7 ∨ f.kind = 8) (l : Cel) (hl : l.Fits) (hnum : treNum c f = true) (_hi : f.pc = 1 ∨ f.pc = 14 → f.i ≤ 32) (_h15 : f.pc = 15 → 1 ≤ f.n) (hp : f.pc = 7) (w : World) : Calls Tryz.prog 41 #[c.v, f.v, l.v] w
    fun e w' => e = .returned (tupFB (treBehind c f l)) ∧ Ext w w' := by
  have HF := Lib.hid hf
  have HL := Lib.hid hl
  have HKD := Lib.hid hkd
  obtain ⟨m1, m2, m3, m4, m5, m6, m7, m8⟩ := treNum_facts hnum
  have htop := topI_bd c.cap c.node
  change 0 ≤ treTop c ∧ treTop c ≤ 4 at htop
  have hcap := hc.cap
  have hchunk := hc.chunk
  obtain ⟨⟨k0, k1⟩, ⟨a0, a1⟩, ⟨b0, b1⟩, ⟨p0, p1⟩, ⟨i0, i1⟩, ⟨j0, j1⟩, ⟨n0, n1⟩, ⟨q0, q1⟩, ⟨h0, h1⟩, ⟨x0, x1⟩, ⟨y0, y1⟩⟩ := hf
  obtain ⟨⟨t0, t1⟩, ⟨la0, la1⟩, ⟨lb0, lb1⟩, ⟨lc0, lc1⟩⟩ := hl
  obtain ⟨T, hT⟩ : ∃ T, treTop c = T := ⟨_, rfl⟩
  have HTOP := Lib.hid hT
  rw [hT] at m4 htop
  have hp' : (f.pc == 7) = true := by simpa using hp
  have hw1 : IntKind.u8.wrap (f.n + 1) = f.n + 1 := by rw [IntKind.wrap_u8]; omega
  have hw2 : (f.n + 1) % 256 = f.n + 1 := by omega
  have HS : Hid (treBehind c f l = ({ f with n := f.n + 1, pc := 8 }, false)) := Lib.hid (by simp [treBehind, hp])
  clear hkd hnum hp _hi _h15 m5 m6 m7 m8 hT
  go_enter Tryz.func41, Tryz.ntmps41
  go_wp2_with (go_at_call 79; refine (atR_any ({ f with n := f.n + 1 }) _ _).mono ?_; rintro e w1 ⟨rfl, os1, n1, rfl⟩)
  all_goals (refine bodyPost_ret (v := tupFB (({ f with n := f.n + 1, pc := 8 }, false))) (by simp [results, Tryz.results41, go_sem]) rfl ⟨by rw [HS.out], EXX⟩)
theorem behindR_15 (c : Cfg) (hc : TreOk c) (f : Frm) (hf : f.Fits) (hkd : f.kind = 4 ∨ f.kind = 5 ∨ f.kind = 6 ∨ f.kind = 7 ∨ f.kind = 8) (l : Cel) (hl : l.Fits) (hnum : treNum c f = true) (_hi : f.pc = 1 ∨ f.pc = 14 → f.i ≤ 32) (h15 : f.pc = 15 → 1 ≤ f.n) (hp : f.pc = 15) (w : World) : Calls Tryz.prog 41 #[c.v, f.v, l.v] w
    fun e w' => e = .returned (tupFB (treBehind c f l)) ∧ Ext w w' := by
  have HF := Lib.hid hf
  have HL := Lib.hid hl
  have HKD := Lib.hid hkd
  obtain ⟨m1, m2, m3, m4, m5, m6, m7, m8⟩ := treNum_facts hnum
  have htop := topI_bd c.cap c.node
  change 0 ≤ treTop c ∧ treTop c ≤ 4 at htop
  have hcap := hc.cap
  have hchunk := hc.chunk
  obtain ⟨⟨k0, k1⟩, ⟨a0, a1⟩, ⟨b0, b1⟩, ⟨p0, p1⟩, ⟨i0, i1⟩, ⟨j0, j1⟩, ⟨n0, n1⟩, ⟨q0, q1⟩, ⟨h0, h1⟩, ⟨x0, x1⟩, ⟨y0, y1⟩⟩ := hf
  obtain ⟨⟨t0, t1⟩, ⟨la0, la1⟩, ⟨lb0, lb1⟩, ⟨lc0, lc1⟩⟩ := hl
  obtain ⟨T, hT⟩ : ∃ T, treTop c = T := ⟨_, rfl⟩
  have HTOP := Lib.hid hT
  rw [hT] at m4 htop
  have hp' : (f.pc == 15) = true := by simpa using hp
  have h6 := h15 hp
  have hw1 : IntKind.u8.wrap (f.n - 1) = f.n - 1 := by rw [IntKind.wrap_u8]; omega
  have hw2 : (f.n - 1) % 256 = f.n - 1 := by omega
  have HS : Hid (treBehind c f l = ({ f with n := f.n - 1, pc := 8 }, false)) := Lib.hid (by simp [treBehind, hp])
  clear hkd hnum hp _hi h15 m5 m6 m7 m8 hT
  go_enter Tryz.func41, Tryz.ntmps41
  go_wp2_with (go_at_call 79; refine (atR_any ({ f with n := f.n - 1 }) _ _).mono ?_; rintro e w1 ⟨rfl, os1, n1, rfl⟩)
  all_goals (refine bodyPost_ret (v := tupFB (({ f with n := f.n - 1, pc := 8 }, false))) (by simp [results, Tryz.results41, go_sem]) rfl ⟨by rw [HS.out], EXX⟩)
theorem behindR_14 (c : Cfg) (hc : TreOk c) (f : Frm) (hf : f.Fits) (hkd : f.kind = 4 ∨ f.kind = 5 ∨ f.kind = 6 ∨ f.kind = 7 ∨ f.kind = 8) (l : Cel) (hl : l.Fits) (hnum : treNum c f = true) (hi : f.pc = 1 ∨ f.pc = 14 → f.i ≤ 32) (_h15 : f.pc = 15 → 1 ≤ f.n) (hp : f.pc = 14) (w : World) : Calls Tryz.prog 41 #[c.v, f.v, l.v] w
    fun e w' => e = .returned (tupFB (treBehind c f l)) ∧ Ext w w' := by
  have HF := Lib.hid hf
  have HL := Lib.hid hl
  have HKD := Lib.hid hkd
  obtain ⟨m1, m2, m3, m4, m5, m6, m7, m8⟩ := treNum_facts hnum
  have htop := topI_bd c.cap c.node
  change 0 ≤ treTop c ∧ treTop c ≤ 4 at htop
  have hcap := hc.cap
  have hchunk := hc.chunk
  obtain ⟨⟨k0, k1⟩, ⟨a0, a1⟩, ⟨b0, b1⟩, ⟨p0, p1⟩, ⟨i0, i1⟩, ⟨j0, j1⟩, ⟨n0, n1⟩, ⟨q0, q1⟩, ⟨h0, h1⟩, ⟨x0, x1⟩, ⟨y0, y1⟩⟩ := hf
  obtain ⟨⟨t0, t1⟩, ⟨la0, la1⟩, ⟨lb0, lb1⟩, ⟨lc0, lc1⟩⟩ := hl
  obtain ⟨T, hT⟩ : ∃ T, treTop c = T := ⟨_, rfl⟩
  have HTOP := Lib.hid hT
  rw [hT] at m4 htop
  have hp' : (f.pc == 14) = true := by simpa using hp
  have h6 := hi (Or.inr hp)
  have hw1 : IntKind.u8.wrap (f.i + 1) = f.i + 1 := by rw [IntKind.wrap_u8]; omega
  have hw2 : (f.i + 1) % 256 = f.i + 1 := by omega
  cases zz : decide (f.n ≤ f.i + 1)
  · have hz : ¬ f.n ≤ f.i + 1 := by simpa using zz
    have HS : Hid (treBehind c f l = ({ f with i := f.i + 1, pc := 13 }, false)) := Lib.hid (by simp [treBehind, hp, hz])
    clear hkd hnum hp hi _h15 m5 m6 m7 m8 hT
    go_enter Tryz.func41, Tryz.ntmps41
    go_wp2_with (go_at_call 79; refine (atR_any ({ f with i := f.i + 1 }) _ _).mono ?_; rintro e w1 ⟨rfl, os1, n1, rfl⟩)
    all_goals (refine bodyPost_ret (v := tupFB (({ f with i := f.i + 1, pc := 13 }, false))) (by simp [results, Tryz.results41, go_sem]) rfl ⟨by rw [HS.out], EXX⟩)
  · have hz : f.n ≤ f.i + 1 := by simpa using zz
    have HS : Hid (treBehind c f l = ({ f with i := f.i + 1, pc := 15 }, false)) := Lib.hid (by simp [treBehind, hp, hz])
    clear hkd hnum hp hi _h15 m5 m6 m7 m8 hT
    go_enter Tryz.func41, Tryz.ntmps41
    go_wp2_with (go_at_call 79; refine (atR_any ({ f with i := f.i + 1 }) _ _).mono ?_; rintro e w1 ⟨rfl, os1, n1, rfl⟩)
    all_goals (refine bodyPost_ret (v := tupFB (({ f with i := f.i + 1, pc := 15 }, false))) (by simp [results, Tryz.results41, go_sem]) rfl ⟨by rw [HS.out], EXX⟩)
end Go.Proofs.YtmhmaifmendebaaGreatDoor.tree
/- The walk of the reference's 'Behind', layer 'tree'. -/
namespace Go.Proofs.YtmhmaifmendebaaGreatDoor.tree
open Go Go.RowKit
set_option maxRecDepth 100000
set_option maxHeartbeats 8000000

theorem beh_8 {c : Cfg} {f : Frm} {l : Cel} (hp : f.pc = 8) : treBehind c f l = ((treUpw c { f with h := 0 }, false)) := by
  obtain ⟨k, a, b, pc, i, j, n, p, h, x, y⟩ := f
  obtain rfl : pc = 8 := hp
  rfl
theorem beh_12 {c : Cfg} {f : Frm} {l : Cel} (hp : f.pc = 12) : treBehind c f l = ((treUpw c f, false)) := by
  obtain ⟨k, a, b, pc, i, j, n, p, h, x, y⟩ := f
  obtain rfl : pc = 12 := hp
  rfl
theorem beh_16 {c : Cfg} {f : Frm} {l : Cel} (hp : f.pc = 16) : treBehind c f l = ((treGo { f with j := 0 }, false)) := by
  obtain ⟨k, a, b, pc, i, j, n, p, h, x, y⟩ := f
  obtain rfl : pc = 16 := hp
  rfl
theorem beh_1 {c : Cfg} {f : Frm} {l : Cel} (hp : f.pc = 1) : treBehind c f l = (treItem c f l) := by
  obtain ⟨k, a, b, pc, i, j, n, p, h, x, y⟩ := f
  obtain rfl : pc = 1 := hp
  rfl
theorem beh_17 {c : Cfg} {f : Frm} {l : Cel} (hp : f.pc = 17) : treBehind c f l = (treOn c { f with x := l.a % 4294967296, y := l.b % 4294967296 }) := by
  obtain ⟨k, a, b, pc, i, j, n, p, h, x, y⟩ := f
  obtain rfl : pc = 17 := hp
  rfl
theorem beh_11 {c : Cfg} {f : Frm} {l : Cel} (hp : f.pc = 11) : treBehind c f l = (if f.i + 1 < treUp c f.n f.h then ({ f with i := f.i + 1, pc := 9 }, false) else if treClears c f then ({ f with i := f.i + 1, pc := 12 }, false) else (treUpw c { f with i := f.i + 1, pc := 9 }, false)) := by
  obtain ⟨k, a, b, pc, i, j, n, p, h, x, y⟩ := f
  obtain rfl : pc = 11 := hp
  rfl
theorem beh_0 {c : Cfg} {f : Frm} {l : Cel} (hp : f.pc = 0) : treBehind c f l = (if (if l.a < c.cap then l.a else c.cap) == 0 then (treNone c { f with n := 0 }, false) else ({ f with n := (if l.a < c.cap then l.a else c.cap), h := treTop c, i := 0, pc := 1 }, false)) := by
  obtain ⟨k, a, b, pc, i, j, n, p, h, x, y⟩ := f
  obtain rfl : pc = 0 := hp
  rfl
theorem behindR_8 (c : Cfg) (hc : TreOk c) (f : Frm) (hf : f.Fits) (hkd : f.kind = 4 ∨ f.kind = 5 ∨ f.kind = 6 ∨ f.kind = 7 ∨ f.kind = 8) (l : Cel) (hl : l.Fits) (hnum : treNum c f = true) (_hi : f.pc = 1 ∨ f.pc = 14 → f.i ≤ 32) (_h15 : f.pc = 15 → 1 ≤ f.n) (hp : f.pc = 8) (w : World) : Calls Tryz.prog 41 #[c.v, f.v, l.v] w
    fun e w' => e = .returned (tupFB (treBehind c f l)) ∧ Ext w w' := by
  have HF := Lib.hid hf
  have HL := Lib.hid hl
  have HKD := Lib.hid hkd
  obtain ⟨m1, m2, m3, m4, m5, m6, m7, m8⟩ := treNum_facts hnum
  have htop := topI_bd c.cap c.node
  change 0 ≤ treTop c ∧ treTop c ≤ 4 at htop
  have hcap := hc.cap
  have hchunk := hc.chunk
  obtain ⟨⟨k0, k1⟩, ⟨a0, a1⟩, ⟨b0, b1⟩, ⟨p0, p1⟩, ⟨i0, i1⟩, ⟨j0, j1⟩, ⟨n0, n1⟩, ⟨q0, q1⟩, ⟨h0, h1⟩, ⟨x0, x1⟩, ⟨y0, y1⟩⟩ := hf
  obtain ⟨⟨t0, t1⟩, ⟨la0, la1⟩, ⟨lb0, lb1⟩, ⟨lc0, lc1⟩⟩ := hl
  obtain ⟨T, hT⟩ : ∃ T, treTop c = T := ⟨_, rfl⟩
  have HTOP := Lib.hid hT
  rw [hT] at m4 htop
  have hp' : (f.pc == 8) = true := by simpa using hp
  obtain ⟨Q, hQ⟩ : ∃ Q, treUpw c { f with h := 0 } = Q := ⟨_, rfl⟩
  have HQ := Lib.hid hQ
  have HFC : Hid (Frm.Fits { f with h := 0 }) := Lib.hid ⟨HF.out.kind, HF.out.a, HF.out.b, HF.out.pc, HF.out.i, HF.out.j, HF.out.n, HF.out.p, by simp, HF.out.x, HF.out.y⟩
  have HS : Hid (treBehind c f l = (Q, false)) := Lib.hid (by rw [beh_8 hp, hQ])
  clear hkd hnum hp _hi _h15 m5 m6 m7 m8 hT hQ
  go_enter Tryz.func41, Tryz.ntmps41
  go_wp2_with (go_at_call 82; refine (climbR_any c hc ({ f with h := 0 }) HFC.out (by (try dsimp only); omega) _).mono ?_; rintro e w2 ⟨rfl, os2, n2, rfl⟩; rw [HQ.out])
  all_goals (refine bodyPost_ret (v := tupFB ((Q, false))) (by simp [results, Tryz.results41, go_sem]) rfl ⟨by rw [HS.out], EXX⟩)
theorem behindR_12 (c : Cfg) (hc : TreOk c) (f : Frm) (hf : f.Fits) (hkd : f.kind = 4 ∨ f.kind = 5 ∨ f.kind = 6 ∨ f.kind = 7 ∨ f.kind = 8) (l : Cel) (hl : l.Fits) (hnum : treNum c f = true) (_hi : f.pc = 1 ∨ f.pc = 14 → f.i ≤ 32) (_h15 : f.pc = 15 → 1 ≤ f.n) (hp : f.pc = 12) (w : World) : Calls Tryz.prog 41 #[c.v, f.v, l.v] w
    fun e w' => e = .returned (tupFB (treBehind c f l)) ∧ Ext w w' := by
  have HF := Lib.hid hf
  have HL := Lib.hid hl
  have HKD := Lib.hid hkd
  obtain ⟨m1, m2, m3, m4, m5, m6, m7, m8⟩ := treNum_facts hnum
  have htop := topI_bd c.cap c.node
  change 0 ≤ treTop c ∧ treTop c ≤ 4 at htop
  have hcap := hc.cap
  have hchunk := hc.chunk
  obtain ⟨⟨k0, k1⟩, ⟨a0, a1⟩, ⟨b0, b1⟩, ⟨p0, p1⟩, ⟨i0, i1⟩, ⟨j0, j1⟩, ⟨n0, n1⟩, ⟨q0, q1⟩, ⟨h0, h1⟩, ⟨x0, x1⟩, ⟨y0, y1⟩⟩ := hf
  obtain ⟨⟨t0, t1⟩, ⟨la0, la1⟩, ⟨lb0, lb1⟩, ⟨lc0, lc1⟩⟩ := hl
  obtain ⟨T, hT⟩ : ∃ T, treTop c = T := ⟨_, rfl⟩
  have HTOP := Lib.hid hT
  rw [hT] at m4 htop
  have hp' : (f.pc == 12) = true := by simpa using hp
  obtain ⟨Q, hQ⟩ : ∃ Q, treUpw c f = Q := ⟨_, rfl⟩
  have HQ := Lib.hid hQ
  have HFC := HF
  have HS : Hid (treBehind c f l = (Q, false)) := Lib.hid (by rw [beh_12 hp, hQ])
  clear hkd hnum hp _hi _h15 m5 m6 m7 m8 hT hQ
  go_enter Tryz.func41, Tryz.ntmps41
  go_wp2_with (go_at_call 82; refine (climbR_any c hc (f) HFC.out (by (try dsimp only); omega) _).mono ?_; rintro e w2 ⟨rfl, os2, n2, rfl⟩; rw [HQ.out])
  all_goals (refine bodyPost_ret (v := tupFB ((Q, false))) (by simp [results, Tryz.results41, go_sem]) rfl ⟨by rw [HS.out], EXX⟩)
theorem behindR_16 (c : Cfg) (hc : TreOk c) (f : Frm) (hf : f.Fits) (hkd : f.kind = 4 ∨ f.kind = 5 ∨ f.kind = 6 ∨ f.kind = 7 ∨ f.kind = 8) (l : Cel) (hl : l.Fits) (hnum : treNum c f = true) (_hi : f.pc = 1 ∨ f.pc = 14 → f.i ≤ 32) (_h15 : f.pc = 15 → 1 ≤ f.n) (hp : f.pc = 16) (w : World) : Calls Tryz.prog 41 #[c.v, f.v, l.v] w
    fun e w' => e = .returned (tupFB (treBehind c f l)) ∧ Ext w w' := by
  have HF := Lib.hid hf
  have HL := Lib.hid hl
  have HKD := Lib.hid hkd
  obtain ⟨m1, m2, m3, m4, m5, m6, m7, m8⟩ := treNum_facts hnum
  have htop := topI_bd c.cap c.node
  change 0 ≤ treTop c ∧ treTop c ≤ 4 at htop
  have hcap := hc.cap
  have hchunk := hc.chunk
  obtain ⟨⟨k0, k1⟩, ⟨a0, a1⟩, ⟨b0, b1⟩, ⟨p0, p1⟩, ⟨i0, i1⟩, ⟨j0, j1⟩, ⟨n0, n1⟩, ⟨q0, q1⟩, ⟨h0, h1⟩, ⟨x0, x1⟩, ⟨y0, y1⟩⟩ := hf
  obtain ⟨⟨t0, t1⟩, ⟨la0, la1⟩, ⟨lb0, lb1⟩, ⟨lc0, lc1⟩⟩ := hl
  obtain ⟨T, hT⟩ : ∃ T, treTop c = T := ⟨_, rfl⟩
  have HTOP := Lib.hid hT
  rw [hT] at m4 htop
  have hp' : (f.pc == 16) = true := by simpa using hp
  obtain ⟨Q, hQ⟩ : ∃ Q, treGo { f with j := 0 } = Q := ⟨_, rfl⟩
  have HQ := Lib.hid hQ
  have HS : Hid (treBehind c f l = (Q, false)) := Lib.hid (by rw [beh_16 hp, hQ])
  clear hkd hnum hp _hi _h15 m5 m6 m7 m8 hT hQ
  go_enter Tryz.func41, Tryz.ntmps41
  go_wp2_with (go_at_call 84; refine (goR_any ({ f with j := 0 }) (by (try dsimp only); omega) (by (try dsimp only); omega) _).mono ?_; rintro e w2 ⟨rfl, os2, n2, rfl⟩; rw [HQ.out])
  all_goals (refine bodyPost_ret (v := tupFB ((Q, false))) (by simp [results, Tryz.results41, go_sem]) rfl ⟨by rw [HS.out], EXX⟩)
theorem behindR_1 (c : Cfg) (hc : TreOk c) (f : Frm) (hf : f.Fits) (hkd : f.kind = 4 ∨ f.kind = 5 ∨ f.kind = 6 ∨ f.kind = 7 ∨ f.kind = 8) (l : Cel) (hl : l.Fits) (hnum : treNum c f = true) (hi : f.pc = 1 ∨ f.pc = 14 → f.i ≤ 32) (_h15 : f.pc = 15 → 1 ≤ f.n) (hp : f.pc = 1) (w : World) : Calls Tryz.prog 41 #[c.v, f.v, l.v] w
    fun e w' => e = .returned (tupFB (treBehind c f l)) ∧ Ext w w' := by
  have HF := Lib.hid hf
  have HL := Lib.hid hl
  have HKD := Lib.hid hkd
  obtain ⟨m1, m2, m3, m4, m5, m6, m7, m8⟩ := treNum_facts hnum
  have htop := topI_bd c.cap c.node
  change 0 ≤ treTop c ∧ treTop c ≤ 4 at htop
  have hcap := hc.cap
  have hchunk := hc.chunk
  obtain ⟨⟨k0, k1⟩, ⟨a0, a1⟩, ⟨b0, b1⟩, ⟨p0, p1⟩, ⟨i0, i1⟩, ⟨j0, j1⟩, ⟨n0, n1⟩, ⟨q0, q1⟩, ⟨h0, h1⟩, ⟨x0, x1⟩, ⟨y0, y1⟩⟩ := hf
  obtain ⟨⟨t0, t1⟩, ⟨la0, la1⟩, ⟨lb0, lb1⟩, ⟨lc0, lc1⟩⟩ := hl
  obtain ⟨T, hT⟩ : ∃ T, treTop c = T := ⟨_, rfl⟩
  have HTOP := Lib.hid hT
  rw [hT] at m4 htop
  have hp' : (f.pc == 1) = true := by simpa using hp
  have h6 := hi (Or.inl hp)
  obtain ⟨Q, hQ⟩ : ∃ Q, treItem c f l = Q := ⟨_, rfl⟩
  have HQ := Lib.hid hQ
  have HS : Hid (treBehind c f l = Q) := Lib.hid (by rw [beh_1 hp, hQ])
  clear hkd hnum hp hi _h15 m5 m6 m7 m8 hT hQ
  go_enter Tryz.func41, Tryz.ntmps41
  go_wp2_with (go_at_call 80; refine (itemR_any c hc f HF.out HKD.out l HL.out (by omega) (by omega) (by omega) (by omega) _).mono ?_; rintro e w2 ⟨rfl, os2, n2, rfl⟩; rw [HQ.out])
  all_goals (refine bodyPost_ret (v := tupFB (Q)) (by simp [results, Tryz.results41, go_sem]) rfl ⟨by rw [HS.out], EXX⟩)
theorem behindR_17 (c : Cfg) (hc : TreOk c) (f : Frm) (hf : f.Fits) (hkd : f.kind = 4 ∨ f.kind = 5 ∨ f.kind = 6 ∨ f.kind = 7 ∨ f.kind = 8) (l : Cel) (hl : l.Fits) (hnum : treNum c f = true) (_hi : f.pc = 1 ∨ f.pc = 14 → f.i ≤ 32) (_h15 : f.pc = 15 → 1 ≤ f.n) (hp : f.pc = 17) (w : World) : Calls Tryz.prog 41 #[c.v, f.v, l.v] w
    fun e w' => e = .returned (tupFB (treBehind c f l)) ∧ Ext w w' := by
  have HF := Lib.hid hf
  have HL := Lib.hid hl
  have HKD := Lib.hid hkd
  obtain ⟨m1, m2, m3, m4, m5, m6, m7, m8⟩ := treNum_facts hnum
  have htop := topI_bd c.cap c.node
  change 0 ≤ treTop c ∧ treTop c ≤ 4 at htop
  have hcap := hc.cap
  have hchunk := hc.chunk
  obtain ⟨⟨k0, k1⟩, ⟨a0, a1⟩, ⟨b0, b1⟩, ⟨p0, p1⟩, ⟨i0, i1⟩, ⟨j0, j1⟩, ⟨n0, n1⟩, ⟨q0, q1⟩, ⟨h0, h1⟩, ⟨x0, x1⟩, ⟨y0, y1⟩⟩ := hf
  obtain ⟨⟨t0, t1⟩, ⟨la0, la1⟩, ⟨lb0, lb1⟩, ⟨lc0, lc1⟩⟩ := hl
  obtain ⟨T, hT⟩ : ∃ T, treTop c = T := ⟨_, rfl⟩
  have HTOP := Lib.hid hT
  rw [hT] at m4 htop
  have hp' : (f.pc == 17) = true := by simpa using hp
  obtain ⟨Q, hQ⟩ : ∃ Q, treOn c { f with x := l.a % 4294967296, y := l.b % 4294967296 } = Q := ⟨_, rfl⟩
  have HQ := Lib.hid hQ
  have HS : Hid (treBehind c f l = Q) := Lib.hid (by rw [beh_17 hp, hQ])
  have HK : Hid (Holds (((w.alloc (.cells #[.int .u8 c.object, .int .i64 c.instances, .int .i64 c.threads, .int .u8 c.kind, .int .i64 c.stripes, .int .i64 c.bits, .int .i64 c.cap, .int .i64 c.node, .int .i64 c.batch, .int .i64 c.chunk, .int .u64 c.limit, .int .u64 c.most] 24)).alloc (.cells #[.int .u8 f.kind, .int .u32 f.a, .int .u32 f.b, .int .u8 f.pc, .int .u8 f.i, .int .u8 f.j, .int .u8 f.n, .int .u8 f.p, .int .u8 f.h, .int .u32 f.x, .int .u32 f.y] 27)).alloc (.cells #[.int .u64 l.tag, .int .u64 l.a, .int .u64 l.b, .int .u64 l.c] 37)) ([(w.heap.size, 0, .int .u8 c.object), (w.heap.size, 1, .int .i64 c.instances), (w.heap.size, 2, .int .i64 c.threads), (w.heap.size, 3, .int .u8 c.kind), (w.heap.size, 4, .int .i64 c.stripes), (w.heap.size, 5, .int .i64 c.bits), (w.heap.size, 6, .int .i64 c.cap), (w.heap.size, 7, .int .i64 c.node), (w.heap.size, 8, .int .i64 c.batch), (w.heap.size, 9, .int .i64 c.chunk), (w.heap.size, 10, .int .u64 c.limit), (w.heap.size, 11, .int .u64 c.most)] ++ ([(w.heap.size + 1, 0, .int .u8 f.kind), (w.heap.size + 1, 1, .int .u32 f.a), (w.heap.size + 1, 2, .int .u32 f.b), (w.heap.size + 1, 3, .int .u8 f.pc), (w.heap.size + 1, 4, .int .u8 f.i), (w.heap.size + 1, 5, .int .u8 f.j), (w.heap.size + 1, 6, .int .u8 f.n), (w.heap.size + 1, 7, .int .u8 f.p), (w.heap.size + 1, 8, .int .u8 f.h), (w.heap.size + 1, 9, .int .u32 f.x), (w.heap.size + 1, 10, .int .u32 f.y)] ++ [(w.heap.size + 1 + 1, 0, .int .u64 l.tag), (w.heap.size + 1 + 1, 1, .int .u64 l.a), (w.heap.size + 1 + 1, 2, .int .u64 l.b), (w.heap.size + 1 + 1, 3, .int .u64 l.c)]))) := Lib.hid (by rw [holds_iff]; simp [go_sem])
  clear hkd hnum hp _hi _h15 m5 m6 m7 m8 hT hQ
  go_enter Tryz.func41, Tryz.ntmps41
  go_upto_region 55 with fail
  go_region_held3 (fun W => W.cell? ⟨w.heap.size, 0, none⟩ = some (.int .u8 c.object) ∧ W.cell? ⟨w.heap.size, 1, none⟩ = some (.int .i64 c.instances) ∧ W.cell? ⟨w.heap.size, 2, none⟩ = some (.int .i64 c.threads) ∧ W.cell? ⟨w.heap.size, 3, none⟩ = some (.int .u8 c.kind) ∧ W.cell? ⟨w.heap.size, 4, none⟩ = some (.int .i64 c.stripes) ∧ W.cell? ⟨w.heap.size, 5, none⟩ = some (.int .i64 c.bits) ∧ W.cell? ⟨w.heap.size, 6, none⟩ = some (.int .i64 c.cap) ∧ W.cell? ⟨w.heap.size, 7, none⟩ = some (.int .i64 c.node) ∧ W.cell? ⟨w.heap.size, 8, none⟩ = some (.int .i64 c.batch) ∧ W.cell? ⟨w.heap.size, 9, none⟩ = some (.int .i64 c.chunk) ∧ W.cell? ⟨w.heap.size, 10, none⟩ = some (.int .u64 c.limit) ∧ W.cell? ⟨w.heap.size, 11, none⟩ = some (.int .u64 c.most) ∧ W.cell? ⟨w.heap.size + 1, 0, none⟩ = some (.int .u8 f.kind) ∧ W.cell? ⟨w.heap.size + 1, 1, none⟩ = some (.int .u32 f.a) ∧ W.cell? ⟨w.heap.size + 1, 2, none⟩ = some (.int .u32 f.b) ∧ W.cell? ⟨w.heap.size + 1, 3, none⟩ = some (.int .u8 f.pc) ∧ W.cell? ⟨w.heap.size + 1, 4, none⟩ = some (.int .u8 f.i) ∧ W.cell? ⟨w.heap.size + 1, 5, none⟩ = some (.int .u8 f.j) ∧ W.cell? ⟨w.heap.size + 1, 6, none⟩ = some (.int .u8 f.n) ∧ W.cell? ⟨w.heap.size + 1, 7, none⟩ = some (.int .u8 f.p) ∧ W.cell? ⟨w.heap.size + 1, 8, none⟩ = some (.int .u8 f.h) ∧ W.cell? ⟨w.heap.size + 1, 9, none⟩ = some (.int .u32 f.x) ∧ W.cell? ⟨w.heap.size + 1, 10, none⟩ = some (.int .u32 f.y) ∧ W.cell? ⟨w.heap.size + 1 + 1, 0, none⟩ = some (.int .u64 l.tag) ∧ W.cell? ⟨w.heap.size + 1 + 1, 1, none⟩ = some (.int .u64 l.a) ∧ W.cell? ⟨w.heap.size + 1 + 1, 2, none⟩ = some (.int .u64 l.b) ∧ W.cell? ⟨w.heap.size + 1 + 1, 3, none⟩ = some (.int .u64 l.c)) (exact HK.out.ext EX) (first | (go_at_call 81; refine (overR_any f l HL.out _).mono ?_; rintro e w1 ⟨rfl, os1, n1, rfl⟩; simp only [treOver]) | (go_at_call 85; refine (onR_any c { f with x := l.a % 4294967296, y := l.b % 4294967296 } (by (try dsimp only); omega) (by (try dsimp only); omega) (by (try dsimp only); omega) _).mono ?_; rintro e w2 ⟨rfl, os2, n2, rfl⟩; rw [HQ.out]))
  all_goals
    go_wp2
    (refine bodyPost_ret (v := tupFB (Q)) (by simp [results, Tryz.results41, go_sem]) rfl ⟨by rw [HS.out], EXX⟩)
theorem climb_pc (c : Cfg) (k : Nat) : ∀ g : Frm, treClimb c k { g with pc := 9 } = treClimb c k g := by
  induction k with
  | zero => intro g; rfl
  | succ k ih =>
    intro g
    unfold treClimb
    have h1 := ih { g with h := g.h + 1, i := divI c.node (g.h + 1).toNat g.p }
    have h2 : treClears c { ({ g with pc := 9 } : Frm) with h := g.h + 1 } = treClears c { g with h := g.h + 1 } := rfl
    simp only [h2]
    split
    · rfl
    · split
      · rfl
      · exact h1
theorem upw_pc (c : Cfg) (g : Frm) : treUpw c { g with pc := 9 } = treUpw c g := climb_pc c _ g
theorem behindR_11 (c : Cfg) (hc : TreOk c) (f : Frm) (hf : f.Fits) (hkd : f.kind = 4 ∨ f.kind = 5 ∨ f.kind = 6 ∨ f.kind = 7 ∨ f.kind = 8) (l : Cel) (hl : l.Fits) (hnum : treNum c f = true) (_hi : f.pc = 1 ∨ f.pc = 14 → f.i ≤ 32) (_h15 : f.pc = 15 → 1 ≤ f.n) (hp : f.pc = 11) (w : World) : Calls Tryz.prog 41 #[c.v, f.v, l.v] w
    fun e w' => e = .returned (tupFB (treBehind c f l)) ∧ Ext w w' := by
  have HF := Lib.hid hf
  have HL := Lib.hid hl
  have HKD := Lib.hid hkd
  obtain ⟨m1, m2, m3, m4, m5, m6, m7, m8⟩ := treNum_facts hnum
  have htop := topI_bd c.cap c.node
  change 0 ≤ treTop c ∧ treTop c ≤ 4 at htop
  have hcap := hc.cap
  have hchunk := hc.chunk
  obtain ⟨⟨k0, k1⟩, ⟨a0, a1⟩, ⟨b0, b1⟩, ⟨p0, p1⟩, ⟨i0, i1⟩, ⟨j0, j1⟩, ⟨n0, n1⟩, ⟨q0, q1⟩, ⟨h0, h1⟩, ⟨x0, x1⟩, ⟨y0, y1⟩⟩ := hf
  obtain ⟨⟨t0, t1⟩, ⟨la0, la1⟩, ⟨lb0, lb1⟩, ⟨lc0, lc1⟩⟩ := hl
  obtain ⟨T, hT⟩ : ∃ T, treTop c = T := ⟨_, rfl⟩
  have HTOP := Lib.hid hT
  rw [hT] at m4 htop
  have hp' : (f.pc == 11) = true := by simpa using hp
  have m9 := m6 (Or.inr hp)
  have hul := treUp_le hc (n := f.n) (h := f.h) n0 (by omega)
  obtain ⟨U, hU⟩ : ∃ U, treUp c f.n f.h = U := ⟨_, rfl⟩
  rw [hU] at m9 hul
  have HU := Lib.hid hU
  have hw1 : IntKind.u8.wrap (f.i + 1) = f.i + 1 := by rw [IntKind.wrap_u8]; omega
  have hw2 : (f.i + 1) % 256 = f.i + 1 := by omega
  have hw3 : IntKind.i64.wrap (f.i + 1) = f.i + 1 := by rw [IntKind.wrap_i64]; omega
  have HF9 : Hid (Frm.Fits { f with i := f.i + 1 }) := Lib.hid ⟨HF.out.kind, HF.out.a, HF.out.b, HF.out.pc, by dsimp only; omega, HF.out.j, HF.out.n, HF.out.p, HF.out.h, HF.out.x, HF.out.y⟩
  have hcl : treClears c { f with i := f.i + 1 } = treClears c f := rfl
  obtain ⟨CV, hCV⟩ : ∃ b, treClears c f = b := ⟨_, rfl⟩
  have HCL : Hid (treClears c { f with i := f.i + 1 } = CV) := Lib.hid (hcl.trans hCV)
  cases zz : decide (f.i + 1 < U)
  · have hz : ¬ f.i + 1 < U := by simpa using zz
    cases CV
    · have hpc9' : ∀ g : Frm, treUpw c { g with i := g.i + 1, pc := 9 } = treUpw c { g with i := g.i + 1 } := fun g => upw_pc c { g with i := g.i + 1 }
      obtain ⟨Q, hQ⟩ : ∃ Q, treUpw c { f with i := f.i + 1 } = Q := ⟨_, rfl⟩
      have HQ := Lib.hid hQ
      have HFC := HF9
      have HS : Hid (treBehind c f l = (Q, false)) := Lib.hid (by
        rw [beh_11 hp, hU, if_neg hz, hCV, if_neg (by decide), hpc9' f, hQ])
      clear hQ hcl hCV hU hpc9'
      clear hkd hnum hp _hi _h15 m5 m6 m7 m8 hT
      go_enter Tryz.func41, Tryz.ntmps41
      go_upto_region 34 with fail
      (refine wp_region_ext_lit (by kernel_rfl) (by kernel_rfl) ?_); (repeat (go_big_quiet_step ((go_at_call 60; exact quiet_ext ((upR_any c hc f.n f.h (by omega) (by omega) _).mono fun e w' ⟨he, hx⟩ => ⟨by rw [he, HU.out], hx⟩))))); (refine wpQuiet_nil ?_; intro _ hw'; obtain ⟨⟨osq, nq⟩, hw''⟩ := hw'; replace hw'' : _ = grew _ osq nq := hw''; subst hw'')
      go_wp2_with (first | (go_at_call 83; refine (clearsR_any c hc { f with i := f.i + 1 } HF9.out (by (try dsimp only); omega) _).mono ?_; rintro e w1 ⟨rfl, os2, n2, rfl⟩; rw [HCL.out]) | (go_at_call 82; refine (climbR_any c hc ({ f with i := f.i + 1 }) HFC.out (by (try dsimp only); omega) _).mono ?_; rintro e w2 ⟨rfl, os2, n2, rfl⟩; rw [HQ.out]))
      all_goals (refine bodyPost_ret (v := tupFB ((Q, false))) (by simp [results, Tryz.results41, go_sem]) rfl ⟨by rw [HS.out], EXX⟩)
    · have HS : Hid (treBehind c f l = ({ f with i := f.i + 1, pc := 12 }, false)) := Lib.hid (by
        rw [beh_11 hp, hU, if_neg hz, hCV, if_pos rfl])
      clear hcl hCV hU
      clear hkd hnum hp _hi _h15 m5 m6 m7 m8 hT
      go_enter Tryz.func41, Tryz.ntmps41
      go_upto_region 34 with fail
      (refine wp_region_ext_lit (by kernel_rfl) (by kernel_rfl) ?_); (repeat (go_big_quiet_step ((go_at_call 60; exact quiet_ext ((upR_any c hc f.n f.h (by omega) (by omega) _).mono fun e w' ⟨he, hx⟩ => ⟨by rw [he, HU.out], hx⟩))))); (refine wpQuiet_nil ?_; intro _ hw'; obtain ⟨⟨osq, nq⟩, hw''⟩ := hw'; replace hw'' : _ = grew _ osq nq := hw''; subst hw'')
      go_wp2_with (first | (go_at_call 83; refine (clearsR_any c hc { f with i := f.i + 1 } HF9.out (by (try dsimp only); omega) _).mono ?_; rintro e w1 ⟨rfl, os2, n2, rfl⟩; rw [HCL.out]) | (go_at_call 79; refine (atR_any ({ f with i := f.i + 1 }) _ _).mono ?_; rintro e w1 ⟨rfl, os1, n1, rfl⟩))
      all_goals (refine bodyPost_ret (v := tupFB (({ f with i := f.i + 1, pc := 12 }, false))) (by simp [results, Tryz.results41, go_sem]) rfl ⟨by rw [HS.out], EXX⟩)
  · have hz : f.i + 1 < U := by simpa using zz
    have HS : Hid (treBehind c f l = ({ f with i := f.i + 1, pc := 9 }, false)) := Lib.hid (by
      rw [beh_11 hp, hU, if_pos hz])
    clear hcl hCV hU
    clear hkd hnum hp _hi _h15 m5 m6 m7 m8 hT
    go_enter Tryz.func41, Tryz.ntmps41
    go_upto_region 34 with fail
    (refine wp_region_ext_lit (by kernel_rfl) (by kernel_rfl) ?_); (repeat (go_big_quiet_step ((go_at_call 60; exact quiet_ext ((upR_any c hc f.n f.h (by omega) (by omega) _).mono fun e w' ⟨he, hx⟩ => ⟨by rw [he, HU.out], hx⟩))))); (refine wpQuiet_nil ?_; intro _ hw'; obtain ⟨⟨osq, nq⟩, hw''⟩ := hw'; replace hw'' : _ = grew _ osq nq := hw''; subst hw'')
    go_wp2_with (go_at_call 79; refine (atR_any ({ f with i := f.i + 1 }) _ _).mono ?_; rintro e w1 ⟨rfl, os1, n1, rfl⟩)
    all_goals (refine bodyPost_ret (v := tupFB (({ f with i := f.i + 1, pc := 9 }, false))) (by simp [results, Tryz.results41, go_sem]) rfl ⟨by rw [HS.out], EXX⟩)
theorem behindR_0 (c : Cfg) (hc : TreOk c) (f : Frm) (hf : f.Fits) (hkd : f.kind = 4 ∨ f.kind = 5 ∨ f.kind = 6 ∨ f.kind = 7 ∨ f.kind = 8) (l : Cel) (hl : l.Fits) (hnum : treNum c f = true) (_hi : f.pc = 1 ∨ f.pc = 14 → f.i ≤ 32) (_h15 : f.pc = 15 → 1 ≤ f.n) (hp : f.pc = 0) (w : World) : Calls Tryz.prog 41 #[c.v, f.v, l.v] w
    fun e w' => e = .returned (tupFB (treBehind c f l)) ∧ Ext w w' := by
  have HF := Lib.hid hf
  have HL := Lib.hid hl
  have HKD := Lib.hid hkd
  obtain ⟨m1, m2, m3, m4, m5, m6, m7, m8⟩ := treNum_facts hnum
  have htop := topI_bd c.cap c.node
  change 0 ≤ treTop c ∧ treTop c ≤ 4 at htop
  have hcap := hc.cap
  have hchunk := hc.chunk
  obtain ⟨⟨k0, k1⟩, ⟨a0, a1⟩, ⟨b0, b1⟩, ⟨p0, p1⟩, ⟨i0, i1⟩, ⟨j0, j1⟩, ⟨n0, n1⟩, ⟨q0, q1⟩, ⟨h0, h1⟩, ⟨x0, x1⟩, ⟨y0, y1⟩⟩ := hf
  obtain ⟨⟨t0, t1⟩, ⟨la0, la1⟩, ⟨lb0, lb1⟩, ⟨lc0, lc1⟩⟩ := hl
  obtain ⟨T, hT⟩ : ∃ T, treTop c = T := ⟨_, rfl⟩
  have HTOP := Lib.hid hT
  rw [hT] at m4 htop
  have hp' : (f.pc == 0) = true := by simpa using hp
  obtain ⟨M, hM⟩ : ∃ M, (if l.a < c.cap then l.a else c.cap) = M := ⟨_, rfl⟩
  have hM2 : 0 ≤ M ∧ M ≤ 32 := by rw [← hM]; split <;> omega
  have hw1 : IntKind.u64.wrap c.cap = c.cap := by rw [IntKind.wrap_u64]; omega
  have hw2 : IntKind.u8.wrap M = M := by rw [IntKind.wrap_u8]; omega
  have hw4 : IntKind.u8.wrap c.cap = c.cap := by rw [IntKind.wrap_u8]; omega
  have hwT : IntKind.u8.wrap T = T := by rw [IntKind.wrap_u8]; omega
  have HFN : Hid (Frm.Fits { f with n := 0 }) := Lib.hid ⟨HF.out.kind, HF.out.a, HF.out.b, HF.out.pc, HF.out.i, HF.out.j, by simp, HF.out.p, HF.out.h, HF.out.x, HF.out.y⟩
  cases lt : decide (l.a < c.cap)
  · have hlt : ¬ l.a < c.cap := by simpa using lt
    obtain rfl : c.cap = M := by rw [← hM, if_neg hlt]
    cases zz : (c.cap == 0)
    · have HS : Hid (treBehind c f l = ({ f with n := c.cap, h := T, i := 0, pc := 1 }, false)) := Lib.hid (by rw [beh_0 hp, hM, zz, hT]; rfl)
      clear hM
      clear hkd hnum hp _hi _h15 m5 m6 m7 m8 hT
      go_enter Tryz.func41, Tryz.ntmps41
      go_wp2_with (first | (go_at_call 78; refine (topR13_any c hc _).mono ?_; rintro e w3 ⟨rfl, os3, n3, rfl⟩; rw [HTOP.out]) | (go_at_call 79; refine (atR_any ({ f with n := c.cap, h := T, i := 0 }) _ _).mono ?_; rintro e w1 ⟨rfl, os1, n1, rfl⟩))
      all_goals (refine bodyPost_ret (v := tupFB (({ f with n := c.cap, h := T, i := 0, pc := 1 }, false))) (by simp [results, Tryz.results41, go_sem]) rfl ⟨by rw [HS.out], EXX⟩)
    · obtain ⟨Q, hQ⟩ : ∃ Q, treNone c { f with n := 0 } = Q := ⟨_, rfl⟩
      have HQ := Lib.hid hQ
      have hm0 : c.cap = 0 := by simpa using zz
      omega
  · have hlt : l.a < c.cap := by simpa using lt
    obtain rfl : l.a = M := by rw [← hM, if_pos hlt]
    cases zz : (l.a == 0)
    · have HS : Hid (treBehind c f l = ({ f with n := l.a, h := T, i := 0, pc := 1 }, false)) := Lib.hid (by rw [beh_0 hp, hM, zz, hT]; rfl)
      clear hM
      clear hkd hnum hp _hi _h15 m5 m6 m7 m8 hT
      go_enter Tryz.func41, Tryz.ntmps41
      go_wp2_with (first | (go_at_call 78; refine (topR13_any c hc _).mono ?_; rintro e w3 ⟨rfl, os3, n3, rfl⟩; rw [HTOP.out]) | (go_at_call 79; refine (atR_any ({ f with n := l.a, h := T, i := 0 }) _ _).mono ?_; rintro e w1 ⟨rfl, os1, n1, rfl⟩))
      all_goals (refine bodyPost_ret (v := tupFB (({ f with n := l.a, h := T, i := 0, pc := 1 }, false))) (by simp [results, Tryz.results41, go_sem]) rfl ⟨by rw [HS.out], EXX⟩)
    · obtain ⟨Q, hQ⟩ : ∃ Q, treNone c { f with n := 0 } = Q := ⟨_, rfl⟩
      have HQ := Lib.hid hQ
      have hm0 : l.a = 0 := by simpa using zz
      have HS : Hid (treBehind c f l = (Q, false)) := Lib.hid (by rw [beh_0 hp, hM, zz, hQ]; rfl)
      clear hM hQ
      clear hkd hnum hp _hi _h15 m5 m6 m7 m8 hT
      go_enter Tryz.func41, Tryz.ntmps41
      go_wp2_with (go_at_call 77; refine (noneR_any c ({ f with n := 0 }) HFN.out _).mono ?_; rintro e w2 ⟨rfl, os2, n2, rfl⟩; rw [HQ.out])
      all_goals (refine bodyPost_ret (v := tupFB ((Q, false))) (by simp [results, Tryz.results41, go_sem]) rfl ⟨by rw [HS.out], EXX⟩)
end Go.Proofs.YtmhmaifmendebaaGreatDoor.tree
