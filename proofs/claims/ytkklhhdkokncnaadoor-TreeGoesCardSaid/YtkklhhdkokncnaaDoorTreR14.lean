/- The walk of the reference's 'Behind', layer 'tree'. -/
import Derived.Test.YtkklhhdkokncnaaDoorGl
namespace Go.Proofs.YtkklhhdkokncnaaDoor
open Go Go.RowKit

set_option maxRecDepth 100000 in
set_option maxHeartbeats 8000000 in
theorem behindR_3 (c : Cfg) (hc : TreOk c) (f : Frm) (hf : f.Fits) (hkd : f.kind = 4 ∨ f.kind = 5 ∨ f.kind = 6 ∨ f.kind = 7 ∨ f.kind = 8) (l : Cel) (hl : l.Fits) (hnum : treNum c f = true) (_hi : f.pc = 1 ∨ f.pc = 14 → f.i ≤ 32) (_h15 : f.pc = 15 → 1 ≤ f.n) (hp : f.pc = 3) (w : World) : Calls Tryd.prog 35 #[c.v, f.v, l.v] w
    fun e w' => e = .returned (tupFB (treBehind c f l)) ∧ Ext w w' := by
  have HF := Lib.hid hf
  have HL := Lib.hid hl
  have HKD := Lib.hid hkd
  obtain ⟨m1, m2, m3, m4, m5, m6, m7, m8⟩ := treNum_facts hnum
  have htop := topI_bd c.cap c.node
  change 0 ≤ treTop c ∧ treTop c ≤ 4 at htop
  have hcap := hc.cap
  have hchunk := hc.chunk
  obtain ⟨⟨k0, k1⟩, ⟨a0, a1⟩, ⟨b0, b1⟩, ⟨p0, p1⟩, ⟨i0, i1⟩, ⟨j0, j1⟩, ⟨n0, n1⟩, ⟨q0, q1⟩, ⟨h0, h1⟩, ⟨x0, x1⟩, ⟨y0, y1⟩⟩ := hf
  obtain ⟨⟨t0, t1⟩, ⟨la0, la1⟩, ⟨lb0, lb1⟩, ⟨lc0, lc1⟩⟩ := hl
  obtain ⟨T, hT⟩ : ∃ T, treTop c = T := ⟨_, rfl⟩
  have HTOP := Lib.hid hT
  rw [hT] at m4 htop
  have hp' : (f.pc == 3) = true := by simpa using hp
  have HS : Hid (treBehind c f l = ({ f with x := l.a % 4294967296, y := l.b % 4294967296, pc := 20 }, true)) := Lib.hid (by simp [treBehind, treOver, hp])
  clear hkd hnum hp _hi _h15 m5 m6 m7 m8 hT
  go_enter Tryd.func35, Tryd.ntmps35
  go_wp2_with (first | (go_at_call 79; refine (overR_any f l HL.out _).mono ?_; rintro e w1 ⟨rfl, os1, n1, rfl⟩; simp only [treOver]) | (go_at_call 77; refine (atR_any ({ f with x := l.a % 4294967296, y := l.b % 4294967296 }) _ _).mono ?_; rintro e w1 ⟨rfl, os1, n1, rfl⟩))
  all_goals (refine bodyPost_ret (v := tupFB (({ f with x := l.a % 4294967296, y := l.b % 4294967296, pc := 20 }, true))) (by simp [results, Tryd.results35, go_sem]) rfl ⟨by rw [HS.out], (by first | ((repeat (first | with_reducible exact Ext.refl _ | with_reducible assumption | with_reducible refine Ext.alloc ?_ _ | with_reducible refine Ext.gr ?_ _ | with_reducible refine Ext.drewN ?_ _ | with_reducible refine Ext.drew ?_ | with_reducible refine Ext.setCell ?_ ?_ _ | with_reducible refine Ext.more ?_ _ _ | (show _ ≤ _; dsimp only; omega))); done) | ((repeat (first | with_reducible exact Ext.refl _ | with_reducible assumption | with_reducible apply Ext.bothR | with_reducible refine Ext.alloc ?_ _ | with_reducible refine Ext.gr ?_ _ | with_reducible refine Ext.drewN ?_ _ | with_reducible refine Ext.drew ?_ | with_reducible refine Ext.setCell ?_ ?_ _ | with_reducible refine Ext.more ?_ _ _ | (show _ ≤ _; dsimp only; omega))); done))⟩)
set_option maxRecDepth 100000 in
set_option maxHeartbeats 8000000 in
theorem behindR_4 (c : Cfg) (hc : TreOk c) (f : Frm) (hf : f.Fits) (hkd : f.kind = 4 ∨ f.kind = 5 ∨ f.kind = 6 ∨ f.kind = 7 ∨ f.kind = 8) (l : Cel) (hl : l.Fits) (hnum : treNum c f = true) (_hi : f.pc = 1 ∨ f.pc = 14 → f.i ≤ 32) (_h15 : f.pc = 15 → 1 ≤ f.n) (hp : f.pc = 4) (w : World) : Calls Tryd.prog 35 #[c.v, f.v, l.v] w
    fun e w' => e = .returned (tupFB (treBehind c f l)) ∧ Ext w w' := by
  have HF := Lib.hid hf
  have HL := Lib.hid hl
  have HKD := Lib.hid hkd
  obtain ⟨m1, m2, m3, m4, m5, m6, m7, m8⟩ := treNum_facts hnum
  have htop := topI_bd c.cap c.node
  change 0 ≤ treTop c ∧ treTop c ≤ 4 at htop
  have hcap := hc.cap
  have hchunk := hc.chunk
  obtain ⟨⟨k0, k1⟩, ⟨a0, a1⟩, ⟨b0, b1⟩, ⟨p0, p1⟩, ⟨i0, i1⟩, ⟨j0, j1⟩, ⟨n0, n1⟩, ⟨q0, q1⟩, ⟨h0, h1⟩, ⟨x0, x1⟩, ⟨y0, y1⟩⟩ := hf
  obtain ⟨⟨t0, t1⟩, ⟨la0, la1⟩, ⟨lb0, lb1⟩, ⟨lc0, lc1⟩⟩ := hl
  obtain ⟨T, hT⟩ : ∃ T, treTop c = T := ⟨_, rfl⟩
  have HTOP := Lib.hid hT
  rw [hT] at m4 htop
  have hp' : (f.pc == 4) = true := by simpa using hp
  have HS : Hid (treBehind c f l = ({ f with pc := 23 }, false)) := Lib.hid (by simp [treBehind, hp])
  clear hkd hnum hp _hi _h15 m5 m6 m7 m8 hT
  go_enter Tryd.func35, Tryd.ntmps35
  go_wp2_with (go_at_call 77; refine (atR_any (f) _ _).mono ?_; rintro e w1 ⟨rfl, os1, n1, rfl⟩)
  all_goals (refine bodyPost_ret (v := tupFB (({ f with pc := 23 }, false))) (by simp [results, Tryd.results35, go_sem]) rfl ⟨by rw [HS.out], (by first | ((repeat (first | with_reducible exact Ext.refl _ | with_reducible assumption | with_reducible refine Ext.alloc ?_ _ | with_reducible refine Ext.gr ?_ _ | with_reducible refine Ext.drewN ?_ _ | with_reducible refine Ext.drew ?_ | with_reducible refine Ext.setCell ?_ ?_ _ | with_reducible refine Ext.more ?_ _ _ | (show _ ≤ _; dsimp only; omega))); done) | ((repeat (first | with_reducible exact Ext.refl _ | with_reducible assumption | with_reducible apply Ext.bothR | with_reducible refine Ext.alloc ?_ _ | with_reducible refine Ext.gr ?_ _ | with_reducible refine Ext.drewN ?_ _ | with_reducible refine Ext.drew ?_ | with_reducible refine Ext.setCell ?_ ?_ _ | with_reducible refine Ext.more ?_ _ _ | (show _ ≤ _; dsimp only; omega))); done))⟩)
set_option maxRecDepth 100000 in
set_option maxHeartbeats 8000000 in
theorem behindR_5 (c : Cfg) (hc : TreOk c) (f : Frm) (hf : f.Fits) (hkd : f.kind = 4 ∨ f.kind = 5 ∨ f.kind = 6 ∨ f.kind = 7 ∨ f.kind = 8) (l : Cel) (hl : l.Fits) (hnum : treNum c f = true) (_hi : f.pc = 1 ∨ f.pc = 14 → f.i ≤ 32) (_h15 : f.pc = 15 → 1 ≤ f.n) (hp : f.pc = 5) (w : World) : Calls Tryd.prog 35 #[c.v, f.v, l.v] w
    fun e w' => e = .returned (tupFB (treBehind c f l)) ∧ Ext w w' := by
  have HF := Lib.hid hf
  have HL := Lib.hid hl
  have HKD := Lib.hid hkd
  obtain ⟨m1, m2, m3, m4, m5, m6, m7, m8⟩ := treNum_facts hnum
  have htop := topI_bd c.cap c.node
  change 0 ≤ treTop c ∧ treTop c ≤ 4 at htop
  have hcap := hc.cap
  have hchunk := hc.chunk
  obtain ⟨⟨k0, k1⟩, ⟨a0, a1⟩, ⟨b0, b1⟩, ⟨p0, p1⟩, ⟨i0, i1⟩, ⟨j0, j1⟩, ⟨n0, n1⟩, ⟨q0, q1⟩, ⟨h0, h1⟩, ⟨x0, x1⟩, ⟨y0, y1⟩⟩ := hf
  obtain ⟨⟨t0, t1⟩, ⟨la0, la1⟩, ⟨lb0, lb1⟩, ⟨lc0, lc1⟩⟩ := hl
  obtain ⟨T, hT⟩ : ∃ T, treTop c = T := ⟨_, rfl⟩
  have HTOP := Lib.hid hT
  rw [hT] at m4 htop
  have hp' : (f.pc == 5) = true := by simpa using hp
  have HS : Hid (treBehind c f l = ({ f with x := l.a % 4294967296, y := l.b % 4294967296, pc := 6 }, false)) := Lib.hid (by simp [treBehind, treOver, hp])
  clear hkd hnum hp _hi _h15 m5 m6 m7 m8 hT
  go_enter Tryd.func35, Tryd.ntmps35
  go_wp2_with (first | (go_at_call 79; refine (overR_any f l HL.out _).mono ?_; rintro e w1 ⟨rfl, os1, n1, rfl⟩; simp only [treOver]) | (go_at_call 77; refine (atR_any ({ f with x := l.a % 4294967296, y := l.b % 4294967296 }) _ _).mono ?_; rintro e w1 ⟨rfl, os1, n1, rfl⟩))
  all_goals (refine bodyPost_ret (v := tupFB (({ f with x := l.a % 4294967296, y := l.b % 4294967296, pc := 6 }, false))) (by simp [results, Tryd.results35, go_sem]) rfl ⟨by rw [HS.out], (by first | ((repeat (first | with_reducible exact Ext.refl _ | with_reducible assumption | with_reducible refine Ext.alloc ?_ _ | with_reducible refine Ext.gr ?_ _ | with_reducible refine Ext.drewN ?_ _ | with_reducible refine Ext.drew ?_ | with_reducible refine Ext.setCell ?_ ?_ _ | with_reducible refine Ext.more ?_ _ _ | (show _ ≤ _; dsimp only; omega))); done) | ((repeat (first | with_reducible exact Ext.refl _ | with_reducible assumption | with_reducible apply Ext.bothR | with_reducible refine Ext.alloc ?_ _ | with_reducible refine Ext.gr ?_ _ | with_reducible refine Ext.drewN ?_ _ | with_reducible refine Ext.drew ?_ | with_reducible refine Ext.setCell ?_ ?_ _ | with_reducible refine Ext.more ?_ _ _ | (show _ ≤ _; dsimp only; omega))); done))⟩)
set_option maxRecDepth 100000 in
set_option maxHeartbeats 8000000 in
theorem behindR_9 (c : Cfg) (hc : TreOk c) (f : Frm) (hf : f.Fits) (hkd : f.kind = 4 ∨ f.kind = 5 ∨ f.kind = 6 ∨ f.kind = 7 ∨ f.kind = 8) (l : Cel) (hl : l.Fits) (hnum : treNum c f = true) (_hi : f.pc = 1 ∨ f.pc = 14 → f.i ≤ 32) (_h15 : f.pc = 15 → 1 ≤ f.n) (hp : f.pc = 9) (w : World) : Calls Tryd.prog 35 #[c.v, f.v, l.v] w
    fun e w' => e = .returned (tupFB (treBehind c f l)) ∧ Ext w w' := by
  have HF := Lib.hid hf
  have HL := Lib.hid hl
  have HKD := Lib.hid hkd
  obtain ⟨m1, m2, m3, m4, m5, m6, m7, m8⟩ := treNum_facts hnum
  have htop := topI_bd c.cap c.node
  change 0 ≤ treTop c ∧ treTop c ≤ 4 at htop
  have hcap := hc.cap
  have hchunk := hc.chunk
  obtain ⟨⟨k0, k1⟩, ⟨a0, a1⟩, ⟨b0, b1⟩, ⟨p0, p1⟩, ⟨i0, i1⟩, ⟨j0, j1⟩, ⟨n0, n1⟩, ⟨q0, q1⟩, ⟨h0, h1⟩, ⟨x0, x1⟩, ⟨y0, y1⟩⟩ := hf
  obtain ⟨⟨t0, t1⟩, ⟨la0, la1⟩, ⟨lb0, lb1⟩, ⟨lc0, lc1⟩⟩ := hl
  obtain ⟨T, hT⟩ : ∃ T, treTop c = T := ⟨_, rfl⟩
  have HTOP := Lib.hid hT
  rw [hT] at m4 htop
  have hp' : (f.pc == 9) = true := by simpa using hp
  have HS : Hid (treBehind c f l = ({ f with x := l.a % 4294967296, y := l.b % 4294967296, pc := 11 }, false)) := Lib.hid (by simp [treBehind, treOver, hp])
  clear hkd hnum hp _hi _h15 m5 m6 m7 m8 hT
  go_enter Tryd.func35, Tryd.ntmps35
  go_wp2_with (first | (go_at_call 79; refine (overR_any f l HL.out _).mono ?_; rintro e w1 ⟨rfl, os1, n1, rfl⟩; simp only [treOver]) | (go_at_call 77; refine (atR_any ({ f with x := l.a % 4294967296, y := l.b % 4294967296 }) _ _).mono ?_; rintro e w1 ⟨rfl, os1, n1, rfl⟩))
  all_goals (refine bodyPost_ret (v := tupFB (({ f with x := l.a % 4294967296, y := l.b % 4294967296, pc := 11 }, false))) (by simp [results, Tryd.results35, go_sem]) rfl ⟨by rw [HS.out], (by first | ((repeat (first | with_reducible exact Ext.refl _ | with_reducible assumption | with_reducible refine Ext.alloc ?_ _ | with_reducible refine Ext.gr ?_ _ | with_reducible refine Ext.drewN ?_ _ | with_reducible refine Ext.drew ?_ | with_reducible refine Ext.setCell ?_ ?_ _ | with_reducible refine Ext.more ?_ _ _ | (show _ ≤ _; dsimp only; omega))); done) | ((repeat (first | with_reducible exact Ext.refl _ | with_reducible assumption | with_reducible apply Ext.bothR | with_reducible refine Ext.alloc ?_ _ | with_reducible refine Ext.gr ?_ _ | with_reducible refine Ext.drewN ?_ _ | with_reducible refine Ext.drew ?_ | with_reducible refine Ext.setCell ?_ ?_ _ | with_reducible refine Ext.more ?_ _ _ | (show _ ≤ _; dsimp only; omega))); done))⟩)
set_option maxRecDepth 100000 in
set_option maxHeartbeats 8000000 in
theorem behindR_13 (c : Cfg) (hc : TreOk c) (f : Frm) (hf : f.Fits) (hkd : f.kind = 4 ∨ f.kind = 5 ∨ f.kind = 6 ∨ f.kind = 7 ∨ f.kind = 8) (l : Cel) (hl : l.Fits) (hnum : treNum c f = true) (_hi : f.pc = 1 ∨ f.pc = 14 → f.i ≤ 32) (_h15 : f.pc = 15 → 1 ≤ f.n) (hp : f.pc = 13) (w : World) : Calls Tryd.prog 35 #[c.v, f.v, l.v] w
    fun e w' => e = .returned (tupFB (treBehind c f l)) ∧ Ext w w' := by
  have HF := Lib.hid hf
  have HL := Lib.hid hl
  have HKD := Lib.hid hkd
  obtain ⟨m1, m2, m3, m4, m5, m6, m7, m8⟩ := treNum_facts hnum
  have htop := topI_bd c.cap c.node
  change 0 ≤ treTop c ∧ treTop c ≤ 4 at htop
  have hcap := hc.cap
  have hchunk := hc.chunk
  obtain ⟨⟨k0, k1⟩, ⟨a0, a1⟩, ⟨b0, b1⟩, ⟨p0, p1⟩, ⟨i0, i1⟩, ⟨j0, j1⟩, ⟨n0, n1⟩, ⟨q0, q1⟩, ⟨h0, h1⟩, ⟨x0, x1⟩, ⟨y0, y1⟩⟩ := hf
  obtain ⟨⟨t0, t1⟩, ⟨la0, la1⟩, ⟨lb0, lb1⟩, ⟨lc0, lc1⟩⟩ := hl
  obtain ⟨T, hT⟩ : ∃ T, treTop c = T := ⟨_, rfl⟩
  have HTOP := Lib.hid hT
  rw [hT] at m4 htop
  have hp' : (f.pc == 13) = true := by simpa using hp
  have HS : Hid (treBehind c f l = ({ f with x := l.a % 4294967296, y := l.b % 4294967296, pc := 14 }, false)) := Lib.hid (by simp [treBehind, treOver, hp])
  clear hkd hnum hp _hi _h15 m5 m6 m7 m8 hT
  go_enter Tryd.func35, Tryd.ntmps35
  go_wp2_with (first | (go_at_call 79; refine (overR_any f l HL.out _).mono ?_; rintro e w1 ⟨rfl, os1, n1, rfl⟩; simp only [treOver]) | (go_at_call 77; refine (atR_any ({ f with x := l.a % 4294967296, y := l.b % 4294967296 }) _ _).mono ?_; rintro e w1 ⟨rfl, os1, n1, rfl⟩))
  all_goals (refine bodyPost_ret (v := tupFB (({ f with x := l.a % 4294967296, y := l.b % 4294967296, pc := 14 }, false))) (by simp [results, Tryd.results35, go_sem]) rfl ⟨by rw [HS.out], (by first | ((repeat (first | with_reducible exact Ext.refl _ | with_reducible assumption | with_reducible refine Ext.alloc ?_ _ | with_reducible refine Ext.gr ?_ _ | with_reducible refine Ext.drewN ?_ _ | with_reducible refine Ext.drew ?_ | with_reducible refine Ext.setCell ?_ ?_ _ | with_reducible refine Ext.more ?_ _ _ | (show _ ≤ _; dsimp only; omega))); done) | ((repeat (first | with_reducible exact Ext.refl _ | with_reducible assumption | with_reducible apply Ext.bothR | with_reducible refine Ext.alloc ?_ _ | with_reducible refine Ext.gr ?_ _ | with_reducible refine Ext.drewN ?_ _ | with_reducible refine Ext.drew ?_ | with_reducible refine Ext.setCell ?_ ?_ _ | with_reducible refine Ext.more ?_ _ _ | (show _ ≤ _; dsimp only; omega))); done))⟩)
set_option maxRecDepth 100000 in
set_option maxHeartbeats 8000000 in
theorem behindR_20 (c : Cfg) (hc : TreOk c) (f : Frm) (hf : f.Fits) (hkd : f.kind = 4 ∨ f.kind = 5 ∨ f.kind = 6 ∨ f.kind = 7 ∨ f.kind = 8) (l : Cel) (hl : l.Fits) (hnum : treNum c f = true) (_hi : f.pc = 1 ∨ f.pc = 14 → f.i ≤ 32) (_h15 : f.pc = 15 → 1 ≤ f.n) (hp : f.pc = 20) (w : World) : Calls Tryd.prog 35 #[c.v, f.v, l.v] w
    fun e w' => e = .returned (tupFB (treBehind c f l)) ∧ Ext w w' := by
  have HF := Lib.hid hf
  have HL := Lib.hid hl
  have HKD := Lib.hid hkd
  obtain ⟨m1, m2, m3, m4, m5, m6, m7, m8⟩ := treNum_facts hnum
  have htop := topI_bd c.cap c.node
  change 0 ≤ treTop c ∧ treTop c ≤ 4 at htop
  have hcap := hc.cap
  have hchunk := hc.chunk
  obtain ⟨⟨k0, k1⟩, ⟨a0, a1⟩, ⟨b0, b1⟩, ⟨p0, p1⟩, ⟨i0, i1⟩, ⟨j0, j1⟩, ⟨n0, n1⟩, ⟨q0, q1⟩, ⟨h0, h1⟩, ⟨x0, x1⟩, ⟨y0, y1⟩⟩ := hf
  obtain ⟨⟨t0, t1⟩, ⟨la0, la1⟩, ⟨lb0, lb1⟩, ⟨lc0, lc1⟩⟩ := hl
  obtain ⟨T, hT⟩ : ∃ T, treTop c = T := ⟨_, rfl⟩
  have HTOP := Lib.hid hT
  rw [hT] at m4 htop
  have hp' : (f.pc == 20) = true := by simpa using hp
  have HS : Hid (treBehind c f l = (f, false)) := Lib.hid (by simp [treBehind, hp])
  clear hkd hnum hp _hi _h15 m5 m6 m7 m8 hT
  go_enter Tryd.func35, Tryd.ntmps35
  go_wp2
  all_goals (refine bodyPost_ret (v := tupFB ((f, false))) (by simp [results, Tryd.results35, go_sem]) rfl ⟨by rw [HS.out], (by first | ((repeat (first | with_reducible exact Ext.refl _ | with_reducible assumption | with_reducible refine Ext.alloc ?_ _ | with_reducible refine Ext.gr ?_ _ | with_reducible refine Ext.drewN ?_ _ | with_reducible refine Ext.drew ?_ | with_reducible refine Ext.setCell ?_ ?_ _ | with_reducible refine Ext.more ?_ _ _ | (show _ ≤ _; dsimp only; omega))); done) | ((repeat (first | with_reducible exact Ext.refl _ | with_reducible assumption | with_reducible apply Ext.bothR | with_reducible refine Ext.alloc ?_ _ | with_reducible refine Ext.gr ?_ _ | with_reducible refine Ext.drewN ?_ _ | with_reducible refine Ext.drew ?_ | with_reducible refine Ext.setCell ?_ ?_ _ | with_reducible refine Ext.more ?_ _ _ | (show _ ≤ _; dsimp only; omega))); done))⟩)
set_option maxRecDepth 100000 in
set_option maxHeartbeats 8000000 in
theorem behindR_21 (c : Cfg) (hc : TreOk c) (f : Frm) (hf : f.Fits) (hkd : f.kind = 4 ∨ f.kind = 5 ∨ f.kind = 6 ∨ f.kind = 7 ∨ f.kind = 8) (l : Cel) (hl : l.Fits) (hnum : treNum c f = true) (_hi : f.pc = 1 ∨ f.pc = 14 → f.i ≤ 32) (_h15 : f.pc = 15 → 1 ≤ f.n) (hp : f.pc = 21) (w : World) : Calls Tryd.prog 35 #[c.v, f.v, l.v] w
    fun e w' => e = .returned (tupFB (treBehind c f l)) ∧ Ext w w' := by
  have HF := Lib.hid hf
  have HL := Lib.hid hl
  have HKD := Lib.hid hkd
  obtain ⟨m1, m2, m3, m4, m5, m6, m7, m8⟩ := treNum_facts hnum
  have htop := topI_bd c.cap c.node
  change 0 ≤ treTop c ∧ treTop c ≤ 4 at htop
  have hcap := hc.cap
  have hchunk := hc.chunk
  obtain ⟨⟨k0, k1⟩, ⟨a0, a1⟩, ⟨b0, b1⟩, ⟨p0, p1⟩, ⟨i0, i1⟩, ⟨j0, j1⟩, ⟨n0, n1⟩, ⟨q0, q1⟩, ⟨h0, h1⟩, ⟨x0, x1⟩, ⟨y0, y1⟩⟩ := hf
  obtain ⟨⟨t0, t1⟩, ⟨la0, la1⟩, ⟨lb0, lb1⟩, ⟨lc0, lc1⟩⟩ := hl
  obtain ⟨T, hT⟩ : ∃ T, treTop c = T := ⟨_, rfl⟩
  have HTOP := Lib.hid hT
  rw [hT] at m4 htop
  have hp' : (f.pc == 21) = true := by simpa using hp
  have HS : Hid (treBehind c f l = (f, false)) := Lib.hid (by simp [treBehind, hp])
  clear hkd hnum hp _hi _h15 m5 m6 m7 m8 hT
  go_enter Tryd.func35, Tryd.ntmps35
  go_wp2
  all_goals (refine bodyPost_ret (v := tupFB ((f, false))) (by simp [results, Tryd.results35, go_sem]) rfl ⟨by rw [HS.out], (by first | ((repeat (first | with_reducible exact Ext.refl _ | with_reducible assumption | with_reducible refine Ext.alloc ?_ _ | with_reducible refine Ext.gr ?_ _ | with_reducible refine Ext.drewN ?_ _ | with_reducible refine Ext.drew ?_ | with_reducible refine Ext.setCell ?_ ?_ _ | with_reducible refine Ext.more ?_ _ _ | (show _ ≤ _; dsimp only; omega))); done) | ((repeat (first | with_reducible exact Ext.refl _ | with_reducible assumption | with_reducible apply Ext.bothR | with_reducible refine Ext.alloc ?_ _ | with_reducible refine Ext.gr ?_ _ | with_reducible refine Ext.drewN ?_ _ | with_reducible refine Ext.drew ?_ | with_reducible refine Ext.setCell ?_ ?_ _ | with_reducible refine Ext.more ?_ _ _ | (show _ ≤ _; dsimp only; omega))); done))⟩)
set_option maxRecDepth 100000 in
set_option maxHeartbeats 8000000 in
theorem behindR_22 (c : Cfg) (hc : TreOk c) (f : Frm) (hf : f.Fits) (hkd : f.kind = 4 ∨ f.kind = 5 ∨ f.kind = 6 ∨ f.kind = 7 ∨ f.kind = 8) (l : Cel) (hl : l.Fits) (hnum : treNum c f = true) (_hi : f.pc = 1 ∨ f.pc = 14 → f.i ≤ 32) (_h15 : f.pc = 15 → 1 ≤ f.n) (hp : f.pc = 22) (w : World) : Calls Tryd.prog 35 #[c.v, f.v, l.v] w
    fun e w' => e = .returned (tupFB (treBehind c f l)) ∧ Ext w w' := by
  have HF := Lib.hid hf
  have HL := Lib.hid hl
  have HKD := Lib.hid hkd
  obtain ⟨m1, m2, m3, m4, m5, m6, m7, m8⟩ := treNum_facts hnum
  have htop := topI_bd c.cap c.node
  change 0 ≤ treTop c ∧ treTop c ≤ 4 at htop
  have hcap := hc.cap
  have hchunk := hc.chunk
  obtain ⟨⟨k0, k1⟩, ⟨a0, a1⟩, ⟨b0, b1⟩, ⟨p0, p1⟩, ⟨i0, i1⟩, ⟨j0, j1⟩, ⟨n0, n1⟩, ⟨q0, q1⟩, ⟨h0, h1⟩, ⟨x0, x1⟩, ⟨y0, y1⟩⟩ := hf
  obtain ⟨⟨t0, t1⟩, ⟨la0, la1⟩, ⟨lb0, lb1⟩, ⟨lc0, lc1⟩⟩ := hl
  obtain ⟨T, hT⟩ : ∃ T, treTop c = T := ⟨_, rfl⟩
  have HTOP := Lib.hid hT
  rw [hT] at m4 htop
  have hp' : (f.pc == 22) = true := by simpa using hp
  have HS : Hid (treBehind c f l = (f, false)) := Lib.hid (by simp [treBehind, hp])
  clear hkd hnum hp _hi _h15 m5 m6 m7 m8 hT
  go_enter Tryd.func35, Tryd.ntmps35
  go_wp2
  all_goals (refine bodyPost_ret (v := tupFB ((f, false))) (by simp [results, Tryd.results35, go_sem]) rfl ⟨by rw [HS.out], (by first | ((repeat (first | with_reducible exact Ext.refl _ | with_reducible assumption | with_reducible refine Ext.alloc ?_ _ | with_reducible refine Ext.gr ?_ _ | with_reducible refine Ext.drewN ?_ _ | with_reducible refine Ext.drew ?_ | with_reducible refine Ext.setCell ?_ ?_ _ | with_reducible refine Ext.more ?_ _ _ | (show _ ≤ _; dsimp only; omega))); done) | ((repeat (first | with_reducible exact Ext.refl _ | with_reducible assumption | with_reducible apply Ext.bothR | with_reducible refine Ext.alloc ?_ _ | with_reducible refine Ext.gr ?_ _ | with_reducible refine Ext.drewN ?_ _ | with_reducible refine Ext.drew ?_ | with_reducible refine Ext.setCell ?_ ?_ _ | with_reducible refine Ext.more ?_ _ _ | (show _ ≤ _; dsimp only; omega))); done))⟩)
set_option maxRecDepth 100000 in
set_option maxHeartbeats 8000000 in
theorem behindR_23 (c : Cfg) (hc : TreOk c) (f : Frm) (hf : f.Fits) (hkd : f.kind = 4 ∨ f.kind = 5 ∨ f.kind = 6 ∨ f.kind = 7 ∨ f.kind = 8) (l : Cel) (hl : l.Fits) (hnum : treNum c f = true) (_hi : f.pc = 1 ∨ f.pc = 14 → f.i ≤ 32) (_h15 : f.pc = 15 → 1 ≤ f.n) (hp : f.pc = 23) (w : World) : Calls Tryd.prog 35 #[c.v, f.v, l.v] w
    fun e w' => e = .returned (tupFB (treBehind c f l)) ∧ Ext w w' := by
  have HF := Lib.hid hf
  have HL := Lib.hid hl
  have HKD := Lib.hid hkd
  obtain ⟨m1, m2, m3, m4, m5, m6, m7, m8⟩ := treNum_facts hnum
  have htop := topI_bd c.cap c.node
  change 0 ≤ treTop c ∧ treTop c ≤ 4 at htop
  have hcap := hc.cap
  have hchunk := hc.chunk
  obtain ⟨⟨k0, k1⟩, ⟨a0, a1⟩, ⟨b0, b1⟩, ⟨p0, p1⟩, ⟨i0, i1⟩, ⟨j0, j1⟩, ⟨n0, n1⟩, ⟨q0, q1⟩, ⟨h0, h1⟩, ⟨x0, x1⟩, ⟨y0, y1⟩⟩ := hf
  obtain ⟨⟨t0, t1⟩, ⟨la0, la1⟩, ⟨lb0, lb1⟩, ⟨lc0, lc1⟩⟩ := hl
  obtain ⟨T, hT⟩ : ∃ T, treTop c = T := ⟨_, rfl⟩
  have HTOP := Lib.hid hT
  rw [hT] at m4 htop
  have hp' : (f.pc == 23) = true := by simpa using hp
  have HS : Hid (treBehind c f l = (f, false)) := Lib.hid (by simp [treBehind, hp])
  clear hkd hnum hp _hi _h15 m5 m6 m7 m8 hT
  go_enter Tryd.func35, Tryd.ntmps35
  go_wp2
  all_goals (refine bodyPost_ret (v := tupFB ((f, false))) (by simp [results, Tryd.results35, go_sem]) rfl ⟨by rw [HS.out], (by first | ((repeat (first | with_reducible exact Ext.refl _ | with_reducible assumption | with_reducible refine Ext.alloc ?_ _ | with_reducible refine Ext.gr ?_ _ | with_reducible refine Ext.drewN ?_ _ | with_reducible refine Ext.drew ?_ | with_reducible refine Ext.setCell ?_ ?_ _ | with_reducible refine Ext.more ?_ _ _ | (show _ ≤ _; dsimp only; omega))); done) | ((repeat (first | with_reducible exact Ext.refl _ | with_reducible assumption | with_reducible apply Ext.bothR | with_reducible refine Ext.alloc ?_ _ | with_reducible refine Ext.gr ?_ _ | with_reducible refine Ext.drewN ?_ _ | with_reducible refine Ext.drew ?_ | with_reducible refine Ext.setCell ?_ ?_ _ | with_reducible refine Ext.more ?_ _ _ | (show _ ≤ _; dsimp only; omega))); done))⟩)
set_option maxRecDepth 100000 in
set_option maxHeartbeats 8000000 in
theorem behindR_24 (c : Cfg) (hc : TreOk c) (f : Frm) (hf : f.Fits) (hkd : f.kind = 4 ∨ f.kind = 5 ∨ f.kind = 6 ∨ f.kind = 7 ∨ f.kind = 8) (l : Cel) (hl : l.Fits) (hnum : treNum c f = true) (_hi : f.pc = 1 ∨ f.pc = 14 → f.i ≤ 32) (_h15 : f.pc = 15 → 1 ≤ f.n) (hp : f.pc = 24) (w : World) : Calls Tryd.prog 35 #[c.v, f.v, l.v] w
    fun e w' => e = .returned (tupFB (treBehind c f l)) ∧ Ext w w' := by
  have HF := Lib.hid hf
  have HL := Lib.hid hl
  have HKD := Lib.hid hkd
  obtain ⟨m1, m2, m3, m4, m5, m6, m7, m8⟩ := treNum_facts hnum
  have htop := topI_bd c.cap c.node
  change 0 ≤ treTop c ∧ treTop c ≤ 4 at htop
  have hcap := hc.cap
  have hchunk := hc.chunk
  obtain ⟨⟨k0, k1⟩, ⟨a0, a1⟩, ⟨b0, b1⟩, ⟨p0, p1⟩, ⟨i0, i1⟩, ⟨j0, j1⟩, ⟨n0, n1⟩, ⟨q0, q1⟩, ⟨h0, h1⟩, ⟨x0, x1⟩, ⟨y0, y1⟩⟩ := hf
  obtain ⟨⟨t0, t1⟩, ⟨la0, la1⟩, ⟨lb0, lb1⟩, ⟨lc0, lc1⟩⟩ := hl
  obtain ⟨T, hT⟩ : ∃ T, treTop c = T := ⟨_, rfl⟩
  have HTOP := Lib.hid hT
  rw [hT] at m4 htop
  have hp' : (f.pc == 24) = true := by simpa using hp
  have HS : Hid (treBehind c f l = (f, false)) := Lib.hid (by simp [treBehind, hp])
  clear hkd hnum hp _hi _h15 m5 m6 m7 m8 hT
  go_enter Tryd.func35, Tryd.ntmps35
  go_wp2
  all_goals (refine bodyPost_ret (v := tupFB ((f, false))) (by simp [results, Tryd.results35, go_sem]) rfl ⟨by rw [HS.out], (by first | ((repeat (first | with_reducible exact Ext.refl _ | with_reducible assumption | with_reducible refine Ext.alloc ?_ _ | with_reducible refine Ext.gr ?_ _ | with_reducible refine Ext.drewN ?_ _ | with_reducible refine Ext.drew ?_ | with_reducible refine Ext.setCell ?_ ?_ _ | with_reducible refine Ext.more ?_ _ _ | (show _ ≤ _; dsimp only; omega))); done) | ((repeat (first | with_reducible exact Ext.refl _ | with_reducible assumption | with_reducible apply Ext.bothR | with_reducible refine Ext.alloc ?_ _ | with_reducible refine Ext.gr ?_ _ | with_reducible refine Ext.drewN ?_ _ | with_reducible refine Ext.drew ?_ | with_reducible refine Ext.setCell ?_ ?_ _ | with_reducible refine Ext.more ?_ _ _ | (show _ ≤ _; dsimp only; omega))); done))⟩)
set_option maxRecDepth 100000 in
set_option maxHeartbeats 8000000 in
theorem behindR_25 (c : Cfg) (hc : TreOk c) (f : Frm) (hf : f.Fits) (hkd : f.kind = 4 ∨ f.kind = 5 ∨ f.kind = 6 ∨ f.kind = 7 ∨ f.kind = 8) (l : Cel) (hl : l.Fits) (hnum : treNum c f = true) (_hi : f.pc = 1 ∨ f.pc = 14 → f.i ≤ 32) (_h15 : f.pc = 15 → 1 ≤ f.n) (hp : f.pc = 25) (w : World) : Calls Tryd.prog 35 #[c.v, f.v, l.v] w
    fun e w' => e = .returned (tupFB (treBehind c f l)) ∧ Ext w w' := by
  have HF := Lib.hid hf
  have HL := Lib.hid hl
  have HKD := Lib.hid hkd
  obtain ⟨m1, m2, m3, m4, m5, m6, m7, m8⟩ := treNum_facts hnum
  have htop := topI_bd c.cap c.node
  change 0 ≤ treTop c ∧ treTop c ≤ 4 at htop
  have hcap := hc.cap
  have hchunk := hc.chunk
  obtain ⟨⟨k0, k1⟩, ⟨a0, a1⟩, ⟨b0, b1⟩, ⟨p0, p1⟩, ⟨i0, i1⟩, ⟨j0, j1⟩, ⟨n0, n1⟩, ⟨q0, q1⟩, ⟨h0, h1⟩, ⟨x0, x1⟩, ⟨y0, y1⟩⟩ := hf
  obtain ⟨⟨t0, t1⟩, ⟨la0, la1⟩, ⟨lb0, lb1⟩, ⟨lc0, lc1⟩⟩ := hl
  obtain ⟨T, hT⟩ : ∃ T, treTop c = T := ⟨_, rfl⟩
  have HTOP := Lib.hid hT
  rw [hT] at m4 htop
  have hp' : (f.pc == 25) = true := by simpa using hp
  have HS : Hid (treBehind c f l = (f, false)) := Lib.hid (by simp [treBehind, hp])
  clear hkd hnum hp _hi _h15 m5 m6 m7 m8 hT
  go_enter Tryd.func35, Tryd.ntmps35
  go_wp2
  all_goals (refine bodyPost_ret (v := tupFB ((f, false))) (by simp [results, Tryd.results35, go_sem]) rfl ⟨by rw [HS.out], (by first | ((repeat (first | with_reducible exact Ext.refl _ | with_reducible assumption | with_reducible refine Ext.alloc ?_ _ | with_reducible refine Ext.gr ?_ _ | with_reducible refine Ext.drewN ?_ _ | with_reducible refine Ext.drew ?_ | with_reducible refine Ext.setCell ?_ ?_ _ | with_reducible refine Ext.more ?_ _ _ | (show _ ≤ _; dsimp only; omega))); done) | ((repeat (first | with_reducible exact Ext.refl _ | with_reducible assumption | with_reducible apply Ext.bothR | with_reducible refine Ext.alloc ?_ _ | with_reducible refine Ext.gr ?_ _ | with_reducible refine Ext.drewN ?_ _ | with_reducible refine Ext.drew ?_ | with_reducible refine Ext.setCell ?_ ?_ _ | with_reducible refine Ext.more ?_ _ _ | (show _ ≤ _; dsimp only; omega))); done))⟩)
set_option maxRecDepth 100000 in
set_option maxHeartbeats 8000000 in
theorem behindR_6 (c : Cfg) (hc : TreOk c) (f : Frm) (hf : f.Fits) (hkd : f.kind = 4 ∨ f.kind = 5 ∨ f.kind = 6 ∨ f.kind = 7 ∨ f.kind = 8) (l : Cel) (hl : l.Fits) (hnum : treNum c f = true) (_hi : f.pc = 1 ∨ f.pc = 14 → f.i ≤ 32) (_h15 : f.pc = 15 → 1 ≤ f.n) (hp : f.pc = 6) (w : World) : Calls Tryd.prog 35 #[c.v, f.v, l.v] w
    fun e w' => e = .returned (tupFB (treBehind c f l)) ∧ Ext w w' := by
  have HF := Lib.hid hf
  have HL := Lib.hid hl
  have HKD := Lib.hid hkd
  obtain ⟨m1, m2, m3, m4, m5, m6, m7, m8⟩ := treNum_facts hnum
  have htop := topI_bd c.cap c.node
  change 0 ≤ treTop c ∧ treTop c ≤ 4 at htop
  have hcap := hc.cap
  have hchunk := hc.chunk
  obtain ⟨⟨k0, k1⟩, ⟨a0, a1⟩, ⟨b0, b1⟩, ⟨p0, p1⟩, ⟨i0, i1⟩, ⟨j0, j1⟩, ⟨n0, n1⟩, ⟨q0, q1⟩, ⟨h0, h1⟩, ⟨x0, x1⟩, ⟨y0, y1⟩⟩ := hf
  obtain ⟨⟨t0, t1⟩, ⟨la0, la1⟩, ⟨lb0, lb1⟩, ⟨lc0, lc1⟩⟩ := hl
  obtain ⟨T, hT⟩ : ∃ T, treTop c = T := ⟨_, rfl⟩
  have HTOP := Lib.hid hT
  rw [hT] at m4 htop
  have hp' : (f.pc == 6) = true := by simpa using hp
  have h6 := m5 hp
  have hw1 : IntKind.u8.wrap (f.i - 1) = f.i - 1 := by rw [IntKind.wrap_u8]; omega
  have hw2 : (f.i - 1) % 256 = f.i - 1 := by omega
  cases zz : decide (f.i - 1 ≤ f.p)
  · have hz : ¬ f.i - 1 ≤ f.p := by simpa using zz
    have HS : Hid (treBehind c f l = ({ f with i := f.i - 1, pc := 5 }, false)) := Lib.hid (by simp [treBehind, hp, hz])
    clear hkd hnum hp _hi _h15 m5 m6 m7 m8 hT
    go_enter Tryd.func35, Tryd.ntmps35
    go_wp2_with (go_at_call 77; refine (atR_any ({ f with i := f.i - 1 }) _ _).mono ?_; rintro e w1 ⟨rfl, os1, n1, rfl⟩)
    all_goals (refine bodyPost_ret (v := tupFB (({ f with i := f.i - 1, pc := 5 }, false))) (by simp [results, Tryd.results35, go_sem]) rfl ⟨by rw [HS.out], (by first | ((repeat (first | with_reducible exact Ext.refl _ | with_reducible assumption | with_reducible refine Ext.alloc ?_ _ | with_reducible refine Ext.gr ?_ _ | with_reducible refine Ext.drewN ?_ _ | with_reducible refine Ext.drew ?_ | with_reducible refine Ext.setCell ?_ ?_ _ | with_reducible refine Ext.more ?_ _ _ | (show _ ≤ _; dsimp only; omega))); done) | ((repeat (first | with_reducible exact Ext.refl _ | with_reducible assumption | with_reducible apply Ext.bothR | with_reducible refine Ext.alloc ?_ _ | with_reducible refine Ext.gr ?_ _ | with_reducible refine Ext.drewN ?_ _ | with_reducible refine Ext.drew ?_ | with_reducible refine Ext.setCell ?_ ?_ _ | with_reducible refine Ext.more ?_ _ _ | (show _ ≤ _; dsimp only; omega))); done))⟩)
  · have hz : f.i - 1 ≤ f.p := by simpa using zz
    have HS : Hid (treBehind c f l = ({ f with i := f.i - 1, pc := 7 }, false)) := Lib.hid (by simp [treBehind, hp, hz])
    clear hkd hnum hp _hi _h15 m5 m6 m7 m8 hT
    go_enter Tryd.func35, Tryd.ntmps35
    go_wp2_with (go_at_call 77; refine (atR_any ({ f with i := f.i - 1 }) _ _).mono ?_; rintro e w1 ⟨rfl, os1, n1, rfl⟩)
    all_goals (refine bodyPost_ret (v := tupFB (({ f with i := f.i - 1, pc := 7 }, false))) (by simp [results, Tryd.results35, go_sem]) rfl ⟨by rw [HS.out], (by first | ((repeat (first | with_reducible exact Ext.refl _ | with_reducible assumption | with_reducible refine Ext.alloc ?_ _ | with_reducible refine Ext.gr ?_ _ | with_reducible refine Ext.drewN ?_ _ | with_reducible refine Ext.drew ?_ | with_reducible refine Ext.setCell ?_ ?_ _ | with_reducible refine Ext.more ?_ _ _ | (show _ ≤ _; dsimp only; omega))); done) | ((repeat (first | with_reducible exact Ext.refl _ | with_reducible assumption | with_reducible apply Ext.bothR | with_reducible refine Ext.alloc ?_ _ | with_reducible refine Ext.gr ?_ _ | with_reducible refine Ext.drewN ?_ _ | with_reducible refine Ext.drew ?_ | with_reducible refine Ext.setCell ?_ ?_ _ | with_reducible refine Ext.more ?_ _ _ | (show _ ≤ _; dsimp only; omega))); done))⟩)
set_option maxRecDepth 100000 in
set_option maxHeartbeats 8000000 in
theorem behindR_7 (c : Cfg) (hc : TreOk c) (f : Frm) (hf : f.Fits) (hkd : f.kind = 4 ∨ f.kind = 5 ∨ f.kind = 6 ∨ f.kind = 7 ∨ f.kind = 8) (l : Cel) (hl : l.Fits) (hnum : treNum c f = true) (_hi : f.pc = 1 ∨ f.pc = 14 → f.i ≤ 32) (_h15 : f.pc = 15 → 1 ≤ f.n) (hp : f.pc = 7) (w : World) : Calls Tryd.prog 35 #[c.v, f.v, l.v] w
    fun e w' => e = .returned (tupFB (treBehind c f l)) ∧ Ext w w' := by
  have HF := Lib.hid hf
  have HL := Lib.hid hl
  have HKD := Lib.hid hkd
  obtain ⟨m1, m2, m3, m4, m5, m6, m7, m8⟩ := treNum_facts hnum
  have htop := topI_bd c.cap c.node
  change 0 ≤ treTop c ∧ treTop c ≤ 4 at htop
  have hcap := hc.cap
  have hchunk := hc.chunk
  obtain ⟨⟨k0, k1⟩, ⟨a0, a1⟩, ⟨b0, b1⟩, ⟨p0, p1⟩, ⟨i0, i1⟩, ⟨j0, j1⟩, ⟨n0, n1⟩, ⟨q0, q1⟩, ⟨h0, h1⟩, ⟨x0, x1⟩, ⟨y0, y1⟩⟩ := hf
  obtain ⟨⟨t0, t1⟩, ⟨la0, la1⟩, ⟨lb0, lb1⟩, ⟨lc0, lc1⟩⟩ := hl
  obtain ⟨T, hT⟩ : ∃ T, treTop c = T := ⟨_, rfl⟩
  have HTOP := Lib.hid hT
  rw [hT] at m4 htop
  have hp' : (f.pc == 7) = true := by simpa using hp
  have hw1 : IntKind.u8.wrap (f.n + 1) = f.n + 1 := by rw [IntKind.wrap_u8]; omega
  have hw2 : (f.n + 1) % 256 = f.n + 1 := by omega
  have HS : Hid (treBehind c f l = ({ f with n := f.n + 1, pc := 8 }, false)) := Lib.hid (by simp [treBehind, hp])
  clear hkd hnum hp _hi _h15 m5 m6 m7 m8 hT
  go_enter Tryd.func35, Tryd.ntmps35
  go_wp2_with (go_at_call 77; refine (atR_any ({ f with n := f.n + 1 }) _ _).mono ?_; rintro e w1 ⟨rfl, os1, n1, rfl⟩)
  all_goals (refine bodyPost_ret (v := tupFB (({ f with n := f.n + 1, pc := 8 }, false))) (by simp [results, Tryd.results35, go_sem]) rfl ⟨by rw [HS.out], (by first | ((repeat (first | with_reducible exact Ext.refl _ | with_reducible assumption | with_reducible refine Ext.alloc ?_ _ | with_reducible refine Ext.gr ?_ _ | with_reducible refine Ext.drewN ?_ _ | with_reducible refine Ext.drew ?_ | with_reducible refine Ext.setCell ?_ ?_ _ | with_reducible refine Ext.more ?_ _ _ | (show _ ≤ _; dsimp only; omega))); done) | ((repeat (first | with_reducible exact Ext.refl _ | with_reducible assumption | with_reducible apply Ext.bothR | with_reducible refine Ext.alloc ?_ _ | with_reducible refine Ext.gr ?_ _ | with_reducible refine Ext.drewN ?_ _ | with_reducible refine Ext.drew ?_ | with_reducible refine Ext.setCell ?_ ?_ _ | with_reducible refine Ext.more ?_ _ _ | (show _ ≤ _; dsimp only; omega))); done))⟩)
set_option maxRecDepth 100000 in
set_option maxHeartbeats 8000000 in
theorem behindR_15 (c : Cfg) (hc : TreOk c) (f : Frm) (hf : f.Fits) (hkd : f.kind = 4 ∨ f.kind = 5 ∨ f.kind = 6 ∨ f.kind = 7 ∨ f.kind = 8) (l : Cel) (hl : l.Fits) (hnum : treNum c f = true) (_hi : f.pc = 1 ∨ f.pc = 14 → f.i ≤ 32) (h15 : f.pc = 15 → 1 ≤ f.n) (hp : f.pc = 15) (w : World) : Calls Tryd.prog 35 #[c.v, f.v, l.v] w
    fun e w' => e = .returned (tupFB (treBehind c f l)) ∧ Ext w w' := by
  have HF := Lib.hid hf
  have HL := Lib.hid hl
  have HKD := Lib.hid hkd
  obtain ⟨m1, m2, m3, m4, m5, m6, m7, m8⟩ := treNum_facts hnum
  have htop := topI_bd c.cap c.node
  change 0 ≤ treTop c ∧ treTop c ≤ 4 at htop
  have hcap := hc.cap
  have hchunk := hc.chunk
  obtain ⟨⟨k0, k1⟩, ⟨a0, a1⟩, ⟨b0, b1⟩, ⟨p0, p1⟩, ⟨i0, i1⟩, ⟨j0, j1⟩, ⟨n0, n1⟩, ⟨q0, q1⟩, ⟨h0, h1⟩, ⟨x0, x1⟩, ⟨y0, y1⟩⟩ := hf
  obtain ⟨⟨t0, t1⟩, ⟨la0, la1⟩, ⟨lb0, lb1⟩, ⟨lc0, lc1⟩⟩ := hl
  obtain ⟨T, hT⟩ : ∃ T, treTop c = T := ⟨_, rfl⟩
  have HTOP := Lib.hid hT
  rw [hT] at m4 htop
  have hp' : (f.pc == 15) = true := by simpa using hp
  have h6 := h15 hp
  have hw1 : IntKind.u8.wrap (f.n - 1) = f.n - 1 := by rw [IntKind.wrap_u8]; omega
  have hw2 : (f.n - 1) % 256 = f.n - 1 := by omega
  have HS : Hid (treBehind c f l = ({ f with n := f.n - 1, pc := 8 }, false)) := Lib.hid (by simp [treBehind, hp])
  clear hkd hnum hp _hi h15 m5 m6 m7 m8 hT
  go_enter Tryd.func35, Tryd.ntmps35
  go_wp2_with (go_at_call 77; refine (atR_any ({ f with n := f.n - 1 }) _ _).mono ?_; rintro e w1 ⟨rfl, os1, n1, rfl⟩)
  all_goals (refine bodyPost_ret (v := tupFB (({ f with n := f.n - 1, pc := 8 }, false))) (by simp [results, Tryd.results35, go_sem]) rfl ⟨by rw [HS.out], (by first | ((repeat (first | with_reducible exact Ext.refl _ | with_reducible assumption | with_reducible refine Ext.alloc ?_ _ | with_reducible refine Ext.gr ?_ _ | with_reducible refine Ext.drewN ?_ _ | with_reducible refine Ext.drew ?_ | with_reducible refine Ext.setCell ?_ ?_ _ | with_reducible refine Ext.more ?_ _ _ | (show _ ≤ _; dsimp only; omega))); done) | ((repeat (first | with_reducible exact Ext.refl _ | with_reducible assumption | with_reducible apply Ext.bothR | with_reducible refine Ext.alloc ?_ _ | with_reducible refine Ext.gr ?_ _ | with_reducible refine Ext.drewN ?_ _ | with_reducible refine Ext.drew ?_ | with_reducible refine Ext.setCell ?_ ?_ _ | with_reducible refine Ext.more ?_ _ _ | (show _ ≤ _; dsimp only; omega))); done))⟩)
set_option maxRecDepth 100000 in
set_option maxHeartbeats 8000000 in
theorem behindR_14 (c : Cfg) (hc : TreOk c) (f : Frm) (hf : f.Fits) (hkd : f.kind = 4 ∨ f.kind = 5 ∨ f.kind = 6 ∨ f.kind = 7 ∨ f.kind = 8) (l : Cel) (hl : l.Fits) (hnum : treNum c f = true) (hi : f.pc = 1 ∨ f.pc = 14 → f.i ≤ 32) (_h15 : f.pc = 15 → 1 ≤ f.n) (hp : f.pc = 14) (w : World) : Calls Tryd.prog 35 #[c.v, f.v, l.v] w
    fun e w' => e = .returned (tupFB (treBehind c f l)) ∧ Ext w w' := by
  have HF := Lib.hid hf
  have HL := Lib.hid hl
  have HKD := Lib.hid hkd
  obtain ⟨m1, m2, m3, m4, m5, m6, m7, m8⟩ := treNum_facts hnum
  have htop := topI_bd c.cap c.node
  change 0 ≤ treTop c ∧ treTop c ≤ 4 at htop
  have hcap := hc.cap
  have hchunk := hc.chunk
  obtain ⟨⟨k0, k1⟩, ⟨a0, a1⟩, ⟨b0, b1⟩, ⟨p0, p1⟩, ⟨i0, i1⟩, ⟨j0, j1⟩, ⟨n0, n1⟩, ⟨q0, q1⟩, ⟨h0, h1⟩, ⟨x0, x1⟩, ⟨y0, y1⟩⟩ := hf
  obtain ⟨⟨t0, t1⟩, ⟨la0, la1⟩, ⟨lb0, lb1⟩, ⟨lc0, lc1⟩⟩ := hl
  obtain ⟨T, hT⟩ : ∃ T, treTop c = T := ⟨_, rfl⟩
  have HTOP := Lib.hid hT
  rw [hT] at m4 htop
  have hp' : (f.pc == 14) = true := by simpa using hp
  have h6 := hi (Or.inr hp)
  have hw1 : IntKind.u8.wrap (f.i + 1) = f.i + 1 := by rw [IntKind.wrap_u8]; omega
  have hw2 : (f.i + 1) % 256 = f.i + 1 := by omega
  cases zz : decide (f.n ≤ f.i + 1)
  · have hz : ¬ f.n ≤ f.i + 1 := by simpa using zz
    have HS : Hid (treBehind c f l = ({ f with i := f.i + 1, pc := 13 }, false)) := Lib.hid (by simp [treBehind, hp, hz])
    clear hkd hnum hp hi _h15 m5 m6 m7 m8 hT
    go_enter Tryd.func35, Tryd.ntmps35
    go_wp2_with (go_at_call 77; refine (atR_any ({ f with i := f.i + 1 }) _ _).mono ?_; rintro e w1 ⟨rfl, os1, n1, rfl⟩)
    all_goals (refine bodyPost_ret (v := tupFB (({ f with i := f.i + 1, pc := 13 }, false))) (by simp [results, Tryd.results35, go_sem]) rfl ⟨by rw [HS.out], (by first | ((repeat (first | with_reducible exact Ext.refl _ | with_reducible assumption | with_reducible refine Ext.alloc ?_ _ | with_reducible refine Ext.gr ?_ _ | with_reducible refine Ext.drewN ?_ _ | with_reducible refine Ext.drew ?_ | with_reducible refine Ext.setCell ?_ ?_ _ | with_reducible refine Ext.more ?_ _ _ | (show _ ≤ _; dsimp only; omega))); done) | ((repeat (first | with_reducible exact Ext.refl _ | with_reducible assumption | with_reducible apply Ext.bothR | with_reducible refine Ext.alloc ?_ _ | with_reducible refine Ext.gr ?_ _ | with_reducible refine Ext.drewN ?_ _ | with_reducible refine Ext.drew ?_ | with_reducible refine Ext.setCell ?_ ?_ _ | with_reducible refine Ext.more ?_ _ _ | (show _ ≤ _; dsimp only; omega))); done))⟩)
  · have hz : f.n ≤ f.i + 1 := by simpa using zz
    have HS : Hid (treBehind c f l = ({ f with i := f.i + 1, pc := 15 }, false)) := Lib.hid (by simp [treBehind, hp, hz])
    clear hkd hnum hp hi _h15 m5 m6 m7 m8 hT
    go_enter Tryd.func35, Tryd.ntmps35
    go_wp2_with (go_at_call 77; refine (atR_any ({ f with i := f.i + 1 }) _ _).mono ?_; rintro e w1 ⟨rfl, os1, n1, rfl⟩)
    all_goals (refine bodyPost_ret (v := tupFB (({ f with i := f.i + 1, pc := 15 }, false))) (by simp [results, Tryd.results35, go_sem]) rfl ⟨by rw [HS.out], (by first | ((repeat (first | with_reducible exact Ext.refl _ | with_reducible assumption | with_reducible refine Ext.alloc ?_ _ | with_reducible refine Ext.gr ?_ _ | with_reducible refine Ext.drewN ?_ _ | with_reducible refine Ext.drew ?_ | with_reducible refine Ext.setCell ?_ ?_ _ | with_reducible refine Ext.more ?_ _ _ | (show _ ≤ _; dsimp only; omega))); done) | ((repeat (first | with_reducible exact Ext.refl _ | with_reducible assumption | with_reducible apply Ext.bothR | with_reducible refine Ext.alloc ?_ _ | with_reducible refine Ext.gr ?_ _ | with_reducible refine Ext.drewN ?_ _ | with_reducible refine Ext.drew ?_ | with_reducible refine Ext.setCell ?_ ?_ _ | with_reducible refine Ext.more ?_ _ _ | (show _ ≤ _; dsimp only; omega))); done))⟩)
end Go.Proofs.YtkklhhdkokncnaaDoor
