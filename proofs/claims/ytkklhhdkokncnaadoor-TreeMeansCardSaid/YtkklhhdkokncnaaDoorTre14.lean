/- The walk of 'after', the layer 'tree', case by case. -/
import Derived.Test.YtkklhhdkokncnaaDoorGk
namespace Go.Proofs.YtkklhhdkokncnaaDoor
open Go Go.RowKit
set_option maxRecDepth 100000
set_option maxHeartbeats 8000000

theorem treAfter_12 (c : Cfg) (s : Value) (hok : TreOk c) (f : Frm) (rk rv : Int) (rt : Bool) (l : Cel) (hl : l.Fits) (hf : f.Fits) (hnum : treNum c f = true) (_hi : f.pc = 1 ∨ f.pc = 14 → f.i ≤ 32) (_h15 : f.pc = 15 → 1 ≤ f.n) (hp : f.pc = 12) (V w : World) (ht : Tab V) (hsw : ∀ (o : Obj) (W' : World), Ext (swp o V w) W' → Sl W' s (lvC c) (lvL c)) (hw : Ext (V.alloc (.cells (trA c s (⟨f, rk, rv, rt⟩)) 84)) w) : Calls Tryd.prog 34 #[.pointer (some ⟨V.heap.size, 0, none⟩), l.v] w (fun e w' => e = .returned (.tuple #[]) ∧ Ext (swp (.cells (trA c s (tAfter c ⟨f, rk, rv, rt⟩ l)) 84) V w) w') := by
  obtain ⟨os, d, rfl⟩ := hw
  rw [swp_a]
  simp only [swp_a] at hsw
  have HSW := Lib.hid hsw
  have HT := Lib.hid ht
  have HF := Lib.hid hf
  have HLF := Lib.hid hl
  obtain ⟨m1, m2, m3, m4, m5, m6, m7, m8⟩ := treNum_facts hnum
  have htop := topI_bd c.cap c.node
  change 0 ≤ treTop c ∧ treTop c ≤ 4 at htop
  have hcap := hok.cap
  have hchunk := hok.chunk
  have HFO := Lib.hid (over_fits hf l f.p hf.p)
  obtain ⟨⟨k0, k1⟩, ⟨a0, a1⟩, ⟨b0, b1⟩, ⟨p0, p1⟩, ⟨i0, i1⟩, ⟨j0, j1⟩, ⟨n0, n1⟩, ⟨q0, q1⟩, ⟨h0, h1⟩, ⟨x0, x1⟩, ⟨y0, y1⟩⟩ := hf
  obtain ⟨⟨t0, t1⟩, ⟨la0, la1⟩, ⟨lb0, lb1⟩, ⟨lc0, lc1⟩⟩ := hl
  obtain ⟨T, hT⟩ : ∃ T, treTop c = T := ⟨_, rfl⟩
  have HTOP := Lib.hid hT
  rw [hT] at m4 htop
  have hp' : (f.pc == 12) = true := by simpa using hp
  have HB : Hid (tAfter c ⟨f, rk, rv, rt⟩ l = ⟨treUpw c f, rk, rv, rt⟩) := Lib.hid (by simp [tAfter, treBehind, hp])
  clear ht hsw hnum hp _hi _h15 m5 m6 m7 m8 hT
  go_enter Tryd.func34, Tryd.ntmps34
  go_wp2_with (go_at_call 73; refine (treUp_false c s hok ⟨f, rk, rv, rt⟩ HF.out (by dsimp only; rw [HTOP.out]; omega) (by dsimp only; omega) V _ HT.out (fun o W' e => HSW.out o W' (by (try rw [swp_drew] at e); (try rw [swp_c] at e); (try rw [swp_b] at e); (try rw [swp_a] at e); exact Ext.trans EXX e)) EXX).mono ?_; rintro e w1 ⟨rfl, os2, n2, rfl⟩; ((try rw [swp_drew]); (try rw [swp_c]); (try rw [swp_b]); (try rw [swp_a]); (try unfold tTell); (try unfold tTake); (try unfold treOver); (try dsimp only)))
  (first | (go_end0; refine ⟨rfl, ?_⟩; rw [HB.out]; exact EXX) | (refine bodyPost_ret (results_none rfl _ _ _) rfl ⟨rfl, ?_⟩; rw [HB.out]; exact EXX))
theorem treAfter_8 (c : Cfg) (s : Value) (hok : TreOk c) (f : Frm) (rk rv : Int) (rt : Bool) (l : Cel) (hl : l.Fits) (hf : f.Fits) (hnum : treNum c f = true) (_hi : f.pc = 1 ∨ f.pc = 14 → f.i ≤ 32) (_h15 : f.pc = 15 → 1 ≤ f.n) (hp : f.pc = 8) (V w : World) (ht : Tab V) (hsw : ∀ (o : Obj) (W' : World), Ext (swp o V w) W' → Sl W' s (lvC c) (lvL c)) (hw : Ext (V.alloc (.cells (trA c s (⟨f, rk, rv, rt⟩)) 84)) w) : Calls Tryd.prog 34 #[.pointer (some ⟨V.heap.size, 0, none⟩), l.v] w (fun e w' => e = .returned (.tuple #[]) ∧ Ext (swp (.cells (trA c s (tAfter c ⟨f, rk, rv, rt⟩ l)) 84) V w) w') := by
  obtain ⟨os, d, rfl⟩ := hw
  rw [swp_a]
  simp only [swp_a] at hsw
  have HSW := Lib.hid hsw
  have HT := Lib.hid ht
  have HF := Lib.hid hf
  have HLF := Lib.hid hl
  obtain ⟨m1, m2, m3, m4, m5, m6, m7, m8⟩ := treNum_facts hnum
  have htop := topI_bd c.cap c.node
  change 0 ≤ treTop c ∧ treTop c ≤ 4 at htop
  have hcap := hok.cap
  have hchunk := hok.chunk
  have HFO := Lib.hid (over_fits hf l f.p hf.p)
  obtain ⟨⟨k0, k1⟩, ⟨a0, a1⟩, ⟨b0, b1⟩, ⟨p0, p1⟩, ⟨i0, i1⟩, ⟨j0, j1⟩, ⟨n0, n1⟩, ⟨q0, q1⟩, ⟨h0, h1⟩, ⟨x0, x1⟩, ⟨y0, y1⟩⟩ := hf
  obtain ⟨⟨t0, t1⟩, ⟨la0, la1⟩, ⟨lb0, lb1⟩, ⟨lc0, lc1⟩⟩ := hl
  obtain ⟨T, hT⟩ : ∃ T, treTop c = T := ⟨_, rfl⟩
  have HTOP := Lib.hid hT
  rw [hT] at m4 htop
  have hp' : (f.pc == 8) = true := by simpa using hp
  have HF8 : Hid (Frm.Fits { f with h := 0 }) := Lib.hid ⟨HF.out.kind, HF.out.a, HF.out.b, HF.out.pc, HF.out.i, HF.out.j, HF.out.n, HF.out.p, by simp, HF.out.x, HF.out.y⟩
  have HB : Hid (tAfter c ⟨f, rk, rv, rt⟩ l = ⟨treUpw c { f with h := 0 }, rk, rv, rt⟩) := Lib.hid (by simp [tAfter, treBehind, hp])
  clear ht hsw hnum hp _hi _h15 m5 m6 m7 m8 hT
  go_enter Tryd.func34, Tryd.ntmps34
  go_wp2_with (go_at_call 73; refine (treUp_false c s hok ⟨{ f with h := 0 }, rk, rv, rt⟩ HF8.out (by dsimp only; rw [HTOP.out]; omega) (by dsimp only; omega) V _ HT.out (fun o W' e => HSW.out o W' (by (try rw [swp_drew] at e); (try rw [swp_c] at e); (try rw [swp_b] at e); (try rw [swp_a] at e); exact Ext.trans EXX e)) EXX).mono ?_; rintro e w1 ⟨rfl, os2, n2, rfl⟩; ((try rw [swp_drew]); (try rw [swp_c]); (try rw [swp_b]); (try rw [swp_a]); (try unfold tTell); (try unfold tTake); (try unfold treOver); (try dsimp only)))
  (first | (go_end0; refine ⟨rfl, ?_⟩; rw [HB.out]; exact EXX) | (refine bodyPost_ret (results_none rfl _ _ _) rfl ⟨rfl, ?_⟩; rw [HB.out]; exact EXX))
theorem treCount_as2 (c : Cfg) (f : Frm) (s : Value) (hok : TreOk c) (n h : Int) {U : Int} (hU : treUp c n h = U) (b : Nat) (hn : 0 ≤ n ∧ n ≤ 32) (hh : 0 ≤ h ∧ h ≤ 4) (w : World) (ht : Tab w) (hw : Holds w (tl c f s b)) : Calls Tryd.prog 60 #[.pointer (some ⟨b, 0, none⟩), .int .u8 n, .int .u8 h] w
    fun e w' => e = .returned (.int .i64 U) ∧ w = w' := by
  subst hU
  exact treCount_any c f s hok n h hn hh b w ht hw
theorem treAfter_11 (c : Cfg) (s : Value) (hok : TreOk c) (f : Frm) (rk rv : Int) (rt : Bool) (l : Cel) (hl : l.Fits) (hf : f.Fits) (hnum : treNum c f = true) (_hi : f.pc = 1 ∨ f.pc = 14 → f.i ≤ 32) (_h15 : f.pc = 15 → 1 ≤ f.n) (hp : f.pc = 11) (V w : World) (ht : Tab V) (hsw : ∀ (o : Obj) (W' : World), Ext (swp o V w) W' → Sl W' s (lvC c) (lvL c)) (hw : Ext (V.alloc (.cells (trA c s (⟨f, rk, rv, rt⟩)) 84)) w) : Calls Tryd.prog 34 #[.pointer (some ⟨V.heap.size, 0, none⟩), l.v] w (fun e w' => e = .returned (.tuple #[]) ∧ Ext (swp (.cells (trA c s (tAfter c ⟨f, rk, rv, rt⟩ l)) 84) V w) w') := by
  obtain ⟨os, d, rfl⟩ := hw
  rw [swp_a]
  simp only [swp_a] at hsw
  have HSW := Lib.hid hsw
  have HT := Lib.hid ht
  have HF := Lib.hid hf
  have HLF := Lib.hid hl
  obtain ⟨m1, m2, m3, m4, m5, m6, m7, m8⟩ := treNum_facts hnum
  have htop := topI_bd c.cap c.node
  change 0 ≤ treTop c ∧ treTop c ≤ 4 at htop
  have hcap := hok.cap
  have hchunk := hok.chunk
  have HFO := Lib.hid (over_fits hf l f.p hf.p)
  obtain ⟨⟨k0, k1⟩, ⟨a0, a1⟩, ⟨b0, b1⟩, ⟨p0, p1⟩, ⟨i0, i1⟩, ⟨j0, j1⟩, ⟨n0, n1⟩, ⟨q0, q1⟩, ⟨h0, h1⟩, ⟨x0, x1⟩, ⟨y0, y1⟩⟩ := hf
  obtain ⟨⟨t0, t1⟩, ⟨la0, la1⟩, ⟨lb0, lb1⟩, ⟨lc0, lc1⟩⟩ := hl
  obtain ⟨T, hT⟩ : ∃ T, treTop c = T := ⟨_, rfl⟩
  have HTOP := Lib.hid hT
  rw [hT] at m4 htop
  have hp' : (f.pc == 11) = true := by simpa using hp
  have m9 := m6 (Or.inr hp)
  have hul := treUp_le hok (n := f.n) (h := f.h) n0 (by omega)
  obtain ⟨U, hU⟩ : ∃ U, treUp c f.n f.h = U := ⟨_, rfl⟩
  rw [hU] at m9 hul
  have HU := Lib.hid hU
  have hw1 : IntKind.u8.wrap (f.i + 1) = f.i + 1 := by rw [IntKind.wrap_u8]; omega
  have hw2 : (f.i + 1) % 256 = f.i + 1 := by omega
  have hw3 : IntKind.i64.wrap (f.i + 1) = f.i + 1 := by rw [IntKind.wrap_i64]; omega
  have HF9 : Hid (Frm.Fits { f with i := f.i + 1, pc := 9 }) := Lib.hid ⟨HF.out.kind, HF.out.a, HF.out.b, by simp, by dsimp only; omega, HF.out.j, HF.out.n, HF.out.p, HF.out.h, HF.out.x, HF.out.y⟩
  cases zz : decide (U ≤ f.i + 1)
  · have HB : Hid (tAfter c ⟨f, rk, rv, rt⟩ l = ⟨{ f with i := f.i + 1, pc := 9 }, rk, rv, rt⟩) := Lib.hid (by
      have hz : f.i + 1 < U := by simp at zz; omega
      simp only [tAfter, treBehind, hp, hU, if_pos hz]
      rfl)
    clear hU
    clear ht hsw hnum hp _hi _h15 m5 m6 m7 m8 hT
    go_enter Tryd.func34, Tryd.ntmps34
    go_upto_region 37 with fail
    (refine wp_region_ext_lit (by kernel_rfl) (by kernel_rfl) ?_); (repeat (go_big_quiet_step ((go_at_call 60; exact quiet_ext ((treCount_as2 c { f with i := f.i + 1, pc := 9 } s hok f.n f.h HU.out _ (by omega) (by omega) _ (Tab.ext HT.out EXX) (by simp [tl, Holds, go_sem])).mono fun e w' ⟨he, hx⟩ => ⟨he, hx ▸ Ext.refl _⟩))))); (refine wpQuiet_nil ?_; intro _ hw'; obtain ⟨⟨osq, nq⟩, hw''⟩ := hw'; replace hw'' : _ = grew _ osq nq := hw''; subst hw'')
    go_wp2
    (first | (go_end0; refine ⟨rfl, ?_⟩; rw [HB.out]; exact EXX) | (refine bodyPost_ret (results_none rfl _ _ _) rfl ⟨rfl, ?_⟩; rw [HB.out]; exact EXX))
  · have HB : Hid (tAfter c ⟨f, rk, rv, rt⟩ l = ⟨upG c { f with i := f.i + 1, pc := 9 }, rk, rv, rt⟩) := Lib.hid (by
      have hz : ¬ f.i + 1 < U := by simp at zz; omega
      have hcl : treClears c { f with i := f.i + 1, pc := 9 } = treClears c f := rfl
      simp only [tAfter, treBehind, hp, hU, if_neg hz, upG, hcl]
      cases treClears c f <;> rfl)
    clear hU
    clear ht hsw hnum hp _hi _h15 m5 m6 m7 m8 hT
    go_enter Tryd.func34, Tryd.ntmps34
    go_upto_region 37 with fail
    (refine wp_region_ext_lit (by kernel_rfl) (by kernel_rfl) ?_); (repeat (go_big_quiet_step ((go_at_call 60; exact quiet_ext ((treCount_as2 c { f with i := f.i + 1, pc := 9 } s hok f.n f.h HU.out _ (by omega) (by omega) _ (Tab.ext HT.out EXX) (by simp [tl, Holds, go_sem])).mono fun e w' ⟨he, hx⟩ => ⟨he, hx ▸ Ext.refl _⟩))))); (refine wpQuiet_nil ?_; intro _ hw'; obtain ⟨⟨osq, nq⟩, hw''⟩ := hw'; replace hw'' : _ = grew _ osq nq := hw''; subst hw'')
    go_wp2_with (go_at_call 73; refine (treUp_true c s hok ⟨{ f with i := f.i + 1, pc := 9 }, rk, rv, rt⟩ HF9.out (by dsimp only; rw [HTOP.out]; omega) (by dsimp only; omega) V _ HT.out (fun o W' e => HSW.out o W' (by (try rw [swp_drew] at e); (try rw [swp_c] at e); (try rw [swp_b] at e); (try rw [swp_a] at e); exact Ext.trans EXX e)) EXX).mono ?_; rintro e w1 ⟨rfl, os2, n2, rfl⟩; ((try rw [swp_drew]); (try rw [swp_c]); (try rw [swp_b]); (try rw [swp_a]); (try unfold tTell); (try unfold tTake); (try unfold treOver); (try dsimp only)))
    (first | (go_end0; refine ⟨rfl, ?_⟩; rw [HB.out]; exact EXX) | (refine bodyPost_ret (results_none rfl _ _ _) rfl ⟨rfl, ?_⟩; rw [HB.out]; exact EXX))
end Go.Proofs.YtkklhhdkokncnaaDoor
