/- The walks of the steps of the layer 'tree': down. -/
import Derived.Test.YtkklhhdkokncnaaDoorTre8
namespace Go.Proofs.YtkklhhdkokncnaaDoor
open Go Go.RowKit
set_option maxRecDepth 100000
set_option maxHeartbeats 8000000

def tItem (c : Cfg) (R : TR) (l : Cel) : TR :=
  if R.f.a ≤ l.a then (if R.f.h == 0 then tFound c { R with f := treOver { R.f with p := R.f.i } l } else { R with f := { R.f with h := R.f.h - 1, i := R.f.i * c.node % 256 } })
  else if (R.f.i + 1) % c.node == 0 || decide (treUp c R.f.n R.f.h ≤ R.f.i + 1) then tNone c R else { R with f := { R.f with i := R.f.i + 1 } }

theorem over_fits {f : Frm} (h : f.Fits) (l : Cel) (pp : Int) (hp : 0 ≤ pp ∧ pp ≤ 255) : Frm.Fits { f with p := pp, x := l.a % 4294967296, y := l.b % 4294967296 } :=
  ⟨h.kind, h.a, h.b, h.pc, h.i, h.j, h.n, hp, h.h, by dsimp only; omega, by dsimp only; omega⟩
theorem treDown_any (c : Cfg) (s : Value) (hok : TreOk c) (R : TR) (l : Cel) (hl : l.Fits) (hf : R.f.Fits) (hi : R.f.i ≤ 32) (hh : R.f.h ≤ 4) (hn : R.f.n ≤ 32) (hj : R.f.j ≤ 40) (V w : World) (ht : Tab V) (hw : Ext (V.alloc (.cells (trA c s (R)) 84)) w) :
    Calls Tryd.prog 70 #[.pointer (some ⟨V.heap.size, 0, none⟩), l.v] w (fun e w' => e = .returned (.tuple #[]) ∧ Ext (swp (.cells (trA c s (tItem c R l)) 84) V w) w') := by
  obtain ⟨os, d, rfl⟩ := hw; rw [swp_a]; obtain ⟨f, rk, rv, rt⟩ := R
  dsimp only at hf hi hh hn hj
  have HT := Lib.hid ht
  have HF := Lib.hid hf
  obtain ⟨⟨k0, k1⟩, ⟨a0, a1⟩, ⟨b0, b1⟩, ⟨p0, p1⟩, ⟨i0, i1⟩, ⟨j0, j1⟩, ⟨n0, n1⟩, ⟨q0, q1⟩, ⟨h0, h1⟩, ⟨x0, x1⟩, ⟨y0, y1⟩⟩ := hf
  obtain ⟨⟨t0, t1⟩, ⟨la0, la1⟩, ⟨lb0, lb1⟩, ⟨lc0, lc1⟩⟩ := hl
  have hnode := hok.node
  have hua : IntKind.u64.wrap f.a = f.a := by rw [IntKind.wrap_u64]; omega
  have hwi : IntKind.u8.wrap (f.i + 1) = f.i + 1 := by rw [IntKind.wrap_u8]; omega
  have hwi2 : (f.i + 1) % 256 = f.i + 1 := by omega
  have hwj : IntKind.i64.wrap (f.i + 1) = f.i + 1 := by rw [IntKind.wrap_i64]; omega
  have hwk : IntKind.i64.wrap f.i = f.i := by rw [IntKind.wrap_i64]; omega
  have hwn : IntKind.u8.wrap c.node = c.node := by rw [IntKind.wrap_u8]; omega
  obtain ⟨U, hU⟩ : ∃ U, treUp c f.n f.h = U := ⟨_, rfl⟩
  have HU := Lib.hid hU
  have HUB := Lib.hid (treUp_le hok (n := f.n) (h := f.h) n0 ⟨h0, hh⟩)
  cases ha : decide (f.a ≤ l.a)
  · have HNONE : Hid (((f.i + 1) % c.node == 0) = true ∨ decide (U ≤ f.i + 1) = true → tItem c ⟨f, rk, rv, rt⟩ l = tNone c ⟨f, rk, rv, rt⟩) := Lib.hid fun h => by
      simp at ha
      simp only [tItem, if_neg (show ¬ f.a ≤ l.a by omega), hU]
      rw [if_pos (by rcases h with h | h <;> simp [h])]
    cases z : ((f.i + 1) % c.node == 0)
    · cases z2 : decide (U ≤ f.i + 1)
      · have HB : Hid (tItem c ⟨f, rk, rv, rt⟩ l = ⟨{ f with i := f.i + 1 }, rk, rv, rt⟩) := Lib.hid (by simp at ha; simp only [tItem, if_neg (show ¬ f.a ≤ l.a by omega), hU, z, z2]; rfl)
        clear hU HNONE
        go_enter Tryd.func70, Tryd.ntmps70
        go_upto_region 2 with fail
        ((refine wp_region_ext_lit (by kernel_rfl) (by kernel_rfl) ?_); (repeat (go_big_quiet_step (fail))); (refine wpQuiet_nil ?_; intro _ hw'; obtain ⟨⟨osq, nq⟩, hw''⟩ := hw'; replace hw'' : _ = grew _ osq nq := hw''; subst hw''))
        go_upto_region 6 with fail
        ((refine wp_region_ext_lit (by kernel_rfl) (by kernel_rfl) ?_); (repeat (go_big_quiet_step (fail))); (refine wpQuiet_nil ?_; intro _ hw'; obtain ⟨⟨osq, nq⟩, hw''⟩ := hw'; replace hw'' : _ = grew _ osq nq := hw''; subst hw''))
        go_upto_region 8 with fail
        ((refine wp_region_ext_lit (by kernel_rfl) (by kernel_rfl) ?_); (repeat (go_big_quiet_step ((go_at_call 60; exact quiet_ext ((treCount_any c f s hok f.n f.h (by omega) (by omega) _ _ (Tab.ext HT.out EXX) (by simp [tl, Holds, go_sem])).mono fun e w' ⟨he, hx⟩ => ⟨by rw [he, HU.out], hx ▸ Ext.refl _⟩))))); (refine wpQuiet_nil ?_; intro _ hw'; obtain ⟨⟨osq, nq⟩, hw''⟩ := hw'; replace hw'' : _ = grew _ osq nq := hw''; subst hw''))
        go_wp2
        (go_end0; refine ⟨rfl, ?_⟩; rw [HB.out]; exact EXX)
      · have HB := Lib.hid (HNONE.out (Or.inr z2))
        clear hU HNONE
        go_enter Tryd.func70, Tryd.ntmps70
        go_upto_region 2 with fail
        ((refine wp_region_ext_lit (by kernel_rfl) (by kernel_rfl) ?_); (repeat (go_big_quiet_step (fail))); (refine wpQuiet_nil ?_; intro _ hw'; obtain ⟨⟨osq, nq⟩, hw''⟩ := hw'; replace hw'' : _ = grew _ osq nq := hw''; subst hw''))
        go_upto_region 6 with fail
        ((refine wp_region_ext_lit (by kernel_rfl) (by kernel_rfl) ?_); (repeat (go_big_quiet_step (fail))); (refine wpQuiet_nil ?_; intro _ hw'; obtain ⟨⟨osq, nq⟩, hw''⟩ := hw'; replace hw'' : _ = grew _ osq nq := hw''; subst hw''))
        go_upto_region 8 with fail
        ((refine wp_region_ext_lit (by kernel_rfl) (by kernel_rfl) ?_); (repeat (go_big_quiet_step ((go_at_call 60; exact quiet_ext ((treCount_any c f s hok f.n f.h (by omega) (by omega) _ _ (Tab.ext HT.out EXX) (by simp [tl, Holds, go_sem])).mono fun e w' ⟨he, hx⟩ => ⟨by rw [he, HU.out], hx ▸ Ext.refl _⟩))))); (refine wpQuiet_nil ?_; intro _ hw'; obtain ⟨⟨osq, nq⟩, hw''⟩ := hw'; replace hw'' : _ = grew _ osq nq := hw''; subst hw''))
        go_wp2_with (go_at_call 68; refine (treNone_any c s ⟨f, rk, rv, rt⟩ HF.out V _ EXX).mono ?_; rintro e w1 ⟨rfl, os2, n2, rfl⟩; ((try rw [swp_drew]); (try rw [swp_c]); (try rw [swp_b]); (try rw [swp_a]); (try unfold tTell); (try unfold tTake); (try unfold treOver); (try dsimp only)))
        (go_end0; refine ⟨rfl, ?_⟩; rw [HB.out]; exact EXX)
    · have HB := Lib.hid (HNONE.out (Or.inl z))
      clear hU HNONE
      go_enter Tryd.func70, Tryd.ntmps70
      go_upto_region 2 with fail
      ((refine wp_region_ext_lit (by kernel_rfl) (by kernel_rfl) ?_); (repeat (go_big_quiet_step (fail))); (refine wpQuiet_nil ?_; intro _ hw'; obtain ⟨⟨osq, nq⟩, hw''⟩ := hw'; replace hw'' : _ = grew _ osq nq := hw''; subst hw''))
      go_upto_region 6 with fail
      ((refine wp_region_ext_lit (by kernel_rfl) (by kernel_rfl) ?_); (repeat (go_big_quiet_step (fail))); (refine wpQuiet_nil ?_; intro _ hw'; obtain ⟨⟨osq, nq⟩, hw''⟩ := hw'; replace hw'' : _ = grew _ osq nq := hw''; subst hw''))
      go_upto_region 8 with fail
      ((refine wp_region_ext_lit (by kernel_rfl) (by kernel_rfl) ?_); (repeat (go_big_quiet_step ((go_at_call 60; exact quiet_ext ((treCount_any c f s hok f.n f.h (by omega) (by omega) _ _ (Tab.ext HT.out EXX) (by simp [tl, Holds, go_sem])).mono fun e w' ⟨he, hx⟩ => ⟨by rw [he, HU.out], hx ▸ Ext.refl _⟩))))); (refine wpQuiet_nil ?_; intro _ hw'; obtain ⟨⟨osq, nq⟩, hw''⟩ := hw'; replace hw'' : _ = grew _ osq nq := hw''; subst hw''))
      go_wp2_with (go_at_call 68; refine (treNone_any c s ⟨f, rk, rv, rt⟩ HF.out V _ EXX).mono ?_; rintro e w1 ⟨rfl, os2, n2, rfl⟩; ((try rw [swp_drew]); (try rw [swp_c]); (try rw [swp_b]); (try rw [swp_a]); (try unfold tTell); (try unfold tTake); (try unfold treOver); (try dsimp only)))
      (go_end0; refine ⟨rfl, ?_⟩; rw [HB.out]; exact EXX)
  · cases hz : (f.h == 0)
    · obtain ⟨Q, hQ⟩ : ∃ Q, f.i * c.node % 256 = Q := ⟨_, rfl⟩
      have hwm : IntKind.u8.wrap (f.i * c.node) = Q := by rw [IntKind.wrap_u8, hQ]
      have hz2 : 1 ≤ f.h := by simp at hz; omega
      have hwh : IntKind.u8.wrap (f.h - 1) = f.h - 1 := by rw [IntKind.wrap_u8]; omega
      have HB : Hid (tItem c ⟨f, rk, rv, rt⟩ l = ⟨{ f with h := f.h - 1, i := Q }, rk, rv, rt⟩) := Lib.hid (by simp at ha; simp only [tItem, hz, if_pos ha, hQ]; rfl)
      clear hU hQ
      go_enter Tryd.func70, Tryd.ntmps70
      go_upto_region 2 with fail
      ((refine wp_region_ext_lit (by kernel_rfl) (by kernel_rfl) ?_); (repeat (go_big_quiet_step (fail))); (refine wpQuiet_nil ?_; intro _ hw'; obtain ⟨⟨osq, nq⟩, hw''⟩ := hw'; replace hw'' : _ = grew _ osq nq := hw''; subst hw''))
      go_upto_region 6 with fail
      ((refine wp_region_ext_lit (by kernel_rfl) (by kernel_rfl) ?_); (repeat (go_big_quiet_step (fail))); (refine wpQuiet_nil ?_; intro _ hw'; obtain ⟨⟨osq, nq⟩, hw''⟩ := hw'; replace hw'' : _ = grew _ osq nq := hw''; subst hw''))
      go_upto_region 7 with fail
      go_region
      all_goals
        go_wp2
        (go_end0; refine ⟨rfl, ?_⟩; rw [HB.out]; exact EXX)
    · have HB : Hid (tItem c ⟨f, rk, rv, rt⟩ l = tFound c ⟨{ f with p := f.i, x := l.a % 4294967296, y := l.b % 4294967296 }, rk, rv, rt⟩) := Lib.hid (by simp at ha; simp only [tItem, hz, if_pos ha, treOver]; rfl)
      have HFF := Lib.hid (over_fits HF.out l f.i ⟨i0, i1⟩)
      clear hU
      go_enter Tryd.func70, Tryd.ntmps70
      go_upto_region 2 with fail
      ((refine wp_region_ext_lit (by kernel_rfl) (by kernel_rfl) ?_); (repeat (go_big_quiet_step (fail))); (refine wpQuiet_nil ?_; intro _ hw'; obtain ⟨⟨osq, nq⟩, hw''⟩ := hw'; replace hw'' : _ = grew _ osq nq := hw''; subst hw''))
      go_wp2_with (first | (go_at_call 67; refine (treTake_any c s ⟨{ f with p := f.i }, rk, rv, rt⟩ l V _ EXX).mono ?_; rintro e w1 ⟨rfl, os1, n1, rfl⟩; ((try rw [swp_drew]); (try rw [swp_c]); (try rw [swp_b]); (try rw [swp_a]); (try unfold tTell); (try unfold tTake); (try unfold treOver); (try dsimp only))) | (go_at_call 99; refine (treFound_any c s ⟨{ f with p := f.i, x := l.a % 4294967296, y := l.b % 4294967296 }, rk, rv, rt⟩ HFF.out hi (by dsimp only; omega) hj V _ EXX).mono ?_; rintro e w1 ⟨rfl, os2, n2, rfl⟩; ((try rw [swp_drew]); (try rw [swp_c]); (try rw [swp_b]); (try rw [swp_a]); (try unfold tTell); (try unfold tTake); (try unfold treOver); (try dsimp only))))
      (go_end0; refine ⟨rfl, ?_⟩; rw [HB.out]; exact EXX)
end Go.Proofs.YtkklhhdkokncnaaDoor
/- Plain: 'up', the layer 'tree'; a count under a name. -/
namespace Go.Proofs.YtkklhhdkokncnaaDoor
open Go Go.RowKit
set_option maxRecDepth 100000
set_option maxHeartbeats 8000000

/-- 'up', where what is left over is taken away first. -/
def upG (c : Cfg) (f : Frm) : Frm := if treClears c f then { f with pc := 12 } else treUpw c f
theorem upw_top {c : Cfg} {f : Frm} (h : treTop c ≤ f.h) : treUpw c f = if f.kind == 4 then { f with pc := 24 } else { f with pc := 25 } := by
  unfold treUpw
  rw [show (treTop c - f.h).toNat = 0 by omega]
  rfl
theorem upw_step {c : Cfg} {f : Frm} (h : f.h < treTop c) : treUpw c f = if divI c.node (f.h + 1).toNat f.p < treUp c f.n (f.h + 1) then { f with h := f.h + 1, i := divI c.node (f.h + 1).toNat f.p, pc := 9 } else upG c { f with h := f.h + 1, i := divI c.node (f.h + 1).toNat f.p } := by
  unfold treUpw
  obtain ⟨k, hk⟩ : ∃ k, (treTop c - f.h).toNat = k + 1 := ⟨(treTop c - f.h).toNat - 1, by omega⟩
  rw [hk]
  unfold treClimb
  split
  · rfl
  · unfold upG treUpw
    have h2 : (treTop c - (f.h + 1)).toNat = k := by omega
    simp only [h2]
    rfl
theorem divI_bd {w : Int} (hw : w = 2 ∨ w = 3 ∨ w = 4) {x : Int} (hx : 0 ≤ x ∧ x ≤ 255) : 0 ≤ x / w ∧ x / w ≤ 255 := by
  rcases hw with rfl | rfl | rfl <;> omega

theorem treCount_as (c : Cfg) (f : Frm) (s : Value) (hok : TreOk c) (n h : Int) {U : Int} (hU : treUp c n h = U) (b : Nat) (hn : 0 ≤ n ∧ n ≤ 32) (hh : 0 ≤ h ∧ h ≤ 4) (w : World) (ht : Tab w) (hw : Holds w (tl c f s b)) : Calls Tryd.prog 60 #[.pointer (some ⟨b, 0, none⟩), .int .u8 n, .int .u8 h] w
    fun e w' => e = .returned (.int .i64 U) ∧ w = w' := by
  subst hU
  exact treCount_any c f s hok n h hn hh b w ht hw
end Go.Proofs.YtkklhhdkokncnaaDoor
