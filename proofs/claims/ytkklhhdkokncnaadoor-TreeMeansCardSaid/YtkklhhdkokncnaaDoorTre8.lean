/- The walks of the steps of the layer 'tree': a row of a scan, none, found. -/
import Derived.Test.YtkklhhdkokncnaaDoorTre7
namespace Go.Proofs.YtkklhhdkokncnaaDoor
open Go Go.RowKit
set_option maxRecDepth 100000
set_option maxHeartbeats 8000000

def tNone (c : Cfg) (R : TR) : TR := { R with f := treNone c R.f }
def tFound (c : Cfg) (R : TR) : TR :=
  if R.f.kind == 6 then (if R.f.x == R.f.a then { R with f := { R.f with pc := 23 } } else { R with f := { R.f with pc := 21 } })
  else if R.f.kind == 7 then (if R.f.x == R.f.a then { f := { R.f with pc := 20 }, k := R.f.x, v := R.f.y, t := true } else if R.f.p == 0 then { R with f := { R.f with pc := 21 } } else { R with f := { R.f with pc := 3 } })
  else if R.f.kind == 8 then tScan c R
  else if R.f.kind == 4 then (if R.f.x == R.f.a then { R with f := { R.f with pc := 4 } } else tFresh c R)
  else (if R.f.x == R.f.a then (if R.f.n ≤ R.f.p + 1 then { R with f := { R.f with b := (R.f.y + 1) % 4294967296, pc := 15 } } else { R with f := { R.f with b := (R.f.y + 1) % 4294967296, pc := 13, i := R.f.p + 1 } }) else { R with f := { R.f with pc := 21 } })

theorem treScan_any (c : Cfg) (s : Value) (R : TR) (hf : R.f.Fits) (hp : R.f.p ≤ 32) (hn : R.f.n ≤ 40) (hj : R.f.j ≤ 40) (V w : World) (hw : Ext (V.alloc (.cells (trA c s (R)) 84)) w) : Calls Tryd.prog 75 #[.pointer (some ⟨V.heap.size, 0, none⟩)] w (fun e w' => e = .returned (.tuple #[]) ∧ Ext (swp (.cells (trA c s (tScan c R)) 84) V w) w') := by
  obtain ⟨os, d, rfl⟩ := hw; rw [swp_a]; obtain ⟨f, rk, rv, rt⟩ := R
  dsimp only at hf hp hn hj
  have HF := Lib.hid hf
  obtain ⟨p0, p1⟩ := hf.p
  obtain ⟨n0, n1⟩ := hf.n
  obtain ⟨j0, j1⟩ := hf.j
  have hwj : IntKind.u8.wrap (f.j + 1) = f.j + 1 := by rw [IntKind.wrap_u8]; omega
  have hwj2 : (f.j + 1) % 256 = f.j + 1 := by omega
  have hwk : IntKind.i64.wrap (f.j + 1) = f.j + 1 := by rw [IntKind.wrap_i64]; omega
  clear hf
  cases h : decide (f.b < f.x)
  · cases h2 : decide (c.chunk ≤ f.j + 1)
    · have HB : Hid (tScan c ⟨f, rk, rv, rt⟩ = tNext ⟨{ f with j := f.j + 1 }, f.x, f.y, true⟩) := Lib.hid (by simp at h h2; simp only [tScan, tNext]; rw [if_neg (by omega), if_neg (by omega)])
      go_enter Tryd.func75, Tryd.ntmps75
      go_upto_region 0 with fail
      ((refine wp_region_ext_lit (by kernel_rfl) (by kernel_rfl) ?_); (repeat (go_big_quiet_step (fail))); (refine wpQuiet_nil ?_; intro _ hw'; obtain ⟨⟨osq, nq⟩, hw''⟩ := hw'; replace hw'' : _ = grew _ osq nq := hw''; subst hw''))
      go_upto_region 4 with (go_at_call 71; refine (treTell_any c s ⟨f, rk, rv, rt⟩ HF.out V _ EXX).mono ?_; rintro e w1 ⟨rfl, os1, n1, rfl⟩; ((try rw [swp_drew]); (try rw [swp_c]); (try rw [swp_b]); (try rw [swp_a]); (try unfold tTell); (try dsimp only)))
      ((refine wp_region_ext_lit (by kernel_rfl) (by kernel_rfl) ?_); (repeat (go_big_quiet_step (fail))); (refine wpQuiet_nil ?_; intro _ hw'; obtain ⟨⟨osq, nq⟩, hw''⟩ := hw'; replace hw'' : _ = grew _ osq nq := hw''; subst hw''))
      go_wp2_with (go_at_call 74; refine (treNext1_any c s ⟨{ f with j := f.j + 1 }, f.x, f.y, true⟩ ⟨p0, hp⟩ ⟨n0, hn⟩ V _ EXX).mono ?_; rintro e w1 ⟨rfl, os2, n2, rfl⟩; ((try rw [swp_drew]); (try rw [swp_c]); (try rw [swp_b]); (try rw [swp_a]); (try unfold tTell); (try dsimp only)))
      (go_end0; refine ⟨rfl, ?_⟩; rw [HB.out]; exact EXX)
    · have HB : Hid (tScan c ⟨f, rk, rv, rt⟩ = ⟨{ f with j := f.j + 1, pc := 16 }, f.x, f.y, true⟩) := Lib.hid (by simp at h h2; simp only [tScan]; rw [if_neg (by omega), if_pos (by omega)])
      go_enter Tryd.func75, Tryd.ntmps75
      go_upto_region 0 with fail
      ((refine wp_region_ext_lit (by kernel_rfl) (by kernel_rfl) ?_); (repeat (go_big_quiet_step (fail))); (refine wpQuiet_nil ?_; intro _ hw'; obtain ⟨⟨osq, nq⟩, hw''⟩ := hw'; replace hw'' : _ = grew _ osq nq := hw''; subst hw''))
      go_upto_region 4 with (go_at_call 71; refine (treTell_any c s ⟨f, rk, rv, rt⟩ HF.out V _ EXX).mono ?_; rintro e w1 ⟨rfl, os1, n1, rfl⟩; ((try rw [swp_drew]); (try rw [swp_c]); (try rw [swp_b]); (try rw [swp_a]); (try unfold tTell); (try dsimp only)))
      ((refine wp_region_ext_lit (by kernel_rfl) (by kernel_rfl) ?_); (repeat (go_big_quiet_step (fail))); (refine wpQuiet_nil ?_; intro _ hw'; obtain ⟨⟨osq, nq⟩, hw''⟩ := hw'; replace hw'' : _ = grew _ osq nq := hw''; subst hw''))
      go_wp2
      (refine bodyPost_ret (results_none rfl _ _ _) rfl ⟨rfl, ?_⟩; rw [HB.out]; exact EXX)
  · have HB : Hid (tScan c ⟨f, rk, rv, rt⟩ = ⟨{ f with pc := 20 }, rk, rv, rt⟩) := Lib.hid (by simp at h; simp only [tScan]; rw [if_pos (by omega)])
    go_enter Tryd.func75, Tryd.ntmps75
    go_upto_region 0 with fail
    ((refine wp_region_ext_lit (by kernel_rfl) (by kernel_rfl) ?_); (repeat (go_big_quiet_step (fail))); (refine wpQuiet_nil ?_; intro _ hw'; obtain ⟨⟨osq, nq⟩, hw''⟩ := hw'; replace hw'' : _ = grew _ osq nq := hw''; subst hw''))
    go_wp2
    (refine bodyPost_ret (results_none rfl _ _ _) rfl ⟨rfl, ?_⟩; rw [HB.out]; exact EXX)

theorem treNone_any (c : Cfg) (s : Value) (R : TR) (hf : R.f.Fits) (V w : World) (hw : Ext (V.alloc (.cells (trA c s (R)) 84)) w) : Calls Tryd.prog 68 #[.pointer (some ⟨V.heap.size, 0, none⟩)] w (fun e w' => e = .returned (.tuple #[]) ∧ Ext (swp (.cells (trA c s (tNone c R)) 84) V w) w') := by
  obtain ⟨os, d, rfl⟩ := hw; rw [swp_a]; obtain ⟨f, rk, rv, rt⟩ := R
  dsimp only at hf
  have hff : Frm.Fits { f with p := f.n } := ⟨hf.kind, hf.a, hf.b, hf.pc, hf.i, hf.j, hf.n, hf.n, hf.h, hf.x, hf.y⟩
  have HFF := Lib.hid hff
  clear hf hff
  cases h4 : (f.kind == 4)
  · cases h8 : (f.kind == 8)
    · cases h7 : (f.kind == 7)
      · have HB : Hid (tNone c ⟨f, rk, rv, rt⟩ = ⟨{ f with p := f.n, pc := 21 }, rk, rv, rt⟩) := Lib.hid (by simp only [tNone, treNone, h4, h8, h7]; rfl)
        go_enter Tryd.func68, Tryd.ntmps68
        go_wp2
        (go_end0; refine ⟨rfl, ?_⟩; rw [HB.out]; exact EXX)
      · cases z : (f.n == 0)
        · have HB : Hid (tNone c ⟨f, rk, rv, rt⟩ = ⟨{ f with p := f.n, pc := 3 }, rk, rv, rt⟩) := Lib.hid (by simp only [tNone, treNone, h4, h8, h7, z]; rfl)
          go_enter Tryd.func68, Tryd.ntmps68
          go_wp2_with (go_at_call 72; refine (trePick_any false _ _ _).mono ?_; rintro e w1 ⟨rfl, rfl⟩)
          (go_end0; refine ⟨rfl, ?_⟩; rw [HB.out]; exact EXX)
        · have HB : Hid (tNone c ⟨f, rk, rv, rt⟩ = ⟨{ f with p := f.n, pc := 21 }, rk, rv, rt⟩) := Lib.hid (by simp only [tNone, treNone, h4, h8, h7, z]; rfl)
          go_enter Tryd.func68, Tryd.ntmps68
          go_wp2_with (go_at_call 72; refine (trePick_any true _ _ _).mono ?_; rintro e w1 ⟨rfl, rfl⟩)
          (go_end0; refine ⟨rfl, ?_⟩; rw [HB.out]; exact EXX)
    · have HB : Hid (tNone c ⟨f, rk, rv, rt⟩ = ⟨{ f with p := f.n, pc := 20 }, rk, rv, rt⟩) := Lib.hid (by simp only [tNone, treNone, h4, h8]; rfl)
      go_enter Tryd.func68, Tryd.ntmps68
      go_wp2
      (go_end0; refine ⟨rfl, ?_⟩; rw [HB.out]; exact EXX)
  · have HB : Hid (tNone c ⟨f, rk, rv, rt⟩ = tFresh c ⟨{ f with p := f.n }, rk, rv, rt⟩) := Lib.hid (by simp only [tNone, tFresh, treNone, h4]; rfl)
    go_enter Tryd.func68, Tryd.ntmps68
    go_wp2_with (go_at_call 98; refine (treFresh_any c s ⟨{ f with p := f.n }, rk, rv, rt⟩ HFF.out V _ EXX).mono ?_; rintro e w1 ⟨rfl, os2, n2, rfl⟩; ((try rw [swp_drew]); (try rw [swp_c]); (try rw [swp_b]); (try rw [swp_a]); (try unfold tTell); (try dsimp only)))
    (go_end0; refine ⟨rfl, ?_⟩; rw [HB.out]; exact EXX)

theorem treFound_any (c : Cfg) (s : Value) (R : TR) (hf : R.f.Fits) (hp : R.f.p ≤ 32) (hn : R.f.n ≤ 40) (hj : R.f.j ≤ 40) (V w : World) (hw : Ext (V.alloc (.cells (trA c s (R)) 84)) w) : Calls Tryd.prog 99 #[.pointer (some ⟨V.heap.size, 0, none⟩)] w (fun e w' => e = .returned (.tuple #[]) ∧ Ext (swp (.cells (trA c s (tFound c R)) 84) V w) w') := by
  obtain ⟨os, d, rfl⟩ := hw; rw [swp_a]; obtain ⟨f, rk, rv, rt⟩ := R
  dsimp only at hf hp hn hj
  have HF := Lib.hid hf
  have HFF := HF
  obtain ⟨p0, p1⟩ := hf.p
  obtain ⟨n0, n1⟩ := hf.n
  obtain ⟨y0, y1⟩ := hf.y
  obtain ⟨Q, hQ⟩ : ∃ Q, (f.y + 1) % 4294967296 = Q := ⟨_, rfl⟩
  have hwq : IntKind.u32.wrap (f.y + 1) = Q := by rw [IntKind.wrap_u32, hQ]
  have HQ := Lib.hid hQ
  have hwp : IntKind.u8.wrap (f.p + 1) = f.p + 1 := by rw [IntKind.wrap_u8]; omega
  have hwp2 : (f.p + 1) % 256 = f.p + 1 := by omega
  clear hf
  cases hx : (f.x == f.a)
  · cases h6 : (f.kind == 6)
    · cases h7 : (f.kind == 7)
      · cases h8 : (f.kind == 8)
        · cases h4 : (f.kind == 4)
          · have HB : Hid (tFound c ⟨f, rk, rv, rt⟩ = ⟨{ f with pc := 21 }, rk, rv, rt⟩) := Lib.hid (by simp only [tFound, hx, h6, h7, h8, h4]; rfl)
            clear hQ
            go_enter Tryd.func99, Tryd.ntmps99
            go_upto_region 0 with fail
            ((refine wp_region_ext_lit (by kernel_rfl) (by kernel_rfl) ?_); (repeat (go_big_quiet_step (fail))); (refine wpQuiet_nil ?_; intro _ hw'; obtain ⟨⟨osq, nq⟩, hw''⟩ := hw'; replace hw'' : _ = grew _ osq nq := hw''; subst hw''))
            go_wp2
            (go_end0; refine ⟨rfl, ?_⟩; rw [HB.out]; exact EXX)
          · have HB : Hid (tFound c ⟨f, rk, rv, rt⟩ = tFresh c ⟨{ f with pc := 4 }, rk, rv, rt⟩) := Lib.hid (by simp only [tFound, hx, h6, h7, h8, h4, tFresh, treFresh]; rfl)
            have HFF : Hid (Frm.Fits { f with pc := 4 }) := Lib.hid ⟨HF.out.kind, HF.out.a, HF.out.b, by simp, HF.out.i, HF.out.j, HF.out.n, HF.out.p, HF.out.h, HF.out.x, HF.out.y⟩
            clear hQ
            go_enter Tryd.func99, Tryd.ntmps99
            go_upto_region 0 with fail
            ((refine wp_region_ext_lit (by kernel_rfl) (by kernel_rfl) ?_); (repeat (go_big_quiet_step (fail))); (refine wpQuiet_nil ?_; intro _ hw'; obtain ⟨⟨osq, nq⟩, hw''⟩ := hw'; replace hw'' : _ = grew _ osq nq := hw''; subst hw''))
            go_wp2_with (go_at_call 98; refine (treFresh_any c s ⟨{ f with pc := 4 }, rk, rv, rt⟩ HFF.out V _ EXX).mono ?_; rintro e w1 ⟨rfl, os2, n2, rfl⟩; ((try rw [swp_drew]); (try rw [swp_c]); (try rw [swp_b]); (try rw [swp_a]); (try unfold tTell); (try dsimp only)))
            (go_end0; refine ⟨rfl, ?_⟩; rw [HB.out]; exact EXX)
        · have HB : Hid (tFound c ⟨f, rk, rv, rt⟩ = tScan c ⟨f, rk, rv, rt⟩) := Lib.hid (by simp only [tFound, h6, h7, h8]; rfl)
          clear hQ
          go_enter Tryd.func99, Tryd.ntmps99
          go_upto_region 0 with fail
          ((refine wp_region_ext_lit (by kernel_rfl) (by kernel_rfl) ?_); (repeat (go_big_quiet_step (fail))); (refine wpQuiet_nil ?_; intro _ hw'; obtain ⟨⟨osq, nq⟩, hw''⟩ := hw'; replace hw'' : _ = grew _ osq nq := hw''; subst hw''))
          go_wp2_with (go_at_call 75; refine (treScan_any c s ⟨f, rk, rv, rt⟩ HF.out hp hn hj V _ EXX).mono ?_; rintro e w1 ⟨rfl, os2, n2, rfl⟩; ((try rw [swp_drew]); (try rw [swp_c]); (try rw [swp_b]); (try rw [swp_a]); (try unfold tTell); (try dsimp only)))
          (go_end0; refine ⟨rfl, ?_⟩; rw [HB.out]; exact EXX)
      · cases z : (f.p == 0)
        · have HB : Hid (tFound c ⟨f, rk, rv, rt⟩ = ⟨{ f with pc := 3 }, rk, rv, rt⟩) := Lib.hid (by simp only [tFound, hx, h6, h7, z]; rfl)
          clear hQ
          go_enter Tryd.func99, Tryd.ntmps99
          go_upto_region 0 with fail
          ((refine wp_region_ext_lit (by kernel_rfl) (by kernel_rfl) ?_); (repeat (go_big_quiet_step (fail))); (refine wpQuiet_nil ?_; intro _ hw'; obtain ⟨⟨osq, nq⟩, hw''⟩ := hw'; replace hw'' : _ = grew _ osq nq := hw''; subst hw''))
          go_wp2_with (go_at_call 72; refine (trePick_any false _ _ _).mono ?_; rintro e w1 ⟨rfl, rfl⟩)
          (go_end0; refine ⟨rfl, ?_⟩; rw [HB.out]; exact EXX)
        · have HB : Hid (tFound c ⟨f, rk, rv, rt⟩ = ⟨{ f with pc := 21 }, rk, rv, rt⟩) := Lib.hid (by simp only [tFound, hx, h6, h7, z]; rfl)
          clear hQ
          go_enter Tryd.func99, Tryd.ntmps99
          go_upto_region 0 with fail
          ((refine wp_region_ext_lit (by kernel_rfl) (by kernel_rfl) ?_); (repeat (go_big_quiet_step (fail))); (refine wpQuiet_nil ?_; intro _ hw'; obtain ⟨⟨osq, nq⟩, hw''⟩ := hw'; replace hw'' : _ = grew _ osq nq := hw''; subst hw''))
          go_wp2_with (go_at_call 72; refine (trePick_any true _ _ _).mono ?_; rintro e w1 ⟨rfl, rfl⟩)
          (go_end0; refine ⟨rfl, ?_⟩; rw [HB.out]; exact EXX)
    · have HB : Hid (tFound c ⟨f, rk, rv, rt⟩ = ⟨{ f with pc := 21 }, rk, rv, rt⟩) := Lib.hid (by simp only [tFound, hx, h6]; rfl)
      clear hQ
      go_enter Tryd.func99, Tryd.ntmps99
      go_upto_region 0 with fail
      ((refine wp_region_ext_lit (by kernel_rfl) (by kernel_rfl) ?_); (repeat (go_big_quiet_step (fail))); (refine wpQuiet_nil ?_; intro _ hw'; obtain ⟨⟨osq, nq⟩, hw''⟩ := hw'; replace hw'' : _ = grew _ osq nq := hw''; subst hw''))
      go_wp2_with (go_at_call 72; refine (trePick_any false _ _ _).mono ?_; rintro e w1 ⟨rfl, rfl⟩)
      (go_end0; refine ⟨rfl, ?_⟩; rw [HB.out]; exact EXX)
  · cases h6 : (f.kind == 6)
    · cases h7 : (f.kind == 7)
      · cases h8 : (f.kind == 8)
        · cases h4 : (f.kind == 4)
          · cases h : decide (f.p + 1 < f.n)
            · have HB : Hid (tFound c ⟨f, rk, rv, rt⟩ = ⟨{ f with b := Q, pc := 15 }, rk, rv, rt⟩) := Lib.hid (by simp at h; simp only [tFound, hx, h6, h7, h8, h4, hQ]; simp [h])
              clear hQ
              go_enter Tryd.func99, Tryd.ntmps99
              go_upto_region 0 with fail
              ((refine wp_region_ext_lit (by kernel_rfl) (by kernel_rfl) ?_); (repeat (go_big_quiet_step (fail))); (refine wpQuiet_nil ?_; intro _ hw'; obtain ⟨⟨osq, nq⟩, hw''⟩ := hw'; replace hw'' : _ = grew _ osq nq := hw''; subst hw''))
              go_upto_region 5 with fail
              ((refine wp_region_ext_lit (by kernel_rfl) (by kernel_rfl) ?_); (repeat (go_big_quiet_step (fail))); (refine wpQuiet_nil ?_; intro _ hw'; obtain ⟨⟨osq, nq⟩, hw''⟩ := hw'; replace hw'' : _ = grew _ osq nq := hw''; subst hw''))
              go_wp2
              (go_end0; refine ⟨rfl, ?_⟩; rw [HB.out]; exact EXX)
            · have HB : Hid (tFound c ⟨f, rk, rv, rt⟩ = ⟨{ f with b := Q, pc := 13, i := f.p + 1 }, rk, rv, rt⟩) := Lib.hid (by simp at h; simp only [tFound, hx, h6, h7, h8, h4, hQ]; simp [show ¬ f.n ≤ f.p + 1 by omega])
              clear hQ
              go_enter Tryd.func99, Tryd.ntmps99
              go_upto_region 0 with fail
              ((refine wp_region_ext_lit (by kernel_rfl) (by kernel_rfl) ?_); (repeat (go_big_quiet_step (fail))); (refine wpQuiet_nil ?_; intro _ hw'; obtain ⟨⟨osq, nq⟩, hw''⟩ := hw'; replace hw'' : _ = grew _ osq nq := hw''; subst hw''))
              go_upto_region 5 with fail
              ((refine wp_region_ext_lit (by kernel_rfl) (by kernel_rfl) ?_); (repeat (go_big_quiet_step (fail))); (refine wpQuiet_nil ?_; intro _ hw'; obtain ⟨⟨osq, nq⟩, hw''⟩ := hw'; replace hw'' : _ = grew _ osq nq := hw''; subst hw''))
              go_wp2
              (go_end0; refine ⟨rfl, ?_⟩; rw [HB.out]; exact EXX)
          · have HB : Hid (tFound c ⟨f, rk, rv, rt⟩ = ⟨{ f with pc := 4 }, rk, rv, rt⟩) := Lib.hid (by simp only [tFound, hx, h6, h7, h8, h4]; rfl)
            clear hQ
            go_enter Tryd.func99, Tryd.ntmps99
            go_upto_region 0 with fail
            ((refine wp_region_ext_lit (by kernel_rfl) (by kernel_rfl) ?_); (repeat (go_big_quiet_step (fail))); (refine wpQuiet_nil ?_; intro _ hw'; obtain ⟨⟨osq, nq⟩, hw''⟩ := hw'; replace hw'' : _ = grew _ osq nq := hw''; subst hw''))
            go_wp2
            (go_end0; refine ⟨rfl, ?_⟩; rw [HB.out]; exact EXX)
        · have HB : Hid (tFound c ⟨f, rk, rv, rt⟩ = tScan c ⟨f, rk, rv, rt⟩) := Lib.hid (by simp only [tFound, h6, h7, h8]; rfl)
          clear hQ
          go_enter Tryd.func99, Tryd.ntmps99
          go_upto_region 0 with fail
          ((refine wp_region_ext_lit (by kernel_rfl) (by kernel_rfl) ?_); (repeat (go_big_quiet_step (fail))); (refine wpQuiet_nil ?_; intro _ hw'; obtain ⟨⟨osq, nq⟩, hw''⟩ := hw'; replace hw'' : _ = grew _ osq nq := hw''; subst hw''))
          go_wp2_with (go_at_call 75; refine (treScan_any c s ⟨f, rk, rv, rt⟩ HF.out hp hn hj V _ EXX).mono ?_; rintro e w1 ⟨rfl, os2, n2, rfl⟩; ((try rw [swp_drew]); (try rw [swp_c]); (try rw [swp_b]); (try rw [swp_a]); (try unfold tTell); (try dsimp only)))
          (go_end0; refine ⟨rfl, ?_⟩; rw [HB.out]; exact EXX)
      · have HB : Hid (tFound c ⟨f, rk, rv, rt⟩ = ⟨{ f with pc := 20 }, f.x, f.y, true⟩) := Lib.hid (by simp only [tFound, hx, h6, h7]; rfl)
        cases z : (f.p == 0)
        · have HFF : Hid (Frm.Fits { f with pc := 3 }) := Lib.hid ⟨HF.out.kind, HF.out.a, HF.out.b, by simp, HF.out.i, HF.out.j, HF.out.n, HF.out.p, HF.out.h, HF.out.x, HF.out.y⟩
          clear hQ
          go_enter Tryd.func99, Tryd.ntmps99
          go_upto_region 0 with fail
          ((refine wp_region_ext_lit (by kernel_rfl) (by kernel_rfl) ?_); (repeat (go_big_quiet_step (fail))); (refine wpQuiet_nil ?_; intro _ hw'; obtain ⟨⟨osq, nq⟩, hw''⟩ := hw'; replace hw'' : _ = grew _ osq nq := hw''; subst hw''))
          go_wp2_with (first | (go_at_call 72; refine (trePick_any false _ _ _).mono ?_; rintro e w1 ⟨rfl, rfl⟩) | (go_at_call 71; refine (treTell_any c s ⟨{ f with pc := 3 }, rk, rv, rt⟩ HFF.out V _ EXX).mono ?_; rintro e w1 ⟨rfl, os1, n1, rfl⟩; ((try rw [swp_drew]); (try rw [swp_c]); (try rw [swp_b]); (try rw [swp_a]); (try unfold tTell); (try dsimp only))))
          (go_end0; refine ⟨rfl, ?_⟩; rw [HB.out]; exact EXX)
        · have HFF : Hid (Frm.Fits { f with pc := 21 }) := Lib.hid ⟨HF.out.kind, HF.out.a, HF.out.b, by simp, HF.out.i, HF.out.j, HF.out.n, HF.out.p, HF.out.h, HF.out.x, HF.out.y⟩
          clear hQ
          go_enter Tryd.func99, Tryd.ntmps99
          go_upto_region 0 with fail
          ((refine wp_region_ext_lit (by kernel_rfl) (by kernel_rfl) ?_); (repeat (go_big_quiet_step (fail))); (refine wpQuiet_nil ?_; intro _ hw'; obtain ⟨⟨osq, nq⟩, hw''⟩ := hw'; replace hw'' : _ = grew _ osq nq := hw''; subst hw''))
          go_wp2_with (first | (go_at_call 72; refine (trePick_any true _ _ _).mono ?_; rintro e w1 ⟨rfl, rfl⟩) | (go_at_call 71; refine (treTell_any c s ⟨{ f with pc := 21 }, rk, rv, rt⟩ HFF.out V _ EXX).mono ?_; rintro e w1 ⟨rfl, os1, n1, rfl⟩; ((try rw [swp_drew]); (try rw [swp_c]); (try rw [swp_b]); (try rw [swp_a]); (try unfold tTell); (try dsimp only))))
          (go_end0; refine ⟨rfl, ?_⟩; rw [HB.out]; exact EXX)
    · have HB : Hid (tFound c ⟨f, rk, rv, rt⟩ = ⟨{ f with pc := 23 }, rk, rv, rt⟩) := Lib.hid (by simp only [tFound, hx, h6]; rfl)
      clear hQ
      go_enter Tryd.func99, Tryd.ntmps99
      go_upto_region 0 with fail
      ((refine wp_region_ext_lit (by kernel_rfl) (by kernel_rfl) ?_); (repeat (go_big_quiet_step (fail))); (refine wpQuiet_nil ?_; intro _ hw'; obtain ⟨⟨osq, nq⟩, hw''⟩ := hw'; replace hw'' : _ = grew _ osq nq := hw''; subst hw''))
      go_wp2_with (go_at_call 72; refine (trePick_any true _ _ _).mono ?_; rintro e w1 ⟨rfl, rfl⟩)
      (go_end0; refine ⟨rfl, ?_⟩; rw [HB.out]; exact EXX)
end Go.Proofs.YtkklhhdkokncnaaDoor
