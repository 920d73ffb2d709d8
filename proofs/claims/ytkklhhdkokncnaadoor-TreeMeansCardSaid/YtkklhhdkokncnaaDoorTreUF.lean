/- The walk of 'up', the layer 'tree'. -/
import Derived.Test.YtkklhhdkokncnaaDoorTre8
import Derived.Test.YtkklhhdkokncnaaDoorGi
import Derived.WalkMore
import Derived.ScopeJumps
import Derived.LoopTactic
namespace Go.Proofs.YtkklhhdkokncnaaDoor
open Go Go.RowKit
set_option maxRecDepth 100000
set_option maxHeartbeats 8000000

theorem lit_F (U : Nat → Value) : #[U 0, U 1, U 2, U 3, U 4, U 5, U 6, U 7, U 8, U 9, U 10, U 11, U 12, U 13, U 14, U 15, U 16, U 17, U 18, U 19, U 20, U 21, U 22, U 23, U 24, U 25, U 26, U 27, U 28, U 29, U 30, U 31, U 32, U 33, U 34, U 35, U 36, U 37, U 38, U 39, U 40, U 41, U 42, U 43, U 44, U 45, U 46, U 47, U 48, U 49, U 50, U 51, U 52, U 53, U 54, U 55, U 56, U 57, U 58, U 59, U 60, U 61, U 62, U 63, U 64, U 65, U 66, U 67, U 68, U 69, U 70, U 71, U 72, U 73, U 74, U 75, U 76, U 77, U 78, U 79, U 80, U 81, U 82, U 83, U 84, U 85, U 86, U 87, U 88, U 89, U 90, U 91, U 92, U 93, U 94, U 95, U 96, U 97, U 98, U 99, U 100, U 101, U 102, U 103, U 104, U 105, U 106, U 107, U 108, U 109, U 110, U 111, U 112, U 113, U 114, U 115, U 116, U 117, U 118, U 119, U 120, U 121, U 122, U 123, U 124, U 125, U 126, U 127, U 128, U 129, U 130, U 131, U 132, U 133, U 134] = ((List.range 135).map U).toArray := rfl
/-- An act's slots by one function. -/
theorem act_F (V : World) (A : Act) (hd : A.defers = []) (hs : A.tmps.size = 135) (h0 : A.tmps.getD 0 undef = .pointer (some ⟨V.heap.size, 0, none⟩)) (h1 : A.tmps.getD 1 undef = .bool true) : ∃ U : Nat → Value, A = { tmps := #[.pointer (some ⟨V.heap.size, 0, none⟩), .bool true, U 2, U 3, U 4, U 5, U 6, U 7, U 8, U 9, U 10, U 11, U 12, U 13, U 14, U 15, U 16, U 17, U 18, U 19, U 20, U 21, U 22, U 23, U 24, U 25, U 26, U 27, U 28, U 29, U 30, U 31, U 32, U 33, U 34, U 35, U 36, U 37, U 38, U 39, U 40, U 41, U 42, U 43, U 44, U 45, U 46, U 47, U 48, U 49, U 50, U 51, U 52, U 53, U 54, U 55, U 56, U 57, U 58, U 59, U 60, U 61, U 62, U 63, U 64, U 65, U 66, U 67, U 68, U 69, U 70, U 71, U 72, U 73, U 74, U 75, U 76, U 77, U 78, U 79, U 80, U 81, U 82, U 83, U 84, U 85, U 86, U 87, U 88, U 89, U 90, U 91, U 92, U 93, U 94, U 95, U 96, U 97, U 98, U 99, U 100, U 101, U 102, U 103, U 104, U 105, U 106, U 107, U 108, U 109, U 110, U 111, U 112, U 113, U 114, U 115, U 116, U 117, U 118, U 119, U 120, U 121, U 122, U 123, U 124, U 125, U 126, U 127, U 128, U 129, U 130, U 131, U 132, U 133, U 134], defers := [] } := by
  obtain ⟨T, D⟩ := A
  dsimp only at hd hs h0 h1
  subst hd
  have e : T = ((List.range 135).map (fun k => T.getD k undef)).toArray := by
    refine Array.ext_getElem? fun k => ?_
    by_cases hk : k < 135
    · have hk2 : k < T.size := by omega
      simp [hk, hk2, Array.getD]
    · have hk2 : T.size ≤ k := by omega
      simp [hk, hk2]
  refine ⟨fun k => T.getD k undef, ?_⟩
  rw [← lit_F, h0, h1] at e
  rw [← e]
/-- What holds at a jump back. -/
def UpJF (c : Cfg) (s : Value) (V : World) (os : Array Obj) (d : Nat) (rk rv : Int) (rt : Bool) (T : Int) (RES : Frm) (a' : Act) (w' : World) : Prop := ∃ (g : Frm), (∃ U : Nat → Value, a' = { tmps := #[.pointer (some ⟨V.heap.size, 0, none⟩), .bool true, U 2, U 3, U 4, U 5, U 6, U 7, U 8, U 9, U 10, U 11, U 12, U 13, U 14, U 15, U 16, U 17, U 18, U 19, U 20, U 21, U 22, U 23, U 24, U 25, U 26, U 27, U 28, U 29, U 30, U 31, U 32, U 33, U 34, U 35, U 36, U 37, U 38, U 39, U 40, U 41, U 42, U 43, U 44, U 45, U 46, U 47, U 48, U 49, U 50, U 51, U 52, U 53, U 54, U 55, U 56, U 57, U 58, U 59, U 60, U 61, U 62, U 63, U 64, U 65, U 66, U 67, U 68, U 69, U 70, U 71, U 72, U 73, U 74, U 75, U 76, U 77, U 78, U 79, U 80, U 81, U 82, U 83, U 84, U 85, U 86, U 87, U 88, U 89, U 90, U 91, U 92, U 93, U 94, U 95, U 96, U 97, U 98, U 99, U 100, U 101, U 102, U 103, U 104, U 105, U 106, U 107, U 108, U 109, U 110, U 111, U 112, U 113, U 114, U 115, U 116, U 117, U 118, U 119, U 120, U 121, U 122, U 123, U 124, U 125, U 126, U 127, U 128, U 129, U 130, U 131, U 132, U 133, U 134], defers := [] }) ∧ Ext (grew (V.alloc (.cells (trA c s (⟨g, rk, rv, rt⟩)) 84)) os d) w' ∧ Hid (RES = upG c g) ∧ 0 ≤ g.h ∧ g.h ≤ T ∧ 0 ≤ g.n ∧ g.n ≤ c.cap ∧ 0 ≤ g.p ∧ g.p ≤ 255 ∧ 0 ≤ g.i ∧ g.i ≤ 255
theorem treUp_false (c : Cfg) (s : Value) (hok : TreOk c) (R : TR) (hf : R.f.Fits) (hh : R.f.h ≤ treTop c) (hnn : R.f.n ≤ c.cap) (V w : World) (ht : Tab V) (hsw : ∀ (o : Obj) (W' : World), Ext (swp o V w) W' → Sl W' s (lvC c) (lvL c)) (hw : Ext (V.alloc (.cells (trA c s (R)) 84)) w) :
    Calls Tryd.prog 73 #[.pointer (some ⟨V.heap.size, 0, none⟩), .bool false] w (fun e w' => e = .returned (.tuple #[]) ∧ Ext (swp (.cells (trA c s ({ R with f := treUpw c R.f })) 84) V w) w') := by
  obtain ⟨os, d, rfl⟩ := hw
  rw [swp_a]
  simp only [swp_a] at hsw
  obtain ⟨f, rk, rv, rt⟩ := R
  dsimp only at hf hh hnn
  have HT := Lib.hid ht
  have HSW := Lib.hid hsw
  have hcap := hok.cap
  have hnode := hok.node
  have htop := topI_bd c.cap c.node
  change 0 ≤ treTop c ∧ treTop c ≤ 4 at htop
  obtain ⟨T, hT⟩ : ∃ T, treTop c = T := ⟨_, rfl⟩
  rw [hT] at htop hh
  have HTOP := Lib.hid hT
  obtain ⟨hn0, _⟩ := hf.n
  obtain ⟨hp0, hp1⟩ := hf.p
  obtain ⟨hi0, hi1⟩ := hf.i
  obtain ⟨hh0, _⟩ := hf.h
  have hwc : IntKind.u8.wrap c.cap = c.cap := by rw [IntKind.wrap_u8]; omega
  have hwd : IntKind.u8.wrap c.node = c.node := by rw [IntKind.wrap_u8]; omega
  have hn1 := hnn
  obtain ⟨RES, hRES⟩ : ∃ r, treUpw c f = r := ⟨_, rfl⟩
  rw [show ({ (⟨f, rk, rv, rt⟩ : TR) with f := treUpw c f } : TR) = ⟨RES, rk, rv, rt⟩ by rw [← hRES]]
  have HG : Hid (RES = treUpw c f) := Lib.hid hRES.symm
  clear ht hf hT hsw hRES
  go_enter Tryd.func73, Tryd.ntmps73
  go_wp2
  refine wp_scope_jumps 0 (UpJF c s V os d rk rv rt T RES) (fun _ w' => 5 - (intOf ((w'.cell? ⟨V.heap.size, 8, none⟩).getD undef)).toNat) rfl ?_ ?_
  · go_wp2
    go_step3
    obtain ⟨HH, hHH⟩ : ∃ k : Nat, f.h = k := ⟨f.h.toNat, by omega⟩
    have HHH := Lib.hid hHH
    clear hHH
    obtain ⟨UP, hUP⟩ : ∃ U, treUp c (if f.n < c.cap then f.n + 1 else f.n) f.h = U := ⟨_, rfl⟩
    obtain ⟨UN, hUN⟩ : ∃ U, treUp c f.n f.h = U := ⟨_, rfl⟩
    obtain ⟨M, hM⟩ : ∃ M, (if f.n < c.cap then f.n + 1 else f.n) = M := ⟨_, rfl⟩
    have HUN := Lib.hid hUN
    have HUP : Hid (treUp c M f.h = UP) := Lib.hid (by rw [← hM]; exact hUP)
    have hM2 : 0 ≤ M ∧ M ≤ 32 := by rw [← hM]; split <;> omega
    have hmn : ∀ w : World, (Builtin.min_ #[5, 5] 5 #[.int .u8 (f.n + 1), .int .u8 c.cap]).run Tryd.prog w = .ok (.int .u8 M) w := fun w => by
      rw [run_min_int2, ← hM]
      congr 2
      split <;> split <;> omega
    have HCL : Hid (treClears c f = (f.kind == 5 && decide (UN < UP))) := Lib.hid (by unfold treClears; rw [hUN, hUP])
    have hwn1 : IntKind.u8.wrap (f.n + 1) = f.n + 1 := by rw [IntKind.wrap_u8]; omega
    have hwn2 : (f.n + 1) % 256 = f.n + 1 := by omega
    have hwh1 : IntKind.u8.wrap (f.h + 1) = f.h + 1 := by rw [IntKind.wrap_u8]; omega
    have hwh2 : (f.h + 1) % 256 = f.h + 1 := by omega
    have hwh3 := Lib.hid (show (f.h + 1).toNat = HH + 1 by have := HHH.out; omega)
    clear hUN hUP hM
    cases zt : (f.h == T)
    · have hzt : f.h < T := by simp at zt; omega
      obtain ⟨U1, hU1⟩ : ∃ U, treUp c f.n (f.h + 1) = U := ⟨_, rfl⟩
      obtain ⟨DV, hDV⟩ : ∃ D, divI c.node (f.h + 1).toNat f.p = D := ⟨_, rfl⟩
      have hst := upw_step (c := c) (f := f) (by rw [HTOP.out]; exact hzt)
      rw [hU1, hDV] at hst
      have HS1 : Hid (decide (DV < U1) = true → treUpw c f = { f with h := f.h + 1, i := DV, pc := 9 }) := Lib.hid fun h => by rw [hst, if_pos (by simpa using h)]
      have HS2 : Hid (decide (DV < U1) = false → treUpw c f = upG c { f with h := f.h + 1, i := DV }) := Lib.hid fun h => by rw [hst, if_neg (by simpa using h)]
      have HU1 := Lib.hid hU1
      have HDV : Hid (divI c.node (HH + 1 - 0) f.p = DV) := Lib.hid (by rw [Nat.sub_zero, ← hwh3.out]; exact hDV)
      clear hU1 hDV hst
      go_upto_region 0 with fail
      (refine wp_region_ext_lit (by kernel_rfl) (by kernel_rfl) ?_); (try dsimp only [List.append]); (repeat (go_big_quiet_step ((first | (go_at_call 60; (with_reducible show Calls _ _ #[_, Value.int IntKind.u8 (M), _] _ _); exact quiet_ext ((treCount_as c (f) s hok (M) (f.h) HUP.out _ (by (try dsimp only); omega) (by (try dsimp only); omega) _ (Tab.ext HT.out EXX) (by simp [tl, Holds, go_sem])).mono fun e w' ⟨he, hx⟩ => ⟨he, hx ▸ Ext.refl _⟩)) | (go_at_call 60; (with_reducible show Calls _ _ #[_, Value.int IntKind.u8 (f.n), _] _ _); exact quiet_ext ((treCount_as c (f) s hok (f.n) (f.h) HUN.out _ (by (try dsimp only); omega) (by (try dsimp only); omega) _ (Tab.ext HT.out EXX) (by simp [tl, Holds, go_sem])).mono fun e w' ⟨he, hx⟩ => ⟨he, hx ▸ Ext.refl _⟩)))))); (refine wpQuiet_nil ?_; intro _ hw'; obtain ⟨⟨osq, nq⟩, hw''⟩ := hw'; replace hw'' : _ = grew _ osq nq := hw''; subst hw'')
      go_upto_region 2 with fail
      (refine wp_region_ext_lit (by kernel_rfl) (by kernel_rfl) ?_); (repeat (go_big_quiet_step ((go_at_call 69; exact quiet_ext ((treTop_any c f s _ _ (by simp [tl, Holds, go_sem]) (HSW.out _ _ EXX)).mono fun e w' ⟨he, hx⟩ => ⟨by rw [he, HTOP.out], hx ▸ Ext.refl _⟩))))); (refine wpQuiet_nil ?_; intro _ hw'; obtain ⟨⟨osq, nq⟩, hw''⟩ := hw'; replace hw'' : _ = grew _ osq nq := hw''; subst hw'')
      go_wp2
      go_loopw [94] (fun t94 wr => ∃ (j : Nat) (x : Int), j ≤ HH + 1 ∧ t94 = .int .u8 j ∧ 0 ≤ x ∧ x ≤ 255 ∧ Hid (divI c.node (HH + 1 - j) x = DV) ∧ Ext (grew (V.alloc (.cells (trA c s (⟨{ f with h := f.h + 1, i := x }, rk, rv, rt⟩)) 84)) os d) wr) (fun t94 _ => HH + 1 - (intOf t94).toNat)
      case atStart => exact ⟨0, f.p, Nat.zero_le _, rfl, by omega, by omega, HDV, EXX⟩
      case round =>
        obtain ⟨j, x, hj, rfl, hx0, hx1, HDJ, osj, dj, rfl⟩ := hrel
        by_cases hlt : j < HH + 1
        · have hq := divI_bd hnode ⟨hx0, hx1⟩
          obtain ⟨Q, hQ⟩ : ∃ Q, x / c.node = Q := ⟨_, rfl⟩
          rw [hQ] at hq
          have hwq : IntKind.u8.wrap (x / c.node) = Q := by rw [IntKind.wrap_u8, hQ]; omega
          have HQ := Lib.hid hQ
          have jj : (j : Int) < f.h + 1 := by have := HHH.out; omega
          have hwj1 : IntKind.u8.wrap ((j : Int) + 1) = (j : Int) + 1 := by rw [IntKind.wrap_u8]; omega
          have hwj2 : ((j : Int) + 1) % 256 = (j : Int) + 1 := by omega
          go_upto_region 8 with fail
          go_region
          all_goals
            go_wp2
            go_roundw
            case rel => exact ⟨j + 1, Q, by omega, by go_num, hq.1, hq.2, Lib.hid (by have h1 := HDJ.out; rw [show HH + 1 - j = (HH + 1 - (j + 1)) + 1 by omega] at h1; simp only [divI, HQ.out] at h1; exact h1), EXX⟩
            case measure => simp [intOf]; omega
        · have hje : j = HH + 1 := by omega
          have hxd : x = DV := by have h1 := HDJ.out; rw [hje, Nat.sub_self] at h1; exact h1
          subst hxd
          have hxx : 0 ≤ x ∧ x ≤ 255 := ⟨hx0, hx1⟩
          have jj : (j : Int) = f.h + 1 := by have := HHH.out; omega
          clear hje hlt
          cases dn : decide (x < U1)
          · have HB := Lib.hid (HS2.out dn)
            go_upto_region 10 with fail
            (refine wp_region_ext_lit (by kernel_rfl) (by kernel_rfl) ?_); (repeat (go_big_quiet_step ((go_at_call 60; (with_reducible show Calls _ _ #[_, Value.int IntKind.u8 (f.n), _] _ _); exact quiet_ext ((treCount_as c ({ f with h := f.h + 1, i := x }) s hok (f.n) (f.h + 1) HU1.out _ (by (try dsimp only); omega) (by (try dsimp only); omega) _ (Tab.ext HT.out EXX) (by simp [tl, Holds, go_sem])).mono fun e w' ⟨he, hx⟩ => ⟨he, hx ▸ Ext.refl _⟩))))); (refine wpQuiet_nil ?_; intro _ hw'; obtain ⟨⟨osq, nq⟩, hw''⟩ := hw'; replace hw'' : _ = grew _ osq nq := hw''; subst hw'')
            go_wp2
            go_step3
            exact ⟨rfl, { f with h := f.h + 1, i := x }, act_F V _ rfl rfl rfl rfl, EXX, Lib.hid (by rw [HG.out, HB.out]), by dsimp only; omega, by dsimp only; omega, hn0, hn1, hp0, hp1, hxx.1, hxx.2⟩
          · have HB := Lib.hid (HS1.out dn)
            go_upto_region 10 with fail
            (refine wp_region_ext_lit (by kernel_rfl) (by kernel_rfl) ?_); (repeat (go_big_quiet_step ((go_at_call 60; (with_reducible show Calls _ _ #[_, Value.int IntKind.u8 (f.n), _] _ _); exact quiet_ext ((treCount_as c ({ f with h := f.h + 1, i := x }) s hok (f.n) (f.h + 1) HU1.out _ (by (try dsimp only); omega) (by (try dsimp only); omega) _ (Tab.ext HT.out EXX) (by simp [tl, Holds, go_sem])).mono fun e w' ⟨he, hx⟩ => ⟨he, hx ▸ Ext.refl _⟩))))); (refine wpQuiet_nil ?_; intro _ hw'; obtain ⟨⟨osq, nq⟩, hw''⟩ := hw'; replace hw'' : _ = grew _ osq nq := hw''; subst hw'')
            go_wp2
            (try simp only [Exit.jump])
            refine bodyPost_ret (results_none rfl _ _ _) rfl ⟨rfl, ?_⟩
            rw [HG.out, HB.out]
            exact EXB
    · have HT2 := Lib.hid (upw_top (c := c) (f := f) (by rw [HTOP.out]; simp at zt; omega))
      cases k4 : (f.kind == 4)
      · have HB : Hid (treUpw c f = { f with pc := 25 }) := Lib.hid (by rw [HT2.out, k4]; rfl)
        go_upto_region 0 with fail
        (refine wp_region_ext_lit (by kernel_rfl) (by kernel_rfl) ?_); (try dsimp only [List.append]); (repeat (go_big_quiet_step ((first | (go_at_call 60; (with_reducible show Calls _ _ #[_, Value.int IntKind.u8 (M), _] _ _); exact quiet_ext ((treCount_as c (f) s hok (M) (f.h) HUP.out _ (by (try dsimp only); omega) (by (try dsimp only); omega) _ (Tab.ext HT.out EXX) (by simp [tl, Holds, go_sem])).mono fun e w' ⟨he, hx⟩ => ⟨he, hx ▸ Ext.refl _⟩)) | (go_at_call 60; (with_reducible show Calls _ _ #[_, Value.int IntKind.u8 (f.n), _] _ _); exact quiet_ext ((treCount_as c (f) s hok (f.n) (f.h) HUN.out _ (by (try dsimp only); omega) (by (try dsimp only); omega) _ (Tab.ext HT.out EXX) (by simp [tl, Holds, go_sem])).mono fun e w' ⟨he, hx⟩ => ⟨he, hx ▸ Ext.refl _⟩)))))); (refine wpQuiet_nil ?_; intro _ hw'; obtain ⟨⟨osq, nq⟩, hw''⟩ := hw'; replace hw'' : _ = grew _ osq nq := hw''; subst hw'')
        go_upto_region 2 with fail
        (refine wp_region_ext_lit (by kernel_rfl) (by kernel_rfl) ?_); (repeat (go_big_quiet_step ((go_at_call 69; exact quiet_ext ((treTop_any c f s _ _ (by simp [tl, Holds, go_sem]) (HSW.out _ _ EXX)).mono fun e w' ⟨he, hx⟩ => ⟨by rw [he, HTOP.out], hx ▸ Ext.refl _⟩))))); (refine wpQuiet_nil ?_; intro _ hw'; obtain ⟨⟨osq, nq⟩, hw''⟩ := hw'; replace hw'' : _ = grew _ osq nq := hw''; subst hw'')
        go_wp2_with (go_at_call 72; refine (trePick_any false _ _ _).mono ?_; rintro e w1 ⟨rfl, rfl⟩)
        (try simp only [Exit.jump])
        refine bodyPost_ret (results_none rfl _ _ _) rfl ⟨rfl, ?_⟩
        rw [HG.out, HB.out]
        exact EXB
      · have HB : Hid (treUpw c f = { f with pc := 24 }) := Lib.hid (by rw [HT2.out, k4]; rfl)
        go_upto_region 0 with fail
        (refine wp_region_ext_lit (by kernel_rfl) (by kernel_rfl) ?_); (try dsimp only [List.append]); (repeat (go_big_quiet_step ((first | (go_at_call 60; (with_reducible show Calls _ _ #[_, Value.int IntKind.u8 (M), _] _ _); exact quiet_ext ((treCount_as c (f) s hok (M) (f.h) HUP.out _ (by (try dsimp only); omega) (by (try dsimp only); omega) _ (Tab.ext HT.out EXX) (by simp [tl, Holds, go_sem])).mono fun e w' ⟨he, hx⟩ => ⟨he, hx ▸ Ext.refl _⟩)) | (go_at_call 60; (with_reducible show Calls _ _ #[_, Value.int IntKind.u8 (f.n), _] _ _); exact quiet_ext ((treCount_as c (f) s hok (f.n) (f.h) HUN.out _ (by (try dsimp only); omega) (by (try dsimp only); omega) _ (Tab.ext HT.out EXX) (by simp [tl, Holds, go_sem])).mono fun e w' ⟨he, hx⟩ => ⟨he, hx ▸ Ext.refl _⟩)))))); (refine wpQuiet_nil ?_; intro _ hw'; obtain ⟨⟨osq, nq⟩, hw''⟩ := hw'; replace hw'' : _ = grew _ osq nq := hw''; subst hw'')
        go_upto_region 2 with fail
        (refine wp_region_ext_lit (by kernel_rfl) (by kernel_rfl) ?_); (repeat (go_big_quiet_step ((go_at_call 69; exact quiet_ext ((treTop_any c f s _ _ (by simp [tl, Holds, go_sem]) (HSW.out _ _ EXX)).mono fun e w' ⟨he, hx⟩ => ⟨by rw [he, HTOP.out], hx ▸ Ext.refl _⟩))))); (refine wpQuiet_nil ?_; intro _ hw'; obtain ⟨⟨osq, nq⟩, hw''⟩ := hw'; replace hw'' : _ = grew _ osq nq := hw''; subst hw'')
        go_wp2_with (go_at_call 72; refine (trePick_any true _ _ _).mono ?_; rintro e w1 ⟨rfl, rfl⟩)
        (try simp only [Exit.jump])
        refine bodyPost_ret (results_none rfl _ _ _) rfl ⟨rfl, ?_⟩
        rw [HG.out, HB.out]
        exact EXB
  · rintro a' w' ⟨g, ⟨U, rfl⟩, ⟨os', d', rfl⟩, HG, hh0, hh, hn0, hn1, hp0, hp1, hi0, hi1⟩
    (try simp only [grew_grew])
    obtain ⟨HH, hHH⟩ : ∃ k : Nat, g.h = k := ⟨g.h.toNat, by omega⟩
    have HHH := Lib.hid hHH
    clear hHH
    obtain ⟨UP, hUP⟩ : ∃ U, treUp c (if g.n < c.cap then g.n + 1 else g.n) g.h = U := ⟨_, rfl⟩
    obtain ⟨UN, hUN⟩ : ∃ U, treUp c g.n g.h = U := ⟨_, rfl⟩
    obtain ⟨M, hM⟩ : ∃ M, (if g.n < c.cap then g.n + 1 else g.n) = M := ⟨_, rfl⟩
    have HUN := Lib.hid hUN
    have HUP : Hid (treUp c M g.h = UP) := Lib.hid (by rw [← hM]; exact hUP)
    have hM2 : 0 ≤ M ∧ M ≤ 32 := by rw [← hM]; split <;> omega
    have hmn : ∀ w : World, (Builtin.min_ #[5, 5] 5 #[.int .u8 (g.n + 1), .int .u8 c.cap]).run Tryd.prog w = .ok (.int .u8 M) w := fun w => by
      rw [run_min_int2, ← hM]
      congr 2
      split <;> split <;> omega
    have HCL : Hid (treClears c g = (g.kind == 5 && decide (UN < UP))) := Lib.hid (by unfold treClears; rw [hUN, hUP])
    have hwn1 : IntKind.u8.wrap (g.n + 1) = g.n + 1 := by rw [IntKind.wrap_u8]; omega
    have hwn2 : (g.n + 1) % 256 = g.n + 1 := by omega
    have hwh1 : IntKind.u8.wrap (g.h + 1) = g.h + 1 := by rw [IntKind.wrap_u8]; omega
    have hwh2 : (g.h + 1) % 256 = g.h + 1 := by omega
    have hwh3 := Lib.hid (show (g.h + 1).toNat = HH + 1 by have := HHH.out; omega)
    clear hUN hUP hM
    cases k5 : (g.kind == 5)
    · have HG : Hid (RES = treUpw c g) := Lib.hid (by rw [HG.out]; unfold upG; rw [HCL.out, k5]; rfl)
      cases zt : (g.h == T)
      · have hzt : g.h < T := by simp at zt; omega
        obtain ⟨U1, hU1⟩ : ∃ U, treUp c g.n (g.h + 1) = U := ⟨_, rfl⟩
        obtain ⟨DV, hDV⟩ : ∃ D, divI c.node (g.h + 1).toNat g.p = D := ⟨_, rfl⟩
        have hst := upw_step (c := c) (f := g) (by rw [HTOP.out]; exact hzt)
        rw [hU1, hDV] at hst
        have HS1 : Hid (decide (DV < U1) = true → treUpw c g = { g with h := g.h + 1, i := DV, pc := 9 }) := Lib.hid fun h => by rw [hst, if_pos (by simpa using h)]
        have HS2 : Hid (decide (DV < U1) = false → treUpw c g = upG c { g with h := g.h + 1, i := DV }) := Lib.hid fun h => by rw [hst, if_neg (by simpa using h)]
        have HU1 := Lib.hid hU1
        have HDV : Hid (divI c.node (HH + 1 - 0) g.p = DV) := Lib.hid (by rw [Nat.sub_zero, ← hwh3.out]; exact hDV)
        clear hU1 hDV hst
        go_upto_region 0 with fail
        (refine wp_region_ext_lit (by kernel_rfl) (by kernel_rfl) ?_); (try dsimp only [List.append]); (repeat (go_big_quiet_step ((first | (go_at_call 60; (with_reducible show Calls _ _ #[_, Value.int IntKind.u8 (M), _] _ _); exact quiet_ext ((treCount_as c (g) s hok (M) (g.h) HUP.out _ (by (try dsimp only); omega) (by (try dsimp only); omega) _ (Tab.ext HT.out EXX) (by simp [tl, Holds, go_sem])).mono fun e w' ⟨he, hx⟩ => ⟨he, hx ▸ Ext.refl _⟩)) | (go_at_call 60; (with_reducible show Calls _ _ #[_, Value.int IntKind.u8 (g.n), _] _ _); exact quiet_ext ((treCount_as c (g) s hok (g.n) (g.h) HUN.out _ (by (try dsimp only); omega) (by (try dsimp only); omega) _ (Tab.ext HT.out EXX) (by simp [tl, Holds, go_sem])).mono fun e w' ⟨he, hx⟩ => ⟨he, hx ▸ Ext.refl _⟩)))))); (refine wpQuiet_nil ?_; intro _ hw'; obtain ⟨⟨osq, nq⟩, hw''⟩ := hw'; replace hw'' : _ = grew _ osq nq := hw''; subst hw'')
        go_upto_region 2 with fail
        (refine wp_region_ext_lit (by kernel_rfl) (by kernel_rfl) ?_); (repeat (go_big_quiet_step ((go_at_call 69; exact quiet_ext ((treTop_any c g s _ _ (by simp [tl, Holds, go_sem]) (HSW.out _ _ EXX)).mono fun e w' ⟨he, hx⟩ => ⟨by rw [he, HTOP.out], hx ▸ Ext.refl _⟩))))); (refine wpQuiet_nil ?_; intro _ hw'; obtain ⟨⟨osq, nq⟩, hw''⟩ := hw'; replace hw'' : _ = grew _ osq nq := hw''; subst hw'')
        go_wp2
        go_loopw [94] (fun t94 wr => ∃ (j : Nat) (x : Int), j ≤ HH + 1 ∧ t94 = .int .u8 j ∧ 0 ≤ x ∧ x ≤ 255 ∧ Hid (divI c.node (HH + 1 - j) x = DV) ∧ Ext (grew (V.alloc (.cells (trA c s (⟨{ g with h := g.h + 1, i := x }, rk, rv, rt⟩)) 84)) os d) wr) (fun t94 _ => HH + 1 - (intOf t94).toNat)
        case atStart => exact ⟨0, g.p, Nat.zero_le _, rfl, by omega, by omega, HDV, EXX⟩
        case round =>
          obtain ⟨j, x, hj, rfl, hx0, hx1, HDJ, osj, dj, rfl⟩ := hrel
          by_cases hlt : j < HH + 1
          · have hq := divI_bd hnode ⟨hx0, hx1⟩
            obtain ⟨Q, hQ⟩ : ∃ Q, x / c.node = Q := ⟨_, rfl⟩
            rw [hQ] at hq
            have hwq : IntKind.u8.wrap (x / c.node) = Q := by rw [IntKind.wrap_u8, hQ]; omega
            have HQ := Lib.hid hQ
            have jj : (j : Int) < g.h + 1 := by have := HHH.out; omega
            have hwj1 : IntKind.u8.wrap ((j : Int) + 1) = (j : Int) + 1 := by rw [IntKind.wrap_u8]; omega
            have hwj2 : ((j : Int) + 1) % 256 = (j : Int) + 1 := by omega
            go_upto_region 8 with fail
            go_region
            all_goals
              go_wp2
              go_roundw
              case rel => exact ⟨j + 1, Q, by omega, by go_num, hq.1, hq.2, Lib.hid (by have h1 := HDJ.out; rw [show HH + 1 - j = (HH + 1 - (j + 1)) + 1 by omega] at h1; simp only [divI, HQ.out] at h1; exact h1), EXX⟩
              case measure => simp [intOf]; omega
          · have hje : j = HH + 1 := by omega
            have hxd : x = DV := by have h1 := HDJ.out; rw [hje, Nat.sub_self] at h1; exact h1
            subst hxd
            have hxx : 0 ≤ x ∧ x ≤ 255 := ⟨hx0, hx1⟩
            have jj : (j : Int) = g.h + 1 := by have := HHH.out; omega
            clear hje hlt
            cases dn : decide (x < U1)
            · have HB := Lib.hid (HS2.out dn)
              go_upto_region 10 with fail
              (refine wp_region_ext_lit (by kernel_rfl) (by kernel_rfl) ?_); (repeat (go_big_quiet_step ((go_at_call 60; (with_reducible show Calls _ _ #[_, Value.int IntKind.u8 (g.n), _] _ _); exact quiet_ext ((treCount_as c ({ g with h := g.h + 1, i := x }) s hok (g.n) (g.h + 1) HU1.out _ (by (try dsimp only); omega) (by (try dsimp only); omega) _ (Tab.ext HT.out EXX) (by simp [tl, Holds, go_sem])).mono fun e w' ⟨he, hx⟩ => ⟨he, hx ▸ Ext.refl _⟩))))); (refine wpQuiet_nil ?_; intro _ hw'; obtain ⟨⟨osq, nq⟩, hw''⟩ := hw'; replace hw'' : _ = grew _ osq nq := hw''; subst hw'')
              go_wp2
              go_step3
              refine ⟨rfl, ⟨{ g with h := g.h + 1, i := x }, act_F V _ rfl rfl rfl rfl, EXX, Lib.hid (by rw [HG.out, HB.out]), by dsimp only; omega, by dsimp only; omega, hn0, hn1, hp0, hp1, hxx.1, hxx.2⟩, ?_⟩
              simp [go_sem, intOf]
              omega
            · have HB := Lib.hid (HS1.out dn)
              go_upto_region 10 with fail
              (refine wp_region_ext_lit (by kernel_rfl) (by kernel_rfl) ?_); (repeat (go_big_quiet_step ((go_at_call 60; (with_reducible show Calls _ _ #[_, Value.int IntKind.u8 (g.n), _] _ _); exact quiet_ext ((treCount_as c ({ g with h := g.h + 1, i := x }) s hok (g.n) (g.h + 1) HU1.out _ (by (try dsimp only); omega) (by (try dsimp only); omega) _ (Tab.ext HT.out EXX) (by simp [tl, Holds, go_sem])).mono fun e w' ⟨he, hx⟩ => ⟨he, hx ▸ Ext.refl _⟩))))); (refine wpQuiet_nil ?_; intro _ hw'; obtain ⟨⟨osq, nq⟩, hw''⟩ := hw'; replace hw'' : _ = grew _ osq nq := hw''; subst hw'')
              go_wp2
              (try simp only [Exit.jump])
              refine bodyPost_ret (results_none rfl _ _ _) rfl ⟨rfl, ?_⟩
              rw [HG.out, HB.out]
              exact EXB
      · have HT2 := Lib.hid (upw_top (c := c) (f := g) (by rw [HTOP.out]; simp at zt; omega))
        cases k4 : (g.kind == 4)
        · have HB : Hid (treUpw c g = { g with pc := 25 }) := Lib.hid (by rw [HT2.out, k4]; rfl)
          go_upto_region 0 with fail
          (refine wp_region_ext_lit (by kernel_rfl) (by kernel_rfl) ?_); (try dsimp only [List.append]); (repeat (go_big_quiet_step ((first | (go_at_call 60; (with_reducible show Calls _ _ #[_, Value.int IntKind.u8 (M), _] _ _); exact quiet_ext ((treCount_as c (g) s hok (M) (g.h) HUP.out _ (by (try dsimp only); omega) (by (try dsimp only); omega) _ (Tab.ext HT.out EXX) (by simp [tl, Holds, go_sem])).mono fun e w' ⟨he, hx⟩ => ⟨he, hx ▸ Ext.refl _⟩)) | (go_at_call 60; (with_reducible show Calls _ _ #[_, Value.int IntKind.u8 (g.n), _] _ _); exact quiet_ext ((treCount_as c (g) s hok (g.n) (g.h) HUN.out _ (by (try dsimp only); omega) (by (try dsimp only); omega) _ (Tab.ext HT.out EXX) (by simp [tl, Holds, go_sem])).mono fun e w' ⟨he, hx⟩ => ⟨he, hx ▸ Ext.refl _⟩)))))); (refine wpQuiet_nil ?_; intro _ hw'; obtain ⟨⟨osq, nq⟩, hw''⟩ := hw'; replace hw'' : _ = grew _ osq nq := hw''; subst hw'')
          go_upto_region 2 with fail
          (refine wp_region_ext_lit (by kernel_rfl) (by kernel_rfl) ?_); (repeat (go_big_quiet_step ((go_at_call 69; exact quiet_ext ((treTop_any c g s _ _ (by simp [tl, Holds, go_sem]) (HSW.out _ _ EXX)).mono fun e w' ⟨he, hx⟩ => ⟨by rw [he, HTOP.out], hx ▸ Ext.refl _⟩))))); (refine wpQuiet_nil ?_; intro _ hw'; obtain ⟨⟨osq, nq⟩, hw''⟩ := hw'; replace hw'' : _ = grew _ osq nq := hw''; subst hw'')
          go_wp2_with (go_at_call 72; refine (trePick_any false _ _ _).mono ?_; rintro e w1 ⟨rfl, rfl⟩)
          (try simp only [Exit.jump])
          refine bodyPost_ret (results_none rfl _ _ _) rfl ⟨rfl, ?_⟩
          rw [HG.out, HB.out]
          exact EXB
        · have HB : Hid (treUpw c g = { g with pc := 24 }) := Lib.hid (by rw [HT2.out, k4]; rfl)
          go_upto_region 0 with fail
          (refine wp_region_ext_lit (by kernel_rfl) (by kernel_rfl) ?_); (try dsimp only [List.append]); (repeat (go_big_quiet_step ((first | (go_at_call 60; (with_reducible show Calls _ _ #[_, Value.int IntKind.u8 (M), _] _ _); exact quiet_ext ((treCount_as c (g) s hok (M) (g.h) HUP.out _ (by (try dsimp only); omega) (by (try dsimp only); omega) _ (Tab.ext HT.out EXX) (by simp [tl, Holds, go_sem])).mono fun e w' ⟨he, hx⟩ => ⟨he, hx ▸ Ext.refl _⟩)) | (go_at_call 60; (with_reducible show Calls _ _ #[_, Value.int IntKind.u8 (g.n), _] _ _); exact quiet_ext ((treCount_as c (g) s hok (g.n) (g.h) HUN.out _ (by (try dsimp only); omega) (by (try dsimp only); omega) _ (Tab.ext HT.out EXX) (by simp [tl, Holds, go_sem])).mono fun e w' ⟨he, hx⟩ => ⟨he, hx ▸ Ext.refl _⟩)))))); (refine wpQuiet_nil ?_; intro _ hw'; obtain ⟨⟨osq, nq⟩, hw''⟩ := hw'; replace hw'' : _ = grew _ osq nq := hw''; subst hw'')
          go_upto_region 2 with fail
          (refine wp_region_ext_lit (by kernel_rfl) (by kernel_rfl) ?_); (repeat (go_big_quiet_step ((go_at_call 69; exact quiet_ext ((treTop_any c g s _ _ (by simp [tl, Holds, go_sem]) (HSW.out _ _ EXX)).mono fun e w' ⟨he, hx⟩ => ⟨by rw [he, HTOP.out], hx ▸ Ext.refl _⟩))))); (refine wpQuiet_nil ?_; intro _ hw'; obtain ⟨⟨osq, nq⟩, hw''⟩ := hw'; replace hw'' : _ = grew _ osq nq := hw''; subst hw'')
          go_wp2_with (go_at_call 72; refine (trePick_any true _ _ _).mono ?_; rintro e w1 ⟨rfl, rfl⟩)
          (try simp only [Exit.jump])
          refine bodyPost_ret (results_none rfl _ _ _) rfl ⟨rfl, ?_⟩
          rw [HG.out, HB.out]
          exact EXB
    · cases dd : decide (UN < UP)
      · have HG : Hid (RES = treUpw c g) := Lib.hid (by rw [HG.out]; unfold upG; rw [HCL.out, k5, dd]; rfl)
        cases zt : (g.h == T)
        · have hzt : g.h < T := by simp at zt; omega
          obtain ⟨U1, hU1⟩ : ∃ U, treUp c g.n (g.h + 1) = U := ⟨_, rfl⟩
          obtain ⟨DV, hDV⟩ : ∃ D, divI c.node (g.h + 1).toNat g.p = D := ⟨_, rfl⟩
          have hst := upw_step (c := c) (f := g) (by rw [HTOP.out]; exact hzt)
          rw [hU1, hDV] at hst
          have HS1 : Hid (decide (DV < U1) = true → treUpw c g = { g with h := g.h + 1, i := DV, pc := 9 }) := Lib.hid fun h => by rw [hst, if_pos (by simpa using h)]
          have HS2 : Hid (decide (DV < U1) = false → treUpw c g = upG c { g with h := g.h + 1, i := DV }) := Lib.hid fun h => by rw [hst, if_neg (by simpa using h)]
          have HU1 := Lib.hid hU1
          have HDV : Hid (divI c.node (HH + 1 - 0) g.p = DV) := Lib.hid (by rw [Nat.sub_zero, ← hwh3.out]; exact hDV)
          clear hU1 hDV hst
          go_upto_region 0 with fail
          (refine wp_region_ext_lit (by kernel_rfl) (by kernel_rfl) ?_); (try dsimp only [List.append]); (repeat (go_big_quiet_step ((first | (go_at_call 60; (with_reducible show Calls _ _ #[_, Value.int IntKind.u8 (M), _] _ _); exact quiet_ext ((treCount_as c (g) s hok (M) (g.h) HUP.out _ (by (try dsimp only); omega) (by (try dsimp only); omega) _ (Tab.ext HT.out EXX) (by simp [tl, Holds, go_sem])).mono fun e w' ⟨he, hx⟩ => ⟨he, hx ▸ Ext.refl _⟩)) | (go_at_call 60; (with_reducible show Calls _ _ #[_, Value.int IntKind.u8 (g.n), _] _ _); exact quiet_ext ((treCount_as c (g) s hok (g.n) (g.h) HUN.out _ (by (try dsimp only); omega) (by (try dsimp only); omega) _ (Tab.ext HT.out EXX) (by simp [tl, Holds, go_sem])).mono fun e w' ⟨he, hx⟩ => ⟨he, hx ▸ Ext.refl _⟩)))))); (refine wpQuiet_nil ?_; intro _ hw'; obtain ⟨⟨osq, nq⟩, hw''⟩ := hw'; replace hw'' : _ = grew _ osq nq := hw''; subst hw'')
          go_upto_region 2 with fail
          (refine wp_region_ext_lit (by kernel_rfl) (by kernel_rfl) ?_); (repeat (go_big_quiet_step ((go_at_call 69; exact quiet_ext ((treTop_any c g s _ _ (by simp [tl, Holds, go_sem]) (HSW.out _ _ EXX)).mono fun e w' ⟨he, hx⟩ => ⟨by rw [he, HTOP.out], hx ▸ Ext.refl _⟩))))); (refine wpQuiet_nil ?_; intro _ hw'; obtain ⟨⟨osq, nq⟩, hw''⟩ := hw'; replace hw'' : _ = grew _ osq nq := hw''; subst hw'')
          go_wp2
          go_loopw [94] (fun t94 wr => ∃ (j : Nat) (x : Int), j ≤ HH + 1 ∧ t94 = .int .u8 j ∧ 0 ≤ x ∧ x ≤ 255 ∧ Hid (divI c.node (HH + 1 - j) x = DV) ∧ Ext (grew (V.alloc (.cells (trA c s (⟨{ g with h := g.h + 1, i := x }, rk, rv, rt⟩)) 84)) os d) wr) (fun t94 _ => HH + 1 - (intOf t94).toNat)
          case atStart => exact ⟨0, g.p, Nat.zero_le _, rfl, by omega, by omega, HDV, EXX⟩
          case round =>
            obtain ⟨j, x, hj, rfl, hx0, hx1, HDJ, osj, dj, rfl⟩ := hrel
            by_cases hlt : j < HH + 1
            · have hq := divI_bd hnode ⟨hx0, hx1⟩
              obtain ⟨Q, hQ⟩ : ∃ Q, x / c.node = Q := ⟨_, rfl⟩
              rw [hQ] at hq
              have hwq : IntKind.u8.wrap (x / c.node) = Q := by rw [IntKind.wrap_u8, hQ]; omega
              have HQ := Lib.hid hQ
              have jj : (j : Int) < g.h + 1 := by have := HHH.out; omega
              have hwj1 : IntKind.u8.wrap ((j : Int) + 1) = (j : Int) + 1 := by rw [IntKind.wrap_u8]; omega
              have hwj2 : ((j : Int) + 1) % 256 = (j : Int) + 1 := by omega
              go_upto_region 8 with fail
              go_region
              all_goals
                go_wp2
                go_roundw
                case rel => exact ⟨j + 1, Q, by omega, by go_num, hq.1, hq.2, Lib.hid (by have h1 := HDJ.out; rw [show HH + 1 - j = (HH + 1 - (j + 1)) + 1 by omega] at h1; simp only [divI, HQ.out] at h1; exact h1), EXX⟩
                case measure => simp [intOf]; omega
            · have hje : j = HH + 1 := by omega
              have hxd : x = DV := by have h1 := HDJ.out; rw [hje, Nat.sub_self] at h1; exact h1
              subst hxd
              have hxx : 0 ≤ x ∧ x ≤ 255 := ⟨hx0, hx1⟩
              have jj : (j : Int) = g.h + 1 := by have := HHH.out; omega
              clear hje hlt
              cases dn : decide (x < U1)
              · have HB := Lib.hid (HS2.out dn)
                go_upto_region 10 with fail
                (refine wp_region_ext_lit (by kernel_rfl) (by kernel_rfl) ?_); (repeat (go_big_quiet_step ((go_at_call 60; (with_reducible show Calls _ _ #[_, Value.int IntKind.u8 (g.n), _] _ _); exact quiet_ext ((treCount_as c ({ g with h := g.h + 1, i := x }) s hok (g.n) (g.h + 1) HU1.out _ (by (try dsimp only); omega) (by (try dsimp only); omega) _ (Tab.ext HT.out EXX) (by simp [tl, Holds, go_sem])).mono fun e w' ⟨he, hx⟩ => ⟨he, hx ▸ Ext.refl _⟩))))); (refine wpQuiet_nil ?_; intro _ hw'; obtain ⟨⟨osq, nq⟩, hw''⟩ := hw'; replace hw'' : _ = grew _ osq nq := hw''; subst hw'')
                go_wp2
                go_step3
                refine ⟨rfl, ⟨{ g with h := g.h + 1, i := x }, act_F V _ rfl rfl rfl rfl, EXX, Lib.hid (by rw [HG.out, HB.out]), by dsimp only; omega, by dsimp only; omega, hn0, hn1, hp0, hp1, hxx.1, hxx.2⟩, ?_⟩
                simp [go_sem, intOf]
                omega
              · have HB := Lib.hid (HS1.out dn)
                go_upto_region 10 with fail
                (refine wp_region_ext_lit (by kernel_rfl) (by kernel_rfl) ?_); (repeat (go_big_quiet_step ((go_at_call 60; (with_reducible show Calls _ _ #[_, Value.int IntKind.u8 (g.n), _] _ _); exact quiet_ext ((treCount_as c ({ g with h := g.h + 1, i := x }) s hok (g.n) (g.h + 1) HU1.out _ (by (try dsimp only); omega) (by (try dsimp only); omega) _ (Tab.ext HT.out EXX) (by simp [tl, Holds, go_sem])).mono fun e w' ⟨he, hx⟩ => ⟨he, hx ▸ Ext.refl _⟩))))); (refine wpQuiet_nil ?_; intro _ hw'; obtain ⟨⟨osq, nq⟩, hw''⟩ := hw'; replace hw'' : _ = grew _ osq nq := hw''; subst hw'')
                go_wp2
                (try simp only [Exit.jump])
                refine bodyPost_ret (results_none rfl _ _ _) rfl ⟨rfl, ?_⟩
                rw [HG.out, HB.out]
                exact EXB
        · have HT2 := Lib.hid (upw_top (c := c) (f := g) (by rw [HTOP.out]; simp at zt; omega))
          cases k4 : (g.kind == 4)
          · have HB : Hid (treUpw c g = { g with pc := 25 }) := Lib.hid (by rw [HT2.out, k4]; rfl)
            go_upto_region 0 with fail
            (refine wp_region_ext_lit (by kernel_rfl) (by kernel_rfl) ?_); (try dsimp only [List.append]); (repeat (go_big_quiet_step ((first | (go_at_call 60; (with_reducible show Calls _ _ #[_, Value.int IntKind.u8 (M), _] _ _); exact quiet_ext ((treCount_as c (g) s hok (M) (g.h) HUP.out _ (by (try dsimp only); omega) (by (try dsimp only); omega) _ (Tab.ext HT.out EXX) (by simp [tl, Holds, go_sem])).mono fun e w' ⟨he, hx⟩ => ⟨he, hx ▸ Ext.refl _⟩)) | (go_at_call 60; (with_reducible show Calls _ _ #[_, Value.int IntKind.u8 (g.n), _] _ _); exact quiet_ext ((treCount_as c (g) s hok (g.n) (g.h) HUN.out _ (by (try dsimp only); omega) (by (try dsimp only); omega) _ (Tab.ext HT.out EXX) (by simp [tl, Holds, go_sem])).mono fun e w' ⟨he, hx⟩ => ⟨he, hx ▸ Ext.refl _⟩)))))); (refine wpQuiet_nil ?_; intro _ hw'; obtain ⟨⟨osq, nq⟩, hw''⟩ := hw'; replace hw'' : _ = grew _ osq nq := hw''; subst hw'')
            go_upto_region 2 with fail
            (refine wp_region_ext_lit (by kernel_rfl) (by kernel_rfl) ?_); (repeat (go_big_quiet_step ((go_at_call 69; exact quiet_ext ((treTop_any c g s _ _ (by simp [tl, Holds, go_sem]) (HSW.out _ _ EXX)).mono fun e w' ⟨he, hx⟩ => ⟨by rw [he, HTOP.out], hx ▸ Ext.refl _⟩))))); (refine wpQuiet_nil ?_; intro _ hw'; obtain ⟨⟨osq, nq⟩, hw''⟩ := hw'; replace hw'' : _ = grew _ osq nq := hw''; subst hw'')
            go_wp2_with (go_at_call 72; refine (trePick_any false _ _ _).mono ?_; rintro e w1 ⟨rfl, rfl⟩)
            (try simp only [Exit.jump])
            refine bodyPost_ret (results_none rfl _ _ _) rfl ⟨rfl, ?_⟩
            rw [HG.out, HB.out]
            exact EXB
          · have HB : Hid (treUpw c g = { g with pc := 24 }) := Lib.hid (by rw [HT2.out, k4]; rfl)
            go_upto_region 0 with fail
            (refine wp_region_ext_lit (by kernel_rfl) (by kernel_rfl) ?_); (try dsimp only [List.append]); (repeat (go_big_quiet_step ((first | (go_at_call 60; (with_reducible show Calls _ _ #[_, Value.int IntKind.u8 (M), _] _ _); exact quiet_ext ((treCount_as c (g) s hok (M) (g.h) HUP.out _ (by (try dsimp only); omega) (by (try dsimp only); omega) _ (Tab.ext HT.out EXX) (by simp [tl, Holds, go_sem])).mono fun e w' ⟨he, hx⟩ => ⟨he, hx ▸ Ext.refl _⟩)) | (go_at_call 60; (with_reducible show Calls _ _ #[_, Value.int IntKind.u8 (g.n), _] _ _); exact quiet_ext ((treCount_as c (g) s hok (g.n) (g.h) HUN.out _ (by (try dsimp only); omega) (by (try dsimp only); omega) _ (Tab.ext HT.out EXX) (by simp [tl, Holds, go_sem])).mono fun e w' ⟨he, hx⟩ => ⟨he, hx ▸ Ext.refl _⟩)))))); (refine wpQuiet_nil ?_; intro _ hw'; obtain ⟨⟨osq, nq⟩, hw''⟩ := hw'; replace hw'' : _ = grew _ osq nq := hw''; subst hw'')
            go_upto_region 2 with fail
            (refine wp_region_ext_lit (by kernel_rfl) (by kernel_rfl) ?_); (repeat (go_big_quiet_step ((go_at_call 69; exact quiet_ext ((treTop_any c g s _ _ (by simp [tl, Holds, go_sem]) (HSW.out _ _ EXX)).mono fun e w' ⟨he, hx⟩ => ⟨by rw [he, HTOP.out], hx ▸ Ext.refl _⟩))))); (refine wpQuiet_nil ?_; intro _ hw'; obtain ⟨⟨osq, nq⟩, hw''⟩ := hw'; replace hw'' : _ = grew _ osq nq := hw''; subst hw'')
            go_wp2_with (go_at_call 72; refine (trePick_any true _ _ _).mono ?_; rintro e w1 ⟨rfl, rfl⟩)
            (try simp only [Exit.jump])
            refine bodyPost_ret (results_none rfl _ _ _) rfl ⟨rfl, ?_⟩
            rw [HG.out, HB.out]
            exact EXB
      · have HB : Hid (upG c g = { g with pc := 12 }) := Lib.hid (by unfold upG; rw [HCL.out, k5, dd]; rfl)
        go_upto_region 0 with fail
        (refine wp_region_ext_lit (by kernel_rfl) (by kernel_rfl) ?_); (try dsimp only [List.append]); (repeat (go_big_quiet_step ((first | (go_at_call 60; (with_reducible show Calls _ _ #[_, Value.int IntKind.u8 (M), _] _ _); exact quiet_ext ((treCount_as c (g) s hok (M) (g.h) HUP.out _ (by (try dsimp only); omega) (by (try dsimp only); omega) _ (Tab.ext HT.out EXX) (by simp [tl, Holds, go_sem])).mono fun e w' ⟨he, hx⟩ => ⟨he, hx ▸ Ext.refl _⟩)) | (go_at_call 60; (with_reducible show Calls _ _ #[_, Value.int IntKind.u8 (g.n), _] _ _); exact quiet_ext ((treCount_as c (g) s hok (g.n) (g.h) HUN.out _ (by (try dsimp only); omega) (by (try dsimp only); omega) _ (Tab.ext HT.out EXX) (by simp [tl, Holds, go_sem])).mono fun e w' ⟨he, hx⟩ => ⟨he, hx ▸ Ext.refl _⟩)))))); (refine wpQuiet_nil ?_; intro _ hw'; obtain ⟨⟨osq, nq⟩, hw''⟩ := hw'; replace hw'' : _ = grew _ osq nq := hw''; subst hw'')
        go_wp2
        (try simp only [Exit.jump])
        refine bodyPost_ret (results_none rfl _ _ _) rfl ⟨rfl, ?_⟩
        rw [HG.out, HB.out]
        exact EXB
end Go.Proofs.YtkklhhdkokncnaaDoor
