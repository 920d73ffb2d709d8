/- The walks of the reference's steps behind an act, layer 'tree': found, clears. -/
import Derived.Test.YtmhmaifmendebaaGreatDoorGj
namespace Go.Proofs.YtmhmaifmendebaaGreatDoor.tree
open Go Go.RowKit
set_option maxRecDepth 100000
set_option maxHeartbeats 8000000

theorem foundR_any (c : Cfg) (f : Frm) (hf : f.Fits) (hkd : f.kind = 4 ∨ f.kind = 5 ∨ f.kind = 6 ∨ f.kind = 7 ∨ f.kind = 8) (hp : f.p ≤ 32) (hn : f.n ≤ 40) (hj : f.j ≤ 40) (w : World) : Calls Tryz.prog 122 #[c.v, f.v] w fun e w' => e = .returned (tupFB (treFound c f)) ∧ Ext w w' := by
  have HF := Lib.hid hf
  have HFF := HF
  obtain ⟨p0, p1⟩ := hf.p
  obtain ⟨n0, n1⟩ := hf.n
  obtain ⟨j0, j1⟩ := hf.j
  obtain ⟨y0, y1⟩ := hf.y
  obtain ⟨Q, hQ⟩ : ∃ Q, (f.y + 1) % 4294967296 = Q := ⟨_, rfl⟩
  have hwq : IntKind.u32.wrap (f.y + 1) = Q := by rw [IntKind.wrap_u32, hQ]
  have HQ := Lib.hid hQ
  have hwp : IntKind.u8.wrap (f.p + 1) = f.p + 1 := by rw [IntKind.wrap_u8]; omega
  have hwp2 : (f.p + 1) % 256 = f.p + 1 := by omega
  clear hf
  have HKD := Lib.hid hkd
  clear hkd
  cases hx : (f.x == f.a)
  · cases h6 : (f.kind == 6)
    · cases h7 : (f.kind == 7)
      · cases h8 : (f.kind == 8)
        · cases h4 : (f.kind == 4)
          · have h5 : (f.kind == 5) = true := by have := HKD.out; simp at h6 h7 h8 h4; simp; omega
            have HS : Hid (treFound c f = ({ f with pc := 21 }, false)) := Lib.hid (by simp only [treFound, hx, h6, h7, h8, h4]; rfl)
            clear hQ
            go_enter Tryz.func122, Tryz.ntmps122
            go_wp2_with (go_at_call 79; refine (atR_any (f) _ _).mono ?_; rintro e w1 ⟨rfl, os1, n1, rfl⟩)
            all_goals refine bodyPost_ret (v := tupFB ({ f with pc := 21 }, false)) (by simp [results, Tryz.results122, go_sem]) rfl ⟨by rw [HS.out], EX⟩
          · have HS : Hid (treFound c f = (treFresh c f, false)) := Lib.hid (by simp only [treFound, hx, h6, h7, h8, h4]; rfl)
            clear hQ
            go_enter Tryz.func122, Tryz.ntmps122
            go_wp2_with (go_at_call 120; refine (freshR_any c (f) HFF.out _).mono ?_; rintro e w1 ⟨rfl, os1, n1, rfl⟩)
            all_goals refine bodyPost_ret (v := tupFB (treFresh c f, false)) (by simp [results, Tryz.results122, go_sem]) rfl ⟨by rw [HS.out], EX⟩
        · have HS : Hid (treFound c f = treOn c f) := Lib.hid (by simp only [treFound, h6, h7, h8]; rfl)
          clear hQ
          go_enter Tryz.func122, Tryz.ntmps122
          go_wp2_with (go_at_call 85; refine (onR_any c f ⟨p0, hp⟩ ⟨n0, hn⟩ ⟨j0, hj⟩ _).mono ?_; rintro e w1 ⟨rfl, os1, n1, rfl⟩)
          all_goals refine bodyPost_ret (v := tupFB (treOn c f)) (by simp [results, Tryz.results122, go_sem]) rfl ⟨by rw [HS.out], EX⟩
      · cases z : (f.p == 0)
        · have HS : Hid (treFound c f = ({ f with pc := 3 }, false)) := Lib.hid (by simp only [treFound, hx, h6, h7, z]; rfl)
          have z3 : 0 < f.p := by simp at z; omega
          clear hQ
          go_enter Tryz.func122, Tryz.ntmps122
          go_wp2_with (go_at_call 79; refine (atR_any (f) _ _).mono ?_; rintro e w1 ⟨rfl, os1, n1, rfl⟩)
          all_goals refine bodyPost_ret (v := tupFB ({ f with pc := 3 }, false)) (by simp [results, Tryz.results122, go_sem]) rfl ⟨by rw [HS.out], EX⟩
        · have HS : Hid (treFound c f = ({ f with pc := 21 }, false)) := Lib.hid (by simp only [treFound, hx, h6, h7, z]; rfl)
          have z3 : ¬ 0 < f.p := by simp at z; omega
          clear hQ
          go_enter Tryz.func122, Tryz.ntmps122
          go_wp2_with (go_at_call 79; refine (atR_any (f) _ _).mono ?_; rintro e w1 ⟨rfl, os1, n1, rfl⟩)
          all_goals refine bodyPost_ret (v := tupFB ({ f with pc := 21 }, false)) (by simp [results, Tryz.results122, go_sem]) rfl ⟨by rw [HS.out], EX⟩
    · have HS : Hid (treFound c f = ({ f with pc := 21 }, false)) := Lib.hid (by simp only [treFound, hx, h6]; rfl)
      clear hQ
      go_enter Tryz.func122, Tryz.ntmps122
      go_wp2_with (go_at_call 79; refine (atR_any (f) _ _).mono ?_; rintro e w1 ⟨rfl, os1, n1, rfl⟩)
      all_goals refine bodyPost_ret (v := tupFB ({ f with pc := 21 }, false)) (by simp [results, Tryz.results122, go_sem]) rfl ⟨by rw [HS.out], EX⟩
  · cases h6 : (f.kind == 6)
    · cases h7 : (f.kind == 7)
      · cases h8 : (f.kind == 8)
        · cases h4 : (f.kind == 4)
          · have h5 : (f.kind == 5) = true := by have := HKD.out; simp at h6 h7 h8 h4; simp; omega
            cases h : decide (f.n ≤ f.p + 1)
            · have HS : Hid (treFound c f = ({ f with b := Q, pc := 13, i := f.p + 1 }, false)) := Lib.hid (by (have hz : ¬ f.n ≤ f.p + 1 := by simpa using h); (simp only [treFound, hx, h6, h7, h8, h4, hQ, if_neg hz]; rfl))
              clear hQ
              go_enter Tryz.func122, Tryz.ntmps122
              go_wp2_with (go_at_call 79; refine (atR_any ({ f with b := Q, i := f.p + 1 }) _ _).mono ?_; rintro e w1 ⟨rfl, os1, n1, rfl⟩)
              all_goals refine bodyPost_ret (v := tupFB ({ f with b := Q, pc := 13, i := f.p + 1 }, false)) (by simp [results, Tryz.results122, go_sem]) rfl ⟨by rw [HS.out], EX⟩
            · have HS : Hid (treFound c f = ({ f with b := Q, pc := 15 }, false)) := Lib.hid (by (have hz : f.n ≤ f.p + 1 := by simpa using h); (simp only [treFound, hx, h6, h7, h8, h4, hQ, if_pos hz]; rfl))
              clear hQ
              go_enter Tryz.func122, Tryz.ntmps122
              go_wp2_with (go_at_call 79; refine (atR_any ({ f with b := Q }) _ _).mono ?_; rintro e w1 ⟨rfl, os1, n1, rfl⟩)
              all_goals refine bodyPost_ret (v := tupFB ({ f with b := Q, pc := 15 }, false)) (by simp [results, Tryz.results122, go_sem]) rfl ⟨by rw [HS.out], EX⟩
          · have HS : Hid (treFound c f = ({ f with pc := 4 }, false)) := Lib.hid (by simp only [treFound, hx, h6, h7, h8, h4]; rfl)
            clear hQ
            go_enter Tryz.func122, Tryz.ntmps122
            go_wp2_with (go_at_call 79; refine (atR_any (f) _ _).mono ?_; rintro e w1 ⟨rfl, os1, n1, rfl⟩)
            all_goals refine bodyPost_ret (v := tupFB ({ f with pc := 4 }, false)) (by simp [results, Tryz.results122, go_sem]) rfl ⟨by rw [HS.out], EX⟩
        · have HS : Hid (treFound c f = treOn c f) := Lib.hid (by simp only [treFound, h6, h7, h8]; rfl)
          clear hQ
          go_enter Tryz.func122, Tryz.ntmps122
          go_wp2_with (go_at_call 85; refine (onR_any c f ⟨p0, hp⟩ ⟨n0, hn⟩ ⟨j0, hj⟩ _).mono ?_; rintro e w1 ⟨rfl, os1, n1, rfl⟩)
          all_goals refine bodyPost_ret (v := tupFB (treOn c f)) (by simp [results, Tryz.results122, go_sem]) rfl ⟨by rw [HS.out], EX⟩
      · have HS : Hid (treFound c f = ({ f with pc := 20 }, true)) := Lib.hid (by simp only [treFound, hx, h6, h7]; rfl)
        clear hQ
        go_enter Tryz.func122, Tryz.ntmps122
        go_wp2_with (go_at_call 79; refine (atR_any (f) _ _).mono ?_; rintro e w1 ⟨rfl, os1, n1, rfl⟩)
        all_goals refine bodyPost_ret (v := tupFB ({ f with pc := 20 }, true)) (by simp [results, Tryz.results122, go_sem]) rfl ⟨by rw [HS.out], EX⟩
    · have HS : Hid (treFound c f = ({ f with pc := 23 }, false)) := Lib.hid (by simp only [treFound, hx, h6]; rfl)
      clear hQ
      go_enter Tryz.func122, Tryz.ntmps122
      go_wp2_with (go_at_call 79; refine (atR_any (f) _ _).mono ?_; rintro e w1 ⟨rfl, os1, n1, rfl⟩)
      all_goals refine bodyPost_ret (v := tupFB ({ f with pc := 23 }, false)) (by simp [results, Tryz.results122, go_sem]) rfl ⟨by rw [HS.out], EX⟩

theorem clearsR_any (c : Cfg) (hc : TreOk c) (f : Frm) (hf : f.Fits) (hn : f.n ≤ c.cap) (w : World) : Calls Tryz.prog 83 #[c.v, f.v] w fun e w' => e = .returned (.bool (treClears c f)) ∧ Ext w w' := by
  have hcap := hc.cap
  obtain ⟨n0, n1⟩ := hf.n
  obtain ⟨h0, h1⟩ := hf.h
  clear hf
  obtain ⟨M, hM⟩ : ∃ M, (if f.n < c.cap then f.n + 1 else f.n) = M := ⟨_, rfl⟩
  obtain ⟨UP, hUP⟩ : ∃ U, treUp c M f.h = U := ⟨_, rfl⟩
  obtain ⟨UN, hUN⟩ : ∃ U, treUp c f.n f.h = U := ⟨_, rfl⟩
  have HCL : Hid (treClears c f = (f.kind == 5 && decide (UN < UP))) := Lib.hid (by unfold treClears; rw [hM, hUN, hUP])
  have HUP := Lib.hid hUP
  have HUN := Lib.hid hUN
  have hM2 : 0 ≤ M ∧ M ≤ 255 := by rw [← hM]; split <;> omega
  have hw1 : IntKind.u8.wrap (f.n + 1) = f.n + 1 := by rw [IntKind.wrap_u8]; omega
  have hw2 : (f.n + 1) % 256 = f.n + 1 := by omega
  clear hUP hUN
  cases k5 : (f.kind == 5)
  · cases lt : decide (f.n < c.cap)
    all_goals
      clear hM
      go_enter Tryz.func83, Tryz.ntmps83
      go_upto_region 4 with fail
      (refine wp_region_ext_lit (by kernel_rfl) (by kernel_rfl) ?_); (repeat (go_big_quiet_step (fail))); (refine wpQuiet_nil ?_; intro _ hw'; obtain ⟨⟨osq, nq⟩, hw''⟩ := hw'; replace hw'' : _ = grew _ osq nq := hw''; subst hw'')
      go_wp2
      all_goals go_ret
      all_goals refine ⟨ret_bool ?_, EX⟩
      all_goals rw [HCL.out, k5]
      all_goals first | rfl | (simp; done) | (simp; omega) | simp_all
  · cases lt : decide (f.n < c.cap)
    · have hz : ¬ f.n < c.cap := by simpa using lt
      rw [if_neg hz] at hM
      subst hM
      obtain rfl : UP = UN := HUP.out.symm.trans HUN.out
      go_enter Tryz.func83, Tryz.ntmps83
      go_upto_region 4 with fail
      (refine wp_region_ext_lit (by kernel_rfl) (by kernel_rfl) ?_); (repeat (go_big_quiet_step ((go_at_call 60; (with_reducible show Calls _ _ #[_, Value.int IntKind.u8 (f.n), _] _ _); exact quiet_ext ((upR_any c hc (f.n) f.h (by omega) (by omega) _).mono fun e w' ⟨he, hx⟩ => ⟨by rw [he, HUN.out], hx⟩))))); (refine wpQuiet_nil ?_; intro _ hw'; obtain ⟨⟨osq, nq⟩, hw''⟩ := hw'; replace hw'' : _ = grew _ osq nq := hw''; subst hw'')
      go_wp2
      all_goals go_ret
      all_goals refine ⟨ret_bool ?_, EX⟩
      all_goals rw [HCL.out, k5]
      all_goals first | rfl | (simp; done) | (simp; omega) | simp_all
    · have hz : f.n < c.cap := by simpa using lt
      rw [if_pos hz] at hM
      subst hM
      go_enter Tryz.func83, Tryz.ntmps83
      go_upto_region 4 with fail
      (refine wp_region_ext_lit (by kernel_rfl) (by kernel_rfl) ?_); (repeat (go_big_quiet_step ((first | (go_at_call 60; (with_reducible show Calls _ _ #[_, Value.int IntKind.u8 (f.n + 1), _] _ _); exact quiet_ext ((upR_any c hc (f.n + 1) f.h (by omega) (by omega) _).mono fun e w' ⟨he, hx⟩ => ⟨by rw [he, HUP.out], hx⟩)) | (go_at_call 60; (with_reducible show Calls _ _ #[_, Value.int IntKind.u8 (f.n), _] _ _); exact quiet_ext ((upR_any c hc (f.n) f.h (by omega) (by omega) _).mono fun e w' ⟨he, hx⟩ => ⟨by rw [he, HUN.out], hx⟩)))))); (refine wpQuiet_nil ?_; intro _ hw'; obtain ⟨⟨osq, nq⟩, hw''⟩ := hw'; replace hw'' : _ = grew _ osq nq := hw''; subst hw'')
      go_wp2
      all_goals go_ret
      all_goals refine ⟨ret_bool ?_, EX⟩
      all_goals rw [HCL.out, k5]
      all_goals first | rfl | (simp; done) | (simp; omega) | simp_all
end Go.Proofs.YtmhmaifmendebaaGreatDoor.tree
