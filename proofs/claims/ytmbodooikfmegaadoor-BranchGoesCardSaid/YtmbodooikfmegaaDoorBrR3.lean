/- The walks of the reference of layer 'branch': whether a frame may be. -/
import Derived.Test.YtmbodooikfmegaaDoorBrR2
namespace Go.Proofs.YtmbodooikfmegaaDoor
open Go Go.RowKit

theorem brStep_at {f : Frm} (hpc : f.pc = 0 ∨ f.pc = 3 ∨ f.pc = 5 ∨ f.pc = 6 ∨ f.pc = 2 ∨ f.pc = 4 ∨ f.pc = 20 ∨ f.pc = 21 ∨ f.pc = 22 ∨ f.pc = 23) : (brStep f).at' = brAt f := by
  rcases hpc with hp | hp | hp | hp | hp | hp | hp | hp | hp | hp <;> simp [brStep, brAt, hp]
theorem there_has (f : Frm) : (f.pc == 0 || f.pc == 20 || (if f.kind == 12 then f.pc == 2 || f.pc == 3 || f.pc == 4 || f.pc == 22 else if f.kind == 13 then f.pc == 5 || f.pc == 6 || f.pc == 21 || f.pc == 23 else f.pc == 21)) = brHas f := by
  unfold brHas
  rw [Bool.eq_iff_iff]
  by_cases h12 : f.kind = 12
  · simp [h12]
    (try omega)
  · by_cases h13 : f.kind = 13 <;> simp [h12, h13] <;> omega

set_option maxRecDepth 100000 in
set_option maxHeartbeats 8000000 in
theorem brMayR_any (c : Cfg) (f : Frm) (hf : f.Fits) (hobj : c.object = 4) (w : World) : Calls Tryd.prog 26 #[c.v, f.v] w
    fun e w' => e = .returned (.bool (brMay c f)) ∧ Ext w w' := by
  have HF := Lib.hid hf
  have ho := brOp_fits hf
  have hl3 := brLong_le f
  obtain ⟨L, hL⟩ : ∃ L, brLong f = L := ⟨_, rfl⟩
  obtain ⟨E, hE⟩ : ∃ E, opErr c (brOp f) = E := ⟨_, rfl⟩
  obtain ⟨B, hB⟩ : ∃ B, brHas f = B := ⟨_, rfl⟩
  obtain ⟨T, hT⟩ : ∃ T, brAt f = T := ⟨_, rfl⟩
  obtain ⟨A, hA⟩ : ∃ A, brStep f = A := ⟨_, rfl⟩
  have HM : Hid (brMay c f = (E == 0 && B && decide (f.i ≤ c.cap) && decide (f.j ≤ c.cap) && decide (f.n ≤ c.cap) && decide (f.p ≤ c.cap) && decide (f.h ≤ L) &&
    !((f.pc == 0 || f.pc == 2) && f.h == L) && !(f.pc == 0 && decide (f.i < f.n)) && decide (0 ≤ T) && decide (T < c.cap))) := Lib.hid (by rw [← hE, ← hB, ← hL, ← hT]; rfl)
  have HTH : Hid (_ = B) := Lib.hid ((there_has f).trans hB)
  have H4 : Hid (opErr c (brOp f) = 0 → 1 ≤ brLong f) := Lib.hid fun h => (brMany_pos hobj h).2
  have HPC : Hid (brHas f = true → _) := Lib.hid (brHas_pc (f := f))
  rw [hL] at hl3
  have HS := Lib.hid hA
  have HLL := Lib.hid hL
  have HE := Lib.hid hE
  have HB := Lib.hid hB
  have HT := Lib.hid hT
  have HKK := Lib.hid hf.kind
  have HPP := Lib.hid hf.pc
  obtain ⟨⟨k0, k1⟩, ⟨a0, a1⟩, ⟨b0, b1⟩, ⟨p0, p1⟩, ⟨i0, i1⟩, ⟨j0, j1⟩, ⟨m0, m1⟩, ⟨q0, q1⟩, ⟨h0, h1⟩, _, ⟨y0, y1⟩⟩ := hf
  clear hL hE hB hT hA hobj
  cases hk : (f.kind == 12)
  · have hop : brOp f = ⟨f.kind, f.a, f.b, 0⟩ := by unfold brOp; rw [hk]; rfl
    rw [hop] at ho HE
    have H4 : Hid (E = 0 → 1 ≤ brLong f) := Lib.hid (by rw [← HE.out, ← hop]; exact H4.out)
    have HO := Lib.hid ho
    clear ho hop
    cases e0 : (E == 0)
    · have e1 : (E != 0) = true := by simpa using e0
      have e2 : E ≠ 0 := by simpa using e0
      go_enter Tryd.func26, Tryd.ntmps26
      go_wp2_with (first | (go_at_call 52; refine (opCheckR_any c ⟨f.kind, f.a, f.b, 0⟩ HO.out _).mono ?_; rintro e w1 ⟨rfl, os1, n1, rfl⟩; rw [HE.out]) | (go_at_call 53; refine (thereR_any f.kind f.pc HKK.out HPP.out _).mono ?_; rintro e w2 ⟨rfl, rfl⟩; rw [HTH.out]))
      go_ret
      refine ⟨ret_bool ?_, (by repeat (first | with_reducible exact Ext.refl _ | with_reducible assumption | with_reducible refine Ext.alloc ?_ _ | with_reducible refine Ext.gr ?_ _ | with_reducible refine Ext.drewN ?_ _ | with_reducible refine Ext.drew ?_ | with_reducible refine Ext.setCell ?_ ?_ _ | with_reducible refine Ext.more ?_ _ _ | (show _ ≤ _; dsimp only; omega)))⟩
      rw [HM.out, e0]
      rfl
    · obtain rfl : E = 0 := by simpa using e0
      cases B
      · go_enter Tryd.func26, Tryd.ntmps26
        go_wp2_with (first | (go_at_call 52; refine (opCheckR_any c ⟨f.kind, f.a, f.b, 0⟩ HO.out _).mono ?_; rintro e w1 ⟨rfl, os1, n1, rfl⟩; rw [HE.out]) | (go_at_call 53; refine (thereR_any f.kind f.pc HKK.out HPP.out _).mono ?_; rintro e w2 ⟨rfl, rfl⟩; rw [HTH.out]))
        go_ret
        refine ⟨ret_bool ?_, (by repeat (first | with_reducible exact Ext.refl _ | with_reducible assumption | with_reducible refine Ext.alloc ?_ _ | with_reducible refine Ext.gr ?_ _ | with_reducible refine Ext.drewN ?_ _ | with_reducible refine Ext.drew ?_ | with_reducible refine Ext.setCell ?_ ?_ _ | with_reducible refine Ext.more ?_ _ _ | (show _ ≤ _; dsimp only; omega)))⟩
        rw [HM.out]
        rfl
      · have HPC := Lib.hid (HPC.out HB.out)
        have HAT : Hid (A.at' = T) := Lib.hid (by rw [← HS.out, ← HT.out]; exact brStep_at HPC.out)
        have HL1 : Hid (1 ≤ brLong f) := Lib.hid (H4.out rfl)
        clear HB HT H4
        go_enter Tryd.func26, Tryd.ntmps26
        go_upto_region 6 with (first | (go_at_call 52; refine (opCheckR_any c ⟨f.kind, f.a, f.b, 0⟩ HO.out _).mono ?_; rintro e w1 ⟨rfl, os1, n1, rfl⟩; rw [HE.out]) | (go_at_call 53; refine (thereR_any f.kind f.pc HKK.out HPP.out _).mono ?_; rintro e w2 ⟨rfl, rfl⟩; rw [HTH.out]))
        (refine wp_gen (fun W => Ext w W ∧ w.heap.size + 1 < W.heap.size ∧ Holds W ([(w.heap.size, 0, .int .u8 c.object), (w.heap.size, 1, .int .i64 c.instances), (w.heap.size, 2, .int .i64 c.threads), (w.heap.size, 3, .int .u8 c.kind), (w.heap.size, 4, .int .i64 c.stripes), (w.heap.size, 5, .int .i64 c.bits), (w.heap.size, 6, .int .i64 c.cap), (w.heap.size, 7, .int .i64 c.node), (w.heap.size, 8, .int .i64 c.batch), (w.heap.size, 9, .int .i64 c.chunk), (w.heap.size, 10, .int .u64 c.limit), (w.heap.size, 11, .int .u64 c.most)] ++ [(w.heap.size + 1, 0, .int .u8 f.kind), (w.heap.size + 1, 1, .int .u32 f.a), (w.heap.size + 1, 2, .int .u32 f.b), (w.heap.size + 1, 3, .int .u8 f.pc), (w.heap.size + 1, 4, .int .u8 f.i), (w.heap.size + 1, 5, .int .u8 f.j), (w.heap.size + 1, 6, .int .u8 f.n), (w.heap.size + 1, 7, .int .u8 f.p), (w.heap.size + 1, 8, .int .u8 f.h), (w.heap.size + 1, 9, .int .u32 f.x), (w.heap.size + 1, 10, .int .u32 f.y)])) ⟨(by repeat (first | with_reducible exact Ext.refl _ | with_reducible assumption | with_reducible refine Ext.alloc ?_ _ | with_reducible refine Ext.gr ?_ _ | with_reducible refine Ext.drewN ?_ _ | with_reducible refine Ext.drew ?_ | with_reducible refine Ext.setCell ?_ ?_ _ | with_reducible refine Ext.more ?_ _ _ | (show _ ≤ _; dsimp only; omega))), (by first | omega | (simp [go_sem]; done) | (simp [go_sem]; omega)), by simp [Holds, go_sem]⟩ ?_; intro W HH; have HW := Lib.hid HH.1; have hA1 := HH.2.1; have hA0 : w.heap.size < W.heap.size := (by omega); have hKW := HH.2.2; simp only [Holds, List.cons_append, List.nil_append] at hKW; have HKW := Lib.hid hKW; clear HH)
        cases g1 : decide (c.cap < f.i)
        · cases g2 : decide (c.cap < f.j)
          · cases g3 : decide (c.cap < f.n)
            · cases g4 : decide (c.cap < f.p)
              · cases g5 : decide (L < f.h)
                · ((refine wp_region_ext_lit (by kernel_rfl) (by kernel_rfl) ?_); (repeat (go_big_quiet_step ((go_at_call 54; exact quiet_ext ((longR_any f HF.out _).mono fun e w' ⟨he, hx⟩ => ⟨by rw [he, HLL.out], hx⟩))))); (refine wpQuiet_nil ?_; intro _ hw'; obtain ⟨⟨osq, nq⟩, hw''⟩ := hw'; replace hw'' : _ = grew _ osq nq := hw''; subst hw''))
                  have hi : f.i ≤ c.cap := by simpa using g1
                  have hj : f.j ≤ c.cap := by simpa using g2
                  have hn : f.n ≤ c.cap := by simpa using g3
                  have hq : f.p ≤ c.cap := by simpa using g4
                  have hh : f.h ≤ L := by simpa using g5
                  clear g1 g2 g3 g4 g5
                  go_upto_region 8 with fail
                  refine wp_gen (fun V => Ext W V) (by repeat (first | with_reducible exact Ext.refl _ | with_reducible assumption | with_reducible refine Ext.alloc ?_ _ | with_reducible refine Ext.gr ?_ _ | with_reducible refine Ext.drewN ?_ _ | with_reducible refine Ext.drew ?_ | with_reducible refine Ext.setCell ?_ ?_ _ | with_reducible refine Ext.more ?_ _ _ | (show _ ≤ _; dsimp only; omega))) ?_
                  intro V HV
                  have HW := Lib.hid (HW.out.trans HV)
                  have hA1 : w.heap.size + 1 < V.heap.size := Nat.lt_of_lt_of_le hA1 HV.size
                  have hA0 : w.heap.size < V.heap.size := by omega
                  have hKW : Holds V ([(w.heap.size, 0, .int .u8 c.object), (w.heap.size, 1, .int .i64 c.instances), (w.heap.size, 2, .int .i64 c.threads), (w.heap.size, 3, .int .u8 c.kind), (w.heap.size, 4, .int .i64 c.stripes), (w.heap.size, 5, .int .i64 c.bits), (w.heap.size, 6, .int .i64 c.cap), (w.heap.size, 7, .int .i64 c.node), (w.heap.size, 8, .int .i64 c.batch), (w.heap.size, 9, .int .i64 c.chunk), (w.heap.size, 10, .int .u64 c.limit), (w.heap.size, 11, .int .u64 c.most)] ++ [(w.heap.size + 1, 0, .int .u8 f.kind), (w.heap.size + 1, 1, .int .u32 f.a), (w.heap.size + 1, 2, .int .u32 f.b), (w.heap.size + 1, 3, .int .u8 f.pc), (w.heap.size + 1, 4, .int .u8 f.i), (w.heap.size + 1, 5, .int .u8 f.j), (w.heap.size + 1, 6, .int .u8 f.n), (w.heap.size + 1, 7, .int .u8 f.p), (w.heap.size + 1, 8, .int .u8 f.h), (w.heap.size + 1, 9, .int .u32 f.x), (w.heap.size + 1, 10, .int .u32 f.y)]) := Holds.ext (by simp only [Holds, List.cons_append, List.nil_append]; exact HKW.out) HV
                  simp only [Holds, List.cons_append, List.nil_append] at hKW
                  clear HV HKW
                  have HKW := Lib.hid hKW
                  cases zh : decide (L ≤ f.h)
                  · have zh' : f.h < L := by simpa using zh
                    have H2 : Hid (f.pc = 2 → f.h < brLong f) := Lib.hid fun _ => by rw [HLL.out]; exact zh'
                    cases z0 : (f.pc == 0)
                    · have z0' : ¬ f.pc = 0 := by simpa using z0
                      cases z2 : (f.pc == 2)
                      · ((refine wp_region_ext_lit (by kernel_rfl) (by kernel_rfl) ?_); (repeat (go_big_quiet_step ((go_at_call 54; exact quiet_ext ((longR_any f HF.out _).mono fun e w' ⟨he, hx⟩ => ⟨by rw [he, HLL.out], hx⟩))))); (refine wpQuiet_nil ?_; intro _ hw'; obtain ⟨⟨osq, nq⟩, hw''⟩ := hw'; replace hw'' : _ = grew _ osq nq := hw''; subst hw''))
                        (go_wp2_with (go_at_call 27; refine (brStepR_any f HF.out HPC.out H2.out (fun _ => HL1.out) _).mono ?_; rintro e w3 ⟨rfl, os3, n3, rfl⟩; rw [HS.out]; have hbz : w.heap.size < V.heap.size + cnt (both osq os3) := (by omega));  all_goals ((go_ret; refine ⟨ret_bool ?_, HW.out.trans (by repeat (first | with_reducible exact Ext.refl _ | with_reducible assumption | with_reducible refine Ext.alloc ?_ _ | with_reducible refine Ext.gr ?_ _ | with_reducible refine Ext.drewN ?_ _ | with_reducible refine Ext.drew ?_ | with_reducible refine Ext.setCell ?_ ?_ _ | with_reducible refine Ext.more ?_ _ _ | (show _ ≤ _; dsimp only; omega)))⟩; rw [HM.out]); rw [Bool.eq_iff_iff]; have hat := HAT.out; (try have z0' := Z0.out); (try have z2' := Z2.out); clear HM HW HKW HAT; simp; omega))
                      · ((refine wp_region_ext_lit (by kernel_rfl) (by kernel_rfl) ?_); (repeat (go_big_quiet_step ((go_at_call 54; exact quiet_ext ((longR_any f HF.out _).mono fun e w' ⟨he, hx⟩ => ⟨by rw [he, HLL.out], hx⟩))))); (refine wpQuiet_nil ?_; intro _ hw'; obtain ⟨⟨osq, nq⟩, hw''⟩ := hw'; replace hw'' : _ = grew _ osq nq := hw''; subst hw''))
                        (go_wp2_with (go_at_call 27; refine (brStepR_any f HF.out HPC.out H2.out (fun _ => HL1.out) _).mono ?_; rintro e w3 ⟨rfl, os3, n3, rfl⟩; rw [HS.out]; have hbz : w.heap.size < V.heap.size + cnt (both osq os3) := (by omega));  all_goals ((go_ret; refine ⟨ret_bool ?_, HW.out.trans (by repeat (first | with_reducible exact Ext.refl _ | with_reducible assumption | with_reducible refine Ext.alloc ?_ _ | with_reducible refine Ext.gr ?_ _ | with_reducible refine Ext.drewN ?_ _ | with_reducible refine Ext.drew ?_ | with_reducible refine Ext.setCell ?_ ?_ _ | with_reducible refine Ext.more ?_ _ _ | (show _ ≤ _; dsimp only; omega)))⟩; rw [HM.out]); rw [Bool.eq_iff_iff]; have hat := HAT.out; (try have z0' := Z0.out); (try have z2' := Z2.out); clear HM HW HKW HAT; simp; omega))
                    · have Z0 : Hid (f.pc = 0) := Lib.hid (by simpa using z0)
                      cases zn : decide (f.i < f.n)
                      · have zn' : ¬ f.i < f.n := by simpa using zn
                        ((refine wp_region_ext_lit (by kernel_rfl) (by kernel_rfl) ?_); (repeat (go_big_quiet_step ((go_at_call 54; exact quiet_ext ((longR_any f HF.out _).mono fun e w' ⟨he, hx⟩ => ⟨by rw [he, HLL.out], hx⟩))))); (refine wpQuiet_nil ?_; intro _ hw'; obtain ⟨⟨osq, nq⟩, hw''⟩ := hw'; replace hw'' : _ = grew _ osq nq := hw''; subst hw''))
                        (go_wp2_with (go_at_call 27; refine (brStepR_any f HF.out HPC.out H2.out (fun _ => HL1.out) _).mono ?_; rintro e w3 ⟨rfl, os3, n3, rfl⟩; rw [HS.out]; have hbz : w.heap.size < V.heap.size + cnt (both osq os3) := (by omega));  all_goals ((go_ret; refine ⟨ret_bool ?_, HW.out.trans (by repeat (first | with_reducible exact Ext.refl _ | with_reducible assumption | with_reducible refine Ext.alloc ?_ _ | with_reducible refine Ext.gr ?_ _ | with_reducible refine Ext.drewN ?_ _ | with_reducible refine Ext.drew ?_ | with_reducible refine Ext.setCell ?_ ?_ _ | with_reducible refine Ext.more ?_ _ _ | (show _ ≤ _; dsimp only; omega)))⟩; rw [HM.out]); rw [Bool.eq_iff_iff]; have hat := HAT.out; (try have z0' := Z0.out); (try have z2' := Z2.out); clear HM HW HKW HAT; simp; omega))
                      · have zn' : f.i < f.n := by simpa using zn
                        ((refine wp_region_ext_lit (by kernel_rfl) (by kernel_rfl) ?_); (repeat (go_big_quiet_step ((go_at_call 54; exact quiet_ext ((longR_any f HF.out _).mono fun e w' ⟨he, hx⟩ => ⟨by rw [he, HLL.out], hx⟩))))); (refine wpQuiet_nil ?_; intro _ hw'; obtain ⟨⟨osq, nq⟩, hw''⟩ := hw'; replace hw'' : _ = grew _ osq nq := hw''; subst hw''))
                        (go_wp2; (go_ret; refine ⟨ret_bool ?_, HW.out.trans (by repeat (first | with_reducible exact Ext.refl _ | with_reducible assumption | with_reducible refine Ext.alloc ?_ _ | with_reducible refine Ext.gr ?_ _ | with_reducible refine Ext.drewN ?_ _ | with_reducible refine Ext.drew ?_ | with_reducible refine Ext.setCell ?_ ?_ _ | with_reducible refine Ext.more ?_ _ _ | (show _ ≤ _; dsimp only; omega)))⟩; rw [HM.out]); (try have z0' := Z0.out); (try have z2' := Z2.out); clear HM HW HKW; simp; omega)
                  · have zh' : L ≤ f.h := by simpa using zh
                    cases z0 : (f.pc == 0)
                    · have z0' : ¬ f.pc = 0 := by simpa using z0
                      cases z2 : (f.pc == 2)
                      · have z2' : ¬ f.pc = 2 := by simpa using z2
                        have H2 : Hid (f.pc = 2 → f.h < brLong f) := Lib.hid fun h => by rw [h] at z2; cases z2
                        ((refine wp_region_ext_lit (by kernel_rfl) (by kernel_rfl) ?_); (repeat (go_big_quiet_step ((go_at_call 54; exact quiet_ext ((longR_any f HF.out _).mono fun e w' ⟨he, hx⟩ => ⟨by rw [he, HLL.out], hx⟩))))); (refine wpQuiet_nil ?_; intro _ hw'; obtain ⟨⟨osq, nq⟩, hw''⟩ := hw'; replace hw'' : _ = grew _ osq nq := hw''; subst hw''))
                        (go_wp2_with (go_at_call 27; refine (brStepR_any f HF.out HPC.out H2.out (fun _ => HL1.out) _).mono ?_; rintro e w3 ⟨rfl, os3, n3, rfl⟩; rw [HS.out]; have hbz : w.heap.size < V.heap.size + cnt (both osq os3) := (by omega));  all_goals ((go_ret; refine ⟨ret_bool ?_, HW.out.trans (by repeat (first | with_reducible exact Ext.refl _ | with_reducible assumption | with_reducible refine Ext.alloc ?_ _ | with_reducible refine Ext.gr ?_ _ | with_reducible refine Ext.drewN ?_ _ | with_reducible refine Ext.drew ?_ | with_reducible refine Ext.setCell ?_ ?_ _ | with_reducible refine Ext.more ?_ _ _ | (show _ ≤ _; dsimp only; omega)))⟩; rw [HM.out]); rw [Bool.eq_iff_iff]; have hat := HAT.out; (try have z0' := Z0.out); (try have z2' := Z2.out); clear HM HW HKW HAT; simp; omega))
                      · have Z2 : Hid (f.pc = 2) := Lib.hid (by simpa using z2)
                        ((refine wp_region_ext_lit (by kernel_rfl) (by kernel_rfl) ?_); (repeat (go_big_quiet_step ((go_at_call 54; exact quiet_ext ((longR_any f HF.out _).mono fun e w' ⟨he, hx⟩ => ⟨by rw [he, HLL.out], hx⟩))))); (refine wpQuiet_nil ?_; intro _ hw'; obtain ⟨⟨osq, nq⟩, hw''⟩ := hw'; replace hw'' : _ = grew _ osq nq := hw''; subst hw''))
                        (go_wp2; (go_ret; refine ⟨ret_bool ?_, HW.out.trans (by repeat (first | with_reducible exact Ext.refl _ | with_reducible assumption | with_reducible refine Ext.alloc ?_ _ | with_reducible refine Ext.gr ?_ _ | with_reducible refine Ext.drewN ?_ _ | with_reducible refine Ext.drew ?_ | with_reducible refine Ext.setCell ?_ ?_ _ | with_reducible refine Ext.more ?_ _ _ | (show _ ≤ _; dsimp only; omega)))⟩; rw [HM.out]); (try have z0' := Z0.out); (try have z2' := Z2.out); clear HM HW HKW; simp; omega)
                    · have Z0 : Hid (f.pc = 0) := Lib.hid (by simpa using z0)
                      ((refine wp_region_ext_lit (by kernel_rfl) (by kernel_rfl) ?_); (repeat (go_big_quiet_step ((go_at_call 54; exact quiet_ext ((longR_any f HF.out _).mono fun e w' ⟨he, hx⟩ => ⟨by rw [he, HLL.out], hx⟩))))); (refine wpQuiet_nil ?_; intro _ hw'; obtain ⟨⟨osq, nq⟩, hw''⟩ := hw'; replace hw'' : _ = grew _ osq nq := hw''; subst hw''))
                      (go_wp2; (go_ret; refine ⟨ret_bool ?_, HW.out.trans (by repeat (first | with_reducible exact Ext.refl _ | with_reducible assumption | with_reducible refine Ext.alloc ?_ _ | with_reducible refine Ext.gr ?_ _ | with_reducible refine Ext.drewN ?_ _ | with_reducible refine Ext.drew ?_ | with_reducible refine Ext.setCell ?_ ?_ _ | with_reducible refine Ext.more ?_ _ _ | (show _ ≤ _; dsimp only; omega)))⟩; rw [HM.out]); (try have z0' := Z0.out); (try have z2' := Z2.out); clear HM HW HKW; simp; omega)
                · have hh : L < f.h := by simpa using g5
                  ((refine wp_region_ext_lit (by kernel_rfl) (by kernel_rfl) ?_); (repeat (go_big_quiet_step ((go_at_call 54; exact quiet_ext ((longR_any f HF.out _).mono fun e w' ⟨he, hx⟩ => ⟨by rw [he, HLL.out], hx⟩))))); (refine wpQuiet_nil ?_; intro _ hw'; obtain ⟨⟨osq, nq⟩, hw''⟩ := hw'; replace hw'' : _ = grew _ osq nq := hw''; subst hw''))
                  (go_wp2; (go_ret; refine ⟨ret_bool ?_, HW.out.trans (by repeat (first | with_reducible exact Ext.refl _ | with_reducible assumption | with_reducible refine Ext.alloc ?_ _ | with_reducible refine Ext.gr ?_ _ | with_reducible refine Ext.drewN ?_ _ | with_reducible refine Ext.drew ?_ | with_reducible refine Ext.setCell ?_ ?_ _ | with_reducible refine Ext.more ?_ _ _ | (show _ ≤ _; dsimp only; omega)))⟩; rw [HM.out]); (try have z0' := Z0.out); (try have z2' := Z2.out); clear HM HW HKW; simp; omega)
              · have hh : c.cap < f.p := by simpa using g4
                ((refine wp_region_ext_lit (by kernel_rfl) (by kernel_rfl) ?_); (repeat (go_big_quiet_step ((go_at_call 54; exact quiet_ext ((longR_any f HF.out _).mono fun e w' ⟨he, hx⟩ => ⟨by rw [he, HLL.out], hx⟩))))); (refine wpQuiet_nil ?_; intro _ hw'; obtain ⟨⟨osq, nq⟩, hw''⟩ := hw'; replace hw'' : _ = grew _ osq nq := hw''; subst hw''))
                (go_wp2; (go_ret; refine ⟨ret_bool ?_, HW.out.trans (by repeat (first | with_reducible exact Ext.refl _ | with_reducible assumption | with_reducible refine Ext.alloc ?_ _ | with_reducible refine Ext.gr ?_ _ | with_reducible refine Ext.drewN ?_ _ | with_reducible refine Ext.drew ?_ | with_reducible refine Ext.setCell ?_ ?_ _ | with_reducible refine Ext.more ?_ _ _ | (show _ ≤ _; dsimp only; omega)))⟩; rw [HM.out]); (try have z0' := Z0.out); (try have z2' := Z2.out); clear HM HW HKW; simp; omega)
            · have hh : c.cap < f.n := by simpa using g3
              ((refine wp_region_ext_lit (by kernel_rfl) (by kernel_rfl) ?_); (repeat (go_big_quiet_step ((go_at_call 54; exact quiet_ext ((longR_any f HF.out _).mono fun e w' ⟨he, hx⟩ => ⟨by rw [he, HLL.out], hx⟩))))); (refine wpQuiet_nil ?_; intro _ hw'; obtain ⟨⟨osq, nq⟩, hw''⟩ := hw'; replace hw'' : _ = grew _ osq nq := hw''; subst hw''))
              (go_wp2; (go_ret; refine ⟨ret_bool ?_, HW.out.trans (by repeat (first | with_reducible exact Ext.refl _ | with_reducible assumption | with_reducible refine Ext.alloc ?_ _ | with_reducible refine Ext.gr ?_ _ | with_reducible refine Ext.drewN ?_ _ | with_reducible refine Ext.drew ?_ | with_reducible refine Ext.setCell ?_ ?_ _ | with_reducible refine Ext.more ?_ _ _ | (show _ ≤ _; dsimp only; omega)))⟩; rw [HM.out]); (try have z0' := Z0.out); (try have z2' := Z2.out); clear HM HW HKW; simp; omega)
          · have hh : c.cap < f.j := by simpa using g2
            ((refine wp_region_ext_lit (by kernel_rfl) (by kernel_rfl) ?_); (repeat (go_big_quiet_step ((go_at_call 54; exact quiet_ext ((longR_any f HF.out _).mono fun e w' ⟨he, hx⟩ => ⟨by rw [he, HLL.out], hx⟩))))); (refine wpQuiet_nil ?_; intro _ hw'; obtain ⟨⟨osq, nq⟩, hw''⟩ := hw'; replace hw'' : _ = grew _ osq nq := hw''; subst hw''))
            (go_wp2; (go_ret; refine ⟨ret_bool ?_, HW.out.trans (by repeat (first | with_reducible exact Ext.refl _ | with_reducible assumption | with_reducible refine Ext.alloc ?_ _ | with_reducible refine Ext.gr ?_ _ | with_reducible refine Ext.drewN ?_ _ | with_reducible refine Ext.drew ?_ | with_reducible refine Ext.setCell ?_ ?_ _ | with_reducible refine Ext.more ?_ _ _ | (show _ ≤ _; dsimp only; omega)))⟩; rw [HM.out]); (try have z0' := Z0.out); (try have z2' := Z2.out); clear HM HW HKW; simp; omega)
        · have hh : c.cap < f.i := by simpa using g1
          ((refine wp_region_ext_lit (by kernel_rfl) (by kernel_rfl) ?_); (repeat (go_big_quiet_step ((go_at_call 54; exact quiet_ext ((longR_any f HF.out _).mono fun e w' ⟨he, hx⟩ => ⟨by rw [he, HLL.out], hx⟩))))); (refine wpQuiet_nil ?_; intro _ hw'; obtain ⟨⟨osq, nq⟩, hw''⟩ := hw'; replace hw'' : _ = grew _ osq nq := hw''; subst hw''))
          (go_wp2; (go_ret; refine ⟨ret_bool ?_, HW.out.trans (by repeat (first | with_reducible exact Ext.refl _ | with_reducible assumption | with_reducible refine Ext.alloc ?_ _ | with_reducible refine Ext.gr ?_ _ | with_reducible refine Ext.drewN ?_ _ | with_reducible refine Ext.drew ?_ | with_reducible refine Ext.setCell ?_ ?_ _ | with_reducible refine Ext.more ?_ _ _ | (show _ ≤ _; dsimp only; omega)))⟩; rw [HM.out]); (try have z0' := Z0.out); (try have z2' := Z2.out); clear HM HW HKW; simp; omega)
  · have hop : brOp f = ⟨f.kind, f.a, f.b, f.y⟩ := by unfold brOp; rw [hk]; rfl
    rw [hop] at ho HE
    have H4 : Hid (E = 0 → 1 ≤ brLong f) := Lib.hid (by rw [← HE.out, ← hop]; exact H4.out)
    have HO := Lib.hid ho
    clear ho hop
    cases e0 : (E == 0)
    · have e1 : (E != 0) = true := by simpa using e0
      have e2 : E ≠ 0 := by simpa using e0
      go_enter Tryd.func26, Tryd.ntmps26
      go_wp2_with (first | (go_at_call 52; refine (opCheckR_any c ⟨f.kind, f.a, f.b, f.y⟩ HO.out _).mono ?_; rintro e w1 ⟨rfl, os1, n1, rfl⟩; rw [HE.out]) | (go_at_call 53; refine (thereR_any f.kind f.pc HKK.out HPP.out _).mono ?_; rintro e w2 ⟨rfl, rfl⟩; rw [HTH.out]))
      go_ret
      refine ⟨ret_bool ?_, (by repeat (first | with_reducible exact Ext.refl _ | with_reducible assumption | with_reducible refine Ext.alloc ?_ _ | with_reducible refine Ext.gr ?_ _ | with_reducible refine Ext.drewN ?_ _ | with_reducible refine Ext.drew ?_ | with_reducible refine Ext.setCell ?_ ?_ _ | with_reducible refine Ext.more ?_ _ _ | (show _ ≤ _; dsimp only; omega)))⟩
      rw [HM.out, e0]
      rfl
    · obtain rfl : E = 0 := by simpa using e0
      cases B
      · go_enter Tryd.func26, Tryd.ntmps26
        go_wp2_with (first | (go_at_call 52; refine (opCheckR_any c ⟨f.kind, f.a, f.b, f.y⟩ HO.out _).mono ?_; rintro e w1 ⟨rfl, os1, n1, rfl⟩; rw [HE.out]) | (go_at_call 53; refine (thereR_any f.kind f.pc HKK.out HPP.out _).mono ?_; rintro e w2 ⟨rfl, rfl⟩; rw [HTH.out]))
        go_ret
        refine ⟨ret_bool ?_, (by repeat (first | with_reducible exact Ext.refl _ | with_reducible assumption | with_reducible refine Ext.alloc ?_ _ | with_reducible refine Ext.gr ?_ _ | with_reducible refine Ext.drewN ?_ _ | with_reducible refine Ext.drew ?_ | with_reducible refine Ext.setCell ?_ ?_ _ | with_reducible refine Ext.more ?_ _ _ | (show _ ≤ _; dsimp only; omega)))⟩
        rw [HM.out]
        rfl
      · have HPC := Lib.hid (HPC.out HB.out)
        have HAT : Hid (A.at' = T) := Lib.hid (by rw [← HS.out, ← HT.out]; exact brStep_at HPC.out)
        have HL1 : Hid (1 ≤ brLong f) := Lib.hid (H4.out rfl)
        clear HB HT H4
        go_enter Tryd.func26, Tryd.ntmps26
        go_upto_region 6 with (first | (go_at_call 52; refine (opCheckR_any c ⟨f.kind, f.a, f.b, f.y⟩ HO.out _).mono ?_; rintro e w1 ⟨rfl, os1, n1, rfl⟩; rw [HE.out]) | (go_at_call 53; refine (thereR_any f.kind f.pc HKK.out HPP.out _).mono ?_; rintro e w2 ⟨rfl, rfl⟩; rw [HTH.out]))
        (refine wp_gen (fun W => Ext w W ∧ w.heap.size + 1 < W.heap.size ∧ Holds W ([(w.heap.size, 0, .int .u8 c.object), (w.heap.size, 1, .int .i64 c.instances), (w.heap.size, 2, .int .i64 c.threads), (w.heap.size, 3, .int .u8 c.kind), (w.heap.size, 4, .int .i64 c.stripes), (w.heap.size, 5, .int .i64 c.bits), (w.heap.size, 6, .int .i64 c.cap), (w.heap.size, 7, .int .i64 c.node), (w.heap.size, 8, .int .i64 c.batch), (w.heap.size, 9, .int .i64 c.chunk), (w.heap.size, 10, .int .u64 c.limit), (w.heap.size, 11, .int .u64 c.most)] ++ [(w.heap.size + 1, 0, .int .u8 f.kind), (w.heap.size + 1, 1, .int .u32 f.a), (w.heap.size + 1, 2, .int .u32 f.b), (w.heap.size + 1, 3, .int .u8 f.pc), (w.heap.size + 1, 4, .int .u8 f.i), (w.heap.size + 1, 5, .int .u8 f.j), (w.heap.size + 1, 6, .int .u8 f.n), (w.heap.size + 1, 7, .int .u8 f.p), (w.heap.size + 1, 8, .int .u8 f.h), (w.heap.size + 1, 9, .int .u32 f.x), (w.heap.size + 1, 10, .int .u32 f.y)])) ⟨(by repeat (first | with_reducible exact Ext.refl _ | with_reducible assumption | with_reducible refine Ext.alloc ?_ _ | with_reducible refine Ext.gr ?_ _ | with_reducible refine Ext.drewN ?_ _ | with_reducible refine Ext.drew ?_ | with_reducible refine Ext.setCell ?_ ?_ _ | with_reducible refine Ext.more ?_ _ _ | (show _ ≤ _; dsimp only; omega))), (by first | omega | (simp [go_sem]; done) | (simp [go_sem]; omega)), by simp [Holds, go_sem]⟩ ?_; intro W HH; have HW := Lib.hid HH.1; have hA1 := HH.2.1; have hA0 : w.heap.size < W.heap.size := (by omega); have hKW := HH.2.2; simp only [Holds, List.cons_append, List.nil_append] at hKW; have HKW := Lib.hid hKW; clear HH)
        cases g1 : decide (c.cap < f.i)
        · cases g2 : decide (c.cap < f.j)
          · cases g3 : decide (c.cap < f.n)
            · cases g4 : decide (c.cap < f.p)
              · cases g5 : decide (L < f.h)
                · ((refine wp_region_ext_lit (by kernel_rfl) (by kernel_rfl) ?_); (repeat (go_big_quiet_step ((go_at_call 54; exact quiet_ext ((longR_any f HF.out _).mono fun e w' ⟨he, hx⟩ => ⟨by rw [he, HLL.out], hx⟩))))); (refine wpQuiet_nil ?_; intro _ hw'; obtain ⟨⟨osq, nq⟩, hw''⟩ := hw'; replace hw'' : _ = grew _ osq nq := hw''; subst hw''))
                  have hi : f.i ≤ c.cap := by simpa using g1
                  have hj : f.j ≤ c.cap := by simpa using g2
                  have hn : f.n ≤ c.cap := by simpa using g3
                  have hq : f.p ≤ c.cap := by simpa using g4
                  have hh : f.h ≤ L := by simpa using g5
                  clear g1 g2 g3 g4 g5
                  go_upto_region 8 with fail
                  refine wp_gen (fun V => Ext W V) (by repeat (first | with_reducible exact Ext.refl _ | with_reducible assumption | with_reducible refine Ext.alloc ?_ _ | with_reducible refine Ext.gr ?_ _ | with_reducible refine Ext.drewN ?_ _ | with_reducible refine Ext.drew ?_ | with_reducible refine Ext.setCell ?_ ?_ _ | with_reducible refine Ext.more ?_ _ _ | (show _ ≤ _; dsimp only; omega))) ?_
                  intro V HV
                  have HW := Lib.hid (HW.out.trans HV)
                  have hA1 : w.heap.size + 1 < V.heap.size := Nat.lt_of_lt_of_le hA1 HV.size
                  have hA0 : w.heap.size < V.heap.size := by omega
                  have hKW : Holds V ([(w.heap.size, 0, .int .u8 c.object), (w.heap.size, 1, .int .i64 c.instances), (w.heap.size, 2, .int .i64 c.threads), (w.heap.size, 3, .int .u8 c.kind), (w.heap.size, 4, .int .i64 c.stripes), (w.heap.size, 5, .int .i64 c.bits), (w.heap.size, 6, .int .i64 c.cap), (w.heap.size, 7, .int .i64 c.node), (w.heap.size, 8, .int .i64 c.batch), (w.heap.size, 9, .int .i64 c.chunk), (w.heap.size, 10, .int .u64 c.limit), (w.heap.size, 11, .int .u64 c.most)] ++ [(w.heap.size + 1, 0, .int .u8 f.kind), (w.heap.size + 1, 1, .int .u32 f.a), (w.heap.size + 1, 2, .int .u32 f.b), (w.heap.size + 1, 3, .int .u8 f.pc), (w.heap.size + 1, 4, .int .u8 f.i), (w.heap.size + 1, 5, .int .u8 f.j), (w.heap.size + 1, 6, .int .u8 f.n), (w.heap.size + 1, 7, .int .u8 f.p), (w.heap.size + 1, 8, .int .u8 f.h), (w.heap.size + 1, 9, .int .u32 f.x), (w.heap.size + 1, 10, .int .u32 f.y)]) := Holds.ext (by simp only [Holds, List.cons_append, List.nil_append]; exact HKW.out) HV
                  simp only [Holds, List.cons_append, List.nil_append] at hKW
                  clear HV HKW
                  have HKW := Lib.hid hKW
                  cases zh : decide (L ≤ f.h)
                  · have zh' : f.h < L := by simpa using zh
                    have H2 : Hid (f.pc = 2 → f.h < brLong f) := Lib.hid fun _ => by rw [HLL.out]; exact zh'
                    cases z0 : (f.pc == 0)
                    · have z0' : ¬ f.pc = 0 := by simpa using z0
                      cases z2 : (f.pc == 2)
                      · ((refine wp_region_ext_lit (by kernel_rfl) (by kernel_rfl) ?_); (repeat (go_big_quiet_step ((go_at_call 54; exact quiet_ext ((longR_any f HF.out _).mono fun e w' ⟨he, hx⟩ => ⟨by rw [he, HLL.out], hx⟩))))); (refine wpQuiet_nil ?_; intro _ hw'; obtain ⟨⟨osq, nq⟩, hw''⟩ := hw'; replace hw'' : _ = grew _ osq nq := hw''; subst hw''))
                        (go_wp2_with (go_at_call 27; refine (brStepR_any f HF.out HPC.out H2.out (fun _ => HL1.out) _).mono ?_; rintro e w3 ⟨rfl, os3, n3, rfl⟩; rw [HS.out]; have hbz : w.heap.size < V.heap.size + cnt (both osq os3) := (by omega));  all_goals ((go_ret; refine ⟨ret_bool ?_, HW.out.trans (by repeat (first | with_reducible exact Ext.refl _ | with_reducible assumption | with_reducible refine Ext.alloc ?_ _ | with_reducible refine Ext.gr ?_ _ | with_reducible refine Ext.drewN ?_ _ | with_reducible refine Ext.drew ?_ | with_reducible refine Ext.setCell ?_ ?_ _ | with_reducible refine Ext.more ?_ _ _ | (show _ ≤ _; dsimp only; omega)))⟩; rw [HM.out]); rw [Bool.eq_iff_iff]; have hat := HAT.out; (try have z0' := Z0.out); (try have z2' := Z2.out); clear HM HW HKW HAT; simp; omega))
                      · ((refine wp_region_ext_lit (by kernel_rfl) (by kernel_rfl) ?_); (repeat (go_big_quiet_step ((go_at_call 54; exact quiet_ext ((longR_any f HF.out _).mono fun e w' ⟨he, hx⟩ => ⟨by rw [he, HLL.out], hx⟩))))); (refine wpQuiet_nil ?_; intro _ hw'; obtain ⟨⟨osq, nq⟩, hw''⟩ := hw'; replace hw'' : _ = grew _ osq nq := hw''; subst hw''))
                        (go_wp2_with (go_at_call 27; refine (brStepR_any f HF.out HPC.out H2.out (fun _ => HL1.out) _).mono ?_; rintro e w3 ⟨rfl, os3, n3, rfl⟩; rw [HS.out]; have hbz : w.heap.size < V.heap.size + cnt (both osq os3) := (by omega));  all_goals ((go_ret; refine ⟨ret_bool ?_, HW.out.trans (by repeat (first | with_reducible exact Ext.refl _ | with_reducible assumption | with_reducible refine Ext.alloc ?_ _ | with_reducible refine Ext.gr ?_ _ | with_reducible refine Ext.drewN ?_ _ | with_reducible refine Ext.drew ?_ | with_reducible refine Ext.setCell ?_ ?_ _ | with_reducible refine Ext.more ?_ _ _ | (show _ ≤ _; dsimp only; omega)))⟩; rw [HM.out]); rw [Bool.eq_iff_iff]; have hat := HAT.out; (try have z0' := Z0.out); (try have z2' := Z2.out); clear HM HW HKW HAT; simp; omega))
                    · have Z0 : Hid (f.pc = 0) := Lib.hid (by simpa using z0)
                      cases zn : decide (f.i < f.n)
                      · have zn' : ¬ f.i < f.n := by simpa using zn
                        ((refine wp_region_ext_lit (by kernel_rfl) (by kernel_rfl) ?_); (repeat (go_big_quiet_step ((go_at_call 54; exact quiet_ext ((longR_any f HF.out _).mono fun e w' ⟨he, hx⟩ => ⟨by rw [he, HLL.out], hx⟩))))); (refine wpQuiet_nil ?_; intro _ hw'; obtain ⟨⟨osq, nq⟩, hw''⟩ := hw'; replace hw'' : _ = grew _ osq nq := hw''; subst hw''))
                        (go_wp2_with (go_at_call 27; refine (brStepR_any f HF.out HPC.out H2.out (fun _ => HL1.out) _).mono ?_; rintro e w3 ⟨rfl, os3, n3, rfl⟩; rw [HS.out]; have hbz : w.heap.size < V.heap.size + cnt (both osq os3) := (by omega));  all_goals ((go_ret; refine ⟨ret_bool ?_, HW.out.trans (by repeat (first | with_reducible exact Ext.refl _ | with_reducible assumption | with_reducible refine Ext.alloc ?_ _ | with_reducible refine Ext.gr ?_ _ | with_reducible refine Ext.drewN ?_ _ | with_reducible refine Ext.drew ?_ | with_reducible refine Ext.setCell ?_ ?_ _ | with_reducible refine Ext.more ?_ _ _ | (show _ ≤ _; dsimp only; omega)))⟩; rw [HM.out]); rw [Bool.eq_iff_iff]; have hat := HAT.out; (try have z0' := Z0.out); (try have z2' := Z2.out); clear HM HW HKW HAT; simp; omega))
                      · have zn' : f.i < f.n := by simpa using zn
                        ((refine wp_region_ext_lit (by kernel_rfl) (by kernel_rfl) ?_); (repeat (go_big_quiet_step ((go_at_call 54; exact quiet_ext ((longR_any f HF.out _).mono fun e w' ⟨he, hx⟩ => ⟨by rw [he, HLL.out], hx⟩))))); (refine wpQuiet_nil ?_; intro _ hw'; obtain ⟨⟨osq, nq⟩, hw''⟩ := hw'; replace hw'' : _ = grew _ osq nq := hw''; subst hw''))
                        (go_wp2; (go_ret; refine ⟨ret_bool ?_, HW.out.trans (by repeat (first | with_reducible exact Ext.refl _ | with_reducible assumption | with_reducible refine Ext.alloc ?_ _ | with_reducible refine Ext.gr ?_ _ | with_reducible refine Ext.drewN ?_ _ | with_reducible refine Ext.drew ?_ | with_reducible refine Ext.setCell ?_ ?_ _ | with_reducible refine Ext.more ?_ _ _ | (show _ ≤ _; dsimp only; omega)))⟩; rw [HM.out]); (try have z0' := Z0.out); (try have z2' := Z2.out); clear HM HW HKW; simp; omega)
                  · have zh' : L ≤ f.h := by simpa using zh
                    cases z0 : (f.pc == 0)
                    · have z0' : ¬ f.pc = 0 := by simpa using z0
                      cases z2 : (f.pc == 2)
                      · have z2' : ¬ f.pc = 2 := by simpa using z2
                        have H2 : Hid (f.pc = 2 → f.h < brLong f) := Lib.hid fun h => by rw [h] at z2; cases z2
                        ((refine wp_region_ext_lit (by kernel_rfl) (by kernel_rfl) ?_); (repeat (go_big_quiet_step ((go_at_call 54; exact quiet_ext ((longR_any f HF.out _).mono fun e w' ⟨he, hx⟩ => ⟨by rw [he, HLL.out], hx⟩))))); (refine wpQuiet_nil ?_; intro _ hw'; obtain ⟨⟨osq, nq⟩, hw''⟩ := hw'; replace hw'' : _ = grew _ osq nq := hw''; subst hw''))
                        (go_wp2_with (go_at_call 27; refine (brStepR_any f HF.out HPC.out H2.out (fun _ => HL1.out) _).mono ?_; rintro e w3 ⟨rfl, os3, n3, rfl⟩; rw [HS.out]; have hbz : w.heap.size < V.heap.size + cnt (both osq os3) := (by omega));  all_goals ((go_ret; refine ⟨ret_bool ?_, HW.out.trans (by repeat (first | with_reducible exact Ext.refl _ | with_reducible assumption | with_reducible refine Ext.alloc ?_ _ | with_reducible refine Ext.gr ?_ _ | with_reducible refine Ext.drewN ?_ _ | with_reducible refine Ext.drew ?_ | with_reducible refine Ext.setCell ?_ ?_ _ | with_reducible refine Ext.more ?_ _ _ | (show _ ≤ _; dsimp only; omega)))⟩; rw [HM.out]); rw [Bool.eq_iff_iff]; have hat := HAT.out; (try have z0' := Z0.out); (try have z2' := Z2.out); clear HM HW HKW HAT; simp; omega))
                      · have Z2 : Hid (f.pc = 2) := Lib.hid (by simpa using z2)
                        ((refine wp_region_ext_lit (by kernel_rfl) (by kernel_rfl) ?_); (repeat (go_big_quiet_step ((go_at_call 54; exact quiet_ext ((longR_any f HF.out _).mono fun e w' ⟨he, hx⟩ => ⟨by rw [he, HLL.out], hx⟩))))); (refine wpQuiet_nil ?_; intro _ hw'; obtain ⟨⟨osq, nq⟩, hw''⟩ := hw'; replace hw'' : _ = grew _ osq nq := hw''; subst hw''))
                        (go_wp2; (go_ret; refine ⟨ret_bool ?_, HW.out.trans (by repeat (first | with_reducible exact Ext.refl _ | with_reducible assumption | with_reducible refine Ext.alloc ?_ _ | with_reducible refine Ext.gr ?_ _ | with_reducible refine Ext.drewN ?_ _ | with_reducible refine Ext.drew ?_ | with_reducible refine Ext.setCell ?_ ?_ _ | with_reducible refine Ext.more ?_ _ _ | (show _ ≤ _; dsimp only; omega)))⟩; rw [HM.out]); (try have z0' := Z0.out); (try have z2' := Z2.out); clear HM HW HKW; simp; omega)
                    · have Z0 : Hid (f.pc = 0) := Lib.hid (by simpa using z0)
                      ((refine wp_region_ext_lit (by kernel_rfl) (by kernel_rfl) ?_); (repeat (go_big_quiet_step ((go_at_call 54; exact quiet_ext ((longR_any f HF.out _).mono fun e w' ⟨he, hx⟩ => ⟨by rw [he, HLL.out], hx⟩))))); (refine wpQuiet_nil ?_; intro _ hw'; obtain ⟨⟨osq, nq⟩, hw''⟩ := hw'; replace hw'' : _ = grew _ osq nq := hw''; subst hw''))
                      (go_wp2; (go_ret; refine ⟨ret_bool ?_, HW.out.trans (by repeat (first | with_reducible exact Ext.refl _ | with_reducible assumption | with_reducible refine Ext.alloc ?_ _ | with_reducible refine Ext.gr ?_ _ | with_reducible refine Ext.drewN ?_ _ | with_reducible refine Ext.drew ?_ | with_reducible refine Ext.setCell ?_ ?_ _ | with_reducible refine Ext.more ?_ _ _ | (show _ ≤ _; dsimp only; omega)))⟩; rw [HM.out]); (try have z0' := Z0.out); (try have z2' := Z2.out); clear HM HW HKW; simp; omega)
                · have hh : L < f.h := by simpa using g5
                  ((refine wp_region_ext_lit (by kernel_rfl) (by kernel_rfl) ?_); (repeat (go_big_quiet_step ((go_at_call 54; exact quiet_ext ((longR_any f HF.out _).mono fun e w' ⟨he, hx⟩ => ⟨by rw [he, HLL.out], hx⟩))))); (refine wpQuiet_nil ?_; intro _ hw'; obtain ⟨⟨osq, nq⟩, hw''⟩ := hw'; replace hw'' : _ = grew _ osq nq := hw''; subst hw''))
                  (go_wp2; (go_ret; refine ⟨ret_bool ?_, HW.out.trans (by repeat (first | with_reducible exact Ext.refl _ | with_reducible assumption | with_reducible refine Ext.alloc ?_ _ | with_reducible refine Ext.gr ?_ _ | with_reducible refine Ext.drewN ?_ _ | with_reducible refine Ext.drew ?_ | with_reducible refine Ext.setCell ?_ ?_ _ | with_reducible refine Ext.more ?_ _ _ | (show _ ≤ _; dsimp only; omega)))⟩; rw [HM.out]); (try have z0' := Z0.out); (try have z2' := Z2.out); clear HM HW HKW; simp; omega)
              · have hh : c.cap < f.p := by simpa using g4
                ((refine wp_region_ext_lit (by kernel_rfl) (by kernel_rfl) ?_); (repeat (go_big_quiet_step ((go_at_call 54; exact quiet_ext ((longR_any f HF.out _).mono fun e w' ⟨he, hx⟩ => ⟨by rw [he, HLL.out], hx⟩))))); (refine wpQuiet_nil ?_; intro _ hw'; obtain ⟨⟨osq, nq⟩, hw''⟩ := hw'; replace hw'' : _ = grew _ osq nq := hw''; subst hw''))
                (go_wp2; (go_ret; refine ⟨ret_bool ?_, HW.out.trans (by repeat (first | with_reducible exact Ext.refl _ | with_reducible assumption | with_reducible refine Ext.alloc ?_ _ | with_reducible refine Ext.gr ?_ _ | with_reducible refine Ext.drewN ?_ _ | with_reducible refine Ext.drew ?_ | with_reducible refine Ext.setCell ?_ ?_ _ | with_reducible refine Ext.more ?_ _ _ | (show _ ≤ _; dsimp only; omega)))⟩; rw [HM.out]); (try have z0' := Z0.out); (try have z2' := Z2.out); clear HM HW HKW; simp; omega)
            · have hh : c.cap < f.n := by simpa using g3
              ((refine wp_region_ext_lit (by kernel_rfl) (by kernel_rfl) ?_); (repeat (go_big_quiet_step ((go_at_call 54; exact quiet_ext ((longR_any f HF.out _).mono fun e w' ⟨he, hx⟩ => ⟨by rw [he, HLL.out], hx⟩))))); (refine wpQuiet_nil ?_; intro _ hw'; obtain ⟨⟨osq, nq⟩, hw''⟩ := hw'; replace hw'' : _ = grew _ osq nq := hw''; subst hw''))
              (go_wp2; (go_ret; refine ⟨ret_bool ?_, HW.out.trans (by repeat (first | with_reducible exact Ext.refl _ | with_reducible assumption | with_reducible refine Ext.alloc ?_ _ | with_reducible refine Ext.gr ?_ _ | with_reducible refine Ext.drewN ?_ _ | with_reducible refine Ext.drew ?_ | with_reducible refine Ext.setCell ?_ ?_ _ | with_reducible refine Ext.more ?_ _ _ | (show _ ≤ _; dsimp only; omega)))⟩; rw [HM.out]); (try have z0' := Z0.out); (try have z2' := Z2.out); clear HM HW HKW; simp; omega)
          · have hh : c.cap < f.j := by simpa using g2
            ((refine wp_region_ext_lit (by kernel_rfl) (by kernel_rfl) ?_); (repeat (go_big_quiet_step ((go_at_call 54; exact quiet_ext ((longR_any f HF.out _).mono fun e w' ⟨he, hx⟩ => ⟨by rw [he, HLL.out], hx⟩))))); (refine wpQuiet_nil ?_; intro _ hw'; obtain ⟨⟨osq, nq⟩, hw''⟩ := hw'; replace hw'' : _ = grew _ osq nq := hw''; subst hw''))
            (go_wp2; (go_ret; refine ⟨ret_bool ?_, HW.out.trans (by repeat (first | with_reducible exact Ext.refl _ | with_reducible assumption | with_reducible refine Ext.alloc ?_ _ | with_reducible refine Ext.gr ?_ _ | with_reducible refine Ext.drewN ?_ _ | with_reducible refine Ext.drew ?_ | with_reducible refine Ext.setCell ?_ ?_ _ | with_reducible refine Ext.more ?_ _ _ | (show _ ≤ _; dsimp only; omega)))⟩; rw [HM.out]); (try have z0' := Z0.out); (try have z2' := Z2.out); clear HM HW HKW; simp; omega)
        · have hh : c.cap < f.i := by simpa using g1
          ((refine wp_region_ext_lit (by kernel_rfl) (by kernel_rfl) ?_); (repeat (go_big_quiet_step ((go_at_call 54; exact quiet_ext ((longR_any f HF.out _).mono fun e w' ⟨he, hx⟩ => ⟨by rw [he, HLL.out], hx⟩))))); (refine wpQuiet_nil ?_; intro _ hw'; obtain ⟨⟨osq, nq⟩, hw''⟩ := hw'; replace hw'' : _ = grew _ osq nq := hw''; subst hw''))
          (go_wp2; (go_ret; refine ⟨ret_bool ?_, HW.out.trans (by repeat (first | with_reducible exact Ext.refl _ | with_reducible assumption | with_reducible refine Ext.alloc ?_ _ | with_reducible refine Ext.gr ?_ _ | with_reducible refine Ext.drewN ?_ _ | with_reducible refine Ext.drew ?_ | with_reducible refine Ext.setCell ?_ ?_ _ | with_reducible refine Ext.more ?_ _ _ | (show _ ≤ _; dsimp only; omega)))⟩; rw [HM.out]); (try have z0' := Z0.out); (try have z2' := Z2.out); clear HM HW HKW; simp; omega)

set_option maxRecDepth 100000 in
set_option maxHeartbeats 4000000 in
theorem brNextR_any (c : Cfg) (f : Frm) (hf : f.Fits) (w : World) : Calls Tryd.prog 10 #[c.v, f.v] w
    fun e w' => e = .returned (.tuple #[(brNextA c f).v, .int .i64 (brErr c f)]) ∧ Ext w w' := by
  have HF := Lib.hid hf
  clear hf
  cases hp : partOk c
  · have HG := Lib.hid (brErr_conf (f := f) hp)
    have HN : Hid (brNextA c f = zeroAct) := Lib.hid (by simp [brNextA, HG.out])
    have HC := Lib.hid hp
    clear hp
    go_enter Tryd.func10, Tryd.ntmps10
    go_wp2_with (go_at_call 25; refine (mayBe_any c _).mono ?_; rintro e w1 ⟨rfl, os1, n1, rfl⟩; rw [HC.out])
    (refine bodyPost_ret (v := .tuple #[(zeroAct).v, .int .i64 40]) (by simp [results, Tryd.results10, go_sem]) rfl ?_)
    exact ⟨by rw [HN.out, HG.out], (by repeat (first | with_reducible exact Ext.refl _ | with_reducible assumption | with_reducible refine Ext.alloc ?_ _ | with_reducible refine Ext.gr ?_ _ | with_reducible refine Ext.drewN ?_ _ | with_reducible refine Ext.drew ?_ | with_reducible refine Ext.setCell ?_ ?_ _ | with_reducible refine Ext.more ?_ _ _ | (show _ ≤ _; dsimp only; omega)))⟩
  · have HC := Lib.hid hp
    cases h2 : (c.object == 4)
    · have HG := Lib.hid (brErr_obj (f := f) h2)
      have HN : Hid (brNextA c f = zeroAct) := Lib.hid (by simp [brNextA, HG.out])
      clear hp
      go_enter Tryd.func10, Tryd.ntmps10
      go_wp2_with (go_at_call 25; refine (mayBe_any c _).mono ?_; rintro e w1 ⟨rfl, os1, n1, rfl⟩; rw [HC.out])
      (refine bodyPost_ret (v := .tuple #[(zeroAct).v, .int .i64 40]) (by simp [results, Tryd.results10, go_sem]) rfl ?_)
      exact ⟨by rw [HN.out, HG.out], (by repeat (first | with_reducible exact Ext.refl _ | with_reducible assumption | with_reducible refine Ext.alloc ?_ _ | with_reducible refine Ext.gr ?_ _ | with_reducible refine Ext.drewN ?_ _ | with_reducible refine Ext.drew ?_ | with_reducible refine Ext.setCell ?_ ?_ _ | with_reducible refine Ext.more ?_ _ _ | (show _ ≤ _; dsimp only; omega)))⟩
    · have HOB : Hid (c.object = 4) := Lib.hid (by simpa using h2)
      cases h3 : brMay c f
      · have HG := Lib.hid (brErr_arg hp h2 h3)
        have HN : Hid (brNextA c f = zeroAct) := Lib.hid (by simp [brNextA, HG.out])
        have HM := Lib.hid h3
        clear hp h3
        go_enter Tryd.func10, Tryd.ntmps10
        go_wp2_with (first | (go_at_call 25; refine (mayBe_any c _).mono ?_; rintro e w1 ⟨rfl, os1, n1, rfl⟩; rw [HC.out]) | (go_at_call 26; refine (brMayR_any c f HF.out HOB.out _).mono ?_; rintro e w2 ⟨rfl, os2, n2, rfl⟩; rw [HM.out]))
        (refine bodyPost_ret (v := .tuple #[(zeroAct).v, .int .i64 2]) (by simp [results, Tryd.results10, go_sem]) rfl ?_)
        exact ⟨by rw [HN.out, HG.out], (by repeat (first | with_reducible exact Ext.refl _ | with_reducible assumption | with_reducible refine Ext.alloc ?_ _ | with_reducible refine Ext.gr ?_ _ | with_reducible refine Ext.drewN ?_ _ | with_reducible refine Ext.drew ?_ | with_reducible refine Ext.setCell ?_ ?_ _ | with_reducible refine Ext.more ?_ _ _ | (show _ ≤ _; dsimp only; omega)))⟩
      · have HG := Lib.hid (brErr_yes hp h2 h3)
        have HN : Hid (brNextA c f = brStep f) := Lib.hid (by simp [brNextA, HG.out])
        have HM := Lib.hid h3
        obtain ⟨m1, m2, m3, m4, m5, m6, m7, m8, m9, m10, m11⟩ := brMay_facts h3
        have HP := Lib.hid (brHas_pc m2)
        have H2 : Hid (f.pc = 2 → f.h < brLong f) := Lib.hid fun h => m8 (Or.inr h)
        have H4 : Hid (f.pc = 4 → 1 ≤ brLong f) := Lib.hid fun _ => (brMany_pos HOB.out m1).2
        clear hp h3 m1 m2 m3 m4 m5 m6 m7 m8 m9 m10 m11
        go_enter Tryd.func10, Tryd.ntmps10
        go_wp2_with (first | (go_at_call 25; refine (mayBe_any c _).mono ?_; rintro e w1 ⟨rfl, os1, n1, rfl⟩; rw [HC.out]) | (go_at_call 26; refine (brMayR_any c f HF.out HOB.out _).mono ?_; rintro e w2 ⟨rfl, os2, n2, rfl⟩; rw [HM.out]) | (go_at_call 27; refine (brStepR_any f HF.out HP.out H2.out H4.out _).mono ?_; rintro e w3 ⟨rfl, os3, n3, rfl⟩))
        (refine bodyPost_ret (v := .tuple #[(brStep f).v, .int .i64 0]) (by simp [results, Tryd.results10, go_sem]) rfl ?_)
        exact ⟨by rw [HN.out, HG.out], (by repeat (first | with_reducible exact Ext.refl _ | with_reducible assumption | with_reducible refine Ext.alloc ?_ _ | with_reducible refine Ext.gr ?_ _ | with_reducible refine Ext.drewN ?_ _ | with_reducible refine Ext.drew ?_ | with_reducible refine Ext.setCell ?_ ?_ _ | with_reducible refine Ext.more ?_ _ _ | (show _ ≤ _; dsimp only; omega)))⟩
end Go.Proofs.YtmbodooikfmegaaDoor
