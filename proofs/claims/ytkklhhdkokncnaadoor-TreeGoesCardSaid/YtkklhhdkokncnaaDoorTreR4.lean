/- The walks of the reference of the layer 'tree': the numbers. -/
import Derived.Test.YtkklhhdkokncnaaDoorTreR3
namespace Go.Proofs.YtkklhhdkokncnaaDoor
open Go Go.RowKit

set_option maxRecDepth 100000 in
set_option maxHeartbeats 8000000 in
theorem numbersR_any (c : Cfg) (f : Frm) (hok : TreOk c) (hf : f.Fits) (w : World) : Calls Tryd.prog 65 #[c.v, f.v] w
    fun e w' => e = .returned (.bool (treNum c f)) ∧ Ext w w' := by
  have htop := topI_bd c.cap c.node
  change 0 ≤ treTop c ∧ treTop c ≤ 4 at htop
  have hcap := hok.cap
  have hchunk := hok.chunk
  obtain ⟨T, hT⟩ : ∃ T, treTop c = T := ⟨_, rfl⟩
  obtain ⟨U, hU⟩ : ∃ U, treUp c f.n f.h = U := ⟨_, rfl⟩
  rw [hT] at htop
  have HTOP := Lib.hid hT
  have HU := Lib.hid hU
  obtain ⟨⟨k0, k1⟩, _, _, ⟨p0, p1⟩, ⟨i0, i1⟩, ⟨j0, j1⟩, ⟨n0, n1⟩, ⟨q0, q1⟩, ⟨h0, h1⟩, _, _⟩ := hf
  have hwi : IntKind.i64.wrap f.i = f.i := by rw [IntKind.wrap_i64]; omega
  have hwn : IntKind.i64.wrap f.n = f.n := by rw [IntKind.wrap_i64]; omega
  have hwp : IntKind.i64.wrap f.p = f.p := by rw [IntKind.wrap_i64]; omega
  have hwj : IntKind.i64.wrap f.j = f.j := by rw [IntKind.wrap_i64]; omega
  have hwh : IntKind.i64.wrap f.h = f.h := by rw [IntKind.wrap_i64]; omega
  clear hT hU
  go_enter Tryd.func65, Tryd.ntmps65
  go_upto_region 1 with fail
  cases mn : decide (c.cap < f.n)
  · cases mp : decide (c.cap < f.p)
    · cases mj : decide (c.chunk < f.j)
      · cases mh : decide (T < f.h)
        · cases z16 : (f.pc == 16)
          · have z16' : (f.pc != 16) = true := by simpa using z16
            cases jc : (f.j == c.chunk)
            · have G5 : Hid (f.pc = 16 ∨ f.j ≠ c.chunk) := Lib.hid (Or.inr (by simpa using jc))
              ((refine wp_region_ext_lit (by kernel_rfl) (by kernel_rfl) ?_); (try dsimp only [List.append]); (repeat (go_big_quiet_step ((go_at_call 20; exact quiet_ext ((topR13_any c hok _).mono fun e w' ⟨he, hx⟩ => ⟨by rw [he, HTOP.out], hx⟩))))); (refine wpQuiet_nil ?_; intro _ hw'; obtain ⟨⟨osq, nq⟩, hw''⟩ := hw'; replace hw'' : _ = grew _ osq nq := hw''; subst hw''))
              have g1 : f.n ≤ c.cap := by simpa using mn
              have g2 : f.p ≤ c.cap := by simpa using mp
              have g3 : f.j ≤ c.chunk := by simpa using mj
              have g4 : f.h ≤ T := by simpa using mh
              cases z6 : (f.pc == 6)
              · cases z9 : (f.pc == 9)
                · cases z11 : (f.pc == 11)
                  · cases z12 : (f.pc == 12)
                    · have HN := Lib.hid (treNum_of g1 g2 g3 (by rw [HTOP.out]; exact g4) G5.out (fun e => by simp [e] at z6) (fun e => by rcases e with e | e <;> simp [e] at z9 z11) (fun e => by simp [e] at z12))
                      go_wp2
                      (go_ret; refine ⟨ret_bool ?_, (by first | ((repeat (first | with_reducible exact Ext.refl _ | with_reducible assumption | with_reducible refine Ext.alloc ?_ _ | with_reducible refine Ext.gr ?_ _ | with_reducible refine Ext.drewN ?_ _ | with_reducible refine Ext.drew ?_ | with_reducible refine Ext.setCell ?_ ?_ _ | with_reducible refine Ext.more ?_ _ _ | (show _ ≤ _; dsimp only; omega))); done) | ((repeat (first | with_reducible exact Ext.refl _ | with_reducible assumption | with_reducible apply Ext.bothR | with_reducible refine Ext.alloc ?_ _ | with_reducible refine Ext.gr ?_ _ | with_reducible refine Ext.drewN ?_ _ | with_reducible refine Ext.drew ?_ | with_reducible refine Ext.setCell ?_ ?_ _ | with_reducible refine Ext.more ?_ _ _ | (show _ ≤ _; dsimp only; omega))); done))⟩)
                      rw [HN.out]
                    · cases mi : decide (1 ≤ f.h)
                      · have HN := Lib.hid (treNum_no (c := c) (f := f) (Or.inr (Or.inr (Or.inr (Or.inr (Or.inr (Or.inr (Or.inr ⟨by simpa using z12, by simp at mi; omega⟩))))))))
                        go_wp2
                        (go_ret; refine ⟨ret_bool ?_, (by first | ((repeat (first | with_reducible exact Ext.refl _ | with_reducible assumption | with_reducible refine Ext.alloc ?_ _ | with_reducible refine Ext.gr ?_ _ | with_reducible refine Ext.drewN ?_ _ | with_reducible refine Ext.drew ?_ | with_reducible refine Ext.setCell ?_ ?_ _ | with_reducible refine Ext.more ?_ _ _ | (show _ ≤ _; dsimp only; omega))); done) | ((repeat (first | with_reducible exact Ext.refl _ | with_reducible assumption | with_reducible apply Ext.bothR | with_reducible refine Ext.alloc ?_ _ | with_reducible refine Ext.gr ?_ _ | with_reducible refine Ext.drewN ?_ _ | with_reducible refine Ext.drew ?_ | with_reducible refine Ext.setCell ?_ ?_ _ | with_reducible refine Ext.more ?_ _ _ | (show _ ≤ _; dsimp only; omega))); done))⟩)
                        rw [HN.out, ← mi]
                      · have HN := Lib.hid (treNum_of g1 g2 g3 (by rw [HTOP.out]; exact g4) G5.out (fun e => by simp [e] at z6) (fun e => by rcases e with e | e <;> simp [e] at z9 z11) (fun e => by simpa using mi))
                        go_wp2
                        (go_ret; refine ⟨ret_bool ?_, (by first | ((repeat (first | with_reducible exact Ext.refl _ | with_reducible assumption | with_reducible refine Ext.alloc ?_ _ | with_reducible refine Ext.gr ?_ _ | with_reducible refine Ext.drewN ?_ _ | with_reducible refine Ext.drew ?_ | with_reducible refine Ext.setCell ?_ ?_ _ | with_reducible refine Ext.more ?_ _ _ | (show _ ≤ _; dsimp only; omega))); done) | ((repeat (first | with_reducible exact Ext.refl _ | with_reducible assumption | with_reducible apply Ext.bothR | with_reducible refine Ext.alloc ?_ _ | with_reducible refine Ext.gr ?_ _ | with_reducible refine Ext.drewN ?_ _ | with_reducible refine Ext.drew ?_ | with_reducible refine Ext.setCell ?_ ?_ _ | with_reducible refine Ext.more ?_ _ _ | (show _ ≤ _; dsimp only; omega))); done))⟩)
                        rw [HN.out, ← mi]
                  · cases mi : decide (1 ≤ f.h)
                    · have HN := Lib.hid (treNum_no (c := c) (f := f) (Or.inr (Or.inr (Or.inr (Or.inr (Or.inr (Or.inr (Or.inl ⟨Or.inr (by simpa using z11), Or.inl (by simp at mi; omega)⟩))))))))
                      go_upto_region 8 with fail
                      ((refine wp_region_ext_lit (by kernel_rfl) (by kernel_rfl) ?_); (repeat (go_big_quiet_step ((go_at_call 66; exact quiet_ext ((upR_any c hok f.n f.h (by omega) (by omega) _).mono fun e w' ⟨he, hx⟩ => ⟨by rw [he, HU.out], hx⟩))))); (refine wpQuiet_nil ?_; intro _ hw'; obtain ⟨⟨osq, nq⟩, hw''⟩ := hw'; replace hw'' : _ = grew _ osq nq := hw''; subst hw''))
                      go_wp2
                      (go_ret; refine ⟨ret_bool ?_, (by first | ((repeat (first | with_reducible exact Ext.refl _ | with_reducible assumption | with_reducible refine Ext.alloc ?_ _ | with_reducible refine Ext.gr ?_ _ | with_reducible refine Ext.drewN ?_ _ | with_reducible refine Ext.drew ?_ | with_reducible refine Ext.setCell ?_ ?_ _ | with_reducible refine Ext.more ?_ _ _ | (show _ ≤ _; dsimp only; omega))); done) | ((repeat (first | with_reducible exact Ext.refl _ | with_reducible assumption | with_reducible apply Ext.bothR | with_reducible refine Ext.alloc ?_ _ | with_reducible refine Ext.gr ?_ _ | with_reducible refine Ext.drewN ?_ _ | with_reducible refine Ext.drew ?_ | with_reducible refine Ext.setCell ?_ ?_ _ | with_reducible refine Ext.more ?_ _ _ | (show _ ≤ _; dsimp only; omega))); done))⟩)
                      rw [HN.out]
                    · cases mu : decide (f.i < U)
                      · have HN := Lib.hid (treNum_no (c := c) (f := f) (Or.inr (Or.inr (Or.inr (Or.inr (Or.inr (Or.inr (Or.inl ⟨Or.inr (by simpa using z11), Or.inr (by rw [HU.out]; simp at mu; omega)⟩))))))))
                        go_upto_region 8 with fail
                        ((refine wp_region_ext_lit (by kernel_rfl) (by kernel_rfl) ?_); (repeat (go_big_quiet_step ((go_at_call 66; exact quiet_ext ((upR_any c hok f.n f.h (by omega) (by omega) _).mono fun e w' ⟨he, hx⟩ => ⟨by rw [he, HU.out], hx⟩))))); (refine wpQuiet_nil ?_; intro _ hw'; obtain ⟨⟨osq, nq⟩, hw''⟩ := hw'; replace hw'' : _ = grew _ osq nq := hw''; subst hw''))
                        go_wp2
                        (go_ret; refine ⟨ret_bool ?_, (by first | ((repeat (first | with_reducible exact Ext.refl _ | with_reducible assumption | with_reducible refine Ext.alloc ?_ _ | with_reducible refine Ext.gr ?_ _ | with_reducible refine Ext.drewN ?_ _ | with_reducible refine Ext.drew ?_ | with_reducible refine Ext.setCell ?_ ?_ _ | with_reducible refine Ext.more ?_ _ _ | (show _ ≤ _; dsimp only; omega))); done) | ((repeat (first | with_reducible exact Ext.refl _ | with_reducible assumption | with_reducible apply Ext.bothR | with_reducible refine Ext.alloc ?_ _ | with_reducible refine Ext.gr ?_ _ | with_reducible refine Ext.drewN ?_ _ | with_reducible refine Ext.drew ?_ | with_reducible refine Ext.setCell ?_ ?_ _ | with_reducible refine Ext.more ?_ _ _ | (show _ ≤ _; dsimp only; omega))); done))⟩)
                        rw [HN.out]
                      · have HN := Lib.hid (treNum_of g1 g2 g3 (by rw [HTOP.out]; exact g4) G5.out (fun e => by simp [e] at z6) (fun _ => ⟨by simpa using mi, by rw [HU.out]; simpa using mu⟩) (fun e => by simp [e] at z9; try simp [e] at z11))
                        go_upto_region 8 with fail
                        ((refine wp_region_ext_lit (by kernel_rfl) (by kernel_rfl) ?_); (repeat (go_big_quiet_step ((go_at_call 66; exact quiet_ext ((upR_any c hok f.n f.h (by omega) (by omega) _).mono fun e w' ⟨he, hx⟩ => ⟨by rw [he, HU.out], hx⟩))))); (refine wpQuiet_nil ?_; intro _ hw'; obtain ⟨⟨osq, nq⟩, hw''⟩ := hw'; replace hw'' : _ = grew _ osq nq := hw''; subst hw''))
                        go_wp2
                        (go_ret; refine ⟨ret_bool ?_, (by first | ((repeat (first | with_reducible exact Ext.refl _ | with_reducible assumption | with_reducible refine Ext.alloc ?_ _ | with_reducible refine Ext.gr ?_ _ | with_reducible refine Ext.drewN ?_ _ | with_reducible refine Ext.drew ?_ | with_reducible refine Ext.setCell ?_ ?_ _ | with_reducible refine Ext.more ?_ _ _ | (show _ ≤ _; dsimp only; omega))); done) | ((repeat (first | with_reducible exact Ext.refl _ | with_reducible assumption | with_reducible apply Ext.bothR | with_reducible refine Ext.alloc ?_ _ | with_reducible refine Ext.gr ?_ _ | with_reducible refine Ext.drewN ?_ _ | with_reducible refine Ext.drew ?_ | with_reducible refine Ext.setCell ?_ ?_ _ | with_reducible refine Ext.more ?_ _ _ | (show _ ≤ _; dsimp only; omega))); done))⟩)
                        rw [HN.out]
                · cases mi : decide (1 ≤ f.h)
                  · have HN := Lib.hid (treNum_no (c := c) (f := f) (Or.inr (Or.inr (Or.inr (Or.inr (Or.inr (Or.inr (Or.inl ⟨Or.inl (by simpa using z9), Or.inl (by simp at mi; omega)⟩))))))))
                    go_upto_region 8 with fail
                    ((refine wp_region_ext_lit (by kernel_rfl) (by kernel_rfl) ?_); (repeat (go_big_quiet_step ((go_at_call 66; exact quiet_ext ((upR_any c hok f.n f.h (by omega) (by omega) _).mono fun e w' ⟨he, hx⟩ => ⟨by rw [he, HU.out], hx⟩))))); (refine wpQuiet_nil ?_; intro _ hw'; obtain ⟨⟨osq, nq⟩, hw''⟩ := hw'; replace hw'' : _ = grew _ osq nq := hw''; subst hw''))
                    go_wp2
                    (go_ret; refine ⟨ret_bool ?_, (by first | ((repeat (first | with_reducible exact Ext.refl _ | with_reducible assumption | with_reducible refine Ext.alloc ?_ _ | with_reducible refine Ext.gr ?_ _ | with_reducible refine Ext.drewN ?_ _ | with_reducible refine Ext.drew ?_ | with_reducible refine Ext.setCell ?_ ?_ _ | with_reducible refine Ext.more ?_ _ _ | (show _ ≤ _; dsimp only; omega))); done) | ((repeat (first | with_reducible exact Ext.refl _ | with_reducible assumption | with_reducible apply Ext.bothR | with_reducible refine Ext.alloc ?_ _ | with_reducible refine Ext.gr ?_ _ | with_reducible refine Ext.drewN ?_ _ | with_reducible refine Ext.drew ?_ | with_reducible refine Ext.setCell ?_ ?_ _ | with_reducible refine Ext.more ?_ _ _ | (show _ ≤ _; dsimp only; omega))); done))⟩)
                    rw [HN.out]
                  · cases mu : decide (f.i < U)
                    · have HN := Lib.hid (treNum_no (c := c) (f := f) (Or.inr (Or.inr (Or.inr (Or.inr (Or.inr (Or.inr (Or.inl ⟨Or.inl (by simpa using z9), Or.inr (by rw [HU.out]; simp at mu; omega)⟩))))))))
                      go_upto_region 8 with fail
                      ((refine wp_region_ext_lit (by kernel_rfl) (by kernel_rfl) ?_); (repeat (go_big_quiet_step ((go_at_call 66; exact quiet_ext ((upR_any c hok f.n f.h (by omega) (by omega) _).mono fun e w' ⟨he, hx⟩ => ⟨by rw [he, HU.out], hx⟩))))); (refine wpQuiet_nil ?_; intro _ hw'; obtain ⟨⟨osq, nq⟩, hw''⟩ := hw'; replace hw'' : _ = grew _ osq nq := hw''; subst hw''))
                      go_wp2
                      (go_ret; refine ⟨ret_bool ?_, (by first | ((repeat (first | with_reducible exact Ext.refl _ | with_reducible assumption | with_reducible refine Ext.alloc ?_ _ | with_reducible refine Ext.gr ?_ _ | with_reducible refine Ext.drewN ?_ _ | with_reducible refine Ext.drew ?_ | with_reducible refine Ext.setCell ?_ ?_ _ | with_reducible refine Ext.more ?_ _ _ | (show _ ≤ _; dsimp only; omega))); done) | ((repeat (first | with_reducible exact Ext.refl _ | with_reducible assumption | with_reducible apply Ext.bothR | with_reducible refine Ext.alloc ?_ _ | with_reducible refine Ext.gr ?_ _ | with_reducible refine Ext.drewN ?_ _ | with_reducible refine Ext.drew ?_ | with_reducible refine Ext.setCell ?_ ?_ _ | with_reducible refine Ext.more ?_ _ _ | (show _ ≤ _; dsimp only; omega))); done))⟩)
                      rw [HN.out]
                    · have HN := Lib.hid (treNum_of g1 g2 g3 (by rw [HTOP.out]; exact g4) G5.out (fun e => by simp [e] at z6) (fun _ => ⟨by simpa using mi, by rw [HU.out]; simpa using mu⟩) (fun e => by simp [e] at z9; try simp [e] at z11))
                      go_upto_region 8 with fail
                      ((refine wp_region_ext_lit (by kernel_rfl) (by kernel_rfl) ?_); (repeat (go_big_quiet_step ((go_at_call 66; exact quiet_ext ((upR_any c hok f.n f.h (by omega) (by omega) _).mono fun e w' ⟨he, hx⟩ => ⟨by rw [he, HU.out], hx⟩))))); (refine wpQuiet_nil ?_; intro _ hw'; obtain ⟨⟨osq, nq⟩, hw''⟩ := hw'; replace hw'' : _ = grew _ osq nq := hw''; subst hw''))
                      go_wp2
                      (go_ret; refine ⟨ret_bool ?_, (by first | ((repeat (first | with_reducible exact Ext.refl _ | with_reducible assumption | with_reducible refine Ext.alloc ?_ _ | with_reducible refine Ext.gr ?_ _ | with_reducible refine Ext.drewN ?_ _ | with_reducible refine Ext.drew ?_ | with_reducible refine Ext.setCell ?_ ?_ _ | with_reducible refine Ext.more ?_ _ _ | (show _ ≤ _; dsimp only; omega))); done) | ((repeat (first | with_reducible exact Ext.refl _ | with_reducible assumption | with_reducible apply Ext.bothR | with_reducible refine Ext.alloc ?_ _ | with_reducible refine Ext.gr ?_ _ | with_reducible refine Ext.drewN ?_ _ | with_reducible refine Ext.drew ?_ | with_reducible refine Ext.setCell ?_ ?_ _ | with_reducible refine Ext.more ?_ _ _ | (show _ ≤ _; dsimp only; omega))); done))⟩)
                      rw [HN.out]
              · have z9 : (f.pc == 9) = false := by simp at z6; simp [z6]
                have z11 : (f.pc == 11) = false := by simp at z6; simp [z6]
                have z12 : (f.pc == 12) = false := by simp at z6; simp [z6]
                cases mi : decide (1 ≤ f.i)
                · have HN := Lib.hid (treNum_no (c := c) (f := f) (Or.inr (Or.inr (Or.inr (Or.inr (Or.inr (Or.inl ⟨by simpa using z6, by simp at mi; omega⟩)))))))
                  go_wp2
                  (go_ret; refine ⟨ret_bool ?_, (by first | ((repeat (first | with_reducible exact Ext.refl _ | with_reducible assumption | with_reducible refine Ext.alloc ?_ _ | with_reducible refine Ext.gr ?_ _ | with_reducible refine Ext.drewN ?_ _ | with_reducible refine Ext.drew ?_ | with_reducible refine Ext.setCell ?_ ?_ _ | with_reducible refine Ext.more ?_ _ _ | (show _ ≤ _; dsimp only; omega))); done) | ((repeat (first | with_reducible exact Ext.refl _ | with_reducible assumption | with_reducible apply Ext.bothR | with_reducible refine Ext.alloc ?_ _ | with_reducible refine Ext.gr ?_ _ | with_reducible refine Ext.drewN ?_ _ | with_reducible refine Ext.drew ?_ | with_reducible refine Ext.setCell ?_ ?_ _ | with_reducible refine Ext.more ?_ _ _ | (show _ ≤ _; dsimp only; omega))); done))⟩)
                  rw [HN.out, ← mi]
                · have HN := Lib.hid (treNum_of g1 g2 g3 (by rw [HTOP.out]; exact g4) G5.out (fun e => by simpa using mi) (fun e => by rcases e with e | e <;> simp [e] at z9 z11) (fun e => by simp [e] at z12))
                  go_wp2
                  (go_ret; refine ⟨ret_bool ?_, (by first | ((repeat (first | with_reducible exact Ext.refl _ | with_reducible assumption | with_reducible refine Ext.alloc ?_ _ | with_reducible refine Ext.gr ?_ _ | with_reducible refine Ext.drewN ?_ _ | with_reducible refine Ext.drew ?_ | with_reducible refine Ext.setCell ?_ ?_ _ | with_reducible refine Ext.more ?_ _ _ | (show _ ≤ _; dsimp only; omega))); done) | ((repeat (first | with_reducible exact Ext.refl _ | with_reducible assumption | with_reducible apply Ext.bothR | with_reducible refine Ext.alloc ?_ _ | with_reducible refine Ext.gr ?_ _ | with_reducible refine Ext.drewN ?_ _ | with_reducible refine Ext.drew ?_ | with_reducible refine Ext.setCell ?_ ?_ _ | with_reducible refine Ext.more ?_ _ _ | (show _ ≤ _; dsimp only; omega))); done))⟩)
                  rw [HN.out, ← mi]
            · ((refine wp_region_ext_lit (by kernel_rfl) (by kernel_rfl) ?_); (try dsimp only [List.append]); (repeat (go_big_quiet_step ((go_at_call 20; exact quiet_ext ((topR13_any c hok _).mono fun e w' ⟨he, hx⟩ => ⟨by rw [he, HTOP.out], hx⟩))))); (refine wpQuiet_nil ?_; intro _ hw'; obtain ⟨⟨osq, nq⟩, hw''⟩ := hw'; replace hw'' : _ = grew _ osq nq := hw''; subst hw''))
              go_wp2
              (go_ret; refine ⟨ret_bool ?_, (by first | ((repeat (first | with_reducible exact Ext.refl _ | with_reducible assumption | with_reducible refine Ext.alloc ?_ _ | with_reducible refine Ext.gr ?_ _ | with_reducible refine Ext.drewN ?_ _ | with_reducible refine Ext.drew ?_ | with_reducible refine Ext.setCell ?_ ?_ _ | with_reducible refine Ext.more ?_ _ _ | (show _ ≤ _; dsimp only; omega))); done) | ((repeat (first | with_reducible exact Ext.refl _ | with_reducible assumption | with_reducible apply Ext.bothR | with_reducible refine Ext.alloc ?_ _ | with_reducible refine Ext.gr ?_ _ | with_reducible refine Ext.drewN ?_ _ | with_reducible refine Ext.drew ?_ | with_reducible refine Ext.setCell ?_ ?_ _ | with_reducible refine Ext.more ?_ _ _ | (show _ ≤ _; dsimp only; omega))); done))⟩)
              rw [treNum_no (Or.inr (Or.inr (Or.inr (Or.inr (Or.inl ⟨by simpa using z16, by simpa using jc⟩)))))]
          · have z16' : (f.pc != 16) = false := by simpa using z16
            have G5 : Hid (f.pc = 16 ∨ f.j ≠ c.chunk) := Lib.hid (Or.inl (by simpa using z16))
            ((refine wp_region_ext_lit (by kernel_rfl) (by kernel_rfl) ?_); (try dsimp only [List.append]); (repeat (go_big_quiet_step ((go_at_call 20; exact quiet_ext ((topR13_any c hok _).mono fun e w' ⟨he, hx⟩ => ⟨by rw [he, HTOP.out], hx⟩))))); (refine wpQuiet_nil ?_; intro _ hw'; obtain ⟨⟨osq, nq⟩, hw''⟩ := hw'; replace hw'' : _ = grew _ osq nq := hw''; subst hw''))
            have g1 : f.n ≤ c.cap := by simpa using mn
            have g2 : f.p ≤ c.cap := by simpa using mp
            have g3 : f.j ≤ c.chunk := by simpa using mj
            have g4 : f.h ≤ T := by simpa using mh
            cases z6 : (f.pc == 6)
            · cases z9 : (f.pc == 9)
              · cases z11 : (f.pc == 11)
                · cases z12 : (f.pc == 12)
                  · have HN := Lib.hid (treNum_of g1 g2 g3 (by rw [HTOP.out]; exact g4) G5.out (fun e => by simp [e] at z6) (fun e => by rcases e with e | e <;> simp [e] at z9 z11) (fun e => by simp [e] at z12))
                    go_wp2
                    (go_ret; refine ⟨ret_bool ?_, (by first | ((repeat (first | with_reducible exact Ext.refl _ | with_reducible assumption | with_reducible refine Ext.alloc ?_ _ | with_reducible refine Ext.gr ?_ _ | with_reducible refine Ext.drewN ?_ _ | with_reducible refine Ext.drew ?_ | with_reducible refine Ext.setCell ?_ ?_ _ | with_reducible refine Ext.more ?_ _ _ | (show _ ≤ _; dsimp only; omega))); done) | ((repeat (first | with_reducible exact Ext.refl _ | with_reducible assumption | with_reducible apply Ext.bothR | with_reducible refine Ext.alloc ?_ _ | with_reducible refine Ext.gr ?_ _ | with_reducible refine Ext.drewN ?_ _ | with_reducible refine Ext.drew ?_ | with_reducible refine Ext.setCell ?_ ?_ _ | with_reducible refine Ext.more ?_ _ _ | (show _ ≤ _; dsimp only; omega))); done))⟩)
                    rw [HN.out]
                  · cases mi : decide (1 ≤ f.h)
                    · have HN := Lib.hid (treNum_no (c := c) (f := f) (Or.inr (Or.inr (Or.inr (Or.inr (Or.inr (Or.inr (Or.inr ⟨by simpa using z12, by simp at mi; omega⟩))))))))
                      go_wp2
                      (go_ret; refine ⟨ret_bool ?_, (by first | ((repeat (first | with_reducible exact Ext.refl _ | with_reducible assumption | with_reducible refine Ext.alloc ?_ _ | with_reducible refine Ext.gr ?_ _ | with_reducible refine Ext.drewN ?_ _ | with_reducible refine Ext.drew ?_ | with_reducible refine Ext.setCell ?_ ?_ _ | with_reducible refine Ext.more ?_ _ _ | (show _ ≤ _; dsimp only; omega))); done) | ((repeat (first | with_reducible exact Ext.refl _ | with_reducible assumption | with_reducible apply Ext.bothR | with_reducible refine Ext.alloc ?_ _ | with_reducible refine Ext.gr ?_ _ | with_reducible refine Ext.drewN ?_ _ | with_reducible refine Ext.drew ?_ | with_reducible refine Ext.setCell ?_ ?_ _ | with_reducible refine Ext.more ?_ _ _ | (show _ ≤ _; dsimp only; omega))); done))⟩)
                      rw [HN.out, ← mi]
                    · have HN := Lib.hid (treNum_of g1 g2 g3 (by rw [HTOP.out]; exact g4) G5.out (fun e => by simp [e] at z6) (fun e => by rcases e with e | e <;> simp [e] at z9 z11) (fun e => by simpa using mi))
                      go_wp2
                      (go_ret; refine ⟨ret_bool ?_, (by first | ((repeat (first | with_reducible exact Ext.refl _ | with_reducible assumption | with_reducible refine Ext.alloc ?_ _ | with_reducible refine Ext.gr ?_ _ | with_reducible refine Ext.drewN ?_ _ | with_reducible refine Ext.drew ?_ | with_reducible refine Ext.setCell ?_ ?_ _ | with_reducible refine Ext.more ?_ _ _ | (show _ ≤ _; dsimp only; omega))); done) | ((repeat (first | with_reducible exact Ext.refl _ | with_reducible assumption | with_reducible apply Ext.bothR | with_reducible refine Ext.alloc ?_ _ | with_reducible refine Ext.gr ?_ _ | with_reducible refine Ext.drewN ?_ _ | with_reducible refine Ext.drew ?_ | with_reducible refine Ext.setCell ?_ ?_ _ | with_reducible refine Ext.more ?_ _ _ | (show _ ≤ _; dsimp only; omega))); done))⟩)
                      rw [HN.out, ← mi]
                · cases mi : decide (1 ≤ f.h)
                  · have HN := Lib.hid (treNum_no (c := c) (f := f) (Or.inr (Or.inr (Or.inr (Or.inr (Or.inr (Or.inr (Or.inl ⟨Or.inr (by simpa using z11), Or.inl (by simp at mi; omega)⟩))))))))
                    go_upto_region 8 with fail
                    ((refine wp_region_ext_lit (by kernel_rfl) (by kernel_rfl) ?_); (repeat (go_big_quiet_step ((go_at_call 66; exact quiet_ext ((upR_any c hok f.n f.h (by omega) (by omega) _).mono fun e w' ⟨he, hx⟩ => ⟨by rw [he, HU.out], hx⟩))))); (refine wpQuiet_nil ?_; intro _ hw'; obtain ⟨⟨osq, nq⟩, hw''⟩ := hw'; replace hw'' : _ = grew _ osq nq := hw''; subst hw''))
                    go_wp2
                    (go_ret; refine ⟨ret_bool ?_, (by first | ((repeat (first | with_reducible exact Ext.refl _ | with_reducible assumption | with_reducible refine Ext.alloc ?_ _ | with_reducible refine Ext.gr ?_ _ | with_reducible refine Ext.drewN ?_ _ | with_reducible refine Ext.drew ?_ | with_reducible refine Ext.setCell ?_ ?_ _ | with_reducible refine Ext.more ?_ _ _ | (show _ ≤ _; dsimp only; omega))); done) | ((repeat (first | with_reducible exact Ext.refl _ | with_reducible assumption | with_reducible apply Ext.bothR | with_reducible refine Ext.alloc ?_ _ | with_reducible refine Ext.gr ?_ _ | with_reducible refine Ext.drewN ?_ _ | with_reducible refine Ext.drew ?_ | with_reducible refine Ext.setCell ?_ ?_ _ | with_reducible refine Ext.more ?_ _ _ | (show _ ≤ _; dsimp only; omega))); done))⟩)
                    rw [HN.out]
                  · cases mu : decide (f.i < U)
                    · have HN := Lib.hid (treNum_no (c := c) (f := f) (Or.inr (Or.inr (Or.inr (Or.inr (Or.inr (Or.inr (Or.inl ⟨Or.inr (by simpa using z11), Or.inr (by rw [HU.out]; simp at mu; omega)⟩))))))))
                      go_upto_region 8 with fail
                      ((refine wp_region_ext_lit (by kernel_rfl) (by kernel_rfl) ?_); (repeat (go_big_quiet_step ((go_at_call 66; exact quiet_ext ((upR_any c hok f.n f.h (by omega) (by omega) _).mono fun e w' ⟨he, hx⟩ => ⟨by rw [he, HU.out], hx⟩))))); (refine wpQuiet_nil ?_; intro _ hw'; obtain ⟨⟨osq, nq⟩, hw''⟩ := hw'; replace hw'' : _ = grew _ osq nq := hw''; subst hw''))
                      go_wp2
                      (go_ret; refine ⟨ret_bool ?_, (by first | ((repeat (first | with_reducible exact Ext.refl _ | with_reducible assumption | with_reducible refine Ext.alloc ?_ _ | with_reducible refine Ext.gr ?_ _ | with_reducible refine Ext.drewN ?_ _ | with_reducible refine Ext.drew ?_ | with_reducible refine Ext.setCell ?_ ?_ _ | with_reducible refine Ext.more ?_ _ _ | (show _ ≤ _; dsimp only; omega))); done) | ((repeat (first | with_reducible exact Ext.refl _ | with_reducible assumption | with_reducible apply Ext.bothR | with_reducible refine Ext.alloc ?_ _ | with_reducible refine Ext.gr ?_ _ | with_reducible refine Ext.drewN ?_ _ | with_reducible refine Ext.drew ?_ | with_reducible refine Ext.setCell ?_ ?_ _ | with_reducible refine Ext.more ?_ _ _ | (show _ ≤ _; dsimp only; omega))); done))⟩)
                      rw [HN.out]
                    · have HN := Lib.hid (treNum_of g1 g2 g3 (by rw [HTOP.out]; exact g4) G5.out (fun e => by simp [e] at z6) (fun _ => ⟨by simpa using mi, by rw [HU.out]; simpa using mu⟩) (fun e => by simp [e] at z9; try simp [e] at z11))
                      go_upto_region 8 with fail
                      ((refine wp_region_ext_lit (by kernel_rfl) (by kernel_rfl) ?_); (repeat (go_big_quiet_step ((go_at_call 66; exact quiet_ext ((upR_any c hok f.n f.h (by omega) (by omega) _).mono fun e w' ⟨he, hx⟩ => ⟨by rw [he, HU.out], hx⟩))))); (refine wpQuiet_nil ?_; intro _ hw'; obtain ⟨⟨osq, nq⟩, hw''⟩ := hw'; replace hw'' : _ = grew _ osq nq := hw''; subst hw''))
                      go_wp2
                      (go_ret; refine ⟨ret_bool ?_, (by first | ((repeat (first | with_reducible exact Ext.refl _ | with_reducible assumption | with_reducible refine Ext.alloc ?_ _ | with_reducible refine Ext.gr ?_ _ | with_reducible refine Ext.drewN ?_ _ | with_reducible refine Ext.drew ?_ | with_reducible refine Ext.setCell ?_ ?_ _ | with_reducible refine Ext.more ?_ _ _ | (show _ ≤ _; dsimp only; omega))); done) | ((repeat (first | with_reducible exact Ext.refl _ | with_reducible assumption | with_reducible apply Ext.bothR | with_reducible refine Ext.alloc ?_ _ | with_reducible refine Ext.gr ?_ _ | with_reducible refine Ext.drewN ?_ _ | with_reducible refine Ext.drew ?_ | with_reducible refine Ext.setCell ?_ ?_ _ | with_reducible refine Ext.more ?_ _ _ | (show _ ≤ _; dsimp only; omega))); done))⟩)
                      rw [HN.out]
              · cases mi : decide (1 ≤ f.h)
                · have HN := Lib.hid (treNum_no (c := c) (f := f) (Or.inr (Or.inr (Or.inr (Or.inr (Or.inr (Or.inr (Or.inl ⟨Or.inl (by simpa using z9), Or.inl (by simp at mi; omega)⟩))))))))
                  go_upto_region 8 with fail
                  ((refine wp_region_ext_lit (by kernel_rfl) (by kernel_rfl) ?_); (repeat (go_big_quiet_step ((go_at_call 66; exact quiet_ext ((upR_any c hok f.n f.h (by omega) (by omega) _).mono fun e w' ⟨he, hx⟩ => ⟨by rw [he, HU.out], hx⟩))))); (refine wpQuiet_nil ?_; intro _ hw'; obtain ⟨⟨osq, nq⟩, hw''⟩ := hw'; replace hw'' : _ = grew _ osq nq := hw''; subst hw''))
                  go_wp2
                  (go_ret; refine ⟨ret_bool ?_, (by first | ((repeat (first | with_reducible exact Ext.refl _ | with_reducible assumption | with_reducible refine Ext.alloc ?_ _ | with_reducible refine Ext.gr ?_ _ | with_reducible refine Ext.drewN ?_ _ | with_reducible refine Ext.drew ?_ | with_reducible refine Ext.setCell ?_ ?_ _ | with_reducible refine Ext.more ?_ _ _ | (show _ ≤ _; dsimp only; omega))); done) | ((repeat (first | with_reducible exact Ext.refl _ | with_reducible assumption | with_reducible apply Ext.bothR | with_reducible refine Ext.alloc ?_ _ | with_reducible refine Ext.gr ?_ _ | with_reducible refine Ext.drewN ?_ _ | with_reducible refine Ext.drew ?_ | with_reducible refine Ext.setCell ?_ ?_ _ | with_reducible refine Ext.more ?_ _ _ | (show _ ≤ _; dsimp only; omega))); done))⟩)
                  rw [HN.out]
                · cases mu : decide (f.i < U)
                  · have HN := Lib.hid (treNum_no (c := c) (f := f) (Or.inr (Or.inr (Or.inr (Or.inr (Or.inr (Or.inr (Or.inl ⟨Or.inl (by simpa using z9), Or.inr (by rw [HU.out]; simp at mu; omega)⟩))))))))
                    go_upto_region 8 with fail
                    ((refine wp_region_ext_lit (by kernel_rfl) (by kernel_rfl) ?_); (repeat (go_big_quiet_step ((go_at_call 66; exact quiet_ext ((upR_any c hok f.n f.h (by omega) (by omega) _).mono fun e w' ⟨he, hx⟩ => ⟨by rw [he, HU.out], hx⟩))))); (refine wpQuiet_nil ?_; intro _ hw'; obtain ⟨⟨osq, nq⟩, hw''⟩ := hw'; replace hw'' : _ = grew _ osq nq := hw''; subst hw''))
                    go_wp2
                    (go_ret; refine ⟨ret_bool ?_, (by first | ((repeat (first | with_reducible exact Ext.refl _ | with_reducible assumption | with_reducible refine Ext.alloc ?_ _ | with_reducible refine Ext.gr ?_ _ | with_reducible refine Ext.drewN ?_ _ | with_reducible refine Ext.drew ?_ | with_reducible refine Ext.setCell ?_ ?_ _ | with_reducible refine Ext.more ?_ _ _ | (show _ ≤ _; dsimp only; omega))); done) | ((repeat (first | with_reducible exact Ext.refl _ | with_reducible assumption | with_reducible apply Ext.bothR | with_reducible refine Ext.alloc ?_ _ | with_reducible refine Ext.gr ?_ _ | with_reducible refine Ext.drewN ?_ _ | with_reducible refine Ext.drew ?_ | with_reducible refine Ext.setCell ?_ ?_ _ | with_reducible refine Ext.more ?_ _ _ | (show _ ≤ _; dsimp only; omega))); done))⟩)
                    rw [HN.out]
                  · have HN := Lib.hid (treNum_of g1 g2 g3 (by rw [HTOP.out]; exact g4) G5.out (fun e => by simp [e] at z6) (fun _ => ⟨by simpa using mi, by rw [HU.out]; simpa using mu⟩) (fun e => by simp [e] at z9; try simp [e] at z11))
                    go_upto_region 8 with fail
                    ((refine wp_region_ext_lit (by kernel_rfl) (by kernel_rfl) ?_); (repeat (go_big_quiet_step ((go_at_call 66; exact quiet_ext ((upR_any c hok f.n f.h (by omega) (by omega) _).mono fun e w' ⟨he, hx⟩ => ⟨by rw [he, HU.out], hx⟩))))); (refine wpQuiet_nil ?_; intro _ hw'; obtain ⟨⟨osq, nq⟩, hw''⟩ := hw'; replace hw'' : _ = grew _ osq nq := hw''; subst hw''))
                    go_wp2
                    (go_ret; refine ⟨ret_bool ?_, (by first | ((repeat (first | with_reducible exact Ext.refl _ | with_reducible assumption | with_reducible refine Ext.alloc ?_ _ | with_reducible refine Ext.gr ?_ _ | with_reducible refine Ext.drewN ?_ _ | with_reducible refine Ext.drew ?_ | with_reducible refine Ext.setCell ?_ ?_ _ | with_reducible refine Ext.more ?_ _ _ | (show _ ≤ _; dsimp only; omega))); done) | ((repeat (first | with_reducible exact Ext.refl _ | with_reducible assumption | with_reducible apply Ext.bothR | with_reducible refine Ext.alloc ?_ _ | with_reducible refine Ext.gr ?_ _ | with_reducible refine Ext.drewN ?_ _ | with_reducible refine Ext.drew ?_ | with_reducible refine Ext.setCell ?_ ?_ _ | with_reducible refine Ext.more ?_ _ _ | (show _ ≤ _; dsimp only; omega))); done))⟩)
                    rw [HN.out]
            · have z9 : (f.pc == 9) = false := by simp at z6; simp [z6]
              have z11 : (f.pc == 11) = false := by simp at z6; simp [z6]
              have z12 : (f.pc == 12) = false := by simp at z6; simp [z6]
              cases mi : decide (1 ≤ f.i)
              · have HN := Lib.hid (treNum_no (c := c) (f := f) (Or.inr (Or.inr (Or.inr (Or.inr (Or.inr (Or.inl ⟨by simpa using z6, by simp at mi; omega⟩)))))))
                go_wp2
                (go_ret; refine ⟨ret_bool ?_, (by first | ((repeat (first | with_reducible exact Ext.refl _ | with_reducible assumption | with_reducible refine Ext.alloc ?_ _ | with_reducible refine Ext.gr ?_ _ | with_reducible refine Ext.drewN ?_ _ | with_reducible refine Ext.drew ?_ | with_reducible refine Ext.setCell ?_ ?_ _ | with_reducible refine Ext.more ?_ _ _ | (show _ ≤ _; dsimp only; omega))); done) | ((repeat (first | with_reducible exact Ext.refl _ | with_reducible assumption | with_reducible apply Ext.bothR | with_reducible refine Ext.alloc ?_ _ | with_reducible refine Ext.gr ?_ _ | with_reducible refine Ext.drewN ?_ _ | with_reducible refine Ext.drew ?_ | with_reducible refine Ext.setCell ?_ ?_ _ | with_reducible refine Ext.more ?_ _ _ | (show _ ≤ _; dsimp only; omega))); done))⟩)
                rw [HN.out, ← mi]
              · have HN := Lib.hid (treNum_of g1 g2 g3 (by rw [HTOP.out]; exact g4) G5.out (fun e => by simpa using mi) (fun e => by rcases e with e | e <;> simp [e] at z9 z11) (fun e => by simp [e] at z12))
                go_wp2
                (go_ret; refine ⟨ret_bool ?_, (by first | ((repeat (first | with_reducible exact Ext.refl _ | with_reducible assumption | with_reducible refine Ext.alloc ?_ _ | with_reducible refine Ext.gr ?_ _ | with_reducible refine Ext.drewN ?_ _ | with_reducible refine Ext.drew ?_ | with_reducible refine Ext.setCell ?_ ?_ _ | with_reducible refine Ext.more ?_ _ _ | (show _ ≤ _; dsimp only; omega))); done) | ((repeat (first | with_reducible exact Ext.refl _ | with_reducible assumption | with_reducible apply Ext.bothR | with_reducible refine Ext.alloc ?_ _ | with_reducible refine Ext.gr ?_ _ | with_reducible refine Ext.drewN ?_ _ | with_reducible refine Ext.drew ?_ | with_reducible refine Ext.setCell ?_ ?_ _ | with_reducible refine Ext.more ?_ _ _ | (show _ ≤ _; dsimp only; omega))); done))⟩)
                rw [HN.out, ← mi]
        · ((refine wp_region_ext_lit (by kernel_rfl) (by kernel_rfl) ?_); (try dsimp only [List.append]); (repeat (go_big_quiet_step ((go_at_call 20; exact quiet_ext ((topR13_any c hok _).mono fun e w' ⟨he, hx⟩ => ⟨by rw [he, HTOP.out], hx⟩))))); (refine wpQuiet_nil ?_; intro _ hw'; obtain ⟨⟨osq, nq⟩, hw''⟩ := hw'; replace hw'' : _ = grew _ osq nq := hw''; subst hw''))
          go_wp2
          (go_ret; refine ⟨ret_bool ?_, (by first | ((repeat (first | with_reducible exact Ext.refl _ | with_reducible assumption | with_reducible refine Ext.alloc ?_ _ | with_reducible refine Ext.gr ?_ _ | with_reducible refine Ext.drewN ?_ _ | with_reducible refine Ext.drew ?_ | with_reducible refine Ext.setCell ?_ ?_ _ | with_reducible refine Ext.more ?_ _ _ | (show _ ≤ _; dsimp only; omega))); done) | ((repeat (first | with_reducible exact Ext.refl _ | with_reducible assumption | with_reducible apply Ext.bothR | with_reducible refine Ext.alloc ?_ _ | with_reducible refine Ext.gr ?_ _ | with_reducible refine Ext.drewN ?_ _ | with_reducible refine Ext.drew ?_ | with_reducible refine Ext.setCell ?_ ?_ _ | with_reducible refine Ext.more ?_ _ _ | (show _ ≤ _; dsimp only; omega))); done))⟩)
          rw [treNum_no (Or.inr (Or.inr (Or.inr (Or.inl (by rw [HTOP.out]; simpa using mh)))))]
      · ((refine wp_region_ext_lit (by kernel_rfl) (by kernel_rfl) ?_); (try dsimp only [List.append]); (repeat (go_big_quiet_step ((go_at_call 20; exact quiet_ext ((topR13_any c hok _).mono fun e w' ⟨he, hx⟩ => ⟨by rw [he, HTOP.out], hx⟩))))); (refine wpQuiet_nil ?_; intro _ hw'; obtain ⟨⟨osq, nq⟩, hw''⟩ := hw'; replace hw'' : _ = grew _ osq nq := hw''; subst hw''))
        go_wp2
        (go_ret; refine ⟨ret_bool ?_, (by first | ((repeat (first | with_reducible exact Ext.refl _ | with_reducible assumption | with_reducible refine Ext.alloc ?_ _ | with_reducible refine Ext.gr ?_ _ | with_reducible refine Ext.drewN ?_ _ | with_reducible refine Ext.drew ?_ | with_reducible refine Ext.setCell ?_ ?_ _ | with_reducible refine Ext.more ?_ _ _ | (show _ ≤ _; dsimp only; omega))); done) | ((repeat (first | with_reducible exact Ext.refl _ | with_reducible assumption | with_reducible apply Ext.bothR | with_reducible refine Ext.alloc ?_ _ | with_reducible refine Ext.gr ?_ _ | with_reducible refine Ext.drewN ?_ _ | with_reducible refine Ext.drew ?_ | with_reducible refine Ext.setCell ?_ ?_ _ | with_reducible refine Ext.more ?_ _ _ | (show _ ≤ _; dsimp only; omega))); done))⟩)
        rw [treNum_no (Or.inr (Or.inr (Or.inl (by simpa using mj))))]
    · ((refine wp_region_ext_lit (by kernel_rfl) (by kernel_rfl) ?_); (try dsimp only [List.append]); (repeat (go_big_quiet_step ((go_at_call 20; exact quiet_ext ((topR13_any c hok _).mono fun e w' ⟨he, hx⟩ => ⟨by rw [he, HTOP.out], hx⟩))))); (refine wpQuiet_nil ?_; intro _ hw'; obtain ⟨⟨osq, nq⟩, hw''⟩ := hw'; replace hw'' : _ = grew _ osq nq := hw''; subst hw''))
      go_wp2
      (go_ret; refine ⟨ret_bool ?_, (by first | ((repeat (first | with_reducible exact Ext.refl _ | with_reducible assumption | with_reducible refine Ext.alloc ?_ _ | with_reducible refine Ext.gr ?_ _ | with_reducible refine Ext.drewN ?_ _ | with_reducible refine Ext.drew ?_ | with_reducible refine Ext.setCell ?_ ?_ _ | with_reducible refine Ext.more ?_ _ _ | (show _ ≤ _; dsimp only; omega))); done) | ((repeat (first | with_reducible exact Ext.refl _ | with_reducible assumption | with_reducible apply Ext.bothR | with_reducible refine Ext.alloc ?_ _ | with_reducible refine Ext.gr ?_ _ | with_reducible refine Ext.drewN ?_ _ | with_reducible refine Ext.drew ?_ | with_reducible refine Ext.setCell ?_ ?_ _ | with_reducible refine Ext.more ?_ _ _ | (show _ ≤ _; dsimp only; omega))); done))⟩)
      rw [treNum_no (Or.inr (Or.inl (by simpa using mp)))]
  · ((refine wp_region_ext_lit (by kernel_rfl) (by kernel_rfl) ?_); (try dsimp only [List.append]); (repeat (go_big_quiet_step ((go_at_call 20; exact quiet_ext ((topR13_any c hok _).mono fun e w' ⟨he, hx⟩ => ⟨by rw [he, HTOP.out], hx⟩))))); (refine wpQuiet_nil ?_; intro _ hw'; obtain ⟨⟨osq, nq⟩, hw''⟩ := hw'; replace hw'' : _ = grew _ osq nq := hw''; subst hw''))
    go_wp2
    (go_ret; refine ⟨ret_bool ?_, (by first | ((repeat (first | with_reducible exact Ext.refl _ | with_reducible assumption | with_reducible refine Ext.alloc ?_ _ | with_reducible refine Ext.gr ?_ _ | with_reducible refine Ext.drewN ?_ _ | with_reducible refine Ext.drew ?_ | with_reducible refine Ext.setCell ?_ ?_ _ | with_reducible refine Ext.more ?_ _ _ | (show _ ≤ _; dsimp only; omega))); done) | ((repeat (first | with_reducible exact Ext.refl _ | with_reducible assumption | with_reducible apply Ext.bothR | with_reducible refine Ext.alloc ?_ _ | with_reducible refine Ext.gr ?_ _ | with_reducible refine Ext.drewN ?_ _ | with_reducible refine Ext.drew ?_ | with_reducible refine Ext.setCell ?_ ?_ _ | with_reducible refine Ext.more ?_ _ _ | (show _ ≤ _; dsimp only; omega))); done))⟩)
    rw [treNum_no (Or.inl (by simpa using mn))]
end Go.Proofs.YtkklhhdkokncnaaDoor
