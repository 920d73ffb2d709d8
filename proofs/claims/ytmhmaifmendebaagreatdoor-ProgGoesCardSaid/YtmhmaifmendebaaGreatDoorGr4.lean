/- The walks of the reference of the layer 'tree': the numbers. -/
import Derived.Test.YtmhmaifmendebaaGreatDoorTreR3
namespace Go.Proofs.YtmhmaifmendebaaGreatDoor.tree
open Go Go.RowKit
set_option maxRecDepth 100000
set_option maxHeartbeats 8000000

theorem numbersR_any (c : Cfg) (f : Frm) (hok : TreOk c) (hf : f.Fits) (w : World) : Calls Tryz.prog 57 #[c.v, f.v] w
    fun e w' => e = .returned (.bool (treNum c f)) ∧ Ext w w' := by
  have htop := topI_bd c.cap c.node
  change 0 ≤ treTop c ∧ treTop c ≤ 4 at htop
  have hcap := hok.cap
  have hchunk := hok.chunk
  obtain ⟨T, hT⟩ : ∃ T, treTop c = T := ⟨_, rfl⟩
  obtain ⟨U, hU⟩ : ∃ U, treUp c f.n f.h = U := ⟨_, rfl⟩
  rw [hT] at htop
  have HTOP := Lib.hid hT
  have HU := Lib.hid hU
  obtain ⟨⟨k0, k1⟩, _, _, ⟨p0, p1⟩, ⟨i0, i1⟩, ⟨j0, j1⟩, ⟨n0, n1⟩, ⟨q0, q1⟩, ⟨h0, h1⟩, _, _⟩ := hf
  have hwi : IntKind.i64.wrap f.i = f.i := by rw [IntKind.wrap_i64]; omega
  have hwn : IntKind.i64.wrap f.n = f.n := by rw [IntKind.wrap_i64]; omega
  have hwp : IntKind.i64.wrap f.p = f.p := by rw [IntKind.wrap_i64]; omega
  have hwj : IntKind.i64.wrap f.j = f.j := by rw [IntKind.wrap_i64]; omega
  have hwh : IntKind.i64.wrap f.h = f.h := by rw [IntKind.wrap_i64]; omega
  clear hT hU
  go_enter Tryz.func57, Tryz.ntmps57
  go_upto_region 1 with fail
  cases mn : decide (c.cap < f.n)
  · cases mp : decide (c.cap < f.p)
    · cases mj : decide (c.chunk < f.j)
      · cases mh : decide (T < f.h)
        · cases z16 : (f.pc == 16)
          · have z16' : (f.pc != 16) = true := by simpa using z16
            cases jc : (f.j == c.chunk)
            · have G5 : Hid (f.pc = 16 ∨ f.j ≠ c.chunk) := Lib.hid (Or.inr (by simpa using jc))
              ((refine wp_region_ext_lit (by kernel_rfl) (by kernel_rfl) ?_); (try dsimp only [List.append]); (repeat (go_big_quiet_step ((go_at_call 78; exact quiet_ext ((topR13_any c hok _).mono fun e w' ⟨he, hx⟩ => ⟨by rw [he, HTOP.out], hx⟩))))); (refine wpQuiet_nil ?_; intro _ hw'; obtain ⟨⟨osq, nq⟩, hw''⟩ := hw'; replace hw'' : _ = grew _ osq nq := hw''; subst hw''))
              have g1 : f.n ≤ c.cap := by simpa using mn
              have g2 : f.p ≤ c.cap := by simpa using mp
              have g3 : f.j ≤ c.chunk := by simpa using mj
              have g4 : f.h ≤ T := by simpa using mh
              cases z6 : (f.pc == 6)
              · cases z9 : (f.pc == 9)
                · cases z11 : (f.pc == 11)
                  · cases z12 : (f.pc == 12)
                    · have HN := Lib.hid (treNum_of g1 g2 g3 (by rw [HTOP.out]; exact g4) G5.out (fun e => by simp [e] at z6) (fun e => by rcases e with e | e <;> simp [e] at z9 z11) (fun e => by simp [e] at z12))
                      go_wp2
                      (go_ret; refine ⟨ret_bool ?_, EXX⟩)
                      rw [HN.out]
                    · cases mi : decide (1 ≤ f.h)
                      · have HN := Lib.hid (treNum_no (c := c) (f := f) (Or.inr (Or.inr (Or.inr (Or.inr (Or.inr (Or.inr (Or.inr ⟨by simpa using z12, by simp at mi; omega⟩))))))))
                        go_wp2
                        (go_ret; refine ⟨ret_bool ?_, EXX⟩)
                        rw [HN.out, ← mi]
                      · have HN := Lib.hid (treNum_of g1 g2 g3 (by rw [HTOP.out]; exact g4) G5.out (fun e => by simp [e] at z6) (fun e => by rcases e with e | e <;> simp [e] at z9 z11) (fun e => by simpa using mi))
                        go_wp2
                        (go_ret; refine ⟨ret_bool ?_, EXX⟩)
                        rw [HN.out, ← mi]
                  · cases mi : decide (1 ≤ f.h)
                    · have HN := Lib.hid (treNum_no (c := c) (f := f) (Or.inr (Or.inr (Or.inr (Or.inr (Or.inr (Or.inr (Or.inl ⟨Or.inr (by simpa using z11), Or.inl (by simp at mi; omega)⟩))))))))
                      go_upto_region 8 with fail
                      ((refine wp_region_ext_lit (by kernel_rfl) (by kernel_rfl) ?_); (repeat (go_big_quiet_step ((go_at_call 60; exact quiet_ext ((upR_any c hok f.n f.h (by omega) (by omega) _).mono fun e w' ⟨he, hx⟩ => ⟨by rw [he, HU.out], hx⟩))))); (refine wpQuiet_nil ?_; intro _ hw'; obtain ⟨⟨osq, nq⟩, hw''⟩ := hw'; replace hw'' : _ = grew _ osq nq := hw''; subst hw''))
                      go_wp2
                      (go_ret; refine ⟨ret_bool ?_, EXX⟩)
                      rw [HN.out]
                    · cases mu : decide (f.i < U)
                      · have HN := Lib.hid (treNum_no (c := c) (f := f) (Or.inr (Or.inr (Or.inr (Or.inr (Or.inr (Or.inr (Or.inl ⟨Or.inr (by simpa using z11), Or.inr (by rw [HU.out]; simp at mu; omega)⟩))))))))
                        go_upto_region 8 with fail
                        ((refine wp_region_ext_lit (by kernel_rfl) (by kernel_rfl) ?_); (repeat (go_big_quiet_step ((go_at_call 60; exact quiet_ext ((upR_any c hok f.n f.h (by omega) (by omega) _).mono fun e w' ⟨he, hx⟩ => ⟨by rw [he, HU.out], hx⟩))))); (refine wpQuiet_nil ?_; intro _ hw'; obtain ⟨⟨osq, nq⟩, hw''⟩ := hw'; replace hw'' : _ = grew _ osq nq := hw''; subst hw''))
                        go_wp2
                        (go_ret; refine ⟨ret_bool ?_, EXX⟩)
                        rw [HN.out]
                      · have HN := Lib.hid (treNum_of g1 g2 g3 (by rw [HTOP.out]; exact g4) G5.out (fun e => by simp [e] at z6) (fun _ => ⟨by simpa using mi, by rw [HU.out]; simpa using mu⟩) (fun e => by simp [e] at z9; try simp [e] at z11))
                        go_upto_region 8 with fail
                        ((refine wp_region_ext_lit (by kernel_rfl) (by kernel_rfl) ?_); (repeat (go_big_quiet_step ((go_at_call 60; exact quiet_ext ((upR_any c hok f.n f.h (by omega) (by omega) _).mono fun e w' ⟨he, hx⟩ => ⟨by rw [he, HU.out], hx⟩))))); (refine wpQuiet_nil ?_; intro _ hw'; obtain ⟨⟨osq, nq⟩, hw''⟩ := hw'; replace hw'' : _ = grew _ osq nq := hw''; subst hw''))
                        go_wp2
                        (go_ret; refine ⟨ret_bool ?_, EXX⟩)
                        rw [HN.out]
                · cases mi : decide (1 ≤ f.h)
                  · have HN := Lib.hid (treNum_no (c := c) (f := f) (Or.inr (Or.inr (Or.inr (Or.inr (Or.inr (Or.inr (Or.inl ⟨Or.inl (by simpa using z9), Or.inl (by simp at mi; omega)⟩))))))))
                    go_upto_region 8 with fail
                    ((refine wp_region_ext_lit (by kernel_rfl) (by kernel_rfl) ?_); (repeat (go_big_quiet_step ((go_at_call 60; exact quiet_ext ((upR_any c hok f.n f.h (by omega) (by omega) _).mono fun e w' ⟨he, hx⟩ => ⟨by rw [he, HU.out], hx⟩))))); (refine wpQuiet_nil ?_; intro _ hw'; obtain ⟨⟨osq, nq⟩, hw''⟩ := hw'; replace hw'' : _ = grew _ osq nq := hw''; subst hw''))
                    go_wp2
                    (go_ret; refine ⟨ret_bool ?_, EXX⟩)
                    rw [HN.out]
                  · cases mu : decide (f.i < U)
                    · have HN := Lib.hid (treNum_no (c := c) (f := f) (Or.inr (Or.inr (Or.inr (Or.inr (Or.inr (Or.inr (Or.inl ⟨Or.inl (by simpa using z9), Or.inr (by rw [HU.out]; simp at mu; omega)⟩))))))))
                      go_upto_region 8 with fail
                      ((refine wp_region_ext_lit (by kernel_rfl) (by kernel_rfl) ?_); (repeat (go_big_quiet_step ((go_at_call 60; exact quiet_ext ((upR_any c hok f.n f.h (by omega) (by omega) _).mono fun e w' ⟨he, hx⟩ => ⟨by rw [he, HU.out], hx⟩))))); (refine wpQuiet_nil ?_; intro _ hw'; obtain ⟨⟨osq, nq⟩, hw''⟩ := hw'; replace hw'' : _ = grew _ osq nq := hw''; subst hw''))
                      go_wp2
                      (go_ret; refine ⟨ret_bool ?_, EXX⟩)
                      rw [HN.out]
                    · have HN := Lib.hid (treNum_of g1 g2 g3 (by rw [HTOP.out]; exact g4) G5.out (fun e => by simp [e] at z6) (fun _ => ⟨by simpa using mi, by rw [HU.out]; simpa using mu⟩) (fun e => by simp [e] at z9; try simp [e] at z11))
                      go_upto_region 8 with fail
                      ((refine wp_region_ext_lit (by kernel_rfl) (by kernel_rfl) ?_); (repeat (go_big_quiet_step ((go_at_call 60; exact quiet_ext ((upR_any c hok f.n f.h (by omega) (by omega) _).mono fun e w' ⟨he, hx⟩ => ⟨by rw [he, HU.out], hx⟩))))); (refine wpQuiet_nil ?_; intro _ hw'; obtain ⟨⟨osq, nq⟩, hw''⟩ := hw'; replace hw'' : _ = grew _ osq nq := hw''; subst hw''))
                      go_wp2
                      (go_ret; refine ⟨ret_bool ?_, EXX⟩)
                      rw [HN.out]
              · have z9 : (f.pc == 9) = false := by simp at z6; simp [z6]
                have z11 : (f.pc == 11) = false := by simp at z6; simp [z6]
                have z12 : (f.pc == 12) = false := by simp at z6; simp [z6]
                cases mi : decide (1 ≤ f.i)
                · have HN := Lib.hid (treNum_no (c := c) (f := f) (Or.inr (Or.inr (Or.inr (Or.inr (Or.inr (Or.inl ⟨by simpa using z6, by simp at mi; omega⟩)))))))
                  go_wp2
                  (go_ret; refine ⟨ret_bool ?_, EXX⟩)
                  rw [HN.out, ← mi]
                · have HN := Lib.hid (treNum_of g1 g2 g3 (by rw [HTOP.out]; exact g4) G5.out (fun e => by simpa using mi) (fun e => by rcases e with e | e <;> simp [e] at z9 z11) (fun e => by simp [e] at z12))
                  go_wp2
                  (go_ret; refine ⟨ret_bool ?_, EXX⟩)
                  rw [HN.out, ← mi]
            · ((refine wp_region_ext_lit (by kernel_rfl) (by kernel_rfl) ?_); (try dsimp only [List.append]); (repeat (go_big_quiet_step ((go_at_call 78; exact quiet_ext ((topR13_any c hok _).mono fun e w' ⟨he, hx⟩ => ⟨by rw [he, HTOP.out], hx⟩))))); (refine wpQuiet_nil ?_; intro _ hw'; obtain ⟨⟨osq, nq⟩, hw''⟩ := hw'; replace hw'' : _ = grew _ osq nq := hw''; subst hw''))
              go_wp2
              (go_ret; refine ⟨ret_bool ?_, EXX⟩)
              rw [treNum_no (Or.inr (Or.inr (Or.inr (Or.inr (Or.inl ⟨by simpa using z16, by simpa using jc⟩)))))]
          · have z16' : (f.pc != 16) = false := by simpa using z16
            have G5 : Hid (f.pc = 16 ∨ f.j ≠ c.chunk) := Lib.hid (Or.inl (by simpa using z16))
            ((refine wp_region_ext_lit (by kernel_rfl) (by kernel_rfl) ?_); (try dsimp only [List.append]); (repeat (go_big_quiet_step ((go_at_call 78; exact quiet_ext ((topR13_any c hok _).mono fun e w' ⟨he, hx⟩ => ⟨by rw [he, HTOP.out], hx⟩))))); (refine wpQuiet_nil ?_; intro _ hw'; obtain ⟨⟨osq, nq⟩, hw''⟩ := hw'; replace hw'' : _ = grew _ osq nq := hw''; subst hw''))
            have g1 : f.n ≤ c.cap := by simpa using mn
            have g2 : f.p ≤ c.cap := by simpa using mp
            have g3 : f.j ≤ c.chunk := by simpa using mj
            have g4 : f.h ≤ T := by simpa using mh
            cases z6 : (f.pc == 6)
            · cases z9 : (f.pc == 9)
              · cases z11 : (f.pc == 11)
                · cases z12 : (f.pc == 12)
                  · have HN := Lib.hid (treNum_of g1 g2 g3 (by rw [HTOP.out]; exact g4) G5.out (fun e => by simp [e] at z6) (fun e => by rcases e with e | e <;> simp [e] at z9 z11) (fun e => by simp [e] at z12))
                    go_wp2
                    (go_ret; refine ⟨ret_bool ?_, EXX⟩)
                    rw [HN.out]
                  · cases mi : decide (1 ≤ f.h)
                    · have HN := Lib.hid (treNum_no (c := c) (f := f) (Or.inr (Or.inr (Or.inr (Or.inr (Or.inr (Or.inr (Or.inr ⟨by simpa using z12, by simp at mi; omega⟩))))))))
                      go_wp2
                      (go_ret; refine ⟨ret_bool ?_, EXX⟩)
                      rw [HN.out, ← mi]
                    · have HN := Lib.hid (treNum_of g1 g2 g3 (by rw [HTOP.out]; exact g4) G5.out (fun e => by simp [e] at z6) (fun e => by rcases e with e | e <;> simp [e] at z9 z11) (fun e => by simpa using mi))
                      go_wp2
                      (go_ret; refine ⟨ret_bool ?_, EXX⟩)
                      rw [HN.out, ← mi]
                · cases mi : decide (1 ≤ f.h)
                  · have HN := Lib.hid (treNum_no (c := c) (f := f) (Or.inr (Or.inr (Or.inr (Or.inr (Or.inr (Or.inr (Or.inl ⟨Or.inr (by simpa using z11), Or.inl (by simp at mi; omega)⟩))))))))
                    go_upto_region 8 with fail
                    ((refine wp_region_ext_lit (by kernel_rfl) (by kernel_rfl) ?_); (repeat (go_big_quiet_step ((go_at_call 60; exact quiet_ext ((upR_any c hok f.n f.h (by omega) (by omega) _).mono fun e w' ⟨he, hx⟩ => ⟨by rw [he, HU.out], hx⟩))))); (refine wpQuiet_nil ?_; intro _ hw'; obtain ⟨⟨osq, nq⟩, hw''⟩ := hw'; replace hw'' : _ = grew _ osq nq := hw''; subst hw''))
                    go_wp2
                    (go_ret; refine ⟨ret_bool ?_, EXX⟩)
                    rw [HN.out]
                  · cases mu : decide (f.i < U)
                    · have HN := Lib.hid (treNum_no (c := c) (f := f) (Or.inr (Or.inr (Or.inr (Or.inr (Or.inr (Or.inr (Or.inl ⟨Or.inr (by simpa using z11), Or.inr (by rw [HU.out]; simp at mu; omega)⟩))))))))
                      go_upto_region 8 with fail
                      ((refine wp_region_ext_lit (by kernel_rfl) (by kernel_rfl) ?_); (repeat (go_big_quiet_step ((go_at_call 60; exact quiet_ext ((upR_any c hok f.n f.h (by omega) (by omega) _).mono fun e w' ⟨he, hx⟩ => ⟨by rw [he, HU.out], hx⟩))))); (refine wpQuiet_nil ?_; intro _ hw'; obtain ⟨⟨osq, nq⟩, hw''⟩ := hw'; replace hw'' : _ = grew _ osq nq := hw''; subst hw''))
                      go_wp2
                      (go_ret; refine ⟨ret_bool ?_, EXX⟩)
                      rw [HN.out]
                    · have HN := Lib.hid (treNum_of g1 g2 g3 (by rw [HTOP.out]; exact g4) G5.out (fun e => by simp [e] at z6) (fun _ => ⟨by simpa using mi, by rw [HU.out]; simpa using mu⟩) (fun e => by simp [e] at z9; try simp [e] at z11))
                      go_upto_region 8 with fail
                      ((refine wp_region_ext_lit (by kernel_rfl) (by kernel_rfl) ?_); (repeat (go_big_quiet_step ((go_at_call 60; exact quiet_ext ((upR_any c hok f.n f.h (by omega) (by omega) _).mono fun e w' ⟨he, hx⟩ => ⟨by rw [he, HU.out], hx⟩))))); (refine wpQuiet_nil ?_; intro _ hw'; obtain ⟨⟨osq, nq⟩, hw''⟩ := hw'; replace hw'' : _ = grew _ osq nq := hw''; subst hw''))
                      go_wp2
                      (go_ret; refine ⟨ret_bool ?_, EXX⟩)
                      rw [HN.out]
              · cases mi : decide (1 ≤ f.h)
                · have HN := Lib.hid (treNum_no (c := c) (f := f) (Or.inr (Or.inr (Or.inr (Or.inr (Or.inr (Or.inr (Or.inl ⟨Or.inl (by simpa using z9), Or.inl (by simp at mi; omega)⟩))))))))
                  go_upto_region 8 with fail
                  ((refine wp_region_ext_lit (by kernel_rfl) (by kernel_rfl) ?_); (repeat (go_big_quiet_step ((go_at_call 60; exact quiet_ext ((upR_any c hok f.n f.h (by omega) (by omega) _).mono fun e w' ⟨he, hx⟩ => ⟨by rw [he, HU.out], hx⟩))))); (refine wpQuiet_nil ?_; intro _ hw'; obtain ⟨⟨osq, nq⟩, hw''⟩ := hw'; replace hw'' : _ = grew _ osq nq := hw''; subst hw''))
                  go_wp2
                  (go_ret; refine ⟨ret_bool ?_, EXX⟩)
                  rw [HN.out]
                · cases mu : decide (f.i < U)
                  · have HN := Lib.hid (treNum_no (c := c) (f := f) (Or.inr (Or.inr (Or.inr (Or.inr (Or.inr (Or.inr (Or.inl ⟨Or.inl (by simpa using z9), Or.inr (by rw [HU.out]; simp at mu; omega)⟩))))))))
                    go_upto_region 8 with fail
                    ((refine wp_region_ext_lit (by kernel_rfl) (by kernel_rfl) ?_); (repeat (go_big_quiet_step ((go_at_call 60; exact quiet_ext ((upR_any c hok f.n f.h (by omega) (by omega) _).mono fun e w' ⟨he, hx⟩ => ⟨by rw [he, HU.out], hx⟩))))); (refine wpQuiet_nil ?_; intro _ hw'; obtain ⟨⟨osq, nq⟩, hw''⟩ := hw'; replace hw'' : _ = grew _ osq nq := hw''; subst hw''))
                    go_wp2
                    (go_ret; refine ⟨ret_bool ?_, EXX⟩)
                    rw [HN.out]
                  · have HN := Lib.hid (treNum_of g1 g2 g3 (by rw [HTOP.out]; exact g4) G5.out (fun e => by simp [e] at z6) (fun _ => ⟨by simpa using mi, by rw [HU.out]; simpa using mu⟩) (fun e => by simp [e] at z9; try simp [e] at z11))
                    go_upto_region 8 with fail
                    ((refine wp_region_ext_lit (by kernel_rfl) (by kernel_rfl) ?_); (repeat (go_big_quiet_step ((go_at_call 60; exact quiet_ext ((upR_any c hok f.n f.h (by omega) (by omega) _).mono fun e w' ⟨he, hx⟩ => ⟨by rw [he, HU.out], hx⟩))))); (refine wpQuiet_nil ?_; intro _ hw'; obtain ⟨⟨osq, nq⟩, hw''⟩ := hw'; replace hw'' : _ = grew _ osq nq := hw''; subst hw''))
                    go_wp2
                    (go_ret; refine ⟨ret_bool ?_, EXX⟩)
                    rw [HN.out]
            · have z9 : (f.pc == 9) = false := by simp at z6; simp [z6]
              have z11 : (f.pc == 11) = false := by simp at z6; simp [z6]
              have z12 : (f.pc == 12) = false := by simp at z6; simp [z6]
              cases mi : decide (1 ≤ f.i)
              · have HN := Lib.hid (treNum_no (c := c) (f := f) (Or.inr (Or.inr (Or.inr (Or.inr (Or.inr (Or.inl ⟨by simpa using z6, by simp at mi; omega⟩)))))))
                go_wp2
                (go_ret; refine ⟨ret_bool ?_, EXX⟩)
                rw [HN.out, ← mi]
              · have HN := Lib.hid (treNum_of g1 g2 g3 (by rw [HTOP.out]; exact g4) G5.out (fun e => by simpa using mi) (fun e => by rcases e with e | e <;> simp [e] at z9 z11) (fun e => by simp [e] at z12))
                go_wp2
                (go_ret; refine ⟨ret_bool ?_, EXX⟩)
                rw [HN.out, ← mi]
        · ((refine wp_region_ext_lit (by kernel_rfl) (by kernel_rfl) ?_); (try dsimp only [List.append]); (repeat (go_big_quiet_step ((go_at_call 78; exact quiet_ext ((topR13_any c hok _).mono fun e w' ⟨he, hx⟩ => ⟨by rw [he, HTOP.out], hx⟩))))); (refine wpQuiet_nil ?_; intro _ hw'; obtain ⟨⟨osq, nq⟩, hw''⟩ := hw'; replace hw'' : _ = grew _ osq nq := hw''; subst hw''))
          go_wp2
          (go_ret; refine ⟨ret_bool ?_, EXX⟩)
          rw [treNum_no (Or.inr (Or.inr (Or.inr (Or.inl (by rw [HTOP.out]; simpa using mh)))))]
      · ((refine wp_region_ext_lit (by kernel_rfl) (by kernel_rfl) ?_); (try dsimp only [List.append]); (repeat (go_big_quiet_step ((go_at_call 78; exact quiet_ext ((topR13_any c hok _).mono fun e w' ⟨he, hx⟩ => ⟨by rw [he, HTOP.out], hx⟩))))); (refine wpQuiet_nil ?_; intro _ hw'; obtain ⟨⟨osq, nq⟩, hw''⟩ := hw'; replace hw'' : _ = grew _ osq nq := hw''; subst hw''))
        go_wp2
        (go_ret; refine ⟨ret_bool ?_, EXX⟩)
        rw [treNum_no (Or.inr (Or.inr (Or.inl (by simpa using mj))))]
    · ((refine wp_region_ext_lit (by kernel_rfl) (by kernel_rfl) ?_); (try dsimp only [List.append]); (repeat (go_big_quiet_step ((go_at_call 78; exact quiet_ext ((topR13_any c hok _).mono fun e w' ⟨he, hx⟩ => ⟨by rw [he, HTOP.out], hx⟩))))); (refine wpQuiet_nil ?_; intro _ hw'; obtain ⟨⟨osq, nq⟩, hw''⟩ := hw'; replace hw'' : _ = grew _ osq nq := hw''; subst hw''))
      go_wp2
      (go_ret; refine ⟨ret_bool ?_, EXX⟩)
      rw [treNum_no (Or.inr (Or.inl (by simpa using mp)))]
  · ((refine wp_region_ext_lit (by kernel_rfl) (by kernel_rfl) ?_); (try dsimp only [List.append]); (repeat (go_big_quiet_step ((go_at_call 78; exact quiet_ext ((topR13_any c hok _).mono fun e w' ⟨he, hx⟩ => ⟨by rw [he, HTOP.out], hx⟩))))); (refine wpQuiet_nil ?_; intro _ hw'; obtain ⟨⟨osq, nq⟩, hw''⟩ := hw'; replace hw'' : _ = grew _ osq nq := hw''; subst hw''))
    go_wp2
    (go_ret; refine ⟨ret_bool ?_, EXX⟩)
    rw [treNum_no (Or.inl (by simpa using mn))]
end Go.Proofs.YtmhmaifmendebaaGreatDoor.tree
/- The walk of the reference's 'Step', layer 'tree'. -/
namespace Go.Proofs.YtmhmaifmendebaaGreatDoor.tree
open Go Go.RowKit
set_option maxRecDepth 100000
set_option maxHeartbeats 8000000

theorem offR_as (c : Cfg) (hc : TreOk c) (h i X : Int) (hh : 0 ≤ h ∧ h ≤ 4) (hi : -1000 ≤ i ∧ i ≤ 1000) (hX : treOff c h i = X) (w : World) : Calls Tryz.prog 58 #[c.v, .int .i64 h, .int .i64 i] w
    fun e w' => e = .returned (.int .i64 X) ∧ Ext w w' := by
  subst hX
  exact offR_any c hc h i hh hi w
theorem stepR_0 (c : Cfg) (f : Frm) (hc : TreOk c) (hf : f.Fits) (hnum : treNum c f = true) (hp : f.pc = 0) (w : World) : Calls Tryz.prog 33 #[c.v, f.v] w
    fun e w' => e = .returned (treStep c f).v ∧ Ext w w' := by
  obtain ⟨m1, m2, m3, m4, m5, m6, m7, m8⟩ := treNum_facts hnum
  have htop := topI_bd c.cap c.node
  change 0 ≤ treTop c ∧ treTop c ≤ 4 at htop
  have hcap := hc.cap
  obtain ⟨⟨k0, k1⟩, ⟨a0, a1⟩, ⟨b0, b1⟩, ⟨p0, p1⟩, ⟨i0, i1⟩, ⟨j0, j1⟩, ⟨n0, n1⟩, ⟨q0, q1⟩, ⟨h0, h1⟩, ⟨x0, x1⟩, ⟨y0, y1⟩⟩ := hf
  have HS1 : Hid (treStep c f = ⟨1, 0, 0, 0, 0, 0, 0⟩) := Lib.hid (by simp [treStep, hp])
  have hp' : (f.pc == 0) = true := by simpa using hp
  have hwi : IntKind.i64.wrap f.i = f.i := by rw [IntKind.wrap_i64]; omega
  have hwn : IntKind.i64.wrap f.n = f.n := by rw [IntKind.wrap_i64]; omega
  have hwp : IntKind.i64.wrap f.p = f.p := by rw [IntKind.wrap_i64]; omega
  have hwh : IntKind.i64.wrap f.h = f.h := by rw [IntKind.wrap_i64]; omega
  have hwi1 : IntKind.i64.wrap (f.i - 1) = f.i - 1 := by rw [IntKind.wrap_i64]; omega
  have hwh1 : IntKind.i64.wrap (f.h - 1) = f.h - 1 := by rw [IntKind.wrap_i64]; omega
  have hua : IntKind.u64.wrap f.a = f.a := by rw [IntKind.wrap_u64]; omega
  have hub : IntKind.u64.wrap f.b = f.b := by rw [IntKind.wrap_u64]; omega
  have hux : IntKind.u64.wrap f.x = f.x := by rw [IntKind.wrap_u64]; omega
  have huy : IntKind.u64.wrap f.y = f.y := by rw [IntKind.wrap_u64]; omega
  have HK : Hid (Holds ((w.alloc (.cells #[.int .u8 c.object, .int .i64 c.instances, .int .i64 c.threads, .int .u8 c.kind, .int .i64 c.stripes, .int .i64 c.bits, .int .i64 c.cap, .int .i64 c.node, .int .i64 c.batch, .int .i64 c.chunk, .int .u64 c.limit, .int .u64 c.most] 24)).alloc (.cells #[.int .u8 f.kind, .int .u32 f.a, .int .u32 f.b, .int .u8 f.pc, .int .u8 f.i, .int .u8 f.j, .int .u8 f.n, .int .u8 f.p, .int .u8 f.h, .int .u32 f.x, .int .u32 f.y] 27)) ([(w.heap.size, 0, .int .u8 c.object), (w.heap.size, 1, .int .i64 c.instances), (w.heap.size, 2, .int .i64 c.threads), (w.heap.size, 3, .int .u8 c.kind), (w.heap.size, 4, .int .i64 c.stripes), (w.heap.size, 5, .int .i64 c.bits), (w.heap.size, 6, .int .i64 c.cap), (w.heap.size, 7, .int .i64 c.node), (w.heap.size, 8, .int .i64 c.batch), (w.heap.size, 9, .int .i64 c.chunk), (w.heap.size, 10, .int .u64 c.limit), (w.heap.size, 11, .int .u64 c.most)] ++ [(w.heap.size + 1, 0, .int .u8 f.kind), (w.heap.size + 1, 1, .int .u32 f.a), (w.heap.size + 1, 2, .int .u32 f.b), (w.heap.size + 1, 3, .int .u8 f.pc), (w.heap.size + 1, 4, .int .u8 f.i), (w.heap.size + 1, 5, .int .u8 f.j), (w.heap.size + 1, 6, .int .u8 f.n), (w.heap.size + 1, 7, .int .u8 f.p), (w.heap.size + 1, 8, .int .u8 f.h), (w.heap.size + 1, 9, .int .u32 f.x), (w.heap.size + 1, 10, .int .u32 f.y)])) := Lib.hid (by rw [holds_iff]; simp [go_sem])
  clear hp hnum m5 m6 m7 m8
  go_enter Tryz.func33, Tryz.ntmps33
  go_wp2
  refine bodyPost_ret (v := (treStep c f).v) (by rw [HS1.out]; simp [results, Tryz.results33, go_sem]) rfl ⟨rfl, EX⟩
theorem stepR_1 (c : Cfg) (f : Frm) (hc : TreOk c) (hf : f.Fits) (hnum : treNum c f = true) (hp : f.pc = 1) (w : World) : Calls Tryz.prog 33 #[c.v, f.v] w
    fun e w' => e = .returned (treStep c f).v ∧ Ext w w' := by
  obtain ⟨m1, m2, m3, m4, m5, m6, m7, m8⟩ := treNum_facts hnum
  have htop := topI_bd c.cap c.node
  change 0 ≤ treTop c ∧ treTop c ≤ 4 at htop
  have hcap := hc.cap
  obtain ⟨⟨k0, k1⟩, ⟨a0, a1⟩, ⟨b0, b1⟩, ⟨p0, p1⟩, ⟨i0, i1⟩, ⟨j0, j1⟩, ⟨n0, n1⟩, ⟨q0, q1⟩, ⟨h0, h1⟩, ⟨x0, x1⟩, ⟨y0, y1⟩⟩ := hf
  obtain ⟨X, hX⟩ : ∃ X, treOff c f.h f.i = X := ⟨_, rfl⟩
  have HA := Lib.hid hX
  have HS1 : Hid (treStep c f = ⟨1, X, 0, 0, 0, 0, 0⟩) := Lib.hid (by simp [treStep, hp, hX])
  have hp' : (f.pc == 1) = true := by simpa using hp
  have hwi : IntKind.i64.wrap f.i = f.i := by rw [IntKind.wrap_i64]; omega
  have hwn : IntKind.i64.wrap f.n = f.n := by rw [IntKind.wrap_i64]; omega
  have hwp : IntKind.i64.wrap f.p = f.p := by rw [IntKind.wrap_i64]; omega
  have hwh : IntKind.i64.wrap f.h = f.h := by rw [IntKind.wrap_i64]; omega
  have hwi1 : IntKind.i64.wrap (f.i - 1) = f.i - 1 := by rw [IntKind.wrap_i64]; omega
  have hwh1 : IntKind.i64.wrap (f.h - 1) = f.h - 1 := by rw [IntKind.wrap_i64]; omega
  have hua : IntKind.u64.wrap f.a = f.a := by rw [IntKind.wrap_u64]; omega
  have hub : IntKind.u64.wrap f.b = f.b := by rw [IntKind.wrap_u64]; omega
  have hux : IntKind.u64.wrap f.x = f.x := by rw [IntKind.wrap_u64]; omega
  have huy : IntKind.u64.wrap f.y = f.y := by rw [IntKind.wrap_u64]; omega
  have HK : Hid (Holds ((w.alloc (.cells #[.int .u8 c.object, .int .i64 c.instances, .int .i64 c.threads, .int .u8 c.kind, .int .i64 c.stripes, .int .i64 c.bits, .int .i64 c.cap, .int .i64 c.node, .int .i64 c.batch, .int .i64 c.chunk, .int .u64 c.limit, .int .u64 c.most] 24)).alloc (.cells #[.int .u8 f.kind, .int .u32 f.a, .int .u32 f.b, .int .u8 f.pc, .int .u8 f.i, .int .u8 f.j, .int .u8 f.n, .int .u8 f.p, .int .u8 f.h, .int .u32 f.x, .int .u32 f.y] 27)) ([(w.heap.size, 0, .int .u8 c.object), (w.heap.size, 1, .int .i64 c.instances), (w.heap.size, 2, .int .i64 c.threads), (w.heap.size, 3, .int .u8 c.kind), (w.heap.size, 4, .int .i64 c.stripes), (w.heap.size, 5, .int .i64 c.bits), (w.heap.size, 6, .int .i64 c.cap), (w.heap.size, 7, .int .i64 c.node), (w.heap.size, 8, .int .i64 c.batch), (w.heap.size, 9, .int .i64 c.chunk), (w.heap.size, 10, .int .u64 c.limit), (w.heap.size, 11, .int .u64 c.most)] ++ [(w.heap.size + 1, 0, .int .u8 f.kind), (w.heap.size + 1, 1, .int .u32 f.a), (w.heap.size + 1, 2, .int .u32 f.b), (w.heap.size + 1, 3, .int .u8 f.pc), (w.heap.size + 1, 4, .int .u8 f.i), (w.heap.size + 1, 5, .int .u8 f.j), (w.heap.size + 1, 6, .int .u8 f.n), (w.heap.size + 1, 7, .int .u8 f.p), (w.heap.size + 1, 8, .int .u8 f.h), (w.heap.size + 1, 9, .int .u32 f.x), (w.heap.size + 1, 10, .int .u32 f.y)])) := Lib.hid (by rw [holds_iff]; simp [go_sem])
  clear hp hnum m5 m6 m7 m8 hX
  go_enter Tryz.func33, Tryz.ntmps33
  go_wp2_with (go_at_call 58; (with_reducible refine (offR_as c hc (f.h) (f.i) X (by omega) (by omega) HA.out _).mono ?_); rintro e w1 ⟨rfl, os1, n1, rfl⟩)
  refine bodyPost_ret (v := (treStep c f).v) (by rw [HS1.out]; simp [results, Tryz.results33, go_sem]) rfl ⟨rfl, EX⟩
theorem stepR_3 (c : Cfg) (f : Frm) (hc : TreOk c) (hf : f.Fits) (hnum : treNum c f = true) (hp : f.pc = 3) (w : World) : Calls Tryz.prog 33 #[c.v, f.v] w
    fun e w' => e = .returned (treStep c f).v ∧ Ext w w' := by
  obtain ⟨m1, m2, m3, m4, m5, m6, m7, m8⟩ := treNum_facts hnum
  have htop := topI_bd c.cap c.node
  change 0 ≤ treTop c ∧ treTop c ≤ 4 at htop
  have hcap := hc.cap
  obtain ⟨⟨k0, k1⟩, ⟨a0, a1⟩, ⟨b0, b1⟩, ⟨p0, p1⟩, ⟨i0, i1⟩, ⟨j0, j1⟩, ⟨n0, n1⟩, ⟨q0, q1⟩, ⟨h0, h1⟩, ⟨x0, x1⟩, ⟨y0, y1⟩⟩ := hf
  obtain ⟨X, hX⟩ : ∃ X, treOff c 0 (f.p - 1) = X := ⟨_, rfl⟩
  have HA := Lib.hid hX
  have HS1 : Hid (treStep c f = ⟨1, X, 0, 0, 0, 0, 0⟩) := Lib.hid (by simp [treStep, hp, hX])
  have hp' : (f.pc == 3) = true := by simpa using hp
  have hwi : IntKind.i64.wrap f.i = f.i := by rw [IntKind.wrap_i64]; omega
  have hwn : IntKind.i64.wrap f.n = f.n := by rw [IntKind.wrap_i64]; omega
  have hwp : IntKind.i64.wrap f.p = f.p := by rw [IntKind.wrap_i64]; omega
  have hwh : IntKind.i64.wrap f.h = f.h := by rw [IntKind.wrap_i64]; omega
  have hwi1 : IntKind.i64.wrap (f.i - 1) = f.i - 1 := by rw [IntKind.wrap_i64]; omega
  have hwh1 : IntKind.i64.wrap (f.h - 1) = f.h - 1 := by rw [IntKind.wrap_i64]; omega
  have hua : IntKind.u64.wrap f.a = f.a := by rw [IntKind.wrap_u64]; omega
  have hub : IntKind.u64.wrap f.b = f.b := by rw [IntKind.wrap_u64]; omega
  have hux : IntKind.u64.wrap f.x = f.x := by rw [IntKind.wrap_u64]; omega
  have huy : IntKind.u64.wrap f.y = f.y := by rw [IntKind.wrap_u64]; omega
  have HK : Hid (Holds ((w.alloc (.cells #[.int .u8 c.object, .int .i64 c.instances, .int .i64 c.threads, .int .u8 c.kind, .int .i64 c.stripes, .int .i64 c.bits, .int .i64 c.cap, .int .i64 c.node, .int .i64 c.batch, .int .i64 c.chunk, .int .u64 c.limit, .int .u64 c.most] 24)).alloc (.cells #[.int .u8 f.kind, .int .u32 f.a, .int .u32 f.b, .int .u8 f.pc, .int .u8 f.i, .int .u8 f.j, .int .u8 f.n, .int .u8 f.p, .int .u8 f.h, .int .u32 f.x, .int .u32 f.y] 27)) ([(w.heap.size, 0, .int .u8 c.object), (w.heap.size, 1, .int .i64 c.instances), (w.heap.size, 2, .int .i64 c.threads), (w.heap.size, 3, .int .u8 c.kind), (w.heap.size, 4, .int .i64 c.stripes), (w.heap.size, 5, .int .i64 c.bits), (w.heap.size, 6, .int .i64 c.cap), (w.heap.size, 7, .int .i64 c.node), (w.heap.size, 8, .int .i64 c.batch), (w.heap.size, 9, .int .i64 c.chunk), (w.heap.size, 10, .int .u64 c.limit), (w.heap.size, 11, .int .u64 c.most)] ++ [(w.heap.size + 1, 0, .int .u8 f.kind), (w.heap.size + 1, 1, .int .u32 f.a), (w.heap.size + 1, 2, .int .u32 f.b), (w.heap.size + 1, 3, .int .u8 f.pc), (w.heap.size + 1, 4, .int .u8 f.i), (w.heap.size + 1, 5, .int .u8 f.j), (w.heap.size + 1, 6, .int .u8 f.n), (w.heap.size + 1, 7, .int .u8 f.p), (w.heap.size + 1, 8, .int .u8 f.h), (w.heap.size + 1, 9, .int .u32 f.x), (w.heap.size + 1, 10, .int .u32 f.y)])) := Lib.hid (by rw [holds_iff]; simp [go_sem])
  clear hp hnum m5 m6 m7 m8 hX
  go_enter Tryz.func33, Tryz.ntmps33
  go_wp2_with (go_at_call 58; (with_reducible refine (offR_as c hc (0) (f.p - 1) X (by omega) (by omega) HA.out _).mono ?_); rintro e w1 ⟨rfl, os1, n1, rfl⟩)
  refine bodyPost_ret (v := (treStep c f).v) (by rw [HS1.out]; simp [results, Tryz.results33, go_sem]) rfl ⟨rfl, EX⟩
theorem stepR_4 (c : Cfg) (f : Frm) (hc : TreOk c) (hf : f.Fits) (hnum : treNum c f = true) (hp : f.pc = 4) (w : World) : Calls Tryz.prog 33 #[c.v, f.v] w
    fun e w' => e = .returned (treStep c f).v ∧ Ext w w' := by
  obtain ⟨m1, m2, m3, m4, m5, m6, m7, m8⟩ := treNum_facts hnum
  have htop := topI_bd c.cap c.node
  change 0 ≤ treTop c ∧ treTop c ≤ 4 at htop
  have hcap := hc.cap
  obtain ⟨⟨k0, k1⟩, ⟨a0, a1⟩, ⟨b0, b1⟩, ⟨p0, p1⟩, ⟨i0, i1⟩, ⟨j0, j1⟩, ⟨n0, n1⟩, ⟨q0, q1⟩, ⟨h0, h1⟩, ⟨x0, x1⟩, ⟨y0, y1⟩⟩ := hf
  obtain ⟨X, hX⟩ : ∃ X, treOff c 0 f.p = X := ⟨_, rfl⟩
  have HA := Lib.hid hX
  have HS1 : Hid (treStep c f = ⟨2, X, f.a, f.b, 0, 0, 0⟩) := Lib.hid (by simp [treStep, hp, hX])
  have hp' : (f.pc == 4) = true := by simpa using hp
  have hwi : IntKind.i64.wrap f.i = f.i := by rw [IntKind.wrap_i64]; omega
  have hwn : IntKind.i64.wrap f.n = f.n := by rw [IntKind.wrap_i64]; omega
  have hwp : IntKind.i64.wrap f.p = f.p := by rw [IntKind.wrap_i64]; omega
  have hwh : IntKind.i64.wrap f.h = f.h := by rw [IntKind.wrap_i64]; omega
  have hwi1 : IntKind.i64.wrap (f.i - 1) = f.i - 1 := by rw [IntKind.wrap_i64]; omega
  have hwh1 : IntKind.i64.wrap (f.h - 1) = f.h - 1 := by rw [IntKind.wrap_i64]; omega
  have hua : IntKind.u64.wrap f.a = f.a := by rw [IntKind.wrap_u64]; omega
  have hub : IntKind.u64.wrap f.b = f.b := by rw [IntKind.wrap_u64]; omega
  have hux : IntKind.u64.wrap f.x = f.x := by rw [IntKind.wrap_u64]; omega
  have huy : IntKind.u64.wrap f.y = f.y := by rw [IntKind.wrap_u64]; omega
  have HK : Hid (Holds ((w.alloc (.cells #[.int .u8 c.object, .int .i64 c.instances, .int .i64 c.threads, .int .u8 c.kind, .int .i64 c.stripes, .int .i64 c.bits, .int .i64 c.cap, .int .i64 c.node, .int .i64 c.batch, .int .i64 c.chunk, .int .u64 c.limit, .int .u64 c.most] 24)).alloc (.cells #[.int .u8 f.kind, .int .u32 f.a, .int .u32 f.b, .int .u8 f.pc, .int .u8 f.i, .int .u8 f.j, .int .u8 f.n, .int .u8 f.p, .int .u8 f.h, .int .u32 f.x, .int .u32 f.y] 27)) ([(w.heap.size, 0, .int .u8 c.object), (w.heap.size, 1, .int .i64 c.instances), (w.heap.size, 2, .int .i64 c.threads), (w.heap.size, 3, .int .u8 c.kind), (w.heap.size, 4, .int .i64 c.stripes), (w.heap.size, 5, .int .i64 c.bits), (w.heap.size, 6, .int .i64 c.cap), (w.heap.size, 7, .int .i64 c.node), (w.heap.size, 8, .int .i64 c.batch), (w.heap.size, 9, .int .i64 c.chunk), (w.heap.size, 10, .int .u64 c.limit), (w.heap.size, 11, .int .u64 c.most)] ++ [(w.heap.size + 1, 0, .int .u8 f.kind), (w.heap.size + 1, 1, .int .u32 f.a), (w.heap.size + 1, 2, .int .u32 f.b), (w.heap.size + 1, 3, .int .u8 f.pc), (w.heap.size + 1, 4, .int .u8 f.i), (w.heap.size + 1, 5, .int .u8 f.j), (w.heap.size + 1, 6, .int .u8 f.n), (w.heap.size + 1, 7, .int .u8 f.p), (w.heap.size + 1, 8, .int .u8 f.h), (w.heap.size + 1, 9, .int .u32 f.x), (w.heap.size + 1, 10, .int .u32 f.y)])) := Lib.hid (by rw [holds_iff]; simp [go_sem])
  clear hp hnum m5 m6 m7 m8 hX
  go_enter Tryz.func33, Tryz.ntmps33
  go_upto_region 12 with fail
  go_region_held3 (fun W => W.cell? ⟨w.heap.size, 0, none⟩ = some (.int .u8 c.object) ∧ W.cell? ⟨w.heap.size, 1, none⟩ = some (.int .i64 c.instances) ∧ W.cell? ⟨w.heap.size, 2, none⟩ = some (.int .i64 c.threads) ∧ W.cell? ⟨w.heap.size, 3, none⟩ = some (.int .u8 c.kind) ∧ W.cell? ⟨w.heap.size, 4, none⟩ = some (.int .i64 c.stripes) ∧ W.cell? ⟨w.heap.size, 5, none⟩ = some (.int .i64 c.bits) ∧ W.cell? ⟨w.heap.size, 6, none⟩ = some (.int .i64 c.cap) ∧ W.cell? ⟨w.heap.size, 7, none⟩ = some (.int .i64 c.node) ∧ W.cell? ⟨w.heap.size, 8, none⟩ = some (.int .i64 c.batch) ∧ W.cell? ⟨w.heap.size, 9, none⟩ = some (.int .i64 c.chunk) ∧ W.cell? ⟨w.heap.size, 10, none⟩ = some (.int .u64 c.limit) ∧ W.cell? ⟨w.heap.size, 11, none⟩ = some (.int .u64 c.most) ∧ W.cell? ⟨w.heap.size + 1, 0, none⟩ = some (.int .u8 f.kind) ∧ W.cell? ⟨w.heap.size + 1, 1, none⟩ = some (.int .u32 f.a) ∧ W.cell? ⟨w.heap.size + 1, 2, none⟩ = some (.int .u32 f.b) ∧ W.cell? ⟨w.heap.size + 1, 3, none⟩ = some (.int .u8 f.pc) ∧ W.cell? ⟨w.heap.size + 1, 4, none⟩ = some (.int .u8 f.i) ∧ W.cell? ⟨w.heap.size + 1, 5, none⟩ = some (.int .u8 f.j) ∧ W.cell? ⟨w.heap.size + 1, 6, none⟩ = some (.int .u8 f.n) ∧ W.cell? ⟨w.heap.size + 1, 7, none⟩ = some (.int .u8 f.p) ∧ W.cell? ⟨w.heap.size + 1, 8, none⟩ = some (.int .u8 f.h) ∧ W.cell? ⟨w.heap.size + 1, 9, none⟩ = some (.int .u32 f.x) ∧ W.cell? ⟨w.heap.size + 1, 10, none⟩ = some (.int .u32 f.y)) (exact HK.out.ext EX) (first | (go_at_call 58; (with_reducible refine (offR_as c hc (0) (f.p) X (by omega) (by omega) HA.out _).mono ?_); rintro e w1 ⟨rfl, os1, n1, rfl⟩))
  all_goals
    go_wp2
    refine bodyPost_ret (v := (treStep c f).v) (by rw [HS1.out]; simp [results, Tryz.results33, go_sem]) rfl ⟨rfl, EX⟩
theorem stepR_5 (c : Cfg) (f : Frm) (hc : TreOk c) (hf : f.Fits) (hnum : treNum c f = true) (hp : f.pc = 5) (w : World) : Calls Tryz.prog 33 #[c.v, f.v] w
    fun e w' => e = .returned (treStep c f).v ∧ Ext w w' := by
  obtain ⟨m1, m2, m3, m4, m5, m6, m7, m8⟩ := treNum_facts hnum
  have htop := topI_bd c.cap c.node
  change 0 ≤ treTop c ∧ treTop c ≤ 4 at htop
  have hcap := hc.cap
  obtain ⟨⟨k0, k1⟩, ⟨a0, a1⟩, ⟨b0, b1⟩, ⟨p0, p1⟩, ⟨i0, i1⟩, ⟨j0, j1⟩, ⟨n0, n1⟩, ⟨q0, q1⟩, ⟨h0, h1⟩, ⟨x0, x1⟩, ⟨y0, y1⟩⟩ := hf
  obtain ⟨X, hX⟩ : ∃ X, treOff c 0 (f.i - 1) = X := ⟨_, rfl⟩
  have HA := Lib.hid hX
  have HS1 : Hid (treStep c f = ⟨1, X, 0, 0, 0, 0, 0⟩) := Lib.hid (by simp [treStep, hp, hX])
  have hp' : (f.pc == 5) = true := by simpa using hp
  have hwi : IntKind.i64.wrap f.i = f.i := by rw [IntKind.wrap_i64]; omega
  have hwn : IntKind.i64.wrap f.n = f.n := by rw [IntKind.wrap_i64]; omega
  have hwp : IntKind.i64.wrap f.p = f.p := by rw [IntKind.wrap_i64]; omega
  have hwh : IntKind.i64.wrap f.h = f.h := by rw [IntKind.wrap_i64]; omega
  have hwi1 : IntKind.i64.wrap (f.i - 1) = f.i - 1 := by rw [IntKind.wrap_i64]; omega
  have hwh1 : IntKind.i64.wrap (f.h - 1) = f.h - 1 := by rw [IntKind.wrap_i64]; omega
  have hua : IntKind.u64.wrap f.a = f.a := by rw [IntKind.wrap_u64]; omega
  have hub : IntKind.u64.wrap f.b = f.b := by rw [IntKind.wrap_u64]; omega
  have hux : IntKind.u64.wrap f.x = f.x := by rw [IntKind.wrap_u64]; omega
  have huy : IntKind.u64.wrap f.y = f.y := by rw [IntKind.wrap_u64]; omega
  have HK : Hid (Holds ((w.alloc (.cells #[.int .u8 c.object, .int .i64 c.instances, .int .i64 c.threads, .int .u8 c.kind, .int .i64 c.stripes, .int .i64 c.bits, .int .i64 c.cap, .int .i64 c.node, .int .i64 c.batch, .int .i64 c.chunk, .int .u64 c.limit, .int .u64 c.most] 24)).alloc (.cells #[.int .u8 f.kind, .int .u32 f.a, .int .u32 f.b, .int .u8 f.pc, .int .u8 f.i, .int .u8 f.j, .int .u8 f.n, .int .u8 f.p, .int .u8 f.h, .int .u32 f.x, .int .u32 f.y] 27)) ([(w.heap.size, 0, .int .u8 c.object), (w.heap.size, 1, .int .i64 c.instances), (w.heap.size, 2, .int .i64 c.threads), (w.heap.size, 3, .int .u8 c.kind), (w.heap.size, 4, .int .i64 c.stripes), (w.heap.size, 5, .int .i64 c.bits), (w.heap.size, 6, .int .i64 c.cap), (w.heap.size, 7, .int .i64 c.node), (w.heap.size, 8, .int .i64 c.batch), (w.heap.size, 9, .int .i64 c.chunk), (w.heap.size, 10, .int .u64 c.limit), (w.heap.size, 11, .int .u64 c.most)] ++ [(w.heap.size + 1, 0, .int .u8 f.kind), (w.heap.size + 1, 1, .int .u32 f.a), (w.heap.size + 1, 2, .int .u32 f.b), (w.heap.size + 1, 3, .int .u8 f.pc), (w.heap.size + 1, 4, .int .u8 f.i), (w.heap.size + 1, 5, .int .u8 f.j), (w.heap.size + 1, 6, .int .u8 f.n), (w.heap.size + 1, 7, .int .u8 f.p), (w.heap.size + 1, 8, .int .u8 f.h), (w.heap.size + 1, 9, .int .u32 f.x), (w.heap.size + 1, 10, .int .u32 f.y)])) := Lib.hid (by rw [holds_iff]; simp [go_sem])
  clear hp hnum m5 m6 m7 m8 hX
  go_enter Tryz.func33, Tryz.ntmps33
  go_wp2_with (go_at_call 58; (with_reducible refine (offR_as c hc (0) (f.i - 1) X (by omega) (by omega) HA.out _).mono ?_); rintro e w1 ⟨rfl, os1, n1, rfl⟩)
  refine bodyPost_ret (v := (treStep c f).v) (by rw [HS1.out]; simp [results, Tryz.results33, go_sem]) rfl ⟨rfl, EX⟩
theorem stepR_6 (c : Cfg) (f : Frm) (hc : TreOk c) (hf : f.Fits) (hnum : treNum c f = true) (hp : f.pc = 6) (w : World) : Calls Tryz.prog 33 #[c.v, f.v] w
    fun e w' => e = .returned (treStep c f).v ∧ Ext w w' := by
  obtain ⟨m1, m2, m3, m4, m5, m6, m7, m8⟩ := treNum_facts hnum
  have htop := topI_bd c.cap c.node
  change 0 ≤ treTop c ∧ treTop c ≤ 4 at htop
  have hcap := hc.cap
  obtain ⟨⟨k0, k1⟩, ⟨a0, a1⟩, ⟨b0, b1⟩, ⟨p0, p1⟩, ⟨i0, i1⟩, ⟨j0, j1⟩, ⟨n0, n1⟩, ⟨q0, q1⟩, ⟨h0, h1⟩, ⟨x0, x1⟩, ⟨y0, y1⟩⟩ := hf
  obtain ⟨X, hX⟩ : ∃ X, treOff c 0 f.i = X := ⟨_, rfl⟩
  have HA := Lib.hid hX
  have HS1 : Hid (treStep c f = ⟨2, X, f.x, f.y, 0, 0, 0⟩) := Lib.hid (by simp [treStep, hp, hX])
  have hp' : (f.pc == 6) = true := by simpa using hp
  have hwi : IntKind.i64.wrap f.i = f.i := by rw [IntKind.wrap_i64]; omega
  have hwn : IntKind.i64.wrap f.n = f.n := by rw [IntKind.wrap_i64]; omega
  have hwp : IntKind.i64.wrap f.p = f.p := by rw [IntKind.wrap_i64]; omega
  have hwh : IntKind.i64.wrap f.h = f.h := by rw [IntKind.wrap_i64]; omega
  have hwi1 : IntKind.i64.wrap (f.i - 1) = f.i - 1 := by rw [IntKind.wrap_i64]; omega
  have hwh1 : IntKind.i64.wrap (f.h - 1) = f.h - 1 := by rw [IntKind.wrap_i64]; omega
  have hua : IntKind.u64.wrap f.a = f.a := by rw [IntKind.wrap_u64]; omega
  have hub : IntKind.u64.wrap f.b = f.b := by rw [IntKind.wrap_u64]; omega
  have hux : IntKind.u64.wrap f.x = f.x := by rw [IntKind.wrap_u64]; omega
  have huy : IntKind.u64.wrap f.y = f.y := by rw [IntKind.wrap_u64]; omega
  have HK : Hid (Holds ((w.alloc (.cells #[.int .u8 c.object, .int .i64 c.instances, .int .i64 c.threads, .int .u8 c.kind, .int .i64 c.stripes, .int .i64 c.bits, .int .i64 c.cap, .int .i64 c.node, .int .i64 c.batch, .int .i64 c.chunk, .int .u64 c.limit, .int .u64 c.most] 24)).alloc (.cells #[.int .u8 f.kind, .int .u32 f.a, .int .u32 f.b, .int .u8 f.pc, .int .u8 f.i, .int .u8 f.j, .int .u8 f.n, .int .u8 f.p, .int .u8 f.h, .int .u32 f.x, .int .u32 f.y] 27)) ([(w.heap.size, 0, .int .u8 c.object), (w.heap.size, 1, .int .i64 c.instances), (w.heap.size, 2, .int .i64 c.threads), (w.heap.size, 3, .int .u8 c.kind), (w.heap.size, 4, .int .i64 c.stripes), (w.heap.size, 5, .int .i64 c.bits), (w.heap.size, 6, .int .i64 c.cap), (w.heap.size, 7, .int .i64 c.node), (w.heap.size, 8, .int .i64 c.batch), (w.heap.size, 9, .int .i64 c.chunk), (w.heap.size, 10, .int .u64 c.limit), (w.heap.size, 11, .int .u64 c.most)] ++ [(w.heap.size + 1, 0, .int .u8 f.kind), (w.heap.size + 1, 1, .int .u32 f.a), (w.heap.size + 1, 2, .int .u32 f.b), (w.heap.size + 1, 3, .int .u8 f.pc), (w.heap.size + 1, 4, .int .u8 f.i), (w.heap.size + 1, 5, .int .u8 f.j), (w.heap.size + 1, 6, .int .u8 f.n), (w.heap.size + 1, 7, .int .u8 f.p), (w.heap.size + 1, 8, .int .u8 f.h), (w.heap.size + 1, 9, .int .u32 f.x), (w.heap.size + 1, 10, .int .u32 f.y)])) := Lib.hid (by rw [holds_iff]; simp [go_sem])
  clear hp hnum m5 m6 m7 m8 hX
  go_enter Tryz.func33, Tryz.ntmps33
  go_upto_region 16 with fail
  go_region_held3 (fun W => W.cell? ⟨w.heap.size, 0, none⟩ = some (.int .u8 c.object) ∧ W.cell? ⟨w.heap.size, 1, none⟩ = some (.int .i64 c.instances) ∧ W.cell? ⟨w.heap.size, 2, none⟩ = some (.int .i64 c.threads) ∧ W.cell? ⟨w.heap.size, 3, none⟩ = some (.int .u8 c.kind) ∧ W.cell? ⟨w.heap.size, 4, none⟩ = some (.int .i64 c.stripes) ∧ W.cell? ⟨w.heap.size, 5, none⟩ = some (.int .i64 c.bits) ∧ W.cell? ⟨w.heap.size, 6, none⟩ = some (.int .i64 c.cap) ∧ W.cell? ⟨w.heap.size, 7, none⟩ = some (.int .i64 c.node) ∧ W.cell? ⟨w.heap.size, 8, none⟩ = some (.int .i64 c.batch) ∧ W.cell? ⟨w.heap.size, 9, none⟩ = some (.int .i64 c.chunk) ∧ W.cell? ⟨w.heap.size, 10, none⟩ = some (.int .u64 c.limit) ∧ W.cell? ⟨w.heap.size, 11, none⟩ = some (.int .u64 c.most) ∧ W.cell? ⟨w.heap.size + 1, 0, none⟩ = some (.int .u8 f.kind) ∧ W.cell? ⟨w.heap.size + 1, 1, none⟩ = some (.int .u32 f.a) ∧ W.cell? ⟨w.heap.size + 1, 2, none⟩ = some (.int .u32 f.b) ∧ W.cell? ⟨w.heap.size + 1, 3, none⟩ = some (.int .u8 f.pc) ∧ W.cell? ⟨w.heap.size + 1, 4, none⟩ = some (.int .u8 f.i) ∧ W.cell? ⟨w.heap.size + 1, 5, none⟩ = some (.int .u8 f.j) ∧ W.cell? ⟨w.heap.size + 1, 6, none⟩ = some (.int .u8 f.n) ∧ W.cell? ⟨w.heap.size + 1, 7, none⟩ = some (.int .u8 f.p) ∧ W.cell? ⟨w.heap.size + 1, 8, none⟩ = some (.int .u8 f.h) ∧ W.cell? ⟨w.heap.size + 1, 9, none⟩ = some (.int .u32 f.x) ∧ W.cell? ⟨w.heap.size + 1, 10, none⟩ = some (.int .u32 f.y)) (exact HK.out.ext EX) (first | (go_at_call 58; (with_reducible refine (offR_as c hc (0) (f.i) X (by omega) (by omega) HA.out _).mono ?_); rintro e w1 ⟨rfl, os1, n1, rfl⟩))
  all_goals
    go_wp2
    refine bodyPost_ret (v := (treStep c f).v) (by rw [HS1.out]; simp [results, Tryz.results33, go_sem]) rfl ⟨rfl, EX⟩
theorem stepR_7 (c : Cfg) (f : Frm) (hc : TreOk c) (hf : f.Fits) (hnum : treNum c f = true) (hp : f.pc = 7) (w : World) : Calls Tryz.prog 33 #[c.v, f.v] w
    fun e w' => e = .returned (treStep c f).v ∧ Ext w w' := by
  obtain ⟨m1, m2, m3, m4, m5, m6, m7, m8⟩ := treNum_facts hnum
  have htop := topI_bd c.cap c.node
  change 0 ≤ treTop c ∧ treTop c ≤ 4 at htop
  have hcap := hc.cap
  obtain ⟨⟨k0, k1⟩, ⟨a0, a1⟩, ⟨b0, b1⟩, ⟨p0, p1⟩, ⟨i0, i1⟩, ⟨j0, j1⟩, ⟨n0, n1⟩, ⟨q0, q1⟩, ⟨h0, h1⟩, ⟨x0, x1⟩, ⟨y0, y1⟩⟩ := hf
  obtain ⟨X, hX⟩ : ∃ X, treOff c 0 f.p = X := ⟨_, rfl⟩
  have HA := Lib.hid hX
  have HS1 : Hid (treStep c f = ⟨2, X, f.a, f.b, 0, 0, 0⟩) := Lib.hid (by simp [treStep, hp, hX])
  have hp' : (f.pc == 7) = true := by simpa using hp
  have hwi : IntKind.i64.wrap f.i = f.i := by rw [IntKind.wrap_i64]; omega
  have hwn : IntKind.i64.wrap f.n = f.n := by rw [IntKind.wrap_i64]; omega
  have hwp : IntKind.i64.wrap f.p = f.p := by rw [IntKind.wrap_i64]; omega
  have hwh : IntKind.i64.wrap f.h = f.h := by rw [IntKind.wrap_i64]; omega
  have hwi1 : IntKind.i64.wrap (f.i - 1) = f.i - 1 := by rw [IntKind.wrap_i64]; omega
  have hwh1 : IntKind.i64.wrap (f.h - 1) = f.h - 1 := by rw [IntKind.wrap_i64]; omega
  have hua : IntKind.u64.wrap f.a = f.a := by rw [IntKind.wrap_u64]; omega
  have hub : IntKind.u64.wrap f.b = f.b := by rw [IntKind.wrap_u64]; omega
  have hux : IntKind.u64.wrap f.x = f.x := by rw [IntKind.wrap_u64]; omega
  have huy : IntKind.u64.wrap f.y = f.y := by rw [IntKind.wrap_u64]; omega
  have HK : Hid (Holds ((w.alloc (.cells #[.int .u8 c.object, .int .i64 c.instances, .int .i64 c.threads, .int .u8 c.kind, .int .i64 c.stripes, .int .i64 c.bits, .int .i64 c.cap, .int .i64 c.node, .int .i64 c.batch, .int .i64 c.chunk, .int .u64 c.limit, .int .u64 c.most] 24)).alloc (.cells #[.int .u8 f.kind, .int .u32 f.a, .int .u32 f.b, .int .u8 f.pc, .int .u8 f.i, .int .u8 f.j, .int .u8 f.n, .int .u8 f.p, .int .u8 f.h, .int .u32 f.x, .int .u32 f.y] 27)) ([(w.heap.size, 0, .int .u8 c.object), (w.heap.size, 1, .int .i64 c.instances), (w.heap.size, 2, .int .i64 c.threads), (w.heap.size, 3, .int .u8 c.kind), (w.heap.size, 4, .int .i64 c.stripes), (w.heap.size, 5, .int .i64 c.bits), (w.heap.size, 6, .int .i64 c.cap), (w.heap.size, 7, .int .i64 c.node), (w.heap.size, 8, .int .i64 c.batch), (w.heap.size, 9, .int .i64 c.chunk), (w.heap.size, 10, .int .u64 c.limit), (w.heap.size, 11, .int .u64 c.most)] ++ [(w.heap.size + 1, 0, .int .u8 f.kind), (w.heap.size + 1, 1, .int .u32 f.a), (w.heap.size + 1, 2, .int .u32 f.b), (w.heap.size + 1, 3, .int .u8 f.pc), (w.heap.size + 1, 4, .int .u8 f.i), (w.heap.size + 1, 5, .int .u8 f.j), (w.heap.size + 1, 6, .int .u8 f.n), (w.heap.size + 1, 7, .int .u8 f.p), (w.heap.size + 1, 8, .int .u8 f.h), (w.heap.size + 1, 9, .int .u32 f.x), (w.heap.size + 1, 10, .int .u32 f.y)])) := Lib.hid (by rw [holds_iff]; simp [go_sem])
  clear hp hnum m5 m6 m7 m8 hX
  go_enter Tryz.func33, Tryz.ntmps33
  go_upto_region 12 with fail
  go_region_held3 (fun W => W.cell? ⟨w.heap.size, 0, none⟩ = some (.int .u8 c.object) ∧ W.cell? ⟨w.heap.size, 1, none⟩ = some (.int .i64 c.instances) ∧ W.cell? ⟨w.heap.size, 2, none⟩ = some (.int .i64 c.threads) ∧ W.cell? ⟨w.heap.size, 3, none⟩ = some (.int .u8 c.kind) ∧ W.cell? ⟨w.heap.size, 4, none⟩ = some (.int .i64 c.stripes) ∧ W.cell? ⟨w.heap.size, 5, none⟩ = some (.int .i64 c.bits) ∧ W.cell? ⟨w.heap.size, 6, none⟩ = some (.int .i64 c.cap) ∧ W.cell? ⟨w.heap.size, 7, none⟩ = some (.int .i64 c.node) ∧ W.cell? ⟨w.heap.size, 8, none⟩ = some (.int .i64 c.batch) ∧ W.cell? ⟨w.heap.size, 9, none⟩ = some (.int .i64 c.chunk) ∧ W.cell? ⟨w.heap.size, 10, none⟩ = some (.int .u64 c.limit) ∧ W.cell? ⟨w.heap.size, 11, none⟩ = some (.int .u64 c.most) ∧ W.cell? ⟨w.heap.size + 1, 0, none⟩ = some (.int .u8 f.kind) ∧ W.cell? ⟨w.heap.size + 1, 1, none⟩ = some (.int .u32 f.a) ∧ W.cell? ⟨w.heap.size + 1, 2, none⟩ = some (.int .u32 f.b) ∧ W.cell? ⟨w.heap.size + 1, 3, none⟩ = some (.int .u8 f.pc) ∧ W.cell? ⟨w.heap.size + 1, 4, none⟩ = some (.int .u8 f.i) ∧ W.cell? ⟨w.heap.size + 1, 5, none⟩ = some (.int .u8 f.j) ∧ W.cell? ⟨w.heap.size + 1, 6, none⟩ = some (.int .u8 f.n) ∧ W.cell? ⟨w.heap.size + 1, 7, none⟩ = some (.int .u8 f.p) ∧ W.cell? ⟨w.heap.size + 1, 8, none⟩ = some (.int .u8 f.h) ∧ W.cell? ⟨w.heap.size + 1, 9, none⟩ = some (.int .u32 f.x) ∧ W.cell? ⟨w.heap.size + 1, 10, none⟩ = some (.int .u32 f.y)) (exact HK.out.ext EX) (first | (go_at_call 58; (with_reducible refine (offR_as c hc (0) (f.p) X (by omega) (by omega) HA.out _).mono ?_); rintro e w1 ⟨rfl, os1, n1, rfl⟩))
  all_goals
    go_wp2
    refine bodyPost_ret (v := (treStep c f).v) (by rw [HS1.out]; simp [results, Tryz.results33, go_sem]) rfl ⟨rfl, EX⟩
theorem stepR_8 (c : Cfg) (f : Frm) (hc : TreOk c) (hf : f.Fits) (hnum : treNum c f = true) (hp : f.pc = 8) (w : World) : Calls Tryz.prog 33 #[c.v, f.v] w
    fun e w' => e = .returned (treStep c f).v ∧ Ext w w' := by
  obtain ⟨m1, m2, m3, m4, m5, m6, m7, m8⟩ := treNum_facts hnum
  have htop := topI_bd c.cap c.node
  change 0 ≤ treTop c ∧ treTop c ≤ 4 at htop
  have hcap := hc.cap
  obtain ⟨⟨k0, k1⟩, ⟨a0, a1⟩, ⟨b0, b1⟩, ⟨p0, p1⟩, ⟨i0, i1⟩, ⟨j0, j1⟩, ⟨n0, n1⟩, ⟨q0, q1⟩, ⟨h0, h1⟩, ⟨x0, x1⟩, ⟨y0, y1⟩⟩ := hf
  have HS1 : Hid (treStep c f = ⟨2, 0, f.n, 0, 0, 0, 0⟩) := Lib.hid (by simp [treStep, hp])
  have hp' : (f.pc == 8) = true := by simpa using hp
  have hwi : IntKind.i64.wrap f.i = f.i := by rw [IntKind.wrap_i64]; omega
  have hwn : IntKind.i64.wrap f.n = f.n := by rw [IntKind.wrap_i64]; omega
  have hwp : IntKind.i64.wrap f.p = f.p := by rw [IntKind.wrap_i64]; omega
  have hwh : IntKind.i64.wrap f.h = f.h := by rw [IntKind.wrap_i64]; omega
  have hwi1 : IntKind.i64.wrap (f.i - 1) = f.i - 1 := by rw [IntKind.wrap_i64]; omega
  have hwh1 : IntKind.i64.wrap (f.h - 1) = f.h - 1 := by rw [IntKind.wrap_i64]; omega
  have hua : IntKind.u64.wrap f.a = f.a := by rw [IntKind.wrap_u64]; omega
  have hub : IntKind.u64.wrap f.b = f.b := by rw [IntKind.wrap_u64]; omega
  have hux : IntKind.u64.wrap f.x = f.x := by rw [IntKind.wrap_u64]; omega
  have huy : IntKind.u64.wrap f.y = f.y := by rw [IntKind.wrap_u64]; omega
  have HK : Hid (Holds ((w.alloc (.cells #[.int .u8 c.object, .int .i64 c.instances, .int .i64 c.threads, .int .u8 c.kind, .int .i64 c.stripes, .int .i64 c.bits, .int .i64 c.cap, .int .i64 c.node, .int .i64 c.batch, .int .i64 c.chunk, .int .u64 c.limit, .int .u64 c.most] 24)).alloc (.cells #[.int .u8 f.kind, .int .u32 f.a, .int .u32 f.b, .int .u8 f.pc, .int .u8 f.i, .int .u8 f.j, .int .u8 f.n, .int .u8 f.p, .int .u8 f.h, .int .u32 f.x, .int .u32 f.y] 27)) ([(w.heap.size, 0, .int .u8 c.object), (w.heap.size, 1, .int .i64 c.instances), (w.heap.size, 2, .int .i64 c.threads), (w.heap.size, 3, .int .u8 c.kind), (w.heap.size, 4, .int .i64 c.stripes), (w.heap.size, 5, .int .i64 c.bits), (w.heap.size, 6, .int .i64 c.cap), (w.heap.size, 7, .int .i64 c.node), (w.heap.size, 8, .int .i64 c.batch), (w.heap.size, 9, .int .i64 c.chunk), (w.heap.size, 10, .int .u64 c.limit), (w.heap.size, 11, .int .u64 c.most)] ++ [(w.heap.size + 1, 0, .int .u8 f.kind), (w.heap.size + 1, 1, .int .u32 f.a), (w.heap.size + 1, 2, .int .u32 f.b), (w.heap.size + 1, 3, .int .u8 f.pc), (w.heap.size + 1, 4, .int .u8 f.i), (w.heap.size + 1, 5, .int .u8 f.j), (w.heap.size + 1, 6, .int .u8 f.n), (w.heap.size + 1, 7, .int .u8 f.p), (w.heap.size + 1, 8, .int .u8 f.h), (w.heap.size + 1, 9, .int .u32 f.x), (w.heap.size + 1, 10, .int .u32 f.y)])) := Lib.hid (by rw [holds_iff]; simp [go_sem])
  clear hp hnum m5 m6 m7 m8
  go_enter Tryz.func33, Tryz.ntmps33
  go_wp2
  refine bodyPost_ret (v := (treStep c f).v) (by rw [HS1.out]; simp [results, Tryz.results33, go_sem]) rfl ⟨rfl, EX⟩
theorem stepR_9 (c : Cfg) (f : Frm) (hc : TreOk c) (hf : f.Fits) (hnum : treNum c f = true) (hp : f.pc = 9) (w : World) : Calls Tryz.prog 33 #[c.v, f.v] w
    fun e w' => e = .returned (treStep c f).v ∧ Ext w w' := by
  obtain ⟨m1, m2, m3, m4, m5, m6, m7, m8⟩ := treNum_facts hnum
  have htop := topI_bd c.cap c.node
  change 0 ≤ treTop c ∧ treTop c ≤ 4 at htop
  have hcap := hc.cap
  obtain ⟨⟨k0, k1⟩, ⟨a0, a1⟩, ⟨b0, b1⟩, ⟨p0, p1⟩, ⟨i0, i1⟩, ⟨j0, j1⟩, ⟨n0, n1⟩, ⟨q0, q1⟩, ⟨h0, h1⟩, ⟨x0, x1⟩, ⟨y0, y1⟩⟩ := hf
  have m9 := m6 (Or.inl hp)
  have hn1 := treUp_pos hc (by omega) (by omega) (by omega) m9.2
  have HI9 : Hid (0 ≤ f.i ∧ f.i < upI f.n c.node f.h) := Lib.hid ⟨i0, m9.2⟩
  have hu := endI_bd (n := f.n) (w := c.node) (h := f.h) (i := f.i) (by omega) hc.node (by omega) i0
  obtain ⟨U, hU⟩ : ∃ U, endI f.n c.node f.h f.i = U := ⟨_, rfl⟩
  rw [hU] at hu
  have HU := Lib.hid hU
  obtain ⟨X, hX⟩ : ∃ X, treOff c (f.h - 1) U = X := ⟨_, rfl⟩
  have HA := Lib.hid hX
  have HS1 : Hid (treStep c f = ⟨1, X, 0, 0, 0, 0, 0⟩) := Lib.hid (by simp [treStep, hp, hU, hX])
  have hp' : (f.pc == 9) = true := by simpa using hp
  have hwi : IntKind.i64.wrap f.i = f.i := by rw [IntKind.wrap_i64]; omega
  have hwn : IntKind.i64.wrap f.n = f.n := by rw [IntKind.wrap_i64]; omega
  have hwp : IntKind.i64.wrap f.p = f.p := by rw [IntKind.wrap_i64]; omega
  have hwh : IntKind.i64.wrap f.h = f.h := by rw [IntKind.wrap_i64]; omega
  have hwi1 : IntKind.i64.wrap (f.i - 1) = f.i - 1 := by rw [IntKind.wrap_i64]; omega
  have hwh1 : IntKind.i64.wrap (f.h - 1) = f.h - 1 := by rw [IntKind.wrap_i64]; omega
  have hua : IntKind.u64.wrap f.a = f.a := by rw [IntKind.wrap_u64]; omega
  have hub : IntKind.u64.wrap f.b = f.b := by rw [IntKind.wrap_u64]; omega
  have hux : IntKind.u64.wrap f.x = f.x := by rw [IntKind.wrap_u64]; omega
  have huy : IntKind.u64.wrap f.y = f.y := by rw [IntKind.wrap_u64]; omega
  have HK : Hid (Holds ((w.alloc (.cells #[.int .u8 c.object, .int .i64 c.instances, .int .i64 c.threads, .int .u8 c.kind, .int .i64 c.stripes, .int .i64 c.bits, .int .i64 c.cap, .int .i64 c.node, .int .i64 c.batch, .int .i64 c.chunk, .int .u64 c.limit, .int .u64 c.most] 24)).alloc (.cells #[.int .u8 f.kind, .int .u32 f.a, .int .u32 f.b, .int .u8 f.pc, .int .u8 f.i, .int .u8 f.j, .int .u8 f.n, .int .u8 f.p, .int .u8 f.h, .int .u32 f.x, .int .u32 f.y] 27)) ([(w.heap.size, 0, .int .u8 c.object), (w.heap.size, 1, .int .i64 c.instances), (w.heap.size, 2, .int .i64 c.threads), (w.heap.size, 3, .int .u8 c.kind), (w.heap.size, 4, .int .i64 c.stripes), (w.heap.size, 5, .int .i64 c.bits), (w.heap.size, 6, .int .i64 c.cap), (w.heap.size, 7, .int .i64 c.node), (w.heap.size, 8, .int .i64 c.batch), (w.heap.size, 9, .int .i64 c.chunk), (w.heap.size, 10, .int .u64 c.limit), (w.heap.size, 11, .int .u64 c.most)] ++ [(w.heap.size + 1, 0, .int .u8 f.kind), (w.heap.size + 1, 1, .int .u32 f.a), (w.heap.size + 1, 2, .int .u32 f.b), (w.heap.size + 1, 3, .int .u8 f.pc), (w.heap.size + 1, 4, .int .u8 f.i), (w.heap.size + 1, 5, .int .u8 f.j), (w.heap.size + 1, 6, .int .u8 f.n), (w.heap.size + 1, 7, .int .u8 f.p), (w.heap.size + 1, 8, .int .u8 f.h), (w.heap.size + 1, 9, .int .u32 f.x), (w.heap.size + 1, 10, .int .u32 f.y)])) := Lib.hid (by rw [holds_iff]; simp [go_sem])
  clear hp hnum m5 m6 m7 m8 hX hU
  go_enter Tryz.func33, Tryz.ntmps33
  go_upto_region 20 with fail
  go_region_held3 (fun W => W.cell? ⟨w.heap.size, 0, none⟩ = some (.int .u8 c.object) ∧ W.cell? ⟨w.heap.size, 1, none⟩ = some (.int .i64 c.instances) ∧ W.cell? ⟨w.heap.size, 2, none⟩ = some (.int .i64 c.threads) ∧ W.cell? ⟨w.heap.size, 3, none⟩ = some (.int .u8 c.kind) ∧ W.cell? ⟨w.heap.size, 4, none⟩ = some (.int .i64 c.stripes) ∧ W.cell? ⟨w.heap.size, 5, none⟩ = some (.int .i64 c.bits) ∧ W.cell? ⟨w.heap.size, 6, none⟩ = some (.int .i64 c.cap) ∧ W.cell? ⟨w.heap.size, 7, none⟩ = some (.int .i64 c.node) ∧ W.cell? ⟨w.heap.size, 8, none⟩ = some (.int .i64 c.batch) ∧ W.cell? ⟨w.heap.size, 9, none⟩ = some (.int .i64 c.chunk) ∧ W.cell? ⟨w.heap.size, 10, none⟩ = some (.int .u64 c.limit) ∧ W.cell? ⟨w.heap.size, 11, none⟩ = some (.int .u64 c.most) ∧ W.cell? ⟨w.heap.size + 1, 0, none⟩ = some (.int .u8 f.kind) ∧ W.cell? ⟨w.heap.size + 1, 1, none⟩ = some (.int .u32 f.a) ∧ W.cell? ⟨w.heap.size + 1, 2, none⟩ = some (.int .u32 f.b) ∧ W.cell? ⟨w.heap.size + 1, 3, none⟩ = some (.int .u8 f.pc) ∧ W.cell? ⟨w.heap.size + 1, 4, none⟩ = some (.int .u8 f.i) ∧ W.cell? ⟨w.heap.size + 1, 5, none⟩ = some (.int .u8 f.j) ∧ W.cell? ⟨w.heap.size + 1, 6, none⟩ = some (.int .u8 f.n) ∧ W.cell? ⟨w.heap.size + 1, 7, none⟩ = some (.int .u8 f.p) ∧ W.cell? ⟨w.heap.size + 1, 8, none⟩ = some (.int .u8 f.h) ∧ W.cell? ⟨w.heap.size + 1, 9, none⟩ = some (.int .u32 f.x) ∧ W.cell? ⟨w.heap.size + 1, 10, none⟩ = some (.int .u32 f.y)) (exact HK.out.ext EX) (first | (first | (go_at_call 59; (with_reducible refine (endR_any f.n c.node f.h f.i (by omega) hc.node (by omega) HI9.out _).mono ?_); rintro e w2 ⟨rfl, rfl⟩; rw [HU.out]) | (go_at_call 58; (with_reducible refine (offR_as c hc (f.h - 1) (U) X (by omega) (by omega) HA.out _).mono ?_); rintro e w1 ⟨rfl, os1, n1, rfl⟩)))
  all_goals
    go_wp2
    refine bodyPost_ret (v := (treStep c f).v) (by rw [HS1.out]; simp [results, Tryz.results33, go_sem]) rfl ⟨rfl, EX⟩
end Go.Proofs.YtmhmaifmendebaaGreatDoor.tree
/- The walk of the reference's 'Step', layer 'tree'. -/
namespace Go.Proofs.YtmhmaifmendebaaGreatDoor.tree
open Go Go.RowKit
set_option maxRecDepth 100000
set_option maxHeartbeats 8000000

theorem offR_as2 (c : Cfg) (hc : TreOk c) (h i X : Int) (hh : 0 ≤ h ∧ h ≤ 4) (hi : -1000 ≤ i ∧ i ≤ 1000) (hX : treOff c h i = X) (w : World) : Calls Tryz.prog 58 #[c.v, .int .i64 h, .int .i64 i] w
    fun e w' => e = .returned (.int .i64 X) ∧ Ext w w' := by
  subst hX
  exact offR_any c hc h i hh hi w
theorem stepR_11 (c : Cfg) (f : Frm) (hc : TreOk c) (hf : f.Fits) (hnum : treNum c f = true) (hp : f.pc = 11) (w : World) : Calls Tryz.prog 33 #[c.v, f.v] w
    fun e w' => e = .returned (treStep c f).v ∧ Ext w w' := by
  obtain ⟨m1, m2, m3, m4, m5, m6, m7, m8⟩ := treNum_facts hnum
  have htop := topI_bd c.cap c.node
  change 0 ≤ treTop c ∧ treTop c ≤ 4 at htop
  have hcap := hc.cap
  obtain ⟨⟨k0, k1⟩, ⟨a0, a1⟩, ⟨b0, b1⟩, ⟨p0, p1⟩, ⟨i0, i1⟩, ⟨j0, j1⟩, ⟨n0, n1⟩, ⟨q0, q1⟩, ⟨h0, h1⟩, ⟨x0, x1⟩, ⟨y0, y1⟩⟩ := hf
  obtain ⟨X, hX⟩ : ∃ X, treOff c f.h f.i = X := ⟨_, rfl⟩
  have HA := Lib.hid hX
  have HS1 : Hid (treStep c f = ⟨2, X, f.x, 0, 0, 0, 0⟩) := Lib.hid (by simp [treStep, hp, hX])
  have hp' : (f.pc == 11) = true := by simpa using hp
  have hwi : IntKind.i64.wrap f.i = f.i := by rw [IntKind.wrap_i64]; omega
  have hwn : IntKind.i64.wrap f.n = f.n := by rw [IntKind.wrap_i64]; omega
  have hwp : IntKind.i64.wrap f.p = f.p := by rw [IntKind.wrap_i64]; omega
  have hwh : IntKind.i64.wrap f.h = f.h := by rw [IntKind.wrap_i64]; omega
  have hwi1 : IntKind.i64.wrap (f.i - 1) = f.i - 1 := by rw [IntKind.wrap_i64]; omega
  have hwh1 : IntKind.i64.wrap (f.h - 1) = f.h - 1 := by rw [IntKind.wrap_i64]; omega
  have hua : IntKind.u64.wrap f.a = f.a := by rw [IntKind.wrap_u64]; omega
  have hub : IntKind.u64.wrap f.b = f.b := by rw [IntKind.wrap_u64]; omega
  have hux : IntKind.u64.wrap f.x = f.x := by rw [IntKind.wrap_u64]; omega
  have huy : IntKind.u64.wrap f.y = f.y := by rw [IntKind.wrap_u64]; omega
  have HK : Hid (Holds ((w.alloc (.cells #[.int .u8 c.object, .int .i64 c.instances, .int .i64 c.threads, .int .u8 c.kind, .int .i64 c.stripes, .int .i64 c.bits, .int .i64 c.cap, .int .i64 c.node, .int .i64 c.batch, .int .i64 c.chunk, .int .u64 c.limit, .int .u64 c.most] 24)).alloc (.cells #[.int .u8 f.kind, .int .u32 f.a, .int .u32 f.b, .int .u8 f.pc, .int .u8 f.i, .int .u8 f.j, .int .u8 f.n, .int .u8 f.p, .int .u8 f.h, .int .u32 f.x, .int .u32 f.y] 27)) ([(w.heap.size, 0, .int .u8 c.object), (w.heap.size, 1, .int .i64 c.instances), (w.heap.size, 2, .int .i64 c.threads), (w.heap.size, 3, .int .u8 c.kind), (w.heap.size, 4, .int .i64 c.stripes), (w.heap.size, 5, .int .i64 c.bits), (w.heap.size, 6, .int .i64 c.cap), (w.heap.size, 7, .int .i64 c.node), (w.heap.size, 8, .int .i64 c.batch), (w.heap.size, 9, .int .i64 c.chunk), (w.heap.size, 10, .int .u64 c.limit), (w.heap.size, 11, .int .u64 c.most)] ++ [(w.heap.size + 1, 0, .int .u8 f.kind), (w.heap.size + 1, 1, .int .u32 f.a), (w.heap.size + 1, 2, .int .u32 f.b), (w.heap.size + 1, 3, .int .u8 f.pc), (w.heap.size + 1, 4, .int .u8 f.i), (w.heap.size + 1, 5, .int .u8 f.j), (w.heap.size + 1, 6, .int .u8 f.n), (w.heap.size + 1, 7, .int .u8 f.p), (w.heap.size + 1, 8, .int .u8 f.h), (w.heap.size + 1, 9, .int .u32 f.x), (w.heap.size + 1, 10, .int .u32 f.y)])) := Lib.hid (by rw [holds_iff]; simp [go_sem])
  clear hp hnum m5 m6 m7 m8 hX
  go_enter Tryz.func33, Tryz.ntmps33
  go_upto_region 22 with fail
  go_region_held3 (fun W => W.cell? ⟨w.heap.size, 0, none⟩ = some (.int .u8 c.object) ∧ W.cell? ⟨w.heap.size, 1, none⟩ = some (.int .i64 c.instances) ∧ W.cell? ⟨w.heap.size, 2, none⟩ = some (.int .i64 c.threads) ∧ W.cell? ⟨w.heap.size, 3, none⟩ = some (.int .u8 c.kind) ∧ W.cell? ⟨w.heap.size, 4, none⟩ = some (.int .i64 c.stripes) ∧ W.cell? ⟨w.heap.size, 5, none⟩ = some (.int .i64 c.bits) ∧ W.cell? ⟨w.heap.size, 6, none⟩ = some (.int .i64 c.cap) ∧ W.cell? ⟨w.heap.size, 7, none⟩ = some (.int .i64 c.node) ∧ W.cell? ⟨w.heap.size, 8, none⟩ = some (.int .i64 c.batch) ∧ W.cell? ⟨w.heap.size, 9, none⟩ = some (.int .i64 c.chunk) ∧ W.cell? ⟨w.heap.size, 10, none⟩ = some (.int .u64 c.limit) ∧ W.cell? ⟨w.heap.size, 11, none⟩ = some (.int .u64 c.most) ∧ W.cell? ⟨w.heap.size + 1, 0, none⟩ = some (.int .u8 f.kind) ∧ W.cell? ⟨w.heap.size + 1, 1, none⟩ = some (.int .u32 f.a) ∧ W.cell? ⟨w.heap.size + 1, 2, none⟩ = some (.int .u32 f.b) ∧ W.cell? ⟨w.heap.size + 1, 3, none⟩ = some (.int .u8 f.pc) ∧ W.cell? ⟨w.heap.size + 1, 4, none⟩ = some (.int .u8 f.i) ∧ W.cell? ⟨w.heap.size + 1, 5, none⟩ = some (.int .u8 f.j) ∧ W.cell? ⟨w.heap.size + 1, 6, none⟩ = some (.int .u8 f.n) ∧ W.cell? ⟨w.heap.size + 1, 7, none⟩ = some (.int .u8 f.p) ∧ W.cell? ⟨w.heap.size + 1, 8, none⟩ = some (.int .u8 f.h) ∧ W.cell? ⟨w.heap.size + 1, 9, none⟩ = some (.int .u32 f.x) ∧ W.cell? ⟨w.heap.size + 1, 10, none⟩ = some (.int .u32 f.y)) (exact HK.out.ext EX) (first | (go_at_call 58; (with_reducible refine (offR_as2 c hc (f.h) (f.i) X (by omega) (by omega) HA.out _).mono ?_); rintro e w1 ⟨rfl, os1, n1, rfl⟩))
  all_goals
    go_wp2
    refine bodyPost_ret (v := (treStep c f).v) (by rw [HS1.out]; simp [results, Tryz.results33, go_sem]) rfl ⟨rfl, EX⟩
theorem stepR_12 (c : Cfg) (f : Frm) (hc : TreOk c) (hf : f.Fits) (hnum : treNum c f = true) (hp : f.pc = 12) (w : World) : Calls Tryz.prog 33 #[c.v, f.v] w
    fun e w' => e = .returned (treStep c f).v ∧ Ext w w' := by
  obtain ⟨m1, m2, m3, m4, m5, m6, m7, m8⟩ := treNum_facts hnum
  have htop := topI_bd c.cap c.node
  change 0 ≤ treTop c ∧ treTop c ≤ 4 at htop
  have hcap := hc.cap
  obtain ⟨⟨k0, k1⟩, ⟨a0, a1⟩, ⟨b0, b1⟩, ⟨p0, p1⟩, ⟨i0, i1⟩, ⟨j0, j1⟩, ⟨n0, n1⟩, ⟨q0, q1⟩, ⟨h0, h1⟩, ⟨x0, x1⟩, ⟨y0, y1⟩⟩ := hf
  have m9 := m7 hp
  have hu := treUp_le hc (n := f.n) (h := f.h) (by omega) (by omega)
  obtain ⟨U, hU⟩ : ∃ U, treUp c f.n f.h = U := ⟨_, rfl⟩
  rw [hU] at hu
  have HU := Lib.hid hU
  obtain ⟨X, hX⟩ : ∃ X, treOff c f.h U = X := ⟨_, rfl⟩
  have HA := Lib.hid hX
  have HS1 : Hid (treStep c f = ⟨2, X, 0, 0, 0, 0, 0⟩) := Lib.hid (by simp [treStep, hp, hU, hX])
  have hp' : (f.pc == 12) = true := by simpa using hp
  have hwi : IntKind.i64.wrap f.i = f.i := by rw [IntKind.wrap_i64]; omega
  have hwn : IntKind.i64.wrap f.n = f.n := by rw [IntKind.wrap_i64]; omega
  have hwp : IntKind.i64.wrap f.p = f.p := by rw [IntKind.wrap_i64]; omega
  have hwh : IntKind.i64.wrap f.h = f.h := by rw [IntKind.wrap_i64]; omega
  have hwi1 : IntKind.i64.wrap (f.i - 1) = f.i - 1 := by rw [IntKind.wrap_i64]; omega
  have hwh1 : IntKind.i64.wrap (f.h - 1) = f.h - 1 := by rw [IntKind.wrap_i64]; omega
  have hua : IntKind.u64.wrap f.a = f.a := by rw [IntKind.wrap_u64]; omega
  have hub : IntKind.u64.wrap f.b = f.b := by rw [IntKind.wrap_u64]; omega
  have hux : IntKind.u64.wrap f.x = f.x := by rw [IntKind.wrap_u64]; omega
  have huy : IntKind.u64.wrap f.y = f.y := by rw [IntKind.wrap_u64]; omega
  have HK : Hid (Holds ((w.alloc (.cells #[.int .u8 c.object, .int .i64 c.instances, .int .i64 c.threads, .int .u8 c.kind, .int .i64 c.stripes, .int .i64 c.bits, .int .i64 c.cap, .int .i64 c.node, .int .i64 c.batch, .int .i64 c.chunk, .int .u64 c.limit, .int .u64 c.most] 24)).alloc (.cells #[.int .u8 f.kind, .int .u32 f.a, .int .u32 f.b, .int .u8 f.pc, .int .u8 f.i, .int .u8 f.j, .int .u8 f.n, .int .u8 f.p, .int .u8 f.h, .int .u32 f.x, .int .u32 f.y] 27)) ([(w.heap.size, 0, .int .u8 c.object), (w.heap.size, 1, .int .i64 c.instances), (w.heap.size, 2, .int .i64 c.threads), (w.heap.size, 3, .int .u8 c.kind), (w.heap.size, 4, .int .i64 c.stripes), (w.heap.size, 5, .int .i64 c.bits), (w.heap.size, 6, .int .i64 c.cap), (w.heap.size, 7, .int .i64 c.node), (w.heap.size, 8, .int .i64 c.batch), (w.heap.size, 9, .int .i64 c.chunk), (w.heap.size, 10, .int .u64 c.limit), (w.heap.size, 11, .int .u64 c.most)] ++ [(w.heap.size + 1, 0, .int .u8 f.kind), (w.heap.size + 1, 1, .int .u32 f.a), (w.heap.size + 1, 2, .int .u32 f.b), (w.heap.size + 1, 3, .int .u8 f.pc), (w.heap.size + 1, 4, .int .u8 f.i), (w.heap.size + 1, 5, .int .u8 f.j), (w.heap.size + 1, 6, .int .u8 f.n), (w.heap.size + 1, 7, .int .u8 f.p), (w.heap.size + 1, 8, .int .u8 f.h), (w.heap.size + 1, 9, .int .u32 f.x), (w.heap.size + 1, 10, .int .u32 f.y)])) := Lib.hid (by rw [holds_iff]; simp [go_sem])
  clear hp hnum m5 m6 m7 m8 hX hU
  go_enter Tryz.func33, Tryz.ntmps33
  go_upto_region 24 with fail
  go_region_held3 (fun W => W.cell? ⟨w.heap.size, 0, none⟩ = some (.int .u8 c.object) ∧ W.cell? ⟨w.heap.size, 1, none⟩ = some (.int .i64 c.instances) ∧ W.cell? ⟨w.heap.size, 2, none⟩ = some (.int .i64 c.threads) ∧ W.cell? ⟨w.heap.size, 3, none⟩ = some (.int .u8 c.kind) ∧ W.cell? ⟨w.heap.size, 4, none⟩ = some (.int .i64 c.stripes) ∧ W.cell? ⟨w.heap.size, 5, none⟩ = some (.int .i64 c.bits) ∧ W.cell? ⟨w.heap.size, 6, none⟩ = some (.int .i64 c.cap) ∧ W.cell? ⟨w.heap.size, 7, none⟩ = some (.int .i64 c.node) ∧ W.cell? ⟨w.heap.size, 8, none⟩ = some (.int .i64 c.batch) ∧ W.cell? ⟨w.heap.size, 9, none⟩ = some (.int .i64 c.chunk) ∧ W.cell? ⟨w.heap.size, 10, none⟩ = some (.int .u64 c.limit) ∧ W.cell? ⟨w.heap.size, 11, none⟩ = some (.int .u64 c.most) ∧ W.cell? ⟨w.heap.size + 1, 0, none⟩ = some (.int .u8 f.kind) ∧ W.cell? ⟨w.heap.size + 1, 1, none⟩ = some (.int .u32 f.a) ∧ W.cell? ⟨w.heap.size + 1, 2, none⟩ = some (.int .u32 f.b) ∧ W.cell? ⟨w.heap.size + 1, 3, none⟩ = some (.int .u8 f.pc) ∧ W.cell? ⟨w.heap.size + 1, 4, none⟩ = some (.int .u8 f.i) ∧ W.cell? ⟨w.heap.size + 1, 5, none⟩ = some (.int .u8 f.j) ∧ W.cell? ⟨w.heap.size + 1, 6, none⟩ = some (.int .u8 f.n) ∧ W.cell? ⟨w.heap.size + 1, 7, none⟩ = some (.int .u8 f.p) ∧ W.cell? ⟨w.heap.size + 1, 8, none⟩ = some (.int .u8 f.h) ∧ W.cell? ⟨w.heap.size + 1, 9, none⟩ = some (.int .u32 f.x) ∧ W.cell? ⟨w.heap.size + 1, 10, none⟩ = some (.int .u32 f.y)) (exact HK.out.ext EX) (first | (first | (go_at_call 60; (with_reducible refine (upR_any c hc f.n f.h (by omega) (by omega) _).mono ?_); rintro e w2 ⟨rfl, os2, n2, rfl⟩; rw [HU.out]) | (go_at_call 58; (with_reducible refine (offR_as2 c hc (f.h) (U) X (by omega) (by omega) HA.out _).mono ?_); rintro e w1 ⟨rfl, os1, n1, rfl⟩)))
  all_goals
    go_wp2
    refine bodyPost_ret (v := (treStep c f).v) (by rw [HS1.out]; simp [results, Tryz.results33, go_sem]) rfl ⟨rfl, EX⟩
theorem stepR_13 (c : Cfg) (f : Frm) (hc : TreOk c) (hf : f.Fits) (hnum : treNum c f = true) (hp : f.pc = 13) (w : World) : Calls Tryz.prog 33 #[c.v, f.v] w
    fun e w' => e = .returned (treStep c f).v ∧ Ext w w' := by
  obtain ⟨m1, m2, m3, m4, m5, m6, m7, m8⟩ := treNum_facts hnum
  have htop := topI_bd c.cap c.node
  change 0 ≤ treTop c ∧ treTop c ≤ 4 at htop
  have hcap := hc.cap
  obtain ⟨⟨k0, k1⟩, ⟨a0, a1⟩, ⟨b0, b1⟩, ⟨p0, p1⟩, ⟨i0, i1⟩, ⟨j0, j1⟩, ⟨n0, n1⟩, ⟨q0, q1⟩, ⟨h0, h1⟩, ⟨x0, x1⟩, ⟨y0, y1⟩⟩ := hf
  obtain ⟨X, hX⟩ : ∃ X, treOff c 0 f.i = X := ⟨_, rfl⟩
  have HA := Lib.hid hX
  have HS1 : Hid (treStep c f = ⟨1, X, 0, 0, 0, 0, 0⟩) := Lib.hid (by simp [treStep, hp, hX])
  have hp' : (f.pc == 13) = true := by simpa using hp
  have hwi : IntKind.i64.wrap f.i = f.i := by rw [IntKind.wrap_i64]; omega
  have hwn : IntKind.i64.wrap f.n = f.n := by rw [IntKind.wrap_i64]; omega
  have hwp : IntKind.i64.wrap f.p = f.p := by rw [IntKind.wrap_i64]; omega
  have hwh : IntKind.i64.wrap f.h = f.h := by rw [IntKind.wrap_i64]; omega
  have hwi1 : IntKind.i64.wrap (f.i - 1) = f.i - 1 := by rw [IntKind.wrap_i64]; omega
  have hwh1 : IntKind.i64.wrap (f.h - 1) = f.h - 1 := by rw [IntKind.wrap_i64]; omega
  have hua : IntKind.u64.wrap f.a = f.a := by rw [IntKind.wrap_u64]; omega
  have hub : IntKind.u64.wrap f.b = f.b := by rw [IntKind.wrap_u64]; omega
  have hux : IntKind.u64.wrap f.x = f.x := by rw [IntKind.wrap_u64]; omega
  have huy : IntKind.u64.wrap f.y = f.y := by rw [IntKind.wrap_u64]; omega
  have HK : Hid (Holds ((w.alloc (.cells #[.int .u8 c.object, .int .i64 c.instances, .int .i64 c.threads, .int .u8 c.kind, .int .i64 c.stripes, .int .i64 c.bits, .int .i64 c.cap, .int .i64 c.node, .int .i64 c.batch, .int .i64 c.chunk, .int .u64 c.limit, .int .u64 c.most] 24)).alloc (.cells #[.int .u8 f.kind, .int .u32 f.a, .int .u32 f.b, .int .u8 f.pc, .int .u8 f.i, .int .u8 f.j, .int .u8 f.n, .int .u8 f.p, .int .u8 f.h, .int .u32 f.x, .int .u32 f.y] 27)) ([(w.heap.size, 0, .int .u8 c.object), (w.heap.size, 1, .int .i64 c.instances), (w.heap.size, 2, .int .i64 c.threads), (w.heap.size, 3, .int .u8 c.kind), (w.heap.size, 4, .int .i64 c.stripes), (w.heap.size, 5, .int .i64 c.bits), (w.heap.size, 6, .int .i64 c.cap), (w.heap.size, 7, .int .i64 c.node), (w.heap.size, 8, .int .i64 c.batch), (w.heap.size, 9, .int .i64 c.chunk), (w.heap.size, 10, .int .u64 c.limit), (w.heap.size, 11, .int .u64 c.most)] ++ [(w.heap.size + 1, 0, .int .u8 f.kind), (w.heap.size + 1, 1, .int .u32 f.a), (w.heap.size + 1, 2, .int .u32 f.b), (w.heap.size + 1, 3, .int .u8 f.pc), (w.heap.size + 1, 4, .int .u8 f.i), (w.heap.size + 1, 5, .int .u8 f.j), (w.heap.size + 1, 6, .int .u8 f.n), (w.heap.size + 1, 7, .int .u8 f.p), (w.heap.size + 1, 8, .int .u8 f.h), (w.heap.size + 1, 9, .int .u32 f.x), (w.heap.size + 1, 10, .int .u32 f.y)])) := Lib.hid (by rw [holds_iff]; simp [go_sem])
  clear hp hnum m5 m6 m7 m8 hX
  go_enter Tryz.func33, Tryz.ntmps33
  go_wp2_with (go_at_call 58; (with_reducible refine (offR_as2 c hc (0) (f.i) X (by omega) (by omega) HA.out _).mono ?_); rintro e w1 ⟨rfl, os1, n1, rfl⟩)
  refine bodyPost_ret (v := (treStep c f).v) (by rw [HS1.out]; simp [results, Tryz.results33, go_sem]) rfl ⟨rfl, EX⟩
theorem stepR_14 (c : Cfg) (f : Frm) (hc : TreOk c) (hf : f.Fits) (hnum : treNum c f = true) (hp : f.pc = 14) (w : World) : Calls Tryz.prog 33 #[c.v, f.v] w
    fun e w' => e = .returned (treStep c f).v ∧ Ext w w' := by
  obtain ⟨m1, m2, m3, m4, m5, m6, m7, m8⟩ := treNum_facts hnum
  have htop := topI_bd c.cap c.node
  change 0 ≤ treTop c ∧ treTop c ≤ 4 at htop
  have hcap := hc.cap
  obtain ⟨⟨k0, k1⟩, ⟨a0, a1⟩, ⟨b0, b1⟩, ⟨p0, p1⟩, ⟨i0, i1⟩, ⟨j0, j1⟩, ⟨n0, n1⟩, ⟨q0, q1⟩, ⟨h0, h1⟩, ⟨x0, x1⟩, ⟨y0, y1⟩⟩ := hf
  obtain ⟨X, hX⟩ : ∃ X, treOff c 0 (f.i - 1) = X := ⟨_, rfl⟩
  have HA := Lib.hid hX
  have HS1 : Hid (treStep c f = ⟨2, X, f.x, f.y, 0, 0, 0⟩) := Lib.hid (by simp [treStep, hp, hX])
  have hp' : (f.pc == 14) = true := by simpa using hp
  have hwi : IntKind.i64.wrap f.i = f.i := by rw [IntKind.wrap_i64]; omega
  have hwn : IntKind.i64.wrap f.n = f.n := by rw [IntKind.wrap_i64]; omega
  have hwp : IntKind.i64.wrap f.p = f.p := by rw [IntKind.wrap_i64]; omega
  have hwh : IntKind.i64.wrap f.h = f.h := by rw [IntKind.wrap_i64]; omega
  have hwi1 : IntKind.i64.wrap (f.i - 1) = f.i - 1 := by rw [IntKind.wrap_i64]; omega
  have hwh1 : IntKind.i64.wrap (f.h - 1) = f.h - 1 := by rw [IntKind.wrap_i64]; omega
  have hua : IntKind.u64.wrap f.a = f.a := by rw [IntKind.wrap_u64]; omega
  have hub : IntKind.u64.wrap f.b = f.b := by rw [IntKind.wrap_u64]; omega
  have hux : IntKind.u64.wrap f.x = f.x := by rw [IntKind.wrap_u64]; omega
  have huy : IntKind.u64.wrap f.y = f.y := by rw [IntKind.wrap_u64]; omega
  have HK : Hid (Holds ((w.alloc (.cells #[.int .u8 c.object, .int .i64 c.instances, .int .i64 c.threads, .int .u8 c.kind, .int .i64 c.stripes, .int .i64 c.bits, .int .i64 c.cap, .int .i64 c.node, .int .i64 c.batch, .int .i64 c.chunk, .int .u64 c.limit, .int .u64 c.most] 24)).alloc (.cells #[.int .u8 f.kind, .int .u32 f.a, .int .u32 f.b, .int .u8 f.pc, .int .u8 f.i, .int .u8 f.j, .int .u8 f.n, .int .u8 f.p, .int .u8 f.h, .int .u32 f.x, .int .u32 f.y] 27)) ([(w.heap.size, 0, .int .u8 c.object), (w.heap.size, 1, .int .i64 c.instances), (w.heap.size, 2, .int .i64 c.threads), (w.heap.size, 3, .int .u8 c.kind), (w.heap.size, 4, .int .i64 c.stripes), (w.heap.size, 5, .int .i64 c.bits), (w.heap.size, 6, .int .i64 c.cap), (w.heap.size, 7, .int .i64 c.node), (w.heap.size, 8, .int .i64 c.batch), (w.heap.size, 9, .int .i64 c.chunk), (w.heap.size, 10, .int .u64 c.limit), (w.heap.size, 11, .int .u64 c.most)] ++ [(w.heap.size + 1, 0, .int .u8 f.kind), (w.heap.size + 1, 1, .int .u32 f.a), (w.heap.size + 1, 2, .int .u32 f.b), (w.heap.size + 1, 3, .int .u8 f.pc), (w.heap.size + 1, 4, .int .u8 f.i), (w.heap.size + 1, 5, .int .u8 f.j), (w.heap.size + 1, 6, .int .u8 f.n), (w.heap.size + 1, 7, .int .u8 f.p), (w.heap.size + 1, 8, .int .u8 f.h), (w.heap.size + 1, 9, .int .u32 f.x), (w.heap.size + 1, 10, .int .u32 f.y)])) := Lib.hid (by rw [holds_iff]; simp [go_sem])
  clear hp hnum m5 m6 m7 m8 hX
  go_enter Tryz.func33, Tryz.ntmps33
  go_upto_region 28 with fail
  go_region_held3 (fun W => W.cell? ⟨w.heap.size, 0, none⟩ = some (.int .u8 c.object) ∧ W.cell? ⟨w.heap.size, 1, none⟩ = some (.int .i64 c.instances) ∧ W.cell? ⟨w.heap.size, 2, none⟩ = some (.int .i64 c.threads) ∧ W.cell? ⟨w.heap.size, 3, none⟩ = some (.int .u8 c.kind) ∧ W.cell? ⟨w.heap.size, 4, none⟩ = some (.int .i64 c.stripes) ∧ W.cell? ⟨w.heap.size, 5, none⟩ = some (.int .i64 c.bits) ∧ W.cell? ⟨w.heap.size, 6, none⟩ = some (.int .i64 c.cap) ∧ W.cell? ⟨w.heap.size, 7, none⟩ = some (.int .i64 c.node) ∧ W.cell? ⟨w.heap.size, 8, none⟩ = some (.int .i64 c.batch) ∧ W.cell? ⟨w.heap.size, 9, none⟩ = some (.int .i64 c.chunk) ∧ W.cell? ⟨w.heap.size, 10, none⟩ = some (.int .u64 c.limit) ∧ W.cell? ⟨w.heap.size, 11, none⟩ = some (.int .u64 c.most) ∧ W.cell? ⟨w.heap.size + 1, 0, none⟩ = some (.int .u8 f.kind) ∧ W.cell? ⟨w.heap.size + 1, 1, none⟩ = some (.int .u32 f.a) ∧ W.cell? ⟨w.heap.size + 1, 2, none⟩ = some (.int .u32 f.b) ∧ W.cell? ⟨w.heap.size + 1, 3, none⟩ = some (.int .u8 f.pc) ∧ W.cell? ⟨w.heap.size + 1, 4, none⟩ = some (.int .u8 f.i) ∧ W.cell? ⟨w.heap.size + 1, 5, none⟩ = some (.int .u8 f.j) ∧ W.cell? ⟨w.heap.size + 1, 6, none⟩ = some (.int .u8 f.n) ∧ W.cell? ⟨w.heap.size + 1, 7, none⟩ = some (.int .u8 f.p) ∧ W.cell? ⟨w.heap.size + 1, 8, none⟩ = some (.int .u8 f.h) ∧ W.cell? ⟨w.heap.size + 1, 9, none⟩ = some (.int .u32 f.x) ∧ W.cell? ⟨w.heap.size + 1, 10, none⟩ = some (.int .u32 f.y)) (exact HK.out.ext EX) (first | (go_at_call 58; (with_reducible refine (offR_as2 c hc (0) (f.i - 1) X (by omega) (by omega) HA.out _).mono ?_); rintro e w1 ⟨rfl, os1, n1, rfl⟩))
  all_goals
    go_wp2
    refine bodyPost_ret (v := (treStep c f).v) (by rw [HS1.out]; simp [results, Tryz.results33, go_sem]) rfl ⟨rfl, EX⟩
theorem stepR_15 (c : Cfg) (f : Frm) (hc : TreOk c) (hf : f.Fits) (hnum : treNum c f = true) (hp : f.pc = 15) (w : World) : Calls Tryz.prog 33 #[c.v, f.v] w
    fun e w' => e = .returned (treStep c f).v ∧ Ext w w' := by
  obtain ⟨m1, m2, m3, m4, m5, m6, m7, m8⟩ := treNum_facts hnum
  have htop := topI_bd c.cap c.node
  change 0 ≤ treTop c ∧ treTop c ≤ 4 at htop
  have hcap := hc.cap
  obtain ⟨⟨k0, k1⟩, ⟨a0, a1⟩, ⟨b0, b1⟩, ⟨p0, p1⟩, ⟨i0, i1⟩, ⟨j0, j1⟩, ⟨n0, n1⟩, ⟨q0, q1⟩, ⟨h0, h1⟩, ⟨x0, x1⟩, ⟨y0, y1⟩⟩ := hf
  obtain ⟨X, hX⟩ : ∃ X, treOff c 0 (f.n - 1) = X := ⟨_, rfl⟩
  have HA := Lib.hid hX
  have HS1 : Hid (treStep c f = ⟨2, X, 0, 0, 0, 0, 0⟩) := Lib.hid (by simp [treStep, hp, hX])
  have hp' : (f.pc == 15) = true := by simpa using hp
  have hwi : IntKind.i64.wrap f.i = f.i := by rw [IntKind.wrap_i64]; omega
  have hwn : IntKind.i64.wrap f.n = f.n := by rw [IntKind.wrap_i64]; omega
  have hwp : IntKind.i64.wrap f.p = f.p := by rw [IntKind.wrap_i64]; omega
  have hwh : IntKind.i64.wrap f.h = f.h := by rw [IntKind.wrap_i64]; omega
  have hwi1 : IntKind.i64.wrap (f.i - 1) = f.i - 1 := by rw [IntKind.wrap_i64]; omega
  have hwh1 : IntKind.i64.wrap (f.h - 1) = f.h - 1 := by rw [IntKind.wrap_i64]; omega
  have hua : IntKind.u64.wrap f.a = f.a := by rw [IntKind.wrap_u64]; omega
  have hub : IntKind.u64.wrap f.b = f.b := by rw [IntKind.wrap_u64]; omega
  have hux : IntKind.u64.wrap f.x = f.x := by rw [IntKind.wrap_u64]; omega
  have huy : IntKind.u64.wrap f.y = f.y := by rw [IntKind.wrap_u64]; omega
  have HK : Hid (Holds ((w.alloc (.cells #[.int .u8 c.object, .int .i64 c.instances, .int .i64 c.threads, .int .u8 c.kind, .int .i64 c.stripes, .int .i64 c.bits, .int .i64 c.cap, .int .i64 c.node, .int .i64 c.batch, .int .i64 c.chunk, .int .u64 c.limit, .int .u64 c.most] 24)).alloc (.cells #[.int .u8 f.kind, .int .u32 f.a, .int .u32 f.b, .int .u8 f.pc, .int .u8 f.i, .int .u8 f.j, .int .u8 f.n, .int .u8 f.p, .int .u8 f.h, .int .u32 f.x, .int .u32 f.y] 27)) ([(w.heap.size, 0, .int .u8 c.object), (w.heap.size, 1, .int .i64 c.instances), (w.heap.size, 2, .int .i64 c.threads), (w.heap.size, 3, .int .u8 c.kind), (w.heap.size, 4, .int .i64 c.stripes), (w.heap.size, 5, .int .i64 c.bits), (w.heap.size, 6, .int .i64 c.cap), (w.heap.size, 7, .int .i64 c.node), (w.heap.size, 8, .int .i64 c.batch), (w.heap.size, 9, .int .i64 c.chunk), (w.heap.size, 10, .int .u64 c.limit), (w.heap.size, 11, .int .u64 c.most)] ++ [(w.heap.size + 1, 0, .int .u8 f.kind), (w.heap.size + 1, 1, .int .u32 f.a), (w.heap.size + 1, 2, .int .u32 f.b), (w.heap.size + 1, 3, .int .u8 f.pc), (w.heap.size + 1, 4, .int .u8 f.i), (w.heap.size + 1, 5, .int .u8 f.j), (w.heap.size + 1, 6, .int .u8 f.n), (w.heap.size + 1, 7, .int .u8 f.p), (w.heap.size + 1, 8, .int .u8 f.h), (w.heap.size + 1, 9, .int .u32 f.x), (w.heap.size + 1, 10, .int .u32 f.y)])) := Lib.hid (by rw [holds_iff]; simp [go_sem])
  clear hp hnum m5 m6 m7 m8 hX
  go_enter Tryz.func33, Tryz.ntmps33
  go_wp2_with (go_at_call 58; (with_reducible refine (offR_as2 c hc (0) (f.n - 1) X (by omega) (by omega) HA.out _).mono ?_); rintro e w1 ⟨rfl, os1, n1, rfl⟩)
  refine bodyPost_ret (v := (treStep c f).v) (by rw [HS1.out]; simp [results, Tryz.results33, go_sem]) rfl ⟨rfl, EX⟩
theorem stepR_16 (c : Cfg) (f : Frm) (hc : TreOk c) (hf : f.Fits) (hnum : treNum c f = true) (hp : f.pc = 16) (w : World) : Calls Tryz.prog 33 #[c.v, f.v] w
    fun e w' => e = .returned (treStep c f).v ∧ Ext w w' := by
  obtain ⟨m1, m2, m3, m4, m5, m6, m7, m8⟩ := treNum_facts hnum
  have htop := topI_bd c.cap c.node
  change 0 ≤ treTop c ∧ treTop c ≤ 4 at htop
  have hcap := hc.cap
  obtain ⟨⟨k0, k1⟩, ⟨a0, a1⟩, ⟨b0, b1⟩, ⟨p0, p1⟩, ⟨i0, i1⟩, ⟨j0, j1⟩, ⟨n0, n1⟩, ⟨q0, q1⟩, ⟨h0, h1⟩, ⟨x0, x1⟩, ⟨y0, y1⟩⟩ := hf
  have HS1 : Hid (treStep c f = ⟨3, 0, 0, 0, 0, 0, 0⟩) := Lib.hid (by simp [treStep, hp])
  have hp' : (f.pc == 16) = true := by simpa using hp
  have hwi : IntKind.i64.wrap f.i = f.i := by rw [IntKind.wrap_i64]; omega
  have hwn : IntKind.i64.wrap f.n = f.n := by rw [IntKind.wrap_i64]; omega
  have hwp : IntKind.i64.wrap f.p = f.p := by rw [IntKind.wrap_i64]; omega
  have hwh : IntKind.i64.wrap f.h = f.h := by rw [IntKind.wrap_i64]; omega
  have hwi1 : IntKind.i64.wrap (f.i - 1) = f.i - 1 := by rw [IntKind.wrap_i64]; omega
  have hwh1 : IntKind.i64.wrap (f.h - 1) = f.h - 1 := by rw [IntKind.wrap_i64]; omega
  have hua : IntKind.u64.wrap f.a = f.a := by rw [IntKind.wrap_u64]; omega
  have hub : IntKind.u64.wrap f.b = f.b := by rw [IntKind.wrap_u64]; omega
  have hux : IntKind.u64.wrap f.x = f.x := by rw [IntKind.wrap_u64]; omega
  have huy : IntKind.u64.wrap f.y = f.y := by rw [IntKind.wrap_u64]; omega
  have HK : Hid (Holds ((w.alloc (.cells #[.int .u8 c.object, .int .i64 c.instances, .int .i64 c.threads, .int .u8 c.kind, .int .i64 c.stripes, .int .i64 c.bits, .int .i64 c.cap, .int .i64 c.node, .int .i64 c.batch, .int .i64 c.chunk, .int .u64 c.limit, .int .u64 c.most] 24)).alloc (.cells #[.int .u8 f.kind, .int .u32 f.a, .int .u32 f.b, .int .u8 f.pc, .int .u8 f.i, .int .u8 f.j, .int .u8 f.n, .int .u8 f.p, .int .u8 f.h, .int .u32 f.x, .int .u32 f.y] 27)) ([(w.heap.size, 0, .int .u8 c.object), (w.heap.size, 1, .int .i64 c.instances), (w.heap.size, 2, .int .i64 c.threads), (w.heap.size, 3, .int .u8 c.kind), (w.heap.size, 4, .int .i64 c.stripes), (w.heap.size, 5, .int .i64 c.bits), (w.heap.size, 6, .int .i64 c.cap), (w.heap.size, 7, .int .i64 c.node), (w.heap.size, 8, .int .i64 c.batch), (w.heap.size, 9, .int .i64 c.chunk), (w.heap.size, 10, .int .u64 c.limit), (w.heap.size, 11, .int .u64 c.most)] ++ [(w.heap.size + 1, 0, .int .u8 f.kind), (w.heap.size + 1, 1, .int .u32 f.a), (w.heap.size + 1, 2, .int .u32 f.b), (w.heap.size + 1, 3, .int .u8 f.pc), (w.heap.size + 1, 4, .int .u8 f.i), (w.heap.size + 1, 5, .int .u8 f.j), (w.heap.size + 1, 6, .int .u8 f.n), (w.heap.size + 1, 7, .int .u8 f.p), (w.heap.size + 1, 8, .int .u8 f.h), (w.heap.size + 1, 9, .int .u32 f.x), (w.heap.size + 1, 10, .int .u32 f.y)])) := Lib.hid (by rw [holds_iff]; simp [go_sem])
  clear hp hnum m5 m6 m7 m8
  go_enter Tryz.func33, Tryz.ntmps33
  go_wp2
  refine bodyPost_ret (v := (treStep c f).v) (by rw [HS1.out]; simp [results, Tryz.results33, go_sem]) rfl ⟨rfl, EX⟩
theorem stepR_17 (c : Cfg) (f : Frm) (hc : TreOk c) (hf : f.Fits) (hnum : treNum c f = true) (hp : f.pc = 17) (w : World) : Calls Tryz.prog 33 #[c.v, f.v] w
    fun e w' => e = .returned (treStep c f).v ∧ Ext w w' := by
  obtain ⟨m1, m2, m3, m4, m5, m6, m7, m8⟩ := treNum_facts hnum
  have htop := topI_bd c.cap c.node
  change 0 ≤ treTop c ∧ treTop c ≤ 4 at htop
  have hcap := hc.cap
  obtain ⟨⟨k0, k1⟩, ⟨a0, a1⟩, ⟨b0, b1⟩, ⟨p0, p1⟩, ⟨i0, i1⟩, ⟨j0, j1⟩, ⟨n0, n1⟩, ⟨q0, q1⟩, ⟨h0, h1⟩, ⟨x0, x1⟩, ⟨y0, y1⟩⟩ := hf
  obtain ⟨X, hX⟩ : ∃ X, treOff c 0 f.p = X := ⟨_, rfl⟩
  have HA := Lib.hid hX
  have HS1 : Hid (treStep c f = ⟨1, X, 0, 0, 0, 0, 0⟩) := Lib.hid (by simp [treStep, hp, hX])
  have hp' : (f.pc == 17) = true := by simpa using hp
  have hwi : IntKind.i64.wrap f.i = f.i := by rw [IntKind.wrap_i64]; omega
  have hwn : IntKind.i64.wrap f.n = f.n := by rw [IntKind.wrap_i64]; omega
  have hwp : IntKind.i64.wrap f.p = f.p := by rw [IntKind.wrap_i64]; omega
  have hwh : IntKind.i64.wrap f.h = f.h := by rw [IntKind.wrap_i64]; omega
  have hwi1 : IntKind.i64.wrap (f.i - 1) = f.i - 1 := by rw [IntKind.wrap_i64]; omega
  have hwh1 : IntKind.i64.wrap (f.h - 1) = f.h - 1 := by rw [IntKind.wrap_i64]; omega
  have hua : IntKind.u64.wrap f.a = f.a := by rw [IntKind.wrap_u64]; omega
  have hub : IntKind.u64.wrap f.b = f.b := by rw [IntKind.wrap_u64]; omega
  have hux : IntKind.u64.wrap f.x = f.x := by rw [IntKind.wrap_u64]; omega
  have huy : IntKind.u64.wrap f.y = f.y := by rw [IntKind.wrap_u64]; omega
  have HK : Hid (Holds ((w.alloc (.cells #[.int .u8 c.object, .int .i64 c.instances, .int .i64 c.threads, .int .u8 c.kind, .int .i64 c.stripes, .int .i64 c.bits, .int .i64 c.cap, .int .i64 c.node, .int .i64 c.batch, .int .i64 c.chunk, .int .u64 c.limit, .int .u64 c.most] 24)).alloc (.cells #[.int .u8 f.kind, .int .u32 f.a, .int .u32 f.b, .int .u8 f.pc, .int .u8 f.i, .int .u8 f.j, .int .u8 f.n, .int .u8 f.p, .int .u8 f.h, .int .u32 f.x, .int .u32 f.y] 27)) ([(w.heap.size, 0, .int .u8 c.object), (w.heap.size, 1, .int .i64 c.instances), (w.heap.size, 2, .int .i64 c.threads), (w.heap.size, 3, .int .u8 c.kind), (w.heap.size, 4, .int .i64 c.stripes), (w.heap.size, 5, .int .i64 c.bits), (w.heap.size, 6, .int .i64 c.cap), (w.heap.size, 7, .int .i64 c.node), (w.heap.size, 8, .int .i64 c.batch), (w.heap.size, 9, .int .i64 c.chunk), (w.heap.size, 10, .int .u64 c.limit), (w.heap.size, 11, .int .u64 c.most)] ++ [(w.heap.size + 1, 0, .int .u8 f.kind), (w.heap.size + 1, 1, .int .u32 f.a), (w.heap.size + 1, 2, .int .u32 f.b), (w.heap.size + 1, 3, .int .u8 f.pc), (w.heap.size + 1, 4, .int .u8 f.i), (w.heap.size + 1, 5, .int .u8 f.j), (w.heap.size + 1, 6, .int .u8 f.n), (w.heap.size + 1, 7, .int .u8 f.p), (w.heap.size + 1, 8, .int .u8 f.h), (w.heap.size + 1, 9, .int .u32 f.x), (w.heap.size + 1, 10, .int .u32 f.y)])) := Lib.hid (by rw [holds_iff]; simp [go_sem])
  clear hp hnum m5 m6 m7 m8 hX
  go_enter Tryz.func33, Tryz.ntmps33
  go_wp2_with (go_at_call 58; (with_reducible refine (offR_as2 c hc (0) (f.p) X (by omega) (by omega) HA.out _).mono ?_); rintro e w1 ⟨rfl, os1, n1, rfl⟩)
  refine bodyPost_ret (v := (treStep c f).v) (by rw [HS1.out]; simp [results, Tryz.results33, go_sem]) rfl ⟨rfl, EX⟩
theorem stepR_20 (c : Cfg) (f : Frm) (hc : TreOk c) (hf : f.Fits) (hnum : treNum c f = true) (hp : f.pc = 20) (w : World) : Calls Tryz.prog 33 #[c.v, f.v] w
    fun e w' => e = .returned (treStep c f).v ∧ Ext w w' := by
  obtain ⟨m1, m2, m3, m4, m5, m6, m7, m8⟩ := treNum_facts hnum
  have htop := topI_bd c.cap c.node
  change 0 ≤ treTop c ∧ treTop c ≤ 4 at htop
  have hcap := hc.cap
  obtain ⟨⟨k0, k1⟩, ⟨a0, a1⟩, ⟨b0, b1⟩, ⟨p0, p1⟩, ⟨i0, i1⟩, ⟨j0, j1⟩, ⟨n0, n1⟩, ⟨q0, q1⟩, ⟨h0, h1⟩, ⟨x0, x1⟩, ⟨y0, y1⟩⟩ := hf
  have HS1 : Hid (treStep c f = ⟨4, 0, 0, 0, 0, 0, 0⟩) := Lib.hid (by simp [treStep, hp])
  have hp' : (f.pc == 20) = true := by simpa using hp
  have hwi : IntKind.i64.wrap f.i = f.i := by rw [IntKind.wrap_i64]; omega
  have hwn : IntKind.i64.wrap f.n = f.n := by rw [IntKind.wrap_i64]; omega
  have hwp : IntKind.i64.wrap f.p = f.p := by rw [IntKind.wrap_i64]; omega
  have hwh : IntKind.i64.wrap f.h = f.h := by rw [IntKind.wrap_i64]; omega
  have hwi1 : IntKind.i64.wrap (f.i - 1) = f.i - 1 := by rw [IntKind.wrap_i64]; omega
  have hwh1 : IntKind.i64.wrap (f.h - 1) = f.h - 1 := by rw [IntKind.wrap_i64]; omega
  have hua : IntKind.u64.wrap f.a = f.a := by rw [IntKind.wrap_u64]; omega
  have hub : IntKind.u64.wrap f.b = f.b := by rw [IntKind.wrap_u64]; omega
  have hux : IntKind.u64.wrap f.x = f.x := by rw [IntKind.wrap_u64]; omega
  have huy : IntKind.u64.wrap f.y = f.y := by rw [IntKind.wrap_u64]; omega
  have HK : Hid (Holds ((w.alloc (.cells #[.int .u8 c.object, .int .i64 c.instances, .int .i64 c.threads, .int .u8 c.kind, .int .i64 c.stripes, .int .i64 c.bits, .int .i64 c.cap, .int .i64 c.node, .int .i64 c.batch, .int .i64 c.chunk, .int .u64 c.limit, .int .u64 c.most] 24)).alloc (.cells #[.int .u8 f.kind, .int .u32 f.a, .int .u32 f.b, .int .u8 f.pc, .int .u8 f.i, .int .u8 f.j, .int .u8 f.n, .int .u8 f.p, .int .u8 f.h, .int .u32 f.x, .int .u32 f.y] 27)) ([(w.heap.size, 0, .int .u8 c.object), (w.heap.size, 1, .int .i64 c.instances), (w.heap.size, 2, .int .i64 c.threads), (w.heap.size, 3, .int .u8 c.kind), (w.heap.size, 4, .int .i64 c.stripes), (w.heap.size, 5, .int .i64 c.bits), (w.heap.size, 6, .int .i64 c.cap), (w.heap.size, 7, .int .i64 c.node), (w.heap.size, 8, .int .i64 c.batch), (w.heap.size, 9, .int .i64 c.chunk), (w.heap.size, 10, .int .u64 c.limit), (w.heap.size, 11, .int .u64 c.most)] ++ [(w.heap.size + 1, 0, .int .u8 f.kind), (w.heap.size + 1, 1, .int .u32 f.a), (w.heap.size + 1, 2, .int .u32 f.b), (w.heap.size + 1, 3, .int .u8 f.pc), (w.heap.size + 1, 4, .int .u8 f.i), (w.heap.size + 1, 5, .int .u8 f.j), (w.heap.size + 1, 6, .int .u8 f.n), (w.heap.size + 1, 7, .int .u8 f.p), (w.heap.size + 1, 8, .int .u8 f.h), (w.heap.size + 1, 9, .int .u32 f.x), (w.heap.size + 1, 10, .int .u32 f.y)])) := Lib.hid (by rw [holds_iff]; simp [go_sem])
  clear hp hnum m5 m6 m7 m8
  go_enter Tryz.func33, Tryz.ntmps33
  go_wp2
  refine bodyPost_ret (v := (treStep c f).v) (by rw [HS1.out]; simp [results, Tryz.results33, go_sem]) rfl ⟨rfl, EX⟩
theorem stepR_21 (c : Cfg) (f : Frm) (hc : TreOk c) (hf : f.Fits) (hnum : treNum c f = true) (hp : f.pc = 21) (w : World) : Calls Tryz.prog 33 #[c.v, f.v] w
    fun e w' => e = .returned (treStep c f).v ∧ Ext w w' := by
  obtain ⟨m1, m2, m3, m4, m5, m6, m7, m8⟩ := treNum_facts hnum
  have htop := topI_bd c.cap c.node
  change 0 ≤ treTop c ∧ treTop c ≤ 4 at htop
  have hcap := hc.cap
  obtain ⟨⟨k0, k1⟩, ⟨a0, a1⟩, ⟨b0, b1⟩, ⟨p0, p1⟩, ⟨i0, i1⟩, ⟨j0, j1⟩, ⟨n0, n1⟩, ⟨q0, q1⟩, ⟨h0, h1⟩, ⟨x0, x1⟩, ⟨y0, y1⟩⟩ := hf
  have HS1 : Hid (treStep c f = ⟨4, 0, 0, 0, 0, 6, 0⟩) := Lib.hid (by simp [treStep, hp])
  have hp' : (f.pc == 21) = true := by simpa using hp
  have hwi : IntKind.i64.wrap f.i = f.i := by rw [IntKind.wrap_i64]; omega
  have hwn : IntKind.i64.wrap f.n = f.n := by rw [IntKind.wrap_i64]; omega
  have hwp : IntKind.i64.wrap f.p = f.p := by rw [IntKind.wrap_i64]; omega
  have hwh : IntKind.i64.wrap f.h = f.h := by rw [IntKind.wrap_i64]; omega
  have hwi1 : IntKind.i64.wrap (f.i - 1) = f.i - 1 := by rw [IntKind.wrap_i64]; omega
  have hwh1 : IntKind.i64.wrap (f.h - 1) = f.h - 1 := by rw [IntKind.wrap_i64]; omega
  have hua : IntKind.u64.wrap f.a = f.a := by rw [IntKind.wrap_u64]; omega
  have hub : IntKind.u64.wrap f.b = f.b := by rw [IntKind.wrap_u64]; omega
  have hux : IntKind.u64.wrap f.x = f.x := by rw [IntKind.wrap_u64]; omega
  have huy : IntKind.u64.wrap f.y = f.y := by rw [IntKind.wrap_u64]; omega
  have HK : Hid (Holds ((w.alloc (.cells #[.int .u8 c.object, .int .i64 c.instances, .int .i64 c.threads, .int .u8 c.kind, .int .i64 c.stripes, .int .i64 c.bits, .int .i64 c.cap, .int .i64 c.node, .int .i64 c.batch, .int .i64 c.chunk, .int .u64 c.limit, .int .u64 c.most] 24)).alloc (.cells #[.int .u8 f.kind, .int .u32 f.a, .int .u32 f.b, .int .u8 f.pc, .int .u8 f.i, .int .u8 f.j, .int .u8 f.n, .int .u8 f.p, .int .u8 f.h, .int .u32 f.x, .int .u32 f.y] 27)) ([(w.heap.size, 0, .int .u8 c.object), (w.heap.size, 1, .int .i64 c.instances), (w.heap.size, 2, .int .i64 c.threads), (w.heap.size, 3, .int .u8 c.kind), (w.heap.size, 4, .int .i64 c.stripes), (w.heap.size, 5, .int .i64 c.bits), (w.heap.size, 6, .int .i64 c.cap), (w.heap.size, 7, .int .i64 c.node), (w.heap.size, 8, .int .i64 c.batch), (w.heap.size, 9, .int .i64 c.chunk), (w.heap.size, 10, .int .u64 c.limit), (w.heap.size, 11, .int .u64 c.most)] ++ [(w.heap.size + 1, 0, .int .u8 f.kind), (w.heap.size + 1, 1, .int .u32 f.a), (w.heap.size + 1, 2, .int .u32 f.b), (w.heap.size + 1, 3, .int .u8 f.pc), (w.heap.size + 1, 4, .int .u8 f.i), (w.heap.size + 1, 5, .int .u8 f.j), (w.heap.size + 1, 6, .int .u8 f.n), (w.heap.size + 1, 7, .int .u8 f.p), (w.heap.size + 1, 8, .int .u8 f.h), (w.heap.size + 1, 9, .int .u32 f.x), (w.heap.size + 1, 10, .int .u32 f.y)])) := Lib.hid (by rw [holds_iff]; simp [go_sem])
  clear hp hnum m5 m6 m7 m8
  go_enter Tryz.func33, Tryz.ntmps33
  go_wp2
  refine bodyPost_ret (v := (treStep c f).v) (by rw [HS1.out]; simp [results, Tryz.results33, go_sem]) rfl ⟨rfl, EX⟩
theorem stepR_22 (c : Cfg) (f : Frm) (hc : TreOk c) (hf : f.Fits) (hnum : treNum c f = true) (hp : f.pc = 22) (w : World) : Calls Tryz.prog 33 #[c.v, f.v] w
    fun e w' => e = .returned (treStep c f).v ∧ Ext w w' := by
  obtain ⟨m1, m2, m3, m4, m5, m6, m7, m8⟩ := treNum_facts hnum
  have htop := topI_bd c.cap c.node
  change 0 ≤ treTop c ∧ treTop c ≤ 4 at htop
  have hcap := hc.cap
  obtain ⟨⟨k0, k1⟩, ⟨a0, a1⟩, ⟨b0, b1⟩, ⟨p0, p1⟩, ⟨i0, i1⟩, ⟨j0, j1⟩, ⟨n0, n1⟩, ⟨q0, q1⟩, ⟨h0, h1⟩, ⟨x0, x1⟩, ⟨y0, y1⟩⟩ := hf
  have HS1 : Hid (treStep c f = ⟨4, 0, 0, 0, 0, 9, 0⟩) := Lib.hid (by simp [treStep, hp])
  have hp' : (f.pc == 22) = true := by simpa using hp
  have hwi : IntKind.i64.wrap f.i = f.i := by rw [IntKind.wrap_i64]; omega
  have hwn : IntKind.i64.wrap f.n = f.n := by rw [IntKind.wrap_i64]; omega
  have hwp : IntKind.i64.wrap f.p = f.p := by rw [IntKind.wrap_i64]; omega
  have hwh : IntKind.i64.wrap f.h = f.h := by rw [IntKind.wrap_i64]; omega
  have hwi1 : IntKind.i64.wrap (f.i - 1) = f.i - 1 := by rw [IntKind.wrap_i64]; omega
  have hwh1 : IntKind.i64.wrap (f.h - 1) = f.h - 1 := by rw [IntKind.wrap_i64]; omega
  have hua : IntKind.u64.wrap f.a = f.a := by rw [IntKind.wrap_u64]; omega
  have hub : IntKind.u64.wrap f.b = f.b := by rw [IntKind.wrap_u64]; omega
  have hux : IntKind.u64.wrap f.x = f.x := by rw [IntKind.wrap_u64]; omega
  have huy : IntKind.u64.wrap f.y = f.y := by rw [IntKind.wrap_u64]; omega
  have HK : Hid (Holds ((w.alloc (.cells #[.int .u8 c.object, .int .i64 c.instances, .int .i64 c.threads, .int .u8 c.kind, .int .i64 c.stripes, .int .i64 c.bits, .int .i64 c.cap, .int .i64 c.node, .int .i64 c.batch, .int .i64 c.chunk, .int .u64 c.limit, .int .u64 c.most] 24)).alloc (.cells #[.int .u8 f.kind, .int .u32 f.a, .int .u32 f.b, .int .u8 f.pc, .int .u8 f.i, .int .u8 f.j, .int .u8 f.n, .int .u8 f.p, .int .u8 f.h, .int .u32 f.x, .int .u32 f.y] 27)) ([(w.heap.size, 0, .int .u8 c.object), (w.heap.size, 1, .int .i64 c.instances), (w.heap.size, 2, .int .i64 c.threads), (w.heap.size, 3, .int .u8 c.kind), (w.heap.size, 4, .int .i64 c.stripes), (w.heap.size, 5, .int .i64 c.bits), (w.heap.size, 6, .int .i64 c.cap), (w.heap.size, 7, .int .i64 c.node), (w.heap.size, 8, .int .i64 c.batch), (w.heap.size, 9, .int .i64 c.chunk), (w.heap.size, 10, .int .u64 c.limit), (w.heap.size, 11, .int .u64 c.most)] ++ [(w.heap.size + 1, 0, .int .u8 f.kind), (w.heap.size + 1, 1, .int .u32 f.a), (w.heap.size + 1, 2, .int .u32 f.b), (w.heap.size + 1, 3, .int .u8 f.pc), (w.heap.size + 1, 4, .int .u8 f.i), (w.heap.size + 1, 5, .int .u8 f.j), (w.heap.size + 1, 6, .int .u8 f.n), (w.heap.size + 1, 7, .int .u8 f.p), (w.heap.size + 1, 8, .int .u8 f.h), (w.heap.size + 1, 9, .int .u32 f.x), (w.heap.size + 1, 10, .int .u32 f.y)])) := Lib.hid (by rw [holds_iff]; simp [go_sem])
  clear hp hnum m5 m6 m7 m8
  go_enter Tryz.func33, Tryz.ntmps33
  go_wp2
  refine bodyPost_ret (v := (treStep c f).v) (by rw [HS1.out]; simp [results, Tryz.results33, go_sem]) rfl ⟨rfl, EX⟩
theorem stepR_23 (c : Cfg) (f : Frm) (hc : TreOk c) (hf : f.Fits) (hnum : treNum c f = true) (hp : f.pc = 23) (w : World) : Calls Tryz.prog 33 #[c.v, f.v] w
    fun e w' => e = .returned (treStep c f).v ∧ Ext w w' := by
  obtain ⟨m1, m2, m3, m4, m5, m6, m7, m8⟩ := treNum_facts hnum
  have htop := topI_bd c.cap c.node
  change 0 ≤ treTop c ∧ treTop c ≤ 4 at htop
  have hcap := hc.cap
  obtain ⟨⟨k0, k1⟩, ⟨a0, a1⟩, ⟨b0, b1⟩, ⟨p0, p1⟩, ⟨i0, i1⟩, ⟨j0, j1⟩, ⟨n0, n1⟩, ⟨q0, q1⟩, ⟨h0, h1⟩, ⟨x0, x1⟩, ⟨y0, y1⟩⟩ := hf
  obtain ⟨Q, hQ⟩ : ∃ Q, (f.y + 1) % 4294967296 = Q := ⟨_, rfl⟩
  have hwq : IntKind.u32.wrap (f.y + 1) = Q := by rw [IntKind.wrap_u32, hQ]
  have HS1 : Hid (treStep c f = ⟨4, 0, 0, 0, 0, 0, Q⟩) := Lib.hid (by simp [treStep, hp, hQ])
  have hp' : (f.pc == 23) = true := by simpa using hp
  have hwi : IntKind.i64.wrap f.i = f.i := by rw [IntKind.wrap_i64]; omega
  have hwn : IntKind.i64.wrap f.n = f.n := by rw [IntKind.wrap_i64]; omega
  have hwp : IntKind.i64.wrap f.p = f.p := by rw [IntKind.wrap_i64]; omega
  have hwh : IntKind.i64.wrap f.h = f.h := by rw [IntKind.wrap_i64]; omega
  have hwi1 : IntKind.i64.wrap (f.i - 1) = f.i - 1 := by rw [IntKind.wrap_i64]; omega
  have hwh1 : IntKind.i64.wrap (f.h - 1) = f.h - 1 := by rw [IntKind.wrap_i64]; omega
  have hua : IntKind.u64.wrap f.a = f.a := by rw [IntKind.wrap_u64]; omega
  have hub : IntKind.u64.wrap f.b = f.b := by rw [IntKind.wrap_u64]; omega
  have hux : IntKind.u64.wrap f.x = f.x := by rw [IntKind.wrap_u64]; omega
  have huy : IntKind.u64.wrap f.y = f.y := by rw [IntKind.wrap_u64]; omega
  have HK : Hid (Holds ((w.alloc (.cells #[.int .u8 c.object, .int .i64 c.instances, .int .i64 c.threads, .int .u8 c.kind, .int .i64 c.stripes, .int .i64 c.bits, .int .i64 c.cap, .int .i64 c.node, .int .i64 c.batch, .int .i64 c.chunk, .int .u64 c.limit, .int .u64 c.most] 24)).alloc (.cells #[.int .u8 f.kind, .int .u32 f.a, .int .u32 f.b, .int .u8 f.pc, .int .u8 f.i, .int .u8 f.j, .int .u8 f.n, .int .u8 f.p, .int .u8 f.h, .int .u32 f.x, .int .u32 f.y] 27)) ([(w.heap.size, 0, .int .u8 c.object), (w.heap.size, 1, .int .i64 c.instances), (w.heap.size, 2, .int .i64 c.threads), (w.heap.size, 3, .int .u8 c.kind), (w.heap.size, 4, .int .i64 c.stripes), (w.heap.size, 5, .int .i64 c.bits), (w.heap.size, 6, .int .i64 c.cap), (w.heap.size, 7, .int .i64 c.node), (w.heap.size, 8, .int .i64 c.batch), (w.heap.size, 9, .int .i64 c.chunk), (w.heap.size, 10, .int .u64 c.limit), (w.heap.size, 11, .int .u64 c.most)] ++ [(w.heap.size + 1, 0, .int .u8 f.kind), (w.heap.size + 1, 1, .int .u32 f.a), (w.heap.size + 1, 2, .int .u32 f.b), (w.heap.size + 1, 3, .int .u8 f.pc), (w.heap.size + 1, 4, .int .u8 f.i), (w.heap.size + 1, 5, .int .u8 f.j), (w.heap.size + 1, 6, .int .u8 f.n), (w.heap.size + 1, 7, .int .u8 f.p), (w.heap.size + 1, 8, .int .u8 f.h), (w.heap.size + 1, 9, .int .u32 f.x), (w.heap.size + 1, 10, .int .u32 f.y)])) := Lib.hid (by rw [holds_iff]; simp [go_sem])
  clear hp hnum m5 m6 m7 m8
  go_enter Tryz.func33, Tryz.ntmps33
  go_wp2
  refine bodyPost_ret (v := (treStep c f).v) (by rw [HS1.out]; simp [results, Tryz.results33, go_sem]) rfl ⟨rfl, EX⟩
theorem stepR_24 (c : Cfg) (f : Frm) (hc : TreOk c) (hf : f.Fits) (hnum : treNum c f = true) (hp : f.pc = 24) (w : World) : Calls Tryz.prog 33 #[c.v, f.v] w
    fun e w' => e = .returned (treStep c f).v ∧ Ext w w' := by
  obtain ⟨m1, m2, m3, m4, m5, m6, m7, m8⟩ := treNum_facts hnum
  have htop := topI_bd c.cap c.node
  change 0 ≤ treTop c ∧ treTop c ≤ 4 at htop
  have hcap := hc.cap
  obtain ⟨⟨k0, k1⟩, ⟨a0, a1⟩, ⟨b0, b1⟩, ⟨p0, p1⟩, ⟨i0, i1⟩, ⟨j0, j1⟩, ⟨n0, n1⟩, ⟨q0, q1⟩, ⟨h0, h1⟩, ⟨x0, x1⟩, ⟨y0, y1⟩⟩ := hf
  have HS1 : Hid (treStep c f = ⟨4, 0, 0, 0, 0, 0, 0⟩) := Lib.hid (by simp [treStep, hp])
  have hp' : (f.pc == 24) = true := by simpa using hp
  have hwi : IntKind.i64.wrap f.i = f.i := by rw [IntKind.wrap_i64]; omega
  have hwn : IntKind.i64.wrap f.n = f.n := by rw [IntKind.wrap_i64]; omega
  have hwp : IntKind.i64.wrap f.p = f.p := by rw [IntKind.wrap_i64]; omega
  have hwh : IntKind.i64.wrap f.h = f.h := by rw [IntKind.wrap_i64]; omega
  have hwi1 : IntKind.i64.wrap (f.i - 1) = f.i - 1 := by rw [IntKind.wrap_i64]; omega
  have hwh1 : IntKind.i64.wrap (f.h - 1) = f.h - 1 := by rw [IntKind.wrap_i64]; omega
  have hua : IntKind.u64.wrap f.a = f.a := by rw [IntKind.wrap_u64]; omega
  have hub : IntKind.u64.wrap f.b = f.b := by rw [IntKind.wrap_u64]; omega
  have hux : IntKind.u64.wrap f.x = f.x := by rw [IntKind.wrap_u64]; omega
  have huy : IntKind.u64.wrap f.y = f.y := by rw [IntKind.wrap_u64]; omega
  have HK : Hid (Holds ((w.alloc (.cells #[.int .u8 c.object, .int .i64 c.instances, .int .i64 c.threads, .int .u8 c.kind, .int .i64 c.stripes, .int .i64 c.bits, .int .i64 c.cap, .int .i64 c.node, .int .i64 c.batch, .int .i64 c.chunk, .int .u64 c.limit, .int .u64 c.most] 24)).alloc (.cells #[.int .u8 f.kind, .int .u32 f.a, .int .u32 f.b, .int .u8 f.pc, .int .u8 f.i, .int .u8 f.j, .int .u8 f.n, .int .u8 f.p, .int .u8 f.h, .int .u32 f.x, .int .u32 f.y] 27)) ([(w.heap.size, 0, .int .u8 c.object), (w.heap.size, 1, .int .i64 c.instances), (w.heap.size, 2, .int .i64 c.threads), (w.heap.size, 3, .int .u8 c.kind), (w.heap.size, 4, .int .i64 c.stripes), (w.heap.size, 5, .int .i64 c.bits), (w.heap.size, 6, .int .i64 c.cap), (w.heap.size, 7, .int .i64 c.node), (w.heap.size, 8, .int .i64 c.batch), (w.heap.size, 9, .int .i64 c.chunk), (w.heap.size, 10, .int .u64 c.limit), (w.heap.size, 11, .int .u64 c.most)] ++ [(w.heap.size + 1, 0, .int .u8 f.kind), (w.heap.size + 1, 1, .int .u32 f.a), (w.heap.size + 1, 2, .int .u32 f.b), (w.heap.size + 1, 3, .int .u8 f.pc), (w.heap.size + 1, 4, .int .u8 f.i), (w.heap.size + 1, 5, .int .u8 f.j), (w.heap.size + 1, 6, .int .u8 f.n), (w.heap.size + 1, 7, .int .u8 f.p), (w.heap.size + 1, 8, .int .u8 f.h), (w.heap.size + 1, 9, .int .u32 f.x), (w.heap.size + 1, 10, .int .u32 f.y)])) := Lib.hid (by rw [holds_iff]; simp [go_sem])
  clear hp hnum m5 m6 m7 m8
  go_enter Tryz.func33, Tryz.ntmps33
  go_wp2
  refine bodyPost_ret (v := (treStep c f).v) (by rw [HS1.out]; simp [results, Tryz.results33, go_sem]) rfl ⟨rfl, EX⟩
theorem stepR_25 (c : Cfg) (f : Frm) (hc : TreOk c) (hf : f.Fits) (hnum : treNum c f = true) (hp : f.pc = 25) (w : World) : Calls Tryz.prog 33 #[c.v, f.v] w
    fun e w' => e = .returned (treStep c f).v ∧ Ext w w' := by
  obtain ⟨m1, m2, m3, m4, m5, m6, m7, m8⟩ := treNum_facts hnum
  have htop := topI_bd c.cap c.node
  change 0 ≤ treTop c ∧ treTop c ≤ 4 at htop
  have hcap := hc.cap
  obtain ⟨⟨k0, k1⟩, ⟨a0, a1⟩, ⟨b0, b1⟩, ⟨p0, p1⟩, ⟨i0, i1⟩, ⟨j0, j1⟩, ⟨n0, n1⟩, ⟨q0, q1⟩, ⟨h0, h1⟩, ⟨x0, x1⟩, ⟨y0, y1⟩⟩ := hf
  have HS1 : Hid (treStep c f = ⟨4, 0, 0, 0, 0, 0, f.b⟩) := Lib.hid (by simp [treStep, hp])
  have hp' : (f.pc == 25) = true := by simpa using hp
  have hwi : IntKind.i64.wrap f.i = f.i := by rw [IntKind.wrap_i64]; omega
  have hwn : IntKind.i64.wrap f.n = f.n := by rw [IntKind.wrap_i64]; omega
  have hwp : IntKind.i64.wrap f.p = f.p := by rw [IntKind.wrap_i64]; omega
  have hwh : IntKind.i64.wrap f.h = f.h := by rw [IntKind.wrap_i64]; omega
  have hwi1 : IntKind.i64.wrap (f.i - 1) = f.i - 1 := by rw [IntKind.wrap_i64]; omega
  have hwh1 : IntKind.i64.wrap (f.h - 1) = f.h - 1 := by rw [IntKind.wrap_i64]; omega
  have hua : IntKind.u64.wrap f.a = f.a := by rw [IntKind.wrap_u64]; omega
  have hub : IntKind.u64.wrap f.b = f.b := by rw [IntKind.wrap_u64]; omega
  have hux : IntKind.u64.wrap f.x = f.x := by rw [IntKind.wrap_u64]; omega
  have huy : IntKind.u64.wrap f.y = f.y := by rw [IntKind.wrap_u64]; omega
  have HK : Hid (Holds ((w.alloc (.cells #[.int .u8 c.object, .int .i64 c.instances, .int .i64 c.threads, .int .u8 c.kind, .int .i64 c.stripes, .int .i64 c.bits, .int .i64 c.cap, .int .i64 c.node, .int .i64 c.batch, .int .i64 c.chunk, .int .u64 c.limit, .int .u64 c.most] 24)).alloc (.cells #[.int .u8 f.kind, .int .u32 f.a, .int .u32 f.b, .int .u8 f.pc, .int .u8 f.i, .int .u8 f.j, .int .u8 f.n, .int .u8 f.p, .int .u8 f.h, .int .u32 f.x, .int .u32 f.y] 27)) ([(w.heap.size, 0, .int .u8 c.object), (w.heap.size, 1, .int .i64 c.instances), (w.heap.size, 2, .int .i64 c.threads), (w.heap.size, 3, .int .u8 c.kind), (w.heap.size, 4, .int .i64 c.stripes), (w.heap.size, 5, .int .i64 c.bits), (w.heap.size, 6, .int .i64 c.cap), (w.heap.size, 7, .int .i64 c.node), (w.heap.size, 8, .int .i64 c.batch), (w.heap.size, 9, .int .i64 c.chunk), (w.heap.size, 10, .int .u64 c.limit), (w.heap.size, 11, .int .u64 c.most)] ++ [(w.heap.size + 1, 0, .int .u8 f.kind), (w.heap.size + 1, 1, .int .u32 f.a), (w.heap.size + 1, 2, .int .u32 f.b), (w.heap.size + 1, 3, .int .u8 f.pc), (w.heap.size + 1, 4, .int .u8 f.i), (w.heap.size + 1, 5, .int .u8 f.j), (w.heap.size + 1, 6, .int .u8 f.n), (w.heap.size + 1, 7, .int .u8 f.p), (w.heap.size + 1, 8, .int .u8 f.h), (w.heap.size + 1, 9, .int .u32 f.x), (w.heap.size + 1, 10, .int .u32 f.y)])) := Lib.hid (by rw [holds_iff]; simp [go_sem])
  clear hp hnum m5 m6 m7 m8
  go_enter Tryz.func33, Tryz.ntmps33
  go_wp2
  refine bodyPost_ret (v := (treStep c f).v) (by rw [HS1.out]; simp [results, Tryz.results33, go_sem]) rfl ⟨rfl, EX⟩
end Go.Proofs.YtmhmaifmendebaaGreatDoor.tree
