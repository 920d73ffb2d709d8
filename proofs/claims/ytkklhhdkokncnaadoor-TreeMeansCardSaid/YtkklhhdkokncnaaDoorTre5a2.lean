/- The walk of 'may', the layer 'tree'. -/
import Derived.Test.YtkklhhdkokncnaaDoorGf
namespace Go.Proofs.YtkklhhdkokncnaaDoor
open Go Go.RowKit
set_option maxRecDepth 100000
set_option maxHeartbeats 8000000

theorem treMay_other_p1 (c : Cfg) (f : Frm) (s : Value) (hok : TreOk c) (hf : f.Fits) (hk : (f.kind == 5) = false) (b : Nat) (w : World) (ht : Tab w) (hw : Holds w (tl c f s b)) (hs : Sl w s (lvC c) (lvL c)) (e0 : (opErr c ⟨f.kind, f.a, f.b, 0⟩ == 0) = true) (hb0 : treHas f = true) (mn : decide (c.cap < f.n) = false) (mp : decide (c.cap < f.p) = false) (mj : decide (c.chunk < f.j) = false) (mh : decide (treTop c < f.h) = false) (z16 : (f.pc == 16) = false) (jc : (f.j == c.chunk) = false) : Calls Tryd.prog 55 #[.pointer (some ⟨b, 0, none⟩)] w
    fun e w' => e = .returned (.bool (treMay c f)) ∧ Ext w w' := by
  have hb := tl_lt hw
  have hb1 : b < w.heap.size + 1 := by omega
  have hb2 : b < w.heap.size + 1 + 1 := by omega
  have HK := Lib.hid hw
  have HF := Lib.hid hf
  have HT := Lib.hid ht
  have HS := Lib.hid hs
  have hop : treOp f = ⟨f.kind, f.a, f.b, 0⟩ := by unfold treOp; rw [hk]; rfl
  have HO := Lib.hid (treOp_fits hf)
  rw [hop] at HO
  have htop := topI_bd c.cap c.node
  change 0 ≤ treTop c ∧ treTop c ≤ 4 at htop
  have hcap := hok.cap
  have hchunk := hok.chunk
  obtain ⟨B, hB⟩ : ∃ B, treHas f = B := ⟨_, rfl⟩
  obtain ⟨E, hE⟩ : ∃ E, opErr c ⟨f.kind, f.a, f.b, 0⟩ = E := ⟨_, rfl⟩
  obtain ⟨T, hT⟩ : ∃ T, treTop c = T := ⟨_, rfl⟩
  obtain ⟨U, hU⟩ : ∃ U, treUp c f.n f.h = U := ⟨_, rfl⟩
  obtain ⟨A, hA⟩ : ∃ A, treStep c f = A := ⟨_, rfl⟩
  rw [hT] at htop
  rw [hE] at e0
  rw [hB] at hb0
  rw [hT] at mh
  have HM : Hid (treMay c f = (opErr c ⟨f.kind, f.a, f.b, 0⟩ == 0 && treHas f && treNum c f && decide (0 ≤ (treStep c f).at'))) := Lib.hid (by rw [← hop]; rfl)
  have HB := Lib.hid hB
  have HE := Lib.hid hE
  have HTOP := Lib.hid hT
  have HU := Lib.hid hU
  have HST := Lib.hid hA
  simp only [tl, Holds, List.cons_append, List.nil_append] at hw
  obtain ⟨⟨k0, k1⟩, _, _, ⟨p0, p1⟩, ⟨i0, i1⟩, ⟨j0, j1⟩, ⟨n0, n1⟩, ⟨q0, q1⟩, ⟨h0, h1⟩, _, _⟩ := hf
  have hwi : IntKind.i64.wrap f.i = f.i := by rw [IntKind.wrap_i64]; omega
  have hwn : IntKind.i64.wrap f.n = f.n := by rw [IntKind.wrap_i64]; omega
  have hwp : IntKind.i64.wrap f.p = f.p := by rw [IntKind.wrap_i64]; omega
  have hwj : IntKind.i64.wrap f.j = f.j := by rw [IntKind.wrap_i64]; omega
  have hfa : ∀ w : World, (Instr.field 30 A.v 1).run Tryd.prog w = .ok (.int .i64 A.at') w := fun _ => by kernel_rfl
  clear ht hB hE hT hU hA hs hop
  go_enter Tryd.func55, Tryd.ntmps55
  go_wp2_with fail
  go_region
  go_upto_region 4 with fail
  refine wp_gen (fun W => Ext w W ∧ w.heap.size < W.heap.size ∧ Holds W ([(w.heap.size, 0, .int .u8 f.kind), (w.heap.size, 1, .int .u32 f.a), (w.heap.size, 2, .int .u32 (f.b)), (w.heap.size, 3, .int .u32 0)] ++ tl c f s b)) ?_ ?_
  · exact ⟨EX, by simp, Holds.app (by simp [Holds, go_sem]) (HK.out.ext EX)⟩
  intro W HH
  have HW := Lib.hid HH.1
  have hA0 := HH.2.1
  have hbW : b < W.heap.size := Nat.lt_of_lt_of_le hb HH.1.size
  have hKW := HH.2.2
  simp only [tl, Holds, List.cons_append, List.nil_append] at hKW
  clear HH hw hb hb1 hb2
  obtain rfl : E = 0 := by simpa using e0
  subst hb0
  have z16' : (f.pc != 16) = true := by simpa using z16
  have G5 : Hid (f.pc = 16 ∨ f.j ≠ c.chunk) := Lib.hid (Or.inr (by simpa using jc))
  ((refine wp_region_ext_lit (by kernel_rfl) (by kernel_rfl) ?_); (dsimp only [List.append]); (repeat (go_big_quiet_step ((first | (go_at_call 46; exact quiet_ext ((opCheck_any c ⟨f.kind, f.a, f.b, 0⟩ HO.out _ (Tab.ext (Tab.ext HT.out HW.out) EX)).mono fun e w' ⟨he, hx⟩ => ⟨by rw [he, HE.out], hx⟩)) | (go_at_call 94; exact quiet_ext ((treHas_any c f s b _ (HK.out.ext (Ext.trans HW.out EX))).mono fun e w' ⟨he, hx⟩ => ⟨by rw [he, HB.out], hx⟩)) | (go_at_call 69; exact quiet_ext ((treTop_any c f s b _ (HK.out.ext (Ext.trans HW.out EX)) (HS.out.ext (Ext.trans HW.out EX))).mono fun e w' ⟨he, hx⟩ => ⟨by rw [he, HTOP.out], hx ▸ Ext.refl _⟩)))))); (refine wpQuiet_nil ?_; intro _ hw'; obtain ⟨⟨osq, nq⟩, hw''⟩ := hw'; replace hw'' : _ = grew _ osq nq := hw''; subst hw''))
  go_upto_region 6 with fail
  refine wp_gen (fun V => Ext W V) EX ?_
  intro V HV
  have HW := Lib.hid (HW.out.trans HV)
  have hbV : b < V.heap.size := Nat.lt_of_lt_of_le hbW HV.size
  have hv := HK.out.ext HW.out
  simp only [tl, Holds, List.cons_append, List.nil_append] at hv
  have g1 : f.n ≤ c.cap := by simpa using mn
  have g2 : f.p ≤ c.cap := by simpa using mp
  have g3 : f.j ≤ c.chunk := by simpa using mj
  have g4 : f.h ≤ T := by simpa using mh
  clear HV hKW
  cases z9 : (f.pc == 9)
  · cases z11 : (f.pc == 11)
    · cases z12 : (f.pc == 12)
      · cases z6 : (f.pc == 6)
        · have HNUM := Lib.hid (treNum_of g1 g2 g3 (by rw [HTOP.out]; exact g4) G5.out (fun e => by simp [e] at z6) (fun e => by rcases e with e | e <;> simp [e] at z9 z11) (fun e => by simp [e] at z12))
          (go_wp2_with (go_at_call 30; refine (treAct_any c f s hok HF.out HB.out HNUM.out b _ (Tab.ext HT.out (HW.out.trans EX)) (HK.out.ext (HW.out.trans EX)) (HS.out.ext (HW.out.trans EX))).mono ?_; rintro e w1 ⟨rfl, os1, n1, rfl⟩; rw [HST.out]); (go_ret; refine ⟨ret_bool ?_, HW.out.trans EX⟩); rw [HM.out, HE.out, HB.out, HNUM.out, HST.out]; simp)
        · cases mi : decide (f.i < 1)
          · have HNUM := Lib.hid (treNum_of g1 g2 g3 (by rw [HTOP.out]; exact g4) G5.out (fun e => by simpa using mi) (fun e => by rcases e with e | e <;> simp [e] at z9 z11) (fun e => by simp [e] at z12))
            (go_wp2_with (go_at_call 30; refine (treAct_any c f s hok HF.out HB.out HNUM.out b _ (Tab.ext HT.out (HW.out.trans EX)) (HK.out.ext (HW.out.trans EX)) (HS.out.ext (HW.out.trans EX))).mono ?_; rintro e w1 ⟨rfl, os1, n1, rfl⟩; rw [HST.out]); (go_ret; refine ⟨ret_bool ?_, HW.out.trans EX⟩); rw [HM.out, HE.out, HB.out, HNUM.out, HST.out]; simp)
          · go_wp2
            (go_ret; refine ⟨ret_bool ?_, HW.out.trans EX⟩)
            rw [HM.out, treNum_no (Or.inr (Or.inr (Or.inr (Or.inr (Or.inr (Or.inl ⟨by simpa using z6, by simpa using mi⟩))))))]
            simp
      · cases mi : decide (f.h < 1)
        · have HNUM := Lib.hid (treNum_of g1 g2 g3 (by rw [HTOP.out]; exact g4) G5.out (fun e => by simp [e] at z12) (fun e => by rcases e with e | e <;> simp [e] at z9 z11) (fun e => by simpa using mi))
          (go_wp2_with (go_at_call 30; refine (treAct_any c f s hok HF.out HB.out HNUM.out b _ (Tab.ext HT.out (HW.out.trans EX)) (HK.out.ext (HW.out.trans EX)) (HS.out.ext (HW.out.trans EX))).mono ?_; rintro e w1 ⟨rfl, os1, n1, rfl⟩; rw [HST.out]); (go_ret; refine ⟨ret_bool ?_, HW.out.trans EX⟩); rw [HM.out, HE.out, HB.out, HNUM.out, HST.out]; simp)
        · go_wp2
          (go_ret; refine ⟨ret_bool ?_, HW.out.trans EX⟩)
          rw [HM.out, treNum_no (Or.inr (Or.inr (Or.inr (Or.inr (Or.inr (Or.inr (Or.inr ⟨by simpa using z12, by simpa using mi⟩)))))))]
          simp
    · cases mi : decide (f.h < 1)
      · cases mu : decide (U ≤ f.i)
        · go_upto_region 9 with fail
          ((refine wp_region_ext_lit (by kernel_rfl) (by kernel_rfl) ?_); (repeat (go_big_quiet_step ((go_at_call 60; exact quiet_ext ((treCount_any c f s hok f.n f.h (by omega) (by omega) b _ (Tab.ext HT.out (Ext.trans HW.out EX)) (HK.out.ext (Ext.trans HW.out EX))).mono fun e w' ⟨he, hx⟩ => ⟨by rw [he, HU.out], hx ▸ Ext.refl _⟩))))); (refine wpQuiet_nil ?_; intro _ hw'; obtain ⟨⟨osq, nq⟩, hw''⟩ := hw'; replace hw'' : _ = grew _ osq nq := hw''; subst hw''))
          have HNUM := Lib.hid (treNum_of g1 g2 g3 (by rw [HTOP.out]; exact g4) G5.out (fun e => by simp [e] at z9; try simp [e] at z11) (fun _ => ⟨by simpa using mi, by rw [HU.out]; simpa using mu⟩) (fun e => by simp [e] at z9; try simp [e] at z11))
          (go_wp2_with (go_at_call 30; refine (treAct_any c f s hok HF.out HB.out HNUM.out b _ (Tab.ext HT.out (HW.out.trans EX)) (HK.out.ext (HW.out.trans EX)) (HS.out.ext (HW.out.trans EX))).mono ?_; rintro e w1 ⟨rfl, os1, n1, rfl⟩; rw [HST.out]); (go_ret; refine ⟨ret_bool ?_, HW.out.trans EX⟩); rw [HM.out, HE.out, HB.out, HNUM.out, HST.out]; simp)
        · go_upto_region 9 with fail
          ((refine wp_region_ext_lit (by kernel_rfl) (by kernel_rfl) ?_); (repeat (go_big_quiet_step ((go_at_call 60; exact quiet_ext ((treCount_any c f s hok f.n f.h (by omega) (by omega) b _ (Tab.ext HT.out (Ext.trans HW.out EX)) (HK.out.ext (Ext.trans HW.out EX))).mono fun e w' ⟨he, hx⟩ => ⟨by rw [he, HU.out], hx ▸ Ext.refl _⟩))))); (refine wpQuiet_nil ?_; intro _ hw'; obtain ⟨⟨osq, nq⟩, hw''⟩ := hw'; replace hw'' : _ = grew _ osq nq := hw''; subst hw''))
          go_wp2
          (go_ret; refine ⟨ret_bool ?_, HW.out.trans EX⟩)
          rw [HM.out, treNum_no (Or.inr (Or.inr (Or.inr (Or.inr (Or.inr (Or.inr (Or.inl ⟨Or.inr (by simpa using z11), Or.inr (by rw [HU.out]; simpa using mu)⟩)))))))]
          simp
      · go_upto_region 9 with fail
        ((refine wp_region_ext_lit (by kernel_rfl) (by kernel_rfl) ?_); (repeat (go_big_quiet_step ((go_at_call 60; exact quiet_ext ((treCount_any c f s hok f.n f.h (by omega) (by omega) b _ (Tab.ext HT.out (Ext.trans HW.out EX)) (HK.out.ext (Ext.trans HW.out EX))).mono fun e w' ⟨he, hx⟩ => ⟨by rw [he, HU.out], hx ▸ Ext.refl _⟩))))); (refine wpQuiet_nil ?_; intro _ hw'; obtain ⟨⟨osq, nq⟩, hw''⟩ := hw'; replace hw'' : _ = grew _ osq nq := hw''; subst hw''))
        go_wp2
        (go_ret; refine ⟨ret_bool ?_, HW.out.trans EX⟩)
        rw [HM.out, treNum_no (Or.inr (Or.inr (Or.inr (Or.inr (Or.inr (Or.inr (Or.inl ⟨Or.inr (by simpa using z11), Or.inl (by simpa using mi)⟩)))))))]
        simp
  · cases mi : decide (f.h < 1)
    · cases mu : decide (U ≤ f.i)
      · go_upto_region 9 with fail
        ((refine wp_region_ext_lit (by kernel_rfl) (by kernel_rfl) ?_); (repeat (go_big_quiet_step ((go_at_call 60; exact quiet_ext ((treCount_any c f s hok f.n f.h (by omega) (by omega) b _ (Tab.ext HT.out (Ext.trans HW.out EX)) (HK.out.ext (Ext.trans HW.out EX))).mono fun e w' ⟨he, hx⟩ => ⟨by rw [he, HU.out], hx ▸ Ext.refl _⟩))))); (refine wpQuiet_nil ?_; intro _ hw'; obtain ⟨⟨osq, nq⟩, hw''⟩ := hw'; replace hw'' : _ = grew _ osq nq := hw''; subst hw''))
        have HNUM := Lib.hid (treNum_of g1 g2 g3 (by rw [HTOP.out]; exact g4) G5.out (fun e => by simp [e] at z9; try simp [e] at z11) (fun _ => ⟨by simpa using mi, by rw [HU.out]; simpa using mu⟩) (fun e => by simp [e] at z9; try simp [e] at z11))
        (go_wp2_with (go_at_call 30; refine (treAct_any c f s hok HF.out HB.out HNUM.out b _ (Tab.ext HT.out (HW.out.trans EX)) (HK.out.ext (HW.out.trans EX)) (HS.out.ext (HW.out.trans EX))).mono ?_; rintro e w1 ⟨rfl, os1, n1, rfl⟩; rw [HST.out]); (go_ret; refine ⟨ret_bool ?_, HW.out.trans EX⟩); rw [HM.out, HE.out, HB.out, HNUM.out, HST.out]; simp)
      · go_upto_region 9 with fail
        ((refine wp_region_ext_lit (by kernel_rfl) (by kernel_rfl) ?_); (repeat (go_big_quiet_step ((go_at_call 60; exact quiet_ext ((treCount_any c f s hok f.n f.h (by omega) (by omega) b _ (Tab.ext HT.out (Ext.trans HW.out EX)) (HK.out.ext (Ext.trans HW.out EX))).mono fun e w' ⟨he, hx⟩ => ⟨by rw [he, HU.out], hx ▸ Ext.refl _⟩))))); (refine wpQuiet_nil ?_; intro _ hw'; obtain ⟨⟨osq, nq⟩, hw''⟩ := hw'; replace hw'' : _ = grew _ osq nq := hw''; subst hw''))
        go_wp2
        (go_ret; refine ⟨ret_bool ?_, HW.out.trans EX⟩)
        rw [HM.out, treNum_no (Or.inr (Or.inr (Or.inr (Or.inr (Or.inr (Or.inr (Or.inl ⟨Or.inl (by simpa using z9), Or.inr (by rw [HU.out]; simpa using mu)⟩)))))))]
        simp
    · go_upto_region 9 with fail
      ((refine wp_region_ext_lit (by kernel_rfl) (by kernel_rfl) ?_); (repeat (go_big_quiet_step ((go_at_call 60; exact quiet_ext ((treCount_any c f s hok f.n f.h (by omega) (by omega) b _ (Tab.ext HT.out (Ext.trans HW.out EX)) (HK.out.ext (Ext.trans HW.out EX))).mono fun e w' ⟨he, hx⟩ => ⟨by rw [he, HU.out], hx ▸ Ext.refl _⟩))))); (refine wpQuiet_nil ?_; intro _ hw'; obtain ⟨⟨osq, nq⟩, hw''⟩ := hw'; replace hw'' : _ = grew _ osq nq := hw''; subst hw''))
      go_wp2
      (go_ret; refine ⟨ret_bool ?_, HW.out.trans EX⟩)
      rw [HM.out, treNum_no (Or.inr (Or.inr (Or.inr (Or.inr (Or.inr (Or.inr (Or.inl ⟨Or.inl (by simpa using z9), Or.inl (by simpa using mi)⟩)))))))]
      simp
end Go.Proofs.YtkklhhdkokncnaaDoor
