/- The walk of 'may', the layer 'tree'. -/
import Derived.Test.YtkklhhdkokncnaaDoorGf
namespace Go.Proofs.YtkklhhdkokncnaaDoor
open Go Go.RowKit
set_option maxRecDepth 100000
set_option maxHeartbeats 8000000

theorem treMay_delete_e (c : Cfg) (f : Frm) (s : Value) (hok : TreOk c) (hf : f.Fits) (hk : (f.kind == 5) = true) (b : Nat) (w : World) (ht : Tab w) (hw : Holds w (tl c f s b)) (hs : Sl w s (lvC c) (lvL c)) (e0 : (opErr c ⟨f.kind, f.a, 0, 0⟩ == 0) = false) : Calls Tryd.prog 55 #[.pointer (some ⟨b, 0, none⟩)] w
    fun e w' => e = .returned (.bool (treMay c f)) ∧ Ext w w' := by
  have hb := tl_lt hw
  have hb1 : b < w.heap.size + 1 := by omega
  have hb2 : b < w.heap.size + 1 + 1 := by omega
  have HK := Lib.hid hw
  have HF := Lib.hid hf
  have HT := Lib.hid ht
  have HS := Lib.hid hs
  have hop : treOp f = ⟨f.kind, f.a, 0, 0⟩ := by unfold treOp; rw [hk]; rfl
  have HO := Lib.hid (treOp_fits hf)
  rw [hop] at HO
  have htop := topI_bd c.cap c.node
  change 0 ≤ treTop c ∧ treTop c ≤ 4 at htop
  have hcap := hok.cap
  have hchunk := hok.chunk
  obtain ⟨B, hB⟩ : ∃ B, treHas f = B := ⟨_, rfl⟩
  obtain ⟨E, hE⟩ : ∃ E, opErr c ⟨f.kind, f.a, 0, 0⟩ = E := ⟨_, rfl⟩
  obtain ⟨T, hT⟩ : ∃ T, treTop c = T := ⟨_, rfl⟩
  obtain ⟨U, hU⟩ : ∃ U, treUp c f.n f.h = U := ⟨_, rfl⟩
  obtain ⟨A, hA⟩ : ∃ A, treStep c f = A := ⟨_, rfl⟩
  rw [hT] at htop
  rw [hE] at e0
  have HM : Hid (treMay c f = (opErr c ⟨f.kind, f.a, 0, 0⟩ == 0 && treHas f && treNum c f && decide (0 ≤ (treStep c f).at'))) := Lib.hid (by rw [← hop]; rfl)
  have HB := Lib.hid hB
  have HE := Lib.hid hE
  have HTOP := Lib.hid hT
  have HU := Lib.hid hU
  have HST := Lib.hid hA
  simp only [tl, Holds, List.cons_append, List.nil_append] at hw
  obtain ⟨⟨k0, k1⟩, _, _, ⟨p0, p1⟩, ⟨i0, i1⟩, ⟨j0, j1⟩, ⟨n0, n1⟩, ⟨q0, q1⟩, ⟨h0, h1⟩, _, _⟩ := hf
  have hwi : IntKind.i64.wrap f.i = f.i := by rw [IntKind.wrap_i64]; omega
  have hwn : IntKind.i64.wrap f.n = f.n := by rw [IntKind.wrap_i64]; omega
  have hwp : IntKind.i64.wrap f.p = f.p := by rw [IntKind.wrap_i64]; omega
  have hwj : IntKind.i64.wrap f.j = f.j := by rw [IntKind.wrap_i64]; omega
  have hfa : ∀ w : World, (Instr.field 30 A.v 1).run Tryd.prog w = .ok (.int .i64 A.at') w := fun _ => by kernel_rfl
  clear ht hB hE hT hU hA hs hop
  go_enter Tryd.func55, Tryd.ntmps55
  go_wp2_with fail
  go_region
  go_upto_region 4 with fail
  refine wp_gen (fun W => Ext w W ∧ w.heap.size < W.heap.size ∧ Holds W ([(w.heap.size, 0, .int .u8 f.kind), (w.heap.size, 1, .int .u32 f.a), (w.heap.size, 2, .int .u32 (0)), (w.heap.size, 3, .int .u32 0)] ++ tl c f s b)) ?_ ?_
  · exact ⟨EX, by simp, Holds.app (by simp [Holds, go_sem]) (HK.out.ext EX)⟩
  intro W HH
  have HW := Lib.hid HH.1
  have hA0 := HH.2.1
  have hbW : b < W.heap.size := Nat.lt_of_lt_of_le hb HH.1.size
  have hKW := HH.2.2
  simp only [tl, Holds, List.cons_append, List.nil_append] at hKW
  clear HH hw hb hb1 hb2
  have e1 : (E != 0) = true := by simpa using e0
  ((refine wp_region_ext_lit (by kernel_rfl) (by kernel_rfl) ?_); (dsimp only [List.append]); (repeat (go_big_quiet_step ((first | (go_at_call 46; exact quiet_ext ((opCheck_any c ⟨f.kind, f.a, 0, 0⟩ HO.out _ (Tab.ext (Tab.ext HT.out HW.out) EX)).mono fun e w' ⟨he, hx⟩ => ⟨by rw [he, HE.out], hx⟩)) | (go_at_call 94; exact quiet_ext ((treHas_any c f s b _ (HK.out.ext (Ext.trans HW.out EX))).mono fun e w' ⟨he, hx⟩ => ⟨by rw [he, HB.out], hx⟩)) | (go_at_call 69; exact quiet_ext ((treTop_any c f s b _ (HK.out.ext (Ext.trans HW.out EX)) (HS.out.ext (Ext.trans HW.out EX))).mono fun e w' ⟨he, hx⟩ => ⟨by rw [he, HTOP.out], hx ▸ Ext.refl _⟩)))))); (refine wpQuiet_nil ?_; intro _ hw'; obtain ⟨⟨osq, nq⟩, hw''⟩ := hw'; replace hw'' : _ = grew _ osq nq := hw''; subst hw''))
  go_wp2
  (go_ret; refine ⟨ret_bool ?_, HW.out.trans EX⟩)
  rw [HM.out, HE.out, e0]
  rfl
theorem treMay_delete_b (c : Cfg) (f : Frm) (s : Value) (hok : TreOk c) (hf : f.Fits) (hk : (f.kind == 5) = true) (b : Nat) (w : World) (ht : Tab w) (hw : Holds w (tl c f s b)) (hs : Sl w s (lvC c) (lvL c)) (e0 : (opErr c ⟨f.kind, f.a, 0, 0⟩ == 0) = true) (hb0 : treHas f = false) : Calls Tryd.prog 55 #[.pointer (some ⟨b, 0, none⟩)] w
    fun e w' => e = .returned (.bool (treMay c f)) ∧ Ext w w' := by
  have hb := tl_lt hw
  have hb1 : b < w.heap.size + 1 := by omega
  have hb2 : b < w.heap.size + 1 + 1 := by omega
  have HK := Lib.hid hw
  have HF := Lib.hid hf
  have HT := Lib.hid ht
  have HS := Lib.hid hs
  have hop : treOp f = ⟨f.kind, f.a, 0, 0⟩ := by unfold treOp; rw [hk]; rfl
  have HO := Lib.hid (treOp_fits hf)
  rw [hop] at HO
  have htop := topI_bd c.cap c.node
  change 0 ≤ treTop c ∧ treTop c ≤ 4 at htop
  have hcap := hok.cap
  have hchunk := hok.chunk
  obtain ⟨B, hB⟩ : ∃ B, treHas f = B := ⟨_, rfl⟩
  obtain ⟨E, hE⟩ : ∃ E, opErr c ⟨f.kind, f.a, 0, 0⟩ = E := ⟨_, rfl⟩
  obtain ⟨T, hT⟩ : ∃ T, treTop c = T := ⟨_, rfl⟩
  obtain ⟨U, hU⟩ : ∃ U, treUp c f.n f.h = U := ⟨_, rfl⟩
  obtain ⟨A, hA⟩ : ∃ A, treStep c f = A := ⟨_, rfl⟩
  rw [hT] at htop
  rw [hE] at e0
  rw [hB] at hb0
  have HM : Hid (treMay c f = (opErr c ⟨f.kind, f.a, 0, 0⟩ == 0 && treHas f && treNum c f && decide (0 ≤ (treStep c f).at'))) := Lib.hid (by rw [← hop]; rfl)
  have HB := Lib.hid hB
  have HE := Lib.hid hE
  have HTOP := Lib.hid hT
  have HU := Lib.hid hU
  have HST := Lib.hid hA
  simp only [tl, Holds, List.cons_append, List.nil_append] at hw
  obtain ⟨⟨k0, k1⟩, _, _, ⟨p0, p1⟩, ⟨i0, i1⟩, ⟨j0, j1⟩, ⟨n0, n1⟩, ⟨q0, q1⟩, ⟨h0, h1⟩, _, _⟩ := hf
  have hwi : IntKind.i64.wrap f.i = f.i := by rw [IntKind.wrap_i64]; omega
  have hwn : IntKind.i64.wrap f.n = f.n := by rw [IntKind.wrap_i64]; omega
  have hwp : IntKind.i64.wrap f.p = f.p := by rw [IntKind.wrap_i64]; omega
  have hwj : IntKind.i64.wrap f.j = f.j := by rw [IntKind.wrap_i64]; omega
  have hfa : ∀ w : World, (Instr.field 30 A.v 1).run Tryd.prog w = .ok (.int .i64 A.at') w := fun _ => by kernel_rfl
  clear ht hB hE hT hU hA hs hop
  go_enter Tryd.func55, Tryd.ntmps55
  go_wp2_with fail
  go_region
  go_upto_region 4 with fail
  refine wp_gen (fun W => Ext w W ∧ w.heap.size < W.heap.size ∧ Holds W ([(w.heap.size, 0, .int .u8 f.kind), (w.heap.size, 1, .int .u32 f.a), (w.heap.size, 2, .int .u32 (0)), (w.heap.size, 3, .int .u32 0)] ++ tl c f s b)) ?_ ?_
  · exact ⟨EX, by simp, Holds.app (by simp [Holds, go_sem]) (HK.out.ext EX)⟩
  intro W HH
  have HW := Lib.hid HH.1
  have hA0 := HH.2.1
  have hbW : b < W.heap.size := Nat.lt_of_lt_of_le hb HH.1.size
  have hKW := HH.2.2
  simp only [tl, Holds, List.cons_append, List.nil_append] at hKW
  clear HH hw hb hb1 hb2
  obtain rfl : E = 0 := by simpa using e0
  subst hb0
  ((refine wp_region_ext_lit (by kernel_rfl) (by kernel_rfl) ?_); (dsimp only [List.append]); (repeat (go_big_quiet_step ((first | (go_at_call 46; exact quiet_ext ((opCheck_any c ⟨f.kind, f.a, 0, 0⟩ HO.out _ (Tab.ext (Tab.ext HT.out HW.out) EX)).mono fun e w' ⟨he, hx⟩ => ⟨by rw [he, HE.out], hx⟩)) | (go_at_call 94; exact quiet_ext ((treHas_any c f s b _ (HK.out.ext (Ext.trans HW.out EX))).mono fun e w' ⟨he, hx⟩ => ⟨by rw [he, HB.out], hx⟩)) | (go_at_call 69; exact quiet_ext ((treTop_any c f s b _ (HK.out.ext (Ext.trans HW.out EX)) (HS.out.ext (Ext.trans HW.out EX))).mono fun e w' ⟨he, hx⟩ => ⟨by rw [he, HTOP.out], hx ▸ Ext.refl _⟩)))))); (refine wpQuiet_nil ?_; intro _ hw'; obtain ⟨⟨osq, nq⟩, hw''⟩ := hw'; replace hw'' : _ = grew _ osq nq := hw''; subst hw''))
  go_wp2
  (go_ret; refine ⟨ret_bool ?_, HW.out.trans EX⟩)
  rw [HM.out, HE.out, HB.out]
  rfl
theorem treMay_delete_mn (c : Cfg) (f : Frm) (s : Value) (hok : TreOk c) (hf : f.Fits) (hk : (f.kind == 5) = true) (b : Nat) (w : World) (ht : Tab w) (hw : Holds w (tl c f s b)) (hs : Sl w s (lvC c) (lvL c)) (e0 : (opErr c ⟨f.kind, f.a, 0, 0⟩ == 0) = true) (hb0 : treHas f = true) (mn : decide (c.cap < f.n) = true) : Calls Tryd.prog 55 #[.pointer (some ⟨b, 0, none⟩)] w
    fun e w' => e = .returned (.bool (treMay c f)) ∧ Ext w w' := by
  have hb := tl_lt hw
  have hb1 : b < w.heap.size + 1 := by omega
  have hb2 : b < w.heap.size + 1 + 1 := by omega
  have HK := Lib.hid hw
  have HF := Lib.hid hf
  have HT := Lib.hid ht
  have HS := Lib.hid hs
  have hop : treOp f = ⟨f.kind, f.a, 0, 0⟩ := by unfold treOp; rw [hk]; rfl
  have HO := Lib.hid (treOp_fits hf)
  rw [hop] at HO
  have htop := topI_bd c.cap c.node
  change 0 ≤ treTop c ∧ treTop c ≤ 4 at htop
  have hcap := hok.cap
  have hchunk := hok.chunk
  obtain ⟨B, hB⟩ : ∃ B, treHas f = B := ⟨_, rfl⟩
  obtain ⟨E, hE⟩ : ∃ E, opErr c ⟨f.kind, f.a, 0, 0⟩ = E := ⟨_, rfl⟩
  obtain ⟨T, hT⟩ : ∃ T, treTop c = T := ⟨_, rfl⟩
  obtain ⟨U, hU⟩ : ∃ U, treUp c f.n f.h = U := ⟨_, rfl⟩
  obtain ⟨A, hA⟩ : ∃ A, treStep c f = A := ⟨_, rfl⟩
  rw [hT] at htop
  rw [hE] at e0
  rw [hB] at hb0
  have HM : Hid (treMay c f = (opErr c ⟨f.kind, f.a, 0, 0⟩ == 0 && treHas f && treNum c f && decide (0 ≤ (treStep c f).at'))) := Lib.hid (by rw [← hop]; rfl)
  have HB := Lib.hid hB
  have HE := Lib.hid hE
  have HTOP := Lib.hid hT
  have HU := Lib.hid hU
  have HST := Lib.hid hA
  simp only [tl, Holds, List.cons_append, List.nil_append] at hw
  obtain ⟨⟨k0, k1⟩, _, _, ⟨p0, p1⟩, ⟨i0, i1⟩, ⟨j0, j1⟩, ⟨n0, n1⟩, ⟨q0, q1⟩, ⟨h0, h1⟩, _, _⟩ := hf
  have hwi : IntKind.i64.wrap f.i = f.i := by rw [IntKind.wrap_i64]; omega
  have hwn : IntKind.i64.wrap f.n = f.n := by rw [IntKind.wrap_i64]; omega
  have hwp : IntKind.i64.wrap f.p = f.p := by rw [IntKind.wrap_i64]; omega
  have hwj : IntKind.i64.wrap f.j = f.j := by rw [IntKind.wrap_i64]; omega
  have hfa : ∀ w : World, (Instr.field 30 A.v 1).run Tryd.prog w = .ok (.int .i64 A.at') w := fun _ => by kernel_rfl
  clear ht hB hE hT hU hA hs hop
  go_enter Tryd.func55, Tryd.ntmps55
  go_wp2_with fail
  go_region
  go_upto_region 4 with fail
  refine wp_gen (fun W => Ext w W ∧ w.heap.size < W.heap.size ∧ Holds W ([(w.heap.size, 0, .int .u8 f.kind), (w.heap.size, 1, .int .u32 f.a), (w.heap.size, 2, .int .u32 (0)), (w.heap.size, 3, .int .u32 0)] ++ tl c f s b)) ?_ ?_
  · exact ⟨EX, by simp, Holds.app (by simp [Holds, go_sem]) (HK.out.ext EX)⟩
  intro W HH
  have HW := Lib.hid HH.1
  have hA0 := HH.2.1
  have hbW : b < W.heap.size := Nat.lt_of_lt_of_le hb HH.1.size
  have hKW := HH.2.2
  simp only [tl, Holds, List.cons_append, List.nil_append] at hKW
  clear HH hw hb hb1 hb2
  obtain rfl : E = 0 := by simpa using e0
  subst hb0
  ((refine wp_region_ext_lit (by kernel_rfl) (by kernel_rfl) ?_); (dsimp only [List.append]); (repeat (go_big_quiet_step ((first | (go_at_call 46; exact quiet_ext ((opCheck_any c ⟨f.kind, f.a, 0, 0⟩ HO.out _ (Tab.ext (Tab.ext HT.out HW.out) EX)).mono fun e w' ⟨he, hx⟩ => ⟨by rw [he, HE.out], hx⟩)) | (go_at_call 94; exact quiet_ext ((treHas_any c f s b _ (HK.out.ext (Ext.trans HW.out EX))).mono fun e w' ⟨he, hx⟩ => ⟨by rw [he, HB.out], hx⟩)) | (go_at_call 69; exact quiet_ext ((treTop_any c f s b _ (HK.out.ext (Ext.trans HW.out EX)) (HS.out.ext (Ext.trans HW.out EX))).mono fun e w' ⟨he, hx⟩ => ⟨by rw [he, HTOP.out], hx ▸ Ext.refl _⟩)))))); (refine wpQuiet_nil ?_; intro _ hw'; obtain ⟨⟨osq, nq⟩, hw''⟩ := hw'; replace hw'' : _ = grew _ osq nq := hw''; subst hw''))
  go_wp2
  (go_ret; refine ⟨ret_bool ?_, HW.out.trans EX⟩)
  rw [HM.out, treNum_no (Or.inl (by simpa using mn))]
  simp
theorem treMay_delete_mp (c : Cfg) (f : Frm) (s : Value) (hok : TreOk c) (hf : f.Fits) (hk : (f.kind == 5) = true) (b : Nat) (w : World) (ht : Tab w) (hw : Holds w (tl c f s b)) (hs : Sl w s (lvC c) (lvL c)) (e0 : (opErr c ⟨f.kind, f.a, 0, 0⟩ == 0) = true) (hb0 : treHas f = true) (mn : decide (c.cap < f.n) = false) (mp : decide (c.cap < f.p) = true) : Calls Tryd.prog 55 #[.pointer (some ⟨b, 0, none⟩)] w
    fun e w' => e = .returned (.bool (treMay c f)) ∧ Ext w w' := by
  have hb := tl_lt hw
  have hb1 : b < w.heap.size + 1 := by omega
  have hb2 : b < w.heap.size + 1 + 1 := by omega
  have HK := Lib.hid hw
  have HF := Lib.hid hf
  have HT := Lib.hid ht
  have HS := Lib.hid hs
  have hop : treOp f = ⟨f.kind, f.a, 0, 0⟩ := by unfold treOp; rw [hk]; rfl
  have HO := Lib.hid (treOp_fits hf)
  rw [hop] at HO
  have htop := topI_bd c.cap c.node
  change 0 ≤ treTop c ∧ treTop c ≤ 4 at htop
  have hcap := hok.cap
  have hchunk := hok.chunk
  obtain ⟨B, hB⟩ : ∃ B, treHas f = B := ⟨_, rfl⟩
  obtain ⟨E, hE⟩ : ∃ E, opErr c ⟨f.kind, f.a, 0, 0⟩ = E := ⟨_, rfl⟩
  obtain ⟨T, hT⟩ : ∃ T, treTop c = T := ⟨_, rfl⟩
  obtain ⟨U, hU⟩ : ∃ U, treUp c f.n f.h = U := ⟨_, rfl⟩
  obtain ⟨A, hA⟩ : ∃ A, treStep c f = A := ⟨_, rfl⟩
  rw [hT] at htop
  rw [hE] at e0
  rw [hB] at hb0
  have HM : Hid (treMay c f = (opErr c ⟨f.kind, f.a, 0, 0⟩ == 0 && treHas f && treNum c f && decide (0 ≤ (treStep c f).at'))) := Lib.hid (by rw [← hop]; rfl)
  have HB := Lib.hid hB
  have HE := Lib.hid hE
  have HTOP := Lib.hid hT
  have HU := Lib.hid hU
  have HST := Lib.hid hA
  simp only [tl, Holds, List.cons_append, List.nil_append] at hw
  obtain ⟨⟨k0, k1⟩, _, _, ⟨p0, p1⟩, ⟨i0, i1⟩, ⟨j0, j1⟩, ⟨n0, n1⟩, ⟨q0, q1⟩, ⟨h0, h1⟩, _, _⟩ := hf
  have hwi : IntKind.i64.wrap f.i = f.i := by rw [IntKind.wrap_i64]; omega
  have hwn : IntKind.i64.wrap f.n = f.n := by rw [IntKind.wrap_i64]; omega
  have hwp : IntKind.i64.wrap f.p = f.p := by rw [IntKind.wrap_i64]; omega
  have hwj : IntKind.i64.wrap f.j = f.j := by rw [IntKind.wrap_i64]; omega
  have hfa : ∀ w : World, (Instr.field 30 A.v 1).run Tryd.prog w = .ok (.int .i64 A.at') w := fun _ => by kernel_rfl
  clear ht hB hE hT hU hA hs hop
  go_enter Tryd.func55, Tryd.ntmps55
  go_wp2_with fail
  go_region
  go_upto_region 4 with fail
  refine wp_gen (fun W => Ext w W ∧ w.heap.size < W.heap.size ∧ Holds W ([(w.heap.size, 0, .int .u8 f.kind), (w.heap.size, 1, .int .u32 f.a), (w.heap.size, 2, .int .u32 (0)), (w.heap.size, 3, .int .u32 0)] ++ tl c f s b)) ?_ ?_
  · exact ⟨EX, by simp, Holds.app (by simp [Holds, go_sem]) (HK.out.ext EX)⟩
  intro W HH
  have HW := Lib.hid HH.1
  have hA0 := HH.2.1
  have hbW : b < W.heap.size := Nat.lt_of_lt_of_le hb HH.1.size
  have hKW := HH.2.2
  simp only [tl, Holds, List.cons_append, List.nil_append] at hKW
  clear HH hw hb hb1 hb2
  obtain rfl : E = 0 := by simpa using e0
  subst hb0
  ((refine wp_region_ext_lit (by kernel_rfl) (by kernel_rfl) ?_); (dsimp only [List.append]); (repeat (go_big_quiet_step ((first | (go_at_call 46; exact quiet_ext ((opCheck_any c ⟨f.kind, f.a, 0, 0⟩ HO.out _ (Tab.ext (Tab.ext HT.out HW.out) EX)).mono fun e w' ⟨he, hx⟩ => ⟨by rw [he, HE.out], hx⟩)) | (go_at_call 94; exact quiet_ext ((treHas_any c f s b _ (HK.out.ext (Ext.trans HW.out EX))).mono fun e w' ⟨he, hx⟩ => ⟨by rw [he, HB.out], hx⟩)) | (go_at_call 69; exact quiet_ext ((treTop_any c f s b _ (HK.out.ext (Ext.trans HW.out EX)) (HS.out.ext (Ext.trans HW.out EX))).mono fun e w' ⟨he, hx⟩ => ⟨by rw [he, HTOP.out], hx ▸ Ext.refl _⟩)))))); (refine wpQuiet_nil ?_; intro _ hw'; obtain ⟨⟨osq, nq⟩, hw''⟩ := hw'; replace hw'' : _ = grew _ osq nq := hw''; subst hw''))
  go_wp2
  (go_ret; refine ⟨ret_bool ?_, HW.out.trans EX⟩)
  rw [HM.out, treNum_no (Or.inr (Or.inl (by simpa using mp)))]
  simp
end Go.Proofs.YtkklhhdkokncnaaDoor
