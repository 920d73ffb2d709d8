/- The walks of the layer 'branch': whether a frame may be. -/
import Derived.Test.YtmbodooikfmegaaDoorCheck
import Derived.Test.YtmbodooikfmegaaDoorBr0
namespace Go.Proofs.YtmbodooikfmegaaDoor
open Go Go.RowKit
set_option maxRecDepth 100000
set_option maxHeartbeats 8000000

theorem wl_lt {c : Cfg} {f : Frm} {b : Nat} {w : World} (h : Holds w (wl c f b)) : b < w.heap.size :=
  World.block_lt_of_cell? w ⟨b, 0, none⟩ (u := .int .u8 f.kind) ((holds_iff _ _).1 h (b, 0, .int .u8 f.kind) (by simp [wl]))

/-- The greatest of four, as the walk has it. -/
def max4 (x y z u : Int) : Int := if u > (if z > (if y > x then y else x) then z else (if y > x then y else x)) then u else (if z > (if y > x then y else x) then z else (if y > x then y else x))
theorem run_max_int4 {P : Program} (w : World) (ts : Array TypeId) (t : TypeId) (k k' k'' k3 : IntKind) (x y z u : Int) : (Builtin.max_ ts t #[.int k x, .int k' y, .int k'' z, .int k3 u]).run P w = .ok (.int k (max4 x y z u)) w := by
  simp [Builtin.max_, Builtin.max2, max4]
theorem max4_le {x y z u n : Int} : max4 x y z u ≤ n ↔ x ≤ n ∧ y ≤ n ∧ z ≤ n ∧ u ≤ n := by
  unfold max4
  split <;> split <;> split <;> omega

theorem opErr_part {c : Cfg} {o : Opn} (h : opErr c o = 0) : partOk c = true := by
  unfold opErr at h
  split at h
  · assumption
  · cases h
theorem opErr_kind {c : Cfg} {o : Opn} (h : opErr c o = 0) : objOf o.kind = c.object := by
  unfold opErr at h
  split at h
  · split at h
    · rename_i h2
      simpa using h2
    · cases h
  · cases h
theorem opErr_fits {c : Cfg} {o : Opn} (h : opErr c o = 0) : fitsB c o = true := by
  unfold opErr at h
  split at h
  · split at h
    · split at h
      · assumption
      · cases h
    · cases h
  · cases h
theorem objOf_four {k : Int} (h : objOf k = 4) : 12 ≤ k := by
  unfold objOf at h
  split at h <;> (try split at h) <;> (try split at h) <;> (try split at h) <;> (try split at h) <;> omega
theorem brMay_any (c : Cfg) (f : Frm) (hobj : c.object = 4) (hf : f.Fits) (b : Nat) (w : World) (ht : Tab w) (hw : Holds w (wl c f b)) : Calls Tryd.prog 49 #[.pointer (some ⟨b, 0, none⟩), c.v] w
    fun e w' => e = .returned (.bool (brMay c f)) ∧ Ext w w' := by
  have hb := wl_lt hw
  have hb1 : b < w.heap.size + 1 := by omega
  have hb2 : b < w.heap.size + 1 + 1 := by omega
  have HK := Lib.hid hw
  have HF := Lib.hid hf
  have HT := Lib.hid ht
  have ho := brOp_fits hf
  have HC : Hid (opErr c (brOp f) = 0 → 1 ≤ c.cap ∧ c.cap ≤ 32) := Lib.hid fun h => partOk_cap (opErr_part h)
  have HL : Hid (opErr c (brOp f) = 0 → brMany f = brLong f) := Lib.hid fun h => brMany_long (fits_path (c := c) (o := brOp f) (opErr_fits h) (by have := opErr_kind h; rw [hobj] at this; exact objOf_four this))
  obtain ⟨B, hB⟩ : ∃ B, brHas f = B := ⟨_, rfl⟩
  obtain ⟨A, hA⟩ : ∃ A, brAt f = A := ⟨_, rfl⟩
  obtain ⟨M, hM⟩ : ∃ M, max4 f.i f.j f.n f.p = M := ⟨_, rfl⟩
  obtain ⟨E, hE⟩ : ∃ E, opErr c (brOp f) = E := ⟨_, rfl⟩
  have HM : Hid (brMay c f = (opErr c (brOp f) == 0 && brHas f && decide (f.i ≤ c.cap) && decide (f.j ≤ c.cap) && decide (f.n ≤ c.cap) && decide (f.p ≤ c.cap) && decide (f.h ≤ brLong f) &&
    !((f.pc == 0 || f.pc == 2) && f.h == brLong f) && !(f.pc == 0 && decide (f.i < f.n)) && decide (0 ≤ brAt f) && decide (brAt f < c.cap))) := rfl
  have HB := Lib.hid hB
  have HA := Lib.hid hA
  have HE := Lib.hid hE
  have hmx : ∀ w : World, (Builtin.max_ #[5, 5, 5, 5] 5 #[.int .u8 f.i, .int .u8 f.j, .int .u8 f.n, .int .u8 f.p]).run Tryd.prog w = .ok (.int .u8 M) w := fun w => by rw [run_max_int4, hM]
  have HMM := Lib.hid hM
  simp only [wl, Holds, List.cons_append, List.nil_append] at hw
  obtain ⟨⟨k0, k1⟩, _, _, ⟨p0, p1⟩, ⟨i0, i1⟩, ⟨j0, j1⟩, ⟨n0, n1⟩, ⟨q0, q1⟩, ⟨h0, h1⟩, _, _⟩ := hf
  clear ht hB hA hE hM hobj
  cases hk : (f.kind == 12)
  · have hop : brOp f = ⟨f.kind, f.a, f.b, 0⟩ := by unfold brOp; rw [hk]; rfl
    rw [hop] at HE HC HL HM ho
    have HO := Lib.hid ho
    clear ho hop
    go_enter Tryd.func49, Tryd.ntmps49
    go_wp2_with fail
    go_region
    go_upto_region 4 with fail
    refine wp_gen (fun W => Ext w W ∧ w.heap.size + 1 < W.heap.size ∧ Holds W ([(w.heap.size, 0, .int .u8 c.object), (w.heap.size, 1, .int .i64 c.instances), (w.heap.size, 2, .int .i64 c.threads), (w.heap.size, 3, .int .u8 c.kind), (w.heap.size, 4, .int .i64 c.stripes), (w.heap.size, 5, .int .i64 c.bits), (w.heap.size, 6, .int .i64 c.cap), (w.heap.size, 7, .int .i64 c.node), (w.heap.size, 8, .int .i64 c.batch), (w.heap.size, 9, .int .i64 c.chunk), (w.heap.size, 10, .int .u64 c.limit), (w.heap.size, 11, .int .u64 c.most)] ++ ([(w.heap.size + 1, 0, .int .u8 f.kind), (w.heap.size + 1, 1, .int .u32 f.a), (w.heap.size + 1, 2, .int .u32 f.b), (w.heap.size + 1, 3, .int .u32 0)] ++ wl c f b))) ?_ ?_
    · exact ⟨EX, by simp, Holds.app (by simp [Holds, go_sem]) (Holds.app (by simp [Holds, go_sem]) (HK.out.ext EX))⟩
    intro W HH
    have HW := Lib.hid HH.1
    have hA1 := HH.2.1
    have hA0 : w.heap.size < W.heap.size := by omega
    have hbW : b < W.heap.size := Nat.lt_of_lt_of_le hb HH.1.size
    have hKW := HH.2.2
    simp only [wl, Holds, List.cons_append, List.nil_append] at hKW
    clear HH hw hb hb1 hb2
    cases e0 : (E == 0)
    · have e1 : (E != 0) = true := by simpa using e0
      ((refine wp_region_ext_lit (by kernel_rfl) (by kernel_rfl) ?_); (repeat (go_big_quiet_step ((first | (go_at_call 39; exact quiet_ext ((opCheck_any c ⟨f.kind, f.a, f.b, 0⟩ HO.out _ (Tab.ext (Tab.ext HT.out HW.out) EX)).mono fun e w' ⟨he, hx⟩ => ⟨by rw [he, HE.out], hx⟩)) | (go_at_call 73; exact quiet_ext ((brHas_any c f HF.out b _ (HK.out.ext (Ext.trans HW.out EX))).mono fun e w' ⟨he, hx⟩ => ⟨by rw [he, HB.out], hx ▸ Ext.refl _⟩)) | (go_at_call 50; exact quiet_ext ((brAt_any c f HF.out b _ (HK.out.ext (Ext.trans HW.out EX))).mono fun e w' ⟨he, hx⟩ => ⟨by rw [he, HA.out], hx ▸ Ext.refl _⟩)))))); (refine wpQuiet_nil ?_; intro _ hw'; obtain ⟨⟨osq, nq⟩, hw''⟩ := hw'; replace hw'' : _ = grew _ osq nq := hw''; subst hw''))
      go_wp2
      (go_ret; refine ⟨ret_bool ?_, HW.out.trans EX⟩)
      rw [HM.out, HE.out, e0]
      rfl
    · obtain rfl : E = 0 := by simpa using e0
      obtain ⟨hc1, hc2⟩ := HC.out HE.out
      have hwr : IntKind.u8.wrap c.cap = c.cap := by rw [IntKind.wrap_u8]; omega
      have HML := Lib.hid (HL.out HE.out)
      cases B
      · ((refine wp_region_ext_lit (by kernel_rfl) (by kernel_rfl) ?_); (repeat (go_big_quiet_step ((first | (go_at_call 39; exact quiet_ext ((opCheck_any c ⟨f.kind, f.a, f.b, 0⟩ HO.out _ (Tab.ext (Tab.ext HT.out HW.out) EX)).mono fun e w' ⟨he, hx⟩ => ⟨by rw [he, HE.out], hx⟩)) | (go_at_call 73; exact quiet_ext ((brHas_any c f HF.out b _ (HK.out.ext (Ext.trans HW.out EX))).mono fun e w' ⟨he, hx⟩ => ⟨by rw [he, HB.out], hx ▸ Ext.refl _⟩)) | (go_at_call 50; exact quiet_ext ((brAt_any c f HF.out b _ (HK.out.ext (Ext.trans HW.out EX))).mono fun e w' ⟨he, hx⟩ => ⟨by rw [he, HA.out], hx ▸ Ext.refl _⟩)))))); (refine wpQuiet_nil ?_; intro _ hw'; obtain ⟨⟨osq, nq⟩, hw''⟩ := hw'; replace hw'' : _ = grew _ osq nq := hw''; subst hw''))
        go_wp2
        (go_ret; refine ⟨ret_bool ?_, HW.out.trans EX⟩)
        rw [HM.out, HE.out, HB.out]
        rfl
      · cases m0 : decide (c.cap < M)
        · cases m1 : decide (brMany f < f.h)
          · ((refine wp_region_ext_lit (by kernel_rfl) (by kernel_rfl) ?_); (repeat (go_big_quiet_step ((first | (go_at_call 39; exact quiet_ext ((opCheck_any c ⟨f.kind, f.a, f.b, 0⟩ HO.out _ (Tab.ext (Tab.ext HT.out HW.out) EX)).mono fun e w' ⟨he, hx⟩ => ⟨by rw [he, HE.out], hx⟩)) | (go_at_call 73; exact quiet_ext ((brHas_any c f HF.out b _ (HK.out.ext (Ext.trans HW.out EX))).mono fun e w' ⟨he, hx⟩ => ⟨by rw [he, HB.out], hx ▸ Ext.refl _⟩)) | (go_at_call 50; exact quiet_ext ((brAt_any c f HF.out b _ (HK.out.ext (Ext.trans HW.out EX))).mono fun e w' ⟨he, hx⟩ => ⟨by rw [he, HA.out], hx ▸ Ext.refl _⟩)))))); (refine wpQuiet_nil ?_; intro _ hw'; obtain ⟨⟨osq, nq⟩, hw''⟩ := hw'; replace hw'' : _ = grew _ osq nq := hw''; subst hw''))
            have HLE := Lib.hid (max4_le.1 (show max4 f.i f.j f.n f.p ≤ c.cap by rw [HMM.out]; simpa using m0))
            have HLH : Hid (f.h ≤ brMany f) := Lib.hid (by simpa using m1)
            go_upto_region 6 with fail
            refine wp_gen (fun V => Ext W V) EX ?_
            intro V HV
            have HW := Lib.hid (HW.out.trans HV)
            have hbV : b < V.heap.size := Nat.lt_of_lt_of_le hbW HV.size
            have hv := HK.out.ext HW.out
            simp only [wl, Holds, List.cons_append, List.nil_append] at hv
            clear HV hKW
            cases z0 : (f.pc == 0)
            · cases z2 : (f.pc == 2)
              · ((refine wp_region_ext_lit (by kernel_rfl) (by kernel_rfl) ?_); (repeat (go_big_quiet_step (fail))); (refine wpQuiet_nil ?_; intro _ hw'; obtain ⟨⟨osq, nq⟩, hw''⟩ := hw'; replace hw'' : _ = grew _ osq nq := hw''; subst hw''); have hbV2 : b < V.heap.size + cnt osq := (by omega); cases a0 : decide (0 ≤ A) <;> (go_upto_region 8 with fail; (refine wp_region_ext_lit (by kernel_rfl) (by kernel_rfl) ?_); (repeat (go_big_quiet_step ((go_at_call 50; exact quiet_ext ((brAt_any c f HF.out b _ (HK.out.ext (Ext.trans HW.out EX))).mono fun e w' ⟨he, hx⟩ => ⟨by rw [he, HA.out], hx ▸ Ext.refl _⟩))))); (refine wpQuiet_nil ?_; intro _ hw'; obtain ⟨⟨osq, nq⟩, hw''⟩ := hw'; replace hw'' : _ = grew _ osq nq := hw''; subst hw''); go_wp2; (go_ret; refine ⟨ret_bool ?_, HW.out.trans EX⟩); rw [HM.out, ← HML.out, HE.out, HB.out, HA.out]; have hle := HLE.out; have hlh := HLH.out; simp_all <;> omega))
              · cases zh : (f.h == brMany f)
                · ((refine wp_region_ext_lit (by kernel_rfl) (by kernel_rfl) ?_); (repeat (go_big_quiet_step (fail))); (refine wpQuiet_nil ?_; intro _ hw'; obtain ⟨⟨osq, nq⟩, hw''⟩ := hw'; replace hw'' : _ = grew _ osq nq := hw''; subst hw''); have hbV2 : b < V.heap.size + cnt osq := (by omega); cases a0 : decide (0 ≤ A) <;> (go_upto_region 8 with fail; (refine wp_region_ext_lit (by kernel_rfl) (by kernel_rfl) ?_); (repeat (go_big_quiet_step ((go_at_call 50; exact quiet_ext ((brAt_any c f HF.out b _ (HK.out.ext (Ext.trans HW.out EX))).mono fun e w' ⟨he, hx⟩ => ⟨by rw [he, HA.out], hx ▸ Ext.refl _⟩))))); (refine wpQuiet_nil ?_; intro _ hw'; obtain ⟨⟨osq, nq⟩, hw''⟩ := hw'; replace hw'' : _ = grew _ osq nq := hw''; subst hw''); go_wp2; (go_ret; refine ⟨ret_bool ?_, HW.out.trans EX⟩); rw [HM.out, ← HML.out, HE.out, HB.out, HA.out]; have hle := HLE.out; have hlh := HLH.out; simp_all <;> omega))
                · ((refine wp_region_ext_lit (by kernel_rfl) (by kernel_rfl) ?_); (repeat (go_big_quiet_step (fail))); (refine wpQuiet_nil ?_; intro _ hw'; obtain ⟨⟨osq, nq⟩, hw''⟩ := hw'; replace hw'' : _ = grew _ osq nq := hw''; subst hw''); go_wp2; (go_ret; refine ⟨ret_bool ?_, HW.out.trans EX⟩); rw [HM.out, ← HML.out]; simp_all)
            · cases zh : (f.h == brMany f)
              · cases zn : decide (f.i < f.n)
                · ((refine wp_region_ext_lit (by kernel_rfl) (by kernel_rfl) ?_); (repeat (go_big_quiet_step (fail))); (refine wpQuiet_nil ?_; intro _ hw'; obtain ⟨⟨osq, nq⟩, hw''⟩ := hw'; replace hw'' : _ = grew _ osq nq := hw''; subst hw''); have hbV2 : b < V.heap.size + cnt osq := (by omega); cases a0 : decide (0 ≤ A) <;> (go_upto_region 8 with fail; (refine wp_region_ext_lit (by kernel_rfl) (by kernel_rfl) ?_); (repeat (go_big_quiet_step ((go_at_call 50; exact quiet_ext ((brAt_any c f HF.out b _ (HK.out.ext (Ext.trans HW.out EX))).mono fun e w' ⟨he, hx⟩ => ⟨by rw [he, HA.out], hx ▸ Ext.refl _⟩))))); (refine wpQuiet_nil ?_; intro _ hw'; obtain ⟨⟨osq, nq⟩, hw''⟩ := hw'; replace hw'' : _ = grew _ osq nq := hw''; subst hw''); go_wp2; (go_ret; refine ⟨ret_bool ?_, HW.out.trans EX⟩); rw [HM.out, ← HML.out, HE.out, HB.out, HA.out]; have hle := HLE.out; have hlh := HLH.out; simp_all <;> omega))
                · ((refine wp_region_ext_lit (by kernel_rfl) (by kernel_rfl) ?_); (repeat (go_big_quiet_step (fail))); (refine wpQuiet_nil ?_; intro _ hw'; obtain ⟨⟨osq, nq⟩, hw''⟩ := hw'; replace hw'' : _ = grew _ osq nq := hw''; subst hw''); go_wp2; (go_ret; refine ⟨ret_bool ?_, HW.out.trans EX⟩); rw [HM.out, ← HML.out]; simp_all)
              · ((refine wp_region_ext_lit (by kernel_rfl) (by kernel_rfl) ?_); (repeat (go_big_quiet_step (fail))); (refine wpQuiet_nil ?_; intro _ hw'; obtain ⟨⟨osq, nq⟩, hw''⟩ := hw'; replace hw'' : _ = grew _ osq nq := hw''; subst hw''); go_wp2; (go_ret; refine ⟨ret_bool ?_, HW.out.trans EX⟩); rw [HM.out, ← HML.out]; simp_all)
          · ((refine wp_region_ext_lit (by kernel_rfl) (by kernel_rfl) ?_); (repeat (go_big_quiet_step ((first | (go_at_call 39; exact quiet_ext ((opCheck_any c ⟨f.kind, f.a, f.b, 0⟩ HO.out _ (Tab.ext (Tab.ext HT.out HW.out) EX)).mono fun e w' ⟨he, hx⟩ => ⟨by rw [he, HE.out], hx⟩)) | (go_at_call 73; exact quiet_ext ((brHas_any c f HF.out b _ (HK.out.ext (Ext.trans HW.out EX))).mono fun e w' ⟨he, hx⟩ => ⟨by rw [he, HB.out], hx ▸ Ext.refl _⟩)) | (go_at_call 50; exact quiet_ext ((brAt_any c f HF.out b _ (HK.out.ext (Ext.trans HW.out EX))).mono fun e w' ⟨he, hx⟩ => ⟨by rw [he, HA.out], hx ▸ Ext.refl _⟩)))))); (refine wpQuiet_nil ?_; intro _ hw'; obtain ⟨⟨osq, nq⟩, hw''⟩ := hw'; replace hw'' : _ = grew _ osq nq := hw''; subst hw''))
            go_wp2
            (go_ret; refine ⟨ret_bool ?_, HW.out.trans EX⟩)
            rw [HM.out, ← HML.out]
            simp at m1
            simp
            omega
        · ((refine wp_region_ext_lit (by kernel_rfl) (by kernel_rfl) ?_); (repeat (go_big_quiet_step ((first | (go_at_call 39; exact quiet_ext ((opCheck_any c ⟨f.kind, f.a, f.b, 0⟩ HO.out _ (Tab.ext (Tab.ext HT.out HW.out) EX)).mono fun e w' ⟨he, hx⟩ => ⟨by rw [he, HE.out], hx⟩)) | (go_at_call 73; exact quiet_ext ((brHas_any c f HF.out b _ (HK.out.ext (Ext.trans HW.out EX))).mono fun e w' ⟨he, hx⟩ => ⟨by rw [he, HB.out], hx ▸ Ext.refl _⟩)) | (go_at_call 50; exact quiet_ext ((brAt_any c f HF.out b _ (HK.out.ext (Ext.trans HW.out EX))).mono fun e w' ⟨he, hx⟩ => ⟨by rw [he, HA.out], hx ▸ Ext.refl _⟩)))))); (refine wpQuiet_nil ?_; intro _ hw'; obtain ⟨⟨osq, nq⟩, hw''⟩ := hw'; replace hw'' : _ = grew _ osq nq := hw''; subst hw''))
          go_wp2
          (go_ret; refine ⟨ret_bool ?_, HW.out.trans EX⟩)
          have hmm : ¬ max4 f.i f.j f.n f.p ≤ c.cap := by rw [HMM.out]; simp at m0; omega
          rw [max4_le] at hmm
          rw [HM.out]
          simp
          omega
  · have hop : brOp f = ⟨f.kind, f.a, f.b, f.y⟩ := by unfold brOp; rw [hk]; rfl
    rw [hop] at HE HC HL HM ho
    have HO := Lib.hid ho
    clear ho hop
    go_enter Tryd.func49, Tryd.ntmps49
    go_wp2_with fail
    go_region
    go_upto_region 4 with fail
    refine wp_gen (fun W => Ext w W ∧ w.heap.size + 1 < W.heap.size ∧ Holds W ([(w.heap.size, 0, .int .u8 c.object), (w.heap.size, 1, .int .i64 c.instances), (w.heap.size, 2, .int .i64 c.threads), (w.heap.size, 3, .int .u8 c.kind), (w.heap.size, 4, .int .i64 c.stripes), (w.heap.size, 5, .int .i64 c.bits), (w.heap.size, 6, .int .i64 c.cap), (w.heap.size, 7, .int .i64 c.node), (w.heap.size, 8, .int .i64 c.batch), (w.heap.size, 9, .int .i64 c.chunk), (w.heap.size, 10, .int .u64 c.limit), (w.heap.size, 11, .int .u64 c.most)] ++ ([(w.heap.size + 1, 0, .int .u8 f.kind), (w.heap.size + 1, 1, .int .u32 f.a), (w.heap.size + 1, 2, .int .u32 f.b), (w.heap.size + 1, 3, .int .u32 f.y)] ++ wl c f b))) ?_ ?_
    · exact ⟨EX, by simp, Holds.app (by simp [Holds, go_sem]) (Holds.app (by simp [Holds, go_sem]) (HK.out.ext EX))⟩
    intro W HH
    have HW := Lib.hid HH.1
    have hA1 := HH.2.1
    have hA0 : w.heap.size < W.heap.size := by omega
    have hbW : b < W.heap.size := Nat.lt_of_lt_of_le hb HH.1.size
    have hKW := HH.2.2
    simp only [wl, Holds, List.cons_append, List.nil_append] at hKW
    clear HH hw hb hb1 hb2
    cases e0 : (E == 0)
    · have e1 : (E != 0) = true := by simpa using e0
      ((refine wp_region_ext_lit (by kernel_rfl) (by kernel_rfl) ?_); (repeat (go_big_quiet_step ((first | (go_at_call 39; exact quiet_ext ((opCheck_any c ⟨f.kind, f.a, f.b, f.y⟩ HO.out _ (Tab.ext (Tab.ext HT.out HW.out) EX)).mono fun e w' ⟨he, hx⟩ => ⟨by rw [he, HE.out], hx⟩)) | (go_at_call 73; exact quiet_ext ((brHas_any c f HF.out b _ (HK.out.ext (Ext.trans HW.out EX))).mono fun e w' ⟨he, hx⟩ => ⟨by rw [he, HB.out], hx ▸ Ext.refl _⟩)) | (go_at_call 50; exact quiet_ext ((brAt_any c f HF.out b _ (HK.out.ext (Ext.trans HW.out EX))).mono fun e w' ⟨he, hx⟩ => ⟨by rw [he, HA.out], hx ▸ Ext.refl _⟩)))))); (refine wpQuiet_nil ?_; intro _ hw'; obtain ⟨⟨osq, nq⟩, hw''⟩ := hw'; replace hw'' : _ = grew _ osq nq := hw''; subst hw''))
      go_wp2
      (go_ret; refine ⟨ret_bool ?_, HW.out.trans EX⟩)
      rw [HM.out, HE.out, e0]
      rfl
    · obtain rfl : E = 0 := by simpa using e0
      obtain ⟨hc1, hc2⟩ := HC.out HE.out
      have hwr : IntKind.u8.wrap c.cap = c.cap := by rw [IntKind.wrap_u8]; omega
      have HML := Lib.hid (HL.out HE.out)
      cases B
      · ((refine wp_region_ext_lit (by kernel_rfl) (by kernel_rfl) ?_); (repeat (go_big_quiet_step ((first | (go_at_call 39; exact quiet_ext ((opCheck_any c ⟨f.kind, f.a, f.b, f.y⟩ HO.out _ (Tab.ext (Tab.ext HT.out HW.out) EX)).mono fun e w' ⟨he, hx⟩ => ⟨by rw [he, HE.out], hx⟩)) | (go_at_call 73; exact quiet_ext ((brHas_any c f HF.out b _ (HK.out.ext (Ext.trans HW.out EX))).mono fun e w' ⟨he, hx⟩ => ⟨by rw [he, HB.out], hx ▸ Ext.refl _⟩)) | (go_at_call 50; exact quiet_ext ((brAt_any c f HF.out b _ (HK.out.ext (Ext.trans HW.out EX))).mono fun e w' ⟨he, hx⟩ => ⟨by rw [he, HA.out], hx ▸ Ext.refl _⟩)))))); (refine wpQuiet_nil ?_; intro _ hw'; obtain ⟨⟨osq, nq⟩, hw''⟩ := hw'; replace hw'' : _ = grew _ osq nq := hw''; subst hw''))
        go_wp2
        (go_ret; refine ⟨ret_bool ?_, HW.out.trans EX⟩)
        rw [HM.out, HE.out, HB.out]
        rfl
      · cases m0 : decide (c.cap < M)
        · cases m1 : decide (brMany f < f.h)
          · ((refine wp_region_ext_lit (by kernel_rfl) (by kernel_rfl) ?_); (repeat (go_big_quiet_step ((first | (go_at_call 39; exact quiet_ext ((opCheck_any c ⟨f.kind, f.a, f.b, f.y⟩ HO.out _ (Tab.ext (Tab.ext HT.out HW.out) EX)).mono fun e w' ⟨he, hx⟩ => ⟨by rw [he, HE.out], hx⟩)) | (go_at_call 73; exact quiet_ext ((brHas_any c f HF.out b _ (HK.out.ext (Ext.trans HW.out EX))).mono fun e w' ⟨he, hx⟩ => ⟨by rw [he, HB.out], hx ▸ Ext.refl _⟩)) | (go_at_call 50; exact quiet_ext ((brAt_any c f HF.out b _ (HK.out.ext (Ext.trans HW.out EX))).mono fun e w' ⟨he, hx⟩ => ⟨by rw [he, HA.out], hx ▸ Ext.refl _⟩)))))); (refine wpQuiet_nil ?_; intro _ hw'; obtain ⟨⟨osq, nq⟩, hw''⟩ := hw'; replace hw'' : _ = grew _ osq nq := hw''; subst hw''))
            have HLE := Lib.hid (max4_le.1 (show max4 f.i f.j f.n f.p ≤ c.cap by rw [HMM.out]; simpa using m0))
            have HLH : Hid (f.h ≤ brMany f) := Lib.hid (by simpa using m1)
            go_upto_region 6 with fail
            refine wp_gen (fun V => Ext W V) EX ?_
            intro V HV
            have HW := Lib.hid (HW.out.trans HV)
            have hbV : b < V.heap.size := Nat.lt_of_lt_of_le hbW HV.size
            have hv := HK.out.ext HW.out
            simp only [wl, Holds, List.cons_append, List.nil_append] at hv
            clear HV hKW
            cases z0 : (f.pc == 0)
            · cases z2 : (f.pc == 2)
              · ((refine wp_region_ext_lit (by kernel_rfl) (by kernel_rfl) ?_); (repeat (go_big_quiet_step (fail))); (refine wpQuiet_nil ?_; intro _ hw'; obtain ⟨⟨osq, nq⟩, hw''⟩ := hw'; replace hw'' : _ = grew _ osq nq := hw''; subst hw''); have hbV2 : b < V.heap.size + cnt osq := (by omega); cases a0 : decide (0 ≤ A) <;> (go_upto_region 8 with fail; (refine wp_region_ext_lit (by kernel_rfl) (by kernel_rfl) ?_); (repeat (go_big_quiet_step ((go_at_call 50; exact quiet_ext ((brAt_any c f HF.out b _ (HK.out.ext (Ext.trans HW.out EX))).mono fun e w' ⟨he, hx⟩ => ⟨by rw [he, HA.out], hx ▸ Ext.refl _⟩))))); (refine wpQuiet_nil ?_; intro _ hw'; obtain ⟨⟨osq, nq⟩, hw''⟩ := hw'; replace hw'' : _ = grew _ osq nq := hw''; subst hw''); go_wp2; (go_ret; refine ⟨ret_bool ?_, HW.out.trans EX⟩); rw [HM.out, ← HML.out, HE.out, HB.out, HA.out]; have hle := HLE.out; have hlh := HLH.out; simp_all <;> omega))
              · cases zh : (f.h == brMany f)
                · ((refine wp_region_ext_lit (by kernel_rfl) (by kernel_rfl) ?_); (repeat (go_big_quiet_step (fail))); (refine wpQuiet_nil ?_; intro _ hw'; obtain ⟨⟨osq, nq⟩, hw''⟩ := hw'; replace hw'' : _ = grew _ osq nq := hw''; subst hw''); have hbV2 : b < V.heap.size + cnt osq := (by omega); cases a0 : decide (0 ≤ A) <;> (go_upto_region 8 with fail; (refine wp_region_ext_lit (by kernel_rfl) (by kernel_rfl) ?_); (repeat (go_big_quiet_step ((go_at_call 50; exact quiet_ext ((brAt_any c f HF.out b _ (HK.out.ext (Ext.trans HW.out EX))).mono fun e w' ⟨he, hx⟩ => ⟨by rw [he, HA.out], hx ▸ Ext.refl _⟩))))); (refine wpQuiet_nil ?_; intro _ hw'; obtain ⟨⟨osq, nq⟩, hw''⟩ := hw'; replace hw'' : _ = grew _ osq nq := hw''; subst hw''); go_wp2; (go_ret; refine ⟨ret_bool ?_, HW.out.trans EX⟩); rw [HM.out, ← HML.out, HE.out, HB.out, HA.out]; have hle := HLE.out; have hlh := HLH.out; simp_all <;> omega))
                · ((refine wp_region_ext_lit (by kernel_rfl) (by kernel_rfl) ?_); (repeat (go_big_quiet_step (fail))); (refine wpQuiet_nil ?_; intro _ hw'; obtain ⟨⟨osq, nq⟩, hw''⟩ := hw'; replace hw'' : _ = grew _ osq nq := hw''; subst hw''); go_wp2; (go_ret; refine ⟨ret_bool ?_, HW.out.trans EX⟩); rw [HM.out, ← HML.out]; simp_all)
            · cases zh : (f.h == brMany f)
              · cases zn : decide (f.i < f.n)
                · ((refine wp_region_ext_lit (by kernel_rfl) (by kernel_rfl) ?_); (repeat (go_big_quiet_step (fail))); (refine wpQuiet_nil ?_; intro _ hw'; obtain ⟨⟨osq, nq⟩, hw''⟩ := hw'; replace hw'' : _ = grew _ osq nq := hw''; subst hw''); have hbV2 : b < V.heap.size + cnt osq := (by omega); cases a0 : decide (0 ≤ A) <;> (go_upto_region 8 with fail; (refine wp_region_ext_lit (by kernel_rfl) (by kernel_rfl) ?_); (repeat (go_big_quiet_step ((go_at_call 50; exact quiet_ext ((brAt_any c f HF.out b _ (HK.out.ext (Ext.trans HW.out EX))).mono fun e w' ⟨he, hx⟩ => ⟨by rw [he, HA.out], hx ▸ Ext.refl _⟩))))); (refine wpQuiet_nil ?_; intro _ hw'; obtain ⟨⟨osq, nq⟩, hw''⟩ := hw'; replace hw'' : _ = grew _ osq nq := hw''; subst hw''); go_wp2; (go_ret; refine ⟨ret_bool ?_, HW.out.trans EX⟩); rw [HM.out, ← HML.out, HE.out, HB.out, HA.out]; have hle := HLE.out; have hlh := HLH.out; simp_all <;> omega))
                · ((refine wp_region_ext_lit (by kernel_rfl) (by kernel_rfl) ?_); (repeat (go_big_quiet_step (fail))); (refine wpQuiet_nil ?_; intro _ hw'; obtain ⟨⟨osq, nq⟩, hw''⟩ := hw'; replace hw'' : _ = grew _ osq nq := hw''; subst hw''); go_wp2; (go_ret; refine ⟨ret_bool ?_, HW.out.trans EX⟩); rw [HM.out, ← HML.out]; simp_all)
              · ((refine wp_region_ext_lit (by kernel_rfl) (by kernel_rfl) ?_); (repeat (go_big_quiet_step (fail))); (refine wpQuiet_nil ?_; intro _ hw'; obtain ⟨⟨osq, nq⟩, hw''⟩ := hw'; replace hw'' : _ = grew _ osq nq := hw''; subst hw''); go_wp2; (go_ret; refine ⟨ret_bool ?_, HW.out.trans EX⟩); rw [HM.out, ← HML.out]; simp_all)
          · ((refine wp_region_ext_lit (by kernel_rfl) (by kernel_rfl) ?_); (repeat (go_big_quiet_step ((first | (go_at_call 39; exact quiet_ext ((opCheck_any c ⟨f.kind, f.a, f.b, f.y⟩ HO.out _ (Tab.ext (Tab.ext HT.out HW.out) EX)).mono fun e w' ⟨he, hx⟩ => ⟨by rw [he, HE.out], hx⟩)) | (go_at_call 73; exact quiet_ext ((brHas_any c f HF.out b _ (HK.out.ext (Ext.trans HW.out EX))).mono fun e w' ⟨he, hx⟩ => ⟨by rw [he, HB.out], hx ▸ Ext.refl _⟩)) | (go_at_call 50; exact quiet_ext ((brAt_any c f HF.out b _ (HK.out.ext (Ext.trans HW.out EX))).mono fun e w' ⟨he, hx⟩ => ⟨by rw [he, HA.out], hx ▸ Ext.refl _⟩)))))); (refine wpQuiet_nil ?_; intro _ hw'; obtain ⟨⟨osq, nq⟩, hw''⟩ := hw'; replace hw'' : _ = grew _ osq nq := hw''; subst hw''))
            go_wp2
            (go_ret; refine ⟨ret_bool ?_, HW.out.trans EX⟩)
            rw [HM.out, ← HML.out]
            simp at m1
            simp
            omega
        · ((refine wp_region_ext_lit (by kernel_rfl) (by kernel_rfl) ?_); (repeat (go_big_quiet_step ((first | (go_at_call 39; exact quiet_ext ((opCheck_any c ⟨f.kind, f.a, f.b, f.y⟩ HO.out _ (Tab.ext (Tab.ext HT.out HW.out) EX)).mono fun e w' ⟨he, hx⟩ => ⟨by rw [he, HE.out], hx⟩)) | (go_at_call 73; exact quiet_ext ((brHas_any c f HF.out b _ (HK.out.ext (Ext.trans HW.out EX))).mono fun e w' ⟨he, hx⟩ => ⟨by rw [he, HB.out], hx ▸ Ext.refl _⟩)) | (go_at_call 50; exact quiet_ext ((brAt_any c f HF.out b _ (HK.out.ext (Ext.trans HW.out EX))).mono fun e w' ⟨he, hx⟩ => ⟨by rw [he, HA.out], hx ▸ Ext.refl _⟩)))))); (refine wpQuiet_nil ?_; intro _ hw'; obtain ⟨⟨osq, nq⟩, hw''⟩ := hw'; replace hw'' : _ = grew _ osq nq := hw''; subst hw''))
          go_wp2
          (go_ret; refine ⟨ret_bool ?_, HW.out.trans EX⟩)
          have hmm : ¬ max4 f.i f.j f.n f.p ≤ c.cap := by rw [HMM.out]; simp at m0; omega
          rw [max4_le] at hmm
          rw [HM.out]
          simp
          omega
end Go.Proofs.YtmbodooikfmegaaDoor
