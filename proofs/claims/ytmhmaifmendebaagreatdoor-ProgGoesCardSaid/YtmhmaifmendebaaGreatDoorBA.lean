/- The walks of the layer 'branch': where a frame stands, whether the table has it. -/
import Derived.Test.YtmhmaifmendebaaGreatDoorProg
import Derived.Deep.QuietTactic
import Derived.BigQuiet
import Derived.Lib.Hide
import Derived.Deep.Light
import Derived.Test.YtmhmaifmendebaaGreatDoorA1
import Derived.Test.YtmhmaifmendebaaGreatDoorA0
import Derived.Deep.RegionHeld3
import Derived.WalkLawsBesides
import Derived.Test.YtmhmaifmendebaaGreatDoorA4
import Derived.StillTailTactics
namespace Go.Proofs.YtmhmaifmendebaaGreatDoor.branch
open Go Go.RowKit
set_option maxRecDepth 100000
set_option maxHeartbeats 8000000

/-- A walk's cells. -/
abbrev wl (c : Cfg) (f : Frm) (b : Nat) : List (Nat × Nat × Value) :=
  [(b, 0, .int .u8 f.kind), (b, 1, .int .u32 f.a), (b, 2, .int .u32 f.b), (b, 3, .int .u8 f.pc), (b, 4, .int .u8 f.i), (b, 5, .int .u8 f.j), (b, 6, .int .u8 f.n), (b, 7, .int .u8 f.p), (b, 8, .int .u8 f.h), (b, 9, .int .u32 f.x), (b, 10, .int .u32 f.y)] ++ [(b, 11, .int .i64 c.cap), (b, 12, .int .u32 (f.a % 65536)), (b, 13, .int .u32 (f.a / 65536)), (b, 14, .int .u32 f.b), (b, 15, .int .i64 (brMany f))]

theorem brAt_any (c : Cfg) (f : Frm) (hf : f.Fits) (b : Nat) (w : World) (hw : Holds w (wl c f b)) : Calls Tryz.prog 99 #[.pointer (some ⟨b, 0, none⟩)] w
    fun e w' => e = .returned (.int .i64 (brAt f)) ∧ w = w' := by
  simp only [wl, Holds, List.cons_append, List.nil_append] at hw
  obtain ⟨_, _, _, ⟨p0, p1⟩, ⟨i0, i1⟩, ⟨j0, j1⟩, _, ⟨q0, q1⟩, _, _, _⟩ := hf
  go_enter Tryz.func99, Tryz.ntmps99
  go_wp2
  all_goals (go_ret; refine ⟨ret_int ?_, rfl⟩)
  all_goals (clear hw; go_light; simp_all [brAt])

theorem brHas_any (c : Cfg) (f : Frm) (hf : f.Fits) (b : Nat) (w : World) (hw : Holds w (wl c f b)) : Calls Tryz.prog 133 #[.pointer (some ⟨b, 0, none⟩)] w
    fun e w' => e = .returned (.bool (brHas f)) ∧ w = w' := by
  simp only [wl, Holds, List.cons_append, List.nil_append] at hw
  obtain ⟨⟨k0, k1⟩, _, _, ⟨p0, p1⟩, _, _, _, _, _, _, _⟩ := hf
  go_enter Tryz.func133, Tryz.ntmps133
  go_wp2
  all_goals (go_ret; refine ⟨ret_bool ?_, rfl⟩)
  all_goals (clear hw; go_light; rw [Bool.eq_iff_iff]; simp_all [brHas] <;> omega)
end Go.Proofs.YtmhmaifmendebaaGreatDoor.branch
/- The walks of the layer 'branch': whether a frame may be. -/
namespace Go.Proofs.YtmhmaifmendebaaGreatDoor.branch
open Go Go.RowKit
set_option maxRecDepth 100000
set_option maxHeartbeats 8000000

theorem wl_lt {c : Cfg} {f : Frm} {b : Nat} {w : World} (h : Holds w (wl c f b)) : b < w.heap.size :=
  World.block_lt_of_cell? w ⟨b, 0, none⟩ (u := .int .u8 f.kind) ((holds_iff _ _).1 h (b, 0, .int .u8 f.kind) (by simp [wl]))

/-- The greatest of four, as the walk has it. -/
def max4 (x y z u : Int) : Int := if u > (if z > (if y > x then y else x) then z else (if y > x then y else x)) then u else (if z > (if y > x then y else x) then z else (if y > x then y else x))
theorem run_max_int4 {P : Program} (w : World) (ts : Array TypeId) (t : TypeId) (k k' k'' k3 : IntKind) (x y z u : Int) : (Builtin.max_ ts t #[.int k x, .int k' y, .int k'' z, .int k3 u]).run P w = .ok (.int k (max4 x y z u)) w := by
  simp [Builtin.max_, Builtin.max2, max4]
theorem max4_le {x y z u n : Int} : max4 x y z u ≤ n ↔ x ≤ n ∧ y ≤ n ∧ z ≤ n ∧ u ≤ n := by
  unfold max4
  split <;> split <;> split <;> omega

theorem opErr_part {c : Cfg} {o : Opn} (h : opErr c o = 0) : partOk c = true := by
  unfold opErr at h
  split at h
  · assumption
  · cases h
theorem opErr_kind {c : Cfg} {o : Opn} (h : opErr c o = 0) : objOf o.kind = c.object := by
  unfold opErr at h
  split at h
  · split at h
    · rename_i h2
      simpa using h2
    · cases h
  · cases h
theorem opErr_fits {c : Cfg} {o : Opn} (h : opErr c o = 0) : fitsB c o = true := by
  unfold opErr at h
  split at h
  · split at h
    · split at h
      · assumption
      · cases h
    · cases h
  · cases h
theorem objOf_four {k : Int} (h : objOf k = 4) : 12 ≤ k := by
  unfold objOf at h
  split at h <;> (try split at h) <;> (try split at h) <;> (try split at h) <;> (try split at h) <;> omega
theorem brMay_any (c : Cfg) (f : Frm) (hobj : c.object = 4) (hf : f.Fits) (b : Nat) (w : World) (ht : Tab w) (hw : Holds w (wl c f b)) : Calls Tryz.prog 98 #[.pointer (some ⟨b, 0, none⟩), c.v] w
    fun e w' => e = .returned (.bool (brMay c f)) ∧ Ext w w' := by
  have hb := wl_lt hw
  have hb1 : b < w.heap.size + 1 := by omega
  have hb2 : b < w.heap.size + 1 + 1 := by omega
  have HK := Lib.hid hw
  have HF := Lib.hid hf
  have HT := Lib.hid ht
  have ho := brOp_fits hf
  have HC : Hid (opErr c (brOp f) = 0 → 1 ≤ c.cap ∧ c.cap ≤ 32) := Lib.hid fun h => partOk_cap (opErr_part h)
  have HL : Hid (opErr c (brOp f) = 0 → brMany f = brLong f) := Lib.hid fun h => brMany_long (fits_path (c := c) (o := brOp f) (opErr_fits h) (by have := opErr_kind h; rw [hobj] at this; exact objOf_four this))
  obtain ⟨B, hB⟩ : ∃ B, brHas f = B := ⟨_, rfl⟩
  obtain ⟨A, hA⟩ : ∃ A, brAt f = A := ⟨_, rfl⟩
  obtain ⟨M, hM⟩ : ∃ M, max4 f.i f.j f.n f.p = M := ⟨_, rfl⟩
  obtain ⟨E, hE⟩ : ∃ E, opErr c (brOp f) = E := ⟨_, rfl⟩
  have HM : Hid (brMay c f = (opErr c (brOp f) == 0 && brHas f && decide (f.i ≤ c.cap) && decide (f.j ≤ c.cap) && decide (f.n ≤ c.cap) && decide (f.p ≤ c.cap) && decide (f.h ≤ brLong f) &&
    !((f.pc == 0 || f.pc == 2) && f.h == brLong f) && !(f.pc == 0 && decide (f.i < f.n)) && decide (0 ≤ brAt f) && decide (brAt f < c.cap))) := rfl
  have HB := Lib.hid hB
  have HA := Lib.hid hA
  have HE := Lib.hid hE
  have hmx : ∀ w : World, (Builtin.max_ #[5, 5, 5, 5] 5 #[.int .u8 f.i, .int .u8 f.j, .int .u8 f.n, .int .u8 f.p]).run Tryz.prog w = .ok (.int .u8 M) w := fun w => by rw [run_max_int4, hM]
  have HMM := Lib.hid hM
  simp only [wl, Holds, List.cons_append, List.nil_append] at hw
  obtain ⟨⟨k0, k1⟩, _, _, ⟨p0, p1⟩, ⟨i0, i1⟩, ⟨j0, j1⟩, ⟨n0, n1⟩, ⟨q0, q1⟩, ⟨h0, h1⟩, _, _⟩ := hf
  clear ht hB hA hE hM hobj
  cases hk : (f.kind == 12)
  · have hop : brOp f = ⟨f.kind, f.a, f.b, 0⟩ := by unfold brOp; rw [hk]; rfl
    rw [hop] at HE HC HL HM ho
    have HO := Lib.hid ho
    clear ho hop
    go_enter Tryz.func98, Tryz.ntmps98
    go_wp2_with fail
    go_region
    go_upto_region 4 with fail
    refine wp_gen (fun W => Ext w W ∧ w.heap.size + 1 < W.heap.size ∧ Holds W ([(w.heap.size, 0, .int .u8 c.object), (w.heap.size, 1, .int .i64 c.instances), (w.heap.size, 2, .int .i64 c.threads), (w.heap.size, 3, .int .u8 c.kind), (w.heap.size, 4, .int .i64 c.stripes), (w.heap.size, 5, .int .i64 c.bits), (w.heap.size, 6, .int .i64 c.cap), (w.heap.size, 7, .int .i64 c.node), (w.heap.size, 8, .int .i64 c.batch), (w.heap.size, 9, .int .i64 c.chunk), (w.heap.size, 10, .int .u64 c.limit), (w.heap.size, 11, .int .u64 c.most)] ++ ([(w.heap.size + 1, 0, .int .u8 f.kind), (w.heap.size + 1, 1, .int .u32 f.a), (w.heap.size + 1, 2, .int .u32 f.b), (w.heap.size + 1, 3, .int .u32 0)] ++ wl c f b))) ?_ ?_
    · exact ⟨EX, by simp, Holds.app (by simp [Holds, go_sem]) (Holds.app (by simp [Holds, go_sem]) (HK.out.ext EX))⟩
    intro W HH
    have HW := Lib.hid HH.1
    have hA1 := HH.2.1
    have hA0 : w.heap.size < W.heap.size := by omega
    have hbW : b < W.heap.size := Nat.lt_of_lt_of_le hb HH.1.size
    have hKW := HH.2.2
    simp only [wl, Holds, List.cons_append, List.nil_append] at hKW
    clear HH hw hb hb1 hb2
    cases e0 : (E == 0)
    · have e1 : (E != 0) = true := by simpa using e0
      ((refine wp_region_ext_lit (by kernel_rfl) (by kernel_rfl) ?_); (repeat (go_big_quiet_step ((first | (go_at_call 115; exact quiet_ext ((opCheck_any c ⟨f.kind, f.a, f.b, 0⟩ HO.out _ (Tab.ext (Tab.ext HT.out HW.out) EX)).mono fun e w' ⟨he, hx⟩ => ⟨by rw [he, HE.out], hx⟩)) | (go_at_call 133; exact quiet_ext ((brHas_any c f HF.out b _ (HK.out.ext (Ext.trans HW.out EX))).mono fun e w' ⟨he, hx⟩ => ⟨by rw [he, HB.out], hx ▸ Ext.refl _⟩)) | (go_at_call 99; exact quiet_ext ((brAt_any c f HF.out b _ (HK.out.ext (Ext.trans HW.out EX))).mono fun e w' ⟨he, hx⟩ => ⟨by rw [he, HA.out], hx ▸ Ext.refl _⟩)))))); (refine wpQuiet_nil ?_; intro _ hw'; obtain ⟨⟨osq, nq⟩, hw''⟩ := hw'; replace hw'' : _ = grew _ osq nq := hw''; subst hw''))
      go_wp2
      (go_ret; refine ⟨ret_bool ?_, HW.out.trans EX⟩)
      rw [HM.out, HE.out, e0]
      rfl
    · obtain rfl : E = 0 := by simpa using e0
      obtain ⟨hc1, hc2⟩ := HC.out HE.out
      have hwr : IntKind.u8.wrap c.cap = c.cap := by rw [IntKind.wrap_u8]; omega
      have HML := Lib.hid (HL.out HE.out)
      cases B
      · ((refine wp_region_ext_lit (by kernel_rfl) (by kernel_rfl) ?_); (repeat (go_big_quiet_step ((first | (go_at_call 115; exact quiet_ext ((opCheck_any c ⟨f.kind, f.a, f.b, 0⟩ HO.out _ (Tab.ext (Tab.ext HT.out HW.out) EX)).mono fun e w' ⟨he, hx⟩ => ⟨by rw [he, HE.out], hx⟩)) | (go_at_call 133; exact quiet_ext ((brHas_any c f HF.out b _ (HK.out.ext (Ext.trans HW.out EX))).mono fun e w' ⟨he, hx⟩ => ⟨by rw [he, HB.out], hx ▸ Ext.refl _⟩)) | (go_at_call 99; exact quiet_ext ((brAt_any c f HF.out b _ (HK.out.ext (Ext.trans HW.out EX))).mono fun e w' ⟨he, hx⟩ => ⟨by rw [he, HA.out], hx ▸ Ext.refl _⟩)))))); (refine wpQuiet_nil ?_; intro _ hw'; obtain ⟨⟨osq, nq⟩, hw''⟩ := hw'; replace hw'' : _ = grew _ osq nq := hw''; subst hw''))
        go_wp2
        (go_ret; refine ⟨ret_bool ?_, HW.out.trans EX⟩)
        rw [HM.out, HE.out, HB.out]
        rfl
      · cases m0 : decide (c.cap < M)
        · cases m1 : decide (brMany f < f.h)
          · ((refine wp_region_ext_lit (by kernel_rfl) (by kernel_rfl) ?_); (repeat (go_big_quiet_step ((first | (go_at_call 115; exact quiet_ext ((opCheck_any c ⟨f.kind, f.a, f.b, 0⟩ HO.out _ (Tab.ext (Tab.ext HT.out HW.out) EX)).mono fun e w' ⟨he, hx⟩ => ⟨by rw [he, HE.out], hx⟩)) | (go_at_call 133; exact quiet_ext ((brHas_any c f HF.out b _ (HK.out.ext (Ext.trans HW.out EX))).mono fun e w' ⟨he, hx⟩ => ⟨by rw [he, HB.out], hx ▸ Ext.refl _⟩)) | (go_at_call 99; exact quiet_ext ((brAt_any c f HF.out b _ (HK.out.ext (Ext.trans HW.out EX))).mono fun e w' ⟨he, hx⟩ => ⟨by rw [he, HA.out], hx ▸ Ext.refl _⟩)))))); (refine wpQuiet_nil ?_; intro _ hw'; obtain ⟨⟨osq, nq⟩, hw''⟩ := hw'; replace hw'' : _ = grew _ osq nq := hw''; subst hw''))
            have HLE := Lib.hid (max4_le.1 (show max4 f.i f.j f.n f.p ≤ c.cap by rw [HMM.out]; simpa using m0))
            have HLH : Hid (f.h ≤ brMany f) := Lib.hid (by simpa using m1)
            go_upto_region 6 with fail
            refine wp_gen (fun V => Ext W V) EX ?_
            intro V HV
            have HW := Lib.hid (HW.out.trans HV)
            have hbV : b < V.heap.size := Nat.lt_of_lt_of_le hbW HV.size
            have hv := HK.out.ext HW.out
            simp only [wl, Holds, List.cons_append, List.nil_append] at hv
            clear HV hKW
            cases z0 : (f.pc == 0)
            · cases z2 : (f.pc == 2)
              · ((refine wp_region_ext_lit (by kernel_rfl) (by kernel_rfl) ?_); (repeat (go_big_quiet_step (fail))); (refine wpQuiet_nil ?_; intro _ hw'; obtain ⟨⟨osq, nq⟩, hw''⟩ := hw'; replace hw'' : _ = grew _ osq nq := hw''; subst hw''); have hbV2 : b < V.heap.size + cnt osq := (by omega); cases a0 : decide (0 ≤ A) <;> (go_upto_region 8 with fail; (refine wp_region_ext_lit (by kernel_rfl) (by kernel_rfl) ?_); (repeat (go_big_quiet_step ((go_at_call 99; exact quiet_ext ((brAt_any c f HF.out b _ (HK.out.ext (Ext.trans HW.out EX))).mono fun e w' ⟨he, hx⟩ => ⟨by rw [he, HA.out], hx ▸ Ext.refl _⟩))))); (refine wpQuiet_nil ?_; intro _ hw'; obtain ⟨⟨osq, nq⟩, hw''⟩ := hw'; replace hw'' : _ = grew _ osq nq := hw''; subst hw''); go_wp2; (go_ret; refine ⟨ret_bool ?_, HW.out.trans EX⟩); rw [HM.out, ← HML.out, HE.out, HB.out, HA.out]; have hle := HLE.out; have hlh := HLH.out; simp_all <;> omega))
              · cases zh : (f.h == brMany f)
                · ((refine wp_region_ext_lit (by kernel_rfl) (by kernel_rfl) ?_); (repeat (go_big_quiet_step (fail))); (refine wpQuiet_nil ?_; intro _ hw'; obtain ⟨⟨osq, nq⟩, hw''⟩ := hw'; replace hw'' : _ = grew _ osq nq := hw''; subst hw''); have hbV2 : b < V.heap.size + cnt osq := (by omega); cases a0 : decide (0 ≤ A) <;> (go_upto_region 8 with fail; (refine wp_region_ext_lit (by kernel_rfl) (by kernel_rfl) ?_); (repeat (go_big_quiet_step ((go_at_call 99; exact quiet_ext ((brAt_any c f HF.out b _ (HK.out.ext (Ext.trans HW.out EX))).mono fun e w' ⟨he, hx⟩ => ⟨by rw [he, HA.out], hx ▸ Ext.refl _⟩))))); (refine wpQuiet_nil ?_; intro _ hw'; obtain ⟨⟨osq, nq⟩, hw''⟩ := hw'; replace hw'' : _ = grew _ osq nq := hw''; subst hw''); go_wp2; (go_ret; refine ⟨ret_bool ?_, HW.out.trans EX⟩); rw [HM.out, ← HML.out, HE.out, HB.out, HA.out]; have hle := HLE.out; have hlh := HLH.out; simp_all <;> omega))
                · ((refine wp_region_ext_lit (by kernel_rfl) (by kernel_rfl) ?_); (repeat (go_big_quiet_step (fail))); (refine wpQuiet_nil ?_; intro _ hw'; obtain ⟨⟨osq, nq⟩, hw''⟩ := hw'; replace hw'' : _ = grew _ osq nq := hw''; subst hw''); go_wp2; (go_ret; refine ⟨ret_bool ?_, HW.out.trans EX⟩); rw [HM.out, ← HML.out]; simp_all)
            · cases zh : (f.h == brMany f)
              · cases zn : decide (f.i < f.n)
                · ((refine wp_region_ext_lit (by kernel_rfl) (by kernel_rfl) ?_); (repeat (go_big_quiet_step (fail))); (refine wpQuiet_nil ?_; intro _ hw'; obtain ⟨⟨osq, nq⟩, hw''⟩ := hw'; replace hw'' : _ = grew _ osq nq := hw''; subst hw''); have hbV2 : b < V.heap.size + cnt osq := (by omega); cases a0 : decide (0 ≤ A) <;> (go_upto_region 8 with fail; (refine wp_region_ext_lit (by kernel_rfl) (by kernel_rfl) ?_); (repeat (go_big_quiet_step ((go_at_call 99; exact quiet_ext ((brAt_any c f HF.out b _ (HK.out.ext (Ext.trans HW.out EX))).mono fun e w' ⟨he, hx⟩ => ⟨by rw [he, HA.out], hx ▸ Ext.refl _⟩))))); (refine wpQuiet_nil ?_; intro _ hw'; obtain ⟨⟨osq, nq⟩, hw''⟩ := hw'; replace hw'' : _ = grew _ osq nq := hw''; subst hw''); go_wp2; (go_ret; refine ⟨ret_bool ?_, HW.out.trans EX⟩); rw [HM.out, ← HML.out, HE.out, HB.out, HA.out]; have hle := HLE.out; have hlh := HLH.out; simp_all <;> omega))
                · ((refine wp_region_ext_lit (by kernel_rfl) (by kernel_rfl) ?_); (repeat (go_big_quiet_step (fail))); (refine wpQuiet_nil ?_; intro _ hw'; obtain ⟨⟨osq, nq⟩, hw''⟩ := hw'; replace hw'' : _ = grew _ osq nq := hw''; subst hw''); go_wp2; (go_ret; refine ⟨ret_bool ?_, HW.out.trans EX⟩); rw [HM.out, ← HML.out]; simp_all)
              · ((refine wp_region_ext_lit (by kernel_rfl) (by kernel_rfl) ?_); (repeat (go_big_quiet_step (fail))); (refine wpQuiet_nil ?_; intro _ hw'; obtain ⟨⟨osq, nq⟩, hw''⟩ := hw'; replace hw'' : _ = grew _ osq nq := hw''; subst hw''); go_wp2; (go_ret; refine ⟨ret_bool ?_, HW.out.trans EX⟩); rw [HM.out, ← HML.out]; simp_all)
          · ((refine wp_region_ext_lit (by kernel_rfl) (by kernel_rfl) ?_); (repeat (go_big_quiet_step ((first | (go_at_call 115; exact quiet_ext ((opCheck_any c ⟨f.kind, f.a, f.b, 0⟩ HO.out _ (Tab.ext (Tab.ext HT.out HW.out) EX)).mono fun e w' ⟨he, hx⟩ => ⟨by rw [he, HE.out], hx⟩)) | (go_at_call 133; exact quiet_ext ((brHas_any c f HF.out b _ (HK.out.ext (Ext.trans HW.out EX))).mono fun e w' ⟨he, hx⟩ => ⟨by rw [he, HB.out], hx ▸ Ext.refl _⟩)) | (go_at_call 99; exact quiet_ext ((brAt_any c f HF.out b _ (HK.out.ext (Ext.trans HW.out EX))).mono fun e w' ⟨he, hx⟩ => ⟨by rw [he, HA.out], hx ▸ Ext.refl _⟩)))))); (refine wpQuiet_nil ?_; intro _ hw'; obtain ⟨⟨osq, nq⟩, hw''⟩ := hw'; replace hw'' : _ = grew _ osq nq := hw''; subst hw''))
            go_wp2
            (go_ret; refine ⟨ret_bool ?_, HW.out.trans EX⟩)
            rw [HM.out, ← HML.out]
            simp at m1
            simp
            omega
        · ((refine wp_region_ext_lit (by kernel_rfl) (by kernel_rfl) ?_); (repeat (go_big_quiet_step ((first | (go_at_call 115; exact quiet_ext ((opCheck_any c ⟨f.kind, f.a, f.b, 0⟩ HO.out _ (Tab.ext (Tab.ext HT.out HW.out) EX)).mono fun e w' ⟨he, hx⟩ => ⟨by rw [he, HE.out], hx⟩)) | (go_at_call 133; exact quiet_ext ((brHas_any c f HF.out b _ (HK.out.ext (Ext.trans HW.out EX))).mono fun e w' ⟨he, hx⟩ => ⟨by rw [he, HB.out], hx ▸ Ext.refl _⟩)) | (go_at_call 99; exact quiet_ext ((brAt_any c f HF.out b _ (HK.out.ext (Ext.trans HW.out EX))).mono fun e w' ⟨he, hx⟩ => ⟨by rw [he, HA.out], hx ▸ Ext.refl _⟩)))))); (refine wpQuiet_nil ?_; intro _ hw'; obtain ⟨⟨osq, nq⟩, hw''⟩ := hw'; replace hw'' : _ = grew _ osq nq := hw''; subst hw''))
          go_wp2
          (go_ret; refine ⟨ret_bool ?_, HW.out.trans EX⟩)
          have hmm : ¬ max4 f.i f.j f.n f.p ≤ c.cap := by rw [HMM.out]; simp at m0; omega
          rw [max4_le] at hmm
          rw [HM.out]
          simp
          omega
  · have hop : brOp f = ⟨f.kind, f.a, f.b, f.y⟩ := by unfold brOp; rw [hk]; rfl
    rw [hop] at HE HC HL HM ho
    have HO := Lib.hid ho
    clear ho hop
    go_enter Tryz.func98, Tryz.ntmps98
    go_wp2_with fail
    go_region
    go_upto_region 4 with fail
    refine wp_gen (fun W => Ext w W ∧ w.heap.size + 1 < W.heap.size ∧ Holds W ([(w.heap.size, 0, .int .u8 c.object), (w.heap.size, 1, .int .i64 c.instances), (w.heap.size, 2, .int .i64 c.threads), (w.heap.size, 3, .int .u8 c.kind), (w.heap.size, 4, .int .i64 c.stripes), (w.heap.size, 5, .int .i64 c.bits), (w.heap.size, 6, .int .i64 c.cap), (w.heap.size, 7, .int .i64 c.node), (w.heap.size, 8, .int .i64 c.batch), (w.heap.size, 9, .int .i64 c.chunk), (w.heap.size, 10, .int .u64 c.limit), (w.heap.size, 11, .int .u64 c.most)] ++ ([(w.heap.size + 1, 0, .int .u8 f.kind), (w.heap.size + 1, 1, .int .u32 f.a), (w.heap.size + 1, 2, .int .u32 f.b), (w.heap.size + 1, 3, .int .u32 f.y)] ++ wl c f b))) ?_ ?_
    · exact ⟨EX, by simp, Holds.app (by simp [Holds, go_sem]) (Holds.app (by simp [Holds, go_sem]) (HK.out.ext EX))⟩
    intro W HH
    have HW := Lib.hid HH.1
    have hA1 := HH.2.1
    have hA0 : w.heap.size < W.heap.size := by omega
    have hbW : b < W.heap.size := Nat.lt_of_lt_of_le hb HH.1.size
    have hKW := HH.2.2
    simp only [wl, Holds, List.cons_append, List.nil_append] at hKW
    clear HH hw hb hb1 hb2
    cases e0 : (E == 0)
    · have e1 : (E != 0) = true := by simpa using e0
      ((refine wp_region_ext_lit (by kernel_rfl) (by kernel_rfl) ?_); (repeat (go_big_quiet_step ((first | (go_at_call 115; exact quiet_ext ((opCheck_any c ⟨f.kind, f.a, f.b, f.y⟩ HO.out _ (Tab.ext (Tab.ext HT.out HW.out) EX)).mono fun e w' ⟨he, hx⟩ => ⟨by rw [he, HE.out], hx⟩)) | (go_at_call 133; exact quiet_ext ((brHas_any c f HF.out b _ (HK.out.ext (Ext.trans HW.out EX))).mono fun e w' ⟨he, hx⟩ => ⟨by rw [he, HB.out], hx ▸ Ext.refl _⟩)) | (go_at_call 99; exact quiet_ext ((brAt_any c f HF.out b _ (HK.out.ext (Ext.trans HW.out EX))).mono fun e w' ⟨he, hx⟩ => ⟨by rw [he, HA.out], hx ▸ Ext.refl _⟩)))))); (refine wpQuiet_nil ?_; intro _ hw'; obtain ⟨⟨osq, nq⟩, hw''⟩ := hw'; replace hw'' : _ = grew _ osq nq := hw''; subst hw''))
      go_wp2
      (go_ret; refine ⟨ret_bool ?_, HW.out.trans EX⟩)
      rw [HM.out, HE.out, e0]
      rfl
    · obtain rfl : E = 0 := by simpa using e0
      obtain ⟨hc1, hc2⟩ := HC.out HE.out
      have hwr : IntKind.u8.wrap c.cap = c.cap := by rw [IntKind.wrap_u8]; omega
      have HML := Lib.hid (HL.out HE.out)
      cases B
      · ((refine wp_region_ext_lit (by kernel_rfl) (by kernel_rfl) ?_); (repeat (go_big_quiet_step ((first | (go_at_call 115; exact quiet_ext ((opCheck_any c ⟨f.kind, f.a, f.b, f.y⟩ HO.out _ (Tab.ext (Tab.ext HT.out HW.out) EX)).mono fun e w' ⟨he, hx⟩ => ⟨by rw [he, HE.out], hx⟩)) | (go_at_call 133; exact quiet_ext ((brHas_any c f HF.out b _ (HK.out.ext (Ext.trans HW.out EX))).mono fun e w' ⟨he, hx⟩ => ⟨by rw [he, HB.out], hx ▸ Ext.refl _⟩)) | (go_at_call 99; exact quiet_ext ((brAt_any c f HF.out b _ (HK.out.ext (Ext.trans HW.out EX))).mono fun e w' ⟨he, hx⟩ => ⟨by rw [he, HA.out], hx ▸ Ext.refl _⟩)))))); (refine wpQuiet_nil ?_; intro _ hw'; obtain ⟨⟨osq, nq⟩, hw''⟩ := hw'; replace hw'' : _ = grew _ osq nq := hw''; subst hw''))
        go_wp2
        (go_ret; refine ⟨ret_bool ?_, HW.out.trans EX⟩)
        rw [HM.out, HE.out, HB.out]
        rfl
      · cases m0 : decide (c.cap < M)
        · cases m1 : decide (brMany f < f.h)
          · ((refine wp_region_ext_lit (by kernel_rfl) (by kernel_rfl) ?_); (repeat (go_big_quiet_step ((first | (go_at_call 115; exact quiet_ext ((opCheck_any c ⟨f.kind, f.a, f.b, f.y⟩ HO.out _ (Tab.ext (Tab.ext HT.out HW.out) EX)).mono fun e w' ⟨he, hx⟩ => ⟨by rw [he, HE.out], hx⟩)) | (go_at_call 133; exact quiet_ext ((brHas_any c f HF.out b _ (HK.out.ext (Ext.trans HW.out EX))).mono fun e w' ⟨he, hx⟩ => ⟨by rw [he, HB.out], hx ▸ Ext.refl _⟩)) | (go_at_call 99; exact quiet_ext ((brAt_any c f HF.out b _ (HK.out.ext (Ext.trans HW.out EX))).mono fun e w' ⟨he, hx⟩ => ⟨by rw [he, HA.out], hx ▸ Ext.refl _⟩)))))); (refine wpQuiet_nil ?_; intro _ hw'; obtain ⟨⟨osq, nq⟩, hw''⟩ := hw'; replace hw'' : _ = grew _ osq nq := hw''; subst hw''))
            have HLE := Lib.hid (max4_le.1 (show max4 f.i f.j f.n f.p ≤ c.cap by rw [HMM.out]; simpa using m0))
            have HLH : Hid (f.h ≤ brMany f) := Lib.hid (by simpa using m1)
            go_upto_region 6 with fail
            refine wp_gen (fun V => Ext W V) EX ?_
            intro V HV
            have HW := Lib.hid (HW.out.trans HV)
            have hbV : b < V.heap.size := Nat.lt_of_lt_of_le hbW HV.size
            have hv := HK.out.ext HW.out
            simp only [wl, Holds, List.cons_append, List.nil_append] at hv
            clear HV hKW
            cases z0 : (f.pc == 0)
            · cases z2 : (f.pc == 2)
              · ((refine wp_region_ext_lit (by kernel_rfl) (by kernel_rfl) ?_); (repeat (go_big_quiet_step (fail))); (refine wpQuiet_nil ?_; intro _ hw'; obtain ⟨⟨osq, nq⟩, hw''⟩ := hw'; replace hw'' : _ = grew _ osq nq := hw''; subst hw''); have hbV2 : b < V.heap.size + cnt osq := (by omega); cases a0 : decide (0 ≤ A) <;> (go_upto_region 8 with fail; (refine wp_region_ext_lit (by kernel_rfl) (by kernel_rfl) ?_); (repeat (go_big_quiet_step ((go_at_call 99; exact quiet_ext ((brAt_any c f HF.out b _ (HK.out.ext (Ext.trans HW.out EX))).mono fun e w' ⟨he, hx⟩ => ⟨by rw [he, HA.out], hx ▸ Ext.refl _⟩))))); (refine wpQuiet_nil ?_; intro _ hw'; obtain ⟨⟨osq, nq⟩, hw''⟩ := hw'; replace hw'' : _ = grew _ osq nq := hw''; subst hw''); go_wp2; (go_ret; refine ⟨ret_bool ?_, HW.out.trans EX⟩); rw [HM.out, ← HML.out, HE.out, HB.out, HA.out]; have hle := HLE.out; have hlh := HLH.out; simp_all <;> omega))
              · cases zh : (f.h == brMany f)
                · ((refine wp_region_ext_lit (by kernel_rfl) (by kernel_rfl) ?_); (repeat (go_big_quiet_step (fail))); (refine wpQuiet_nil ?_; intro _ hw'; obtain ⟨⟨osq, nq⟩, hw''⟩ := hw'; replace hw'' : _ = grew _ osq nq := hw''; subst hw''); have hbV2 : b < V.heap.size + cnt osq := (by omega); cases a0 : decide (0 ≤ A) <;> (go_upto_region 8 with fail; (refine wp_region_ext_lit (by kernel_rfl) (by kernel_rfl) ?_); (repeat (go_big_quiet_step ((go_at_call 99; exact quiet_ext ((brAt_any c f HF.out b _ (HK.out.ext (Ext.trans HW.out EX))).mono fun e w' ⟨he, hx⟩ => ⟨by rw [he, HA.out], hx ▸ Ext.refl _⟩))))); (refine wpQuiet_nil ?_; intro _ hw'; obtain ⟨⟨osq, nq⟩, hw''⟩ := hw'; replace hw'' : _ = grew _ osq nq := hw''; subst hw''); go_wp2; (go_ret; refine ⟨ret_bool ?_, HW.out.trans EX⟩); rw [HM.out, ← HML.out, HE.out, HB.out, HA.out]; have hle := HLE.out; have hlh := HLH.out; simp_all <;> omega))
                · ((refine wp_region_ext_lit (by kernel_rfl) (by kernel_rfl) ?_); (repeat (go_big_quiet_step (fail))); (refine wpQuiet_nil ?_; intro _ hw'; obtain ⟨⟨osq, nq⟩, hw''⟩ := hw'; replace hw'' : _ = grew _ osq nq := hw''; subst hw''); go_wp2; (go_ret; refine ⟨ret_bool ?_, HW.out.trans EX⟩); rw [HM.out, ← HML.out]; simp_all)
            · cases zh : (f.h == brMany f)
              · cases zn : decide (f.i < f.n)
                · ((refine wp_region_ext_lit (by kernel_rfl) (by kernel_rfl) ?_); (repeat (go_big_quiet_step (fail))); (refine wpQuiet_nil ?_; intro _ hw'; obtain ⟨⟨osq, nq⟩, hw''⟩ := hw'; replace hw'' : _ = grew _ osq nq := hw''; subst hw''); have hbV2 : b < V.heap.size + cnt osq := (by omega); cases a0 : decide (0 ≤ A) <;> (go_upto_region 8 with fail; (refine wp_region_ext_lit (by kernel_rfl) (by kernel_rfl) ?_); (repeat (go_big_quiet_step ((go_at_call 99; exact quiet_ext ((brAt_any c f HF.out b _ (HK.out.ext (Ext.trans HW.out EX))).mono fun e w' ⟨he, hx⟩ => ⟨by rw [he, HA.out], hx ▸ Ext.refl _⟩))))); (refine wpQuiet_nil ?_; intro _ hw'; obtain ⟨⟨osq, nq⟩, hw''⟩ := hw'; replace hw'' : _ = grew _ osq nq := hw''; subst hw''); go_wp2; (go_ret; refine ⟨ret_bool ?_, HW.out.trans EX⟩); rw [HM.out, ← HML.out, HE.out, HB.out, HA.out]; have hle := HLE.out; have hlh := HLH.out; simp_all <;> omega))
                · ((refine wp_region_ext_lit (by kernel_rfl) (by kernel_rfl) ?_); (repeat (go_big_quiet_step (fail))); (refine wpQuiet_nil ?_; intro _ hw'; obtain ⟨⟨osq, nq⟩, hw''⟩ := hw'; replace hw'' : _ = grew _ osq nq := hw''; subst hw''); go_wp2; (go_ret; refine ⟨ret_bool ?_, HW.out.trans EX⟩); rw [HM.out, ← HML.out]; simp_all)
              · ((refine wp_region_ext_lit (by kernel_rfl) (by kernel_rfl) ?_); (repeat (go_big_quiet_step (fail))); (refine wpQuiet_nil ?_; intro _ hw'; obtain ⟨⟨osq, nq⟩, hw''⟩ := hw'; replace hw'' : _ = grew _ osq nq := hw''; subst hw''); go_wp2; (go_ret; refine ⟨ret_bool ?_, HW.out.trans EX⟩); rw [HM.out, ← HML.out]; simp_all)
          · ((refine wp_region_ext_lit (by kernel_rfl) (by kernel_rfl) ?_); (repeat (go_big_quiet_step ((first | (go_at_call 115; exact quiet_ext ((opCheck_any c ⟨f.kind, f.a, f.b, f.y⟩ HO.out _ (Tab.ext (Tab.ext HT.out HW.out) EX)).mono fun e w' ⟨he, hx⟩ => ⟨by rw [he, HE.out], hx⟩)) | (go_at_call 133; exact quiet_ext ((brHas_any c f HF.out b _ (HK.out.ext (Ext.trans HW.out EX))).mono fun e w' ⟨he, hx⟩ => ⟨by rw [he, HB.out], hx ▸ Ext.refl _⟩)) | (go_at_call 99; exact quiet_ext ((brAt_any c f HF.out b _ (HK.out.ext (Ext.trans HW.out EX))).mono fun e w' ⟨he, hx⟩ => ⟨by rw [he, HA.out], hx ▸ Ext.refl _⟩)))))); (refine wpQuiet_nil ?_; intro _ hw'; obtain ⟨⟨osq, nq⟩, hw''⟩ := hw'; replace hw'' : _ = grew _ osq nq := hw''; subst hw''))
            go_wp2
            (go_ret; refine ⟨ret_bool ?_, HW.out.trans EX⟩)
            rw [HM.out, ← HML.out]
            simp at m1
            simp
            omega
        · ((refine wp_region_ext_lit (by kernel_rfl) (by kernel_rfl) ?_); (repeat (go_big_quiet_step ((first | (go_at_call 115; exact quiet_ext ((opCheck_any c ⟨f.kind, f.a, f.b, f.y⟩ HO.out _ (Tab.ext (Tab.ext HT.out HW.out) EX)).mono fun e w' ⟨he, hx⟩ => ⟨by rw [he, HE.out], hx⟩)) | (go_at_call 133; exact quiet_ext ((brHas_any c f HF.out b _ (HK.out.ext (Ext.trans HW.out EX))).mono fun e w' ⟨he, hx⟩ => ⟨by rw [he, HB.out], hx ▸ Ext.refl _⟩)) | (go_at_call 99; exact quiet_ext ((brAt_any c f HF.out b _ (HK.out.ext (Ext.trans HW.out EX))).mono fun e w' ⟨he, hx⟩ => ⟨by rw [he, HA.out], hx ▸ Ext.refl _⟩)))))); (refine wpQuiet_nil ?_; intro _ hw'; obtain ⟨⟨osq, nq⟩, hw''⟩ := hw'; replace hw'' : _ = grew _ osq nq := hw''; subst hw''))
          go_wp2
          (go_ret; refine ⟨ret_bool ?_, HW.out.trans EX⟩)
          have hmm : ¬ max4 f.i f.j f.n f.p ≤ c.cap := by rw [HMM.out]; simp at m0; omega
          rw [max4_le] at hmm
          rw [HM.out]
          simp
          omega
end Go.Proofs.YtmhmaifmendebaaGreatDoor.branch
/- The walks of the layer 'branch', as far as 'Next'. -/
namespace Go.Proofs.YtmhmaifmendebaaGreatDoor.branch
open Go Go.RowKit
set_option maxRecDepth 100000
set_option maxHeartbeats 8000000

abbrev wlArr (c : Cfg) (f : Frm) : Array Value := #[.int .u8 f.kind, .int .u32 f.a, .int .u32 f.b, .int .u8 f.pc, .int .u8 f.i, .int .u8 f.j, .int .u8 f.n, .int .u8 f.p, .int .u8 f.h, .int .u32 f.x, .int .u32 f.y, .int .i64 c.cap, .int .u32 (f.a % 65536), .int .u32 (f.a / 65536), .int .u32 f.b, .int .i64 (brMany f)]
def OnPost (c : Cfg) (f : Frm) (w : World) (e : Ending) (w' : World) : Prop :=
  e = .returned (.pointer (some ⟨w.heap.size + 1 + 1, 0, none⟩)) ∧ ∃ x y, w' = ((w.alloc x).alloc y).alloc (.cells (wlArr c f) 79)

theorem brOn_any (c : Cfg) (f : Frm) (hf : f.Fits) (w : World) : Calls Tryz.prog 97 #[c.v, f.v] w (OnPost c f w) := by
  have i0 : ∀ (x y z : Value) (w : World), (Instr.index 77 (.agg #[x, y, z]) (.int .i64 0)).run Tryz.prog w = .ok x w := fun _ _ _ _ => by kernel_rfl
  have i1 : ∀ (x y z : Value) (w : World), (Instr.index 77 (.agg #[x, y, z]) (.int .i64 1)).run Tryz.prog w = .ok y w := fun _ _ _ _ => by kernel_rfl
  have i2 : ∀ (x y z : Value) (w : World), (Instr.index 77 (.agg #[x, y, z]) (.int .i64 2)).run Tryz.prog w = .ok z w := fun _ _ _ _ => by kernel_rfl
  have hm := and_mask f.a hf.a.1 hf.a.2
  obtain ⟨_, ⟨a0, a1⟩, ⟨b0, b1⟩, _, _, _, _, _, _, _, _⟩ := hf
  have HN : Hid (brMany f = (if f.a % 65536 == 0 then 0 else 1) + (if f.a / 65536 == 0 then 0 else 1) + (if f.b == 0 then 0 else 1)) := rfl
  cases z0 : (f.a % 65536 == 0)
  all_goals cases z1 : (f.a / 65536 == 0)
  all_goals cases z2 : (f.b == 0)
  all_goals
    go_enter Tryz.func97, Tryz.ntmps97
    go_wp2
    refine wp_loop_rounds 4 ?_
    repeat (rw [rounds_succ]; go_wp2)
    refine bodyPost_ret (v := .pointer (some ⟨w.heap.size + 1 + 1, 0, none⟩)) (by simp [results, Tryz.results97, go_sem]) rfl ⟨rfl, .cells #[.int .u8 c.object, .int .i64 c.instances, .int .i64 c.threads, .int .u8 c.kind, .int .i64 c.stripes, .int .i64 c.bits, .int .i64 c.cap, .int .i64 c.node, .int .i64 c.batch, .int .i64 c.chunk, .int .u64 c.limit, .int .u64 c.most] 24, .cells #[.int .u8 f.kind, .int .u32 f.a, .int .u32 f.b, .int .u8 f.pc, .int .u8 f.i, .int .u8 f.j, .int .u8 f.n, .int .u8 f.p, .int .u8 f.h, .int .u32 f.x, .int .u32 f.y] 27, ?_⟩
    simp only [wlArr]
    rw [HN.out, z0, z1, z2]
    rfl

theorem brErr_conf {c : Cfg} {f : Frm} (h : partOk c = false) : brErr c f = 40 := by simp [brErr, h]
theorem brErr_obj {c : Cfg} {f : Frm} (h : (c.object == 4) = false) : brErr c f = 40 := by simp [brErr, h]
theorem brErr_arg {c : Cfg} {f : Frm} (h : partOk c = true) (h1 : (c.object == 4) = true) (h2 : brMay c f = false) : brErr c f = 2 := by simp [brErr, h, h1, h2]
theorem brErr_yes {c : Cfg} {f : Frm} (h : partOk c = true) (h1 : (c.object == 4) = true) (h2 : brMay c f = true) : brErr c f = 0 := by simp [brErr, h, h1, h2]
theorem brErr_ok {c : Cfg} {f : Frm} (h : brErr c f = 0) : partOk c = true ∧ c.object = 4 ∧ brMay c f = true := by
  unfold brErr at h
  split at h
  · rename_i h1
    simp at h1
    split at h
    · rename_i h2
      exact ⟨h1.1, h1.2, h2⟩
    · cases h
  · cases h

theorem brStart_no (c : Cfg) (f : Frm) (hf : f.Fits) (he : (brErr c f == 0) = false) (w : World) (ht : Tab w) : Calls Tryz.prog 48 #[c.v, f.v] w
    fun e w' => e = .returned (.tuple #[.pointer none, .int .i64 (brErr c f)]) ∧ Ext w w' := by
  have HF := Lib.hid hf
  have HT := Lib.hid ht
  clear hf ht
  cases hp : partOk c
  · have HE := Lib.hid (brErr_conf (f := f) hp)
    have HC := Lib.hid (conf_no hp)
    clear hp he
    go_enter Tryz.func48, Tryz.ntmps48
    go_wp2_with (go_at_call 9; refine (partCheck_any c _).mono ?_; rintro e w1 ⟨rfl, os1, n1, rfl⟩; rw [HC.out])
    go_ret2
    exact ⟨by rw [HE.out]; rfl, EX⟩
  · have HC := Lib.hid (conf_ok hp)
    cases h2 : (c.object == 4)
    · have HE := Lib.hid (brErr_obj (f := f) h2)
      have h3 : (c.object != 4) = true := by simpa using h2
      clear hp he
      go_enter Tryz.func48, Tryz.ntmps48
      go_wp2_with (go_at_call 9; refine (partCheck_any c _).mono ?_; rintro e w1 ⟨rfl, os1, n1, rfl⟩; rw [HC.out])
      go_ret2
      exact ⟨by rw [HE.out]; rfl, EX⟩
    · cases h4 : brMay c f
      · have HE := Lib.hid (brErr_arg hp h2 h4)
        have HM := Lib.hid h4
        have HOBJ : Hid (c.object = 4) := Lib.hid (by simpa using h2)
        have h3 : (c.object != 4) = false := by simpa using h2
        clear hp he h4
        go_enter Tryz.func48, Tryz.ntmps48
        go_wp2_with (first | (go_at_call 9; refine (partCheck_any c _).mono ?_; rintro e w1 ⟨rfl, os1, n1, rfl⟩; rw [HC.out]) | (go_at_call 97; refine (brOn_any c f HF.out _).mono ?_; rintro e w2 ⟨rfl, x2, y2, rfl⟩) | (go_at_call 98; refine (brMay_any c f HOBJ.out HF.out _ _ (Tab.ext HT.out EX) (by simp [wl, Holds, go_sem])).mono ?_; rintro e w3 ⟨rfl, os3, n3, rfl⟩; rw [HM.out]))
        go_ret2
        exact ⟨by rw [HE.out]; rfl, EX⟩
      · rw [brErr_yes hp h2 h4] at he
        cases he

/-- Where a frame may be: its walk lies in a new block, behind which only new blocks are laid. -/
def StartYes (c : Cfg) (f : Frm) (w : World) (e : Ending) (w' : World) : Prop :=
  ∃ V, Ext w V ∧ e = .returned (.tuple #[.pointer (some ⟨V.heap.size, 0, none⟩), .int .i64 0]) ∧ ∃ os d, w' = grew (V.alloc (.cells (wlArr c f) 79)) os d
theorem brStart_yes (c : Cfg) (f : Frm) (hf : f.Fits) (he : brErr c f = 0) (w : World) (ht : Tab w) : Calls Tryz.prog 48 #[c.v, f.v] w (StartYes c f w) := by
  have HF := Lib.hid hf
  have HT := Lib.hid ht
  obtain ⟨hp, ho, h4⟩ := brErr_ok he
  have HC := Lib.hid (conf_ok hp)
  have HM := Lib.hid h4
  have h2 : (c.object == 4) = true := by simpa using ho
  have h3 : (c.object != 4) = false := by simpa using ho
  have HOBJ := Lib.hid ho
  clear hf ht hp he h4 ho
  go_enter Tryz.func48, Tryz.ntmps48
  go_wp2_with (first | (go_at_call 9; refine (partCheck_any c _).mono ?_; rintro e w1 ⟨rfl, os1, n1, rfl⟩; rw [HC.out]) | (go_at_call 97; refine (brOn_any c f HF.out _).mono ?_; rintro e w2 ⟨rfl, x2, y2, rfl⟩) | (go_at_call 98; refine (brMay_any c f HOBJ.out HF.out _ _ (Tab.ext HT.out EX) (by simp [wl, Holds, go_sem])).mono ?_; rintro e w3 ⟨rfl, os3, n3, rfl⟩; rw [HM.out]))
  refine bodyPost_ret (results_tmp2 rfl _ _ _) rfl ⟨((grew ((w.alloc (.cells #[.int .u8 c.object, .int .i64 c.instances, .int .i64 c.threads, .int .u8 c.kind, .int .i64 c.stripes, .int .i64 c.bits, .int .i64 c.cap, .int .i64 c.node, .int .i64 c.batch, .int .i64 c.chunk, .int .u64 c.limit, .int .u64 c.most] 24)).alloc (.cells #[.int .u8 f.kind, .int .u32 f.a, .int .u32 f.b, .int .u8 f.pc, .int .u8 f.i, .int .u8 f.j, .int .u8 f.n, .int .u8 f.p, .int .u8 f.h, .int .u32 f.x, .int .u32 f.y] 27)) os1 n1).alloc x2).alloc y2, EX, ?_, os3, n3, rfl⟩
  simp [go_sem]
end Go.Proofs.YtmhmaifmendebaaGreatDoor.branch
/- The walks of 'act' and of 'branch.Next'. -/
namespace Go.Proofs.YtmhmaifmendebaaGreatDoor.branch
open Go Go.RowKit
set_option maxRecDepth 100000
set_option maxHeartbeats 8000000

theorem brHas_pc {f : Frm} (h : brHas f = true) : f.pc = 0 ∨ f.pc = 3 ∨ f.pc = 5 ∨ f.pc = 6 ∨ f.pc = 2 ∨ f.pc = 4 ∨ f.pc = 20 ∨ f.pc = 21 ∨ f.pc = 22 ∨ f.pc = 23 := by
  simp [brHas] at h
  omega
theorem brMay_facts {c : Cfg} {f : Frm} (h : brMay c f = true) : opErr c (brOp f) = 0 ∧ brHas f = true ∧ f.i ≤ c.cap ∧ f.j ≤ c.cap ∧ f.n ≤ c.cap ∧ f.p ≤ c.cap ∧ f.h ≤ brLong f ∧ ((f.pc = 0 ∨ f.pc = 2) → f.h < brLong f) ∧ 0 ≤ brAt f ∧ brAt f < c.cap ∧ (f.pc = 0 → f.n ≤ f.i) := by
  simp [brMay] at h
  obtain ⟨⟨⟨⟨⟨⟨⟨⟨⟨⟨ha, hb⟩, hi⟩, hj⟩, hn⟩, hp⟩, hl⟩, hx⟩, hy⟩, hz⟩, hu⟩ := h
  refine ⟨ha, hb, hi, hj, hn, hp, hl, fun hp => ?_, hz, hu, fun hp => ?_⟩
  · omega
  · omega
theorem brLong_le (f : Frm) : 0 ≤ brLong f ∧ brLong f ≤ 3 := by
  unfold brLong
  split
  · omega
  · split
    · omega
    · split <;> omega
theorem brMany_pos {c : Cfg} {f : Frm} (ho : c.object = 4) (h : opErr c (brOp f) = 0) : brMany f = brLong f ∧ 1 ≤ brLong f := by
  have hk := opErr_kind h
  rw [ho] at hk
  have hp := fits_path (c := c) (o := brOp f) (opErr_fits h) (objOf_four hk)
  refine ⟨brMany_long hp, ?_⟩
  simp [pathB, brOp] at hp
  unfold brLong
  split
  · rename_i h1
    simp at h1
    omega
  · split
    · omega
    · split <;> omega

theorem brAct_4 (c : Cfg) (f : Frm) (hf : f.Fits) (hobj : c.object = 4) (hm : brMay c f = true) (hp : f.pc = 4) (b : Nat) (w : World) (hw : Holds w (wl c f b)) : Calls Tryz.prog 49 #[.pointer (some ⟨b, 0, none⟩)] w
    fun e w' => e = .returned (brStep f).v ∧ Ext w w' := by
  have hb := wl_lt hw
  have hb1 : b < w.heap.size + 1 := by omega
  have hb2 : b < w.heap.size + 1 + 1 := by omega
  have HK := Lib.hid hw
  have HF := Lib.hid hf
  obtain ⟨m1, m2, m3, m4, m5, m6, m7, m8, m9, m10, m11⟩ := brMay_facts hm
  have hlong := brMany_pos hobj m1
  have hl3 := brLong_le f
  have HL := Lib.hid hlong.1
  have hpc := brHas_pc m2
  simp only [wl, Holds, List.cons_append, List.nil_append] at hw
  obtain ⟨⟨k0, k1⟩, ⟨a0, a1⟩, ⟨b0, b1⟩, ⟨p0, p1⟩, ⟨i0, i1⟩, ⟨j0, j1⟩, ⟨n0, n1⟩, ⟨q0, q1⟩, ⟨h0, h1⟩, _, ⟨y0, y1⟩⟩ := hf
  obtain ⟨X, hA⟩ : ∃ X, brAt f = X := ⟨_, rfl⟩
  have HA := Lib.hid hA
  have H8 := Lib.hid m8
  have HLL := Lib.hid hlong
  clear hm m1 m2 m3 m4 m5 m6 m7 m8 m9 m10 m11 hobj hA
  clear hpc
  have hp' : (f.pc == 4) = true := by simpa using hp
  have hq : brMany f = 1 ∨ brMany f = 2 ∨ brMany f = 3 := by omega
  obtain ⟨M, hM⟩ : ∃ M, brMany f = M := ⟨_, rfl⟩
  have HKM : Hid (Holds w ([(b, 0, .int .u8 f.kind), (b, 1, .int .u32 f.a), (b, 2, .int .u32 f.b), (b, 3, .int .u8 f.pc), (b, 4, .int .u8 f.i), (b, 5, .int .u8 f.j), (b, 6, .int .u8 f.n), (b, 7, .int .u8 f.p), (b, 8, .int .u8 f.h), (b, 9, .int .u32 f.x), (b, 10, .int .u32 f.y)] ++ [(b, 11, .int .i64 c.cap), (b, 12, .int .u32 (f.a % 65536)), (b, 13, .int .u32 (f.a / 65536)), (b, 14, .int .u32 f.b), (b, 15, .int .i64 M)])) := Lib.hid (by rw [← hM]; exact HK.out)
  rw [hM] at hw hq
  have hw0 : IntKind.i64.wrap 0 = 0 := by decide
  have hw1 : IntKind.i64.wrap 1 = 1 := by decide
  have hw2 : IntKind.i64.wrap 2 = 2 := by decide
  rcases hq with rfl | rfl | rfl
  · have HS : Hid (brStep f = ⟨2, X, f.j + 1, f.a % 65536, f.y + 1, 0, 0⟩) := Lib.hid (by rw [← HA.out]; rw [HL.out] at hM; simp only [brStep, brAt, hp, hM, brName]; rfl)
    clear hp hlong hl3 hM
    go_enter Tryz.func49, Tryz.ntmps49
    go_upto_region 14 with fail
    refine wp_region_still_tail 28 (by kernel_rfl) (by kernel_rfl) ?_
    simp only [List.take_succ_cons, List.take_zero, List.drop_succ_cons, List.drop_zero]
    change wpStill _ _ (World.drew _) _ _ _
    repeat (first | still_step | still_call ((brAt_any c f HF.out b _ (HK.out.ext EX)).mono fun e w' ⟨he, hw⟩ => ⟨he.trans (by rw [HA.out]), hw.symm⟩))
    refine wpStill_nil ?_
    change wpList _ _ _ _ _ (World.drew _)
    go_wp2_with (go_at_call 99; refine (brAt_any c f HF.out b _ (HK.out.ext EX)).mono ?_; rintro e w1 ⟨rfl, rfl⟩; rw [HA.out])
    (refine bodyPost_ret (v := (brStep f).v) (by rw [HS.out]; simp [results, Tryz.results49, go_sem]) rfl ⟨rfl, EX⟩)
  · have HS : Hid (brStep f = ⟨2, X, f.j + 1, f.a / 65536, f.y + 1, 0, 0⟩) := Lib.hid (by rw [← HA.out]; rw [HL.out] at hM; simp only [brStep, brAt, hp, hM, brName]; rfl)
    clear hp hlong hl3 hM
    go_enter Tryz.func49, Tryz.ntmps49
    go_upto_region 14 with fail
    refine wp_region_still_tail 28 (by kernel_rfl) (by kernel_rfl) ?_
    simp only [List.take_succ_cons, List.take_zero, List.drop_succ_cons, List.drop_zero]
    change wpStill _ _ (World.drew _) _ _ _
    repeat (first | still_step | still_call ((brAt_any c f HF.out b _ (HK.out.ext EX)).mono fun e w' ⟨he, hw⟩ => ⟨he.trans (by rw [HA.out]), hw.symm⟩))
    refine wpStill_nil ?_
    change wpList _ _ _ _ _ (World.drew _)
    go_wp2_with (go_at_call 99; refine (brAt_any c f HF.out b _ (HK.out.ext EX)).mono ?_; rintro e w1 ⟨rfl, rfl⟩; rw [HA.out])
    (refine bodyPost_ret (v := (brStep f).v) (by rw [HS.out]; simp [results, Tryz.results49, go_sem]) rfl ⟨rfl, EX⟩)
  · have HS : Hid (brStep f = ⟨2, X, f.j + 1, f.b, f.y + 1, 0, 0⟩) := Lib.hid (by rw [← HA.out]; rw [HL.out] at hM; simp only [brStep, brAt, hp, hM, brName]; rfl)
    clear hp hlong hl3 hM
    go_enter Tryz.func49, Tryz.ntmps49
    go_upto_region 14 with fail
    refine wp_region_still_tail 28 (by kernel_rfl) (by kernel_rfl) ?_
    simp only [List.take_succ_cons, List.take_zero, List.drop_succ_cons, List.drop_zero]
    change wpStill _ _ (World.drew _) _ _ _
    repeat (first | still_step | still_call ((brAt_any c f HF.out b _ (HK.out.ext EX)).mono fun e w' ⟨he, hw⟩ => ⟨he.trans (by rw [HA.out]), hw.symm⟩))
    refine wpStill_nil ?_
    change wpList _ _ _ _ _ (World.drew _)
    go_wp2_with (go_at_call 99; refine (brAt_any c f HF.out b _ (HK.out.ext EX)).mono ?_; rintro e w1 ⟨rfl, rfl⟩; rw [HA.out])
    (refine bodyPost_ret (v := (brStep f).v) (by rw [HS.out]; simp [results, Tryz.results49, go_sem]) rfl ⟨rfl, EX⟩)
end Go.Proofs.YtmhmaifmendebaaGreatDoor.branch
/- The walk of 'act'. -/
namespace Go.Proofs.YtmhmaifmendebaaGreatDoor.branch
open Go Go.RowKit
set_option maxRecDepth 100000
set_option maxHeartbeats 8000000

theorem brAct_any (c : Cfg) (f : Frm) (hf : f.Fits) (hobj : c.object = 4) (hm : brMay c f = true) (b : Nat) (w : World) (hw : Holds w (wl c f b)) : Calls Tryz.prog 49 #[.pointer (some ⟨b, 0, none⟩)] w
    fun e w' => e = .returned (brStep f).v ∧ Ext w w' := by
  have hb := wl_lt hw
  have hb1 : b < w.heap.size + 1 := by omega
  have hb2 : b < w.heap.size + 1 + 1 := by omega
  have HK := Lib.hid hw
  have HF := Lib.hid hf
  obtain ⟨m1, m2, m3, m4, m5, m6, m7, m8, m9, m10, m11⟩ := brMay_facts hm
  have hlong := brMany_pos hobj m1
  have hl3 := brLong_le f
  have HL := Lib.hid hlong.1
  have hpc := brHas_pc m2
  simp only [wl, Holds, List.cons_append, List.nil_append] at hw
  obtain ⟨⟨k0, k1⟩, ⟨a0, a1⟩, ⟨b0, b1⟩, ⟨p0, p1⟩, ⟨i0, i1⟩, ⟨j0, j1⟩, ⟨n0, n1⟩, ⟨q0, q1⟩, ⟨h0, h1⟩, _, ⟨y0, y1⟩⟩ := hf
  obtain ⟨X, hA⟩ : ∃ X, brAt f = X := ⟨_, rfl⟩
  have HA := Lib.hid hA
  have H8 := Lib.hid m8
  have HLL := Lib.hid hlong
  have HOBJ := Lib.hid hobj
  have HMAY := Lib.hid hm
  clear hm m1 m2 m3 m4 m5 m6 m7 m8 m9 m10 m11 hobj hA
  rcases hpc with hp | hp | hp | hp | hp | hp | hp | hp | hp | hp
  · have HS : Hid (brStep f = ⟨1, X, 0, 0, 0, 0, 0⟩) := Lib.hid (by rw [← HA.out]; simp [brStep, brAt, hp])
    have hp' : (f.pc == 0) = true := by simpa using hp
    clear hp hlong hl3
    go_enter Tryz.func49, Tryz.ntmps49
    go_wp2_with (go_at_call 99; refine (brAt_any c f HF.out b _ (HK.out.ext EX)).mono ?_; rintro e w1 ⟨rfl, rfl⟩; rw [HA.out])
    (refine bodyPost_ret (v := (brStep f).v) (by rw [HS.out]; simp [results, Tryz.results49, go_sem]) rfl ⟨rfl, EX⟩)
  · have HS : Hid (brStep f = ⟨1, X, 0, 0, 0, 0, 0⟩) := Lib.hid (by rw [← HA.out]; simp [brStep, brAt, hp])
    have hp' : (f.pc == 3) = true := by simpa using hp
    clear hp hlong hl3
    go_enter Tryz.func49, Tryz.ntmps49
    go_wp2_with (go_at_call 99; refine (brAt_any c f HF.out b _ (HK.out.ext EX)).mono ?_; rintro e w1 ⟨rfl, rfl⟩; rw [HA.out])
    (refine bodyPost_ret (v := (brStep f).v) (by rw [HS.out]; simp [results, Tryz.results49, go_sem]) rfl ⟨rfl, EX⟩)
  · have HS : Hid (brStep f = ⟨1, X, 0, 0, 0, 0, 0⟩) := Lib.hid (by rw [← HA.out]; simp [brStep, brAt, hp])
    have hp' : (f.pc == 5) = true := by simpa using hp
    clear hp hlong hl3
    go_enter Tryz.func49, Tryz.ntmps49
    go_wp2_with (go_at_call 99; refine (brAt_any c f HF.out b _ (HK.out.ext EX)).mono ?_; rintro e w1 ⟨rfl, rfl⟩; rw [HA.out])
    (refine bodyPost_ret (v := (brStep f).v) (by rw [HS.out]; simp [results, Tryz.results49, go_sem]) rfl ⟨rfl, EX⟩)
  · have HS : Hid (brStep f = ⟨2, X, 0, 0, 0, 0, 0⟩) := Lib.hid (by rw [← HA.out]; simp [brStep, brAt, hp])
    have hp' : (f.pc == 6) = true := by simpa using hp
    clear hp hlong hl3
    go_enter Tryz.func49, Tryz.ntmps49
    go_wp2_with (go_at_call 99; refine (brAt_any c f HF.out b _ (HK.out.ext EX)).mono ?_; rintro e w1 ⟨rfl, rfl⟩; rw [HA.out])
    (refine bodyPost_ret (v := (brStep f).v) (by rw [HS.out]; simp [results, Tryz.results49, go_sem]) rfl ⟨rfl, EX⟩)
  · have h8 := H8.out (Or.inr hp)
    have hq : f.h = 0 ∨ f.h = 1 ∨ f.h = 2 := by omega
    have hp' : (f.pc == 2) = true := by simpa using hp
    cases hz : (f.h + 1 == brMany f)
    · rcases hq with hq | hq | hq
      · have HS : Hid (brStep f = ⟨2, X, f.p + 1, f.a % 65536, 0, 0, 0⟩) := Lib.hid (by rw [← HA.out]; rw [HL.out, hq] at hz; simp only [brStep, brAt, hp, hq, hz, brName]; rfl)
        have hq' : (0 + 1 == brMany f) = false := by rw [hq] at hz; exact hz
        clear hp hlong hl3 h8 hz
        go_enter Tryz.func49, Tryz.ntmps49
        go_upto_region 10 with fail
        (go_region_held3 (fun W => W.cell? ⟨b, 0, none⟩ = some (.int .u8 f.kind) ∧ W.cell? ⟨b, 1, none⟩ = some (.int .u32 f.a) ∧ W.cell? ⟨b, 2, none⟩ = some (.int .u32 f.b) ∧ W.cell? ⟨b, 3, none⟩ = some (.int .u8 f.pc) ∧ W.cell? ⟨b, 4, none⟩ = some (.int .u8 f.i) ∧ W.cell? ⟨b, 5, none⟩ = some (.int .u8 f.j) ∧ W.cell? ⟨b, 6, none⟩ = some (.int .u8 f.n) ∧ W.cell? ⟨b, 7, none⟩ = some (.int .u8 f.p) ∧ W.cell? ⟨b, 8, none⟩ = some (.int .u8 f.h) ∧ W.cell? ⟨b, 9, none⟩ = some (.int .u32 f.x) ∧ W.cell? ⟨b, 10, none⟩ = some (.int .u32 f.y) ∧ W.cell? ⟨b, 11, none⟩ = some (.int .i64 c.cap) ∧ W.cell? ⟨b, 12, none⟩ = some (.int .u32 (f.a % 65536)) ∧ W.cell? ⟨b, 13, none⟩ = some (.int .u32 (f.a / 65536)) ∧ W.cell? ⟨b, 14, none⟩ = some (.int .u32 f.b) ∧ W.cell? ⟨b, 15, none⟩ = some (.int .i64 (brMany f))) (exact HK.out.ext EX) (first | (go_at_call 99; refine (brAt_any c f HF.out b _ (HK.out.ext EX)).mono ?_; rintro e w1 ⟨rfl, rfl⟩; rw [HA.out])))
        all_goals
          go_wp2
          go_quiet (fail)
          go_wp2
          (refine bodyPost_ret (v := (brStep f).v) (by rw [HS.out]; simp [results, Tryz.results49, go_sem]) rfl ⟨rfl, EX⟩)
      · have HS : Hid (brStep f = ⟨2, X, f.p + 1, f.a / 65536, 0, 0, 0⟩) := Lib.hid (by rw [← HA.out]; rw [HL.out, hq] at hz; simp only [brStep, brAt, hp, hq, hz, brName]; rfl)
        have hq' : (1 + 1 == brMany f) = false := by rw [hq] at hz; exact hz
        clear hp hlong hl3 h8 hz
        go_enter Tryz.func49, Tryz.ntmps49
        go_upto_region 10 with fail
        (go_region_held3 (fun W => W.cell? ⟨b, 0, none⟩ = some (.int .u8 f.kind) ∧ W.cell? ⟨b, 1, none⟩ = some (.int .u32 f.a) ∧ W.cell? ⟨b, 2, none⟩ = some (.int .u32 f.b) ∧ W.cell? ⟨b, 3, none⟩ = some (.int .u8 f.pc) ∧ W.cell? ⟨b, 4, none⟩ = some (.int .u8 f.i) ∧ W.cell? ⟨b, 5, none⟩ = some (.int .u8 f.j) ∧ W.cell? ⟨b, 6, none⟩ = some (.int .u8 f.n) ∧ W.cell? ⟨b, 7, none⟩ = some (.int .u8 f.p) ∧ W.cell? ⟨b, 8, none⟩ = some (.int .u8 f.h) ∧ W.cell? ⟨b, 9, none⟩ = some (.int .u32 f.x) ∧ W.cell? ⟨b, 10, none⟩ = some (.int .u32 f.y) ∧ W.cell? ⟨b, 11, none⟩ = some (.int .i64 c.cap) ∧ W.cell? ⟨b, 12, none⟩ = some (.int .u32 (f.a % 65536)) ∧ W.cell? ⟨b, 13, none⟩ = some (.int .u32 (f.a / 65536)) ∧ W.cell? ⟨b, 14, none⟩ = some (.int .u32 f.b) ∧ W.cell? ⟨b, 15, none⟩ = some (.int .i64 (brMany f))) (exact HK.out.ext EX) (first | (go_at_call 99; refine (brAt_any c f HF.out b _ (HK.out.ext EX)).mono ?_; rintro e w1 ⟨rfl, rfl⟩; rw [HA.out])))
        all_goals
          go_wp2
          go_quiet (fail)
          go_wp2
          (refine bodyPost_ret (v := (brStep f).v) (by rw [HS.out]; simp [results, Tryz.results49, go_sem]) rfl ⟨rfl, EX⟩)
      · have HS : Hid (brStep f = ⟨2, X, f.p + 1, f.b, 0, 0, 0⟩) := Lib.hid (by rw [← HA.out]; rw [HL.out, hq] at hz; simp only [brStep, brAt, hp, hq, hz, brName]; rfl)
        have hq' : (2 + 1 == brMany f) = false := by rw [hq] at hz; exact hz
        clear hp hlong hl3 h8 hz
        go_enter Tryz.func49, Tryz.ntmps49
        go_upto_region 10 with fail
        (go_region_held3 (fun W => W.cell? ⟨b, 0, none⟩ = some (.int .u8 f.kind) ∧ W.cell? ⟨b, 1, none⟩ = some (.int .u32 f.a) ∧ W.cell? ⟨b, 2, none⟩ = some (.int .u32 f.b) ∧ W.cell? ⟨b, 3, none⟩ = some (.int .u8 f.pc) ∧ W.cell? ⟨b, 4, none⟩ = some (.int .u8 f.i) ∧ W.cell? ⟨b, 5, none⟩ = some (.int .u8 f.j) ∧ W.cell? ⟨b, 6, none⟩ = some (.int .u8 f.n) ∧ W.cell? ⟨b, 7, none⟩ = some (.int .u8 f.p) ∧ W.cell? ⟨b, 8, none⟩ = some (.int .u8 f.h) ∧ W.cell? ⟨b, 9, none⟩ = some (.int .u32 f.x) ∧ W.cell? ⟨b, 10, none⟩ = some (.int .u32 f.y) ∧ W.cell? ⟨b, 11, none⟩ = some (.int .i64 c.cap) ∧ W.cell? ⟨b, 12, none⟩ = some (.int .u32 (f.a % 65536)) ∧ W.cell? ⟨b, 13, none⟩ = some (.int .u32 (f.a / 65536)) ∧ W.cell? ⟨b, 14, none⟩ = some (.int .u32 f.b) ∧ W.cell? ⟨b, 15, none⟩ = some (.int .i64 (brMany f))) (exact HK.out.ext EX) (first | (go_at_call 99; refine (brAt_any c f HF.out b _ (HK.out.ext EX)).mono ?_; rintro e w1 ⟨rfl, rfl⟩; rw [HA.out])))
        all_goals
          go_wp2
          go_quiet (fail)
          go_wp2
          (refine bodyPost_ret (v := (brStep f).v) (by rw [HS.out]; simp [results, Tryz.results49, go_sem]) rfl ⟨rfl, EX⟩)
    · rcases hq with hq | hq | hq
      · have HS : Hid (brStep f = ⟨2, X, f.p + 1, f.a % 65536, f.y + 1, 0, 0⟩) := Lib.hid (by rw [← HA.out]; rw [HL.out, hq] at hz; simp only [brStep, brAt, hp, hq, hz, brName]; rfl)
        have hq' : (0 + 1 == brMany f) = true := by rw [hq] at hz; exact hz
        clear hp hlong hl3 h8 hz
        go_enter Tryz.func49, Tryz.ntmps49
        go_upto_region 10 with fail
        (go_region_held3 (fun W => W.cell? ⟨b, 0, none⟩ = some (.int .u8 f.kind) ∧ W.cell? ⟨b, 1, none⟩ = some (.int .u32 f.a) ∧ W.cell? ⟨b, 2, none⟩ = some (.int .u32 f.b) ∧ W.cell? ⟨b, 3, none⟩ = some (.int .u8 f.pc) ∧ W.cell? ⟨b, 4, none⟩ = some (.int .u8 f.i) ∧ W.cell? ⟨b, 5, none⟩ = some (.int .u8 f.j) ∧ W.cell? ⟨b, 6, none⟩ = some (.int .u8 f.n) ∧ W.cell? ⟨b, 7, none⟩ = some (.int .u8 f.p) ∧ W.cell? ⟨b, 8, none⟩ = some (.int .u8 f.h) ∧ W.cell? ⟨b, 9, none⟩ = some (.int .u32 f.x) ∧ W.cell? ⟨b, 10, none⟩ = some (.int .u32 f.y) ∧ W.cell? ⟨b, 11, none⟩ = some (.int .i64 c.cap) ∧ W.cell? ⟨b, 12, none⟩ = some (.int .u32 (f.a % 65536)) ∧ W.cell? ⟨b, 13, none⟩ = some (.int .u32 (f.a / 65536)) ∧ W.cell? ⟨b, 14, none⟩ = some (.int .u32 f.b) ∧ W.cell? ⟨b, 15, none⟩ = some (.int .i64 (brMany f))) (exact HK.out.ext EX) (first | (go_at_call 99; refine (brAt_any c f HF.out b _ (HK.out.ext EX)).mono ?_; rintro e w1 ⟨rfl, rfl⟩; rw [HA.out])))
        all_goals
          go_wp2
          go_quiet (fail)
          go_wp2
          (refine bodyPost_ret (v := (brStep f).v) (by rw [HS.out]; simp [results, Tryz.results49, go_sem]) rfl ⟨rfl, EX⟩)
      · have HS : Hid (brStep f = ⟨2, X, f.p + 1, f.a / 65536, f.y + 1, 0, 0⟩) := Lib.hid (by rw [← HA.out]; rw [HL.out, hq] at hz; simp only [brStep, brAt, hp, hq, hz, brName]; rfl)
        have hq' : (1 + 1 == brMany f) = true := by rw [hq] at hz; exact hz
        clear hp hlong hl3 h8 hz
        go_enter Tryz.func49, Tryz.ntmps49
        go_upto_region 10 with fail
        (go_region_held3 (fun W => W.cell? ⟨b, 0, none⟩ = some (.int .u8 f.kind) ∧ W.cell? ⟨b, 1, none⟩ = some (.int .u32 f.a) ∧ W.cell? ⟨b, 2, none⟩ = some (.int .u32 f.b) ∧ W.cell? ⟨b, 3, none⟩ = some (.int .u8 f.pc) ∧ W.cell? ⟨b, 4, none⟩ = some (.int .u8 f.i) ∧ W.cell? ⟨b, 5, none⟩ = some (.int .u8 f.j) ∧ W.cell? ⟨b, 6, none⟩ = some (.int .u8 f.n) ∧ W.cell? ⟨b, 7, none⟩ = some (.int .u8 f.p) ∧ W.cell? ⟨b, 8, none⟩ = some (.int .u8 f.h) ∧ W.cell? ⟨b, 9, none⟩ = some (.int .u32 f.x) ∧ W.cell? ⟨b, 10, none⟩ = some (.int .u32 f.y) ∧ W.cell? ⟨b, 11, none⟩ = some (.int .i64 c.cap) ∧ W.cell? ⟨b, 12, none⟩ = some (.int .u32 (f.a % 65536)) ∧ W.cell? ⟨b, 13, none⟩ = some (.int .u32 (f.a / 65536)) ∧ W.cell? ⟨b, 14, none⟩ = some (.int .u32 f.b) ∧ W.cell? ⟨b, 15, none⟩ = some (.int .i64 (brMany f))) (exact HK.out.ext EX) (first | (go_at_call 99; refine (brAt_any c f HF.out b _ (HK.out.ext EX)).mono ?_; rintro e w1 ⟨rfl, rfl⟩; rw [HA.out])))
        all_goals
          go_wp2
          go_quiet (fail)
          go_wp2
          (refine bodyPost_ret (v := (brStep f).v) (by rw [HS.out]; simp [results, Tryz.results49, go_sem]) rfl ⟨rfl, EX⟩)
      · have HS : Hid (brStep f = ⟨2, X, f.p + 1, f.b, f.y + 1, 0, 0⟩) := Lib.hid (by rw [← HA.out]; rw [HL.out, hq] at hz; simp only [brStep, brAt, hp, hq, hz, brName]; rfl)
        have hq' : (2 + 1 == brMany f) = true := by rw [hq] at hz; exact hz
        clear hp hlong hl3 h8 hz
        go_enter Tryz.func49, Tryz.ntmps49
        go_upto_region 10 with fail
        (go_region_held3 (fun W => W.cell? ⟨b, 0, none⟩ = some (.int .u8 f.kind) ∧ W.cell? ⟨b, 1, none⟩ = some (.int .u32 f.a) ∧ W.cell? ⟨b, 2, none⟩ = some (.int .u32 f.b) ∧ W.cell? ⟨b, 3, none⟩ = some (.int .u8 f.pc) ∧ W.cell? ⟨b, 4, none⟩ = some (.int .u8 f.i) ∧ W.cell? ⟨b, 5, none⟩ = some (.int .u8 f.j) ∧ W.cell? ⟨b, 6, none⟩ = some (.int .u8 f.n) ∧ W.cell? ⟨b, 7, none⟩ = some (.int .u8 f.p) ∧ W.cell? ⟨b, 8, none⟩ = some (.int .u8 f.h) ∧ W.cell? ⟨b, 9, none⟩ = some (.int .u32 f.x) ∧ W.cell? ⟨b, 10, none⟩ = some (.int .u32 f.y) ∧ W.cell? ⟨b, 11, none⟩ = some (.int .i64 c.cap) ∧ W.cell? ⟨b, 12, none⟩ = some (.int .u32 (f.a % 65536)) ∧ W.cell? ⟨b, 13, none⟩ = some (.int .u32 (f.a / 65536)) ∧ W.cell? ⟨b, 14, none⟩ = some (.int .u32 f.b) ∧ W.cell? ⟨b, 15, none⟩ = some (.int .i64 (brMany f))) (exact HK.out.ext EX) (first | (go_at_call 99; refine (brAt_any c f HF.out b _ (HK.out.ext EX)).mono ?_; rintro e w1 ⟨rfl, rfl⟩; rw [HA.out])))
        all_goals
          go_wp2
          go_quiet (fail)
          go_wp2
          (refine bodyPost_ret (v := (brStep f).v) (by rw [HS.out]; simp [results, Tryz.results49, go_sem]) rfl ⟨rfl, EX⟩)
  · exact brAct_4 c f HF.out HOBJ.out HMAY.out hp b w HK.out
  · have HS : Hid (brStep f = ⟨4, 0, 0, 0, 0, 0, f.x⟩) := Lib.hid (by simp [brStep, hp])
    have hp' : (f.pc == 20) = true := by simpa using hp
    clear hp hlong hl3
    go_enter Tryz.func49, Tryz.ntmps49
    go_wp2
    (refine bodyPost_ret (v := (brStep f).v) (by rw [HS.out]; simp [results, Tryz.results49, go_sem]) rfl ⟨rfl, EX⟩)
  · have HS : Hid (brStep f = ⟨4, 0, 0, 0, 0, 6, 0⟩) := Lib.hid (by simp [brStep, hp])
    have hp' : (f.pc == 21) = true := by simpa using hp
    clear hp hlong hl3
    go_enter Tryz.func49, Tryz.ntmps49
    go_wp2
    (refine bodyPost_ret (v := (brStep f).v) (by rw [HS.out]; simp [results, Tryz.results49, go_sem]) rfl ⟨rfl, EX⟩)
  · have HS : Hid (brStep f = ⟨4, 0, 0, 0, 0, 9, 0⟩) := Lib.hid (by simp [brStep, hp])
    have hp' : (f.pc == 22) = true := by simpa using hp
    clear hp hlong hl3
    go_enter Tryz.func49, Tryz.ntmps49
    go_wp2
    (refine bodyPost_ret (v := (brStep f).v) (by rw [HS.out]; simp [results, Tryz.results49, go_sem]) rfl ⟨rfl, EX⟩)
  · have HS : Hid (brStep f = ⟨4, 0, 0, 0, 0, 90, 0⟩) := Lib.hid (by simp [brStep, hp])
    have hp' : (f.pc == 23) = true := by simpa using hp
    clear hp hlong hl3
    go_enter Tryz.func49, Tryz.ntmps49
    go_wp2
    (refine bodyPost_ret (v := (brStep f).v) (by rw [HS.out]; simp [results, Tryz.results49, go_sem]) rfl ⟨rfl, EX⟩)
end Go.Proofs.YtmhmaifmendebaaGreatDoor.branch
/- The walk of 'branch.Next'. -/
namespace Go.Proofs.YtmhmaifmendebaaGreatDoor.branch
open Go Go.RowKit
set_option maxRecDepth 100000
set_option maxHeartbeats 8000000

def brNextE (c : Cfg) (f : Frm) : Int := brErr c f
theorem brNext_any (c : Cfg) (f : Frm) (hf : f.Fits) (w : World) (ht : Tab w) : Calls Tryz.prog 26 #[c.v, f.v] w
    fun e w' => e = .returned (.tuple #[(brNextA c f).v, .int .i64 (brErr c f)]) ∧ Ext w w' := by
  have HF := Lib.hid hf
  have HT := Lib.hid ht
  clear ht hf
  cases h0 : (brErr c f == 0)
  · have HN : Hid (brNextA c f = zeroAct) := Lib.hid (by simp [brNextA, h0])
    have H0 := Lib.hid h0
    obtain ⟨E, hE⟩ : ∃ E, E = brErr c f := ⟨_, rfl⟩
    have HE := Lib.hid hE
    have h1 : (E != 0) = true := by rw [hE]; simpa using h0
    clear h0 hE
    go_enter Tryz.func26, Tryz.ntmps26
    go_wp2_with (go_at_call 48; refine (brStart_no c f HF.out H0.out _ (Tab.ext HT.out EX)).mono ?_; rintro e w1 ⟨rfl, os1, n1, rfl⟩; rw [← HE.out])
    (refine bodyPost_ret (v := .tuple #[(zeroAct).v, .int .i64 E]) (by simp [results, Tryz.results26, go_sem]) rfl ?_)
    exact ⟨by rw [HN.out, HE.out], EX⟩
  · have he : brErr c f = 0 := by simpa using h0
    have hok := brErr_ok he
    have HN : Hid (brNextA c f = brStep f) := Lib.hid (by simp [brNextA, he])
    have HE := Lib.hid he
    have HO := Lib.hid hok.2.1
    have HM := Lib.hid hok.2.2
    clear h0 he hok
    go_enter Tryz.func26, Tryz.ntmps26
    go_wp2_with (first | (go_at_call 48; refine (brStart_yes c f HF.out HE.out _ (Tab.ext HT.out EX)).mono ?_; rintro e w1 ⟨V, ⟨osv, dv, rfl⟩, rfl, os1, n1, rfl⟩) | (go_at_call 49; refine (brAct_any c f HF.out HO.out HM.out _ _ (by simp [wl, Holds, go_sem])).mono ?_; rintro e w2 ⟨rfl, os2, n2, rfl⟩))
    (refine bodyPost_ret (v := .tuple #[(brStep f).v, .int .i64 0]) (by simp [results, Tryz.results26, go_sem]) rfl ?_)
    exact ⟨by rw [HN.out, HE.out], EX⟩
end Go.Proofs.YtmhmaifmendebaaGreatDoor.branch
