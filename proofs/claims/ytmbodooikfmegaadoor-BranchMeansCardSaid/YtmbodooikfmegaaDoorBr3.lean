/- The walks of 'act' and of 'branch.Next'. -/
import Derived.Test.YtmbodooikfmegaaDoorBr2
import Derived.StillTailTactics
namespace Go.Proofs.YtmbodooikfmegaaDoor
open Go Go.RowKit
set_option maxRecDepth 100000
set_option maxHeartbeats 8000000

theorem brHas_pc {f : Frm} (h : brHas f = true) : f.pc = 0 ∨ f.pc = 3 ∨ f.pc = 5 ∨ f.pc = 6 ∨ f.pc = 2 ∨ f.pc = 4 ∨ f.pc = 20 ∨ f.pc = 21 ∨ f.pc = 22 ∨ f.pc = 23 := by
  simp [brHas] at h
  omega
theorem brMay_facts {c : Cfg} {f : Frm} (h : brMay c f = true) : opErr c (brOp f) = 0 ∧ brHas f = true ∧ f.i ≤ c.cap ∧ f.j ≤ c.cap ∧ f.n ≤ c.cap ∧ f.p ≤ c.cap ∧ f.h ≤ brLong f ∧ ((f.pc = 0 ∨ f.pc = 2) → f.h < brLong f) ∧ 0 ≤ brAt f ∧ brAt f < c.cap ∧ (f.pc = 0 → f.n ≤ f.i) := by
  simp [brMay] at h
  obtain ⟨⟨⟨⟨⟨⟨⟨⟨⟨⟨ha, hb⟩, hi⟩, hj⟩, hn⟩, hp⟩, hl⟩, hx⟩, hy⟩, hz⟩, hu⟩ := h
  refine ⟨ha, hb, hi, hj, hn, hp, hl, fun hp => ?_, hz, hu, fun hp => ?_⟩
  · omega
  · omega
theorem brLong_le (f : Frm) : 0 ≤ brLong f ∧ brLong f ≤ 3 := by
  unfold brLong
  split
  · omega
  · split
    · omega
    · split <;> omega
theorem brMany_pos {c : Cfg} {f : Frm} (ho : c.object = 4) (h : opErr c (brOp f) = 0) : brMany f = brLong f ∧ 1 ≤ brLong f := by
  have hk := opErr_kind h
  rw [ho] at hk
  have hp := fits_path (c := c) (o := brOp f) (opErr_fits h) (objOf_four hk)
  refine ⟨brMany_long hp, ?_⟩
  simp [pathB, brOp] at hp
  unfold brLong
  split
  · rename_i h1
    simp at h1
    omega
  · split
    · omega
    · split <;> omega

theorem brAct_4 (c : Cfg) (f : Frm) (hf : f.Fits) (hobj : c.object = 4) (hm : brMay c f = true) (hp : f.pc = 4) (b : Nat) (w : World) (hw : Holds w (wl c f b)) : Calls Tryd.prog 24 #[.pointer (some ⟨b, 0, none⟩)] w
    fun e w' => e = .returned (brStep f).v ∧ Ext w w' := by
  have hb := wl_lt hw
  have hb1 : b < w.heap.size + 1 := by omega
  have hb2 : b < w.heap.size + 1 + 1 := by omega
  have HK := Lib.hid hw
  have HF := Lib.hid hf
  obtain ⟨m1, m2, m3, m4, m5, m6, m7, m8, m9, m10, m11⟩ := brMay_facts hm
  have hlong := brMany_pos hobj m1
  have hl3 := brLong_le f
  have HL := Lib.hid hlong.1
  have hpc := brHas_pc m2
  simp only [wl, Holds, List.cons_append, List.nil_append] at hw
  obtain ⟨⟨k0, k1⟩, ⟨a0, a1⟩, ⟨b0, b1⟩, ⟨p0, p1⟩, ⟨i0, i1⟩, ⟨j0, j1⟩, ⟨n0, n1⟩, ⟨q0, q1⟩, ⟨h0, h1⟩, _, ⟨y0, y1⟩⟩ := hf
  obtain ⟨X, hA⟩ : ∃ X, brAt f = X := ⟨_, rfl⟩
  have HA := Lib.hid hA
  have H8 := Lib.hid m8
  have HLL := Lib.hid hlong
  clear hm m1 m2 m3 m4 m5 m6 m7 m8 m9 m10 m11 hobj hA
  clear hpc
  have hp' : (f.pc == 4) = true := by simpa using hp
  have hq : brMany f = 1 ∨ brMany f = 2 ∨ brMany f = 3 := by omega
  obtain ⟨M, hM⟩ : ∃ M, brMany f = M := ⟨_, rfl⟩
  have HKM : Hid (Holds w ([(b, 0, .int .u8 f.kind), (b, 1, .int .u32 f.a), (b, 2, .int .u32 f.b), (b, 3, .int .u8 f.pc), (b, 4, .int .u8 f.i), (b, 5, .int .u8 f.j), (b, 6, .int .u8 f.n), (b, 7, .int .u8 f.p), (b, 8, .int .u8 f.h), (b, 9, .int .u32 f.x), (b, 10, .int .u32 f.y)] ++ [(b, 11, .int .i64 c.cap), (b, 12, .int .u32 (f.a % 65536)), (b, 13, .int .u32 (f.a / 65536)), (b, 14, .int .u32 f.b), (b, 15, .int .i64 M)])) := Lib.hid (by rw [← hM]; exact HK.out)
  rw [hM] at hw hq
  have hw0 : IntKind.i64.wrap 0 = 0 := by decide
  have hw1 : IntKind.i64.wrap 1 = 1 := by decide
  have hw2 : IntKind.i64.wrap 2 = 2 := by decide
  rcases hq with rfl | rfl | rfl
  · have HS : Hid (brStep f = ⟨2, X, f.j + 1, f.a % 65536, f.y + 1, 0, 0⟩) := Lib.hid (by rw [← HA.out]; rw [HL.out] at hM; simp only [brStep, brAt, hp, hM, brName]; rfl)
    clear hp hlong hl3 hM
    go_enter Tryd.func24, Tryd.ntmps24
    go_upto_region 14 with fail
    refine wp_region_still_tail 28 (by kernel_rfl) (by kernel_rfl) ?_
    simp only [List.take_succ_cons, List.take_zero, List.drop_succ_cons, List.drop_zero]
    change wpStill _ _ (World.drew _) _ _ _
    repeat (first | still_step | still_call ((brAt_any c f HF.out b _ (HK.out.ext EX)).mono fun e w' ⟨he, hw⟩ => ⟨he.trans (by rw [HA.out]), hw.symm⟩))
    refine wpStill_nil ?_
    change wpList _ _ _ _ _ (World.drew _)
    go_wp2_with (go_at_call 50; refine (brAt_any c f HF.out b _ (HK.out.ext EX)).mono ?_; rintro e w1 ⟨rfl, rfl⟩; rw [HA.out])
    (refine bodyPost_ret (v := (brStep f).v) (by rw [HS.out]; simp [results, Tryd.results24, go_sem]) rfl ⟨rfl, EX⟩)
  · have HS : Hid (brStep f = ⟨2, X, f.j + 1, f.a / 65536, f.y + 1, 0, 0⟩) := Lib.hid (by rw [← HA.out]; rw [HL.out] at hM; simp only [brStep, brAt, hp, hM, brName]; rfl)
    clear hp hlong hl3 hM
    go_enter Tryd.func24, Tryd.ntmps24
    go_upto_region 14 with fail
    refine wp_region_still_tail 28 (by kernel_rfl) (by kernel_rfl) ?_
    simp only [List.take_succ_cons, List.take_zero, List.drop_succ_cons, List.drop_zero]
    change wpStill _ _ (World.drew _) _ _ _
    repeat (first | still_step | still_call ((brAt_any c f HF.out b _ (HK.out.ext EX)).mono fun e w' ⟨he, hw⟩ => ⟨he.trans (by rw [HA.out]), hw.symm⟩))
    refine wpStill_nil ?_
    change wpList _ _ _ _ _ (World.drew _)
    go_wp2_with (go_at_call 50; refine (brAt_any c f HF.out b _ (HK.out.ext EX)).mono ?_; rintro e w1 ⟨rfl, rfl⟩; rw [HA.out])
    (refine bodyPost_ret (v := (brStep f).v) (by rw [HS.out]; simp [results, Tryd.results24, go_sem]) rfl ⟨rfl, EX⟩)
  · have HS : Hid (brStep f = ⟨2, X, f.j + 1, f.b, f.y + 1, 0, 0⟩) := Lib.hid (by rw [← HA.out]; rw [HL.out] at hM; simp only [brStep, brAt, hp, hM, brName]; rfl)
    clear hp hlong hl3 hM
    go_enter Tryd.func24, Tryd.ntmps24
    go_upto_region 14 with fail
    refine wp_region_still_tail 28 (by kernel_rfl) (by kernel_rfl) ?_
    simp only [List.take_succ_cons, List.take_zero, List.drop_succ_cons, List.drop_zero]
    change wpStill _ _ (World.drew _) _ _ _
    repeat (first | still_step | still_call ((brAt_any c f HF.out b _ (HK.out.ext EX)).mono fun e w' ⟨he, hw⟩ => ⟨he.trans (by rw [HA.out]), hw.symm⟩))
    refine wpStill_nil ?_
    change wpList _ _ _ _ _ (World.drew _)
    go_wp2_with (go_at_call 50; refine (brAt_any c f HF.out b _ (HK.out.ext EX)).mono ?_; rintro e w1 ⟨rfl, rfl⟩; rw [HA.out])
    (refine bodyPost_ret (v := (brStep f).v) (by rw [HS.out]; simp [results, Tryd.results24, go_sem]) rfl ⟨rfl, EX⟩)
end Go.Proofs.YtmbodooikfmegaaDoor
