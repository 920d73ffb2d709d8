/- The walk of 'act'. -/
import Derived.Test.YtmbodooikfmegaaDoorBr3
namespace Go.Proofs.YtmbodooikfmegaaDoor
open Go Go.RowKit
set_option maxRecDepth 100000
set_option maxHeartbeats 8000000

theorem brAct_any (c : Cfg) (f : Frm) (hf : f.Fits) (hobj : c.object = 4) (hm : brMay c f = true) (b : Nat) (w : World) (hw : Holds w (wl c f b)) : Calls Tryd.prog 24 #[.pointer (some ⟨b, 0, none⟩)] w
    fun e w' => e = .returned (brStep f).v ∧ Ext w w' := by
  have hb := wl_lt hw
  have hb1 : b < w.heap.size + 1 := by omega
  have hb2 : b < w.heap.size + 1 + 1 := by omega
  have HK := Lib.hid hw
  have HF := Lib.hid hf
  obtain ⟨m1, m2, m3, m4, m5, m6, m7, m8, m9, m10, m11⟩ := brMay_facts hm
  have hlong := brMany_pos hobj m1
  have hl3 := brLong_le f
  have HL := Lib.hid hlong.1
  have hpc := brHas_pc m2
  simp only [wl, Holds, List.cons_append, List.nil_append] at hw
  obtain ⟨⟨k0, k1⟩, ⟨a0, a1⟩, ⟨b0, b1⟩, ⟨p0, p1⟩, ⟨i0, i1⟩, ⟨j0, j1⟩, ⟨n0, n1⟩, ⟨q0, q1⟩, ⟨h0, h1⟩, _, ⟨y0, y1⟩⟩ := hf
  obtain ⟨X, hA⟩ : ∃ X, brAt f = X := ⟨_, rfl⟩
  have HA := Lib.hid hA
  have H8 := Lib.hid m8
  have HLL := Lib.hid hlong
  have HOBJ := Lib.hid hobj
  have HMAY := Lib.hid hm
  clear hm m1 m2 m3 m4 m5 m6 m7 m8 m9 m10 m11 hobj hA
  rcases hpc with hp | hp | hp | hp | hp | hp | hp | hp | hp | hp
  · have HS : Hid (brStep f = ⟨1, X, 0, 0, 0, 0, 0⟩) := Lib.hid (by rw [← HA.out]; simp [brStep, brAt, hp])
    have hp' : (f.pc == 0) = true := by simpa using hp
    clear hp hlong hl3
    go_enter Tryd.func24, Tryd.ntmps24
    go_wp2_with (go_at_call 50; refine (brAt_any c f HF.out b _ (HK.out.ext EX)).mono ?_; rintro e w1 ⟨rfl, rfl⟩; rw [HA.out])
    (refine bodyPost_ret (v := (brStep f).v) (by rw [HS.out]; simp [results, Tryd.results24, go_sem]) rfl ⟨rfl, EX⟩)
  · have HS : Hid (brStep f = ⟨1, X, 0, 0, 0, 0, 0⟩) := Lib.hid (by rw [← HA.out]; simp [brStep, brAt, hp])
    have hp' : (f.pc == 3) = true := by simpa using hp
    clear hp hlong hl3
    go_enter Tryd.func24, Tryd.ntmps24
    go_wp2_with (go_at_call 50; refine (brAt_any c f HF.out b _ (HK.out.ext EX)).mono ?_; rintro e w1 ⟨rfl, rfl⟩; rw [HA.out])
    (refine bodyPost_ret (v := (brStep f).v) (by rw [HS.out]; simp [results, Tryd.results24, go_sem]) rfl ⟨rfl, EX⟩)
  · have HS : Hid (brStep f = ⟨1, X, 0, 0, 0, 0, 0⟩) := Lib.hid (by rw [← HA.out]; simp [brStep, brAt, hp])
    have hp' : (f.pc == 5) = true := by simpa using hp
    clear hp hlong hl3
    go_enter Tryd.func24, Tryd.ntmps24
    go_wp2_with (go_at_call 50; refine (brAt_any c f HF.out b _ (HK.out.ext EX)).mono ?_; rintro e w1 ⟨rfl, rfl⟩; rw [HA.out])
    (refine bodyPost_ret (v := (brStep f).v) (by rw [HS.out]; simp [results, Tryd.results24, go_sem]) rfl ⟨rfl, EX⟩)
  · have HS : Hid (brStep f = ⟨2, X, 0, 0, 0, 0, 0⟩) := Lib.hid (by rw [← HA.out]; simp [brStep, brAt, hp])
    have hp' : (f.pc == 6) = true := by simpa using hp
    clear hp hlong hl3
    go_enter Tryd.func24, Tryd.ntmps24
    go_wp2_with (go_at_call 50; refine (brAt_any c f HF.out b _ (HK.out.ext EX)).mono ?_; rintro e w1 ⟨rfl, rfl⟩; rw [HA.out])
    (refine bodyPost_ret (v := (brStep f).v) (by rw [HS.out]; simp [results, Tryd.results24, go_sem]) rfl ⟨rfl, EX⟩)
  · have h8 := H8.out (Or.inr hp)
    have hq : f.h = 0 ∨ f.h = 1 ∨ f.h = 2 := by omega
    have hp' : (f.pc == 2) = true := by simpa using hp
    cases hz : (f.h + 1 == brMany f)
    · rcases hq with hq | hq | hq
      · have HS : Hid (brStep f = ⟨2, X, f.p + 1, f.a % 65536, 0, 0, 0⟩) := Lib.hid (by rw [← HA.out]; rw [HL.out, hq] at hz; simp only [brStep, brAt, hp, hq, hz, brName]; rfl)
        have hq' : (0 + 1 == brMany f) = false := by rw [hq] at hz; exact hz
        clear hp hlong hl3 h8 hz
        go_enter Tryd.func24, Tryd.ntmps24
        go_upto_region 10 with fail
        (go_region_held3 (fun W => W.cell? ⟨b, 0, none⟩ = some (.int .u8 f.kind) ∧ W.cell? ⟨b, 1, none⟩ = some (.int .u32 f.a) ∧ W.cell? ⟨b, 2, none⟩ = some (.int .u32 f.b) ∧ W.cell? ⟨b, 3, none⟩ = some (.int .u8 f.pc) ∧ W.cell? ⟨b, 4, none⟩ = some (.int .u8 f.i) ∧ W.cell? ⟨b, 5, none⟩ = some (.int .u8 f.j) ∧ W.cell? ⟨b, 6, none⟩ = some (.int .u8 f.n) ∧ W.cell? ⟨b, 7, none⟩ = some (.int .u8 f.p) ∧ W.cell? ⟨b, 8, none⟩ = some (.int .u8 f.h) ∧ W.cell? ⟨b, 9, none⟩ = some (.int .u32 f.x) ∧ W.cell? ⟨b, 10, none⟩ = some (.int .u32 f.y) ∧ W.cell? ⟨b, 11, none⟩ = some (.int .i64 c.cap) ∧ W.cell? ⟨b, 12, none⟩ = some (.int .u32 (f.a % 65536)) ∧ W.cell? ⟨b, 13, none⟩ = some (.int .u32 (f.a / 65536)) ∧ W.cell? ⟨b, 14, none⟩ = some (.int .u32 f.b) ∧ W.cell? ⟨b, 15, none⟩ = some (.int .i64 (brMany f))) (exact HK.out.ext EX) (first | (go_at_call 50; refine (brAt_any c f HF.out b _ (HK.out.ext EX)).mono ?_; rintro e w1 ⟨rfl, rfl⟩; rw [HA.out])))
        all_goals
          go_wp2
          go_quiet (fail)
          go_wp2
          (refine bodyPost_ret (v := (brStep f).v) (by rw [HS.out]; simp [results, Tryd.results24, go_sem]) rfl ⟨rfl, EX⟩)
      · have HS : Hid (brStep f = ⟨2, X, f.p + 1, f.a / 65536, 0, 0, 0⟩) := Lib.hid (by rw [← HA.out]; rw [HL.out, hq] at hz; simp only [brStep, brAt, hp, hq, hz, brName]; rfl)
        have hq' : (1 + 1 == brMany f) = false := by rw [hq] at hz; exact hz
        clear hp hlong hl3 h8 hz
        go_enter Tryd.func24, Tryd.ntmps24
        go_upto_region 10 with fail
        (go_region_held3 (fun W => W.cell? ⟨b, 0, none⟩ = some (.int .u8 f.kind) ∧ W.cell? ⟨b, 1, none⟩ = some (.int .u32 f.a) ∧ W.cell? ⟨b, 2, none⟩ = some (.int .u32 f.b) ∧ W.cell? ⟨b, 3, none⟩ = some (.int .u8 f.pc) ∧ W.cell? ⟨b, 4, none⟩ = some (.int .u8 f.i) ∧ W.cell? ⟨b, 5, none⟩ = some (.int .u8 f.j) ∧ W.cell? ⟨b, 6, none⟩ = some (.int .u8 f.n) ∧ W.cell? ⟨b, 7, none⟩ = some (.int .u8 f.p) ∧ W.cell? ⟨b, 8, none⟩ = some (.int .u8 f.h) ∧ W.cell? ⟨b, 9, none⟩ = some (.int .u32 f.x) ∧ W.cell? ⟨b, 10, none⟩ = some (.int .u32 f.y) ∧ W.cell? ⟨b, 11, none⟩ = some (.int .i64 c.cap) ∧ W.cell? ⟨b, 12, none⟩ = some (.int .u32 (f.a % 65536)) ∧ W.cell? ⟨b, 13, none⟩ = some (.int .u32 (f.a / 65536)) ∧ W.cell? ⟨b, 14, none⟩ = some (.int .u32 f.b) ∧ W.cell? ⟨b, 15, none⟩ = some (.int .i64 (brMany f))) (exact HK.out.ext EX) (first | (go_at_call 50; refine (brAt_any c f HF.out b _ (HK.out.ext EX)).mono ?_; rintro e w1 ⟨rfl, rfl⟩; rw [HA.out])))
        all_goals
          go_wp2
          go_quiet (fail)
          go_wp2
          (refine bodyPost_ret (v := (brStep f).v) (by rw [HS.out]; simp [results, Tryd.results24, go_sem]) rfl ⟨rfl, EX⟩)
      · have HS : Hid (brStep f = ⟨2, X, f.p + 1, f.b, 0, 0, 0⟩) := Lib.hid (by rw [← HA.out]; rw [HL.out, hq] at hz; simp only [brStep, brAt, hp, hq, hz, brName]; rfl)
        have hq' : (2 + 1 == brMany f) = false := by rw [hq] at hz; exact hz
        clear hp hlong hl3 h8 hz
        go_enter Tryd.func24, Tryd.ntmps24
        go_upto_region 10 with fail
        (go_region_held3 (fun W => W.cell? ⟨b, 0, none⟩ = some (.int .u8 f.kind) ∧ W.cell? ⟨b, 1, none⟩ = some (.int .u32 f.a) ∧ W.cell? ⟨b, 2, none⟩ = some (.int .u32 f.b) ∧ W.cell? ⟨b, 3, none⟩ = some (.int .u8 f.pc) ∧ W.cell? ⟨b, 4, none⟩ = some (.int .u8 f.i) ∧ W.cell? ⟨b, 5, none⟩ = some (.int .u8 f.j) ∧ W.cell? ⟨b, 6, none⟩ = some (.int .u8 f.n) ∧ W.cell? ⟨b, 7, none⟩ = some (.int .u8 f.p) ∧ W.cell? ⟨b, 8, none⟩ = some (.int .u8 f.h) ∧ W.cell? ⟨b, 9, none⟩ = some (.int .u32 f.x) ∧ W.cell? ⟨b, 10, none⟩ = some (.int .u32 f.y) ∧ W.cell? ⟨b, 11, none⟩ = some (.int .i64 c.cap) ∧ W.cell? ⟨b, 12, none⟩ = some (.int .u32 (f.a % 65536)) ∧ W.cell? ⟨b, 13, none⟩ = some (.int .u32 (f.a / 65536)) ∧ W.cell? ⟨b, 14, none⟩ = some (.int .u32 f.b) ∧ W.cell? ⟨b, 15, none⟩ = some (.int .i64 (brMany f))) (exact HK.out.ext EX) (first | (go_at_call 50; refine (brAt_any c f HF.out b _ (HK.out.ext EX)).mono ?_; rintro e w1 ⟨rfl, rfl⟩; rw [HA.out])))
        all_goals
          go_wp2
          go_quiet (fail)
          go_wp2
          (refine bodyPost_ret (v := (brStep f).v) (by rw [HS.out]; simp [results, Tryd.results24, go_sem]) rfl ⟨rfl, EX⟩)
    · rcases hq with hq | hq | hq
      · have HS : Hid (brStep f = ⟨2, X, f.p + 1, f.a % 65536, f.y + 1, 0, 0⟩) := Lib.hid (by rw [← HA.out]; rw [HL.out, hq] at hz; simp only [brStep, brAt, hp, hq, hz, brName]; rfl)
        have hq' : (0 + 1 == brMany f) = true := by rw [hq] at hz; exact hz
        clear hp hlong hl3 h8 hz
        go_enter Tryd.func24, Tryd.ntmps24
        go_upto_region 10 with fail
        (go_region_held3 (fun W => W.cell? ⟨b, 0, none⟩ = some (.int .u8 f.kind) ∧ W.cell? ⟨b, 1, none⟩ = some (.int .u32 f.a) ∧ W.cell? ⟨b, 2, none⟩ = some (.int .u32 f.b) ∧ W.cell? ⟨b, 3, none⟩ = some (.int .u8 f.pc) ∧ W.cell? ⟨b, 4, none⟩ = some (.int .u8 f.i) ∧ W.cell? ⟨b, 5, none⟩ = some (.int .u8 f.j) ∧ W.cell? ⟨b, 6, none⟩ = some (.int .u8 f.n) ∧ W.cell? ⟨b, 7, none⟩ = some (.int .u8 f.p) ∧ W.cell? ⟨b, 8, none⟩ = some (.int .u8 f.h) ∧ W.cell? ⟨b, 9, none⟩ = some (.int .u32 f.x) ∧ W.cell? ⟨b, 10, none⟩ = some (.int .u32 f.y) ∧ W.cell? ⟨b, 11, none⟩ = some (.int .i64 c.cap) ∧ W.cell? ⟨b, 12, none⟩ = some (.int .u32 (f.a % 65536)) ∧ W.cell? ⟨b, 13, none⟩ = some (.int .u32 (f.a / 65536)) ∧ W.cell? ⟨b, 14, none⟩ = some (.int .u32 f.b) ∧ W.cell? ⟨b, 15, none⟩ = some (.int .i64 (brMany f))) (exact HK.out.ext EX) (first | (go_at_call 50; refine (brAt_any c f HF.out b _ (HK.out.ext EX)).mono ?_; rintro e w1 ⟨rfl, rfl⟩; rw [HA.out])))
        all_goals
          go_wp2
          go_quiet (fail)
          go_wp2
          (refine bodyPost_ret (v := (brStep f).v) (by rw [HS.out]; simp [results, Tryd.results24, go_sem]) rfl ⟨rfl, EX⟩)
      · have HS : Hid (brStep f = ⟨2, X, f.p + 1, f.a / 65536, f.y + 1, 0, 0⟩) := Lib.hid (by rw [← HA.out]; rw [HL.out, hq] at hz; simp only [brStep, brAt, hp, hq, hz, brName]; rfl)
        have hq' : (1 + 1 == brMany f) = true := by rw [hq] at hz; exact hz
        clear hp hlong hl3 h8 hz
        go_enter Tryd.func24, Tryd.ntmps24
        go_upto_region 10 with fail
        (go_region_held3 (fun W => W.cell? ⟨b, 0, none⟩ = some (.int .u8 f.kind) ∧ W.cell? ⟨b, 1, none⟩ = some (.int .u32 f.a) ∧ W.cell? ⟨b, 2, none⟩ = some (.int .u32 f.b) ∧ W.cell? ⟨b, 3, none⟩ = some (.int .u8 f.pc) ∧ W.cell? ⟨b, 4, none⟩ = some (.int .u8 f.i) ∧ W.cell? ⟨b, 5, none⟩ = some (.int .u8 f.j) ∧ W.cell? ⟨b, 6, none⟩ = some (.int .u8 f.n) ∧ W.cell? ⟨b, 7, none⟩ = some (.int .u8 f.p) ∧ W.cell? ⟨b, 8, none⟩ = some (.int .u8 f.h) ∧ W.cell? ⟨b, 9, none⟩ = some (.int .u32 f.x) ∧ W.cell? ⟨b, 10, none⟩ = some (.int .u32 f.y) ∧ W.cell? ⟨b, 11, none⟩ = some (.int .i64 c.cap) ∧ W.cell? ⟨b, 12, none⟩ = some (.int .u32 (f.a % 65536)) ∧ W.cell? ⟨b, 13, none⟩ = some (.int .u32 (f.a / 65536)) ∧ W.cell? ⟨b, 14, none⟩ = some (.int .u32 f.b) ∧ W.cell? ⟨b, 15, none⟩ = some (.int .i64 (brMany f))) (exact HK.out.ext EX) (first | (go_at_call 50; refine (brAt_any c f HF.out b _ (HK.out.ext EX)).mono ?_; rintro e w1 ⟨rfl, rfl⟩; rw [HA.out])))
        all_goals
          go_wp2
          go_quiet (fail)
          go_wp2
          (refine bodyPost_ret (v := (brStep f).v) (by rw [HS.out]; simp [results, Tryd.results24, go_sem]) rfl ⟨rfl, EX⟩)
      · have HS : Hid (brStep f = ⟨2, X, f.p + 1, f.b, f.y + 1, 0, 0⟩) := Lib.hid (by rw [← HA.out]; rw [HL.out, hq] at hz; simp only [brStep, brAt, hp, hq, hz, brName]; rfl)
        have hq' : (2 + 1 == brMany f) = true := by rw [hq] at hz; exact hz
        clear hp hlong hl3 h8 hz
        go_enter Tryd.func24, Tryd.ntmps24
        go_upto_region 10 with fail
        (go_region_held3 (fun W => W.cell? ⟨b, 0, none⟩ = some (.int .u8 f.kind) ∧ W.cell? ⟨b, 1, none⟩ = some (.int .u32 f.a) ∧ W.cell? ⟨b, 2, none⟩ = some (.int .u32 f.b) ∧ W.cell? ⟨b, 3, none⟩ = some (.int .u8 f.pc) ∧ W.cell? ⟨b, 4, none⟩ = some (.int .u8 f.i) ∧ W.cell? ⟨b, 5, none⟩ = some (.int .u8 f.j) ∧ W.cell? ⟨b, 6, none⟩ = some (.int .u8 f.n) ∧ W.cell? ⟨b, 7, none⟩ = some (.int .u8 f.p) ∧ W.cell? ⟨b, 8, none⟩ = some (.int .u8 f.h) ∧ W.cell? ⟨b, 9, none⟩ = some (.int .u32 f.x) ∧ W.cell? ⟨b, 10, none⟩ = some (.int .u32 f.y) ∧ W.cell? ⟨b, 11, none⟩ = some (.int .i64 c.cap) ∧ W.cell? ⟨b, 12, none⟩ = some (.int .u32 (f.a % 65536)) ∧ W.cell? ⟨b, 13, none⟩ = some (.int .u32 (f.a / 65536)) ∧ W.cell? ⟨b, 14, none⟩ = some (.int .u32 f.b) ∧ W.cell? ⟨b, 15, none⟩ = some (.int .i64 (brMany f))) (exact HK.out.ext EX) (first | (go_at_call 50; refine (brAt_any c f HF.out b _ (HK.out.ext EX)).mono ?_; rintro e w1 ⟨rfl, rfl⟩; rw [HA.out])))
        all_goals
          go_wp2
          go_quiet (fail)
          go_wp2
          (refine bodyPost_ret (v := (brStep f).v) (by rw [HS.out]; simp [results, Tryd.results24, go_sem]) rfl ⟨rfl, EX⟩)
  · exact brAct_4 c f HF.out HOBJ.out HMAY.out hp b w HK.out
  · have HS : Hid (brStep f = ⟨4, 0, 0, 0, 0, 0, f.x⟩) := Lib.hid (by simp [brStep, hp])
    have hp' : (f.pc == 20) = true := by simpa using hp
    clear hp hlong hl3
    go_enter Tryd.func24, Tryd.ntmps24
    go_wp2
    (refine bodyPost_ret (v := (brStep f).v) (by rw [HS.out]; simp [results, Tryd.results24, go_sem]) rfl ⟨rfl, EX⟩)
  · have HS : Hid (brStep f = ⟨4, 0, 0, 0, 0, 6, 0⟩) := Lib.hid (by simp [brStep, hp])
    have hp' : (f.pc == 21) = true := by simpa using hp
    clear hp hlong hl3
    go_enter Tryd.func24, Tryd.ntmps24
    go_wp2
    (refine bodyPost_ret (v := (brStep f).v) (by rw [HS.out]; simp [results, Tryd.results24, go_sem]) rfl ⟨rfl, EX⟩)
  · have HS : Hid (brStep f = ⟨4, 0, 0, 0, 0, 9, 0⟩) := Lib.hid (by simp [brStep, hp])
    have hp' : (f.pc == 22) = true := by simpa using hp
    clear hp hlong hl3
    go_enter Tryd.func24, Tryd.ntmps24
    go_wp2
    (refine bodyPost_ret (v := (brStep f).v) (by rw [HS.out]; simp [results, Tryd.results24, go_sem]) rfl ⟨rfl, EX⟩)
  · have HS : Hid (brStep f = ⟨4, 0, 0, 0, 0, 90, 0⟩) := Lib.hid (by simp [brStep, hp])
    have hp' : (f.pc == 23) = true := by simpa using hp
    clear hp hlong hl3
    go_enter Tryd.func24, Tryd.ntmps24
    go_wp2
    (refine bodyPost_ret (v := (brStep f).v) (by rw [HS.out]; simp [results, Tryd.results24, go_sem]) rfl ⟨rfl, EX⟩)
end Go.Proofs.YtmbodooikfmegaaDoor
