/- The walks of the reference of layer 'branch': the act of a frame. -/
import Derived.Test.YtmbodooikfmegaaDoorBrR1
import Derived.Test.YtmbodooikfmegaaDoorBr3
namespace Go.Proofs.YtmbodooikfmegaaDoor
open Go Go.RowKit

theorem brName_bd {f : Frm} (hf : f.Fits) (n : Int) : 0 ≤ brName f n ∧ brName f n ≤ 4294967295 := by
  obtain ⟨_, ⟨a0, a1⟩, ⟨b0, b1⟩, _, _, _, _, _, _, _, _⟩ := hf
  unfold brName
  split
  · omega
  · split
    · omega
    · split <;> omega

set_option maxRecDepth 100000 in
set_option maxHeartbeats 4000000 in
theorem brStepR_2 (f : Frm) (hf : f.Fits) (hp : f.pc = 2) (h2 : f.h < brLong f) (w : World) : Calls Tryd.prog 27 #[f.v] w
    fun e w' => e = .returned (brStep f).v ∧ Ext w w' := by
  have HF := Lib.hid hf
  have hl3 := brLong_le f
  obtain ⟨n0, n1⟩ := brName_bd hf f.h
  obtain ⟨N, hN⟩ : ∃ N, brName f f.h = N := ⟨_, rfl⟩
  obtain ⟨L, hL⟩ : ∃ L, brLong f = L := ⟨_, rfl⟩
  rw [hN] at n0 n1
  rw [hL] at h2 hl3
  have HN := Lib.hid hN
  have HLL := Lib.hid hL
  obtain ⟨⟨k0, k1⟩, ⟨a0, a1⟩, ⟨b0, b1⟩, ⟨p0, p1⟩, ⟨i0, i1⟩, ⟨j0, j1⟩, ⟨m0, m1⟩, ⟨q0, q1⟩, ⟨h0, h1⟩, _, ⟨y0, y1⟩⟩ := hf
  have hp' : (f.pc == 2) = true := by simpa using hp
  have wj : IntKind.i64.wrap f.j = f.j := by rw [IntKind.wrap_i64]; omega
  have wh : IntKind.i64.wrap f.h = f.h := by rw [IntKind.wrap_i64]; omega
  have wp : IntKind.u64.wrap f.p = f.p := by rw [IntKind.wrap_u64]; omega
  have wp1 : IntKind.u64.wrap (f.p + 1) = f.p + 1 := by rw [IntKind.wrap_u64]; omega
  have wn : IntKind.u64.wrap N = N := by rw [IntKind.wrap_u64]; omega
  cases hz : (f.h + 1 == L)
  · have HS : Hid (brStep f = ⟨2, f.j, f.p + 1, N, 0, 0, 0⟩) := Lib.hid (by simp only [brStep, hp, hN, hL, hz]; rfl)
    clear hp hN hL
    go_enter Tryd.func27, Tryd.ntmps27
    go_upto_region 8 with (go_at_call 54; refine (longR_any f HF.out _).mono ?_; rintro e w1 ⟨rfl, os1, n1, rfl⟩; rw [HLL.out])
    (refine wp_gen (fun W => Ext ((w.alloc (.cells #[.int .u8 f.kind, .int .u32 f.a, .int .u32 f.b, .int .u8 f.pc, .int .u8 f.i, .int .u8 f.j, .int .u8 f.n, .int .u8 f.p, .int .u8 f.h, .int .u32 f.x, .int .u32 f.y] 27)).alloc (.cells #[.int .u8 0, .int .i64 0, .int .u64 0, .int .u64 0, .int .u64 0, .int .i64 0, .int .u32 0] 30)) W ∧ Holds W [(w.heap.size, 0, .int .u8 f.kind), (w.heap.size, 1, .int .u32 f.a), (w.heap.size, 2, .int .u32 f.b), (w.heap.size, 3, .int .u8 f.pc), (w.heap.size, 4, .int .u8 f.i), (w.heap.size, 5, .int .u8 f.j), (w.heap.size, 6, .int .u8 f.n), (w.heap.size, 7, .int .u8 f.p), (w.heap.size, 8, .int .u8 f.h), (w.heap.size, 9, .int .u32 f.x), (w.heap.size, 10, .int .u32 f.y)]) ⟨(by repeat (first | with_reducible exact Ext.refl _ | with_reducible assumption | with_reducible refine Ext.alloc ?_ _ | with_reducible refine Ext.gr ?_ _ | with_reducible refine Ext.drewN ?_ _ | with_reducible refine Ext.drew ?_ | with_reducible refine Ext.setCell ?_ ?_ _ | with_reducible refine Ext.more ?_ _ _ | (show _ ≤ _; dsimp only; omega))), by simp [Holds, go_sem]⟩ ?_; intro W HH; have HX := Lib.hid HH.1; have HK := Lib.hid HH.2; have hWb : w.heap.size + 1 < W.heap.size := (by have := HH.1.size; simp [go_sem] at this; omega); clear HH)
    (go_region_held3 (fun W => W.cell? ⟨w.heap.size, 0, none⟩ = some (.int .u8 f.kind) ∧ W.cell? ⟨w.heap.size, 1, none⟩ = some (.int .u32 f.a) ∧ W.cell? ⟨w.heap.size, 2, none⟩ = some (.int .u32 f.b) ∧ W.cell? ⟨w.heap.size, 3, none⟩ = some (.int .u8 f.pc) ∧ W.cell? ⟨w.heap.size, 4, none⟩ = some (.int .u8 f.i) ∧ W.cell? ⟨w.heap.size, 5, none⟩ = some (.int .u8 f.j) ∧ W.cell? ⟨w.heap.size, 6, none⟩ = some (.int .u8 f.n) ∧ W.cell? ⟨w.heap.size, 7, none⟩ = some (.int .u8 f.p) ∧ W.cell? ⟨w.heap.size, 8, none⟩ = some (.int .u8 f.h) ∧ W.cell? ⟨w.heap.size, 9, none⟩ = some (.int .u32 f.x) ∧ W.cell? ⟨w.heap.size, 10, none⟩ = some (.int .u32 f.y)) (exact HK.out.ext (by (repeat (first | with_reducible exact Ext.refl _ | with_reducible assumption | with_reducible refine Ext.alloc ?_ _ | with_reducible refine Ext.gr ?_ _ | with_reducible refine Ext.drewN ?_ _ | with_reducible refine Ext.drew ?_ | with_reducible refine Ext.setCell ?_ ?_ _ | with_reducible refine Ext.more ?_ _ _ | (show _ ≤ _; dsimp only; omega))))) (first | (go_at_call 55; (with_reducible refine (nameR_any f HF.out f.h (by omega) _).mono ?_); rintro e w2 ⟨rfl, os2, n2, rfl⟩; rw [HN.out])))
    all_goals
      have hX := HX.out
      clear HX HK wj wh wp wp1 wn
      obtain ⟨os', d', rfl⟩ := hX
      go_wp2
      (refine bodyPost_ret (v := (brStep f).v) (by rw [HS.out]; simp [results, Tryd.results27, go_sem]) rfl ⟨rfl, (by repeat (first | with_reducible exact Ext.refl _ | with_reducible assumption | with_reducible refine Ext.alloc ?_ _ | with_reducible refine Ext.gr ?_ _ | with_reducible refine Ext.drewN ?_ _ | with_reducible refine Ext.drew ?_ | with_reducible refine Ext.setCell ?_ ?_ _ | with_reducible refine Ext.more ?_ _ _ | (show _ ≤ _; dsimp only; omega)))⟩)
  · have HS : Hid (brStep f = ⟨2, f.j, f.p + 1, N, f.y + 1, 0, 0⟩) := Lib.hid (by simp only [brStep, hp, hN, hL, hz]; rfl)
    clear hp hN hL
    go_enter Tryd.func27, Tryd.ntmps27
    go_upto_region 8 with (go_at_call 54; refine (longR_any f HF.out _).mono ?_; rintro e w1 ⟨rfl, os1, n1, rfl⟩; rw [HLL.out])
    (refine wp_gen (fun W => Ext ((w.alloc (.cells #[.int .u8 f.kind, .int .u32 f.a, .int .u32 f.b, .int .u8 f.pc, .int .u8 f.i, .int .u8 f.j, .int .u8 f.n, .int .u8 f.p, .int .u8 f.h, .int .u32 f.x, .int .u32 f.y] 27)).alloc (.cells #[.int .u8 0, .int .i64 0, .int .u64 0, .int .u64 0, .int .u64 0, .int .i64 0, .int .u32 0] 30)) W ∧ Holds W [(w.heap.size, 0, .int .u8 f.kind), (w.heap.size, 1, .int .u32 f.a), (w.heap.size, 2, .int .u32 f.b), (w.heap.size, 3, .int .u8 f.pc), (w.heap.size, 4, .int .u8 f.i), (w.heap.size, 5, .int .u8 f.j), (w.heap.size, 6, .int .u8 f.n), (w.heap.size, 7, .int .u8 f.p), (w.heap.size, 8, .int .u8 f.h), (w.heap.size, 9, .int .u32 f.x), (w.heap.size, 10, .int .u32 f.y)]) ⟨(by repeat (first | with_reducible exact Ext.refl _ | with_reducible assumption | with_reducible refine Ext.alloc ?_ _ | with_reducible refine Ext.gr ?_ _ | with_reducible refine Ext.drewN ?_ _ | with_reducible refine Ext.drew ?_ | with_reducible refine Ext.setCell ?_ ?_ _ | with_reducible refine Ext.more ?_ _ _ | (show _ ≤ _; dsimp only; omega))), by simp [Holds, go_sem]⟩ ?_; intro W HH; have HX := Lib.hid HH.1; have HK := Lib.hid HH.2; have hWb : w.heap.size + 1 < W.heap.size := (by have := HH.1.size; simp [go_sem] at this; omega); clear HH)
    (go_region_held3 (fun W => W.cell? ⟨w.heap.size, 0, none⟩ = some (.int .u8 f.kind) ∧ W.cell? ⟨w.heap.size, 1, none⟩ = some (.int .u32 f.a) ∧ W.cell? ⟨w.heap.size, 2, none⟩ = some (.int .u32 f.b) ∧ W.cell? ⟨w.heap.size, 3, none⟩ = some (.int .u8 f.pc) ∧ W.cell? ⟨w.heap.size, 4, none⟩ = some (.int .u8 f.i) ∧ W.cell? ⟨w.heap.size, 5, none⟩ = some (.int .u8 f.j) ∧ W.cell? ⟨w.heap.size, 6, none⟩ = some (.int .u8 f.n) ∧ W.cell? ⟨w.heap.size, 7, none⟩ = some (.int .u8 f.p) ∧ W.cell? ⟨w.heap.size, 8, none⟩ = some (.int .u8 f.h) ∧ W.cell? ⟨w.heap.size, 9, none⟩ = some (.int .u32 f.x) ∧ W.cell? ⟨w.heap.size, 10, none⟩ = some (.int .u32 f.y)) (exact HK.out.ext (by (repeat (first | with_reducible exact Ext.refl _ | with_reducible assumption | with_reducible refine Ext.alloc ?_ _ | with_reducible refine Ext.gr ?_ _ | with_reducible refine Ext.drewN ?_ _ | with_reducible refine Ext.drew ?_ | with_reducible refine Ext.setCell ?_ ?_ _ | with_reducible refine Ext.more ?_ _ _ | (show _ ≤ _; dsimp only; omega))))) (first | (go_at_call 55; (with_reducible refine (nameR_any f HF.out f.h (by omega) _).mono ?_); rintro e w2 ⟨rfl, os2, n2, rfl⟩; rw [HN.out])))
    all_goals
      have hX := HX.out
      clear HX HK wj wh wp wp1 wn
      obtain ⟨os', d', rfl⟩ := hX
      go_wp2
      (refine bodyPost_ret (v := (brStep f).v) (by rw [HS.out]; simp [results, Tryd.results27, go_sem]) rfl ⟨rfl, (by repeat (first | with_reducible exact Ext.refl _ | with_reducible assumption | with_reducible refine Ext.alloc ?_ _ | with_reducible refine Ext.gr ?_ _ | with_reducible refine Ext.drewN ?_ _ | with_reducible refine Ext.drew ?_ | with_reducible refine Ext.setCell ?_ ?_ _ | with_reducible refine Ext.more ?_ _ _ | (show _ ≤ _; dsimp only; omega)))⟩)

set_option maxRecDepth 100000 in
set_option maxHeartbeats 4000000 in
theorem brStepR_4 (f : Frm) (hf : f.Fits) (hp : f.pc = 4) (h4 : 1 ≤ brLong f) (w : World) : Calls Tryd.prog 27 #[f.v] w
    fun e w' => e = .returned (brStep f).v ∧ Ext w w' := by
  have HF := Lib.hid hf
  have hl3 := brLong_le f
  obtain ⟨n0, n1⟩ := brName_bd hf (brLong f - 1)
  obtain ⟨N, hN⟩ : ∃ N, brName f (brLong f - 1) = N := ⟨_, rfl⟩
  rw [hN] at n0 n1
  have HS : Hid (brStep f = ⟨2, f.p - 1, f.j + 1, N, f.y + 1, 0, 0⟩) := Lib.hid (by simp only [brStep, hp, hN]; rfl)
  obtain ⟨L, hL⟩ : ∃ L, brLong f = L := ⟨_, rfl⟩
  rw [hL] at h4 hl3 hN
  have HN := Lib.hid hN
  have HLL := Lib.hid hL
  obtain ⟨⟨k0, k1⟩, ⟨a0, a1⟩, ⟨b0, b1⟩, ⟨p0, p1⟩, ⟨i0, i1⟩, ⟨j0, j1⟩, ⟨m0, m1⟩, ⟨q0, q1⟩, ⟨h0, h1⟩, _, ⟨y0, y1⟩⟩ := hf
  have hp' : (f.pc == 4) = true := by simpa using hp
  have hwr : IntKind.i64.wrap (L - 1) = L - 1 := by rw [IntKind.wrap_i64]; omega
  have wq : IntKind.i64.wrap f.p = f.p := by rw [IntKind.wrap_i64]; omega
  have wq1 : IntKind.i64.wrap (f.p - 1) = f.p - 1 := by rw [IntKind.wrap_i64]; omega
  have wj : IntKind.u64.wrap f.j = f.j := by rw [IntKind.wrap_u64]; omega
  have wj1 : IntKind.u64.wrap (f.j + 1) = f.j + 1 := by rw [IntKind.wrap_u64]; omega
  have wy : IntKind.u64.wrap f.y = f.y := by rw [IntKind.wrap_u64]; omega
  have wy1 : IntKind.u64.wrap (f.y + 1) = f.y + 1 := by rw [IntKind.wrap_u64]; omega
  have wn : IntKind.u64.wrap N = N := by rw [IntKind.wrap_u64]; omega
  clear hp hN hL
  go_enter Tryd.func27, Tryd.ntmps27
  go_upto_region 13 with (go_at_call 54; refine (longR_any f HF.out _).mono ?_; rintro e w1 ⟨rfl, os1, n1, rfl⟩; rw [HLL.out])
  have HK : Hid (Holds (w.alloc (.cells #[.int .u8 f.kind, .int .u32 f.a, .int .u32 f.b, .int .u8 f.pc, .int .u8 f.i, .int .u8 f.j, .int .u8 f.n, .int .u8 f.p, .int .u8 f.h, .int .u32 f.x, .int .u32 f.y] 27)) [(w.heap.size, 0, .int .u8 f.kind), (w.heap.size, 1, .int .u32 f.a), (w.heap.size, 2, .int .u32 f.b), (w.heap.size, 3, .int .u8 f.pc), (w.heap.size, 4, .int .u8 f.i), (w.heap.size, 5, .int .u8 f.j), (w.heap.size, 6, .int .u8 f.n), (w.heap.size, 7, .int .u8 f.p), (w.heap.size, 8, .int .u8 f.h), (w.heap.size, 9, .int .u32 f.x), (w.heap.size, 10, .int .u32 f.y)]) := Lib.hid (by simp [Holds, go_sem])
  (go_region_held3 (fun W => W.cell? ⟨w.heap.size, 0, none⟩ = some (.int .u8 f.kind) ∧ W.cell? ⟨w.heap.size, 1, none⟩ = some (.int .u32 f.a) ∧ W.cell? ⟨w.heap.size, 2, none⟩ = some (.int .u32 f.b) ∧ W.cell? ⟨w.heap.size, 3, none⟩ = some (.int .u8 f.pc) ∧ W.cell? ⟨w.heap.size, 4, none⟩ = some (.int .u8 f.i) ∧ W.cell? ⟨w.heap.size, 5, none⟩ = some (.int .u8 f.j) ∧ W.cell? ⟨w.heap.size, 6, none⟩ = some (.int .u8 f.n) ∧ W.cell? ⟨w.heap.size, 7, none⟩ = some (.int .u8 f.p) ∧ W.cell? ⟨w.heap.size, 8, none⟩ = some (.int .u8 f.h) ∧ W.cell? ⟨w.heap.size, 9, none⟩ = some (.int .u32 f.x) ∧ W.cell? ⟨w.heap.size, 10, none⟩ = some (.int .u32 f.y)) (exact HK.out.ext (by (repeat (first | with_reducible exact Ext.refl _ | with_reducible assumption | with_reducible refine Ext.alloc ?_ _ | with_reducible refine Ext.gr ?_ _ | with_reducible refine Ext.drewN ?_ _ | with_reducible refine Ext.drew ?_ | with_reducible refine Ext.setCell ?_ ?_ _ | with_reducible refine Ext.more ?_ _ _ | (show _ ≤ _; dsimp only; omega))))) (first | (go_at_call 55; (with_reducible refine (nameR_any f HF.out (L - 1) (by omega) _).mono ?_); rintro e w2 ⟨rfl, os2, n2, rfl⟩; rw [HN.out])))
  all_goals
    clear HK hwr wq wq1 wj wj1 wy wy1 wn
    go_wp2
    (refine bodyPost_ret (v := (brStep f).v) (by rw [HS.out]; simp [results, Tryd.results27, go_sem]) rfl ⟨rfl, (by repeat (first | with_reducible exact Ext.refl _ | with_reducible assumption | with_reducible refine Ext.alloc ?_ _ | with_reducible refine Ext.gr ?_ _ | with_reducible refine Ext.drewN ?_ _ | with_reducible refine Ext.drew ?_ | with_reducible refine Ext.setCell ?_ ?_ _ | with_reducible refine Ext.more ?_ _ _ | (show _ ≤ _; dsimp only; omega)))⟩)

set_option maxRecDepth 100000 in
set_option maxHeartbeats 4000000 in
theorem brStepR_any (f : Frm) (hf : f.Fits) (hpc : f.pc = 0 ∨ f.pc = 3 ∨ f.pc = 5 ∨ f.pc = 6 ∨ f.pc = 2 ∨ f.pc = 4 ∨ f.pc = 20 ∨ f.pc = 21 ∨ f.pc = 22 ∨ f.pc = 23) (h2 : f.pc = 2 → f.h < brLong f) (h4 : f.pc = 4 → 1 ≤ brLong f) (w : World) : Calls Tryd.prog 27 #[f.v] w
    fun e w' => e = .returned (brStep f).v ∧ Ext w w' := by
  have HF := Lib.hid hf
  obtain ⟨L, hL⟩ : ∃ L, brLong f = L := ⟨_, rfl⟩
  have HLL := Lib.hid hL
  clear hL
  obtain ⟨⟨k0, k1⟩, ⟨a0, a1⟩, ⟨b0, b1⟩, ⟨p0, p1⟩, ⟨i0, i1⟩, ⟨j0, j1⟩, ⟨m0, m1⟩, ⟨q0, q1⟩, ⟨h0, h1⟩, _, ⟨y0, y1⟩⟩ := hf
  rcases hpc with hp | hp | hp | hp | hp | hp | hp | hp | hp | hp
  · have hp' : (f.pc == 0) = true := by simpa using hp
    (have HS : Hid (brStep f = ⟨1, f.i, 0, 0, 0, 0, 0⟩) := Lib.hid (by simp [brStep, hp]); clear hp h2 h4; go_enter Tryd.func27, Tryd.ntmps27; go_wp2_with (go_at_call 54; refine (longR_any f HF.out _).mono ?_; rintro e w1 ⟨rfl, os1, n1, rfl⟩; rw [HLL.out]); (refine bodyPost_ret (v := (brStep f).v) (by rw [HS.out]; simp [results, Tryd.results27, go_sem]) rfl ⟨rfl, (by repeat (first | with_reducible exact Ext.refl _ | with_reducible assumption | with_reducible refine Ext.alloc ?_ _ | with_reducible refine Ext.gr ?_ _ | with_reducible refine Ext.drewN ?_ _ | with_reducible refine Ext.drew ?_ | with_reducible refine Ext.setCell ?_ ?_ _ | with_reducible refine Ext.more ?_ _ _ | (show _ ≤ _; dsimp only; omega)))⟩))
  · have hp' : (f.pc == 3) = true := by simpa using hp
    (have HS : Hid (brStep f = ⟨1, f.i, 0, 0, 0, 0, 0⟩) := Lib.hid (by simp [brStep, hp]); clear hp h2 h4; go_enter Tryd.func27, Tryd.ntmps27; go_wp2_with (go_at_call 54; refine (longR_any f HF.out _).mono ?_; rintro e w1 ⟨rfl, os1, n1, rfl⟩; rw [HLL.out]); (refine bodyPost_ret (v := (brStep f).v) (by rw [HS.out]; simp [results, Tryd.results27, go_sem]) rfl ⟨rfl, (by repeat (first | with_reducible exact Ext.refl _ | with_reducible assumption | with_reducible refine Ext.alloc ?_ _ | with_reducible refine Ext.gr ?_ _ | with_reducible refine Ext.drewN ?_ _ | with_reducible refine Ext.drew ?_ | with_reducible refine Ext.setCell ?_ ?_ _ | with_reducible refine Ext.more ?_ _ _ | (show _ ≤ _; dsimp only; omega)))⟩))
  · have hp' : (f.pc == 5) = true := by simpa using hp
    (have HS : Hid (brStep f = ⟨1, f.i, 0, 0, 0, 0, 0⟩) := Lib.hid (by simp [brStep, hp]); clear hp h2 h4; go_enter Tryd.func27, Tryd.ntmps27; go_wp2_with (go_at_call 54; refine (longR_any f HF.out _).mono ?_; rintro e w1 ⟨rfl, os1, n1, rfl⟩; rw [HLL.out]); (refine bodyPost_ret (v := (brStep f).v) (by rw [HS.out]; simp [results, Tryd.results27, go_sem]) rfl ⟨rfl, (by repeat (first | with_reducible exact Ext.refl _ | with_reducible assumption | with_reducible refine Ext.alloc ?_ _ | with_reducible refine Ext.gr ?_ _ | with_reducible refine Ext.drewN ?_ _ | with_reducible refine Ext.drew ?_ | with_reducible refine Ext.setCell ?_ ?_ _ | with_reducible refine Ext.more ?_ _ _ | (show _ ≤ _; dsimp only; omega)))⟩))
  · have hp' : (f.pc == 6) = true := by simpa using hp
    (have HS : Hid (brStep f = ⟨2, f.p - 1, 0, 0, 0, 0, 0⟩) := Lib.hid (by simp [brStep, hp]); clear hp h2 h4; go_enter Tryd.func27, Tryd.ntmps27; go_wp2_with (go_at_call 54; refine (longR_any f HF.out _).mono ?_; rintro e w1 ⟨rfl, os1, n1, rfl⟩; rw [HLL.out]); (refine bodyPost_ret (v := (brStep f).v) (by rw [HS.out]; simp [results, Tryd.results27, go_sem]) rfl ⟨rfl, (by repeat (first | with_reducible exact Ext.refl _ | with_reducible assumption | with_reducible refine Ext.alloc ?_ _ | with_reducible refine Ext.gr ?_ _ | with_reducible refine Ext.drewN ?_ _ | with_reducible refine Ext.drew ?_ | with_reducible refine Ext.setCell ?_ ?_ _ | with_reducible refine Ext.more ?_ _ _ | (show _ ≤ _; dsimp only; omega)))⟩))
  · exact brStepR_2 f HF.out hp (h2 hp) w
  · exact brStepR_4 f HF.out hp (h4 hp) w
  · have hp' : (f.pc == 20) = true := by simpa using hp
    (have HS : Hid (brStep f = ⟨4, 0, 0, 0, 0, 0, f.x⟩) := Lib.hid (by simp [brStep, hp]); clear hp h2 h4; go_enter Tryd.func27, Tryd.ntmps27; go_wp2_with (go_at_call 54; refine (longR_any f HF.out _).mono ?_; rintro e w1 ⟨rfl, os1, n1, rfl⟩; rw [HLL.out]); (refine bodyPost_ret (v := (brStep f).v) (by rw [HS.out]; simp [results, Tryd.results27, go_sem]) rfl ⟨rfl, (by repeat (first | with_reducible exact Ext.refl _ | with_reducible assumption | with_reducible refine Ext.alloc ?_ _ | with_reducible refine Ext.gr ?_ _ | with_reducible refine Ext.drewN ?_ _ | with_reducible refine Ext.drew ?_ | with_reducible refine Ext.setCell ?_ ?_ _ | with_reducible refine Ext.more ?_ _ _ | (show _ ≤ _; dsimp only; omega)))⟩))
  · have hp' : (f.pc == 21) = true := by simpa using hp
    (have HS : Hid (brStep f = ⟨4, 0, 0, 0, 0, 6, 0⟩) := Lib.hid (by simp [brStep, hp]); clear hp h2 h4; go_enter Tryd.func27, Tryd.ntmps27; go_wp2_with (go_at_call 54; refine (longR_any f HF.out _).mono ?_; rintro e w1 ⟨rfl, os1, n1, rfl⟩; rw [HLL.out]); (refine bodyPost_ret (v := (brStep f).v) (by rw [HS.out]; simp [results, Tryd.results27, go_sem]) rfl ⟨rfl, (by repeat (first | with_reducible exact Ext.refl _ | with_reducible assumption | with_reducible refine Ext.alloc ?_ _ | with_reducible refine Ext.gr ?_ _ | with_reducible refine Ext.drewN ?_ _ | with_reducible refine Ext.drew ?_ | with_reducible refine Ext.setCell ?_ ?_ _ | with_reducible refine Ext.more ?_ _ _ | (show _ ≤ _; dsimp only; omega)))⟩))
  · have hp' : (f.pc == 22) = true := by simpa using hp
    (have HS : Hid (brStep f = ⟨4, 0, 0, 0, 0, 9, 0⟩) := Lib.hid (by simp [brStep, hp]); clear hp h2 h4; go_enter Tryd.func27, Tryd.ntmps27; go_wp2_with (go_at_call 54; refine (longR_any f HF.out _).mono ?_; rintro e w1 ⟨rfl, os1, n1, rfl⟩; rw [HLL.out]); (refine bodyPost_ret (v := (brStep f).v) (by rw [HS.out]; simp [results, Tryd.results27, go_sem]) rfl ⟨rfl, (by repeat (first | with_reducible exact Ext.refl _ | with_reducible assumption | with_reducible refine Ext.alloc ?_ _ | with_reducible refine Ext.gr ?_ _ | with_reducible refine Ext.drewN ?_ _ | with_reducible refine Ext.drew ?_ | with_reducible refine Ext.setCell ?_ ?_ _ | with_reducible refine Ext.more ?_ _ _ | (show _ ≤ _; dsimp only; omega)))⟩))
  · have hp' : (f.pc == 23) = true := by simpa using hp
    (have HS : Hid (brStep f = ⟨4, 0, 0, 0, 0, 90, 0⟩) := Lib.hid (by simp [brStep, hp]); clear hp h2 h4; go_enter Tryd.func27, Tryd.ntmps27; go_wp2_with (go_at_call 54; refine (longR_any f HF.out _).mono ?_; rintro e w1 ⟨rfl, os1, n1, rfl⟩; rw [HLL.out]); (refine bodyPost_ret (v := (brStep f).v) (by rw [HS.out]; simp [results, Tryd.results27, go_sem]) rfl ⟨rfl, (by repeat (first | with_reducible exact Ext.refl _ | with_reducible assumption | with_reducible refine Ext.alloc ?_ _ | with_reducible refine Ext.gr ?_ _ | with_reducible refine Ext.drewN ?_ _ | with_reducible refine Ext.drew ?_ | with_reducible refine Ext.setCell ?_ ?_ _ | with_reducible refine Ext.more ?_ _ _ | (show _ ≤ _; dsimp only; omega)))⟩))
end Go.Proofs.YtmbodooikfmegaaDoor
