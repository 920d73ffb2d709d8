/- The walks of the reference of layer 'branch': names, and whether the table has a Pc. -/
import Derived.Test.YtmhmaifmendebaaGreatDoorA4
import Derived.Test.YtmhmaifmendebaaGreatDoorA1
import Derived.Test.YtmhmaifmendebaaGreatDoorA0
import Derived.Deep.Light
import Derived.Test.YtmhmaifmendebaaGreatDoorBA
namespace Go.Proofs.YtmhmaifmendebaaGreatDoor.branch
open Go Go.RowKit
set_option maxRecDepth 100000
set_option maxHeartbeats 8000000

theorem nameR_any (f : Frm) (hf : f.Fits) (n : Int) (hn : n = 0 ∨ n = 1 ∨ n = 2 ∨ n < 0 ∨ 2 < n) (w : World) : Calls Tryz.prog 63 #[f.v, .int .i64 n] w
    fun e w' => e = .returned (.int .u32 (brName f n)) ∧ Ext w w' := by
  have HO : Hid (Opn.mk 0 f.a f.b 0).Fits := Lib.hid ⟨by simp, hf.a, hf.b, by simp⟩
  clear hf
  rcases hn with rfl | rfl | rfl | hn | hn
  · go_enter Tryz.func63, Tryz.ntmps63
    go_wp2_with (go_at_call 112; refine (namesR_any ⟨0, f.a, f.b, 0⟩ HO.out _).mono ?_; rintro e w1 ⟨rfl, os1, n1, rfl⟩)
    go_ret
    exact ⟨by simp [brName], EX⟩
  · go_enter Tryz.func63, Tryz.ntmps63
    go_wp2_with (go_at_call 112; refine (namesR_any ⟨0, f.a, f.b, 0⟩ HO.out _).mono ?_; rintro e w1 ⟨rfl, os1, n1, rfl⟩)
    go_ret
    exact ⟨by simp [brName], EX⟩
  · go_enter Tryz.func63, Tryz.ntmps63
    go_wp2_with (go_at_call 112; refine (namesR_any ⟨0, f.a, f.b, 0⟩ HO.out _).mono ?_; rintro e w1 ⟨rfl, os1, n1, rfl⟩)
    go_ret
    exact ⟨by simp [brName], EX⟩
  · go_enter Tryz.func63, Tryz.ntmps63
    go_wp2_with (go_at_call 112; refine (namesR_any ⟨0, f.a, f.b, 0⟩ HO.out _).mono ?_; rintro e w1 ⟨rfl, os1, n1, rfl⟩)
    go_ret
    refine ⟨ret_int ?_, EX⟩
    unfold brName
    rw [if_neg (by simp; omega), if_neg (by simp; omega), if_neg (by simp; omega)]
  · go_enter Tryz.func63, Tryz.ntmps63
    go_wp2_with (go_at_call 112; refine (namesR_any ⟨0, f.a, f.b, 0⟩ HO.out _).mono ?_; rintro e w1 ⟨rfl, os1, n1, rfl⟩)
    go_ret
    refine ⟨ret_int ?_, EX⟩
    unfold brName
    rw [if_neg (by simp; omega), if_neg (by simp; omega), if_neg (by simp; omega)]

theorem thereR_any (k pc : Int) (hk : 0 ≤ k ∧ k ≤ 255) (hp : 0 ≤ pc ∧ pc ≤ 255) (w : World) : Calls Tryz.prog 61 #[.int .u8 k, .int .u8 pc] w
    fun e w' => e = .returned (.bool (pc == 0 || pc == 20 || (if k == 12 then pc == 2 || pc == 3 || pc == 4 || pc == 22 else if k == 13 then pc == 5 || pc == 6 || pc == 21 || pc == 23 else pc == 21))) ∧ w = w' := by
  obtain ⟨k0, k1⟩ := hk
  obtain ⟨p0, p1⟩ := hp
  go_enter Tryz.func61, Tryz.ntmps61
  go_wp2
  all_goals (go_ret; refine ⟨ret_bool ?_, rfl⟩)
  all_goals (go_light; simp_all)

theorem longR_any (f : Frm) (hf : f.Fits) (w : World) : Calls Tryz.prog 62 #[f.v] w
    fun e w' => e = .returned (.int .i64 (brLong f)) ∧ Ext w w' := by
  have HF := Lib.hid hf
  clear hf
  have n0 : Hid (brName f 0 = f.a % 65536) := rfl
  have n1 : Hid (brName f 1 = f.a / 65536) := rfl
  have n2 : Hid (brName f 2 = f.b) := rfl
  have HL : Hid (brLong f = if f.a % 65536 == 0 then 0 else if f.a / 65536 == 0 then 1 else if f.b == 0 then 2 else 3) := rfl
  cases z0 : (f.a % 65536 == 0)
  all_goals cases z1 : (f.a / 65536 == 0)
  all_goals cases z2 : (f.b == 0)
  all_goals
    have y0 : (brName f 0 != 0) = !(f.a % 65536 == 0) := by rw [n0.out]; rfl
    have y1 : (brName f 1 != 0) = !(f.a / 65536 == 0) := by rw [n1.out]; rfl
    have y2 : (brName f 2 != 0) = !(f.b == 0) := by rw [n2.out]; rfl
    rw [z0] at y0
    rw [z1] at y1
    rw [z2] at y2
    simp only [Bool.not_true, Bool.not_false] at y0 y1 y2
    go_enter Tryz.func62, Tryz.ntmps62
    go_wp2
    refine wp_loop_rounds 4 ?_
    repeat (rw [rounds_succ]; go_wp2_with (first | (go_at_call 63; (with_reducible refine (nameR_any f HF.out 0 (by omega) _).mono ?_); rintro e w1 ⟨rfl, os1, n1, rfl⟩) | (go_at_call 63; (with_reducible refine (nameR_any f HF.out 1 (by omega) _).mono ?_); rintro e w1 ⟨rfl, os1, n1, rfl⟩) | (go_at_call 63; (with_reducible refine (nameR_any f HF.out 2 (by omega) _).mono ?_); rintro e w1 ⟨rfl, os1, n1, rfl⟩)))
    go_ret
    exact ⟨by rw [HL.out, z0]; simp [z1, z2], EX⟩
end Go.Proofs.YtmhmaifmendebaaGreatDoor.branch
/- The walks of the reference of layer 'branch': the act of a frame. -/
namespace Go.Proofs.YtmhmaifmendebaaGreatDoor.branch
open Go Go.RowKit
set_option maxRecDepth 100000
set_option maxHeartbeats 8000000

theorem brName_bd {f : Frm} (hf : f.Fits) (n : Int) : 0 ≤ brName f n ∧ brName f n ≤ 4294967295 := by
  obtain ⟨_, ⟨a0, a1⟩, ⟨b0, b1⟩, _, _, _, _, _, _, _, _⟩ := hf
  unfold brName
  split
  · omega
  · split
    · omega
    · split <;> omega

theorem brStepR_2 (f : Frm) (hf : f.Fits) (hp : f.pc = 2) (h2 : f.h < brLong f) (w : World) : Calls Tryz.prog 37 #[f.v] w
    fun e w' => e = .returned (brStep f).v ∧ Ext w w' := by
  have HF := Lib.hid hf
  have hl3 := brLong_le f
  obtain ⟨n0, n1⟩ := brName_bd hf f.h
  obtain ⟨N, hN⟩ : ∃ N, brName f f.h = N := ⟨_, rfl⟩
  obtain ⟨L, hL⟩ : ∃ L, brLong f = L := ⟨_, rfl⟩
  rw [hN] at n0 n1
  rw [hL] at h2 hl3
  have HN := Lib.hid hN
  have HLL := Lib.hid hL
  obtain ⟨⟨k0, k1⟩, ⟨a0, a1⟩, ⟨b0, b1⟩, ⟨p0, p1⟩, ⟨i0, i1⟩, ⟨j0, j1⟩, ⟨m0, m1⟩, ⟨q0, q1⟩, ⟨h0, h1⟩, _, ⟨y0, y1⟩⟩ := hf
  have hp' : (f.pc == 2) = true := by simpa using hp
  have wj : IntKind.i64.wrap f.j = f.j := by rw [IntKind.wrap_i64]; omega
  have wh : IntKind.i64.wrap f.h = f.h := by rw [IntKind.wrap_i64]; omega
  have wp : IntKind.u64.wrap f.p = f.p := by rw [IntKind.wrap_u64]; omega
  have wp1 : IntKind.u64.wrap (f.p + 1) = f.p + 1 := by rw [IntKind.wrap_u64]; omega
  have wn : IntKind.u64.wrap N = N := by rw [IntKind.wrap_u64]; omega
  cases hz : (f.h + 1 == L)
  · have HS : Hid (brStep f = ⟨2, f.j, f.p + 1, N, 0, 0, 0⟩) := Lib.hid (by simp only [brStep, hp, hN, hL, hz]; rfl)
    clear hp hN hL
    go_enter Tryz.func37, Tryz.ntmps37
    go_upto_region 8 with (go_at_call 62; refine (longR_any f HF.out _).mono ?_; rintro e w1 ⟨rfl, os1, n1, rfl⟩; rw [HLL.out])
    (refine wp_gen (fun W => Ext ((w.alloc (.cells #[.int .u8 f.kind, .int .u32 f.a, .int .u32 f.b, .int .u8 f.pc, .int .u8 f.i, .int .u8 f.j, .int .u8 f.n, .int .u8 f.p, .int .u8 f.h, .int .u32 f.x, .int .u32 f.y] 27)).alloc (.cells #[.int .u8 0, .int .i64 0, .int .u64 0, .int .u64 0, .int .u64 0, .int .i64 0, .int .u32 0] 30)) W ∧ Holds W [(w.heap.size, 0, .int .u8 f.kind), (w.heap.size, 1, .int .u32 f.a), (w.heap.size, 2, .int .u32 f.b), (w.heap.size, 3, .int .u8 f.pc), (w.heap.size, 4, .int .u8 f.i), (w.heap.size, 5, .int .u8 f.j), (w.heap.size, 6, .int .u8 f.n), (w.heap.size, 7, .int .u8 f.p), (w.heap.size, 8, .int .u8 f.h), (w.heap.size, 9, .int .u32 f.x), (w.heap.size, 10, .int .u32 f.y)]) ⟨EX, by simp [Holds, go_sem]⟩ ?_; intro W HH; have HX := Lib.hid HH.1; have HK := Lib.hid HH.2; have hWb : w.heap.size + 1 < W.heap.size := (by have := HH.1.size; simp [go_sem] at this; omega); clear HH)
    (go_region_held3 (fun W => W.cell? ⟨w.heap.size, 0, none⟩ = some (.int .u8 f.kind) ∧ W.cell? ⟨w.heap.size, 1, none⟩ = some (.int .u32 f.a) ∧ W.cell? ⟨w.heap.size, 2, none⟩ = some (.int .u32 f.b) ∧ W.cell? ⟨w.heap.size, 3, none⟩ = some (.int .u8 f.pc) ∧ W.cell? ⟨w.heap.size, 4, none⟩ = some (.int .u8 f.i) ∧ W.cell? ⟨w.heap.size, 5, none⟩ = some (.int .u8 f.j) ∧ W.cell? ⟨w.heap.size, 6, none⟩ = some (.int .u8 f.n) ∧ W.cell? ⟨w.heap.size, 7, none⟩ = some (.int .u8 f.p) ∧ W.cell? ⟨w.heap.size, 8, none⟩ = some (.int .u8 f.h) ∧ W.cell? ⟨w.heap.size, 9, none⟩ = some (.int .u32 f.x) ∧ W.cell? ⟨w.heap.size, 10, none⟩ = some (.int .u32 f.y)) (exact HK.out.ext EX) (first | (go_at_call 63; (with_reducible refine (nameR_any f HF.out f.h (by omega) _).mono ?_); rintro e w2 ⟨rfl, os2, n2, rfl⟩; rw [HN.out])))
    all_goals
      have hX := HX.out
      clear HX HK wj wh wp wp1 wn
      obtain ⟨os', d', rfl⟩ := hX
      go_wp2
      (refine bodyPost_ret (v := (brStep f).v) (by rw [HS.out]; simp [results, Tryz.results37, go_sem]) rfl ⟨rfl, EX⟩)
  · have HS : Hid (brStep f = ⟨2, f.j, f.p + 1, N, f.y + 1, 0, 0⟩) := Lib.hid (by simp only [brStep, hp, hN, hL, hz]; rfl)
    clear hp hN hL
    go_enter Tryz.func37, Tryz.ntmps37
    go_upto_region 8 with (go_at_call 62; refine (longR_any f HF.out _).mono ?_; rintro e w1 ⟨rfl, os1, n1, rfl⟩; rw [HLL.out])
    (refine wp_gen (fun W => Ext ((w.alloc (.cells #[.int .u8 f.kind, .int .u32 f.a, .int .u32 f.b, .int .u8 f.pc, .int .u8 f.i, .int .u8 f.j, .int .u8 f.n, .int .u8 f.p, .int .u8 f.h, .int .u32 f.x, .int .u32 f.y] 27)).alloc (.cells #[.int .u8 0, .int .i64 0, .int .u64 0, .int .u64 0, .int .u64 0, .int .i64 0, .int .u32 0] 30)) W ∧ Holds W [(w.heap.size, 0, .int .u8 f.kind), (w.heap.size, 1, .int .u32 f.a), (w.heap.size, 2, .int .u32 f.b), (w.heap.size, 3, .int .u8 f.pc), (w.heap.size, 4, .int .u8 f.i), (w.heap.size, 5, .int .u8 f.j), (w.heap.size, 6, .int .u8 f.n), (w.heap.size, 7, .int .u8 f.p), (w.heap.size, 8, .int .u8 f.h), (w.heap.size, 9, .int .u32 f.x), (w.heap.size, 10, .int .u32 f.y)]) ⟨EX, by simp [Holds, go_sem]⟩ ?_; intro W HH; have HX := Lib.hid HH.1; have HK := Lib.hid HH.2; have hWb : w.heap.size + 1 < W.heap.size := (by have := HH.1.size; simp [go_sem] at this; omega); clear HH)
    (go_region_held3 (fun W => W.cell? ⟨w.heap.size, 0, none⟩ = some (.int .u8 f.kind) ∧ W.cell? ⟨w.heap.size, 1, none⟩ = some (.int .u32 f.a) ∧ W.cell? ⟨w.heap.size, 2, none⟩ = some (.int .u32 f.b) ∧ W.cell? ⟨w.heap.size, 3, none⟩ = some (.int .u8 f.pc) ∧ W.cell? ⟨w.heap.size, 4, none⟩ = some (.int .u8 f.i) ∧ W.cell? ⟨w.heap.size, 5, none⟩ = some (.int .u8 f.j) ∧ W.cell? ⟨w.heap.size, 6, none⟩ = some (.int .u8 f.n) ∧ W.cell? ⟨w.heap.size, 7, none⟩ = some (.int .u8 f.p) ∧ W.cell? ⟨w.heap.size, 8, none⟩ = some (.int .u8 f.h) ∧ W.cell? ⟨w.heap.size, 9, none⟩ = some (.int .u32 f.x) ∧ W.cell? ⟨w.heap.size, 10, none⟩ = some (.int .u32 f.y)) (exact HK.out.ext EX) (first | (go_at_call 63; (with_reducible refine (nameR_any f HF.out f.h (by omega) _).mono ?_); rintro e w2 ⟨rfl, os2, n2, rfl⟩; rw [HN.out])))
    all_goals
      have hX := HX.out
      clear HX HK wj wh wp wp1 wn
      obtain ⟨os', d', rfl⟩ := hX
      go_wp2
      (refine bodyPost_ret (v := (brStep f).v) (by rw [HS.out]; simp [results, Tryz.results37, go_sem]) rfl ⟨rfl, EX⟩)

theorem brStepR_4 (f : Frm) (hf : f.Fits) (hp : f.pc = 4) (h4 : 1 ≤ brLong f) (w : World) : Calls Tryz.prog 37 #[f.v] w
    fun e w' => e = .returned (brStep f).v ∧ Ext w w' := by
  have HF := Lib.hid hf
  have hl3 := brLong_le f
  obtain ⟨n0, n1⟩ := brName_bd hf (brLong f - 1)
  obtain ⟨N, hN⟩ : ∃ N, brName f (brLong f - 1) = N := ⟨_, rfl⟩
  rw [hN] at n0 n1
  have HS : Hid (brStep f = ⟨2, f.p - 1, f.j + 1, N, f.y + 1, 0, 0⟩) := Lib.hid (by simp only [brStep, hp, hN]; rfl)
  obtain ⟨L, hL⟩ : ∃ L, brLong f = L := ⟨_, rfl⟩
  rw [hL] at h4 hl3 hN
  have HN := Lib.hid hN
  have HLL := Lib.hid hL
  obtain ⟨⟨k0, k1⟩, ⟨a0, a1⟩, ⟨b0, b1⟩, ⟨p0, p1⟩, ⟨i0, i1⟩, ⟨j0, j1⟩, ⟨m0, m1⟩, ⟨q0, q1⟩, ⟨h0, h1⟩, _, ⟨y0, y1⟩⟩ := hf
  have hp' : (f.pc == 4) = true := by simpa using hp
  have hwr : IntKind.i64.wrap (L - 1) = L - 1 := by rw [IntKind.wrap_i64]; omega
  have wq : IntKind.i64.wrap f.p = f.p := by rw [IntKind.wrap_i64]; omega
  have wq1 : IntKind.i64.wrap (f.p - 1) = f.p - 1 := by rw [IntKind.wrap_i64]; omega
  have wj : IntKind.u64.wrap f.j = f.j := by rw [IntKind.wrap_u64]; omega
  have wj1 : IntKind.u64.wrap (f.j + 1) = f.j + 1 := by rw [IntKind.wrap_u64]; omega
  have wy : IntKind.u64.wrap f.y = f.y := by rw [IntKind.wrap_u64]; omega
  have wy1 : IntKind.u64.wrap (f.y + 1) = f.y + 1 := by rw [IntKind.wrap_u64]; omega
  have wn : IntKind.u64.wrap N = N := by rw [IntKind.wrap_u64]; omega
  clear hp hN hL
  go_enter Tryz.func37, Tryz.ntmps37
  go_upto_region 13 with (go_at_call 62; refine (longR_any f HF.out _).mono ?_; rintro e w1 ⟨rfl, os1, n1, rfl⟩; rw [HLL.out])
  have HK : Hid (Holds (w.alloc (.cells #[.int .u8 f.kind, .int .u32 f.a, .int .u32 f.b, .int .u8 f.pc, .int .u8 f.i, .int .u8 f.j, .int .u8 f.n, .int .u8 f.p, .int .u8 f.h, .int .u32 f.x, .int .u32 f.y] 27)) [(w.heap.size, 0, .int .u8 f.kind), (w.heap.size, 1, .int .u32 f.a), (w.heap.size, 2, .int .u32 f.b), (w.heap.size, 3, .int .u8 f.pc), (w.heap.size, 4, .int .u8 f.i), (w.heap.size, 5, .int .u8 f.j), (w.heap.size, 6, .int .u8 f.n), (w.heap.size, 7, .int .u8 f.p), (w.heap.size, 8, .int .u8 f.h), (w.heap.size, 9, .int .u32 f.x), (w.heap.size, 10, .int .u32 f.y)]) := Lib.hid (by simp [Holds, go_sem])
  (go_region_held3 (fun W => W.cell? ⟨w.heap.size, 0, none⟩ = some (.int .u8 f.kind) ∧ W.cell? ⟨w.heap.size, 1, none⟩ = some (.int .u32 f.a) ∧ W.cell? ⟨w.heap.size, 2, none⟩ = some (.int .u32 f.b) ∧ W.cell? ⟨w.heap.size, 3, none⟩ = some (.int .u8 f.pc) ∧ W.cell? ⟨w.heap.size, 4, none⟩ = some (.int .u8 f.i) ∧ W.cell? ⟨w.heap.size, 5, none⟩ = some (.int .u8 f.j) ∧ W.cell? ⟨w.heap.size, 6, none⟩ = some (.int .u8 f.n) ∧ W.cell? ⟨w.heap.size, 7, none⟩ = some (.int .u8 f.p) ∧ W.cell? ⟨w.heap.size, 8, none⟩ = some (.int .u8 f.h) ∧ W.cell? ⟨w.heap.size, 9, none⟩ = some (.int .u32 f.x) ∧ W.cell? ⟨w.heap.size, 10, none⟩ = some (.int .u32 f.y)) (exact HK.out.ext EX) (first | (go_at_call 63; (with_reducible refine (nameR_any f HF.out (L - 1) (by omega) _).mono ?_); rintro e w2 ⟨rfl, os2, n2, rfl⟩; rw [HN.out])))
  all_goals
    clear HK hwr wq wq1 wj wj1 wy wy1 wn
    go_wp2
    (refine bodyPost_ret (v := (brStep f).v) (by rw [HS.out]; simp [results, Tryz.results37, go_sem]) rfl ⟨rfl, EX⟩)

theorem brStepR_any (f : Frm) (hf : f.Fits) (hpc : f.pc = 0 ∨ f.pc = 3 ∨ f.pc = 5 ∨ f.pc = 6 ∨ f.pc = 2 ∨ f.pc = 4 ∨ f.pc = 20 ∨ f.pc = 21 ∨ f.pc = 22 ∨ f.pc = 23) (h2 : f.pc = 2 → f.h < brLong f) (h4 : f.pc = 4 → 1 ≤ brLong f) (w : World) : Calls Tryz.prog 37 #[f.v] w
    fun e w' => e = .returned (brStep f).v ∧ Ext w w' := by
  have HF := Lib.hid hf
  obtain ⟨L, hL⟩ : ∃ L, brLong f = L := ⟨_, rfl⟩
  have HLL := Lib.hid hL
  clear hL
  obtain ⟨⟨k0, k1⟩, ⟨a0, a1⟩, ⟨b0, b1⟩, ⟨p0, p1⟩, ⟨i0, i1⟩, ⟨j0, j1⟩, ⟨m0, m1⟩, ⟨q0, q1⟩, ⟨h0, h1⟩, _, ⟨y0, y1⟩⟩ := hf
  rcases hpc with hp | hp | hp | hp | hp | hp | hp | hp | hp | hp
  · have hp' : (f.pc == 0) = true := by simpa using hp
    (have HS : Hid (brStep f = ⟨1, f.i, 0, 0, 0, 0, 0⟩) := Lib.hid (by simp [brStep, hp]); clear hp h2 h4; go_enter Tryz.func37, Tryz.ntmps37; go_wp2_with (go_at_call 62; refine (longR_any f HF.out _).mono ?_; rintro e w1 ⟨rfl, os1, n1, rfl⟩; rw [HLL.out]); (refine bodyPost_ret (v := (brStep f).v) (by rw [HS.out]; simp [results, Tryz.results37, go_sem]) rfl ⟨rfl, EX⟩))
  · have hp' : (f.pc == 3) = true := by simpa using hp
    (have HS : Hid (brStep f = ⟨1, f.i, 0, 0, 0, 0, 0⟩) := Lib.hid (by simp [brStep, hp]); clear hp h2 h4; go_enter Tryz.func37, Tryz.ntmps37; go_wp2_with (go_at_call 62; refine (longR_any f HF.out _).mono ?_; rintro e w1 ⟨rfl, os1, n1, rfl⟩; rw [HLL.out]); (refine bodyPost_ret (v := (brStep f).v) (by rw [HS.out]; simp [results, Tryz.results37, go_sem]) rfl ⟨rfl, EX⟩))
  · have hp' : (f.pc == 5) = true := by simpa using hp
    (have HS : Hid (brStep f = ⟨1, f.i, 0, 0, 0, 0, 0⟩) := Lib.hid (by simp [brStep, hp]); clear hp h2 h4; go_enter Tryz.func37, Tryz.ntmps37; go_wp2_with (go_at_call 62; refine (longR_any f HF.out _).mono ?_; rintro e w1 ⟨rfl, os1, n1, rfl⟩; rw [HLL.out]); (refine bodyPost_ret (v := (brStep f).v) (by rw [HS.out]; simp [results, Tryz.results37, go_sem]) rfl ⟨rfl, EX⟩))
  · have hp' : (f.pc == 6) = true := by simpa using hp
    (have HS : Hid (brStep f = ⟨2, f.p - 1, 0, 0, 0, 0, 0⟩) := Lib.hid (by simp [brStep, hp]); clear hp h2 h4; go_enter Tryz.func37, Tryz.ntmps37; go_wp2_with (go_at_call 62; refine (longR_any f HF.out _).mono ?_; rintro e w1 ⟨rfl, os1, n1, rfl⟩; rw [HLL.out]); (refine bodyPost_ret (v := (brStep f).v) (by rw [HS.out]; simp [results, Tryz.results37, go_sem]) rfl ⟨rfl, EX⟩))
  · exact brStepR_2 f HF.out hp (h2 hp) w
  · exact brStepR_4 f HF.out hp (h4 hp) w
  · have hp' : (f.pc == 20) = true := by simpa using hp
    (have HS : Hid (brStep f = ⟨4, 0, 0, 0, 0, 0, f.x⟩) := Lib.hid (by simp [brStep, hp]); clear hp h2 h4; go_enter Tryz.func37, Tryz.ntmps37; go_wp2_with (go_at_call 62; refine (longR_any f HF.out _).mono ?_; rintro e w1 ⟨rfl, os1, n1, rfl⟩; rw [HLL.out]); (refine bodyPost_ret (v := (brStep f).v) (by rw [HS.out]; simp [results, Tryz.results37, go_sem]) rfl ⟨rfl, EX⟩))
  · have hp' : (f.pc == 21) = true := by simpa using hp
    (have HS : Hid (brStep f = ⟨4, 0, 0, 0, 0, 6, 0⟩) := Lib.hid (by simp [brStep, hp]); clear hp h2 h4; go_enter Tryz.func37, Tryz.ntmps37; go_wp2_with (go_at_call 62; refine (longR_any f HF.out _).mono ?_; rintro e w1 ⟨rfl, os1, n1, rfl⟩; rw [HLL.out]); (refine bodyPost_ret (v := (brStep f).v) (by rw [HS.out]; simp [results, Tryz.results37, go_sem]) rfl ⟨rfl, EX⟩))
  · have hp' : (f.pc == 22) = true := by simpa using hp
    (have HS : Hid (brStep f = ⟨4, 0, 0, 0, 0, 9, 0⟩) := Lib.hid (by simp [brStep, hp]); clear hp h2 h4; go_enter Tryz.func37, Tryz.ntmps37; go_wp2_with (go_at_call 62; refine (longR_any f HF.out _).mono ?_; rintro e w1 ⟨rfl, os1, n1, rfl⟩; rw [HLL.out]); (refine bodyPost_ret (v := (brStep f).v) (by rw [HS.out]; simp [results, Tryz.results37, go_sem]) rfl ⟨rfl, EX⟩))
  · have hp' : (f.pc == 23) = true := by simpa using hp
    (have HS : Hid (brStep f = ⟨4, 0, 0, 0, 0, 90, 0⟩) := Lib.hid (by simp [brStep, hp]); clear hp h2 h4; go_enter Tryz.func37, Tryz.ntmps37; go_wp2_with (go_at_call 62; refine (longR_any f HF.out _).mono ?_; rintro e w1 ⟨rfl, os1, n1, rfl⟩; rw [HLL.out]); (refine bodyPost_ret (v := (brStep f).v) (by rw [HS.out]; simp [results, Tryz.results37, go_sem]) rfl ⟨rfl, EX⟩))
end Go.Proofs.YtmhmaifmendebaaGreatDoor.branch
/- The walks of the reference of layer 'branch': whether a frame may be. -/
namespace Go.Proofs.YtmhmaifmendebaaGreatDoor.branch
open Go Go.RowKit
set_option maxRecDepth 100000
set_option maxHeartbeats 8000000

theorem brStep_at {f : Frm} (hpc : f.pc = 0 ∨ f.pc = 3 ∨ f.pc = 5 ∨ f.pc = 6 ∨ f.pc = 2 ∨ f.pc = 4 ∨ f.pc = 20 ∨ f.pc = 21 ∨ f.pc = 22 ∨ f.pc = 23) : (brStep f).at' = brAt f := by
  rcases hpc with hp | hp | hp | hp | hp | hp | hp | hp | hp | hp <;> simp [brStep, brAt, hp]
theorem there_has (f : Frm) : (f.pc == 0 || f.pc == 20 || (if f.kind == 12 then f.pc == 2 || f.pc == 3 || f.pc == 4 || f.pc == 22 else if f.kind == 13 then f.pc == 5 || f.pc == 6 || f.pc == 21 || f.pc == 23 else f.pc == 21)) = brHas f := by
  unfold brHas
  rw [Bool.eq_iff_iff]
  by_cases h12 : f.kind = 12
  · simp [h12]
    (try omega)
  · by_cases h13 : f.kind = 13 <;> simp [h12, h13] <;> omega

theorem brMayR_any (c : Cfg) (f : Frm) (hf : f.Fits) (hobj : c.object = 4) (w : World) : Calls Tryz.prog 36 #[c.v, f.v] w
    fun e w' => e = .returned (.bool (brMay c f)) ∧ Ext w w' := by
  have HF := Lib.hid hf
  have ho := brOp_fits hf
  have hl3 := brLong_le f
  obtain ⟨L, hL⟩ : ∃ L, brLong f = L := ⟨_, rfl⟩
  obtain ⟨E, hE⟩ : ∃ E, opErr c (brOp f) = E := ⟨_, rfl⟩
  obtain ⟨B, hB⟩ : ∃ B, brHas f = B := ⟨_, rfl⟩
  obtain ⟨T, hT⟩ : ∃ T, brAt f = T := ⟨_, rfl⟩
  obtain ⟨A, hA⟩ : ∃ A, brStep f = A := ⟨_, rfl⟩
  have HM : Hid (brMay c f = (E == 0 && B && decide (f.i ≤ c.cap) && decide (f.j ≤ c.cap) && decide (f.n ≤ c.cap) && decide (f.p ≤ c.cap) && decide (f.h ≤ L) &&
    !((f.pc == 0 || f.pc == 2) && f.h == L) && !(f.pc == 0 && decide (f.i < f.n)) && decide (0 ≤ T) && decide (T < c.cap))) := Lib.hid (by rw [← hE, ← hB, ← hL, ← hT]; rfl)
  have HTH : Hid (_ = B) := Lib.hid ((there_has f).trans hB)
  have H4 : Hid (opErr c (brOp f) = 0 → 1 ≤ brLong f) := Lib.hid fun h => (brMany_pos hobj h).2
  have HPC : Hid (brHas f = true → _) := Lib.hid (brHas_pc (f := f))
  rw [hL] at hl3
  have HS := Lib.hid hA
  have HLL := Lib.hid hL
  have HE := Lib.hid hE
  have HB := Lib.hid hB
  have HT := Lib.hid hT
  have HKK := Lib.hid hf.kind
  have HPP := Lib.hid hf.pc
  obtain ⟨⟨k0, k1⟩, ⟨a0, a1⟩, ⟨b0, b1⟩, ⟨p0, p1⟩, ⟨i0, i1⟩, ⟨j0, j1⟩, ⟨m0, m1⟩, ⟨q0, q1⟩, ⟨h0, h1⟩, _, ⟨y0, y1⟩⟩ := hf
  clear hL hE hB hT hA hobj
  cases hk : (f.kind == 12)
  · have hop : brOp f = ⟨f.kind, f.a, f.b, 0⟩ := by unfold brOp; rw [hk]; rfl
    rw [hop] at ho HE
    have H4 : Hid (E = 0 → 1 ≤ brLong f) := Lib.hid (by rw [← HE.out, ← hop]; exact H4.out)
    have HO := Lib.hid ho
    clear ho hop
    cases e0 : (E == 0)
    · have e1 : (E != 0) = true := by simpa using e0
      have e2 : E ≠ 0 := by simpa using e0
      go_enter Tryz.func36, Tryz.ntmps36
      go_wp2_with (first | (go_at_call 52; refine (opCheckR_any c ⟨f.kind, f.a, f.b, 0⟩ HO.out _).mono ?_; rintro e w1 ⟨rfl, os1, n1, rfl⟩; rw [HE.out]) | (go_at_call 61; refine (thereR_any f.kind f.pc HKK.out HPP.out _).mono ?_; rintro e w2 ⟨rfl, rfl⟩; rw [HTH.out]))
      go_ret
      refine ⟨ret_bool ?_, EX⟩
      rw [HM.out, e0]
      rfl
    · obtain rfl : E = 0 := by simpa using e0
      cases B
      · go_enter Tryz.func36, Tryz.ntmps36
        go_wp2_with (first | (go_at_call 52; refine (opCheckR_any c ⟨f.kind, f.a, f.b, 0⟩ HO.out _).mono ?_; rintro e w1 ⟨rfl, os1, n1, rfl⟩; rw [HE.out]) | (go_at_call 61; refine (thereR_any f.kind f.pc HKK.out HPP.out _).mono ?_; rintro e w2 ⟨rfl, rfl⟩; rw [HTH.out]))
        go_ret
        refine ⟨ret_bool ?_, EX⟩
        rw [HM.out]
        rfl
      · have HPC := Lib.hid (HPC.out HB.out)
        have HAT : Hid (A.at' = T) := Lib.hid (by rw [← HS.out, ← HT.out]; exact brStep_at HPC.out)
        have HL1 : Hid (1 ≤ brLong f) := Lib.hid (H4.out rfl)
        clear HB HT H4
        go_enter Tryz.func36, Tryz.ntmps36
        go_upto_region 6 with (first | (go_at_call 52; refine (opCheckR_any c ⟨f.kind, f.a, f.b, 0⟩ HO.out _).mono ?_; rintro e w1 ⟨rfl, os1, n1, rfl⟩; rw [HE.out]) | (go_at_call 61; refine (thereR_any f.kind f.pc HKK.out HPP.out _).mono ?_; rintro e w2 ⟨rfl, rfl⟩; rw [HTH.out]))
        (refine wp_gen (fun W => Ext w W ∧ w.heap.size + 1 < W.heap.size ∧ Holds W ([(w.heap.size, 0, .int .u8 c.object), (w.heap.size, 1, .int .i64 c.instances), (w.heap.size, 2, .int .i64 c.threads), (w.heap.size, 3, .int .u8 c.kind), (w.heap.size, 4, .int .i64 c.stripes), (w.heap.size, 5, .int .i64 c.bits), (w.heap.size, 6, .int .i64 c.cap), (w.heap.size, 7, .int .i64 c.node), (w.heap.size, 8, .int .i64 c.batch), (w.heap.size, 9, .int .i64 c.chunk), (w.heap.size, 10, .int .u64 c.limit), (w.heap.size, 11, .int .u64 c.most)] ++ [(w.heap.size + 1, 0, .int .u8 f.kind), (w.heap.size + 1, 1, .int .u32 f.a), (w.heap.size + 1, 2, .int .u32 f.b), (w.heap.size + 1, 3, .int .u8 f.pc), (w.heap.size + 1, 4, .int .u8 f.i), (w.heap.size + 1, 5, .int .u8 f.j), (w.heap.size + 1, 6, .int .u8 f.n), (w.heap.size + 1, 7, .int .u8 f.p), (w.heap.size + 1, 8, .int .u8 f.h), (w.heap.size + 1, 9, .int .u32 f.x), (w.heap.size + 1, 10, .int .u32 f.y)])) ⟨EX, (by first | omega | (simp [go_sem]; done) | (simp [go_sem]; omega)), by simp [Holds, go_sem]⟩ ?_; intro W HH; have HW := Lib.hid HH.1; have hA1 := HH.2.1; have hA0 : w.heap.size < W.heap.size := (by omega); have hKW := HH.2.2; simp only [Holds, List.cons_append, List.nil_append] at hKW; have HKW := Lib.hid hKW; clear HH)
        cases g1 : decide (c.cap < f.i)
        · cases g2 : decide (c.cap < f.j)
          · cases g3 : decide (c.cap < f.n)
            · cases g4 : decide (c.cap < f.p)
              · cases g5 : decide (L < f.h)
                · ((refine wp_region_ext_lit (by kernel_rfl) (by kernel_rfl) ?_); (repeat (go_big_quiet_step ((go_at_call 62; exact quiet_ext ((longR_any f HF.out _).mono fun e w' ⟨he, hx⟩ => ⟨by rw [he, HLL.out], hx⟩))))); (refine wpQuiet_nil ?_; intro _ hw'; obtain ⟨⟨osq, nq⟩, hw''⟩ := hw'; replace hw'' : _ = grew _ osq nq := hw''; subst hw''))
                  have hi : f.i ≤ c.cap := by simpa using g1
                  have hj : f.j ≤ c.cap := by simpa using g2
                  have hn : f.n ≤ c.cap := by simpa using g3
                  have hq : f.p ≤ c.cap := by simpa using g4
                  have hh : f.h ≤ L := by simpa using g5
                  clear g1 g2 g3 g4 g5
                  go_upto_region 8 with fail
                  refine wp_gen (fun V => Ext W V) EX ?_
                  intro V HV
                  have HW := Lib.hid (HW.out.trans HV)
                  have hA1 : w.heap.size + 1 < V.heap.size := Nat.lt_of_lt_of_le hA1 HV.size
                  have hA0 : w.heap.size < V.heap.size := by omega
                  have hKW : Holds V ([(w.heap.size, 0, .int .u8 c.object), (w.heap.size, 1, .int .i64 c.instances), (w.heap.size, 2, .int .i64 c.threads), (w.heap.size, 3, .int .u8 c.kind), (w.heap.size, 4, .int .i64 c.stripes), (w.heap.size, 5, .int .i64 c.bits), (w.heap.size, 6, .int .i64 c.cap), (w.heap.size, 7, .int .i64 c.node), (w.heap.size, 8, .int .i64 c.batch), (w.heap.size, 9, .int .i64 c.chunk), (w.heap.size, 10, .int .u64 c.limit), (w.heap.size, 11, .int .u64 c.most)] ++ [(w.heap.size + 1, 0, .int .u8 f.kind), (w.heap.size + 1, 1, .int .u32 f.a), (w.heap.size + 1, 2, .int .u32 f.b), (w.heap.size + 1, 3, .int .u8 f.pc), (w.heap.size + 1, 4, .int .u8 f.i), (w.heap.size + 1, 5, .int .u8 f.j), (w.heap.size + 1, 6, .int .u8 f.n), (w.heap.size + 1, 7, .int .u8 f.p), (w.heap.size + 1, 8, .int .u8 f.h), (w.heap.size + 1, 9, .int .u32 f.x), (w.heap.size + 1, 10, .int .u32 f.y)]) := Holds.ext (by simp only [Holds, List.cons_append, List.nil_append]; exact HKW.out) HV
                  simp only [Holds, List.cons_append, List.nil_append] at hKW
                  clear HV HKW
                  have HKW := Lib.hid hKW
                  cases zh : decide (L ≤ f.h)
                  · have zh' : f.h < L := by simpa using zh
                    have H2 : Hid (f.pc = 2 → f.h < brLong f) := Lib.hid fun _ => by rw [HLL.out]; exact zh'
                    cases z0 : (f.pc == 0)
                    · have z0' : ¬ f.pc = 0 := by simpa using z0
                      cases z2 : (f.pc == 2)
                      · ((refine wp_region_ext_lit (by kernel_rfl) (by kernel_rfl) ?_); (repeat (go_big_quiet_step ((go_at_call 62; exact quiet_ext ((longR_any f HF.out _).mono fun e w' ⟨he, hx⟩ => ⟨by rw [he, HLL.out], hx⟩))))); (refine wpQuiet_nil ?_; intro _ hw'; obtain ⟨⟨osq, nq⟩, hw''⟩ := hw'; replace hw'' : _ = grew _ osq nq := hw''; subst hw''))
                        (go_wp2_with (go_at_call 37; refine (brStepR_any f HF.out HPC.out H2.out (fun _ => HL1.out) _).mono ?_; rintro e w3 ⟨rfl, os3, n3, rfl⟩; rw [HS.out]; have hbz : w.heap.size < V.heap.size + cnt (both osq os3) := (by omega));  all_goals ((go_ret; refine ⟨ret_bool ?_, HW.out.trans EX⟩; rw [HM.out]); rw [Bool.eq_iff_iff]; have hat := HAT.out; (try have z0' := Z0.out); (try have z2' := Z2.out); clear HM HW HKW HAT; simp; omega))
                      · ((refine wp_region_ext_lit (by kernel_rfl) (by kernel_rfl) ?_); (repeat (go_big_quiet_step ((go_at_call 62; exact quiet_ext ((longR_any f HF.out _).mono fun e w' ⟨he, hx⟩ => ⟨by rw [he, HLL.out], hx⟩))))); (refine wpQuiet_nil ?_; intro _ hw'; obtain ⟨⟨osq, nq⟩, hw''⟩ := hw'; replace hw'' : _ = grew _ osq nq := hw''; subst hw''))
                        (go_wp2_with (go_at_call 37; refine (brStepR_any f HF.out HPC.out H2.out (fun _ => HL1.out) _).mono ?_; rintro e w3 ⟨rfl, os3, n3, rfl⟩; rw [HS.out]; have hbz : w.heap.size < V.heap.size + cnt (both osq os3) := (by omega));  all_goals ((go_ret; refine ⟨ret_bool ?_, HW.out.trans EX⟩; rw [HM.out]); rw [Bool.eq_iff_iff]; have hat := HAT.out; (try have z0' := Z0.out); (try have z2' := Z2.out); clear HM HW HKW HAT; simp; omega))
                    · have Z0 : Hid (f.pc = 0) := Lib.hid (by simpa using z0)
                      cases zn : decide (f.i < f.n)
                      · have zn' : ¬ f.i < f.n := by simpa using zn
                        ((refine wp_region_ext_lit (by kernel_rfl) (by kernel_rfl) ?_); (repeat (go_big_quiet_step ((go_at_call 62; exact quiet_ext ((longR_any f HF.out _).mono fun e w' ⟨he, hx⟩ => ⟨by rw [he, HLL.out], hx⟩))))); (refine wpQuiet_nil ?_; intro _ hw'; obtain ⟨⟨osq, nq⟩, hw''⟩ := hw'; replace hw'' : _ = grew _ osq nq := hw''; subst hw''))
                        (go_wp2_with (go_at_call 37; refine (brStepR_any f HF.out HPC.out H2.out (fun _ => HL1.out) _).mono ?_; rintro e w3 ⟨rfl, os3, n3, rfl⟩; rw [HS.out]; have hbz : w.heap.size < V.heap.size + cnt (both osq os3) := (by omega));  all_goals ((go_ret; refine ⟨ret_bool ?_, HW.out.trans EX⟩; rw [HM.out]); rw [Bool.eq_iff_iff]; have hat := HAT.out; (try have z0' := Z0.out); (try have z2' := Z2.out); clear HM HW HKW HAT; simp; omega))
                      · have zn' : f.i < f.n := by simpa using zn
                        ((refine wp_region_ext_lit (by kernel_rfl) (by kernel_rfl) ?_); (repeat (go_big_quiet_step ((go_at_call 62; exact quiet_ext ((longR_any f HF.out _).mono fun e w' ⟨he, hx⟩ => ⟨by rw [he, HLL.out], hx⟩))))); (refine wpQuiet_nil ?_; intro _ hw'; obtain ⟨⟨osq, nq⟩, hw''⟩ := hw'; replace hw'' : _ = grew _ osq nq := hw''; subst hw''))
                        (go_wp2; (go_ret; refine ⟨ret_bool ?_, HW.out.trans EX⟩; rw [HM.out]); (try have z0' := Z0.out); (try have z2' := Z2.out); clear HM HW HKW; simp; omega)
                  · have zh' : L ≤ f.h := by simpa using zh
                    cases z0 : (f.pc == 0)
                    · have z0' : ¬ f.pc = 0 := by simpa using z0
                      cases z2 : (f.pc == 2)
                      · have z2' : ¬ f.pc = 2 := by simpa using z2
                        have H2 : Hid (f.pc = 2 → f.h < brLong f) := Lib.hid fun h => by rw [h] at z2; cases z2
                        ((refine wp_region_ext_lit (by kernel_rfl) (by kernel_rfl) ?_); (repeat (go_big_quiet_step ((go_at_call 62; exact quiet_ext ((longR_any f HF.out _).mono fun e w' ⟨he, hx⟩ => ⟨by rw [he, HLL.out], hx⟩))))); (refine wpQuiet_nil ?_; intro _ hw'; obtain ⟨⟨osq, nq⟩, hw''⟩ := hw'; replace hw'' : _ = grew _ osq nq := hw''; subst hw''))
                        (go_wp2_with (go_at_call 37; refine (brStepR_any f HF.out HPC.out H2.out (fun _ => HL1.out) _).mono ?_; rintro e w3 ⟨rfl, os3, n3, rfl⟩; rw [HS.out]; have hbz : w.heap.size < V.heap.size + cnt (both osq os3) := (by omega));  all_goals ((go_ret; refine ⟨ret_bool ?_, HW.out.trans EX⟩; rw [HM.out]); rw [Bool.eq_iff_iff]; have hat := HAT.out; (try have z0' := Z0.out); (try have z2' := Z2.out); clear HM HW HKW HAT; simp; omega))
                      · have Z2 : Hid (f.pc = 2) := Lib.hid (by simpa using z2)
                        ((refine wp_region_ext_lit (by kernel_rfl) (by kernel_rfl) ?_); (repeat (go_big_quiet_step ((go_at_call 62; exact quiet_ext ((longR_any f HF.out _).mono fun e w' ⟨he, hx⟩ => ⟨by rw [he, HLL.out], hx⟩))))); (refine wpQuiet_nil ?_; intro _ hw'; obtain ⟨⟨osq, nq⟩, hw''⟩ := hw'; replace hw'' : _ = grew _ osq nq := hw''; subst hw''))
                        (go_wp2; (go_ret; refine ⟨ret_bool ?_, HW.out.trans EX⟩; rw [HM.out]); (try have z0' := Z0.out); (try have z2' := Z2.out); clear HM HW HKW; simp; omega)
                    · have Z0 : Hid (f.pc = 0) := Lib.hid (by simpa using z0)
                      ((refine wp_region_ext_lit (by kernel_rfl) (by kernel_rfl) ?_); (repeat (go_big_quiet_step ((go_at_call 62; exact quiet_ext ((longR_any f HF.out _).mono fun e w' ⟨he, hx⟩ => ⟨by rw [he, HLL.out], hx⟩))))); (refine wpQuiet_nil ?_; intro _ hw'; obtain ⟨⟨osq, nq⟩, hw''⟩ := hw'; replace hw'' : _ = grew _ osq nq := hw''; subst hw''))
                      (go_wp2; (go_ret; refine ⟨ret_bool ?_, HW.out.trans EX⟩; rw [HM.out]); (try have z0' := Z0.out); (try have z2' := Z2.out); clear HM HW HKW; simp; omega)
                · have hh : L < f.h := by simpa using g5
                  ((refine wp_region_ext_lit (by kernel_rfl) (by kernel_rfl) ?_); (repeat (go_big_quiet_step ((go_at_call 62; exact quiet_ext ((longR_any f HF.out _).mono fun e w' ⟨he, hx⟩ => ⟨by rw [he, HLL.out], hx⟩))))); (refine wpQuiet_nil ?_; intro _ hw'; obtain ⟨⟨osq, nq⟩, hw''⟩ := hw'; replace hw'' : _ = grew _ osq nq := hw''; subst hw''))
                  (go_wp2; (go_ret; refine ⟨ret_bool ?_, HW.out.trans EX⟩; rw [HM.out]); (try have z0' := Z0.out); (try have z2' := Z2.out); clear HM HW HKW; simp; omega)
              · have hh : c.cap < f.p := by simpa using g4
                ((refine wp_region_ext_lit (by kernel_rfl) (by kernel_rfl) ?_); (repeat (go_big_quiet_step ((go_at_call 62; exact quiet_ext ((longR_any f HF.out _).mono fun e w' ⟨he, hx⟩ => ⟨by rw [he, HLL.out], hx⟩))))); (refine wpQuiet_nil ?_; intro _ hw'; obtain ⟨⟨osq, nq⟩, hw''⟩ := hw'; replace hw'' : _ = grew _ osq nq := hw''; subst hw''))
                (go_wp2; (go_ret; refine ⟨ret_bool ?_, HW.out.trans EX⟩; rw [HM.out]); (try have z0' := Z0.out); (try have z2' := Z2.out); clear HM HW HKW; simp; omega)
            · have hh : c.cap < f.n := by simpa using g3
              ((refine wp_region_ext_lit (by kernel_rfl) (by kernel_rfl) ?_); (repeat (go_big_quiet_step ((go_at_call 62; exact quiet_ext ((longR_any f HF.out _).mono fun e w' ⟨he, hx⟩ => ⟨by rw [he, HLL.out], hx⟩))))); (refine wpQuiet_nil ?_; intro _ hw'; obtain ⟨⟨osq, nq⟩, hw''⟩ := hw'; replace hw'' : _ = grew _ osq nq := hw''; subst hw''))
              (go_wp2; (go_ret; refine ⟨ret_bool ?_, HW.out.trans EX⟩; rw [HM.out]); (try have z0' := Z0.out); (try have z2' := Z2.out); clear HM HW HKW; simp; omega)
          · have hh : c.cap < f.j := by simpa using g2
            ((refine wp_region_ext_lit (by kernel_rfl) (by kernel_rfl) ?_); (repeat (go_big_quiet_step ((go_at_call 62; exact quiet_ext ((longR_any f HF.out _).mono fun e w' ⟨he, hx⟩ => ⟨by rw [he, HLL.out], hx⟩))))); (refine wpQuiet_nil ?_; intro _ hw'; obtain ⟨⟨osq, nq⟩, hw''⟩ := hw'; replace hw'' : _ = grew _ osq nq := hw''; subst hw''))
            (go_wp2; (go_ret; refine ⟨ret_bool ?_, HW.out.trans EX⟩; rw [HM.out]); (try have z0' := Z0.out); (try have z2' := Z2.out); clear HM HW HKW; simp; omega)
        · have hh : c.cap < f.i := by simpa using g1
          ((refine wp_region_ext_lit (by kernel_rfl) (by kernel_rfl) ?_); (repeat (go_big_quiet_step ((go_at_call 62; exact quiet_ext ((longR_any f HF.out _).mono fun e w' ⟨he, hx⟩ => ⟨by rw [he, HLL.out], hx⟩))))); (refine wpQuiet_nil ?_; intro _ hw'; obtain ⟨⟨osq, nq⟩, hw''⟩ := hw'; replace hw'' : _ = grew _ osq nq := hw''; subst hw''))
          (go_wp2; (go_ret; refine ⟨ret_bool ?_, HW.out.trans EX⟩; rw [HM.out]); (try have z0' := Z0.out); (try have z2' := Z2.out); clear HM HW HKW; simp; omega)
  · have hop : brOp f = ⟨f.kind, f.a, f.b, f.y⟩ := by unfold brOp; rw [hk]; rfl
    rw [hop] at ho HE
    have H4 : Hid (E = 0 → 1 ≤ brLong f) := Lib.hid (by rw [← HE.out, ← hop]; exact H4.out)
    have HO := Lib.hid ho
    clear ho hop
    cases e0 : (E == 0)
    · have e1 : (E != 0) = true := by simpa using e0
      have e2 : E ≠ 0 := by simpa using e0
      go_enter Tryz.func36, Tryz.ntmps36
      go_wp2_with (first | (go_at_call 52; refine (opCheckR_any c ⟨f.kind, f.a, f.b, f.y⟩ HO.out _).mono ?_; rintro e w1 ⟨rfl, os1, n1, rfl⟩; rw [HE.out]) | (go_at_call 61; refine (thereR_any f.kind f.pc HKK.out HPP.out _).mono ?_; rintro e w2 ⟨rfl, rfl⟩; rw [HTH.out]))
      go_ret
      refine ⟨ret_bool ?_, EX⟩
      rw [HM.out, e0]
      rfl
    · obtain rfl : E = 0 := by simpa using e0
      cases B
      · go_enter Tryz.func36, Tryz.ntmps36
        go_wp2_with (first | (go_at_call 52; refine (opCheckR_any c ⟨f.kind, f.a, f.b, f.y⟩ HO.out _).mono ?_; rintro e w1 ⟨rfl, os1, n1, rfl⟩; rw [HE.out]) | (go_at_call 61; refine (thereR_any f.kind f.pc HKK.out HPP.out _).mono ?_; rintro e w2 ⟨rfl, rfl⟩; rw [HTH.out]))
        go_ret
        refine ⟨ret_bool ?_, EX⟩
        rw [HM.out]
        rfl
      · have HPC := Lib.hid (HPC.out HB.out)
        have HAT : Hid (A.at' = T) := Lib.hid (by rw [← HS.out, ← HT.out]; exact brStep_at HPC.out)
        have HL1 : Hid (1 ≤ brLong f) := Lib.hid (H4.out rfl)
        clear HB HT H4
        go_enter Tryz.func36, Tryz.ntmps36
        go_upto_region 6 with (first | (go_at_call 52; refine (opCheckR_any c ⟨f.kind, f.a, f.b, f.y⟩ HO.out _).mono ?_; rintro e w1 ⟨rfl, os1, n1, rfl⟩; rw [HE.out]) | (go_at_call 61; refine (thereR_any f.kind f.pc HKK.out HPP.out _).mono ?_; rintro e w2 ⟨rfl, rfl⟩; rw [HTH.out]))
        (refine wp_gen (fun W => Ext w W ∧ w.heap.size + 1 < W.heap.size ∧ Holds W ([(w.heap.size, 0, .int .u8 c.object), (w.heap.size, 1, .int .i64 c.instances), (w.heap.size, 2, .int .i64 c.threads), (w.heap.size, 3, .int .u8 c.kind), (w.heap.size, 4, .int .i64 c.stripes), (w.heap.size, 5, .int .i64 c.bits), (w.heap.size, 6, .int .i64 c.cap), (w.heap.size, 7, .int .i64 c.node), (w.heap.size, 8, .int .i64 c.batch), (w.heap.size, 9, .int .i64 c.chunk), (w.heap.size, 10, .int .u64 c.limit), (w.heap.size, 11, .int .u64 c.most)] ++ [(w.heap.size + 1, 0, .int .u8 f.kind), (w.heap.size + 1, 1, .int .u32 f.a), (w.heap.size + 1, 2, .int .u32 f.b), (w.heap.size + 1, 3, .int .u8 f.pc), (w.heap.size + 1, 4, .int .u8 f.i), (w.heap.size + 1, 5, .int .u8 f.j), (w.heap.size + 1, 6, .int .u8 f.n), (w.heap.size + 1, 7, .int .u8 f.p), (w.heap.size + 1, 8, .int .u8 f.h), (w.heap.size + 1, 9, .int .u32 f.x), (w.heap.size + 1, 10, .int .u32 f.y)])) ⟨EX, (by first | omega | (simp [go_sem]; done) | (simp [go_sem]; omega)), by simp [Holds, go_sem]⟩ ?_; intro W HH; have HW := Lib.hid HH.1; have hA1 := HH.2.1; have hA0 : w.heap.size < W.heap.size := (by omega); have hKW := HH.2.2; simp only [Holds, List.cons_append, List.nil_append] at hKW; have HKW := Lib.hid hKW; clear HH)
        cases g1 : decide (c.cap < f.i)
        · cases g2 : decide (c.cap < f.j)
          · cases g3 : decide (c.cap < f.n)
            · cases g4 : decide (c.cap < f.p)
              · cases g5 : decide (L < f.h)
                · ((refine wp_region_ext_lit (by kernel_rfl) (by kernel_rfl) ?_); (repeat (go_big_quiet_step ((go_at_call 62; exact quiet_ext ((longR_any f HF.out _).mono fun e w' ⟨he, hx⟩ => ⟨by rw [he, HLL.out], hx⟩))))); (refine wpQuiet_nil ?_; intro _ hw'; obtain ⟨⟨osq, nq⟩, hw''⟩ := hw'; replace hw'' : _ = grew _ osq nq := hw''; subst hw''))
                  have hi : f.i ≤ c.cap := by simpa using g1
                  have hj : f.j ≤ c.cap := by simpa using g2
                  have hn : f.n ≤ c.cap := by simpa using g3
                  have hq : f.p ≤ c.cap := by simpa using g4
                  have hh : f.h ≤ L := by simpa using g5
                  clear g1 g2 g3 g4 g5
                  go_upto_region 8 with fail
                  refine wp_gen (fun V => Ext W V) EX ?_
                  intro V HV
                  have HW := Lib.hid (HW.out.trans HV)
                  have hA1 : w.heap.size + 1 < V.heap.size := Nat.lt_of_lt_of_le hA1 HV.size
                  have hA0 : w.heap.size < V.heap.size := by omega
                  have hKW : Holds V ([(w.heap.size, 0, .int .u8 c.object), (w.heap.size, 1, .int .i64 c.instances), (w.heap.size, 2, .int .i64 c.threads), (w.heap.size, 3, .int .u8 c.kind), (w.heap.size, 4, .int .i64 c.stripes), (w.heap.size, 5, .int .i64 c.bits), (w.heap.size, 6, .int .i64 c.cap), (w.heap.size, 7, .int .i64 c.node), (w.heap.size, 8, .int .i64 c.batch), (w.heap.size, 9, .int .i64 c.chunk), (w.heap.size, 10, .int .u64 c.limit), (w.heap.size, 11, .int .u64 c.most)] ++ [(w.heap.size + 1, 0, .int .u8 f.kind), (w.heap.size + 1, 1, .int .u32 f.a), (w.heap.size + 1, 2, .int .u32 f.b), (w.heap.size + 1, 3, .int .u8 f.pc), (w.heap.size + 1, 4, .int .u8 f.i), (w.heap.size + 1, 5, .int .u8 f.j), (w.heap.size + 1, 6, .int .u8 f.n), (w.heap.size + 1, 7, .int .u8 f.p), (w.heap.size + 1, 8, .int .u8 f.h), (w.heap.size + 1, 9, .int .u32 f.x), (w.heap.size + 1, 10, .int .u32 f.y)]) := Holds.ext (by simp only [Holds, List.cons_append, List.nil_append]; exact HKW.out) HV
                  simp only [Holds, List.cons_append, List.nil_append] at hKW
                  clear HV HKW
                  have HKW := Lib.hid hKW
                  cases zh : decide (L ≤ f.h)
                  · have zh' : f.h < L := by simpa using zh
                    have H2 : Hid (f.pc = 2 → f.h < brLong f) := Lib.hid fun _ => by rw [HLL.out]; exact zh'
                    cases z0 : (f.pc == 0)
                    · have z0' : ¬ f.pc = 0 := by simpa using z0
                      cases z2 : (f.pc == 2)
                      · ((refine wp_region_ext_lit (by kernel_rfl) (by kernel_rfl) ?_); (repeat (go_big_quiet_step ((go_at_call 62; exact quiet_ext ((longR_any f HF.out _).mono fun e w' ⟨he, hx⟩ => ⟨by rw [he, HLL.out], hx⟩))))); (refine wpQuiet_nil ?_; intro _ hw'; obtain ⟨⟨osq, nq⟩, hw''⟩ := hw'; replace hw'' : _ = grew _ osq nq := hw''; subst hw''))
                        (go_wp2_with (go_at_call 37; refine (brStepR_any f HF.out HPC.out H2.out (fun _ => HL1.out) _).mono ?_; rintro e w3 ⟨rfl, os3, n3, rfl⟩; rw [HS.out]; have hbz : w.heap.size < V.heap.size + cnt (both osq os3) := (by omega));  all_goals ((go_ret; refine ⟨ret_bool ?_, HW.out.trans EX⟩; rw [HM.out]); rw [Bool.eq_iff_iff]; have hat := HAT.out; (try have z0' := Z0.out); (try have z2' := Z2.out); clear HM HW HKW HAT; simp; omega))
                      · ((refine wp_region_ext_lit (by kernel_rfl) (by kernel_rfl) ?_); (repeat (go_big_quiet_step ((go_at_call 62; exact quiet_ext ((longR_any f HF.out _).mono fun e w' ⟨he, hx⟩ => ⟨by rw [he, HLL.out], hx⟩))))); (refine wpQuiet_nil ?_; intro _ hw'; obtain ⟨⟨osq, nq⟩, hw''⟩ := hw'; replace hw'' : _ = grew _ osq nq := hw''; subst hw''))
                        (go_wp2_with (go_at_call 37; refine (brStepR_any f HF.out HPC.out H2.out (fun _ => HL1.out) _).mono ?_; rintro e w3 ⟨rfl, os3, n3, rfl⟩; rw [HS.out]; have hbz : w.heap.size < V.heap.size + cnt (both osq os3) := (by omega));  all_goals ((go_ret; refine ⟨ret_bool ?_, HW.out.trans EX⟩; rw [HM.out]); rw [Bool.eq_iff_iff]; have hat := HAT.out; (try have z0' := Z0.out); (try have z2' := Z2.out); clear HM HW HKW HAT; simp; omega))
                    · have Z0 : Hid (f.pc = 0) := Lib.hid (by simpa using z0)
                      cases zn : decide (f.i < f.n)
                      · have zn' : ¬ f.i < f.n := by simpa using zn
                        ((refine wp_region_ext_lit (by kernel_rfl) (by kernel_rfl) ?_); (repeat (go_big_quiet_step ((go_at_call 62; exact quiet_ext ((longR_any f HF.out _).mono fun e w' ⟨he, hx⟩ => ⟨by rw [he, HLL.out], hx⟩))))); (refine wpQuiet_nil ?_; intro _ hw'; obtain ⟨⟨osq, nq⟩, hw''⟩ := hw'; replace hw'' : _ = grew _ osq nq := hw''; subst hw''))
                        (go_wp2_with (go_at_call 37; refine (brStepR_any f HF.out HPC.out H2.out (fun _ => HL1.out) _).mono ?_; rintro e w3 ⟨rfl, os3, n3, rfl⟩; rw [HS.out]; have hbz : w.heap.size < V.heap.size + cnt (both osq os3) := (by omega));  all_goals ((go_ret; refine ⟨ret_bool ?_, HW.out.trans EX⟩; rw [HM.out]); rw [Bool.eq_iff_iff]; have hat := HAT.out; (try have z0' := Z0.out); (try have z2' := Z2.out); clear HM HW HKW HAT; simp; omega))
                      · have zn' : f.i < f.n := by simpa using zn
                        ((refine wp_region_ext_lit (by kernel_rfl) (by kernel_rfl) ?_); (repeat (go_big_quiet_step ((go_at_call 62; exact quiet_ext ((longR_any f HF.out _).mono fun e w' ⟨he, hx⟩ => ⟨by rw [he, HLL.out], hx⟩))))); (refine wpQuiet_nil ?_; intro _ hw'; obtain ⟨⟨osq, nq⟩, hw''⟩ := hw'; replace hw'' : _ = grew _ osq nq := hw''; subst hw''))
                        (go_wp2; (go_ret; refine ⟨ret_bool ?_, HW.out.trans EX⟩; rw [HM.out]); (try have z0' := Z0.out); (try have z2' := Z2.out); clear HM HW HKW; simp; omega)
                  · have zh' : L ≤ f.h := by simpa using zh
                    cases z0 : (f.pc == 0)
                    · have z0' : ¬ f.pc = 0 := by simpa using z0
                      cases z2 : (f.pc == 2)
                      · have z2' : ¬ f.pc = 2 := by simpa using z2
                        have H2 : Hid (f.pc = 2 → f.h < brLong f) := Lib.hid fun h => by rw [h] at z2; cases z2
                        ((refine wp_region_ext_lit (by kernel_rfl) (by kernel_rfl) ?_); (repeat (go_big_quiet_step ((go_at_call 62; exact quiet_ext ((longR_any f HF.out _).mono fun e w' ⟨he, hx⟩ => ⟨by rw [he, HLL.out], hx⟩))))); (refine wpQuiet_nil ?_; intro _ hw'; obtain ⟨⟨osq, nq⟩, hw''⟩ := hw'; replace hw'' : _ = grew _ osq nq := hw''; subst hw''))
                        (go_wp2_with (go_at_call 37; refine (brStepR_any f HF.out HPC.out H2.out (fun _ => HL1.out) _).mono ?_; rintro e w3 ⟨rfl, os3, n3, rfl⟩; rw [HS.out]; have hbz : w.heap.size < V.heap.size + cnt (both osq os3) := (by omega));  all_goals ((go_ret; refine ⟨ret_bool ?_, HW.out.trans EX⟩; rw [HM.out]); rw [Bool.eq_iff_iff]; have hat := HAT.out; (try have z0' := Z0.out); (try have z2' := Z2.out); clear HM HW HKW HAT; simp; omega))
                      · have Z2 : Hid (f.pc = 2) := Lib.hid (by simpa using z2)
                        ((refine wp_region_ext_lit (by kernel_rfl) (by kernel_rfl) ?_); (repeat (go_big_quiet_step ((go_at_call 62; exact quiet_ext ((longR_any f HF.out _).mono fun e w' ⟨he, hx⟩ => ⟨by rw [he, HLL.out], hx⟩))))); (refine wpQuiet_nil ?_; intro _ hw'; obtain ⟨⟨osq, nq⟩, hw''⟩ := hw'; replace hw'' : _ = grew _ osq nq := hw''; subst hw''))
                        (go_wp2; (go_ret; refine ⟨ret_bool ?_, HW.out.trans EX⟩; rw [HM.out]); (try have z0' := Z0.out); (try have z2' := Z2.out); clear HM HW HKW; simp; omega)
                    · have Z0 : Hid (f.pc = 0) := Lib.hid (by simpa using z0)
                      ((refine wp_region_ext_lit (by kernel_rfl) (by kernel_rfl) ?_); (repeat (go_big_quiet_step ((go_at_call 62; exact quiet_ext ((longR_any f HF.out _).mono fun e w' ⟨he, hx⟩ => ⟨by rw [he, HLL.out], hx⟩))))); (refine wpQuiet_nil ?_; intro _ hw'; obtain ⟨⟨osq, nq⟩, hw''⟩ := hw'; replace hw'' : _ = grew _ osq nq := hw''; subst hw''))
                      (go_wp2; (go_ret; refine ⟨ret_bool ?_, HW.out.trans EX⟩; rw [HM.out]); (try have z0' := Z0.out); (try have z2' := Z2.out); clear HM HW HKW; simp; omega)
                · have hh : L < f.h := by simpa using g5
                  ((refine wp_region_ext_lit (by kernel_rfl) (by kernel_rfl) ?_); (repeat (go_big_quiet_step ((go_at_call 62; exact quiet_ext ((longR_any f HF.out _).mono fun e w' ⟨he, hx⟩ => ⟨by rw [he, HLL.out], hx⟩))))); (refine wpQuiet_nil ?_; intro _ hw'; obtain ⟨⟨osq, nq⟩, hw''⟩ := hw'; replace hw'' : _ = grew _ osq nq := hw''; subst hw''))
                  (go_wp2; (go_ret; refine ⟨ret_bool ?_, HW.out.trans EX⟩; rw [HM.out]); (try have z0' := Z0.out); (try have z2' := Z2.out); clear HM HW HKW; simp; omega)
              · have hh : c.cap < f.p := by simpa using g4
                ((refine wp_region_ext_lit (by kernel_rfl) (by kernel_rfl) ?_); (repeat (go_big_quiet_step ((go_at_call 62; exact quiet_ext ((longR_any f HF.out _).mono fun e w' ⟨he, hx⟩ => ⟨by rw [he, HLL.out], hx⟩))))); (refine wpQuiet_nil ?_; intro _ hw'; obtain ⟨⟨osq, nq⟩, hw''⟩ := hw'; replace hw'' : _ = grew _ osq nq := hw''; subst hw''))
                (go_wp2; (go_ret; refine ⟨ret_bool ?_, HW.out.trans EX⟩; rw [HM.out]); (try have z0' := Z0.out); (try have z2' := Z2.out); clear HM HW HKW; simp; omega)
            · have hh : c.cap < f.n := by simpa using g3
              ((refine wp_region_ext_lit (by kernel_rfl) (by kernel_rfl) ?_); (repeat (go_big_quiet_step ((go_at_call 62; exact quiet_ext ((longR_any f HF.out _).mono fun e w' ⟨he, hx⟩ => ⟨by rw [he, HLL.out], hx⟩))))); (refine wpQuiet_nil ?_; intro _ hw'; obtain ⟨⟨osq, nq⟩, hw''⟩ := hw'; replace hw'' : _ = grew _ osq nq := hw''; subst hw''))
              (go_wp2; (go_ret; refine ⟨ret_bool ?_, HW.out.trans EX⟩; rw [HM.out]); (try have z0' := Z0.out); (try have z2' := Z2.out); clear HM HW HKW; simp; omega)
          · have hh : c.cap < f.j := by simpa using g2
            ((refine wp_region_ext_lit (by kernel_rfl) (by kernel_rfl) ?_); (repeat (go_big_quiet_step ((go_at_call 62; exact quiet_ext ((longR_any f HF.out _).mono fun e w' ⟨he, hx⟩ => ⟨by rw [he, HLL.out], hx⟩))))); (refine wpQuiet_nil ?_; intro _ hw'; obtain ⟨⟨osq, nq⟩, hw''⟩ := hw'; replace hw'' : _ = grew _ osq nq := hw''; subst hw''))
            (go_wp2; (go_ret; refine ⟨ret_bool ?_, HW.out.trans EX⟩; rw [HM.out]); (try have z0' := Z0.out); (try have z2' := Z2.out); clear HM HW HKW; simp; omega)
        · have hh : c.cap < f.i := by simpa using g1
          ((refine wp_region_ext_lit (by kernel_rfl) (by kernel_rfl) ?_); (repeat (go_big_quiet_step ((go_at_call 62; exact quiet_ext ((longR_any f HF.out _).mono fun e w' ⟨he, hx⟩ => ⟨by rw [he, HLL.out], hx⟩))))); (refine wpQuiet_nil ?_; intro _ hw'; obtain ⟨⟨osq, nq⟩, hw''⟩ := hw'; replace hw'' : _ = grew _ osq nq := hw''; subst hw''))
          (go_wp2; (go_ret; refine ⟨ret_bool ?_, HW.out.trans EX⟩; rw [HM.out]); (try have z0' := Z0.out); (try have z2' := Z2.out); clear HM HW HKW; simp; omega)

theorem brNextR_any (c : Cfg) (f : Frm) (hf : f.Fits) (w : World) : Calls Tryz.prog 15 #[c.v, f.v] w
    fun e w' => e = .returned (.tuple #[(brNextA c f).v, .int .i64 (brErr c f)]) ∧ Ext w w' := by
  have HF := Lib.hid hf
  clear hf
  cases hp : partOk c
  · have HG := Lib.hid (brErr_conf (f := f) hp)
    have HN : Hid (brNextA c f = zeroAct) := Lib.hid (by simp [brNextA, HG.out])
    have HC := Lib.hid hp
    clear hp
    go_enter Tryz.func15, Tryz.ntmps15
    go_wp2_with (go_at_call 11; refine (mayBe_any c _).mono ?_; rintro e w1 ⟨rfl, os1, n1, rfl⟩; rw [HC.out])
    (refine bodyPost_ret (v := .tuple #[(zeroAct).v, .int .i64 40]) (by simp [results, Tryz.results15, go_sem]) rfl ?_)
    exact ⟨by rw [HN.out, HG.out], EX⟩
  · have HC := Lib.hid hp
    cases h2 : (c.object == 4)
    · have HG := Lib.hid (brErr_obj (f := f) h2)
      have HN : Hid (brNextA c f = zeroAct) := Lib.hid (by simp [brNextA, HG.out])
      clear hp
      go_enter Tryz.func15, Tryz.ntmps15
      go_wp2_with (go_at_call 11; refine (mayBe_any c _).mono ?_; rintro e w1 ⟨rfl, os1, n1, rfl⟩; rw [HC.out])
      (refine bodyPost_ret (v := .tuple #[(zeroAct).v, .int .i64 40]) (by simp [results, Tryz.results15, go_sem]) rfl ?_)
      exact ⟨by rw [HN.out, HG.out], EX⟩
    · have HOB : Hid (c.object = 4) := Lib.hid (by simpa using h2)
      cases h3 : brMay c f
      · have HG := Lib.hid (brErr_arg hp h2 h3)
        have HN : Hid (brNextA c f = zeroAct) := Lib.hid (by simp [brNextA, HG.out])
        have HM := Lib.hid h3
        clear hp h3
        go_enter Tryz.func15, Tryz.ntmps15
        go_wp2_with (first | (go_at_call 11; refine (mayBe_any c _).mono ?_; rintro e w1 ⟨rfl, os1, n1, rfl⟩; rw [HC.out]) | (go_at_call 36; refine (brMayR_any c f HF.out HOB.out _).mono ?_; rintro e w2 ⟨rfl, os2, n2, rfl⟩; rw [HM.out]))
        (refine bodyPost_ret (v := .tuple #[(zeroAct).v, .int .i64 2]) (by simp [results, Tryz.results15, go_sem]) rfl ?_)
        exact ⟨by rw [HN.out, HG.out], EX⟩
      · have HG := Lib.hid (brErr_yes hp h2 h3)
        have HN : Hid (brNextA c f = brStep f) := Lib.hid (by simp [brNextA, HG.out])
        have HM := Lib.hid h3
        obtain ⟨m1, m2, m3, m4, m5, m6, m7, m8, m9, m10, m11⟩ := brMay_facts h3
        have HP := Lib.hid (brHas_pc m2)
        have H2 : Hid (f.pc = 2 → f.h < brLong f) := Lib.hid fun h => m8 (Or.inr h)
        have H4 : Hid (f.pc = 4 → 1 ≤ brLong f) := Lib.hid fun _ => (brMany_pos HOB.out m1).2
        clear hp h3 m1 m2 m3 m4 m5 m6 m7 m8 m9 m10 m11
        go_enter Tryz.func15, Tryz.ntmps15
        go_wp2_with (first | (go_at_call 11; refine (mayBe_any c _).mono ?_; rintro e w1 ⟨rfl, os1, n1, rfl⟩; rw [HC.out]) | (go_at_call 36; refine (brMayR_any c f HF.out HOB.out _).mono ?_; rintro e w2 ⟨rfl, os2, n2, rfl⟩; rw [HM.out]) | (go_at_call 37; refine (brStepR_any f HF.out HP.out H2.out H4.out _).mono ?_; rintro e w3 ⟨rfl, os3, n3, rfl⟩))
        (refine bodyPost_ret (v := .tuple #[(brStep f).v, .int .i64 0]) (by simp [results, Tryz.results15, go_sem]) rfl ?_)
        exact ⟨by rw [HN.out, HG.out], EX⟩
end Go.Proofs.YtmhmaifmendebaaGreatDoor.branch
