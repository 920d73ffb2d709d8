/- The walks of the reference's steps behind an act, layer 'tree'. -/
import Derived.Test.YtkklhhdkokncnaaDoorGh
import Derived.Outline
namespace Go.Proofs.YtkklhhdkokncnaaDoor
open Go Go.RowKit

set_option maxRecDepth 100000 in
set_option maxHeartbeats 4000000 in
theorem atR_any (f : Frm) (pc : Int) (w : World) : Calls Tryd.prog 77 #[f.v, .int .u8 pc] w fun e w' => e = .returned (Frm.v { f with pc := pc }) ∧ Ext w w' := by
  go_enter Tryd.func77, Tryd.ntmps77
  go_wp2
  refine bodyPost_ret (v := Frm.v { f with pc := pc }) (by simp [results, Tryd.results77, go_sem]) rfl ⟨rfl, (by repeat (first | with_reducible exact Ext.refl _ | with_reducible assumption | with_reducible refine Ext.alloc ?_ _ | with_reducible refine Ext.gr ?_ _ | with_reducible refine Ext.drewN ?_ _ | with_reducible refine Ext.drew ?_ | with_reducible refine Ext.setCell ?_ ?_ _ | with_reducible refine Ext.more ?_ _ _ | (show _ ≤ _; dsimp only; omega)))⟩
set_option maxRecDepth 100000 in
set_option maxHeartbeats 4000000 in
theorem overR_any (f : Frm) (l : Cel) (hl : l.Fits) (w : World) : Calls Tryd.prog 79 #[f.v, l.v] w fun e w' => e = .returned (treOver f l).v ∧ Ext w w' := by
  obtain ⟨⟨t0, t1⟩, ⟨la0, la1⟩, ⟨lb0, lb1⟩, ⟨lc0, lc1⟩⟩ := hl
  obtain ⟨X, hX⟩ : ∃ X, l.a % 4294967296 = X := ⟨_, rfl⟩
  obtain ⟨Y, hY⟩ : ∃ X, l.b % 4294967296 = X := ⟨_, rfl⟩
  have hx : 0 ≤ X ∧ X ≤ 4294967295 := by omega
  have hy : 0 ≤ Y ∧ Y ≤ 4294967295 := by omega
  have HS : Hid (treOver f l = { f with x := X, y := Y }) := Lib.hid (by simp only [treOver, hX, hY])
  go_enter Tryd.func79, Tryd.ntmps79
  go_wp2
  refine bodyPost_ret (v := Frm.v { f with x := X, y := Y }) (by simp [results, Tryd.results79, go_sem]) rfl ⟨by rw [HS.out], (by repeat (first | with_reducible exact Ext.refl _ | with_reducible assumption | with_reducible refine Ext.alloc ?_ _ | with_reducible refine Ext.gr ?_ _ | with_reducible refine Ext.drewN ?_ _ | with_reducible refine Ext.drew ?_ | with_reducible refine Ext.setCell ?_ ?_ _ | with_reducible refine Ext.more ?_ _ _ | (show _ ≤ _; dsimp only; omega)))⟩
set_option maxRecDepth 100000 in
set_option maxHeartbeats 4000000 in
theorem rowR_any (f : Frm) (hf : f.Fits) (w : World) : Calls Tryd.prog 36 #[f.v] w fun e w' => e = .returned (.agg #[.int .u64 f.x, .int .u64 f.y]) ∧ Ext w w' := by
  obtain ⟨x0, x1⟩ := hf.x
  obtain ⟨y0, y1⟩ := hf.y
  go_enter Tryd.func36, Tryd.ntmps36
  go_wp2
  refine bodyPost_ret (v := .agg #[.int .u64 f.x, .int .u64 f.y]) (by simp [results, Tryd.results36, go_sem]) rfl ⟨rfl, (by repeat (first | with_reducible exact Ext.refl _ | with_reducible assumption | with_reducible refine Ext.alloc ?_ _ | with_reducible refine Ext.gr ?_ _ | with_reducible refine Ext.drewN ?_ _ | with_reducible refine Ext.drew ?_ | with_reducible refine Ext.setCell ?_ ?_ _ | with_reducible refine Ext.more ?_ _ _ | (show _ ≤ _; dsimp only; omega)))⟩
set_option maxRecDepth 100000 in
set_option maxHeartbeats 4000000 in
theorem freshR_any (c : Cfg) (f : Frm) (hf : f.Fits) (w : World) : Calls Tryd.prog 100 #[c.v, f.v] w fun e w' => e = .returned (treFresh c f).v ∧ Ext w w' := by
  obtain ⟨n0, n1⟩ := hf.n
  obtain ⟨p0, p1⟩ := hf.p
  clear hf
  cases h : decide (c.cap ≤ f.n)
  · cases h2 : decide (f.n ≤ f.p)
    · have HS : Hid (treFresh c f = { f with pc := 5, i := f.n }) := Lib.hid (by simp at h h2; simp only [treFresh]; rw [if_neg (by omega), if_neg (by omega)])
      go_enter Tryd.func100, Tryd.ntmps100
      go_wp2_with (go_at_call 77; refine (atR_any ({ f with i := f.n }) _ _).mono ?_; rintro e w1 ⟨rfl, os1, n1, rfl⟩)
      refine bodyPost_ret (v := Frm.v { f with pc := 5, i := f.n }) (by simp [results, Tryd.results100, go_sem]) rfl ⟨by rw [HS.out], (by repeat (first | with_reducible exact Ext.refl _ | with_reducible assumption | with_reducible refine Ext.alloc ?_ _ | with_reducible refine Ext.gr ?_ _ | with_reducible refine Ext.drewN ?_ _ | with_reducible refine Ext.drew ?_ | with_reducible refine Ext.setCell ?_ ?_ _ | with_reducible refine Ext.more ?_ _ _ | (show _ ≤ _; dsimp only; omega)))⟩
    · have HS : Hid (treFresh c f = { f with pc := 7 }) := Lib.hid (by simp at h h2; simp only [treFresh]; rw [if_neg (by omega), if_pos (by omega)])
      go_enter Tryd.func100, Tryd.ntmps100
      go_wp2_with (go_at_call 77; refine (atR_any (f) _ _).mono ?_; rintro e w1 ⟨rfl, os1, n1, rfl⟩)
      refine bodyPost_ret (v := Frm.v { f with pc := 7 }) (by simp [results, Tryd.results100, go_sem]) rfl ⟨by rw [HS.out], (by repeat (first | with_reducible exact Ext.refl _ | with_reducible assumption | with_reducible refine Ext.alloc ?_ _ | with_reducible refine Ext.gr ?_ _ | with_reducible refine Ext.drewN ?_ _ | with_reducible refine Ext.drew ?_ | with_reducible refine Ext.setCell ?_ ?_ _ | with_reducible refine Ext.more ?_ _ _ | (show _ ≤ _; dsimp only; omega)))⟩
  · have HS : Hid (treFresh c f = { f with pc := 22 }) := Lib.hid (by simp at h; simp only [treFresh]; rw [if_pos (by omega)])
    go_enter Tryd.func100, Tryd.ntmps100
    go_wp2_with (go_at_call 77; refine (atR_any (f) _ _).mono ?_; rintro e w1 ⟨rfl, os1, n1, rfl⟩)
    refine bodyPost_ret (v := Frm.v { f with pc := 22 }) (by simp [results, Tryd.results100, go_sem]) rfl ⟨by rw [HS.out], (by repeat (first | with_reducible exact Ext.refl _ | with_reducible assumption | with_reducible refine Ext.alloc ?_ _ | with_reducible refine Ext.gr ?_ _ | with_reducible refine Ext.drewN ?_ _ | with_reducible refine Ext.drew ?_ | with_reducible refine Ext.setCell ?_ ?_ _ | with_reducible refine Ext.more ?_ _ _ | (show _ ≤ _; dsimp only; omega)))⟩
set_option maxRecDepth 100000 in
set_option maxHeartbeats 4000000 in
theorem goR_any (f : Frm) (hp : 0 ≤ f.p ∧ f.p ≤ 32) (hn : 0 ≤ f.n ∧ f.n ≤ 40) (w : World) : Calls Tryd.prog 82 #[f.v] w fun e w' => e = .returned (treGo f).v ∧ Ext w w' := by
  obtain ⟨p0, p1⟩ := hp
  obtain ⟨n0, n1⟩ := hn
  have hw1 : IntKind.u8.wrap (f.p + 1) = f.p + 1 := by rw [IntKind.wrap_u8]; omega
  have hw2 : (f.p + 1) % 256 = f.p + 1 := by omega
  cases h : decide (f.n ≤ f.p + 1)
  · have HS : Hid (treGo f = { f with pc := 17, p := f.p + 1 }) := Lib.hid (by simp at h; simp only [treGo]; rw [if_neg (by omega)])
    go_enter Tryd.func82, Tryd.ntmps82
    go_wp2_with (go_at_call 77; refine (atR_any ({ f with p := f.p + 1 }) _ _).mono ?_; rintro e w1 ⟨rfl, os1, n1, rfl⟩)
    refine bodyPost_ret (v := Frm.v { f with pc := 17, p := f.p + 1 }) (by simp [results, Tryd.results82, go_sem]) rfl ⟨by rw [HS.out], (by repeat (first | with_reducible exact Ext.refl _ | with_reducible assumption | with_reducible refine Ext.alloc ?_ _ | with_reducible refine Ext.gr ?_ _ | with_reducible refine Ext.drewN ?_ _ | with_reducible refine Ext.drew ?_ | with_reducible refine Ext.setCell ?_ ?_ _ | with_reducible refine Ext.more ?_ _ _ | (show _ ≤ _; dsimp only; omega)))⟩
  · have HS : Hid (treGo f = { f with pc := 20 }) := Lib.hid (by simp at h; simp only [treGo]; rw [if_pos (by omega)])
    go_enter Tryd.func82, Tryd.ntmps82
    go_wp2_with (go_at_call 77; refine (atR_any (f) _ _).mono ?_; rintro e w1 ⟨rfl, os1, n1, rfl⟩)
    refine bodyPost_ret (v := Frm.v { f with pc := 20 }) (by simp [results, Tryd.results82, go_sem]) rfl ⟨by rw [HS.out], (by repeat (first | with_reducible exact Ext.refl _ | with_reducible assumption | with_reducible refine Ext.alloc ?_ _ | with_reducible refine Ext.gr ?_ _ | with_reducible refine Ext.drewN ?_ _ | with_reducible refine Ext.drew ?_ | with_reducible refine Ext.setCell ?_ ?_ _ | with_reducible refine Ext.more ?_ _ _ | (show _ ≤ _; dsimp only; omega)))⟩
end Go.Proofs.YtkklhhdkokncnaaDoor
/- The walks of the reference's steps behind an act, layer 'tree': a row of a scan, found, none. -/
namespace Go.Proofs.YtkklhhdkokncnaaDoor
open Go Go.RowKit

abbrev tupFB (x : Frm × Bool) : Value := .tuple #[x.1.v, .bool x.2]
set_option maxRecDepth 100000 in
set_option maxHeartbeats 4000000 in
theorem onR_any (c : Cfg) (f : Frm) (hp : 0 ≤ f.p ∧ f.p ≤ 32) (hn : 0 ≤ f.n ∧ f.n ≤ 40) (hj : 0 ≤ f.j ∧ f.j ≤ 40) (w : World) : Calls Tryd.prog 83 #[c.v, f.v] w fun e w' => e = .returned (tupFB (treOn c f)) ∧ Ext w w' := by
  obtain ⟨j0, j1⟩ := hj
  have hw1 : IntKind.u8.wrap (f.j + 1) = f.j + 1 := by rw [IntKind.wrap_u8]; omega
  have hw2 : (f.j + 1) % 256 = f.j + 1 := by omega
  cases h : decide (f.b < f.x)
  · cases h2 : decide (c.chunk ≤ f.j + 1)
    · have HS : Hid (treOn c f = (treGo { f with j := f.j + 1 }, true)) := Lib.hid (by simp at h h2; simp only [treOn]; rw [if_neg (by omega), if_neg (by omega)])
      go_enter Tryd.func83, Tryd.ntmps83
      go_wp2_with (go_at_call 82; refine (goR_any { f with j := f.j + 1 } hp hn _).mono ?_; rintro e w1 ⟨rfl, os1, n1, rfl⟩)
      refine bodyPost_ret (v := tupFB (treGo { f with j := f.j + 1 }, true)) (by simp [results, Tryd.results83, go_sem]) rfl ⟨by rw [HS.out], (by repeat (first | with_reducible exact Ext.refl _ | with_reducible assumption | with_reducible refine Ext.alloc ?_ _ | with_reducible refine Ext.gr ?_ _ | with_reducible refine Ext.drewN ?_ _ | with_reducible refine Ext.drew ?_ | with_reducible refine Ext.setCell ?_ ?_ _ | with_reducible refine Ext.more ?_ _ _ | (show _ ≤ _; dsimp only; omega)))⟩
    · have HS : Hid (treOn c f = ({ f with j := f.j + 1, pc := 16 }, true)) := Lib.hid (by simp at h h2; simp only [treOn]; rw [if_neg (by omega), if_pos (by omega)])
      go_enter Tryd.func83, Tryd.ntmps83
      go_wp2_with (go_at_call 77; refine (atR_any ({ f with j := f.j + 1 }) _ _).mono ?_; rintro e w1 ⟨rfl, os1, n1, rfl⟩)
      refine bodyPost_ret (v := tupFB ({ f with j := f.j + 1, pc := 16 }, true)) (by simp [results, Tryd.results83, go_sem]) rfl ⟨by rw [HS.out], (by repeat (first | with_reducible exact Ext.refl _ | with_reducible assumption | with_reducible refine Ext.alloc ?_ _ | with_reducible refine Ext.gr ?_ _ | with_reducible refine Ext.drewN ?_ _ | with_reducible refine Ext.drew ?_ | with_reducible refine Ext.setCell ?_ ?_ _ | with_reducible refine Ext.more ?_ _ _ | (show _ ≤ _; dsimp only; omega)))⟩
  · have HS : Hid (treOn c f = ({ f with pc := 20 }, false)) := Lib.hid (by simp at h; simp only [treOn]; rw [if_pos (by omega)])
    go_enter Tryd.func83, Tryd.ntmps83
    go_wp2_with (go_at_call 77; refine (atR_any (f) _ _).mono ?_; rintro e w1 ⟨rfl, os1, n1, rfl⟩)
    refine bodyPost_ret (v := tupFB ({ f with pc := 20 }, false)) (by simp [results, Tryd.results83, go_sem]) rfl ⟨by rw [HS.out], (by repeat (first | with_reducible exact Ext.refl _ | with_reducible assumption | with_reducible refine Ext.alloc ?_ _ | with_reducible refine Ext.gr ?_ _ | with_reducible refine Ext.drewN ?_ _ | with_reducible refine Ext.drew ?_ | with_reducible refine Ext.setCell ?_ ?_ _ | with_reducible refine Ext.more ?_ _ _ | (show _ ≤ _; dsimp only; omega)))⟩
set_option maxRecDepth 100000 in
set_option maxHeartbeats 4000000 in
theorem noneR_any (c : Cfg) (f : Frm) (hf : f.Fits) (w : World) : Calls Tryd.prog 76 #[c.v, f.v] w fun e w' => e = .returned (treNone c f).v ∧ Ext w w' := by
  have hff : Frm.Fits { f with p := f.n } := ⟨hf.kind, hf.a, hf.b, hf.pc, hf.i, hf.j, hf.n, hf.n, hf.h, hf.x, hf.y⟩
  have HFF := Lib.hid hff
  obtain ⟨n0, n1⟩ := hf.n
  clear hf hff
  cases h4 : (f.kind == 4)
  · cases h8 : (f.kind == 8)
    · cases h7 : (f.kind == 7)
      · have HS : Hid (treNone c f = { f with p := f.n, pc := 21 }) := Lib.hid (by simp only [treNone, h4, h8, h7]; rfl)
        go_enter Tryd.func76, Tryd.ntmps76
        go_wp2_with (go_at_call 77; refine (atR_any ({ f with p := f.n }) _ _).mono ?_; rintro e w1 ⟨rfl, os1, n1, rfl⟩)
        all_goals refine bodyPost_ret (v := Frm.v { f with p := f.n, pc := 21 }) (by simp [results, Tryd.results76, go_sem]) rfl ⟨by rw [HS.out], (by repeat (first | with_reducible exact Ext.refl _ | with_reducible assumption | with_reducible refine Ext.alloc ?_ _ | with_reducible refine Ext.gr ?_ _ | with_reducible refine Ext.drewN ?_ _ | with_reducible refine Ext.drew ?_ | with_reducible refine Ext.setCell ?_ ?_ _ | with_reducible refine Ext.more ?_ _ _ | (show _ ≤ _; dsimp only; omega)))⟩
      · cases z : (f.n == 0)
        · have HS : Hid (treNone c f = { f with p := f.n, pc := 3 }) := Lib.hid (by simp only [treNone, h4, h8, h7, z]; rfl)
          have z2 : decide (0 < f.n) = true := by simp at z; simp; omega
          have z3 : 0 < f.n := by simpa using z2
          go_enter Tryd.func76, Tryd.ntmps76
          go_wp2_with (go_at_call 77; refine (atR_any ({ f with p := f.n }) _ _).mono ?_; rintro e w1 ⟨rfl, os1, n1, rfl⟩)
          all_goals refine bodyPost_ret (v := Frm.v { f with p := f.n, pc := 3 }) (by simp [results, Tryd.results76, go_sem]) rfl ⟨by rw [HS.out], (by repeat (first | with_reducible exact Ext.refl _ | with_reducible assumption | with_reducible refine Ext.alloc ?_ _ | with_reducible refine Ext.gr ?_ _ | with_reducible refine Ext.drewN ?_ _ | with_reducible refine Ext.drew ?_ | with_reducible refine Ext.setCell ?_ ?_ _ | with_reducible refine Ext.more ?_ _ _ | (show _ ≤ _; dsimp only; omega)))⟩
        · have HS : Hid (treNone c f = { f with p := f.n, pc := 21 }) := Lib.hid (by simp only [treNone, h4, h8, h7, z]; rfl)
          have z2 : decide (0 < f.n) = false := by simp at z; simp; omega
          have z3 : ¬ 0 < f.n := by simpa using z2
          go_enter Tryd.func76, Tryd.ntmps76
          go_wp2_with (go_at_call 77; refine (atR_any ({ f with p := f.n }) _ _).mono ?_; rintro e w1 ⟨rfl, os1, n1, rfl⟩)
          all_goals refine bodyPost_ret (v := Frm.v { f with p := f.n, pc := 21 }) (by simp [results, Tryd.results76, go_sem]) rfl ⟨by rw [HS.out], (by repeat (first | with_reducible exact Ext.refl _ | with_reducible assumption | with_reducible refine Ext.alloc ?_ _ | with_reducible refine Ext.gr ?_ _ | with_reducible refine Ext.drewN ?_ _ | with_reducible refine Ext.drew ?_ | with_reducible refine Ext.setCell ?_ ?_ _ | with_reducible refine Ext.more ?_ _ _ | (show _ ≤ _; dsimp only; omega)))⟩
    · have HS : Hid (treNone c f = { f with p := f.n, pc := 20 }) := Lib.hid (by simp only [treNone, h4, h8]; rfl)
      go_enter Tryd.func76, Tryd.ntmps76
      go_wp2_with (go_at_call 77; refine (atR_any ({ f with p := f.n }) _ _).mono ?_; rintro e w1 ⟨rfl, os1, n1, rfl⟩)
      all_goals refine bodyPost_ret (v := Frm.v { f with p := f.n, pc := 20 }) (by simp [results, Tryd.results76, go_sem]) rfl ⟨by rw [HS.out], (by repeat (first | with_reducible exact Ext.refl _ | with_reducible assumption | with_reducible refine Ext.alloc ?_ _ | with_reducible refine Ext.gr ?_ _ | with_reducible refine Ext.drewN ?_ _ | with_reducible refine Ext.drew ?_ | with_reducible refine Ext.setCell ?_ ?_ _ | with_reducible refine Ext.more ?_ _ _ | (show _ ≤ _; dsimp only; omega)))⟩
  · have HS : Hid (treNone c f = treFresh c { f with p := f.n }) := Lib.hid (by simp only [treNone, h4]; rfl)
    go_enter Tryd.func76, Tryd.ntmps76
    go_wp2_with (go_at_call 100; refine (freshR_any c ({ f with p := f.n }) HFF.out _).mono ?_; rintro e w1 ⟨rfl, os1, n1, rfl⟩)
    all_goals refine bodyPost_ret (v := Frm.v (treFresh c { f with p := f.n })) (by simp [results, Tryd.results76, go_sem]) rfl ⟨by rw [HS.out], (by repeat (first | with_reducible exact Ext.refl _ | with_reducible assumption | with_reducible refine Ext.alloc ?_ _ | with_reducible refine Ext.gr ?_ _ | with_reducible refine Ext.drewN ?_ _ | with_reducible refine Ext.drew ?_ | with_reducible refine Ext.setCell ?_ ?_ _ | with_reducible refine Ext.more ?_ _ _ | (show _ ≤ _; dsimp only; omega)))⟩
end Go.Proofs.YtkklhhdkokncnaaDoor
