/- The walks of the reference's steps behind an act, layer 'tree'. -/
import Derived.Test.YtmhmaifmendebaaGreatDoorGh
import Derived.Outline
namespace Go.Proofs.YtmhmaifmendebaaGreatDoor.tree
open Go Go.RowKit
set_option maxRecDepth 100000
set_option maxHeartbeats 8000000

theorem atR_any (f : Frm) (pc : Int) (w : World) : Calls Tryz.prog 79 #[f.v, .int .u8 pc] w fun e w' => e = .returned (Frm.v { f with pc := pc }) ∧ Ext w w' := by
  go_enter Tryz.func79, Tryz.ntmps79
  go_wp2
  refine bodyPost_ret (v := Frm.v { f with pc := pc }) (by simp [results, Tryz.results79, go_sem]) rfl ⟨rfl, EX⟩
theorem overR_any (f : Frm) (l : Cel) (hl : l.Fits) (w : World) : Calls Tryz.prog 81 #[f.v, l.v] w fun e w' => e = .returned (treOver f l).v ∧ Ext w w' := by
  obtain ⟨⟨t0, t1⟩, ⟨la0, la1⟩, ⟨lb0, lb1⟩, ⟨lc0, lc1⟩⟩ := hl
  obtain ⟨X, hX⟩ : ∃ X, l.a % 4294967296 = X := ⟨_, rfl⟩
  obtain ⟨Y, hY⟩ : ∃ X, l.b % 4294967296 = X := ⟨_, rfl⟩
  have hx : 0 ≤ X ∧ X ≤ 4294967295 := by omega
  have hy : 0 ≤ Y ∧ Y ≤ 4294967295 := by omega
  have HS : Hid (treOver f l = { f with x := X, y := Y }) := Lib.hid (by simp only [treOver, hX, hY])
  go_enter Tryz.func81, Tryz.ntmps81
  go_wp2
  refine bodyPost_ret (v := Frm.v { f with x := X, y := Y }) (by simp [results, Tryz.results81, go_sem]) rfl ⟨by rw [HS.out], EX⟩
theorem rowR_any (f : Frm) (hf : f.Fits) (w : World) : Calls Tryz.prog 42 #[f.v] w fun e w' => e = .returned (.agg #[.int .u64 f.x, .int .u64 f.y]) ∧ Ext w w' := by
  obtain ⟨x0, x1⟩ := hf.x
  obtain ⟨y0, y1⟩ := hf.y
  go_enter Tryz.func42, Tryz.ntmps42
  go_wp2
  refine bodyPost_ret (v := .agg #[.int .u64 f.x, .int .u64 f.y]) (by simp [results, Tryz.results42, go_sem]) rfl ⟨rfl, EX⟩
theorem freshR_any (c : Cfg) (f : Frm) (hf : f.Fits) (w : World) : Calls Tryz.prog 120 #[c.v, f.v] w fun e w' => e = .returned (treFresh c f).v ∧ Ext w w' := by
  obtain ⟨n0, n1⟩ := hf.n
  obtain ⟨p0, p1⟩ := hf.p
  clear hf
  cases h : decide (c.cap ≤ f.n)
  · cases h2 : decide (f.n ≤ f.p)
    · have HS : Hid (treFresh c f = { f with pc := 5, i := f.n }) := Lib.hid (by simp at h h2; simp only [treFresh]; rw [if_neg (by omega), if_neg (by omega)])
      go_enter Tryz.func120, Tryz.ntmps120
      go_wp2_with (go_at_call 79; refine (atR_any ({ f with i := f.n }) _ _).mono ?_; rintro e w1 ⟨rfl, os1, n1, rfl⟩)
      refine bodyPost_ret (v := Frm.v { f with pc := 5, i := f.n }) (by simp [results, Tryz.results120, go_sem]) rfl ⟨by rw [HS.out], EX⟩
    · have HS : Hid (treFresh c f = { f with pc := 7 }) := Lib.hid (by simp at h h2; simp only [treFresh]; rw [if_neg (by omega), if_pos (by omega)])
      go_enter Tryz.func120, Tryz.ntmps120
      go_wp2_with (go_at_call 79; refine (atR_any (f) _ _).mono ?_; rintro e w1 ⟨rfl, os1, n1, rfl⟩)
      refine bodyPost_ret (v := Frm.v { f with pc := 7 }) (by simp [results, Tryz.results120, go_sem]) rfl ⟨by rw [HS.out], EX⟩
  · have HS : Hid (treFresh c f = { f with pc := 22 }) := Lib.hid (by simp at h; simp only [treFresh]; rw [if_pos (by omega)])
    go_enter Tryz.func120, Tryz.ntmps120
    go_wp2_with (go_at_call 79; refine (atR_any (f) _ _).mono ?_; rintro e w1 ⟨rfl, os1, n1, rfl⟩)
    refine bodyPost_ret (v := Frm.v { f with pc := 22 }) (by simp [results, Tryz.results120, go_sem]) rfl ⟨by rw [HS.out], EX⟩
theorem goR_any (f : Frm) (hp : 0 ≤ f.p ∧ f.p ≤ 32) (hn : 0 ≤ f.n ∧ f.n ≤ 40) (w : World) : Calls Tryz.prog 84 #[f.v] w fun e w' => e = .returned (treGo f).v ∧ Ext w w' := by
  obtain ⟨p0, p1⟩ := hp
  obtain ⟨n0, n1⟩ := hn
  have hw1 : IntKind.u8.wrap (f.p + 1) = f.p + 1 := by rw [IntKind.wrap_u8]; omega
  have hw2 : (f.p + 1) % 256 = f.p + 1 := by omega
  cases h : decide (f.n ≤ f.p + 1)
  · have HS : Hid (treGo f = { f with pc := 17, p := f.p + 1 }) := Lib.hid (by simp at h; simp only [treGo]; rw [if_neg (by omega)])
    go_enter Tryz.func84, Tryz.ntmps84
    go_wp2_with (go_at_call 79; refine (atR_any ({ f with p := f.p + 1 }) _ _).mono ?_; rintro e w1 ⟨rfl, os1, n1, rfl⟩)
    refine bodyPost_ret (v := Frm.v { f with pc := 17, p := f.p + 1 }) (by simp [results, Tryz.results84, go_sem]) rfl ⟨by rw [HS.out], EX⟩
  · have HS : Hid (treGo f = { f with pc := 20 }) := Lib.hid (by simp at h; simp only [treGo]; rw [if_pos (by omega)])
    go_enter Tryz.func84, Tryz.ntmps84
    go_wp2_with (go_at_call 79; refine (atR_any (f) _ _).mono ?_; rintro e w1 ⟨rfl, os1, n1, rfl⟩)
    refine bodyPost_ret (v := Frm.v { f with pc := 20 }) (by simp [results, Tryz.results84, go_sem]) rfl ⟨by rw [HS.out], EX⟩
end Go.Proofs.YtmhmaifmendebaaGreatDoor.tree
/- The walks of the reference's steps behind an act, layer 'tree': a row of a scan, found, none. -/
namespace Go.Proofs.YtmhmaifmendebaaGreatDoor.tree
open Go Go.RowKit
set_option maxRecDepth 100000
set_option maxHeartbeats 8000000

abbrev tupFB (x : Frm × Bool) : Value := .tuple #[x.1.v, .bool x.2]
theorem onR_any (c : Cfg) (f : Frm) (hp : 0 ≤ f.p ∧ f.p ≤ 32) (hn : 0 ≤ f.n ∧ f.n ≤ 40) (hj : 0 ≤ f.j ∧ f.j ≤ 40) (w : World) : Calls Tryz.prog 85 #[c.v, f.v] w fun e w' => e = .returned (tupFB (treOn c f)) ∧ Ext w w' := by
  obtain ⟨j0, j1⟩ := hj
  have hw1 : IntKind.u8.wrap (f.j + 1) = f.j + 1 := by rw [IntKind.wrap_u8]; omega
  have hw2 : (f.j + 1) % 256 = f.j + 1 := by omega
  cases h : decide (f.b < f.x)
  · cases h2 : decide (c.chunk ≤ f.j + 1)
    · have HS : Hid (treOn c f = (treGo { f with j := f.j + 1 }, true)) := Lib.hid (by simp at h h2; simp only [treOn]; rw [if_neg (by omega), if_neg (by omega)])
      go_enter Tryz.func85, Tryz.ntmps85
      go_wp2_with (go_at_call 84; refine (goR_any { f with j := f.j + 1 } hp hn _).mono ?_; rintro e w1 ⟨rfl, os1, n1, rfl⟩)
      refine bodyPost_ret (v := tupFB (treGo { f with j := f.j + 1 }, true)) (by simp [results, Tryz.results85, go_sem]) rfl ⟨by rw [HS.out], EX⟩
    · have HS : Hid (treOn c f = ({ f with j := f.j + 1, pc := 16 }, true)) := Lib.hid (by simp at h h2; simp only [treOn]; rw [if_neg (by omega), if_pos (by omega)])
      go_enter Tryz.func85, Tryz.ntmps85
      go_wp2_with (go_at_call 79; refine (atR_any ({ f with j := f.j + 1 }) _ _).mono ?_; rintro e w1 ⟨rfl, os1, n1, rfl⟩)
      refine bodyPost_ret (v := tupFB ({ f with j := f.j + 1, pc := 16 }, true)) (by simp [results, Tryz.results85, go_sem]) rfl ⟨by rw [HS.out], EX⟩
  · have HS : Hid (treOn c f = ({ f with pc := 20 }, false)) := Lib.hid (by simp at h; simp only [treOn]; rw [if_pos (by omega)])
    go_enter Tryz.func85, Tryz.ntmps85
    go_wp2_with (go_at_call 79; refine (atR_any (f) _ _).mono ?_; rintro e w1 ⟨rfl, os1, n1, rfl⟩)
    refine bodyPost_ret (v := tupFB ({ f with pc := 20 }, false)) (by simp [results, Tryz.results85, go_sem]) rfl ⟨by rw [HS.out], EX⟩
theorem noneR_any (c : Cfg) (f : Frm) (hf : f.Fits) (w : World) : Calls Tryz.prog 77 #[c.v, f.v] w fun e w' => e = .returned (treNone c f).v ∧ Ext w w' := by
  have hff : Frm.Fits { f with p := f.n } := ⟨hf.kind, hf.a, hf.b, hf.pc, hf.i, hf.j, hf.n, hf.n, hf.h, hf.x, hf.y⟩
  have HFF := Lib.hid hff
  obtain ⟨n0, n1⟩ := hf.n
  clear hf hff
  cases h4 : (f.kind == 4)
  · cases h8 : (f.kind == 8)
    · cases h7 : (f.kind == 7)
      · have HS : Hid (treNone c f = { f with p := f.n, pc := 21 }) := Lib.hid (by simp only [treNone, h4, h8, h7]; rfl)
        go_enter Tryz.func77, Tryz.ntmps77
        go_wp2_with (go_at_call 79; refine (atR_any ({ f with p := f.n }) _ _).mono ?_; rintro e w1 ⟨rfl, os1, n1, rfl⟩)
        all_goals refine bodyPost_ret (v := Frm.v { f with p := f.n, pc := 21 }) (by simp [results, Tryz.results77, go_sem]) rfl ⟨by rw [HS.out], EX⟩
      · cases z : (f.n == 0)
        · have HS : Hid (treNone c f = { f with p := f.n, pc := 3 }) := Lib.hid (by simp only [treNone, h4, h8, h7, z]; rfl)
          have z2 : decide (0 < f.n) = true := by simp at z; simp; omega
          have z3 : 0 < f.n := by simpa using z2
          go_enter Tryz.func77, Tryz.ntmps77
          go_wp2_with (go_at_call 79; refine (atR_any ({ f with p := f.n }) _ _).mono ?_; rintro e w1 ⟨rfl, os1, n1, rfl⟩)
          all_goals refine bodyPost_ret (v := Frm.v { f with p := f.n, pc := 3 }) (by simp [results, Tryz.results77, go_sem]) rfl ⟨by rw [HS.out], EX⟩
        · have HS : Hid (treNone c f = { f with p := f.n, pc := 21 }) := Lib.hid (by simp only [treNone, h4, h8, h7, z]; rfl)
          have z2 : decide (0 < f.n) = false := by simp at z; simp; omega
          have z3 : ¬ 0 < f.n := by simpa using z2
          go_enter Tryz.func77, Tryz.ntmps77
          go_wp2_with (go_at_call 79; refine (atR_any ({ f with p := f.n }) _ _).mono ?_; rintro e w1 ⟨rfl, os1, n1, rfl⟩)
          all_goals refine bodyPost_ret (v := Frm.v { f with p := f.n, pc := 21 }) (by simp [results, Tryz.results77, go_sem]) rfl ⟨by rw [HS.out], EX⟩
    · have HS : Hid (treNone c f = { f with p := f.n, pc := 20 }) := Lib.hid (by simp only [treNone, h4, h8]; rfl)
      go_enter Tryz.func77, Tryz.ntmps77
      go_wp2_with (go_at_call 79; refine (atR_any ({ f with p := f.n }) _ _).mono ?_; rintro e w1 ⟨rfl, os1, n1, rfl⟩)
      all_goals refine bodyPost_ret (v := Frm.v { f with p := f.n, pc := 20 }) (by simp [results, Tryz.results77, go_sem]) rfl ⟨by rw [HS.out], EX⟩
  · have HS : Hid (treNone c f = treFresh c { f with p := f.n }) := Lib.hid (by simp only [treNone, h4]; rfl)
    go_enter Tryz.func77, Tryz.ntmps77
    go_wp2_with (go_at_call 120; refine (freshR_any c ({ f with p := f.n }) HFF.out _).mono ?_; rintro e w1 ⟨rfl, os1, n1, rfl⟩)
    all_goals refine bodyPost_ret (v := Frm.v (treFresh c { f with p := f.n })) (by simp [results, Tryz.results77, go_sem]) rfl ⟨by rw [HS.out], EX⟩
end Go.Proofs.YtmhmaifmendebaaGreatDoor.tree
