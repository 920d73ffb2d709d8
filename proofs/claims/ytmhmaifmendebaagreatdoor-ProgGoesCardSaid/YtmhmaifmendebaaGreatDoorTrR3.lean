/- The walks of the reference of layer 'trie': what a frame is behind its act. -/
import Derived.Test.YtmhmaifmendebaaGreatDoorTF
namespace Go.Proofs.YtmhmaifmendebaaGreatDoor.trie
open Go Go.RowKit
set_option maxRecDepth 100000
set_option maxHeartbeats 8000000

theorem lookR_any (c : Cfg) (f : Frm) (hf : f.Fits) (l : Cel) (hl : l.Fits) (hh : f.h ≤ 6) (hb : 1 ≤ c.bits ∧ c.bits ≤ 6) (w : World) : Calls Tryz.prog 76 #[c.v, f.v, l.v] w
    fun e w' => e = .returned (trLook c f l).v ∧ Ext w w' := by
  obtain ⟨X, hX⟩ : ∃ X, l.a % 4294967296 = X := ⟨_, rfl⟩
  have HX := Lib.hid hX
  obtain ⟨⟨k0, k1⟩, ⟨a0, a1⟩, ⟨b0, b1⟩, ⟨p0, p1⟩, ⟨i0, i1⟩, ⟨j0, j1⟩, ⟨m0, m1⟩, ⟨q0, q1⟩, ⟨h0, h1⟩, ⟨x0, x1⟩, ⟨y0, y1⟩⟩ := hf
  obtain ⟨⟨t0, t1⟩, ⟨la0, la1⟩, ⟨lb0, lb1⟩, ⟨lc0, lc1⟩⟩ := hl
  obtain ⟨cb0, cb1⟩ := hb
  have hx2 : 0 ≤ X ∧ X ≤ 4294967295 := by omega
  cases xz : (X == 0)
  · skip
    have xz' : (X != 0) = true := by simpa using xz
    have e0 : (l.b == 1) = true ∨ (l.b == 1) = false := by cases (l.b == 1) <;> simp
    by_cases hon : f.h < c.bits ∧ 1 < l.b
    · obtain ⟨hon1, hon2⟩ := hon
      have hon : f.h < c.bits ∧ 1 < l.b := ⟨hon1, hon2⟩
      have b1 : decide (1 < l.b) = true := by simpa using hon2
      have HS : Hid (trLook c f l = { { f with x := X } with h := f.h + 1 }) := Lib.hid (by simp only [trLook, trLooked, HX.out, xz, if_pos hon]; rfl)
      have d1 : decide (f.h < c.bits) = true := by simpa using hon1
      clear hon hon1 hon2
      go_enter Tryz.func76, Tryz.ntmps76
      go_wp2
      refine bodyPost_ret (v := ({ { f with x := X } with h := f.h + 1 } : Frm).v) (by simp [results, Tryz.results76, go_sem]) rfl ⟨by rw [HS.out], EX⟩
    · by_cases hon1 : f.h < c.bits
      · have hon2 : ¬ 1 < l.b := fun h => hon ⟨hon1, h⟩
        have d1 : decide (f.h < c.bits) = true := by simpa using hon1
        have b1 : decide (1 < l.b) = false := by simpa using hon2
        rcases e0 with e0 | e0
        · skip
          have HS : Hid (trLook c f l = { { f with x := X } with pc := 6 }) := Lib.hid (by simp only [trLook, trLooked, HX.out, xz, if_neg hon]; rfl)
          clear hon hon1 hon2
          go_enter Tryz.func76, Tryz.ntmps76
          go_wp2
          refine bodyPost_ret (v := ({ { f with x := X } with pc := 6 } : Frm).v) (by simp [results, Tryz.results76, go_sem]) rfl ⟨by rw [HS.out], EX⟩
        · skip
          have HS : Hid (trLook c f l = { { f with x := X } with pc := 6 }) := Lib.hid (by simp only [trLook, trLooked, HX.out, xz, if_neg hon]; rfl)
          clear hon hon1 hon2
          go_enter Tryz.func76, Tryz.ntmps76
          go_wp2
          refine bodyPost_ret (v := ({ { f with x := X } with pc := 6 } : Frm).v) (by simp [results, Tryz.results76, go_sem]) rfl ⟨by rw [HS.out], EX⟩
      · have d1 : decide (f.h < c.bits) = false := by simpa using hon1
        cases b1 : decide (1 < l.b)
        · rcases e0 with e0 | e0
          · skip
            have HS : Hid (trLook c f l = { { f with x := X } with pc := 6 }) := Lib.hid (by simp only [trLook, trLooked, HX.out, xz, if_neg hon]; rfl)
            clear hon hon1
            go_enter Tryz.func76, Tryz.ntmps76
            go_wp2
            refine bodyPost_ret (v := ({ { f with x := X } with pc := 6 } : Frm).v) (by simp [results, Tryz.results76, go_sem]) rfl ⟨by rw [HS.out], EX⟩
          · skip
            have HS : Hid (trLook c f l = { { f with x := X } with pc := 6 }) := Lib.hid (by simp only [trLook, trLooked, HX.out, xz, if_neg hon]; rfl)
            clear hon hon1
            go_enter Tryz.func76, Tryz.ntmps76
            go_wp2
            refine bodyPost_ret (v := ({ { f with x := X } with pc := 6 } : Frm).v) (by simp [results, Tryz.results76, go_sem]) rfl ⟨by rw [HS.out], EX⟩
        · skip
          have HS : Hid (trLook c f l = { { f with x := X } with pc := 6 }) := Lib.hid (by simp only [trLook, trLooked, HX.out, xz, if_neg hon]; rfl)
          clear hon hon1
          go_enter Tryz.func76, Tryz.ntmps76
          go_wp2
          refine bodyPost_ret (v := ({ { f with x := X } with pc := 6 } : Frm).v) (by simp [results, Tryz.results76, go_sem]) rfl ⟨by rw [HS.out], EX⟩
  · skip
    have xz' : (X != 0) = false := by simpa using xz
    have e0 : (l.b == 1) = true ∨ (l.b == 1) = false := by cases (l.b == 1) <;> simp
    by_cases hon : f.h < c.bits ∧ 0 < l.b
    · obtain ⟨hon1, hon2⟩ := hon
      have hon : f.h < c.bits ∧ 0 < l.b := ⟨hon1, hon2⟩
      cases b1 : decide (1 < l.b)
      · have b2 : (l.b == 1) = true := by simp at b1; simp; omega
        have HS : Hid (trLook c f l = { f with h := f.h + 1 }) := Lib.hid (by simp only [trLook, trLooked, HX.out, xz, if_pos hon]; rfl)
        have d1 : decide (f.h < c.bits) = true := by simpa using hon1
        clear hon hon1 hon2
        go_enter Tryz.func76, Tryz.ntmps76
        go_wp2
        refine bodyPost_ret (v := ({ f with h := f.h + 1 } : Frm).v) (by simp [results, Tryz.results76, go_sem]) rfl ⟨by rw [HS.out], EX⟩
      · skip
        have HS : Hid (trLook c f l = { f with h := f.h + 1 }) := Lib.hid (by simp only [trLook, trLooked, HX.out, xz, if_pos hon]; rfl)
        have d1 : decide (f.h < c.bits) = true := by simpa using hon1
        clear hon hon1 hon2
        go_enter Tryz.func76, Tryz.ntmps76
        go_wp2
        refine bodyPost_ret (v := ({ f with h := f.h + 1 } : Frm).v) (by simp [results, Tryz.results76, go_sem]) rfl ⟨by rw [HS.out], EX⟩
    · by_cases hon1 : f.h < c.bits
      · have hon2 : ¬ 0 < l.b := fun h => hon ⟨hon1, h⟩
        have d1 : decide (f.h < c.bits) = true := by simpa using hon1
        have b1 : decide (1 < l.b) = false := by simp; omega
        have b2 : (l.b == 1) = false := by simp; omega
        cases fx : (f.x == 0)
        · have fx' : (f.x != 0) = true := by simpa using fx
          have HS : Hid (trLook c f l = { f with pc := 6 }) := Lib.hid (by simp only [trLook, trLooked, HX.out, xz, if_neg hon, fx]; rfl)
          clear hon hon1 hon2
          go_enter Tryz.func76, Tryz.ntmps76
          go_wp2
          refine bodyPost_ret (v := ({ f with pc := 6 } : Frm).v) (by simp [results, Tryz.results76, go_sem]) rfl ⟨by rw [HS.out], EX⟩
        · have fx' : (f.x != 0) = false := by simpa using fx
          have HS : Hid (trLook c f l = { f with pc := 8 }) := Lib.hid (by simp only [trLook, trLooked, HX.out, xz, if_neg hon, fx]; rfl)
          clear hon hon1 hon2
          go_enter Tryz.func76, Tryz.ntmps76
          go_wp2
          refine bodyPost_ret (v := ({ f with pc := 8 } : Frm).v) (by simp [results, Tryz.results76, go_sem]) rfl ⟨by rw [HS.out], EX⟩
      · have d1 : decide (f.h < c.bits) = false := by simpa using hon1
        cases b1 : decide (1 < l.b)
        · rcases e0 with e0 | e0
          · skip
            cases fx : (f.x == 0)
            · have fx' : (f.x != 0) = true := by simpa using fx
              have HS : Hid (trLook c f l = { f with pc := 6 }) := Lib.hid (by simp only [trLook, trLooked, HX.out, xz, if_neg hon, fx]; rfl)
              clear hon hon1
              go_enter Tryz.func76, Tryz.ntmps76
              go_wp2
              refine bodyPost_ret (v := ({ f with pc := 6 } : Frm).v) (by simp [results, Tryz.results76, go_sem]) rfl ⟨by rw [HS.out], EX⟩
            · have fx' : (f.x != 0) = false := by simpa using fx
              have HS : Hid (trLook c f l = { f with pc := 8 }) := Lib.hid (by simp only [trLook, trLooked, HX.out, xz, if_neg hon, fx]; rfl)
              clear hon hon1
              go_enter Tryz.func76, Tryz.ntmps76
              go_wp2
              refine bodyPost_ret (v := ({ f with pc := 8 } : Frm).v) (by simp [results, Tryz.results76, go_sem]) rfl ⟨by rw [HS.out], EX⟩
          · skip
            cases fx : (f.x == 0)
            · have fx' : (f.x != 0) = true := by simpa using fx
              have HS : Hid (trLook c f l = { f with pc := 6 }) := Lib.hid (by simp only [trLook, trLooked, HX.out, xz, if_neg hon, fx]; rfl)
              clear hon hon1
              go_enter Tryz.func76, Tryz.ntmps76
              go_wp2
              refine bodyPost_ret (v := ({ f with pc := 6 } : Frm).v) (by simp [results, Tryz.results76, go_sem]) rfl ⟨by rw [HS.out], EX⟩
            · have fx' : (f.x != 0) = false := by simpa using fx
              have HS : Hid (trLook c f l = { f with pc := 8 }) := Lib.hid (by simp only [trLook, trLooked, HX.out, xz, if_neg hon, fx]; rfl)
              clear hon hon1
              go_enter Tryz.func76, Tryz.ntmps76
              go_wp2
              refine bodyPost_ret (v := ({ f with pc := 8 } : Frm).v) (by simp [results, Tryz.results76, go_sem]) rfl ⟨by rw [HS.out], EX⟩
        · skip
          cases fx : (f.x == 0)
          · have fx' : (f.x != 0) = true := by simpa using fx
            have HS : Hid (trLook c f l = { f with pc := 6 }) := Lib.hid (by simp only [trLook, trLooked, HX.out, xz, if_neg hon, fx]; rfl)
            clear hon hon1
            go_enter Tryz.func76, Tryz.ntmps76
            go_wp2
            refine bodyPost_ret (v := ({ f with pc := 6 } : Frm).v) (by simp [results, Tryz.results76, go_sem]) rfl ⟨by rw [HS.out], EX⟩
          · have fx' : (f.x != 0) = false := by simpa using fx
            have HS : Hid (trLook c f l = { f with pc := 8 }) := Lib.hid (by simp only [trLook, trLooked, HX.out, xz, if_neg hon, fx]; rfl)
            clear hon hon1
            go_enter Tryz.func76, Tryz.ntmps76
            go_wp2
            refine bodyPost_ret (v := ({ f with pc := 8 } : Frm).v) (by simp [results, Tryz.results76, go_sem]) rfl ⟨by rw [HS.out], EX⟩

theorem trBehindR_any (c : Cfg) (f : Frm) (hf : f.Fits) (l : Cel) (hl : l.Fits) (ht : TrFacts c f) (w : World) : Calls Tryz.prog 40 #[c.v, f.v, l.v] w
    fun e w' => e = .returned (trBehind c f l).v ∧ Ext w w' := by
  have HF := Lib.hid hf
  have HL := Lib.hid hl
  have HBITS := Lib.hid ht.bits
  have hh6 : f.h ≤ 6 := by have := ht.h; have := ht.most; omega
  have HH6 := Lib.hid hh6
  obtain ⟨X, hX⟩ : ∃ X, l.a % 4294967296 = X := ⟨_, rfl⟩
  obtain ⟨N, hN⟩ : ∃ N, l.b % 64 = N := ⟨_, rfl⟩
  have HX := Lib.hid hX
  have HN := Lib.hid hN
  have hpc := tr_pc hf ht
  have hkk := ht.kind
  obtain ⟨c0, c1⟩ := ht.cap
  obtain ⟨⟨k0, k1⟩, ⟨a0, a1⟩, ⟨b0, b1⟩, ⟨p0, p1⟩, ⟨i0, i1⟩, ⟨j0, j1⟩, ⟨m0, m1⟩, ⟨q0, q1⟩, ⟨h0, h1⟩, ⟨x0, x1⟩, ⟨y0, y1⟩⟩ := hf
  obtain ⟨⟨t0, t1⟩, ⟨la0, la1⟩, ⟨lb0, lb1⟩, ⟨lc0, lc1⟩⟩ := hl
  have hx2 : 0 ≤ X ∧ X ≤ 4294967295 := by omega
  have hn2 : 0 ≤ N ∧ N ≤ 63 := by omega
  have hwc : IntKind.u64.wrap c.cap = c.cap := by rw [IntKind.wrap_u64]; omega
  clear ht
  cases k3 : (f.kind == 3)
  · have hpc0 := hpc
    rcases hpc0 with hp | hp | hp | hp | hp | hp | hp | hp
    · have hp' : (f.pc == 0) = true := by simpa using hp
      have hp2 : (f.pc == 2) = false := by rw [hp]; rfl
      cases k1' : (f.kind == 1)
      · cases xz : (X == 0)
        · have xz' : (X != 0) = true := by simpa using xz
          have HS : Hid (trBehind c f l = { f with x := X, n := N, pc := 2, h := 0 }) := Lib.hid (by simp only [trBehind, k3, HX.out, HN.out, hp, k1', xz]; rfl)
          clear hkk hpc hp
          go_enter Tryz.func40, Tryz.ntmps40
          go_wp2
          refine bodyPost_ret (v := ({ f with x := X, n := N, pc := 2, h := 0 } : Frm).v) (by simp [results, Tryz.results40, go_sem]) rfl ⟨by rw [HS.out], EX⟩
        · have xz' : (X != 0) = false := by simpa using xz
          have HS : Hid (trBehind c f l = { f with x := X, n := N, pc := 8 }) := Lib.hid (by simp only [trBehind, k3, HX.out, HN.out, hp, k1', xz]; rfl)
          clear hkk hpc hp
          go_enter Tryz.func40, Tryz.ntmps40
          go_wp2
          refine bodyPost_ret (v := ({ f with x := X, n := N, pc := 8 } : Frm).v) (by simp [results, Tryz.results40, go_sem]) rfl ⟨by rw [HS.out], EX⟩
      · cases xz : (X == 0)
        · have xz' : (X != 0) = true := by simpa using xz
          have HS : Hid (trBehind c f l = { f with x := X, n := N, pc := 5 }) := Lib.hid (by simp only [trBehind, k3, HX.out, HN.out, hp, k1', xz]; rfl)
          clear hkk hpc hp
          go_enter Tryz.func40, Tryz.ntmps40
          go_wp2
          refine bodyPost_ret (v := ({ f with x := X, n := N, pc := 5 } : Frm).v) (by simp [results, Tryz.results40, go_sem]) rfl ⟨by rw [HS.out], EX⟩
        · have xz' : (X != 0) = false := by simpa using xz
          have HS : Hid (trBehind c f l = { f with x := X, n := N, pc := 1 }) := Lib.hid (by simp only [trBehind, k3, HX.out, HN.out, hp, k1', xz]; rfl)
          clear hkk hpc hp
          go_enter Tryz.func40, Tryz.ntmps40
          go_wp2
          refine bodyPost_ret (v := ({ f with x := X, n := N, pc := 1 } : Frm).v) (by simp [results, Tryz.results40, go_sem]) rfl ⟨by rw [HS.out], EX⟩
    · have hp' : (f.pc == 1) = true := by simpa using hp
      have hp0 : (f.pc == 0) = false := by rw [hp]; rfl
      have hp2 : (f.pc == 2) = false := by rw [hp]; rfl
      by_cases hb : l.b < c.cap
      · have hb' : decide (l.b < c.cap) = true := by simpa using hb
        have HS : Hid (trBehind c f l = { f with pc := 2, h := 0 }) := Lib.hid (by simp only [trBehind, k3, HX.out, HN.out, hp, if_pos hb]; rfl)
        clear hkk hpc hp hb
        go_enter Tryz.func40, Tryz.ntmps40
        go_wp2
        refine bodyPost_ret (v := ({ f with pc := 2, h := 0 } : Frm).v) (by simp [results, Tryz.results40, go_sem]) rfl ⟨by rw [HS.out], EX⟩
      · have hb' : decide (l.b < c.cap) = false := by simpa using hb
        have HS : Hid (trBehind c f l = { f with pc := 7 }) := Lib.hid (by simp only [trBehind, k3, HX.out, HN.out, hp, if_neg hb]; rfl)
        clear hkk hpc hp hb
        go_enter Tryz.func40, Tryz.ntmps40
        go_wp2
        refine bodyPost_ret (v := ({ f with pc := 7 } : Frm).v) (by simp [results, Tryz.results40, go_sem]) rfl ⟨by rw [HS.out], EX⟩
    · have hp' : (f.pc == 2) = true := by simpa using hp
      have hp0 : (f.pc == 0) = false := by rw [hp]; rfl
      have HS : Hid (trBehind c f l = { f with x := X, n := N, pc := 3 }) := Lib.hid (by simp only [trBehind, k3, HX.out, HN.out, hp]; rfl)
      clear hkk hpc hp
      go_enter Tryz.func40, Tryz.ntmps40
      go_wp2
      refine bodyPost_ret (v := ({ f with x := X, n := N, pc := 3 } : Frm).v) (by simp [results, Tryz.results40, go_sem]) rfl ⟨by rw [HS.out], EX⟩
    · have hp' : (f.pc == 3) = true := by simpa using hp
      have hp0 : (f.pc == 0) = false := by rw [hp]; rfl
      have hp2 : (f.pc == 2) = false := by rw [hp]; rfl
      cases z : (f.h == f.b)
      · skip
        have HS : Hid (trBehind c f l = { f with pc := 2, h := f.h + 1 }) := Lib.hid (by simp only [trBehind, k3, HX.out, HN.out, hp, z]; rfl)
        clear hkk hpc hp
        go_enter Tryz.func40, Tryz.ntmps40
        go_wp2
        refine bodyPost_ret (v := ({ f with pc := 2, h := f.h + 1 } : Frm).v) (by simp [results, Tryz.results40, go_sem]) rfl ⟨by rw [HS.out], EX⟩
      · skip
        have HS : Hid (trBehind c f l = { f with pc := 6 }) := Lib.hid (by simp only [trBehind, k3, HX.out, HN.out, hp, z]; rfl)
        clear hkk hpc hp
        go_enter Tryz.func40, Tryz.ntmps40
        go_wp2
        refine bodyPost_ret (v := ({ f with pc := 6 } : Frm).v) (by simp [results, Tryz.results40, go_sem]) rfl ⟨by rw [HS.out], EX⟩
    · have hp' : (f.pc == 5) = true := by simpa using hp
      have hp0 : (f.pc == 0) = false := by rw [hp]; rfl
      have hp2 : (f.pc == 2) = false := by rw [hp]; rfl
      have HS : Hid (trBehind c f l = { f with pc := 6 }) := Lib.hid (by simp only [trBehind, k3, HX.out, HN.out, hp]; rfl)
      clear hkk hpc hp
      go_enter Tryz.func40, Tryz.ntmps40
      go_wp2
      refine bodyPost_ret (v := ({ f with pc := 6 } : Frm).v) (by simp [results, Tryz.results40, go_sem]) rfl ⟨by rw [HS.out], EX⟩
    · have hp' : (f.pc == 6) = true := by simpa using hp
      have hp0 : (f.pc == 0) = false := by rw [hp]; rfl
      have hp2 : (f.pc == 2) = false := by rw [hp]; rfl
      have HS : Hid (trBehind c f l = f) := Lib.hid (by simp only [trBehind, k3, HX.out, HN.out, hp]; rfl)
      clear hkk hpc hp
      go_enter Tryz.func40, Tryz.ntmps40
      go_wp2
      refine bodyPost_ret (v := (f : Frm).v) (by simp [results, Tryz.results40, go_sem]) rfl ⟨by rw [HS.out], EX⟩
    · have hp' : (f.pc == 7) = true := by simpa using hp
      have hp0 : (f.pc == 0) = false := by rw [hp]; rfl
      have hp2 : (f.pc == 2) = false := by rw [hp]; rfl
      have HS : Hid (trBehind c f l = f) := Lib.hid (by simp only [trBehind, k3, HX.out, HN.out, hp]; rfl)
      clear hkk hpc hp
      go_enter Tryz.func40, Tryz.ntmps40
      go_wp2
      refine bodyPost_ret (v := (f : Frm).v) (by simp [results, Tryz.results40, go_sem]) rfl ⟨by rw [HS.out], EX⟩
    · have hp' : (f.pc == 8) = true := by simpa using hp
      have hp0 : (f.pc == 0) = false := by rw [hp]; rfl
      have hp2 : (f.pc == 2) = false := by rw [hp]; rfl
      have HS : Hid (trBehind c f l = f) := Lib.hid (by simp only [trBehind, k3, HX.out, HN.out, hp]; rfl)
      clear hkk hpc hp
      go_enter Tryz.func40, Tryz.ntmps40
      go_wp2
      refine bodyPost_ret (v := (f : Frm).v) (by simp [results, Tryz.results40, go_sem]) rfl ⟨by rw [HS.out], EX⟩
  · cases hp : (f.pc == 0)
    · have HS : Hid (trBehind c f l = f) := Lib.hid (by simp only [trBehind, k3, hp]; rfl)
      clear hkk hpc
      go_enter Tryz.func40, Tryz.ntmps40
      go_wp2
      refine bodyPost_ret (v := f.v) (by simp [results, Tryz.results40, go_sem]) rfl ⟨by rw [HS.out], EX⟩
    · obtain ⟨G, hG⟩ : ∃ G, trLook c f l = G := ⟨_, rfl⟩
      have HLK := Lib.hid hG
      have HS : Hid (trBehind c f l = G) := Lib.hid (by simp only [trBehind, k3, hp]; exact hG)
      clear hkk hpc hG
      go_enter Tryz.func40, Tryz.ntmps40
      go_wp2_with (go_at_call 76; refine (lookR_any c f HF.out l HL.out HH6.out HBITS.out _).mono ?_; rintro e w1 ⟨rfl, os1, n1, rfl⟩; rw [HLK.out])
      refine bodyPost_ret (v := G.v) (by simp [results, Tryz.results40, go_sem]) rfl ⟨by rw [HS.out], EX⟩

theorem trAfterR_any (c : Cfg) (f : Frm) (l : Cel) (hf : f.Fits) (hl : l.Fits) (w : World) : Calls Tryz.prog 17 #[c.v, f.v, l.v] w
    fun e w' => e = .returned (.tuple #[(trAfterA c f l).v, .int .i64 (trErr c f)]) ∧ Ext w w' := by
  have HF := Lib.hid hf
  have HL := Lib.hid hl
  clear hf hl
  cases hp : partOk c
  · have HG := Lib.hid (trErr_conf (f := f) hp)
    have HN : Hid (trAfterA c f l = zeroFrm) := Lib.hid (by simp [trAfterA, HG.out])
    have HC := Lib.hid hp
    clear hp
    go_enter Tryz.func17, Tryz.ntmps17
    go_wp2_with (go_at_call 11; refine (mayBe_any c _).mono ?_; rintro e w1 ⟨rfl, os1, n1, rfl⟩; rw [HC.out])
    (refine bodyPost_ret (v := .tuple #[(zeroFrm).v, .int .i64 40]) (by simp [results, Tryz.results17, go_sem]) rfl ?_)
    exact ⟨by rw [HN.out, HG.out], EX⟩
  · have HC := Lib.hid hp
    cases h2 : (c.object == 1)
    · have HG := Lib.hid (trErr_obj (f := f) h2)
      have HN : Hid (trAfterA c f l = zeroFrm) := Lib.hid (by simp [trAfterA, HG.out])
      clear hp
      go_enter Tryz.func17, Tryz.ntmps17
      go_wp2_with (go_at_call 11; refine (mayBe_any c _).mono ?_; rintro e w1 ⟨rfl, os1, n1, rfl⟩; rw [HC.out])
      (refine bodyPost_ret (v := .tuple #[(zeroFrm).v, .int .i64 40]) (by simp [results, Tryz.results17, go_sem]) rfl ?_)
      exact ⟨by rw [HN.out, HG.out], EX⟩
    · have HOB : Hid (c.object = 1) := Lib.hid (by simpa using h2)
      cases h3 : trMay c f
      · have HG := Lib.hid (trErr_arg hp h2 h3)
        have HN : Hid (trAfterA c f l = zeroFrm) := Lib.hid (by simp [trAfterA, HG.out])
        have HM := Lib.hid h3
        clear hp h3
        go_enter Tryz.func17, Tryz.ntmps17
        go_wp2_with (first | (go_at_call 11; refine (mayBe_any c _).mono ?_; rintro e w1 ⟨rfl, os1, n1, rfl⟩; rw [HC.out]) | (go_at_call 30; refine (trMayR_any c f HF.out HOB.out _).mono ?_; rintro e w2 ⟨rfl, os2, n2, rfl⟩; rw [HM.out]))
        (refine bodyPost_ret (v := .tuple #[(zeroFrm).v, .int .i64 2]) (by simp [results, Tryz.results17, go_sem]) rfl ?_)
        exact ⟨by rw [HN.out, HG.out], EX⟩
      · have HG := Lib.hid (trErr_yes hp h2 h3)
        have HN : Hid (trAfterA c f l = trBehind c f l) := Lib.hid (by simp [trAfterA, HG.out])
        have HM := Lib.hid h3
        have HTF := Lib.hid (trMay_facts HF.out HOB.out h3)
        obtain ⟨R, hR⟩ : ∃ R, trBehind c f l = R := ⟨_, rfl⟩
        have HR := Lib.hid hR
        clear hp h3 hR
        go_enter Tryz.func17, Tryz.ntmps17
        go_wp2_with (first | (go_at_call 11; refine (mayBe_any c _).mono ?_; rintro e w1 ⟨rfl, os1, n1, rfl⟩; rw [HC.out]) | (go_at_call 30; refine (trMayR_any c f HF.out HOB.out _).mono ?_; rintro e w2 ⟨rfl, os2, n2, rfl⟩; rw [HM.out]) | (go_at_call 40; refine (trBehindR_any c f HF.out l HL.out HTF.out _).mono ?_; rintro e w3 ⟨rfl, os3, n3, rfl⟩; rw [HR.out]))
        (refine bodyPost_ret (v := .tuple #[R.v, .int .i64 0]) (by simp [results, Tryz.results17, go_sem]) rfl ?_)
        exact ⟨by rw [HN.out, HG.out, HR.out], EX⟩
end Go.Proofs.YtmhmaifmendebaaGreatDoor.trie
