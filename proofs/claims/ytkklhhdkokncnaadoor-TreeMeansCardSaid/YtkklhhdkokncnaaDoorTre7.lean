/- The walks of the steps of the layer 'tree': taking over, telling, the next row, a new key. -/
import Derived.Test.YtkklhhdkokncnaaDoorGg
import Derived.BigRegion
import Derived.Outline
namespace Go.Proofs.YtkklhhdkokncnaaDoor
open Go Go.RowKit
set_option maxRecDepth 100000
set_option maxHeartbeats 8000000

/-- The world with another block in the place of the one behind V. -/
def swp (o : Obj) (V w : World) : World := { w with heap := w.heap.setIfInBounds V.heap.size o }
theorem swp_drew (o : Obj) (V w : World) : swp o V w.drew = (swp o V w).drew := rfl
theorem swp_alloc (o : Obj) (V w : World) (p : Obj) (h : V.heap.size < w.heap.size) : swp o V (w.alloc p) = (swp o V w).alloc p := by
  show ({ w with heap := (w.heap.push p).setIfInBounds V.heap.size o } : World) = { w with heap := (w.heap.setIfInBounds V.heap.size o).push p }
  congr 1
  refine Array.ext_getElem? fun k => ?_
  simp only [Array.getElem?_push, Array.getElem?_setIfInBounds, Array.size_setIfInBounds, Array.size_push]
  by_cases e : V.heap.size = k
  · subst e
    simp [show V.heap.size < w.heap.size + 1 by omega, show V.heap.size ≠ w.heap.size by omega, h]
  · simp [e]
theorem swp_grew (o : Obj) (V w : World) (os : Array Obj) (d : Nat) (h : V.heap.size < w.heap.size) : swp o V (grew w os d) = grew (swp o V w) os d := by
  simp only [swp, grew]
  congr 1
  refine Array.ext_getElem? fun k => ?_
  rw [Array.getElem?_setIfInBounds, Array.getElem?_append, Array.getElem?_append, Array.getElem?_setIfInBounds, Array.size_setIfInBounds, Array.size_append]
  by_cases e : V.heap.size = k
  · subst e
    rw [if_pos rfl, if_pos (by omega), if_pos h, if_pos rfl, if_pos h]
  · rw [if_neg e, if_neg e]
theorem swp_new (o : Obj) (V : World) (p : Obj) : swp o V (V.alloc p) = V.alloc o := by
  show ({ V with heap := (V.heap.push p).setIfInBounds V.heap.size o } : World) = { V with heap := V.heap.push o }
  congr 1
  refine Array.ext_getElem? fun k => ?_
  rw [Array.getElem?_setIfInBounds, Array.getElem?_push, Array.getElem?_push, Array.size_push]
  by_cases e : V.heap.size = k
  · subst e
    rw [if_pos rfl, if_pos (by omega), if_pos rfl]
  · rw [if_neg e, if_neg (fun h => e h.symm), if_neg (fun h => e h.symm)]
theorem swp_a (o p : Obj) (V : World) (os : Array Obj) (d : Nat) : swp o V (grew (V.alloc p) os d) = grew (V.alloc o) os d := by
  rw [swp_grew _ _ _ _ _ (by simp), swp_new]
theorem swp_b (o p q : Obj) (V : World) (os : Array Obj) (d : Nat) : swp o V ((grew (V.alloc p) os d).alloc q) = (grew (V.alloc o) os d).alloc q := by
  rw [swp_alloc _ _ _ _ (by simp [go_sem]), swp_a]
theorem swp_c (o p q : Obj) (V : World) (os os2 : Array Obj) (d d2 : Nat) : swp o V (grew ((grew (V.alloc p) os d).alloc q) os2 d2) = grew ((grew (V.alloc o) os d).alloc q) os2 d2 := by
  rw [swp_grew _ _ _ _ _ (by simp [go_sem]), swp_b]

/-- What a run holds that turns: its frame, the row, whether it is told. -/
structure TR where
  f : Frm
  k : Int
  v : Int
  t : Bool
abbrev trA (c : Cfg) (s : Value) (R : TR) : Array Value := trArr c R.f s R.k R.v R.t
def tTake (R : TR) (l : Cel) : TR := { R with f := treOver R.f l }
def tTell (R : TR) : TR := { R with k := R.f.x, v := R.f.y, t := true }
def tNext (R : TR) : TR := { R with f := treGo R.f }
def tFresh (c : Cfg) (R : TR) : TR := { R with f := treFresh c R.f }
def tScan (c : Cfg) (R : TR) : TR :=
  if R.f.b < R.f.x then { R with f := { R.f with pc := 20 } }
  else if c.chunk ≤ R.f.j + 1 then { f := { R.f with j := R.f.j + 1, pc := 16 }, k := R.f.x, v := R.f.y, t := true }
  else { f := treGo { R.f with j := R.f.j + 1 }, k := R.f.x, v := R.f.y, t := true }

theorem treTake_any (c : Cfg) (s : Value) (R : TR) (l : Cel) (V w : World) (hw : Ext (V.alloc (.cells (trA c s (R)) 84)) w) : Calls Tryd.prog 67 #[.pointer (some ⟨V.heap.size, 0, none⟩), l.v] w (fun e w' => e = .returned (.tuple #[]) ∧ Ext (swp (.cells (trA c s (tTake R l)) 84) V w) w') := by
  obtain ⟨os, d, rfl⟩ := hw; rw [swp_a]; obtain ⟨f, rk, rv, rt⟩ := R
  obtain ⟨X, hX⟩ : ∃ X, l.a % 4294967296 = X := ⟨_, rfl⟩
  obtain ⟨Y, hY⟩ : ∃ X, l.b % 4294967296 = X := ⟨_, rfl⟩
  have hw1 : IntKind.u32.wrap l.a = X := by rw [IntKind.wrap_u32, hX]
  have hw2 : IntKind.u32.wrap l.b = Y := by rw [IntKind.wrap_u32, hY]
  have HB : Hid (tTake ⟨f, rk, rv, rt⟩ l = ⟨{ f with x := X, y := Y }, rk, rv, rt⟩) := Lib.hid (by simp only [tTake, treOver, hX, hY])
  clear hX hY
  go_enter Tryd.func67, Tryd.ntmps67
  go_upto_region 1 with fail
  go_region
  all_goals
    go_wp2
    (go_end0; refine ⟨rfl, ?_⟩; rw [HB.out]; exact EXX)
theorem treTell_any (c : Cfg) (s : Value) (R : TR) (hf : R.f.Fits) (V w : World) (hw : Ext (V.alloc (.cells (trA c s (R)) 84)) w) : Calls Tryd.prog 71 #[.pointer (some ⟨V.heap.size, 0, none⟩)] w (fun e w' => e = .returned (.tuple #[]) ∧ Ext (swp (.cells (trA c s (tTell R)) 84) V w) w') := by
  obtain ⟨os, d, rfl⟩ := hw; rw [swp_a]; obtain ⟨f, rk, rv, rt⟩ := R
  obtain ⟨x0, x1⟩ := hf.x
  obtain ⟨y0, y1⟩ := hf.y
  have hux : IntKind.u64.wrap f.x = f.x := by rw [IntKind.wrap_u64]; dsimp only at x0 x1; omega
  have huy : IntKind.u64.wrap f.y = f.y := by rw [IntKind.wrap_u64]; dsimp only at y0 y1; omega
  have HB : Hid (tTell ⟨f, rk, rv, rt⟩ = ⟨f, f.x, f.y, true⟩) := Lib.hid rfl
  clear hf
  go_enter Tryd.func71, Tryd.ntmps71
  go_upto_region 0 with fail
  go_region
  all_goals
    go_wp2
    (go_end0; refine ⟨rfl, ?_⟩; rw [HB.out]; exact EXX)
theorem trePick_any (p : Bool) (y n : Int) (w : World) : Calls Tryd.prog 72 #[.bool p, .int .u8 y, .int .u8 n] w fun e w' => e = .returned (.int .u8 (if p then y else n)) ∧ w = w' := by
  cases p
  all_goals
    go_enter Tryd.func72, Tryd.ntmps72
    go_wp2
    go_ret
    exact ⟨rfl, rfl⟩
theorem treNext1_any (c : Cfg) (s : Value) (R : TR) (hp : 0 ≤ R.f.p ∧ R.f.p ≤ 32) (hn : 0 ≤ R.f.n ∧ R.f.n ≤ 40) (V w : World) (hw : Ext (V.alloc (.cells (trA c s (R)) 84)) w) : Calls Tryd.prog 74 #[.pointer (some ⟨V.heap.size, 0, none⟩)] w (fun e w' => e = .returned (.tuple #[]) ∧ Ext (swp (.cells (trA c s (tNext R)) 84) V w) w') := by
  obtain ⟨os, d, rfl⟩ := hw; rw [swp_a]; obtain ⟨f, rk, rv, rt⟩ := R
  dsimp only at hp hn
  obtain ⟨p0, p1⟩ := hp
  obtain ⟨n0, n1⟩ := hn
  have hwp : IntKind.u8.wrap (f.p + 1) = f.p + 1 := by rw [IntKind.wrap_u8]; omega
  have hwq : (f.p + 1) % 256 = f.p + 1 := by omega
  cases h : decide (f.n ≤ f.p + 1)
  · have HB : Hid (tNext ⟨f, rk, rv, rt⟩ = ⟨{ f with pc := 17, p := f.p + 1 }, rk, rv, rt⟩) := Lib.hid (by simp at h; simp only [tNext, treGo]; rw [if_neg (by omega)])
    go_enter Tryd.func74, Tryd.ntmps74
    go_upto_region 0 with fail
    ((refine wp_region_ext_lit (by kernel_rfl) (by kernel_rfl) ?_); (repeat (go_big_quiet_step (fail))); (refine wpQuiet_nil ?_; intro _ hw'; obtain ⟨⟨osq, nq⟩, hw''⟩ := hw'; replace hw'' : _ = grew _ osq nq := hw''; subst hw''))
    go_wp2
    (go_end0; refine ⟨rfl, ?_⟩; rw [HB.out]; exact EXX)
  · have HB : Hid (tNext ⟨f, rk, rv, rt⟩ = ⟨{ f with pc := 20 }, rk, rv, rt⟩) := Lib.hid (by simp at h; simp only [tNext, treGo]; rw [if_pos (by omega)])
    go_enter Tryd.func74, Tryd.ntmps74
    go_upto_region 0 with fail
    ((refine wp_region_ext_lit (by kernel_rfl) (by kernel_rfl) ?_); (repeat (go_big_quiet_step (fail))); (refine wpQuiet_nil ?_; intro _ hw'; obtain ⟨⟨osq, nq⟩, hw''⟩ := hw'; replace hw'' : _ = grew _ osq nq := hw''; subst hw''))
    go_wp2
    (refine bodyPost_ret (results_none rfl _ _ _) rfl ⟨rfl, ?_⟩; rw [HB.out]; exact EXX)
theorem treFresh_any (c : Cfg) (s : Value) (R : TR) (hf : R.f.Fits) (V w : World) (hw : Ext (V.alloc (.cells (trA c s (R)) 84)) w) : Calls Tryd.prog 98 #[.pointer (some ⟨V.heap.size, 0, none⟩)] w (fun e w' => e = .returned (.tuple #[]) ∧ Ext (swp (.cells (trA c s (tFresh c R)) 84) V w) w') := by
  obtain ⟨os, d, rfl⟩ := hw; rw [swp_a]; obtain ⟨f, rk, rv, rt⟩ := R
  obtain ⟨n0, n1⟩ := hf.n
  obtain ⟨p0, p1⟩ := hf.p
  dsimp only at n0 n1 p0 p1
  have hwn : IntKind.i64.wrap f.n = f.n := by rw [IntKind.wrap_i64]; omega
  clear hf
  cases h : decide (c.cap ≤ f.n)
  · cases h2 : decide (f.n ≤ f.p)
    · have HB : Hid (tFresh c ⟨f, rk, rv, rt⟩ = ⟨{ f with pc := 5, i := f.n }, rk, rv, rt⟩) := Lib.hid (by simp at h h2; simp only [tFresh, treFresh]; rw [if_neg (by omega), if_neg (by omega)])
      go_enter Tryd.func98, Tryd.ntmps98
      go_upto_region 1 with fail
      ((refine wp_region_ext_lit (by kernel_rfl) (by kernel_rfl) ?_); (repeat (go_big_quiet_step (fail))); (refine wpQuiet_nil ?_; intro _ hw'; obtain ⟨⟨osq, nq⟩, hw''⟩ := hw'; replace hw'' : _ = grew _ osq nq := hw''; subst hw''))
      go_upto_region 3 with fail
      ((refine wp_region_ext_lit (by kernel_rfl) (by kernel_rfl) ?_); (repeat (go_big_quiet_step (fail))); (refine wpQuiet_nil ?_; intro _ hw'; obtain ⟨⟨osq, nq⟩, hw''⟩ := hw'; replace hw'' : _ = grew _ osq nq := hw''; subst hw''))
      go_wp2
      (go_end0; refine ⟨rfl, ?_⟩; rw [HB.out]; exact EXX)
    · have HB : Hid (tFresh c ⟨f, rk, rv, rt⟩ = ⟨{ f with pc := 7 }, rk, rv, rt⟩) := Lib.hid (by simp at h h2; simp only [tFresh, treFresh]; rw [if_neg (by omega), if_pos (by omega)])
      go_enter Tryd.func98, Tryd.ntmps98
      go_upto_region 1 with fail
      ((refine wp_region_ext_lit (by kernel_rfl) (by kernel_rfl) ?_); (repeat (go_big_quiet_step (fail))); (refine wpQuiet_nil ?_; intro _ hw'; obtain ⟨⟨osq, nq⟩, hw''⟩ := hw'; replace hw'' : _ = grew _ osq nq := hw''; subst hw''))
      go_upto_region 3 with fail
      ((refine wp_region_ext_lit (by kernel_rfl) (by kernel_rfl) ?_); (repeat (go_big_quiet_step (fail))); (refine wpQuiet_nil ?_; intro _ hw'; obtain ⟨⟨osq, nq⟩, hw''⟩ := hw'; replace hw'' : _ = grew _ osq nq := hw''; subst hw''))
      go_wp2
      (go_end0; refine ⟨rfl, ?_⟩; rw [HB.out]; exact EXX)
  · have HB : Hid (tFresh c ⟨f, rk, rv, rt⟩ = ⟨{ f with pc := 22 }, rk, rv, rt⟩) := Lib.hid (by simp at h; simp only [tFresh, treFresh]; rw [if_pos (by omega)])
    go_enter Tryd.func98, Tryd.ntmps98
    go_upto_region 1 with fail
    ((refine wp_region_ext_lit (by kernel_rfl) (by kernel_rfl) ?_); (repeat (go_big_quiet_step (fail))); (refine wpQuiet_nil ?_; intro _ hw'; obtain ⟨⟨osq, nq⟩, hw''⟩ := hw'; replace hw'' : _ = grew _ osq nq := hw''; subst hw''))
    go_wp2
    (go_end0; refine ⟨rfl, ?_⟩; rw [HB.out]; exact EXX)
end Go.Proofs.YtkklhhdkokncnaaDoor
