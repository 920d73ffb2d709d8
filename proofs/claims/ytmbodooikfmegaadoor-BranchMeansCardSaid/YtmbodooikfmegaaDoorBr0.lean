/- The walks of the layer 'branch': where a frame stands, whether the table has it. -/
import Derived.Test.YtmbodooikfmegaaDoorProg
import Derived.Deep.QuietTactic
import Derived.BigQuiet
import Derived.Lib.Hide
import Derived.Deep.Light
import Derived.Test.YtmbodooikfmegaaDoorBranchP
import Derived.Test.YtmbodooikfmegaaDoorA0
import Derived.Deep.RegionHeld3
import Derived.WalkLawsBesides
namespace Go.Proofs.YtmbodooikfmegaaDoor
open Go Go.RowKit
set_option maxRecDepth 100000
set_option maxHeartbeats 8000000

/-- A walk's cells. -/
abbrev wl (c : Cfg) (f : Frm) (b : Nat) : List (Nat × Nat × Value) :=
  [(b, 0, .int .u8 f.kind), (b, 1, .int .u32 f.a), (b, 2, .int .u32 f.b), (b, 3, .int .u8 f.pc), (b, 4, .int .u8 f.i), (b, 5, .int .u8 f.j), (b, 6, .int .u8 f.n), (b, 7, .int .u8 f.p), (b, 8, .int .u8 f.h), (b, 9, .int .u32 f.x), (b, 10, .int .u32 f.y)] ++ [(b, 11, .int .i64 c.cap), (b, 12, .int .u32 (f.a % 65536)), (b, 13, .int .u32 (f.a / 65536)), (b, 14, .int .u32 f.b), (b, 15, .int .i64 (brMany f))]

theorem brAt_any (c : Cfg) (f : Frm) (hf : f.Fits) (b : Nat) (w : World) (hw : Holds w (wl c f b)) : Calls Tryd.prog 50 #[.pointer (some ⟨b, 0, none⟩)] w
    fun e w' => e = .returned (.int .i64 (brAt f)) ∧ w = w' := by
  simp only [wl, Holds, List.cons_append, List.nil_append] at hw
  obtain ⟨_, _, _, ⟨p0, p1⟩, ⟨i0, i1⟩, ⟨j0, j1⟩, _, ⟨q0, q1⟩, _, _, _⟩ := hf
  go_enter Tryd.func50, Tryd.ntmps50
  go_wp2
  all_goals (go_ret; refine ⟨ret_int ?_, rfl⟩)
  all_goals (clear hw; go_light; simp_all [brAt])

theorem brHas_any (c : Cfg) (f : Frm) (hf : f.Fits) (b : Nat) (w : World) (hw : Holds w (wl c f b)) : Calls Tryd.prog 73 #[.pointer (some ⟨b, 0, none⟩)] w
    fun e w' => e = .returned (.bool (brHas f)) ∧ w = w' := by
  simp only [wl, Holds, List.cons_append, List.nil_append] at hw
  obtain ⟨⟨k0, k1⟩, _, _, ⟨p0, p1⟩, _, _, _, _, _, _, _⟩ := hf
  go_enter Tryd.func73, Tryd.ntmps73
  go_wp2
  all_goals (go_ret; refine ⟨ret_bool ?_, rfl⟩)
  all_goals (clear hw; go_light; rw [Bool.eq_iff_iff]; simp_all [brHas] <;> omega)
end Go.Proofs.YtmbodooikfmegaaDoor
