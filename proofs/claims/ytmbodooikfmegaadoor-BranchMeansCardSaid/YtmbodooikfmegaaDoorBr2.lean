/- The walks of the layer 'branch', as far as 'Next'. -/
import Derived.Test.YtmbodooikfmegaaDoorBr1
namespace Go.Proofs.YtmbodooikfmegaaDoor
open Go Go.RowKit
set_option maxRecDepth 100000
set_option maxHeartbeats 8000000

abbrev wlArr (c : Cfg) (f : Frm) : Array Value := #[.int .u8 f.kind, .int .u32 f.a, .int .u32 f.b, .int .u8 f.pc, .int .u8 f.i, .int .u8 f.j, .int .u8 f.n, .int .u8 f.p, .int .u8 f.h, .int .u32 f.x, .int .u32 f.y, .int .i64 c.cap, .int .u32 (f.a % 65536), .int .u32 (f.a / 65536), .int .u32 f.b, .int .i64 (brMany f)]
def OnPost (c : Cfg) (f : Frm) (w : World) (e : Ending) (w' : World) : Prop :=
  e = .returned (.pointer (some ⟨w.heap.size + 1 + 1, 0, none⟩)) ∧ ∃ x y, w' = ((w.alloc x).alloc y).alloc (.cells (wlArr c f) 79)

theorem brOn_any (c : Cfg) (f : Frm) (hf : f.Fits) (w : World) : Calls Tryd.prog 48 #[c.v, f.v] w (OnPost c f w) := by
  have i0 : ∀ (x y z : Value) (w : World), (Instr.index 77 (.agg #[x, y, z]) (.int .i64 0)).run Tryd.prog w = .ok x w := fun _ _ _ _ => by kernel_rfl
  have i1 : ∀ (x y z : Value) (w : World), (Instr.index 77 (.agg #[x, y, z]) (.int .i64 1)).run Tryd.prog w = .ok y w := fun _ _ _ _ => by kernel_rfl
  have i2 : ∀ (x y z : Value) (w : World), (Instr.index 77 (.agg #[x, y, z]) (.int .i64 2)).run Tryd.prog w = .ok z w := fun _ _ _ _ => by kernel_rfl
  have hm := and_mask f.a hf.a.1 hf.a.2
  obtain ⟨_, ⟨a0, a1⟩, ⟨b0, b1⟩, _, _, _, _, _, _, _, _⟩ := hf
  have HN : Hid (brMany f = (if f.a % 65536 == 0 then 0 else 1) + (if f.a / 65536 == 0 then 0 else 1) + (if f.b == 0 then 0 else 1)) := rfl
  cases z0 : (f.a % 65536 == 0)
  all_goals cases z1 : (f.a / 65536 == 0)
  all_goals cases z2 : (f.b == 0)
  all_goals
    go_enter Tryd.func48, Tryd.ntmps48
    go_wp2
    refine wp_loop_rounds 4 ?_
    repeat (rw [rounds_succ]; go_wp2)
    refine bodyPost_ret (v := .pointer (some ⟨w.heap.size + 1 + 1, 0, none⟩)) (by simp [results, Tryd.results48, go_sem]) rfl ⟨rfl, .cells #[.int .u8 c.object, .int .i64 c.instances, .int .i64 c.threads, .int .u8 c.kind, .int .i64 c.stripes, .int .i64 c.bits, .int .i64 c.cap, .int .i64 c.node, .int .i64 c.batch, .int .i64 c.chunk, .int .u64 c.limit, .int .u64 c.most] 24, .cells #[.int .u8 f.kind, .int .u32 f.a, .int .u32 f.b, .int .u8 f.pc, .int .u8 f.i, .int .u8 f.j, .int .u8 f.n, .int .u8 f.p, .int .u8 f.h, .int .u32 f.x, .int .u32 f.y] 27, ?_⟩
    simp only [wlArr]
    rw [HN.out, z0, z1, z2]
    rfl

theorem brErr_conf {c : Cfg} {f : Frm} (h : partOk c = false) : brErr c f = 40 := by simp [brErr, h]
theorem brErr_obj {c : Cfg} {f : Frm} (h : (c.object == 4) = false) : brErr c f = 40 := by simp [brErr, h]
theorem brErr_arg {c : Cfg} {f : Frm} (h : partOk c = true) (h1 : (c.object == 4) = true) (h2 : brMay c f = false) : brErr c f = 2 := by simp [brErr, h, h1, h2]
theorem brErr_yes {c : Cfg} {f : Frm} (h : partOk c = true) (h1 : (c.object == 4) = true) (h2 : brMay c f = true) : brErr c f = 0 := by simp [brErr, h, h1, h2]
theorem brErr_ok {c : Cfg} {f : Frm} (h : brErr c f = 0) : partOk c = true ∧ c.object = 4 ∧ brMay c f = true := by
  unfold brErr at h
  split at h
  · rename_i h1
    simp at h1
    split at h
    · rename_i h2
      exact ⟨h1.1, h1.2, h2⟩
    · cases h
  · cases h

theorem brStart_no (c : Cfg) (f : Frm) (hf : f.Fits) (he : (brErr c f == 0) = false) (w : World) (ht : Tab w) : Calls Tryd.prog 23 #[c.v, f.v] w
    fun e w' => e = .returned (.tuple #[.pointer none, .int .i64 (brErr c f)]) ∧ Ext w w' := by
  have HF := Lib.hid hf
  have HT := Lib.hid ht
  clear hf ht
  cases hp : partOk c
  · have HE := Lib.hid (brErr_conf (f := f) hp)
    have HC := Lib.hid (conf_no hp)
    clear hp he
    go_enter Tryd.func23, Tryd.ntmps23
    go_wp2_with (go_at_call 47; refine (partCheck_any c _).mono ?_; rintro e w1 ⟨rfl, os1, n1, rfl⟩; rw [HC.out])
    go_ret2
    exact ⟨by rw [HE.out]; rfl, EX⟩
  · have HC := Lib.hid (conf_ok hp)
    cases h2 : (c.object == 4)
    · have HE := Lib.hid (brErr_obj (f := f) h2)
      have h3 : (c.object != 4) = true := by simpa using h2
      clear hp he
      go_enter Tryd.func23, Tryd.ntmps23
      go_wp2_with (go_at_call 47; refine (partCheck_any c _).mono ?_; rintro e w1 ⟨rfl, os1, n1, rfl⟩; rw [HC.out])
      go_ret2
      exact ⟨by rw [HE.out]; rfl, EX⟩
    · cases h4 : brMay c f
      · have HE := Lib.hid (brErr_arg hp h2 h4)
        have HM := Lib.hid h4
        have HOBJ : Hid (c.object = 4) := Lib.hid (by simpa using h2)
        have h3 : (c.object != 4) = false := by simpa using h2
        clear hp he h4
        go_enter Tryd.func23, Tryd.ntmps23
        go_wp2_with (first | (go_at_call 47; refine (partCheck_any c _).mono ?_; rintro e w1 ⟨rfl, os1, n1, rfl⟩; rw [HC.out]) | (go_at_call 48; refine (brOn_any c f HF.out _).mono ?_; rintro e w2 ⟨rfl, x2, y2, rfl⟩) | (go_at_call 49; refine (brMay_any c f HOBJ.out HF.out _ _ (Tab.ext HT.out EX) (by simp [wl, Holds, go_sem])).mono ?_; rintro e w3 ⟨rfl, os3, n3, rfl⟩; rw [HM.out]))
        go_ret2
        exact ⟨by rw [HE.out]; rfl, EX⟩
      · rw [brErr_yes hp h2 h4] at he
        cases he

/-- Where a frame may be: its walk lies in a new block, behind which only new blocks are laid. -/
def StartYes (c : Cfg) (f : Frm) (w : World) (e : Ending) (w' : World) : Prop :=
  ∃ V, Ext w V ∧ e = .returned (.tuple #[.pointer (some ⟨V.heap.size, 0, none⟩), .int .i64 0]) ∧ ∃ os d, w' = grew (V.alloc (.cells (wlArr c f) 79)) os d
theorem brStart_yes (c : Cfg) (f : Frm) (hf : f.Fits) (he : brErr c f = 0) (w : World) (ht : Tab w) : Calls Tryd.prog 23 #[c.v, f.v] w (StartYes c f w) := by
  have HF := Lib.hid hf
  have HT := Lib.hid ht
  obtain ⟨hp, ho, h4⟩ := brErr_ok he
  have HC := Lib.hid (conf_ok hp)
  have HM := Lib.hid h4
  have h2 : (c.object == 4) = true := by simpa using ho
  have h3 : (c.object != 4) = false := by simpa using ho
  have HOBJ := Lib.hid ho
  clear hf ht hp he h4 ho
  go_enter Tryd.func23, Tryd.ntmps23
  go_wp2_with (first | (go_at_call 47; refine (partCheck_any c _).mono ?_; rintro e w1 ⟨rfl, os1, n1, rfl⟩; rw [HC.out]) | (go_at_call 48; refine (brOn_any c f HF.out _).mono ?_; rintro e w2 ⟨rfl, x2, y2, rfl⟩) | (go_at_call 49; refine (brMay_any c f HOBJ.out HF.out _ _ (Tab.ext HT.out EX) (by simp [wl, Holds, go_sem])).mono ?_; rintro e w3 ⟨rfl, os3, n3, rfl⟩; rw [HM.out]))
  refine bodyPost_ret (results_tmp2 rfl _ _ _) rfl ⟨((grew ((w.alloc (.cells #[.int .u8 c.object, .int .i64 c.instances, .int .i64 c.threads, .int .u8 c.kind, .int .i64 c.stripes, .int .i64 c.bits, .int .i64 c.cap, .int .i64 c.node, .int .i64 c.batch, .int .i64 c.chunk, .int .u64 c.limit, .int .u64 c.most] 24)).alloc (.cells #[.int .u8 f.kind, .int .u32 f.a, .int .u32 f.b, .int .u8 f.pc, .int .u8 f.i, .int .u8 f.j, .int .u8 f.n, .int .u8 f.p, .int .u8 f.h, .int .u32 f.x, .int .u32 f.y] 27)) os1 n1).alloc x2).alloc y2, EX, ?_, os3, n3, rfl⟩
  simp [go_sem]
end Go.Proofs.YtmbodooikfmegaaDoor
