/- The walks of the reference of the layer 'tree': the table, the numbers. -/
import Derived.Test.YtmhmaifmendebaaGreatDoorTreR2
import Derived.Test.YtmhmaifmendebaaGreatDoorGf
import Derived.Outline
namespace Go.Proofs.YtmhmaifmendebaaGreatDoor.tree
open Go Go.RowKit
set_option maxRecDepth 100000
set_option maxHeartbeats 8000000

theorem thereR_4 (f : Frm) (hf : f.Fits) (hk : f.kind = 4) (w : World) : Calls Tryz.prog 56 #[.int .u8 4, .int .u8 f.pc] w
    fun e w' => e = .returned (.bool (treHas f)) ∧ Ext w w' := by
  have HT : Hid (treHas f = (f.pc == 0 || f.pc == 1 || (f.pc == 3 && f.kind == 7) || ((f.pc == 4 || f.pc == 5 || f.pc == 6 || f.pc == 7 || f.pc == 22 || f.pc == 24) && f.kind == 4) ||
    ((f.pc == 8 || f.pc == 9 || f.pc == 11) && (f.kind == 4 || f.kind == 5)) || ((f.pc == 12 || f.pc == 13 || f.pc == 14 || f.pc == 15 || f.pc == 25) && f.kind == 5) ||
    ((f.pc == 16 || f.pc == 17) && f.kind == 8) || (f.pc == 20 && (f.kind == 7 || f.kind == 8)) || (f.pc == 21 && (f.kind == 6 || f.kind == 7 || f.kind == 5)) ||
    (f.pc == 23 && (f.kind == 6 || f.kind == 4)))) := Lib.hid rfl
  have HK := Lib.hid hk
  obtain ⟨p0, p1⟩ := hf.pc
  clear hf hk
  go_enter Tryz.func56, Tryz.ntmps56
  go_wp2
  refine wp_loop_rounds 13 ?_
  repeat (any_goals (rw [rounds_succ]; go_wp2))
  all_goals (go_ret; refine ⟨ret_bool ?_, EX⟩)
  all_goals (rw [HT.out, HK.out]; clear HT HK; go_light; simp_all <;> omega)
theorem thereR_5 (f : Frm) (hf : f.Fits) (hk : f.kind = 5) (w : World) : Calls Tryz.prog 56 #[.int .u8 5, .int .u8 f.pc] w
    fun e w' => e = .returned (.bool (treHas f)) ∧ Ext w w' := by
  have HT : Hid (treHas f = (f.pc == 0 || f.pc == 1 || (f.pc == 3 && f.kind == 7) || ((f.pc == 4 || f.pc == 5 || f.pc == 6 || f.pc == 7 || f.pc == 22 || f.pc == 24) && f.kind == 4) ||
    ((f.pc == 8 || f.pc == 9 || f.pc == 11) && (f.kind == 4 || f.kind == 5)) || ((f.pc == 12 || f.pc == 13 || f.pc == 14 || f.pc == 15 || f.pc == 25) && f.kind == 5) ||
    ((f.pc == 16 || f.pc == 17) && f.kind == 8) || (f.pc == 20 && (f.kind == 7 || f.kind == 8)) || (f.pc == 21 && (f.kind == 6 || f.kind == 7 || f.kind == 5)) ||
    (f.pc == 23 && (f.kind == 6 || f.kind == 4)))) := Lib.hid rfl
  have HK := Lib.hid hk
  obtain ⟨p0, p1⟩ := hf.pc
  clear hf hk
  go_enter Tryz.func56, Tryz.ntmps56
  go_wp2
  refine wp_loop_rounds 12 ?_
  repeat (any_goals (rw [rounds_succ]; go_wp2))
  all_goals (go_ret; refine ⟨ret_bool ?_, EX⟩)
  all_goals (rw [HT.out, HK.out]; clear HT HK; go_light; simp_all <;> omega)
theorem thereR_6 (f : Frm) (hf : f.Fits) (hk : f.kind = 6) (w : World) : Calls Tryz.prog 56 #[.int .u8 6, .int .u8 f.pc] w
    fun e w' => e = .returned (.bool (treHas f)) ∧ Ext w w' := by
  have HT : Hid (treHas f = (f.pc == 0 || f.pc == 1 || (f.pc == 3 && f.kind == 7) || ((f.pc == 4 || f.pc == 5 || f.pc == 6 || f.pc == 7 || f.pc == 22 || f.pc == 24) && f.kind == 4) ||
    ((f.pc == 8 || f.pc == 9 || f.pc == 11) && (f.kind == 4 || f.kind == 5)) || ((f.pc == 12 || f.pc == 13 || f.pc == 14 || f.pc == 15 || f.pc == 25) && f.kind == 5) ||
    ((f.pc == 16 || f.pc == 17) && f.kind == 8) || (f.pc == 20 && (f.kind == 7 || f.kind == 8)) || (f.pc == 21 && (f.kind == 6 || f.kind == 7 || f.kind == 5)) ||
    (f.pc == 23 && (f.kind == 6 || f.kind == 4)))) := Lib.hid rfl
  have HK := Lib.hid hk
  obtain ⟨p0, p1⟩ := hf.pc
  clear hf hk
  go_enter Tryz.func56, Tryz.ntmps56
  go_wp2
  refine wp_loop_rounds 5 ?_
  repeat (any_goals (rw [rounds_succ]; go_wp2))
  all_goals (go_ret; refine ⟨ret_bool ?_, EX⟩)
  all_goals (rw [HT.out, HK.out]; clear HT HK; go_light; simp_all <;> omega)
theorem thereR_7 (f : Frm) (hf : f.Fits) (hk : f.kind = 7) (w : World) : Calls Tryz.prog 56 #[.int .u8 7, .int .u8 f.pc] w
    fun e w' => e = .returned (.bool (treHas f)) ∧ Ext w w' := by
  have HT : Hid (treHas f = (f.pc == 0 || f.pc == 1 || (f.pc == 3 && f.kind == 7) || ((f.pc == 4 || f.pc == 5 || f.pc == 6 || f.pc == 7 || f.pc == 22 || f.pc == 24) && f.kind == 4) ||
    ((f.pc == 8 || f.pc == 9 || f.pc == 11) && (f.kind == 4 || f.kind == 5)) || ((f.pc == 12 || f.pc == 13 || f.pc == 14 || f.pc == 15 || f.pc == 25) && f.kind == 5) ||
    ((f.pc == 16 || f.pc == 17) && f.kind == 8) || (f.pc == 20 && (f.kind == 7 || f.kind == 8)) || (f.pc == 21 && (f.kind == 6 || f.kind == 7 || f.kind == 5)) ||
    (f.pc == 23 && (f.kind == 6 || f.kind == 4)))) := Lib.hid rfl
  have HK := Lib.hid hk
  obtain ⟨p0, p1⟩ := hf.pc
  clear hf hk
  go_enter Tryz.func56, Tryz.ntmps56
  go_wp2
  refine wp_loop_rounds 6 ?_
  repeat (any_goals (rw [rounds_succ]; go_wp2))
  all_goals (go_ret; refine ⟨ret_bool ?_, EX⟩)
  all_goals (rw [HT.out, HK.out]; clear HT HK; go_light; simp_all <;> omega)
theorem thereR_8 (f : Frm) (hf : f.Fits) (hk : f.kind = 8) (w : World) : Calls Tryz.prog 56 #[.int .u8 8, .int .u8 f.pc] w
    fun e w' => e = .returned (.bool (treHas f)) ∧ Ext w w' := by
  have HT : Hid (treHas f = (f.pc == 0 || f.pc == 1 || (f.pc == 3 && f.kind == 7) || ((f.pc == 4 || f.pc == 5 || f.pc == 6 || f.pc == 7 || f.pc == 22 || f.pc == 24) && f.kind == 4) ||
    ((f.pc == 8 || f.pc == 9 || f.pc == 11) && (f.kind == 4 || f.kind == 5)) || ((f.pc == 12 || f.pc == 13 || f.pc == 14 || f.pc == 15 || f.pc == 25) && f.kind == 5) ||
    ((f.pc == 16 || f.pc == 17) && f.kind == 8) || (f.pc == 20 && (f.kind == 7 || f.kind == 8)) || (f.pc == 21 && (f.kind == 6 || f.kind == 7 || f.kind == 5)) ||
    (f.pc == 23 && (f.kind == 6 || f.kind == 4)))) := Lib.hid rfl
  have HK := Lib.hid hk
  obtain ⟨p0, p1⟩ := hf.pc
  clear hf hk
  go_enter Tryz.func56, Tryz.ntmps56
  go_wp2
  refine wp_loop_rounds 6 ?_
  repeat (any_goals (rw [rounds_succ]; go_wp2))
  all_goals (go_ret; refine ⟨ret_bool ?_, EX⟩)
  all_goals (rw [HT.out, HK.out]; clear HT HK; go_light; simp_all <;> omega)
theorem objOf_two {k : Int} (h : objOf k = 2) : k = 4 ∨ k = 5 ∨ k = 6 ∨ k = 7 ∨ k = 8 := by
  unfold objOf at h
  split at h <;> (try split at h) <;> (try split at h) <;> (try split at h) <;> (try split at h) <;> omega
theorem thereR_any (f : Frm) (hf : f.Fits) (hk : f.kind = 4 ∨ f.kind = 5 ∨ f.kind = 6 ∨ f.kind = 7 ∨ f.kind = 8) (w : World) : Calls Tryz.prog 56 #[.int .u8 f.kind, .int .u8 f.pc] w
    fun e w' => e = .returned (.bool (treHas f)) ∧ Ext w w' := by
  rcases hk with h | h | h | h | h
  · have h2 := thereR_4 f hf h w
    rw [← h] at h2
    exact h2
  · have h2 := thereR_5 f hf h w
    rw [← h] at h2
    exact h2
  · have h2 := thereR_6 f hf h w
    rw [← h] at h2
    exact h2
  · have h2 := thereR_7 f hf h w
    rw [← h] at h2
    exact h2
  · have h2 := thereR_8 f hf h w
    rw [← h] at h2
    exact h2
end Go.Proofs.YtmhmaifmendebaaGreatDoor.tree
