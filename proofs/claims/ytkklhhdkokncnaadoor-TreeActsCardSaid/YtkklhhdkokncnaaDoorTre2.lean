/- The walks of the layer 'tree': whether the table has a frame, what a done one answers, the acts' makers. -/
import Derived.Test.YtkklhhdkokncnaaDoorTre1
namespace Go.Proofs.YtkklhhdkokncnaaDoor
open Go Go.RowKit

set_option maxRecDepth 100000 in
set_option maxHeartbeats 4000000 in
theorem treHas_any (c : Cfg) (f : Frm) (s : Value) (b : Nat) (w : World) (hw : Holds w (tl c f s b)) : Calls Tryd.prog 94 #[.pointer (some ⟨b, 0, none⟩)] w
    fun e w' => e = .returned (.bool (treHas f)) ∧ Ext w w' := by
  have hb := tl_lt hw
  have HT : Hid (treHas f = (f.pc == 0 || f.pc == 1 || (f.pc == 3 && f.kind == 7) || ((f.pc == 4 || f.pc == 5 || f.pc == 6 || f.pc == 7 || f.pc == 22 || f.pc == 24) && f.kind == 4) ||
    ((f.pc == 8 || f.pc == 9 || f.pc == 11) && (f.kind == 4 || f.kind == 5)) || ((f.pc == 12 || f.pc == 13 || f.pc == 14 || f.pc == 15 || f.pc == 25) && f.kind == 5) ||
    ((f.pc == 16 || f.pc == 17) && f.kind == 8) || (f.pc == 20 && (f.kind == 7 || f.kind == 8)) || (f.pc == 21 && (f.kind == 6 || f.kind == 7 || f.kind == 5)) ||
    (f.pc == 23 && (f.kind == 6 || f.kind == 4)))) := Lib.hid rfl
  simp only [tl, Holds, List.cons_append, List.nil_append] at hw
  go_enter Tryd.func94, Tryd.ntmps94
  go_wp2
  (refine wp_region_ext_lit (by kernel_rfl) (by kernel_rfl) ?_); (repeat (go_big_quiet_step (fail))); (refine wpQuiet_nil ?_; intro _ hw'; obtain ⟨⟨osq, nq⟩, hw''⟩ := hw'; replace hw'' : _ = grew _ osq nq := hw''; subst hw'')
  have hb2 : b < w.heap.size + cnt osq := by omega
  go_wp2
  (refine wp_region_ext_lit (by kernel_rfl) (by kernel_rfl) ?_); (repeat (go_big_quiet_step (fail))); (refine wpQuiet_nil ?_; intro _ hw'; obtain ⟨⟨osq, nq⟩, hw''⟩ := hw'; replace hw'' : _ = grew _ osq nq := hw''; subst hw'')
  go_wp2
  all_goals (go_ret; refine ⟨ret_bool ?_, (by repeat (first | with_reducible exact Ext.refl _ | with_reducible assumption | with_reducible refine Ext.alloc ?_ _ | with_reducible refine Ext.gr ?_ _ | with_reducible refine Ext.drewN ?_ _ | with_reducible refine Ext.drew ?_ | with_reducible refine Ext.setCell ?_ ?_ _ | with_reducible refine Ext.more ?_ _ _ | (show _ ≤ _; dsimp only; omega)))⟩)
  all_goals (rw [HT.out]; clear hw HT; go_light; simp_all)

set_option maxRecDepth 100000 in
set_option maxHeartbeats 4000000 in
theorem treDone_20 (c : Cfg) (f : Frm) (s : Value) (hf : f.Fits) (hp : f.pc = 20) (b : Nat) (w : World) (hw : Holds w (tl c f s b)) : Calls Tryd.prog 61 #[.pointer (some ⟨b, 0, none⟩)] w
    fun e w' => e = .returned (treStep c f).v ∧ Ext w w' := by
  have hb := tl_lt hw
  have hb1 : b < w.heap.size + 1 := by omega
  have hb2 : b < w.heap.size + 1 + 1 := by omega
  have HS : Hid (treStep c f = ⟨4, 0, 0, 0, 0, 0, 0⟩) := Lib.hid (by simp [treStep, hp])
  have hp' : (f.pc == 20) = true := by simpa using hp
  obtain ⟨y0, y1⟩ := hf.y
  simp only [tl, Holds, List.cons_append, List.nil_append] at hw
  clear hp hf
  go_enter Tryd.func61, Tryd.ntmps61
  go_wp2
  (refine bodyPost_ret (v := (treStep c f).v) (by rw [HS.out]; simp [results, Tryd.results61, go_sem]) rfl ⟨rfl, (by repeat (first | with_reducible exact Ext.refl _ | with_reducible assumption | with_reducible refine Ext.alloc ?_ _ | with_reducible refine Ext.gr ?_ _ | with_reducible refine Ext.drewN ?_ _ | with_reducible refine Ext.drew ?_ | with_reducible refine Ext.setCell ?_ ?_ _ | with_reducible refine Ext.more ?_ _ _ | (show _ ≤ _; dsimp only; omega)))⟩)
set_option maxRecDepth 100000 in
set_option maxHeartbeats 4000000 in
theorem treDone_21 (c : Cfg) (f : Frm) (s : Value) (hf : f.Fits) (hp : f.pc = 21) (b : Nat) (w : World) (hw : Holds w (tl c f s b)) : Calls Tryd.prog 61 #[.pointer (some ⟨b, 0, none⟩)] w
    fun e w' => e = .returned (treStep c f).v ∧ Ext w w' := by
  have hb := tl_lt hw
  have hb1 : b < w.heap.size + 1 := by omega
  have hb2 : b < w.heap.size + 1 + 1 := by omega
  have HS : Hid (treStep c f = ⟨4, 0, 0, 0, 0, 6, 0⟩) := Lib.hid (by simp [treStep, hp])
  have hp' : (f.pc == 21) = true := by simpa using hp
  obtain ⟨y0, y1⟩ := hf.y
  simp only [tl, Holds, List.cons_append, List.nil_append] at hw
  clear hp hf
  go_enter Tryd.func61, Tryd.ntmps61
  go_wp2
  (refine bodyPost_ret (v := (treStep c f).v) (by rw [HS.out]; simp [results, Tryd.results61, go_sem]) rfl ⟨rfl, (by repeat (first | with_reducible exact Ext.refl _ | with_reducible assumption | with_reducible refine Ext.alloc ?_ _ | with_reducible refine Ext.gr ?_ _ | with_reducible refine Ext.drewN ?_ _ | with_reducible refine Ext.drew ?_ | with_reducible refine Ext.setCell ?_ ?_ _ | with_reducible refine Ext.more ?_ _ _ | (show _ ≤ _; dsimp only; omega)))⟩)
set_option maxRecDepth 100000 in
set_option maxHeartbeats 4000000 in
theorem treDone_22 (c : Cfg) (f : Frm) (s : Value) (hf : f.Fits) (hp : f.pc = 22) (b : Nat) (w : World) (hw : Holds w (tl c f s b)) : Calls Tryd.prog 61 #[.pointer (some ⟨b, 0, none⟩)] w
    fun e w' => e = .returned (treStep c f).v ∧ Ext w w' := by
  have hb := tl_lt hw
  have hb1 : b < w.heap.size + 1 := by omega
  have hb2 : b < w.heap.size + 1 + 1 := by omega
  have HS : Hid (treStep c f = ⟨4, 0, 0, 0, 0, 9, 0⟩) := Lib.hid (by simp [treStep, hp])
  have hp' : (f.pc == 22) = true := by simpa using hp
  obtain ⟨y0, y1⟩ := hf.y
  simp only [tl, Holds, List.cons_append, List.nil_append] at hw
  clear hp hf
  go_enter Tryd.func61, Tryd.ntmps61
  go_wp2
  (refine bodyPost_ret (v := (treStep c f).v) (by rw [HS.out]; simp [results, Tryd.results61, go_sem]) rfl ⟨rfl, (by repeat (first | with_reducible exact Ext.refl _ | with_reducible assumption | with_reducible refine Ext.alloc ?_ _ | with_reducible refine Ext.gr ?_ _ | with_reducible refine Ext.drewN ?_ _ | with_reducible refine Ext.drew ?_ | with_reducible refine Ext.setCell ?_ ?_ _ | with_reducible refine Ext.more ?_ _ _ | (show _ ≤ _; dsimp only; omega)))⟩)
set_option maxRecDepth 100000 in
set_option maxHeartbeats 4000000 in
theorem treDone_23 (c : Cfg) (f : Frm) (s : Value) (hf : f.Fits) (hp : f.pc = 23) (b : Nat) (w : World) (hw : Holds w (tl c f s b)) : Calls Tryd.prog 61 #[.pointer (some ⟨b, 0, none⟩)] w
    fun e w' => e = .returned (treStep c f).v ∧ Ext w w' := by
  have hb := tl_lt hw
  have hb1 : b < w.heap.size + 1 := by omega
  have hb2 : b < w.heap.size + 1 + 1 := by omega
  obtain ⟨Q, hQ⟩ : ∃ Q, (f.y + 1) % 4294967296 = Q := ⟨_, rfl⟩
  have hwq : IntKind.u32.wrap (f.y + 1) = Q := by rw [IntKind.wrap_u32, hQ]
  have HS : Hid (treStep c f = ⟨4, 0, 0, 0, 0, 0, Q⟩) := Lib.hid (by simp [treStep, hp, hQ])
  have hp' : (f.pc == 23) = true := by simpa using hp
  obtain ⟨y0, y1⟩ := hf.y
  simp only [tl, Holds, List.cons_append, List.nil_append] at hw
  clear hp hf
  go_enter Tryd.func61, Tryd.ntmps61
  go_wp2
  (refine bodyPost_ret (v := (treStep c f).v) (by rw [HS.out]; simp [results, Tryd.results61, go_sem]) rfl ⟨rfl, (by repeat (first | with_reducible exact Ext.refl _ | with_reducible assumption | with_reducible refine Ext.alloc ?_ _ | with_reducible refine Ext.gr ?_ _ | with_reducible refine Ext.drewN ?_ _ | with_reducible refine Ext.drew ?_ | with_reducible refine Ext.setCell ?_ ?_ _ | with_reducible refine Ext.more ?_ _ _ | (show _ ≤ _; dsimp only; omega)))⟩)
set_option maxRecDepth 100000 in
set_option maxHeartbeats 4000000 in
theorem treDone_24 (c : Cfg) (f : Frm) (s : Value) (hf : f.Fits) (hp : f.pc = 24) (b : Nat) (w : World) (hw : Holds w (tl c f s b)) : Calls Tryd.prog 61 #[.pointer (some ⟨b, 0, none⟩)] w
    fun e w' => e = .returned (treStep c f).v ∧ Ext w w' := by
  have hb := tl_lt hw
  have hb1 : b < w.heap.size + 1 := by omega
  have hb2 : b < w.heap.size + 1 + 1 := by omega
  have HS : Hid (treStep c f = ⟨4, 0, 0, 0, 0, 0, 0⟩) := Lib.hid (by simp [treStep, hp])
  have hp' : (f.pc == 24) = true := by simpa using hp
  obtain ⟨y0, y1⟩ := hf.y
  simp only [tl, Holds, List.cons_append, List.nil_append] at hw
  clear hp hf
  go_enter Tryd.func61, Tryd.ntmps61
  go_wp2
  (refine bodyPost_ret (v := (treStep c f).v) (by rw [HS.out]; simp [results, Tryd.results61, go_sem]) rfl ⟨rfl, (by repeat (first | with_reducible exact Ext.refl _ | with_reducible assumption | with_reducible refine Ext.alloc ?_ _ | with_reducible refine Ext.gr ?_ _ | with_reducible refine Ext.drewN ?_ _ | with_reducible refine Ext.drew ?_ | with_reducible refine Ext.setCell ?_ ?_ _ | with_reducible refine Ext.more ?_ _ _ | (show _ ≤ _; dsimp only; omega)))⟩)
set_option maxRecDepth 100000 in
set_option maxHeartbeats 4000000 in
theorem treDone_25 (c : Cfg) (f : Frm) (s : Value) (hf : f.Fits) (hp : f.pc = 25) (b : Nat) (w : World) (hw : Holds w (tl c f s b)) : Calls Tryd.prog 61 #[.pointer (some ⟨b, 0, none⟩)] w
    fun e w' => e = .returned (treStep c f).v ∧ Ext w w' := by
  have hb := tl_lt hw
  have hb1 : b < w.heap.size + 1 := by omega
  have hb2 : b < w.heap.size + 1 + 1 := by omega
  have HS : Hid (treStep c f = ⟨4, 0, 0, 0, 0, 0, f.b⟩) := Lib.hid (by simp [treStep, hp])
  have hp' : (f.pc == 25) = true := by simpa using hp
  obtain ⟨y0, y1⟩ := hf.y
  simp only [tl, Holds, List.cons_append, List.nil_append] at hw
  clear hp hf
  go_enter Tryd.func61, Tryd.ntmps61
  go_wp2
  (refine bodyPost_ret (v := (treStep c f).v) (by rw [HS.out]; simp [results, Tryd.results61, go_sem]) rfl ⟨rfl, (by repeat (first | with_reducible exact Ext.refl _ | with_reducible assumption | with_reducible refine Ext.alloc ?_ _ | with_reducible refine Ext.gr ?_ _ | with_reducible refine Ext.drewN ?_ _ | with_reducible refine Ext.drew ?_ | with_reducible refine Ext.setCell ?_ ?_ _ | with_reducible refine Ext.more ?_ _ _ | (show _ ≤ _; dsimp only; omega)))⟩)

set_option maxRecDepth 100000 in
set_option maxHeartbeats 4000000 in
theorem treRead_any (c : Cfg) (f : Frm) (s : Value) (hc : TreOk c) (h i X : Int) (hh : 0 ≤ h ∧ h ≤ 255) (hi : -1000 ≤ i ∧ i ≤ 1000) (hX : treOff c h i = X) (b B : Nat) (w : World) (hB : w.cell? ⟨B, 0, none⟩ = some (.pointer (some ⟨b, 0, none⟩))) (hw : Holds w (tl c f s b)) (hs : Sl w s (lvC c) (lvL c)) :
    Calls Tryd.prog 56 #[.int .u8 h, .int .i64 i, .pointer (some ⟨B, 0, none⟩)] w fun e w' => e = .returned (Actn.mk 1 X 0 0 0 0 0).v ∧ Ext w w' := by
  have HK := Lib.hid hw
  have HS := Lib.hid hs
  have HA := Lib.hid hX
  have hb := World.block_lt_of_cell? _ _ hB
  dsimp only at hb
  clear hw hs hX
  go_enter Tryd.func56, Tryd.ntmps56
  go_wp2_with (go_at_call 57; refine (treOff_any c f s hc h i hh hi b _ (HK.out.ext (by repeat (first | with_reducible exact Ext.refl _ | with_reducible assumption | with_reducible refine Ext.alloc ?_ _ | with_reducible refine Ext.gr ?_ _ | with_reducible refine Ext.drewN ?_ _ | with_reducible refine Ext.drew ?_ | with_reducible refine Ext.setCell ?_ ?_ _ | with_reducible refine Ext.more ?_ _ _ | (show _ ≤ _; dsimp only; omega)))) (HS.out.ext (by repeat (first | with_reducible exact Ext.refl _ | with_reducible assumption | with_reducible refine Ext.alloc ?_ _ | with_reducible refine Ext.gr ?_ _ | with_reducible refine Ext.drewN ?_ _ | with_reducible refine Ext.drew ?_ | with_reducible refine Ext.setCell ?_ ?_ _ | with_reducible refine Ext.more ?_ _ _ | (show _ ≤ _; dsimp only; omega))))).mono ?_; rintro e w1 ⟨rfl, os1, n1, rfl⟩; rw [HA.out])
  refine bodyPost_ret (v := (Actn.mk 1 X 0 0 0 0 0).v) (by simp [results, Tryd.results56, go_sem]) rfl ⟨rfl, (by repeat (first | with_reducible exact Ext.refl _ | with_reducible assumption | with_reducible refine Ext.alloc ?_ _ | with_reducible refine Ext.gr ?_ _ | with_reducible refine Ext.drewN ?_ _ | with_reducible refine Ext.drew ?_ | with_reducible refine Ext.setCell ?_ ?_ _ | with_reducible refine Ext.more ?_ _ _ | (show _ ≤ _; dsimp only; omega)))⟩
set_option maxRecDepth 100000 in
set_option maxHeartbeats 4000000 in
theorem treWrite_any (c : Cfg) (f : Frm) (s : Value) (hc : TreOk c) (h i x y X : Int) (hh : 0 ≤ h ∧ h ≤ 255) (hi : -1000 ≤ i ∧ i ≤ 1000) (hx : 0 ≤ x ∧ x ≤ 4294967295) (hy : 0 ≤ y ∧ y ≤ 4294967295) (hX : treOff c h i = X) (b B : Nat) (w : World) (hB : w.cell? ⟨B, 0, none⟩ = some (.pointer (some ⟨b, 0, none⟩))) (hw : Holds w (tl c f s b)) (hs : Sl w s (lvC c) (lvL c)) :
    Calls Tryd.prog 58 #[.int .u8 h, .int .i64 i, .int .u32 x, .int .u32 y, .pointer (some ⟨B, 0, none⟩)] w fun e w' => e = .returned (Actn.mk 2 X x y 0 0 0).v ∧ Ext w w' := by
  have HK := Lib.hid hw
  have HS := Lib.hid hs
  have HA := Lib.hid hX
  obtain ⟨x0, x1⟩ := hx
  obtain ⟨y0, y1⟩ := hy
  have hb := World.block_lt_of_cell? _ _ hB
  dsimp only at hb
  clear hw hs hX
  go_enter Tryd.func58, Tryd.ntmps58
  go_wp2_with (go_at_call 57; refine (treOff_any c f s hc h i hh hi b _ (HK.out.ext (by repeat (first | with_reducible exact Ext.refl _ | with_reducible assumption | with_reducible refine Ext.alloc ?_ _ | with_reducible refine Ext.gr ?_ _ | with_reducible refine Ext.drewN ?_ _ | with_reducible refine Ext.drew ?_ | with_reducible refine Ext.setCell ?_ ?_ _ | with_reducible refine Ext.more ?_ _ _ | (show _ ≤ _; dsimp only; omega)))) (HS.out.ext (by repeat (first | with_reducible exact Ext.refl _ | with_reducible assumption | with_reducible refine Ext.alloc ?_ _ | with_reducible refine Ext.gr ?_ _ | with_reducible refine Ext.drewN ?_ _ | with_reducible refine Ext.drew ?_ | with_reducible refine Ext.setCell ?_ ?_ _ | with_reducible refine Ext.more ?_ _ _ | (show _ ≤ _; dsimp only; omega))))).mono ?_; rintro e w1 ⟨rfl, os1, n1, rfl⟩; rw [HA.out])
  refine bodyPost_ret (v := (Actn.mk 2 X x y 0 0 0).v) (by simp [results, Tryd.results58, go_sem]) rfl ⟨rfl, (by repeat (first | with_reducible exact Ext.refl _ | with_reducible assumption | with_reducible refine Ext.alloc ?_ _ | with_reducible refine Ext.gr ?_ _ | with_reducible refine Ext.drewN ?_ _ | with_reducible refine Ext.drew ?_ | with_reducible refine Ext.setCell ?_ ?_ _ | with_reducible refine Ext.more ?_ _ _ | (show _ ≤ _; dsimp only; omega)))⟩
end Go.Proofs.YtkklhhdkokncnaaDoor
