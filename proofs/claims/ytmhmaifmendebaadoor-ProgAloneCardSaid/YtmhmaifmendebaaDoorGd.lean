/- The walks of the layer 'tree': whether the table has a frame, what a done one answers, the acts' makers. -/
import Derived.Test.YtmhmaifmendebaaDoorGc
namespace Go.Proofs.YtmhmaifmendebaaDoor.tree
open Go Go.RowKit
set_option maxRecDepth 100000
set_option maxHeartbeats 8000000

theorem treHas_any (c : Cfg) (f : Frm) (s : Value) (b : Nat) (w : World) (hw : Holds w (tl c f s b)) : Calls Tryd.prog 69 #[.pointer (some ⟨b, 0, none⟩)] w
    fun e w' => e = .returned (.bool (treHas f)) ∧ Ext w w' := by
  have hb := tl_lt hw
  have HT : Hid (treHas f = (f.pc == 0 || f.pc == 1 || (f.pc == 3 && f.kind == 7) || ((f.pc == 4 || f.pc == 5 || f.pc == 6 || f.pc == 7 || f.pc == 22 || f.pc == 24) && f.kind == 4) ||
    ((f.pc == 8 || f.pc == 9 || f.pc == 11) && (f.kind == 4 || f.kind == 5)) || ((f.pc == 12 || f.pc == 13 || f.pc == 14 || f.pc == 15 || f.pc == 25) && f.kind == 5) ||
    ((f.pc == 16 || f.pc == 17) && f.kind == 8) || (f.pc == 20 && (f.kind == 7 || f.kind == 8)) || (f.pc == 21 && (f.kind == 6 || f.kind == 7 || f.kind == 5)) ||
    (f.pc == 23 && (f.kind == 6 || f.kind == 4)))) := Lib.hid rfl
  simp only [tl, Holds, List.cons_append, List.nil_append] at hw
  go_enter Tryd.func69, Tryd.ntmps69
  go_wp2
  (refine wp_region_ext_lit (by kernel_rfl) (by kernel_rfl) ?_); (repeat (go_big_quiet_step (fail))); (refine wpQuiet_nil ?_; intro _ hw'; obtain ⟨⟨osq, nq⟩, hw''⟩ := hw'; replace hw'' : _ = grew _ osq nq := hw''; subst hw'')
  have hb2 : b < w.heap.size + cnt osq := by omega
  go_wp2
  (refine wp_region_ext_lit (by kernel_rfl) (by kernel_rfl) ?_); (repeat (go_big_quiet_step (fail))); (refine wpQuiet_nil ?_; intro _ hw'; obtain ⟨⟨osq, nq⟩, hw''⟩ := hw'; replace hw'' : _ = grew _ osq nq := hw''; subst hw'')
  go_wp2
  all_goals (go_ret; refine ⟨ret_bool ?_, EX⟩)
  all_goals (rw [HT.out]; clear hw HT; go_light; simp_all)

theorem treDone_20 (c : Cfg) (f : Frm) (s : Value) (hf : f.Fits) (hp : f.pc = 20) (b : Nat) (w : World) (hw : Holds w (tl c f s b)) : Calls Tryd.prog 66 #[.pointer (some ⟨b, 0, none⟩)] w
    fun e w' => e = .returned (treStep c f).v ∧ Ext w w' := by
  have hb := tl_lt hw
  have hb1 : b < w.heap.size + 1 := by omega
  have hb2 : b < w.heap.size + 1 + 1 := by omega
  have HS : Hid (treStep c f = ⟨4, 0, 0, 0, 0, 0, 0⟩) := Lib.hid (by simp [treStep, hp])
  have hp' : (f.pc == 20) = true := by simpa using hp
  obtain ⟨y0, y1⟩ := hf.y
  simp only [tl, Holds, List.cons_append, List.nil_append] at hw
  clear hp hf
  go_enter Tryd.func66, Tryd.ntmps66
  go_wp2
  (refine bodyPost_ret (v := (treStep c f).v) (by rw [HS.out]; simp [results, Tryd.results66, go_sem]) rfl ⟨rfl, EX⟩)
theorem treDone_21 (c : Cfg) (f : Frm) (s : Value) (hf : f.Fits) (hp : f.pc = 21) (b : Nat) (w : World) (hw : Holds w (tl c f s b)) : Calls Tryd.prog 66 #[.pointer (some ⟨b, 0, none⟩)] w
    fun e w' => e = .returned (treStep c f).v ∧ Ext w w' := by
  have hb := tl_lt hw
  have hb1 : b < w.heap.size + 1 := by omega
  have hb2 : b < w.heap.size + 1 + 1 := by omega
  have HS : Hid (treStep c f = ⟨4, 0, 0, 0, 0, 6, 0⟩) := Lib.hid (by simp [treStep, hp])
  have hp' : (f.pc == 21) = true := by simpa using hp
  obtain ⟨y0, y1⟩ := hf.y
  simp only [tl, Holds, List.cons_append, List.nil_append] at hw
  clear hp hf
  go_enter Tryd.func66, Tryd.ntmps66
  go_wp2
  (refine bodyPost_ret (v := (treStep c f).v) (by rw [HS.out]; simp [results, Tryd.results66, go_sem]) rfl ⟨rfl, EX⟩)
theorem treDone_22 (c : Cfg) (f : Frm) (s : Value) (hf : f.Fits) (hp : f.pc = 22) (b : Nat) (w : World) (hw : Holds w (tl c f s b)) : Calls Tryd.prog 66 #[.pointer (some ⟨b, 0, none⟩)] w
    fun e w' => e = .returned (treStep c f).v ∧ Ext w w' := by
  have hb := tl_lt hw
  have hb1 : b < w.heap.size + 1 := by omega
  have hb2 : b < w.heap.size + 1 + 1 := by omega
  have HS : Hid (treStep c f = ⟨4, 0, 0, 0, 0, 9, 0⟩) := Lib.hid (by simp [treStep, hp])
  have hp' : (f.pc == 22) = true := by simpa using hp
  obtain ⟨y0, y1⟩ := hf.y
  simp only [tl, Holds, List.cons_append, List.nil_append] at hw
  clear hp hf
  go_enter Tryd.func66, Tryd.ntmps66
  go_wp2
  (refine bodyPost_ret (v := (treStep c f).v) (by rw [HS.out]; simp [results, Tryd.results66, go_sem]) rfl ⟨rfl, EX⟩)
theorem treDone_23 (c : Cfg) (f : Frm) (s : Value) (hf : f.Fits) (hp : f.pc = 23) (b : Nat) (w : World) (hw : Holds w (tl c f s b)) : Calls Tryd.prog 66 #[.pointer (some ⟨b, 0, none⟩)] w
    fun e w' => e = .returned (treStep c f).v ∧ Ext w w' := by
  have hb := tl_lt hw
  have hb1 : b < w.heap.size + 1 := by omega
  have hb2 : b < w.heap.size + 1 + 1 := by omega
  obtain ⟨Q, hQ⟩ : ∃ Q, (f.y + 1) % 4294967296 = Q := ⟨_, rfl⟩
  have hwq : IntKind.u32.wrap (f.y + 1) = Q := by rw [IntKind.wrap_u32, hQ]
  have HS : Hid (treStep c f = ⟨4, 0, 0, 0, 0, 0, Q⟩) := Lib.hid (by simp [treStep, hp, hQ])
  have hp' : (f.pc == 23) = true := by simpa using hp
  obtain ⟨y0, y1⟩ := hf.y
  simp only [tl, Holds, List.cons_append, List.nil_append] at hw
  clear hp hf
  go_enter Tryd.func66, Tryd.ntmps66
  go_wp2
  (refine bodyPost_ret (v := (treStep c f).v) (by rw [HS.out]; simp [results, Tryd.results66, go_sem]) rfl ⟨rfl, EX⟩)
theorem treDone_24 (c : Cfg) (f : Frm) (s : Value) (hf : f.Fits) (hp : f.pc = 24) (b : Nat) (w : World) (hw : Holds w (tl c f s b)) : Calls Tryd.prog 66 #[.pointer (some ⟨b, 0, none⟩)] w
    fun e w' => e = .returned (treStep c f).v ∧ Ext w w' := by
  have hb := tl_lt hw
  have hb1 : b < w.heap.size + 1 := by omega
  have hb2 : b < w.heap.size + 1 + 1 := by omega
  have HS : Hid (treStep c f = ⟨4, 0, 0, 0, 0, 0, 0⟩) := Lib.hid (by simp [treStep, hp])
  have hp' : (f.pc == 24) = true := by simpa using hp
  obtain ⟨y0, y1⟩ := hf.y
  simp only [tl, Holds, List.cons_append, List.nil_append] at hw
  clear hp hf
  go_enter Tryd.func66, Tryd.ntmps66
  go_wp2
  (refine bodyPost_ret (v := (treStep c f).v) (by rw [HS.out]; simp [results, Tryd.results66, go_sem]) rfl ⟨rfl, EX⟩)
theorem treDone_25 (c : Cfg) (f : Frm) (s : Value) (hf : f.Fits) (hp : f.pc = 25) (b : Nat) (w : World) (hw : Holds w (tl c f s b)) : Calls Tryd.prog 66 #[.pointer (some ⟨b, 0, none⟩)] w
    fun e w' => e = .returned (treStep c f).v ∧ Ext w w' := by
  have hb := tl_lt hw
  have hb1 : b < w.heap.size + 1 := by omega
  have hb2 : b < w.heap.size + 1 + 1 := by omega
  have HS : Hid (treStep c f = ⟨4, 0, 0, 0, 0, 0, f.b⟩) := Lib.hid (by simp [treStep, hp])
  have hp' : (f.pc == 25) = true := by simpa using hp
  obtain ⟨y0, y1⟩ := hf.y
  simp only [tl, Holds, List.cons_append, List.nil_append] at hw
  clear hp hf
  go_enter Tryd.func66, Tryd.ntmps66
  go_wp2
  (refine bodyPost_ret (v := (treStep c f).v) (by rw [HS.out]; simp [results, Tryd.results66, go_sem]) rfl ⟨rfl, EX⟩)

theorem treRead_any (c : Cfg) (f : Frm) (s : Value) (hc : TreOk c) (h i X : Int) (hh : 0 ≤ h ∧ h ≤ 255) (hi : -1000 ≤ i ∧ i ≤ 1000) (hX : treOff c h i = X) (b B : Nat) (w : World) (hB : w.cell? ⟨B, 0, none⟩ = some (.pointer (some ⟨b, 0, none⟩))) (hw : Holds w (tl c f s b)) (hs : Sl w s (lvC c) (lvL c)) :
    Calls Tryd.prog 62 #[.int .u8 h, .int .i64 i, .pointer (some ⟨B, 0, none⟩)] w fun e w' => e = .returned (Actn.mk 1 X 0 0 0 0 0).v ∧ Ext w w' := by
  have HK := Lib.hid hw
  have HS := Lib.hid hs
  have HA := Lib.hid hX
  have hb := World.block_lt_of_cell? _ _ hB
  dsimp only at hb
  clear hw hs hX
  go_enter Tryd.func62, Tryd.ntmps62
  go_wp2_with (go_at_call 63; refine (treOff_any c f s hc h i hh hi b _ (HK.out.ext EX) (HS.out.ext EX)).mono ?_; rintro e w1 ⟨rfl, os1, n1, rfl⟩; rw [HA.out])
  refine bodyPost_ret (v := (Actn.mk 1 X 0 0 0 0 0).v) (by simp [results, Tryd.results62, go_sem]) rfl ⟨rfl, EX⟩
theorem treWrite_any (c : Cfg) (f : Frm) (s : Value) (hc : TreOk c) (h i x y X : Int) (hh : 0 ≤ h ∧ h ≤ 255) (hi : -1000 ≤ i ∧ i ≤ 1000) (hx : 0 ≤ x ∧ x ≤ 4294967295) (hy : 0 ≤ y ∧ y ≤ 4294967295) (hX : treOff c h i = X) (b B : Nat) (w : World) (hB : w.cell? ⟨B, 0, none⟩ = some (.pointer (some ⟨b, 0, none⟩))) (hw : Holds w (tl c f s b)) (hs : Sl w s (lvC c) (lvL c)) :
    Calls Tryd.prog 64 #[.int .u8 h, .int .i64 i, .int .u32 x, .int .u32 y, .pointer (some ⟨B, 0, none⟩)] w fun e w' => e = .returned (Actn.mk 2 X x y 0 0 0).v ∧ Ext w w' := by
  have HK := Lib.hid hw
  have HS := Lib.hid hs
  have HA := Lib.hid hX
  obtain ⟨x0, x1⟩ := hx
  obtain ⟨y0, y1⟩ := hy
  have hb := World.block_lt_of_cell? _ _ hB
  dsimp only at hb
  clear hw hs hX
  go_enter Tryd.func64, Tryd.ntmps64
  go_wp2_with (go_at_call 63; refine (treOff_any c f s hc h i hh hi b _ (HK.out.ext EX) (HS.out.ext EX)).mono ?_; rintro e w1 ⟨rfl, os1, n1, rfl⟩; rw [HA.out])
  refine bodyPost_ret (v := (Actn.mk 2 X x y 0 0 0).v) (by simp [results, Tryd.results64, go_sem]) rfl ⟨rfl, EX⟩
end Go.Proofs.YtmhmaifmendebaaDoor.tree
/- The walk of 'act', the layer 'tree'. -/
namespace Go.Proofs.YtmhmaifmendebaaDoor.tree
open Go Go.RowKit
set_option maxRecDepth 100000
set_option maxHeartbeats 8000000

/-- What 'treNum' says. -/
theorem treNum_facts {c : Cfg} {f : Frm} (h : treNum c f = true) : f.n ≤ c.cap ∧ f.p ≤ c.cap ∧ f.j ≤ c.chunk ∧ f.h ≤ treTop c ∧ (f.pc = 6 → 1 ≤ f.i) ∧ (f.pc = 9 ∨ f.pc = 11 → 1 ≤ f.h ∧ f.i < treUp c f.n f.h) ∧ (f.pc = 12 → 1 ≤ f.h) ∧ (f.pc = 16 ∨ f.j ≠ c.chunk) := by
  simp only [treNum, Bool.and_eq_true, decide_eq_true_eq] at h
  obtain ⟨⟨⟨⟨⟨h1, h2⟩, h3⟩, h4⟩, h5⟩, h6⟩ := h
  refine ⟨h1, h2, h3, h4, fun e => ?_, fun e => ?_, fun e => ?_, ?_⟩
  · simpa [e] using h6
  · rcases e with e | e <;> simpa [e] using h6
  · simpa [e] using h6
  · simpa using h5
theorem treUp_pos {c : Cfg} (hc : TreOk c) {n h i : Int} (hn : 0 ≤ n) (hh : 0 ≤ h ∧ h ≤ 4) (h0 : 0 ≤ i) (hi : i < treUp c n h) : 1 ≤ n := by
  have := upI_le hn hc.node (h := h) (by omega)
  change i < upI n c.node h at hi
  omega
theorem treUp_le {c : Cfg} (hc : TreOk c) {n h : Int} (hn : 0 ≤ n) (hh : 0 ≤ h ∧ h ≤ 4) : 0 ≤ treUp c n h ∧ treUp c n h ≤ n := ⟨upI_nonneg _ _ _, upI_le hn hc.node (by omega)⟩
theorem endI_bd {n w h i : Int} (hn : 0 ≤ n ∧ n ≤ 32) (hw : w = 2 ∨ w = 3 ∨ w = 4) (hh : 1 ≤ h ∧ h ≤ 4) (hi : 0 ≤ i) : -1000 ≤ endI n w h i ∧ endI n w h i ≤ 1000 := by
  have h1 := upI_le hn.1 hw (h := h - 1) (by omega)
  have h2 := upI_nonneg n w (h - 1)
  have h3 : 0 ≤ (i + 1) * w := by rcases hw with rfl | rfl | rfl <;> omega
  unfold endI
  split <;> omega
end Go.Proofs.YtmhmaifmendebaaDoor.tree
