/- The walk of 'act', the layer 'tree'. -/
import Derived.Test.YtkklhhdkokncnaaDoorGd
namespace Go.Proofs.YtkklhhdkokncnaaDoor
open Go Go.RowKit
set_option maxRecDepth 100000
set_option maxHeartbeats 8000000

theorem treAct_5 (c : Cfg) (f : Frm) (s : Value) (hc : TreOk c) (hf : f.Fits) (hnum : treNum c f = true) (hp : f.pc = 5) (b : Nat) (w : World) (ht : Tab w) (hw : Holds w (tl c f s b)) (hs : Sl w s (lvC c) (lvL c)) : Calls Tryd.prog 30 #[.pointer (some ⟨b, 0, none⟩)] w
    fun e w' => e = .returned (treStep c f).v ∧ Ext w w' := by
  have hb := tl_lt hw
  have hb1 : b < w.heap.size + 1 := by omega
  have hb2 : b < w.heap.size + 1 + 1 := by omega
  have HK := Lib.hid hw
  have HS := Lib.hid hs
  have HT := Lib.hid ht
  have HF := Lib.hid hf
  have HP := Lib.hid hp
  obtain ⟨m1, m2, m3, m4, m5, m6, m7, m8⟩ := treNum_facts hnum
  have htop := topI_bd c.cap c.node
  change 0 ≤ treTop c ∧ treTop c ≤ 4 at htop
  have hcap := hc.cap
  obtain ⟨⟨k0, k1⟩, ⟨a0, a1⟩, ⟨b0, b1⟩, ⟨p0, p1⟩, ⟨i0, i1⟩, ⟨j0, j1⟩, ⟨n0, n1⟩, ⟨q0, q1⟩, ⟨h0, h1⟩, ⟨x0, x1⟩, ⟨y0, y1⟩⟩ := hf
  obtain ⟨X, hX⟩ : ∃ X, treOff c 0 (f.i - 1) = X := ⟨_, rfl⟩
  have HA := Lib.hid hX
  have HS1 : Hid (treStep c f = ⟨1, X, 0, 0, 0, 0, 0⟩) := Lib.hid (by simp [treStep, hp, hX])
  have hp' : (f.pc == 5) = true := by simpa using hp
  have hwi : IntKind.i64.wrap f.i = f.i := by rw [IntKind.wrap_i64]; omega
  have hwn : IntKind.i64.wrap f.n = f.n := by rw [IntKind.wrap_i64]; omega
  have hwp : IntKind.i64.wrap f.p = f.p := by rw [IntKind.wrap_i64]; omega
  have hwh : IntKind.i64.wrap f.h = f.h := by rw [IntKind.wrap_i64]; omega
  have hwi1 : IntKind.i64.wrap (f.i - 1) = f.i - 1 := by rw [IntKind.wrap_i64]; omega
  have HBX : Hid (∀ W' : World, Ext (w.alloc (.cells #[.pointer (some ⟨b, 0, none⟩)] 76)) W' → W'.cell? ⟨w.heap.size, 0, none⟩ = some (.pointer (some ⟨b, 0, none⟩))) := Lib.hid fun W' e => ext_cell e (by simp [go_sem])
  simp only [tl, Holds, List.cons_append, List.nil_append] at hw
  clear hp hnum m5 m6 m7 m8 hX ht hs
  go_enter Tryd.func30, Tryd.ntmps30
  go_wp2_with (go_at_call 56; (with_reducible refine (treRead_any c f s hc (0) (f.i - 1) X (by omega) (by omega) HA.out b w.heap.size _ (HBX.out _ EX) (HK.out.ext EX) (HS.out.ext EX)).mono ?_); rintro e w1 ⟨rfl, os1, n1, rfl⟩)
  refine bodyPost_ret (v := (treStep c f).v) (by rw [HS1.out]; simp [results, Tryd.results30, go_sem]) rfl ⟨rfl, EX⟩
theorem treAct_6 (c : Cfg) (f : Frm) (s : Value) (hc : TreOk c) (hf : f.Fits) (hnum : treNum c f = true) (hp : f.pc = 6) (b : Nat) (w : World) (ht : Tab w) (hw : Holds w (tl c f s b)) (hs : Sl w s (lvC c) (lvL c)) : Calls Tryd.prog 30 #[.pointer (some ⟨b, 0, none⟩)] w
    fun e w' => e = .returned (treStep c f).v ∧ Ext w w' := by
  have hb := tl_lt hw
  have hb1 : b < w.heap.size + 1 := by omega
  have hb2 : b < w.heap.size + 1 + 1 := by omega
  have HK := Lib.hid hw
  have HS := Lib.hid hs
  have HT := Lib.hid ht
  have HF := Lib.hid hf
  have HP := Lib.hid hp
  obtain ⟨m1, m2, m3, m4, m5, m6, m7, m8⟩ := treNum_facts hnum
  have htop := topI_bd c.cap c.node
  change 0 ≤ treTop c ∧ treTop c ≤ 4 at htop
  have hcap := hc.cap
  obtain ⟨⟨k0, k1⟩, ⟨a0, a1⟩, ⟨b0, b1⟩, ⟨p0, p1⟩, ⟨i0, i1⟩, ⟨j0, j1⟩, ⟨n0, n1⟩, ⟨q0, q1⟩, ⟨h0, h1⟩, ⟨x0, x1⟩, ⟨y0, y1⟩⟩ := hf
  obtain ⟨X, hX⟩ : ∃ X, treOff c 0 f.i = X := ⟨_, rfl⟩
  have HA := Lib.hid hX
  have HS1 : Hid (treStep c f = ⟨2, X, f.x, f.y, 0, 0, 0⟩) := Lib.hid (by simp [treStep, hp, hX])
  have hp' : (f.pc == 6) = true := by simpa using hp
  have hwi : IntKind.i64.wrap f.i = f.i := by rw [IntKind.wrap_i64]; omega
  have hwn : IntKind.i64.wrap f.n = f.n := by rw [IntKind.wrap_i64]; omega
  have hwp : IntKind.i64.wrap f.p = f.p := by rw [IntKind.wrap_i64]; omega
  have hwh : IntKind.i64.wrap f.h = f.h := by rw [IntKind.wrap_i64]; omega
  have hwi1 : IntKind.i64.wrap (f.i - 1) = f.i - 1 := by rw [IntKind.wrap_i64]; omega
  have HBX : Hid (∀ W' : World, Ext (w.alloc (.cells #[.pointer (some ⟨b, 0, none⟩)] 76)) W' → W'.cell? ⟨w.heap.size, 0, none⟩ = some (.pointer (some ⟨b, 0, none⟩))) := Lib.hid fun W' e => ext_cell e (by simp [go_sem])
  simp only [tl, Holds, List.cons_append, List.nil_append] at hw
  clear hp hnum m5 m6 m7 m8 hX ht hs
  go_enter Tryd.func30, Tryd.ntmps30
  go_upto_region 16 with fail
  go_region_held3 (fun W => W.cell? ⟨w.heap.size, 0, none⟩ = some (.pointer (some ⟨b, 0, none⟩)) ∧ W.cell? ⟨b, 0, none⟩ = some (.int .u8 f.kind) ∧ W.cell? ⟨b, 1, none⟩ = some (.int .u32 f.a) ∧ W.cell? ⟨b, 2, none⟩ = some (.int .u32 f.b) ∧ W.cell? ⟨b, 3, none⟩ = some (.int .u8 f.pc) ∧ W.cell? ⟨b, 4, none⟩ = some (.int .u8 f.i) ∧ W.cell? ⟨b, 5, none⟩ = some (.int .u8 f.j) ∧ W.cell? ⟨b, 6, none⟩ = some (.int .u8 f.n) ∧ W.cell? ⟨b, 7, none⟩ = some (.int .u8 f.p) ∧ W.cell? ⟨b, 8, none⟩ = some (.int .u8 f.h) ∧ W.cell? ⟨b, 9, none⟩ = some (.int .u32 f.x) ∧ W.cell? ⟨b, 10, none⟩ = some (.int .u32 f.y) ∧ W.cell? ⟨b, 11, none⟩ = some (.int .u8 c.object) ∧ W.cell? ⟨b, 12, none⟩ = some (.int .i64 c.instances) ∧ W.cell? ⟨b, 13, none⟩ = some (.int .i64 c.threads) ∧ W.cell? ⟨b, 14, none⟩ = some (.int .u8 c.kind) ∧ W.cell? ⟨b, 15, none⟩ = some (.int .i64 c.stripes) ∧ W.cell? ⟨b, 16, none⟩ = some (.int .i64 c.bits) ∧ W.cell? ⟨b, 17, none⟩ = some (.int .i64 c.cap) ∧ W.cell? ⟨b, 18, none⟩ = some (.int .i64 c.node) ∧ W.cell? ⟨b, 19, none⟩ = some (.int .i64 c.batch) ∧ W.cell? ⟨b, 20, none⟩ = some (.int .i64 c.chunk) ∧ W.cell? ⟨b, 21, none⟩ = some (.int .u64 c.limit) ∧ W.cell? ⟨b, 22, none⟩ = some (.int .u64 c.most) ∧ W.cell? ⟨b, 23, none⟩ = some s) ((refine ⟨?_, HK.out.ext ?_⟩ <;> first | (simp [go_sem]; done) | (exact EX; done))) (first | (go_at_call 58; (with_reducible refine (treWrite_any c f s hc (0) (f.i) (f.x) (f.y) X (by omega) (by omega) (by omega) (by omega) HA.out b w.heap.size _ (HBX.out _ EX) (HK.out.ext EX) (HS.out.ext EX)).mono ?_); rintro e w1 ⟨rfl, os1, n1, rfl⟩))
  all_goals
    go_wp2
    refine bodyPost_ret (v := (treStep c f).v) (by rw [HS1.out]; simp [results, Tryd.results30, go_sem]) rfl ⟨rfl, EX⟩
theorem treAct_7 (c : Cfg) (f : Frm) (s : Value) (hc : TreOk c) (hf : f.Fits) (hnum : treNum c f = true) (hp : f.pc = 7) (b : Nat) (w : World) (ht : Tab w) (hw : Holds w (tl c f s b)) (hs : Sl w s (lvC c) (lvL c)) : Calls Tryd.prog 30 #[.pointer (some ⟨b, 0, none⟩)] w
    fun e w' => e = .returned (treStep c f).v ∧ Ext w w' := by
  have hb := tl_lt hw
  have hb1 : b < w.heap.size + 1 := by omega
  have hb2 : b < w.heap.size + 1 + 1 := by omega
  have HK := Lib.hid hw
  have HS := Lib.hid hs
  have HT := Lib.hid ht
  have HF := Lib.hid hf
  have HP := Lib.hid hp
  obtain ⟨m1, m2, m3, m4, m5, m6, m7, m8⟩ := treNum_facts hnum
  have htop := topI_bd c.cap c.node
  change 0 ≤ treTop c ∧ treTop c ≤ 4 at htop
  have hcap := hc.cap
  obtain ⟨⟨k0, k1⟩, ⟨a0, a1⟩, ⟨b0, b1⟩, ⟨p0, p1⟩, ⟨i0, i1⟩, ⟨j0, j1⟩, ⟨n0, n1⟩, ⟨q0, q1⟩, ⟨h0, h1⟩, ⟨x0, x1⟩, ⟨y0, y1⟩⟩ := hf
  obtain ⟨X, hX⟩ : ∃ X, treOff c 0 f.p = X := ⟨_, rfl⟩
  have HA := Lib.hid hX
  have HS1 : Hid (treStep c f = ⟨2, X, f.a, f.b, 0, 0, 0⟩) := Lib.hid (by simp [treStep, hp, hX])
  have hp' : (f.pc == 7) = true := by simpa using hp
  have hwi : IntKind.i64.wrap f.i = f.i := by rw [IntKind.wrap_i64]; omega
  have hwn : IntKind.i64.wrap f.n = f.n := by rw [IntKind.wrap_i64]; omega
  have hwp : IntKind.i64.wrap f.p = f.p := by rw [IntKind.wrap_i64]; omega
  have hwh : IntKind.i64.wrap f.h = f.h := by rw [IntKind.wrap_i64]; omega
  have hwi1 : IntKind.i64.wrap (f.i - 1) = f.i - 1 := by rw [IntKind.wrap_i64]; omega
  have HBX : Hid (∀ W' : World, Ext (w.alloc (.cells #[.pointer (some ⟨b, 0, none⟩)] 76)) W' → W'.cell? ⟨w.heap.size, 0, none⟩ = some (.pointer (some ⟨b, 0, none⟩))) := Lib.hid fun W' e => ext_cell e (by simp [go_sem])
  simp only [tl, Holds, List.cons_append, List.nil_append] at hw
  clear hp hnum m5 m6 m7 m8 hX ht hs
  go_enter Tryd.func30, Tryd.ntmps30
  go_upto_region 12 with fail
  go_region_held3 (fun W => W.cell? ⟨w.heap.size, 0, none⟩ = some (.pointer (some ⟨b, 0, none⟩)) ∧ W.cell? ⟨b, 0, none⟩ = some (.int .u8 f.kind) ∧ W.cell? ⟨b, 1, none⟩ = some (.int .u32 f.a) ∧ W.cell? ⟨b, 2, none⟩ = some (.int .u32 f.b) ∧ W.cell? ⟨b, 3, none⟩ = some (.int .u8 f.pc) ∧ W.cell? ⟨b, 4, none⟩ = some (.int .u8 f.i) ∧ W.cell? ⟨b, 5, none⟩ = some (.int .u8 f.j) ∧ W.cell? ⟨b, 6, none⟩ = some (.int .u8 f.n) ∧ W.cell? ⟨b, 7, none⟩ = some (.int .u8 f.p) ∧ W.cell? ⟨b, 8, none⟩ = some (.int .u8 f.h) ∧ W.cell? ⟨b, 9, none⟩ = some (.int .u32 f.x) ∧ W.cell? ⟨b, 10, none⟩ = some (.int .u32 f.y) ∧ W.cell? ⟨b, 11, none⟩ = some (.int .u8 c.object) ∧ W.cell? ⟨b, 12, none⟩ = some (.int .i64 c.instances) ∧ W.cell? ⟨b, 13, none⟩ = some (.int .i64 c.threads) ∧ W.cell? ⟨b, 14, none⟩ = some (.int .u8 c.kind) ∧ W.cell? ⟨b, 15, none⟩ = some (.int .i64 c.stripes) ∧ W.cell? ⟨b, 16, none⟩ = some (.int .i64 c.bits) ∧ W.cell? ⟨b, 17, none⟩ = some (.int .i64 c.cap) ∧ W.cell? ⟨b, 18, none⟩ = some (.int .i64 c.node) ∧ W.cell? ⟨b, 19, none⟩ = some (.int .i64 c.batch) ∧ W.cell? ⟨b, 20, none⟩ = some (.int .i64 c.chunk) ∧ W.cell? ⟨b, 21, none⟩ = some (.int .u64 c.limit) ∧ W.cell? ⟨b, 22, none⟩ = some (.int .u64 c.most) ∧ W.cell? ⟨b, 23, none⟩ = some s) ((refine ⟨?_, HK.out.ext ?_⟩ <;> first | (simp [go_sem]; done) | (exact EX; done))) (first | (go_at_call 58; (with_reducible refine (treWrite_any c f s hc (0) (f.p) (f.a) (f.b) X (by omega) (by omega) (by omega) (by omega) HA.out b w.heap.size _ (HBX.out _ EX) (HK.out.ext EX) (HS.out.ext EX)).mono ?_); rintro e w1 ⟨rfl, os1, n1, rfl⟩))
  all_goals
    go_wp2
    refine bodyPost_ret (v := (treStep c f).v) (by rw [HS1.out]; simp [results, Tryd.results30, go_sem]) rfl ⟨rfl, EX⟩
theorem treAct_8 (c : Cfg) (f : Frm) (s : Value) (hc : TreOk c) (hf : f.Fits) (hnum : treNum c f = true) (hp : f.pc = 8) (b : Nat) (w : World) (ht : Tab w) (hw : Holds w (tl c f s b)) (hs : Sl w s (lvC c) (lvL c)) : Calls Tryd.prog 30 #[.pointer (some ⟨b, 0, none⟩)] w
    fun e w' => e = .returned (treStep c f).v ∧ Ext w w' := by
  have hb := tl_lt hw
  have hb1 : b < w.heap.size + 1 := by omega
  have hb2 : b < w.heap.size + 1 + 1 := by omega
  have HK := Lib.hid hw
  have HS := Lib.hid hs
  have HT := Lib.hid ht
  have HF := Lib.hid hf
  have HP := Lib.hid hp
  obtain ⟨m1, m2, m3, m4, m5, m6, m7, m8⟩ := treNum_facts hnum
  have htop := topI_bd c.cap c.node
  change 0 ≤ treTop c ∧ treTop c ≤ 4 at htop
  have hcap := hc.cap
  obtain ⟨⟨k0, k1⟩, ⟨a0, a1⟩, ⟨b0, b1⟩, ⟨p0, p1⟩, ⟨i0, i1⟩, ⟨j0, j1⟩, ⟨n0, n1⟩, ⟨q0, q1⟩, ⟨h0, h1⟩, ⟨x0, x1⟩, ⟨y0, y1⟩⟩ := hf
  have HS1 : Hid (treStep c f = ⟨2, 0, f.n, 0, 0, 0, 0⟩) := Lib.hid (by simp [treStep, hp])
  have hp' : (f.pc == 8) = true := by simpa using hp
  have hwi : IntKind.i64.wrap f.i = f.i := by rw [IntKind.wrap_i64]; omega
  have hwn : IntKind.i64.wrap f.n = f.n := by rw [IntKind.wrap_i64]; omega
  have hwp : IntKind.i64.wrap f.p = f.p := by rw [IntKind.wrap_i64]; omega
  have hwh : IntKind.i64.wrap f.h = f.h := by rw [IntKind.wrap_i64]; omega
  have hwi1 : IntKind.i64.wrap (f.i - 1) = f.i - 1 := by rw [IntKind.wrap_i64]; omega
  have HBX : Hid (∀ W' : World, Ext (w.alloc (.cells #[.pointer (some ⟨b, 0, none⟩)] 76)) W' → W'.cell? ⟨w.heap.size, 0, none⟩ = some (.pointer (some ⟨b, 0, none⟩))) := Lib.hid fun W' e => ext_cell e (by simp [go_sem])
  simp only [tl, Holds, List.cons_append, List.nil_append] at hw
  clear hp hnum m5 m6 m7 m8 ht hs
  go_enter Tryd.func30, Tryd.ntmps30
  go_wp2
  refine bodyPost_ret (v := (treStep c f).v) (by rw [HS1.out]; simp [results, Tryd.results30, go_sem]) rfl ⟨rfl, EX⟩
end Go.Proofs.YtkklhhdkokncnaaDoor
