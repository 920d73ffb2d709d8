/- The walk of the reference's 'Step', layer 'tree'. -/
import Derived.Test.YtkklhhdkokncnaaDoorTreR4
namespace Go.Proofs.YtkklhhdkokncnaaDoor
open Go Go.RowKit

theorem offR_as (c : Cfg) (hc : TreOk c) (h i X : Int) (hh : 0 ≤ h ∧ h ≤ 4) (hi : -1000 ≤ i ∧ i ≤ 1000) (hX : treOff c h i = X) (w : World) : Calls Tryd.prog 21 #[c.v, .int .i64 h, .int .i64 i] w
    fun e w' => e = .returned (.int .i64 X) ∧ Ext w w' := by
  subst hX
  exact offR_any c hc h i hh hi w
set_option maxRecDepth 100000 in
set_option maxHeartbeats 4000000 in
theorem stepR_0 (c : Cfg) (f : Frm) (hc : TreOk c) (hf : f.Fits) (hnum : treNum c f = true) (hp : f.pc = 0) (w : World) : Calls Tryd.prog 33 #[c.v, f.v] w
    fun e w' => e = .returned (treStep c f).v ∧ Ext w w' := by
  obtain ⟨m1, m2, m3, m4, m5, m6, m7, m8⟩ := treNum_facts hnum
  have htop := topI_bd c.cap c.node
  change 0 ≤ treTop c ∧ treTop c ≤ 4 at htop
  have hcap := hc.cap
  obtain ⟨⟨k0, k1⟩, ⟨a0, a1⟩, ⟨b0, b1⟩, ⟨p0, p1⟩, ⟨i0, i1⟩, ⟨j0, j1⟩, ⟨n0, n1⟩, ⟨q0, q1⟩, ⟨h0, h1⟩, ⟨x0, x1⟩, ⟨y0, y1⟩⟩ := hf
  have HS1 : Hid (treStep c f = ⟨1, 0, 0, 0, 0, 0, 0⟩) := Lib.hid (by simp [treStep, hp])
  have hp' : (f.pc == 0) = true := by simpa using hp
  have hwi : IntKind.i64.wrap f.i = f.i := by rw [IntKind.wrap_i64]; omega
  have hwn : IntKind.i64.wrap f.n = f.n := by rw [IntKind.wrap_i64]; omega
  have hwp : IntKind.i64.wrap f.p = f.p := by rw [IntKind.wrap_i64]; omega
  have hwh : IntKind.i64.wrap f.h = f.h := by rw [IntKind.wrap_i64]; omega
  have hwi1 : IntKind.i64.wrap (f.i - 1) = f.i - 1 := by rw [IntKind.wrap_i64]; omega
  have hwh1 : IntKind.i64.wrap (f.h - 1) = f.h - 1 := by rw [IntKind.wrap_i64]; omega
  have hua : IntKind.u64.wrap f.a = f.a := by rw [IntKind.wrap_u64]; omega
  have hub : IntKind.u64.wrap f.b = f.b := by rw [IntKind.wrap_u64]; omega
  have hux : IntKind.u64.wrap f.x = f.x := by rw [IntKind.wrap_u64]; omega
  have huy : IntKind.u64.wrap f.y = f.y := by rw [IntKind.wrap_u64]; omega
  have HK : Hid (Holds ((w.alloc (.cells #[.int .u8 c.object, .int .i64 c.instances, .int .i64 c.threads, .int .u8 c.kind, .int .i64 c.stripes, .int .i64 c.bits, .int .i64 c.cap, .int .i64 c.node, .int .i64 c.batch, .int .i64 c.chunk, .int .u64 c.limit, .int .u64 c.most] 24)).alloc (.cells #[.int .u8 f.kind, .int .u32 f.a, .int .u32 f.b, .int .u8 f.pc, .int .u8 f.i, .int .u8 f.j, .int .u8 f.n, .int .u8 f.p, .int .u8 f.h, .int .u32 f.x, .int .u32 f.y] 27)) ([(w.heap.size, 0, .int .u8 c.object), (w.heap.size, 1, .int .i64 c.instances), (w.heap.size, 2, .int .i64 c.threads), (w.heap.size, 3, .int .u8 c.kind), (w.heap.size, 4, .int .i64 c.stripes), (w.heap.size, 5, .int .i64 c.bits), (w.heap.size, 6, .int .i64 c.cap), (w.heap.size, 7, .int .i64 c.node), (w.heap.size, 8, .int .i64 c.batch), (w.heap.size, 9, .int .i64 c.chunk), (w.heap.size, 10, .int .u64 c.limit), (w.heap.size, 11, .int .u64 c.most)] ++ [(w.heap.size + 1, 0, .int .u8 f.kind), (w.heap.size + 1, 1, .int .u32 f.a), (w.heap.size + 1, 2, .int .u32 f.b), (w.heap.size + 1, 3, .int .u8 f.pc), (w.heap.size + 1, 4, .int .u8 f.i), (w.heap.size + 1, 5, .int .u8 f.j), (w.heap.size + 1, 6, .int .u8 f.n), (w.heap.size + 1, 7, .int .u8 f.p), (w.heap.size + 1, 8, .int .u8 f.h), (w.heap.size + 1, 9, .int .u32 f.x), (w.heap.size + 1, 10, .int .u32 f.y)])) := Lib.hid (by rw [holds_iff]; simp [go_sem])
  clear hp hnum m5 m6 m7 m8
  go_enter Tryd.func33, Tryd.ntmps33
  go_wp2
  refine bodyPost_ret (v := (treStep c f).v) (by rw [HS1.out]; simp [results, Tryd.results33, go_sem]) rfl ⟨rfl, (by repeat (first | with_reducible exact Ext.refl _ | with_reducible assumption | with_reducible refine Ext.alloc ?_ _ | with_reducible refine Ext.gr ?_ _ | with_reducible refine Ext.drewN ?_ _ | with_reducible refine Ext.drew ?_ | with_reducible refine Ext.setCell ?_ ?_ _ | with_reducible refine Ext.more ?_ _ _ | (show _ ≤ _; dsimp only; omega)))⟩
set_option maxRecDepth 100000 in
set_option maxHeartbeats 4000000 in
theorem stepR_1 (c : Cfg) (f : Frm) (hc : TreOk c) (hf : f.Fits) (hnum : treNum c f = true) (hp : f.pc = 1) (w : World) : Calls Tryd.prog 33 #[c.v, f.v] w
    fun e w' => e = .returned (treStep c f).v ∧ Ext w w' := by
  obtain ⟨m1, m2, m3, m4, m5, m6, m7, m8⟩ := treNum_facts hnum
  have htop := topI_bd c.cap c.node
  change 0 ≤ treTop c ∧ treTop c ≤ 4 at htop
  have hcap := hc.cap
  obtain ⟨⟨k0, k1⟩, ⟨a0, a1⟩, ⟨b0, b1⟩, ⟨p0, p1⟩, ⟨i0, i1⟩, ⟨j0, j1⟩, ⟨n0, n1⟩, ⟨q0, q1⟩, ⟨h0, h1⟩, ⟨x0, x1⟩, ⟨y0, y1⟩⟩ := hf
  obtain ⟨X, hX⟩ : ∃ X, treOff c f.h f.i = X := ⟨_, rfl⟩
  have HA := Lib.hid hX
  have HS1 : Hid (treStep c f = ⟨1, X, 0, 0, 0, 0, 0⟩) := Lib.hid (by simp [treStep, hp, hX])
  have hp' : (f.pc == 1) = true := by simpa using hp
  have hwi : IntKind.i64.wrap f.i = f.i := by rw [IntKind.wrap_i64]; omega
  have hwn : IntKind.i64.wrap f.n = f.n := by rw [IntKind.wrap_i64]; omega
  have hwp : IntKind.i64.wrap f.p = f.p := by rw [IntKind.wrap_i64]; omega
  have hwh : IntKind.i64.wrap f.h = f.h := by rw [IntKind.wrap_i64]; omega
  have hwi1 : IntKind.i64.wrap (f.i - 1) = f.i - 1 := by rw [IntKind.wrap_i64]; omega
  have hwh1 : IntKind.i64.wrap (f.h - 1) = f.h - 1 := by rw [IntKind.wrap_i64]; omega
  have hua : IntKind.u64.wrap f.a = f.a := by rw [IntKind.wrap_u64]; omega
  have hub : IntKind.u64.wrap f.b = f.b := by rw [IntKind.wrap_u64]; omega
  have hux : IntKind.u64.wrap f.x = f.x := by rw [IntKind.wrap_u64]; omega
  have huy : IntKind.u64.wrap f.y = f.y := by rw [IntKind.wrap_u64]; omega
  have HK : Hid (Holds ((w.alloc (.cells #[.int .u8 c.object, .int .i64 c.instances, .int .i64 c.threads, .int .u8 c.kind, .int .i64 c.stripes, .int .i64 c.bits, .int .i64 c.cap, .int .i64 c.node, .int .i64 c.batch, .int .i64 c.chunk, .int .u64 c.limit, .int .u64 c.most] 24)).alloc (.cells #[.int .u8 f.kind, .int .u32 f.a, .int .u32 f.b, .int .u8 f.pc, .int .u8 f.i, .int .u8 f.j, .int .u8 f.n, .int .u8 f.p, .int .u8 f.h, .int .u32 f.x, .int .u32 f.y] 27)) ([(w.heap.size, 0, .int .u8 c.object), (w.heap.size, 1, .int .i64 c.instances), (w.heap.size, 2, .int .i64 c.threads), (w.heap.size, 3, .int .u8 c.kind), (w.heap.size, 4, .int .i64 c.stripes), (w.heap.size, 5, .int .i64 c.bits), (w.heap.size, 6, .int .i64 c.cap), (w.heap.size, 7, .int .i64 c.node), (w.heap.size, 8, .int .i64 c.batch), (w.heap.size, 9, .int .i64 c.chunk), (w.heap.size, 10, .int .u64 c.limit), (w.heap.size, 11, .int .u64 c.most)] ++ [(w.heap.size + 1, 0, .int .u8 f.kind), (w.heap.size + 1, 1, .int .u32 f.a), (w.heap.size + 1, 2, .int .u32 f.b), (w.heap.size + 1, 3, .int .u8 f.pc), (w.heap.size + 1, 4, .int .u8 f.i), (w.heap.size + 1, 5, .int .u8 f.j), (w.heap.size + 1, 6, .int .u8 f.n), (w.heap.size + 1, 7, .int .u8 f.p), (w.heap.size + 1, 8, .int .u8 f.h), (w.heap.size + 1, 9, .int .u32 f.x), (w.heap.size + 1, 10, .int .u32 f.y)])) := Lib.hid (by rw [holds_iff]; simp [go_sem])
  clear hp hnum m5 m6 m7 m8 hX
  go_enter Tryd.func33, Tryd.ntmps33
  go_wp2_with (go_at_call 21; (with_reducible refine (offR_as c hc (f.h) (f.i) X (by omega) (by omega) HA.out _).mono ?_); rintro e w1 ⟨rfl, os1, n1, rfl⟩)
  refine bodyPost_ret (v := (treStep c f).v) (by rw [HS1.out]; simp [results, Tryd.results33, go_sem]) rfl ⟨rfl, (by repeat (first | with_reducible exact Ext.refl _ | with_reducible assumption | with_reducible refine Ext.alloc ?_ _ | with_reducible refine Ext.gr ?_ _ | with_reducible refine Ext.drewN ?_ _ | with_reducible refine Ext.drew ?_ | with_reducible refine Ext.setCell ?_ ?_ _ | with_reducible refine Ext.more ?_ _ _ | (show _ ≤ _; dsimp only; omega)))⟩
set_option maxRecDepth 100000 in
set_option maxHeartbeats 4000000 in
theorem stepR_3 (c : Cfg) (f : Frm) (hc : TreOk c) (hf : f.Fits) (hnum : treNum c f = true) (hp : f.pc = 3) (w : World) : Calls Tryd.prog 33 #[c.v, f.v] w
    fun e w' => e = .returned (treStep c f).v ∧ Ext w w' := by
  obtain ⟨m1, m2, m3, m4, m5, m6, m7, m8⟩ := treNum_facts hnum
  have htop := topI_bd c.cap c.node
  change 0 ≤ treTop c ∧ treTop c ≤ 4 at htop
  have hcap := hc.cap
  obtain ⟨⟨k0, k1⟩, ⟨a0, a1⟩, ⟨b0, b1⟩, ⟨p0, p1⟩, ⟨i0, i1⟩, ⟨j0, j1⟩, ⟨n0, n1⟩, ⟨q0, q1⟩, ⟨h0, h1⟩, ⟨x0, x1⟩, ⟨y0, y1⟩⟩ := hf
  obtain ⟨X, hX⟩ : ∃ X, treOff c 0 (f.p - 1) = X := ⟨_, rfl⟩
  have HA := Lib.hid hX
  have HS1 : Hid (treStep c f = ⟨1, X, 0, 0, 0, 0, 0⟩) := Lib.hid (by simp [treStep, hp, hX])
  have hp' : (f.pc == 3) = true := by simpa using hp
  have hwi : IntKind.i64.wrap f.i = f.i := by rw [IntKind.wrap_i64]; omega
  have hwn : IntKind.i64.wrap f.n = f.n := by rw [IntKind.wrap_i64]; omega
  have hwp : IntKind.i64.wrap f.p = f.p := by rw [IntKind.wrap_i64]; omega
  have hwh : IntKind.i64.wrap f.h = f.h := by rw [IntKind.wrap_i64]; omega
  have hwi1 : IntKind.i64.wrap (f.i - 1) = f.i - 1 := by rw [IntKind.wrap_i64]; omega
  have hwh1 : IntKind.i64.wrap (f.h - 1) = f.h - 1 := by rw [IntKind.wrap_i64]; omega
  have hua : IntKind.u64.wrap f.a = f.a := by rw [IntKind.wrap_u64]; omega
  have hub : IntKind.u64.wrap f.b = f.b := by rw [IntKind.wrap_u64]; omega
  have hux : IntKind.u64.wrap f.x = f.x := by rw [IntKind.wrap_u64]; omega
  have huy : IntKind.u64.wrap f.y = f.y := by rw [IntKind.wrap_u64]; omega
  have HK : Hid (Holds ((w.alloc (.cells #[.int .u8 c.object, .int .i64 c.instances, .int .i64 c.threads, .int .u8 c.kind, .int .i64 c.stripes, .int .i64 c.bits, .int .i64 c.cap, .int .i64 c.node, .int .i64 c.batch, .int .i64 c.chunk, .int .u64 c.limit, .int .u64 c.most] 24)).alloc (.cells #[.int .u8 f.kind, .int .u32 f.a, .int .u32 f.b, .int .u8 f.pc, .int .u8 f.i, .int .u8 f.j, .int .u8 f.n, .int .u8 f.p, .int .u8 f.h, .int .u32 f.x, .int .u32 f.y] 27)) ([(w.heap.size, 0, .int .u8 c.object), (w.heap.size, 1, .int .i64 c.instances), (w.heap.size, 2, .int .i64 c.threads), (w.heap.size, 3, .int .u8 c.kind), (w.heap.size, 4, .int .i64 c.stripes), (w.heap.size, 5, .int .i64 c.bits), (w.heap.size, 6, .int .i64 c.cap), (w.heap.size, 7, .int .i64 c.node), (w.heap.size, 8, .int .i64 c.batch), (w.heap.size, 9, .int .i64 c.chunk), (w.heap.size, 10, .int .u64 c.limit), (w.heap.size, 11, .int .u64 c.most)] ++ [(w.heap.size + 1, 0, .int .u8 f.kind), (w.heap.size + 1, 1, .int .u32 f.a), (w.heap.size + 1, 2, .int .u32 f.b), (w.heap.size + 1, 3, .int .u8 f.pc), (w.heap.size + 1, 4, .int .u8 f.i), (w.heap.size + 1, 5, .int .u8 f.j), (w.heap.size + 1, 6, .int .u8 f.n), (w.heap.size + 1, 7, .int .u8 f.p), (w.heap.size + 1, 8, .int .u8 f.h), (w.heap.size + 1, 9, .int .u32 f.x), (w.heap.size + 1, 10, .int .u32 f.y)])) := Lib.hid (by rw [holds_iff]; simp [go_sem])
  clear hp hnum m5 m6 m7 m8 hX
  go_enter Tryd.func33, Tryd.ntmps33
  go_wp2_with (go_at_call 21; (with_reducible refine (offR_as c hc (0) (f.p - 1) X (by omega) (by omega) HA.out _).mono ?_); rintro e w1 ⟨rfl, os1, n1, rfl⟩)
  refine bodyPost_ret (v := (treStep c f).v) (by rw [HS1.out]; simp [results, Tryd.results33, go_sem]) rfl ⟨rfl, (by repeat (first | with_reducible exact Ext.refl _ | with_reducible assumption | with_reducible refine Ext.alloc ?_ _ | with_reducible refine Ext.gr ?_ _ | with_reducible refine Ext.drewN ?_ _ | with_reducible refine Ext.drew ?_ | with_reducible refine Ext.setCell ?_ ?_ _ | with_reducible refine Ext.more ?_ _ _ | (show _ ≤ _; dsimp only; omega)))⟩
set_option maxRecDepth 100000 in
set_option maxHeartbeats 4000000 in
theorem stepR_4 (c : Cfg) (f : Frm) (hc : TreOk c) (hf : f.Fits) (hnum : treNum c f = true) (hp : f.pc = 4) (w : World) : Calls Tryd.prog 33 #[c.v, f.v] w
    fun e w' => e = .returned (treStep c f).v ∧ Ext w w' := by
  obtain ⟨m1, m2, m3, m4, m5, m6, m7, m8⟩ := treNum_facts hnum
  have htop := topI_bd c.cap c.node
  change 0 ≤ treTop c ∧ treTop c ≤ 4 at htop
  have hcap := hc.cap
  obtain ⟨⟨k0, k1⟩, ⟨a0, a1⟩, ⟨b0, b1⟩, ⟨p0, p1⟩, ⟨i0, i1⟩, ⟨j0, j1⟩, ⟨n0, n1⟩, ⟨q0, q1⟩, ⟨h0, h1⟩, ⟨x0, x1⟩, ⟨y0, y1⟩⟩ := hf
  obtain ⟨X, hX⟩ : ∃ X, treOff c 0 f.p = X := ⟨_, rfl⟩
  have HA := Lib.hid hX
  have HS1 : Hid (treStep c f = ⟨2, X, f.a, f.b, 0, 0, 0⟩) := Lib.hid (by simp [treStep, hp, hX])
  have hp' : (f.pc == 4) = true := by simpa using hp
  have hwi : IntKind.i64.wrap f.i = f.i := by rw [IntKind.wrap_i64]; omega
  have hwn : IntKind.i64.wrap f.n = f.n := by rw [IntKind.wrap_i64]; omega
  have hwp : IntKind.i64.wrap f.p = f.p := by rw [IntKind.wrap_i64]; omega
  have hwh : IntKind.i64.wrap f.h = f.h := by rw [IntKind.wrap_i64]; omega
  have hwi1 : IntKind.i64.wrap (f.i - 1) = f.i - 1 := by rw [IntKind.wrap_i64]; omega
  have hwh1 : IntKind.i64.wrap (f.h - 1) = f.h - 1 := by rw [IntKind.wrap_i64]; omega
  have hua : IntKind.u64.wrap f.a = f.a := by rw [IntKind.wrap_u64]; omega
  have hub : IntKind.u64.wrap f.b = f.b := by rw [IntKind.wrap_u64]; omega
  have hux : IntKind.u64.wrap f.x = f.x := by rw [IntKind.wrap_u64]; omega
  have huy : IntKind.u64.wrap f.y = f.y := by rw [IntKind.wrap_u64]; omega
  have HK : Hid (Holds ((w.alloc (.cells #[.int .u8 c.object, .int .i64 c.instances, .int .i64 c.threads, .int .u8 c.kind, .int .i64 c.stripes, .int .i64 c.bits, .int .i64 c.cap, .int .i64 c.node, .int .i64 c.batch, .int .i64 c.chunk, .int .u64 c.limit, .int .u64 c.most] 24)).alloc (.cells #[.int .u8 f.kind, .int .u32 f.a, .int .u32 f.b, .int .u8 f.pc, .int .u8 f.i, .int .u8 f.j, .int .u8 f.n, .int .u8 f.p, .int .u8 f.h, .int .u32 f.x, .int .u32 f.y] 27)) ([(w.heap.size, 0, .int .u8 c.object), (w.heap.size, 1, .int .i64 c.instances), (w.heap.size, 2, .int .i64 c.threads), (w.heap.size, 3, .int .u8 c.kind), (w.heap.size, 4, .int .i64 c.stripes), (w.heap.size, 5, .int .i64 c.bits), (w.heap.size, 6, .int .i64 c.cap), (w.heap.size, 7, .int .i64 c.node), (w.heap.size, 8, .int .i64 c.batch), (w.heap.size, 9, .int .i64 c.chunk), (w.heap.size, 10, .int .u64 c.limit), (w.heap.size, 11, .int .u64 c.most)] ++ [(w.heap.size + 1, 0, .int .u8 f.kind), (w.heap.size + 1, 1, .int .u32 f.a), (w.heap.size + 1, 2, .int .u32 f.b), (w.heap.size + 1, 3, .int .u8 f.pc), (w.heap.size + 1, 4, .int .u8 f.i), (w.heap.size + 1, 5, .int .u8 f.j), (w.heap.size + 1, 6, .int .u8 f.n), (w.heap.size + 1, 7, .int .u8 f.p), (w.heap.size + 1, 8, .int .u8 f.h), (w.heap.size + 1, 9, .int .u32 f.x), (w.heap.size + 1, 10, .int .u32 f.y)])) := Lib.hid (by rw [holds_iff]; simp [go_sem])
  clear hp hnum m5 m6 m7 m8 hX
  go_enter Tryd.func33, Tryd.ntmps33
  go_upto_region 12 with fail
  go_region_held3 (fun W => W.cell? ⟨w.heap.size, 0, none⟩ = some (.int .u8 c.object) ∧ W.cell? ⟨w.heap.size, 1, none⟩ = some (.int .i64 c.instances) ∧ W.cell? ⟨w.heap.size, 2, none⟩ = some (.int .i64 c.threads) ∧ W.cell? ⟨w.heap.size, 3, none⟩ = some (.int .u8 c.kind) ∧ W.cell? ⟨w.heap.size, 4, none⟩ = some (.int .i64 c.stripes) ∧ W.cell? ⟨w.heap.size, 5, none⟩ = some (.int .i64 c.bits) ∧ W.cell? ⟨w.heap.size, 6, none⟩ = some (.int .i64 c.cap) ∧ W.cell? ⟨w.heap.size, 7, none⟩ = some (.int .i64 c.node) ∧ W.cell? ⟨w.heap.size, 8, none⟩ = some (.int .i64 c.batch) ∧ W.cell? ⟨w.heap.size, 9, none⟩ = some (.int .i64 c.chunk) ∧ W.cell? ⟨w.heap.size, 10, none⟩ = some (.int .u64 c.limit) ∧ W.cell? ⟨w.heap.size, 11, none⟩ = some (.int .u64 c.most) ∧ W.cell? ⟨w.heap.size + 1, 0, none⟩ = some (.int .u8 f.kind) ∧ W.cell? ⟨w.heap.size + 1, 1, none⟩ = some (.int .u32 f.a) ∧ W.cell? ⟨w.heap.size + 1, 2, none⟩ = some (.int .u32 f.b) ∧ W.cell? ⟨w.heap.size + 1, 3, none⟩ = some (.int .u8 f.pc) ∧ W.cell? ⟨w.heap.size + 1, 4, none⟩ = some (.int .u8 f.i) ∧ W.cell? ⟨w.heap.size + 1, 5, none⟩ = some (.int .u8 f.j) ∧ W.cell? ⟨w.heap.size + 1, 6, none⟩ = some (.int .u8 f.n) ∧ W.cell? ⟨w.heap.size + 1, 7, none⟩ = some (.int .u8 f.p) ∧ W.cell? ⟨w.heap.size + 1, 8, none⟩ = some (.int .u8 f.h) ∧ W.cell? ⟨w.heap.size + 1, 9, none⟩ = some (.int .u32 f.x) ∧ W.cell? ⟨w.heap.size + 1, 10, none⟩ = some (.int .u32 f.y)) (exact HK.out.ext (by (repeat (first | with_reducible exact Ext.refl _ | with_reducible assumption | with_reducible refine Ext.alloc ?_ _ | with_reducible refine Ext.gr ?_ _ | with_reducible refine Ext.drewN ?_ _ | with_reducible refine Ext.drew ?_ | with_reducible refine Ext.setCell ?_ ?_ _ | with_reducible refine Ext.more ?_ _ _ | (show _ ≤ _; dsimp only; omega))))) (first | (go_at_call 21; (with_reducible refine (offR_as c hc (0) (f.p) X (by omega) (by omega) HA.out _).mono ?_); rintro e w1 ⟨rfl, os1, n1, rfl⟩))
  all_goals
    go_wp2
    refine bodyPost_ret (v := (treStep c f).v) (by rw [HS1.out]; simp [results, Tryd.results33, go_sem]) rfl ⟨rfl, (by repeat (first | with_reducible exact Ext.refl _ | with_reducible assumption | with_reducible refine Ext.alloc ?_ _ | with_reducible refine Ext.gr ?_ _ | with_reducible refine Ext.drewN ?_ _ | with_reducible refine Ext.drew ?_ | with_reducible refine Ext.setCell ?_ ?_ _ | with_reducible refine Ext.more ?_ _ _ | (show _ ≤ _; dsimp only; omega)))⟩
set_option maxRecDepth 100000 in
set_option maxHeartbeats 4000000 in
theorem stepR_5 (c : Cfg) (f : Frm) (hc : TreOk c) (hf : f.Fits) (hnum : treNum c f = true) (hp : f.pc = 5) (w : World) : Calls Tryd.prog 33 #[c.v, f.v] w
    fun e w' => e = .returned (treStep c f).v ∧ Ext w w' := by
  obtain ⟨m1, m2, m3, m4, m5, m6, m7, m8⟩ := treNum_facts hnum
  have htop := topI_bd c.cap c.node
  change 0 ≤ treTop c ∧ treTop c ≤ 4 at htop
  have hcap := hc.cap
  obtain ⟨⟨k0, k1⟩, ⟨a0, a1⟩, ⟨b0, b1⟩, ⟨p0, p1⟩, ⟨i0, i1⟩, ⟨j0, j1⟩, ⟨n0, n1⟩, ⟨q0, q1⟩, ⟨h0, h1⟩, ⟨x0, x1⟩, ⟨y0, y1⟩⟩ := hf
  obtain ⟨X, hX⟩ : ∃ X, treOff c 0 (f.i - 1) = X := ⟨_, rfl⟩
  have HA := Lib.hid hX
  have HS1 : Hid (treStep c f = ⟨1, X, 0, 0, 0, 0, 0⟩) := Lib.hid (by simp [treStep, hp, hX])
  have hp' : (f.pc == 5) = true := by simpa using hp
  have hwi : IntKind.i64.wrap f.i = f.i := by rw [IntKind.wrap_i64]; omega
  have hwn : IntKind.i64.wrap f.n = f.n := by rw [IntKind.wrap_i64]; omega
  have hwp : IntKind.i64.wrap f.p = f.p := by rw [IntKind.wrap_i64]; omega
  have hwh : IntKind.i64.wrap f.h = f.h := by rw [IntKind.wrap_i64]; omega
  have hwi1 : IntKind.i64.wrap (f.i - 1) = f.i - 1 := by rw [IntKind.wrap_i64]; omega
  have hwh1 : IntKind.i64.wrap (f.h - 1) = f.h - 1 := by rw [IntKind.wrap_i64]; omega
  have hua : IntKind.u64.wrap f.a = f.a := by rw [IntKind.wrap_u64]; omega
  have hub : IntKind.u64.wrap f.b = f.b := by rw [IntKind.wrap_u64]; omega
  have hux : IntKind.u64.wrap f.x = f.x := by rw [IntKind.wrap_u64]; omega
  have huy : IntKind.u64.wrap f.y = f.y := by rw [IntKind.wrap_u64]; omega
  have HK : Hid (Holds ((w.alloc (.cells #[.int .u8 c.object, .int .i64 c.instances, .int .i64 c.threads, .int .u8 c.kind, .int .i64 c.stripes, .int .i64 c.bits, .int .i64 c.cap, .int .i64 c.node, .int .i64 c.batch, .int .i64 c.chunk, .int .u64 c.limit, .int .u64 c.most] 24)).alloc (.cells #[.int .u8 f.kind, .int .u32 f.a, .int .u32 f.b, .int .u8 f.pc, .int .u8 f.i, .int .u8 f.j, .int .u8 f.n, .int .u8 f.p, .int .u8 f.h, .int .u32 f.x, .int .u32 f.y] 27)) ([(w.heap.size, 0, .int .u8 c.object), (w.heap.size, 1, .int .i64 c.instances), (w.heap.size, 2, .int .i64 c.threads), (w.heap.size, 3, .int .u8 c.kind), (w.heap.size, 4, .int .i64 c.stripes), (w.heap.size, 5, .int .i64 c.bits), (w.heap.size, 6, .int .i64 c.cap), (w.heap.size, 7, .int .i64 c.node), (w.heap.size, 8, .int .i64 c.batch), (w.heap.size, 9, .int .i64 c.chunk), (w.heap.size, 10, .int .u64 c.limit), (w.heap.size, 11, .int .u64 c.most)] ++ [(w.heap.size + 1, 0, .int .u8 f.kind), (w.heap.size + 1, 1, .int .u32 f.a), (w.heap.size + 1, 2, .int .u32 f.b), (w.heap.size + 1, 3, .int .u8 f.pc), (w.heap.size + 1, 4, .int .u8 f.i), (w.heap.size + 1, 5, .int .u8 f.j), (w.heap.size + 1, 6, .int .u8 f.n), (w.heap.size + 1, 7, .int .u8 f.p), (w.heap.size + 1, 8, .int .u8 f.h), (w.heap.size + 1, 9, .int .u32 f.x), (w.heap.size + 1, 10, .int .u32 f.y)])) := Lib.hid (by rw [holds_iff]; simp [go_sem])
  clear hp hnum m5 m6 m7 m8 hX
  go_enter Tryd.func33, Tryd.ntmps33
  go_wp2_with (go_at_call 21; (with_reducible refine (offR_as c hc (0) (f.i - 1) X (by omega) (by omega) HA.out _).mono ?_); rintro e w1 ⟨rfl, os1, n1, rfl⟩)
  refine bodyPost_ret (v := (treStep c f).v) (by rw [HS1.out]; simp [results, Tryd.results33, go_sem]) rfl ⟨rfl, (by repeat (first | with_reducible exact Ext.refl _ | with_reducible assumption | with_reducible refine Ext.alloc ?_ _ | with_reducible refine Ext.gr ?_ _ | with_reducible refine Ext.drewN ?_ _ | with_reducible refine Ext.drew ?_ | with_reducible refine Ext.setCell ?_ ?_ _ | with_reducible refine Ext.more ?_ _ _ | (show _ ≤ _; dsimp only; omega)))⟩
set_option maxRecDepth 100000 in
set_option maxHeartbeats 4000000 in
theorem stepR_6 (c : Cfg) (f : Frm) (hc : TreOk c) (hf : f.Fits) (hnum : treNum c f = true) (hp : f.pc = 6) (w : World) : Calls Tryd.prog 33 #[c.v, f.v] w
    fun e w' => e = .returned (treStep c f).v ∧ Ext w w' := by
  obtain ⟨m1, m2, m3, m4, m5, m6, m7, m8⟩ := treNum_facts hnum
  have htop := topI_bd c.cap c.node
  change 0 ≤ treTop c ∧ treTop c ≤ 4 at htop
  have hcap := hc.cap
  obtain ⟨⟨k0, k1⟩, ⟨a0, a1⟩, ⟨b0, b1⟩, ⟨p0, p1⟩, ⟨i0, i1⟩, ⟨j0, j1⟩, ⟨n0, n1⟩, ⟨q0, q1⟩, ⟨h0, h1⟩, ⟨x0, x1⟩, ⟨y0, y1⟩⟩ := hf
  obtain ⟨X, hX⟩ : ∃ X, treOff c 0 f.i = X := ⟨_, rfl⟩
  have HA := Lib.hid hX
  have HS1 : Hid (treStep c f = ⟨2, X, f.x, f.y, 0, 0, 0⟩) := Lib.hid (by simp [treStep, hp, hX])
  have hp' : (f.pc == 6) = true := by simpa using hp
  have hwi : IntKind.i64.wrap f.i = f.i := by rw [IntKind.wrap_i64]; omega
  have hwn : IntKind.i64.wrap f.n = f.n := by rw [IntKind.wrap_i64]; omega
  have hwp : IntKind.i64.wrap f.p = f.p := by rw [IntKind.wrap_i64]; omega
  have hwh : IntKind.i64.wrap f.h = f.h := by rw [IntKind.wrap_i64]; omega
  have hwi1 : IntKind.i64.wrap (f.i - 1) = f.i - 1 := by rw [IntKind.wrap_i64]; omega
  have hwh1 : IntKind.i64.wrap (f.h - 1) = f.h - 1 := by rw [IntKind.wrap_i64]; omega
  have hua : IntKind.u64.wrap f.a = f.a := by rw [IntKind.wrap_u64]; omega
  have hub : IntKind.u64.wrap f.b = f.b := by rw [IntKind.wrap_u64]; omega
  have hux : IntKind.u64.wrap f.x = f.x := by rw [IntKind.wrap_u64]; omega
  have huy : IntKind.u64.wrap f.y = f.y := by rw [IntKind.wrap_u64]; omega
  have HK : Hid (Holds ((w.alloc (.cells #[.int .u8 c.object, .int .i64 c.instances, .int .i64 c.threads, .int .u8 c.kind, .int .i64 c.stripes, .int .i64 c.bits, .int .i64 c.cap, .int .i64 c.node, .int .i64 c.batch, .int .i64 c.chunk, .int .u64 c.limit, .int .u64 c.most] 24)).alloc (.cells #[.int .u8 f.kind, .int .u32 f.a, .int .u32 f.b, .int .u8 f.pc, .int .u8 f.i, .int .u8 f.j, .int .u8 f.n, .int .u8 f.p, .int .u8 f.h, .int .u32 f.x, .int .u32 f.y] 27)) ([(w.heap.size, 0, .int .u8 c.object), (w.heap.size, 1, .int .i64 c.instances), (w.heap.size, 2, .int .i64 c.threads), (w.heap.size, 3, .int .u8 c.kind), (w.heap.size, 4, .int .i64 c.stripes), (w.heap.size, 5, .int .i64 c.bits), (w.heap.size, 6, .int .i64 c.cap), (w.heap.size, 7, .int .i64 c.node), (w.heap.size, 8, .int .i64 c.batch), (w.heap.size, 9, .int .i64 c.chunk), (w.heap.size, 10, .int .u64 c.limit), (w.heap.size, 11, .int .u64 c.most)] ++ [(w.heap.size + 1, 0, .int .u8 f.kind), (w.heap.size + 1, 1, .int .u32 f.a), (w.heap.size + 1, 2, .int .u32 f.b), (w.heap.size + 1, 3, .int .u8 f.pc), (w.heap.size + 1, 4, .int .u8 f.i), (w.heap.size + 1, 5, .int .u8 f.j), (w.heap.size + 1, 6, .int .u8 f.n), (w.heap.size + 1, 7, .int .u8 f.p), (w.heap.size + 1, 8, .int .u8 f.h), (w.heap.size + 1, 9, .int .u32 f.x), (w.heap.size + 1, 10, .int .u32 f.y)])) := Lib.hid (by rw [holds_iff]; simp [go_sem])
  clear hp hnum m5 m6 m7 m8 hX
  go_enter Tryd.func33, Tryd.ntmps33
  go_upto_region 16 with fail
  go_region_held3 (fun W => W.cell? ⟨w.heap.size, 0, none⟩ = some (.int .u8 c.object) ∧ W.cell? ⟨w.heap.size, 1, none⟩ = some (.int .i64 c.instances) ∧ W.cell? ⟨w.heap.size, 2, none⟩ = some (.int .i64 c.threads) ∧ W.cell? ⟨w.heap.size, 3, none⟩ = some (.int .u8 c.kind) ∧ W.cell? ⟨w.heap.size, 4, none⟩ = some (.int .i64 c.stripes) ∧ W.cell? ⟨w.heap.size, 5, none⟩ = some (.int .i64 c.bits) ∧ W.cell? ⟨w.heap.size, 6, none⟩ = some (.int .i64 c.cap) ∧ W.cell? ⟨w.heap.size, 7, none⟩ = some (.int .i64 c.node) ∧ W.cell? ⟨w.heap.size, 8, none⟩ = some (.int .i64 c.batch) ∧ W.cell? ⟨w.heap.size, 9, none⟩ = some (.int .i64 c.chunk) ∧ W.cell? ⟨w.heap.size, 10, none⟩ = some (.int .u64 c.limit) ∧ W.cell? ⟨w.heap.size, 11, none⟩ = some (.int .u64 c.most) ∧ W.cell? ⟨w.heap.size + 1, 0, none⟩ = some (.int .u8 f.kind) ∧ W.cell? ⟨w.heap.size + 1, 1, none⟩ = some (.int .u32 f.a) ∧ W.cell? ⟨w.heap.size + 1, 2, none⟩ = some (.int .u32 f.b) ∧ W.cell? ⟨w.heap.size + 1, 3, none⟩ = some (.int .u8 f.pc) ∧ W.cell? ⟨w.heap.size + 1, 4, none⟩ = some (.int .u8 f.i) ∧ W.cell? ⟨w.heap.size + 1, 5, none⟩ = some (.int .u8 f.j) ∧ W.cell? ⟨w.heap.size + 1, 6, none⟩ = some (.int .u8 f.n) ∧ W.cell? ⟨w.heap.size + 1, 7, none⟩ = some (.int .u8 f.p) ∧ W.cell? ⟨w.heap.size + 1, 8, none⟩ = some (.int .u8 f.h) ∧ W.cell? ⟨w.heap.size + 1, 9, none⟩ = some (.int .u32 f.x) ∧ W.cell? ⟨w.heap.size + 1, 10, none⟩ = some (.int .u32 f.y)) (exact HK.out.ext (by (repeat (first | with_reducible exact Ext.refl _ | with_reducible assumption | with_reducible refine Ext.alloc ?_ _ | with_reducible refine Ext.gr ?_ _ | with_reducible refine Ext.drewN ?_ _ | with_reducible refine Ext.drew ?_ | with_reducible refine Ext.setCell ?_ ?_ _ | with_reducible refine Ext.more ?_ _ _ | (show _ ≤ _; dsimp only; omega))))) (first | (go_at_call 21; (with_reducible refine (offR_as c hc (0) (f.i) X (by omega) (by omega) HA.out _).mono ?_); rintro e w1 ⟨rfl, os1, n1, rfl⟩))
  all_goals
    go_wp2
    refine bodyPost_ret (v := (treStep c f).v) (by rw [HS1.out]; simp [results, Tryd.results33, go_sem]) rfl ⟨rfl, (by repeat (first | with_reducible exact Ext.refl _ | with_reducible assumption | with_reducible refine Ext.alloc ?_ _ | with_reducible refine Ext.gr ?_ _ | with_reducible refine Ext.drewN ?_ _ | with_reducible refine Ext.drew ?_ | with_reducible refine Ext.setCell ?_ ?_ _ | with_reducible refine Ext.more ?_ _ _ | (show _ ≤ _; dsimp only; omega)))⟩
set_option maxRecDepth 100000 in
set_option maxHeartbeats 4000000 in
theorem stepR_7 (c : Cfg) (f : Frm) (hc : TreOk c) (hf : f.Fits) (hnum : treNum c f = true) (hp : f.pc = 7) (w : World) : Calls Tryd.prog 33 #[c.v, f.v] w
    fun e w' => e = .returned (treStep c f).v ∧ Ext w w' := by
  obtain ⟨m1, m2, m3, m4, m5, m6, m7, m8⟩ := treNum_facts hnum
  have htop := topI_bd c.cap c.node
  change 0 ≤ treTop c ∧ treTop c ≤ 4 at htop
  have hcap := hc.cap
  obtain ⟨⟨k0, k1⟩, ⟨a0, a1⟩, ⟨b0, b1⟩, ⟨p0, p1⟩, ⟨i0, i1⟩, ⟨j0, j1⟩, ⟨n0, n1⟩, ⟨q0, q1⟩, ⟨h0, h1⟩, ⟨x0, x1⟩, ⟨y0, y1⟩⟩ := hf
  obtain ⟨X, hX⟩ : ∃ X, treOff c 0 f.p = X := ⟨_, rfl⟩
  have HA := Lib.hid hX
  have HS1 : Hid (treStep c f = ⟨2, X, f.a, f.b, 0, 0, 0⟩) := Lib.hid (by simp [treStep, hp, hX])
  have hp' : (f.pc == 7) = true := by simpa using hp
  have hwi : IntKind.i64.wrap f.i = f.i := by rw [IntKind.wrap_i64]; omega
  have hwn : IntKind.i64.wrap f.n = f.n := by rw [IntKind.wrap_i64]; omega
  have hwp : IntKind.i64.wrap f.p = f.p := by rw [IntKind.wrap_i64]; omega
  have hwh : IntKind.i64.wrap f.h = f.h := by rw [IntKind.wrap_i64]; omega
  have hwi1 : IntKind.i64.wrap (f.i - 1) = f.i - 1 := by rw [IntKind.wrap_i64]; omega
  have hwh1 : IntKind.i64.wrap (f.h - 1) = f.h - 1 := by rw [IntKind.wrap_i64]; omega
  have hua : IntKind.u64.wrap f.a = f.a := by rw [IntKind.wrap_u64]; omega
  have hub : IntKind.u64.wrap f.b = f.b := by rw [IntKind.wrap_u64]; omega
  have hux : IntKind.u64.wrap f.x = f.x := by rw [IntKind.wrap_u64]; omega
  have huy : IntKind.u64.wrap f.y = f.y := by rw [IntKind.wrap_u64]; omega
  have HK : Hid (Holds ((w.alloc (.cells #[.int .u8 c.object, .int .i64 c.instances, .int .i64 c.threads, .int .u8 c.kind, .int .i64 c.stripes, .int .i64 c.bits, .int .i64 c.cap, .int .i64 c.node, .int .i64 c.batch, .int .i64 c.chunk, .int .u64 c.limit, .int .u64 c.most] 24)).alloc (.cells #[.int .u8 f.kind, .int .u32 f.a, .int .u32 f.b, .int .u8 f.pc, .int .u8 f.i, .int .u8 f.j, .int .u8 f.n, .int .u8 f.p, .int .u8 f.h, .int .u32 f.x, .int .u32 f.y] 27)) ([(w.heap.size, 0, .int .u8 c.object), (w.heap.size, 1, .int .i64 c.instances), (w.heap.size, 2, .int .i64 c.threads), (w.heap.size, 3, .int .u8 c.kind), (w.heap.size, 4, .int .i64 c.stripes), (w.heap.size, 5, .int .i64 c.bits), (w.heap.size, 6, .int .i64 c.cap), (w.heap.size, 7, .int .i64 c.node), (w.heap.size, 8, .int .i64 c.batch), (w.heap.size, 9, .int .i64 c.chunk), (w.heap.size, 10, .int .u64 c.limit), (w.heap.size, 11, .int .u64 c.most)] ++ [(w.heap.size + 1, 0, .int .u8 f.kind), (w.heap.size + 1, 1, .int .u32 f.a), (w.heap.size + 1, 2, .int .u32 f.b), (w.heap.size + 1, 3, .int .u8 f.pc), (w.heap.size + 1, 4, .int .u8 f.i), (w.heap.size + 1, 5, .int .u8 f.j), (w.heap.size + 1, 6, .int .u8 f.n), (w.heap.size + 1, 7, .int .u8 f.p), (w.heap.size + 1, 8, .int .u8 f.h), (w.heap.size + 1, 9, .int .u32 f.x), (w.heap.size + 1, 10, .int .u32 f.y)])) := Lib.hid (by rw [holds_iff]; simp [go_sem])
  clear hp hnum m5 m6 m7 m8 hX
  go_enter Tryd.func33, Tryd.ntmps33
  go_upto_region 12 with fail
  go_region_held3 (fun W => W.cell? ⟨w.heap.size, 0, none⟩ = some (.int .u8 c.object) ∧ W.cell? ⟨w.heap.size, 1, none⟩ = some (.int .i64 c.instances) ∧ W.cell? ⟨w.heap.size, 2, none⟩ = some (.int .i64 c.threads) ∧ W.cell? ⟨w.heap.size, 3, none⟩ = some (.int .u8 c.kind) ∧ W.cell? ⟨w.heap.size, 4, none⟩ = some (.int .i64 c.stripes) ∧ W.cell? ⟨w.heap.size, 5, none⟩ = some (.int .i64 c.bits) ∧ W.cell? ⟨w.heap.size, 6, none⟩ = some (.int .i64 c.cap) ∧ W.cell? ⟨w.heap.size, 7, none⟩ = some (.int .i64 c.node) ∧ W.cell? ⟨w.heap.size, 8, none⟩ = some (.int .i64 c.batch) ∧ W.cell? ⟨w.heap.size, 9, none⟩ = some (.int .i64 c.chunk) ∧ W.cell? ⟨w.heap.size, 10, none⟩ = some (.int .u64 c.limit) ∧ W.cell? ⟨w.heap.size, 11, none⟩ = some (.int .u64 c.most) ∧ W.cell? ⟨w.heap.size + 1, 0, none⟩ = some (.int .u8 f.kind) ∧ W.cell? ⟨w.heap.size + 1, 1, none⟩ = some (.int .u32 f.a) ∧ W.cell? ⟨w.heap.size + 1, 2, none⟩ = some (.int .u32 f.b) ∧ W.cell? ⟨w.heap.size + 1, 3, none⟩ = some (.int .u8 f.pc) ∧ W.cell? ⟨w.heap.size + 1, 4, none⟩ = some (.int .u8 f.i) ∧ W.cell? ⟨w.heap.size + 1, 5, none⟩ = some (.int .u8 f.j) ∧ W.cell? ⟨w.heap.size + 1, 6, none⟩ = some (.int .u8 f.n) ∧ W.cell? ⟨w.heap.size + 1, 7, none⟩ = some (.int .u8 f.p) ∧ W.cell? ⟨w.heap.size + 1, 8, none⟩ = some (.int .u8 f.h) ∧ W.cell? ⟨w.heap.size + 1, 9, none⟩ = some (.int .u32 f.x) ∧ W.cell? ⟨w.heap.size + 1, 10, none⟩ = some (.int .u32 f.y)) (exact HK.out.ext (by (repeat (first | with_reducible exact Ext.refl _ | with_reducible assumption | with_reducible refine Ext.alloc ?_ _ | with_reducible refine Ext.gr ?_ _ | with_reducible refine Ext.drewN ?_ _ | with_reducible refine Ext.drew ?_ | with_reducible refine Ext.setCell ?_ ?_ _ | with_reducible refine Ext.more ?_ _ _ | (show _ ≤ _; dsimp only; omega))))) (first | (go_at_call 21; (with_reducible refine (offR_as c hc (0) (f.p) X (by omega) (by omega) HA.out _).mono ?_); rintro e w1 ⟨rfl, os1, n1, rfl⟩))
  all_goals
    go_wp2
    refine bodyPost_ret (v := (treStep c f).v) (by rw [HS1.out]; simp [results, Tryd.results33, go_sem]) rfl ⟨rfl, (by repeat (first | with_reducible exact Ext.refl _ | with_reducible assumption | with_reducible refine Ext.alloc ?_ _ | with_reducible refine Ext.gr ?_ _ | with_reducible refine Ext.drewN ?_ _ | with_reducible refine Ext.drew ?_ | with_reducible refine Ext.setCell ?_ ?_ _ | with_reducible refine Ext.more ?_ _ _ | (show _ ≤ _; dsimp only; omega)))⟩
set_option maxRecDepth 100000 in
set_option maxHeartbeats 4000000 in
theorem stepR_8 (c : Cfg) (f : Frm) (hc : TreOk c) (hf : f.Fits) (hnum : treNum c f = true) (hp : f.pc = 8) (w : World) : Calls Tryd.prog 33 #[c.v, f.v] w
    fun e w' => e = .returned (treStep c f).v ∧ Ext w w' := by
  obtain ⟨m1, m2, m3, m4, m5, m6, m7, m8⟩ := treNum_facts hnum
  have htop := topI_bd c.cap c.node
  change 0 ≤ treTop c ∧ treTop c ≤ 4 at htop
  have hcap := hc.cap
  obtain ⟨⟨k0, k1⟩, ⟨a0, a1⟩, ⟨b0, b1⟩, ⟨p0, p1⟩, ⟨i0, i1⟩, ⟨j0, j1⟩, ⟨n0, n1⟩, ⟨q0, q1⟩, ⟨h0, h1⟩, ⟨x0, x1⟩, ⟨y0, y1⟩⟩ := hf
  have HS1 : Hid (treStep c f = ⟨2, 0, f.n, 0, 0, 0, 0⟩) := Lib.hid (by simp [treStep, hp])
  have hp' : (f.pc == 8) = true := by simpa using hp
  have hwi : IntKind.i64.wrap f.i = f.i := by rw [IntKind.wrap_i64]; omega
  have hwn : IntKind.i64.wrap f.n = f.n := by rw [IntKind.wrap_i64]; omega
  have hwp : IntKind.i64.wrap f.p = f.p := by rw [IntKind.wrap_i64]; omega
  have hwh : IntKind.i64.wrap f.h = f.h := by rw [IntKind.wrap_i64]; omega
  have hwi1 : IntKind.i64.wrap (f.i - 1) = f.i - 1 := by rw [IntKind.wrap_i64]; omega
  have hwh1 : IntKind.i64.wrap (f.h - 1) = f.h - 1 := by rw [IntKind.wrap_i64]; omega
  have hua : IntKind.u64.wrap f.a = f.a := by rw [IntKind.wrap_u64]; omega
  have hub : IntKind.u64.wrap f.b = f.b := by rw [IntKind.wrap_u64]; omega
  have hux : IntKind.u64.wrap f.x = f.x := by rw [IntKind.wrap_u64]; omega
  have huy : IntKind.u64.wrap f.y = f.y := by rw [IntKind.wrap_u64]; omega
  have HK : Hid (Holds ((w.alloc (.cells #[.int .u8 c.object, .int .i64 c.instances, .int .i64 c.threads, .int .u8 c.kind, .int .i64 c.stripes, .int .i64 c.bits, .int .i64 c.cap, .int .i64 c.node, .int .i64 c.batch, .int .i64 c.chunk, .int .u64 c.limit, .int .u64 c.most] 24)).alloc (.cells #[.int .u8 f.kind, .int .u32 f.a, .int .u32 f.b, .int .u8 f.pc, .int .u8 f.i, .int .u8 f.j, .int .u8 f.n, .int .u8 f.p, .int .u8 f.h, .int .u32 f.x, .int .u32 f.y] 27)) ([(w.heap.size, 0, .int .u8 c.object), (w.heap.size, 1, .int .i64 c.instances), (w.heap.size, 2, .int .i64 c.threads), (w.heap.size, 3, .int .u8 c.kind), (w.heap.size, 4, .int .i64 c.stripes), (w.heap.size, 5, .int .i64 c.bits), (w.heap.size, 6, .int .i64 c.cap), (w.heap.size, 7, .int .i64 c.node), (w.heap.size, 8, .int .i64 c.batch), (w.heap.size, 9, .int .i64 c.chunk), (w.heap.size, 10, .int .u64 c.limit), (w.heap.size, 11, .int .u64 c.most)] ++ [(w.heap.size + 1, 0, .int .u8 f.kind), (w.heap.size + 1, 1, .int .u32 f.a), (w.heap.size + 1, 2, .int .u32 f.b), (w.heap.size + 1, 3, .int .u8 f.pc), (w.heap.size + 1, 4, .int .u8 f.i), (w.heap.size + 1, 5, .int .u8 f.j), (w.heap.size + 1, 6, .int .u8 f.n), (w.heap.size + 1, 7, .int .u8 f.p), (w.heap.size + 1, 8, .int .u8 f.h), (w.heap.size + 1, 9, .int .u32 f.x), (w.heap.size + 1, 10, .int .u32 f.y)])) := Lib.hid (by rw [holds_iff]; simp [go_sem])
  clear hp hnum m5 m6 m7 m8
  go_enter Tryd.func33, Tryd.ntmps33
  go_wp2
  refine bodyPost_ret (v := (treStep c f).v) (by rw [HS1.out]; simp [results, Tryd.results33, go_sem]) rfl ⟨rfl, (by repeat (first | with_reducible exact Ext.refl _ | with_reducible assumption | with_reducible refine Ext.alloc ?_ _ | with_reducible refine Ext.gr ?_ _ | with_reducible refine Ext.drewN ?_ _ | with_reducible refine Ext.drew ?_ | with_reducible refine Ext.setCell ?_ ?_ _ | with_reducible refine Ext.more ?_ _ _ | (show _ ≤ _; dsimp only; omega)))⟩
set_option maxRecDepth 100000 in
set_option maxHeartbeats 4000000 in
theorem stepR_9 (c : Cfg) (f : Frm) (hc : TreOk c) (hf : f.Fits) (hnum : treNum c f = true) (hp : f.pc = 9) (w : World) : Calls Tryd.prog 33 #[c.v, f.v] w
    fun e w' => e = .returned (treStep c f).v ∧ Ext w w' := by
  obtain ⟨m1, m2, m3, m4, m5, m6, m7, m8⟩ := treNum_facts hnum
  have htop := topI_bd c.cap c.node
  change 0 ≤ treTop c ∧ treTop c ≤ 4 at htop
  have hcap := hc.cap
  obtain ⟨⟨k0, k1⟩, ⟨a0, a1⟩, ⟨b0, b1⟩, ⟨p0, p1⟩, ⟨i0, i1⟩, ⟨j0, j1⟩, ⟨n0, n1⟩, ⟨q0, q1⟩, ⟨h0, h1⟩, ⟨x0, x1⟩, ⟨y0, y1⟩⟩ := hf
  have m9 := m6 (Or.inl hp)
  have hn1 := treUp_pos hc (by omega) (by omega) (by omega) m9.2
  have HI9 : Hid (0 ≤ f.i ∧ f.i < upI f.n c.node f.h) := Lib.hid ⟨i0, m9.2⟩
  have hu := endI_bd (n := f.n) (w := c.node) (h := f.h) (i := f.i) (by omega) hc.node (by omega) i0
  obtain ⟨U, hU⟩ : ∃ U, endI f.n c.node f.h f.i = U := ⟨_, rfl⟩
  rw [hU] at hu
  have HU := Lib.hid hU
  obtain ⟨X, hX⟩ : ∃ X, treOff c (f.h - 1) U = X := ⟨_, rfl⟩
  have HA := Lib.hid hX
  have HS1 : Hid (treStep c f = ⟨1, X, 0, 0, 0, 0, 0⟩) := Lib.hid (by simp [treStep, hp, hU, hX])
  have hp' : (f.pc == 9) = true := by simpa using hp
  have hwi : IntKind.i64.wrap f.i = f.i := by rw [IntKind.wrap_i64]; omega
  have hwn : IntKind.i64.wrap f.n = f.n := by rw [IntKind.wrap_i64]; omega
  have hwp : IntKind.i64.wrap f.p = f.p := by rw [IntKind.wrap_i64]; omega
  have hwh : IntKind.i64.wrap f.h = f.h := by rw [IntKind.wrap_i64]; omega
  have hwi1 : IntKind.i64.wrap (f.i - 1) = f.i - 1 := by rw [IntKind.wrap_i64]; omega
  have hwh1 : IntKind.i64.wrap (f.h - 1) = f.h - 1 := by rw [IntKind.wrap_i64]; omega
  have hua : IntKind.u64.wrap f.a = f.a := by rw [IntKind.wrap_u64]; omega
  have hub : IntKind.u64.wrap f.b = f.b := by rw [IntKind.wrap_u64]; omega
  have hux : IntKind.u64.wrap f.x = f.x := by rw [IntKind.wrap_u64]; omega
  have huy : IntKind.u64.wrap f.y = f.y := by rw [IntKind.wrap_u64]; omega
  have HK : Hid (Holds ((w.alloc (.cells #[.int .u8 c.object, .int .i64 c.instances, .int .i64 c.threads, .int .u8 c.kind, .int .i64 c.stripes, .int .i64 c.bits, .int .i64 c.cap, .int .i64 c.node, .int .i64 c.batch, .int .i64 c.chunk, .int .u64 c.limit, .int .u64 c.most] 24)).alloc (.cells #[.int .u8 f.kind, .int .u32 f.a, .int .u32 f.b, .int .u8 f.pc, .int .u8 f.i, .int .u8 f.j, .int .u8 f.n, .int .u8 f.p, .int .u8 f.h, .int .u32 f.x, .int .u32 f.y] 27)) ([(w.heap.size, 0, .int .u8 c.object), (w.heap.size, 1, .int .i64 c.instances), (w.heap.size, 2, .int .i64 c.threads), (w.heap.size, 3, .int .u8 c.kind), (w.heap.size, 4, .int .i64 c.stripes), (w.heap.size, 5, .int .i64 c.bits), (w.heap.size, 6, .int .i64 c.cap), (w.heap.size, 7, .int .i64 c.node), (w.heap.size, 8, .int .i64 c.batch), (w.heap.size, 9, .int .i64 c.chunk), (w.heap.size, 10, .int .u64 c.limit), (w.heap.size, 11, .int .u64 c.most)] ++ [(w.heap.size + 1, 0, .int .u8 f.kind), (w.heap.size + 1, 1, .int .u32 f.a), (w.heap.size + 1, 2, .int .u32 f.b), (w.heap.size + 1, 3, .int .u8 f.pc), (w.heap.size + 1, 4, .int .u8 f.i), (w.heap.size + 1, 5, .int .u8 f.j), (w.heap.size + 1, 6, .int .u8 f.n), (w.heap.size + 1, 7, .int .u8 f.p), (w.heap.size + 1, 8, .int .u8 f.h), (w.heap.size + 1, 9, .int .u32 f.x), (w.heap.size + 1, 10, .int .u32 f.y)])) := Lib.hid (by rw [holds_iff]; simp [go_sem])
  clear hp hnum m5 m6 m7 m8 hX hU
  go_enter Tryd.func33, Tryd.ntmps33
  go_upto_region 20 with fail
  go_region_held3 (fun W => W.cell? ⟨w.heap.size, 0, none⟩ = some (.int .u8 c.object) ∧ W.cell? ⟨w.heap.size, 1, none⟩ = some (.int .i64 c.instances) ∧ W.cell? ⟨w.heap.size, 2, none⟩ = some (.int .i64 c.threads) ∧ W.cell? ⟨w.heap.size, 3, none⟩ = some (.int .u8 c.kind) ∧ W.cell? ⟨w.heap.size, 4, none⟩ = some (.int .i64 c.stripes) ∧ W.cell? ⟨w.heap.size, 5, none⟩ = some (.int .i64 c.bits) ∧ W.cell? ⟨w.heap.size, 6, none⟩ = some (.int .i64 c.cap) ∧ W.cell? ⟨w.heap.size, 7, none⟩ = some (.int .i64 c.node) ∧ W.cell? ⟨w.heap.size, 8, none⟩ = some (.int .i64 c.batch) ∧ W.cell? ⟨w.heap.size, 9, none⟩ = some (.int .i64 c.chunk) ∧ W.cell? ⟨w.heap.size, 10, none⟩ = some (.int .u64 c.limit) ∧ W.cell? ⟨w.heap.size, 11, none⟩ = some (.int .u64 c.most) ∧ W.cell? ⟨w.heap.size + 1, 0, none⟩ = some (.int .u8 f.kind) ∧ W.cell? ⟨w.heap.size + 1, 1, none⟩ = some (.int .u32 f.a) ∧ W.cell? ⟨w.heap.size + 1, 2, none⟩ = some (.int .u32 f.b) ∧ W.cell? ⟨w.heap.size + 1, 3, none⟩ = some (.int .u8 f.pc) ∧ W.cell? ⟨w.heap.size + 1, 4, none⟩ = some (.int .u8 f.i) ∧ W.cell? ⟨w.heap.size + 1, 5, none⟩ = some (.int .u8 f.j) ∧ W.cell? ⟨w.heap.size + 1, 6, none⟩ = some (.int .u8 f.n) ∧ W.cell? ⟨w.heap.size + 1, 7, none⟩ = some (.int .u8 f.p) ∧ W.cell? ⟨w.heap.size + 1, 8, none⟩ = some (.int .u8 f.h) ∧ W.cell? ⟨w.heap.size + 1, 9, none⟩ = some (.int .u32 f.x) ∧ W.cell? ⟨w.heap.size + 1, 10, none⟩ = some (.int .u32 f.y)) (exact HK.out.ext (by (repeat (first | with_reducible exact Ext.refl _ | with_reducible assumption | with_reducible refine Ext.alloc ?_ _ | with_reducible refine Ext.gr ?_ _ | with_reducible refine Ext.drewN ?_ _ | with_reducible refine Ext.drew ?_ | with_reducible refine Ext.setCell ?_ ?_ _ | with_reducible refine Ext.more ?_ _ _ | (show _ ≤ _; dsimp only; omega))))) (first | (first | (go_at_call 40; (with_reducible refine (endR_any f.n c.node f.h f.i (by omega) hc.node (by omega) HI9.out _).mono ?_); rintro e w2 ⟨rfl, rfl⟩; rw [HU.out]) | (go_at_call 21; (with_reducible refine (offR_as c hc (f.h - 1) (U) X (by omega) (by omega) HA.out _).mono ?_); rintro e w1 ⟨rfl, os1, n1, rfl⟩)))
  all_goals
    go_wp2
    refine bodyPost_ret (v := (treStep c f).v) (by rw [HS1.out]; simp [results, Tryd.results33, go_sem]) rfl ⟨rfl, (by repeat (first | with_reducible exact Ext.refl _ | with_reducible assumption | with_reducible refine Ext.alloc ?_ _ | with_reducible refine Ext.gr ?_ _ | with_reducible refine Ext.drewN ?_ _ | with_reducible refine Ext.drew ?_ | with_reducible refine Ext.setCell ?_ ?_ _ | with_reducible refine Ext.more ?_ _ _ | (show _ ≤ _; dsimp only; omega)))⟩
end Go.Proofs.YtkklhhdkokncnaaDoor
