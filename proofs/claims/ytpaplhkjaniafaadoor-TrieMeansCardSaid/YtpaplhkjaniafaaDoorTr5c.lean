/- The walk of the layer 'trie's 'step', by the function that it runs. -/
import Derived.Test.YtpaplhkjaniafaaDoorTr5
namespace Go.Proofs.YtpaplhkjaniafaaDoor
open Go Go.RowKit
set_option maxRecDepth 100000
set_option maxHeartbeats 8000000

theorem trStepP_seek (c : Cfg) (f : Frm) (l : Cel) (hf : f.Fits) (he : trErr c f = 0) (hg : trFn f = some 68) (hr : TrRuns 68 c f l) (w : World) (ht : Tab w) : Calls Tryd.prog 24 #[c.v, f.v, l.v] w
    fun e w' => e = .returned (.tuple #[(trStep c f).v, (trBehind c f l).v, .int .i64 0]) ∧ Ext w w' := by
  have HF := Lib.hid hf
  have HT := Lib.hid ht
  have HR := Lib.hid hr
  have HG : Hid (trFnV (trFn f) = .func (.func 68) #[] #[]) := Lib.hid (by rw [hg]; rfl)
  obtain ⟨hp, ho, hm⟩ := trErr_ok he
  have HC := Lib.hid (conf_ok hp)
  have HM := Lib.hid hm
  have HOB := Lib.hid ho
  have h3 : (c.object != 1) = false := by simpa using ho
  obtain ⟨A, hA⟩ : ∃ A, trStep c f = A := ⟨_, rfl⟩
  obtain ⟨G, hG⟩ : ∃ G, trBehind c f l = G := ⟨_, rfl⟩
  have HA := Lib.hid hA
  have HGG := Lib.hid hG
  have HK : Hid (Holds (((w.alloc (.cells #[.int .u8 c.object, .int .i64 c.instances, .int .i64 c.threads, .int .u8 c.kind, .int .i64 c.stripes, .int .i64 c.bits, .int .i64 c.cap, .int .i64 c.node, .int .i64 c.batch, .int .i64 c.chunk, .int .u64 c.limit, .int .u64 c.most] 24)).alloc (.cells #[.int .u8 f.kind, .int .u32 f.a, .int .u32 f.b, .int .u8 f.pc, .int .u8 f.i, .int .u8 f.j, .int .u8 f.n, .int .u8 f.p, .int .u8 f.h, .int .u32 f.x, .int .u32 f.y] 27)).alloc (.cells #[.int .u64 l.tag, .int .u64 l.a, .int .u64 l.b, .int .u64 l.c] 37)) [(w.heap.size + 1 + 1, 0, .int .u64 l.tag), (w.heap.size + 1 + 1, 1, .int .u64 l.a), (w.heap.size + 1 + 1, 2, .int .u64 l.b), (w.heap.size + 1 + 1, 3, .int .u64 l.c)]) := Lib.hid (by simp [Holds, go_sem])
  clear hf ht hr hg hp ho hm he hA hG
  go_enter Tryd.func24, Tryd.ntmps24
  go_upto_region 6 with (first | (go_at_call 44; refine (partCheck_any c _).mono ?_; rintro e w1 ⟨rfl, os1, n1, rfl⟩; rw [HC.out]) | (go_at_call 45; refine (trMay_b c f HF.out HOB.out (((((w.alloc (.cells #[.int .u8 c.object, .int .i64 c.instances, .int .i64 c.threads, .int .u8 c.kind, .int .i64 c.stripes, .int .i64 c.bits, .int .i64 c.cap, .int .i64 c.node, .int .i64 c.batch, .int .i64 c.chunk, .int .u64 c.limit, .int .u64 c.most] 24)).alloc (.cells #[.int .u8 f.kind, .int .u32 f.a, .int .u32 f.b, .int .u8 f.pc, .int .u8 f.i, .int .u8 f.j, .int .u8 f.n, .int .u8 f.p, .int .u8 f.h, .int .u32 f.x, .int .u32 f.y] 27)).alloc (.cells #[.int .u64 l.tag, .int .u64 l.a, .int .u64 l.b, .int .u64 l.c] 37)).alloc (.cells #[.int .u8 0, .int .i64 0, .int .u64 0, .int .u64 0, .int .u64 0, .int .i64 0, .int .u32 0] 30)).alloc (.cells #[.int .u8 zeroFrm.kind, .int .u32 zeroFrm.a, .int .u32 zeroFrm.b, .int .u8 zeroFrm.pc, .int .u8 zeroFrm.i, .int .u8 zeroFrm.j, .int .u8 zeroFrm.n, .int .u8 zeroFrm.p, .int .u8 zeroFrm.h, .int .u32 zeroFrm.x, .int .u32 zeroFrm.y] 27)) _ _ (by simp [go_sem]) (Tab.ext HT.out EX) EX).mono ?_; rintro e w2 ⟨rfl, os2, n2, rfl⟩; rw [HM.out]))
  go_region_held3 (fun W => W.cell? ⟨w.heap.size + 1 + 1, 0, none⟩ = some (.int .u64 l.tag) ∧ W.cell? ⟨w.heap.size + 1 + 1, 1, none⟩ = some (.int .u64 l.a) ∧ W.cell? ⟨w.heap.size + 1 + 1, 2, none⟩ = some (.int .u64 l.b) ∧ W.cell? ⟨w.heap.size + 1 + 1, 3, none⟩ = some (.int .u64 l.c)) (exact HK.out.ext EX) (first | (go_at_call 46; refine (trState_b c f HF.out (((((w.alloc (.cells #[.int .u8 c.object, .int .i64 c.instances, .int .i64 c.threads, .int .u8 c.kind, .int .i64 c.stripes, .int .i64 c.bits, .int .i64 c.cap, .int .i64 c.node, .int .i64 c.batch, .int .i64 c.chunk, .int .u64 c.limit, .int .u64 c.most] 24)).alloc (.cells #[.int .u8 f.kind, .int .u32 f.a, .int .u32 f.b, .int .u8 f.pc, .int .u8 f.i, .int .u8 f.j, .int .u8 f.n, .int .u8 f.p, .int .u8 f.h, .int .u32 f.x, .int .u32 f.y] 27)).alloc (.cells #[.int .u64 l.tag, .int .u64 l.a, .int .u64 l.b, .int .u64 l.c] 37)).alloc (.cells #[.int .u8 0, .int .i64 0, .int .u64 0, .int .u64 0, .int .u64 0, .int .i64 0, .int .u32 0] 30)).alloc (.cells #[.int .u8 zeroFrm.kind, .int .u32 zeroFrm.a, .int .u32 zeroFrm.b, .int .u8 zeroFrm.pc, .int .u8 zeroFrm.i, .int .u8 zeroFrm.j, .int .u8 zeroFrm.n, .int .u8 zeroFrm.p, .int .u8 zeroFrm.h, .int .u32 zeroFrm.x, .int .u32 zeroFrm.y] 27)) _ _ (by simp [go_sem]) EX).mono ?_; rintro e w4 ⟨rfl, os4, n4, rfl⟩; rw [HG.out]) | (go_at_call 68; refine (TrRuns.b HR.out (((((w.alloc (.cells #[.int .u8 c.object, .int .i64 c.instances, .int .i64 c.threads, .int .u8 c.kind, .int .i64 c.stripes, .int .i64 c.bits, .int .i64 c.cap, .int .i64 c.node, .int .i64 c.batch, .int .i64 c.chunk, .int .u64 c.limit, .int .u64 c.most] 24)).alloc (.cells #[.int .u8 f.kind, .int .u32 f.a, .int .u32 f.b, .int .u8 f.pc, .int .u8 f.i, .int .u8 f.j, .int .u8 f.n, .int .u8 f.p, .int .u8 f.h, .int .u32 f.x, .int .u32 f.y] 27)).alloc (.cells #[.int .u64 l.tag, .int .u64 l.a, .int .u64 l.b, .int .u64 l.c] 37)).alloc (.cells #[.int .u8 0, .int .i64 0, .int .u64 0, .int .u64 0, .int .u64 0, .int .i64 0, .int .u32 0] 30)).alloc (.cells #[.int .u8 zeroFrm.kind, .int .u32 zeroFrm.a, .int .u32 zeroFrm.b, .int .u8 zeroFrm.pc, .int .u8 zeroFrm.i, .int .u8 zeroFrm.j, .int .u8 zeroFrm.n, .int .u8 zeroFrm.p, .int .u8 zeroFrm.h, .int .u32 zeroFrm.x, .int .u32 zeroFrm.y] 27)) _ _ (by simp [go_sem]) EX).mono ?_; rintro e w5 ⟨rfl, os5, n5, rfl⟩; rw [HA.out, HGG.out]; simp only [swp_a, swp_b, swp_c]))
  all_goals
    clear HK
    go_wp2
    go_region
    go_wp2
    (refine bodyPost_ret (v := .tuple #[A.v, G.v, .int .i64 0]) (by simp [results, Tryd.results24, go_sem]) rfl ⟨by rw [HA.out, HGG.out], EX⟩)
theorem trStepP_load (c : Cfg) (f : Frm) (l : Cel) (hf : f.Fits) (he : trErr c f = 0) (hg : trFn f = some 69) (hr : TrRuns 69 c f l) (w : World) (ht : Tab w) : Calls Tryd.prog 24 #[c.v, f.v, l.v] w
    fun e w' => e = .returned (.tuple #[(trStep c f).v, (trBehind c f l).v, .int .i64 0]) ∧ Ext w w' := by
  have HF := Lib.hid hf
  have HT := Lib.hid ht
  have HR := Lib.hid hr
  have HG : Hid (trFnV (trFn f) = .func (.func 69) #[] #[]) := Lib.hid (by rw [hg]; rfl)
  obtain ⟨hp, ho, hm⟩ := trErr_ok he
  have HC := Lib.hid (conf_ok hp)
  have HM := Lib.hid hm
  have HOB := Lib.hid ho
  have h3 : (c.object != 1) = false := by simpa using ho
  obtain ⟨A, hA⟩ : ∃ A, trStep c f = A := ⟨_, rfl⟩
  obtain ⟨G, hG⟩ : ∃ G, trBehind c f l = G := ⟨_, rfl⟩
  have HA := Lib.hid hA
  have HGG := Lib.hid hG
  have HK : Hid (Holds (((w.alloc (.cells #[.int .u8 c.object, .int .i64 c.instances, .int .i64 c.threads, .int .u8 c.kind, .int .i64 c.stripes, .int .i64 c.bits, .int .i64 c.cap, .int .i64 c.node, .int .i64 c.batch, .int .i64 c.chunk, .int .u64 c.limit, .int .u64 c.most] 24)).alloc (.cells #[.int .u8 f.kind, .int .u32 f.a, .int .u32 f.b, .int .u8 f.pc, .int .u8 f.i, .int .u8 f.j, .int .u8 f.n, .int .u8 f.p, .int .u8 f.h, .int .u32 f.x, .int .u32 f.y] 27)).alloc (.cells #[.int .u64 l.tag, .int .u64 l.a, .int .u64 l.b, .int .u64 l.c] 37)) [(w.heap.size + 1 + 1, 0, .int .u64 l.tag), (w.heap.size + 1 + 1, 1, .int .u64 l.a), (w.heap.size + 1 + 1, 2, .int .u64 l.b), (w.heap.size + 1 + 1, 3, .int .u64 l.c)]) := Lib.hid (by simp [Holds, go_sem])
  clear hf ht hr hg hp ho hm he hA hG
  go_enter Tryd.func24, Tryd.ntmps24
  go_upto_region 6 with (first | (go_at_call 44; refine (partCheck_any c _).mono ?_; rintro e w1 ⟨rfl, os1, n1, rfl⟩; rw [HC.out]) | (go_at_call 45; refine (trMay_b c f HF.out HOB.out (((((w.alloc (.cells #[.int .u8 c.object, .int .i64 c.instances, .int .i64 c.threads, .int .u8 c.kind, .int .i64 c.stripes, .int .i64 c.bits, .int .i64 c.cap, .int .i64 c.node, .int .i64 c.batch, .int .i64 c.chunk, .int .u64 c.limit, .int .u64 c.most] 24)).alloc (.cells #[.int .u8 f.kind, .int .u32 f.a, .int .u32 f.b, .int .u8 f.pc, .int .u8 f.i, .int .u8 f.j, .int .u8 f.n, .int .u8 f.p, .int .u8 f.h, .int .u32 f.x, .int .u32 f.y] 27)).alloc (.cells #[.int .u64 l.tag, .int .u64 l.a, .int .u64 l.b, .int .u64 l.c] 37)).alloc (.cells #[.int .u8 0, .int .i64 0, .int .u64 0, .int .u64 0, .int .u64 0, .int .i64 0, .int .u32 0] 30)).alloc (.cells #[.int .u8 zeroFrm.kind, .int .u32 zeroFrm.a, .int .u32 zeroFrm.b, .int .u8 zeroFrm.pc, .int .u8 zeroFrm.i, .int .u8 zeroFrm.j, .int .u8 zeroFrm.n, .int .u8 zeroFrm.p, .int .u8 zeroFrm.h, .int .u32 zeroFrm.x, .int .u32 zeroFrm.y] 27)) _ _ (by simp [go_sem]) (Tab.ext HT.out EX) EX).mono ?_; rintro e w2 ⟨rfl, os2, n2, rfl⟩; rw [HM.out]))
  go_region_held3 (fun W => W.cell? ⟨w.heap.size + 1 + 1, 0, none⟩ = some (.int .u64 l.tag) ∧ W.cell? ⟨w.heap.size + 1 + 1, 1, none⟩ = some (.int .u64 l.a) ∧ W.cell? ⟨w.heap.size + 1 + 1, 2, none⟩ = some (.int .u64 l.b) ∧ W.cell? ⟨w.heap.size + 1 + 1, 3, none⟩ = some (.int .u64 l.c)) (exact HK.out.ext EX) (first | (go_at_call 46; refine (trState_b c f HF.out (((((w.alloc (.cells #[.int .u8 c.object, .int .i64 c.instances, .int .i64 c.threads, .int .u8 c.kind, .int .i64 c.stripes, .int .i64 c.bits, .int .i64 c.cap, .int .i64 c.node, .int .i64 c.batch, .int .i64 c.chunk, .int .u64 c.limit, .int .u64 c.most] 24)).alloc (.cells #[.int .u8 f.kind, .int .u32 f.a, .int .u32 f.b, .int .u8 f.pc, .int .u8 f.i, .int .u8 f.j, .int .u8 f.n, .int .u8 f.p, .int .u8 f.h, .int .u32 f.x, .int .u32 f.y] 27)).alloc (.cells #[.int .u64 l.tag, .int .u64 l.a, .int .u64 l.b, .int .u64 l.c] 37)).alloc (.cells #[.int .u8 0, .int .i64 0, .int .u64 0, .int .u64 0, .int .u64 0, .int .i64 0, .int .u32 0] 30)).alloc (.cells #[.int .u8 zeroFrm.kind, .int .u32 zeroFrm.a, .int .u32 zeroFrm.b, .int .u8 zeroFrm.pc, .int .u8 zeroFrm.i, .int .u8 zeroFrm.j, .int .u8 zeroFrm.n, .int .u8 zeroFrm.p, .int .u8 zeroFrm.h, .int .u32 zeroFrm.x, .int .u32 zeroFrm.y] 27)) _ _ (by simp [go_sem]) EX).mono ?_; rintro e w4 ⟨rfl, os4, n4, rfl⟩; rw [HG.out]) | (go_at_call 69; refine (TrRuns.b HR.out (((((w.alloc (.cells #[.int .u8 c.object, .int .i64 c.instances, .int .i64 c.threads, .int .u8 c.kind, .int .i64 c.stripes, .int .i64 c.bits, .int .i64 c.cap, .int .i64 c.node, .int .i64 c.batch, .int .i64 c.chunk, .int .u64 c.limit, .int .u64 c.most] 24)).alloc (.cells #[.int .u8 f.kind, .int .u32 f.a, .int .u32 f.b, .int .u8 f.pc, .int .u8 f.i, .int .u8 f.j, .int .u8 f.n, .int .u8 f.p, .int .u8 f.h, .int .u32 f.x, .int .u32 f.y] 27)).alloc (.cells #[.int .u64 l.tag, .int .u64 l.a, .int .u64 l.b, .int .u64 l.c] 37)).alloc (.cells #[.int .u8 0, .int .i64 0, .int .u64 0, .int .u64 0, .int .u64 0, .int .i64 0, .int .u32 0] 30)).alloc (.cells #[.int .u8 zeroFrm.kind, .int .u32 zeroFrm.a, .int .u32 zeroFrm.b, .int .u8 zeroFrm.pc, .int .u8 zeroFrm.i, .int .u8 zeroFrm.j, .int .u8 zeroFrm.n, .int .u8 zeroFrm.p, .int .u8 zeroFrm.h, .int .u32 zeroFrm.x, .int .u32 zeroFrm.y] 27)) _ _ (by simp [go_sem]) EX).mono ?_; rintro e w5 ⟨rfl, os5, n5, rfl⟩; rw [HA.out, HGG.out]; simp only [swp_a, swp_b, swp_c]))
  all_goals
    clear HK
    go_wp2
    go_region
    go_wp2
    (refine bodyPost_ret (v := .tuple #[A.v, G.v, .int .i64 0]) (by simp [results, Tryd.results24, go_sem]) rfl ⟨by rw [HA.out, HGG.out], EX⟩)
theorem trStepP_save (c : Cfg) (f : Frm) (l : Cel) (hf : f.Fits) (he : trErr c f = 0) (hg : trFn f = some 70) (hr : TrRuns 70 c f l) (w : World) (ht : Tab w) : Calls Tryd.prog 24 #[c.v, f.v, l.v] w
    fun e w' => e = .returned (.tuple #[(trStep c f).v, (trBehind c f l).v, .int .i64 0]) ∧ Ext w w' := by
  have HF := Lib.hid hf
  have HT := Lib.hid ht
  have HR := Lib.hid hr
  have HG : Hid (trFnV (trFn f) = .func (.func 70) #[] #[]) := Lib.hid (by rw [hg]; rfl)
  obtain ⟨hp, ho, hm⟩ := trErr_ok he
  have HC := Lib.hid (conf_ok hp)
  have HM := Lib.hid hm
  have HOB := Lib.hid ho
  have h3 : (c.object != 1) = false := by simpa using ho
  obtain ⟨A, hA⟩ : ∃ A, trStep c f = A := ⟨_, rfl⟩
  obtain ⟨G, hG⟩ : ∃ G, trBehind c f l = G := ⟨_, rfl⟩
  have HA := Lib.hid hA
  have HGG := Lib.hid hG
  have HK : Hid (Holds (((w.alloc (.cells #[.int .u8 c.object, .int .i64 c.instances, .int .i64 c.threads, .int .u8 c.kind, .int .i64 c.stripes, .int .i64 c.bits, .int .i64 c.cap, .int .i64 c.node, .int .i64 c.batch, .int .i64 c.chunk, .int .u64 c.limit, .int .u64 c.most] 24)).alloc (.cells #[.int .u8 f.kind, .int .u32 f.a, .int .u32 f.b, .int .u8 f.pc, .int .u8 f.i, .int .u8 f.j, .int .u8 f.n, .int .u8 f.p, .int .u8 f.h, .int .u32 f.x, .int .u32 f.y] 27)).alloc (.cells #[.int .u64 l.tag, .int .u64 l.a, .int .u64 l.b, .int .u64 l.c] 37)) [(w.heap.size + 1 + 1, 0, .int .u64 l.tag), (w.heap.size + 1 + 1, 1, .int .u64 l.a), (w.heap.size + 1 + 1, 2, .int .u64 l.b), (w.heap.size + 1 + 1, 3, .int .u64 l.c)]) := Lib.hid (by simp [Holds, go_sem])
  clear hf ht hr hg hp ho hm he hA hG
  go_enter Tryd.func24, Tryd.ntmps24
  go_upto_region 6 with (first | (go_at_call 44; refine (partCheck_any c _).mono ?_; rintro e w1 ⟨rfl, os1, n1, rfl⟩; rw [HC.out]) | (go_at_call 45; refine (trMay_b c f HF.out HOB.out (((((w.alloc (.cells #[.int .u8 c.object, .int .i64 c.instances, .int .i64 c.threads, .int .u8 c.kind, .int .i64 c.stripes, .int .i64 c.bits, .int .i64 c.cap, .int .i64 c.node, .int .i64 c.batch, .int .i64 c.chunk, .int .u64 c.limit, .int .u64 c.most] 24)).alloc (.cells #[.int .u8 f.kind, .int .u32 f.a, .int .u32 f.b, .int .u8 f.pc, .int .u8 f.i, .int .u8 f.j, .int .u8 f.n, .int .u8 f.p, .int .u8 f.h, .int .u32 f.x, .int .u32 f.y] 27)).alloc (.cells #[.int .u64 l.tag, .int .u64 l.a, .int .u64 l.b, .int .u64 l.c] 37)).alloc (.cells #[.int .u8 0, .int .i64 0, .int .u64 0, .int .u64 0, .int .u64 0, .int .i64 0, .int .u32 0] 30)).alloc (.cells #[.int .u8 zeroFrm.kind, .int .u32 zeroFrm.a, .int .u32 zeroFrm.b, .int .u8 zeroFrm.pc, .int .u8 zeroFrm.i, .int .u8 zeroFrm.j, .int .u8 zeroFrm.n, .int .u8 zeroFrm.p, .int .u8 zeroFrm.h, .int .u32 zeroFrm.x, .int .u32 zeroFrm.y] 27)) _ _ (by simp [go_sem]) (Tab.ext HT.out EX) EX).mono ?_; rintro e w2 ⟨rfl, os2, n2, rfl⟩; rw [HM.out]))
  go_region_held3 (fun W => W.cell? ⟨w.heap.size + 1 + 1, 0, none⟩ = some (.int .u64 l.tag) ∧ W.cell? ⟨w.heap.size + 1 + 1, 1, none⟩ = some (.int .u64 l.a) ∧ W.cell? ⟨w.heap.size + 1 + 1, 2, none⟩ = some (.int .u64 l.b) ∧ W.cell? ⟨w.heap.size + 1 + 1, 3, none⟩ = some (.int .u64 l.c)) (exact HK.out.ext EX) (first | (go_at_call 46; refine (trState_b c f HF.out (((((w.alloc (.cells #[.int .u8 c.object, .int .i64 c.instances, .int .i64 c.threads, .int .u8 c.kind, .int .i64 c.stripes, .int .i64 c.bits, .int .i64 c.cap, .int .i64 c.node, .int .i64 c.batch, .int .i64 c.chunk, .int .u64 c.limit, .int .u64 c.most] 24)).alloc (.cells #[.int .u8 f.kind, .int .u32 f.a, .int .u32 f.b, .int .u8 f.pc, .int .u8 f.i, .int .u8 f.j, .int .u8 f.n, .int .u8 f.p, .int .u8 f.h, .int .u32 f.x, .int .u32 f.y] 27)).alloc (.cells #[.int .u64 l.tag, .int .u64 l.a, .int .u64 l.b, .int .u64 l.c] 37)).alloc (.cells #[.int .u8 0, .int .i64 0, .int .u64 0, .int .u64 0, .int .u64 0, .int .i64 0, .int .u32 0] 30)).alloc (.cells #[.int .u8 zeroFrm.kind, .int .u32 zeroFrm.a, .int .u32 zeroFrm.b, .int .u8 zeroFrm.pc, .int .u8 zeroFrm.i, .int .u8 zeroFrm.j, .int .u8 zeroFrm.n, .int .u8 zeroFrm.p, .int .u8 zeroFrm.h, .int .u32 zeroFrm.x, .int .u32 zeroFrm.y] 27)) _ _ (by simp [go_sem]) EX).mono ?_; rintro e w4 ⟨rfl, os4, n4, rfl⟩; rw [HG.out]) | (go_at_call 70; refine (TrRuns.b HR.out (((((w.alloc (.cells #[.int .u8 c.object, .int .i64 c.instances, .int .i64 c.threads, .int .u8 c.kind, .int .i64 c.stripes, .int .i64 c.bits, .int .i64 c.cap, .int .i64 c.node, .int .i64 c.batch, .int .i64 c.chunk, .int .u64 c.limit, .int .u64 c.most] 24)).alloc (.cells #[.int .u8 f.kind, .int .u32 f.a, .int .u32 f.b, .int .u8 f.pc, .int .u8 f.i, .int .u8 f.j, .int .u8 f.n, .int .u8 f.p, .int .u8 f.h, .int .u32 f.x, .int .u32 f.y] 27)).alloc (.cells #[.int .u64 l.tag, .int .u64 l.a, .int .u64 l.b, .int .u64 l.c] 37)).alloc (.cells #[.int .u8 0, .int .i64 0, .int .u64 0, .int .u64 0, .int .u64 0, .int .i64 0, .int .u32 0] 30)).alloc (.cells #[.int .u8 zeroFrm.kind, .int .u32 zeroFrm.a, .int .u32 zeroFrm.b, .int .u8 zeroFrm.pc, .int .u8 zeroFrm.i, .int .u8 zeroFrm.j, .int .u8 zeroFrm.n, .int .u8 zeroFrm.p, .int .u8 zeroFrm.h, .int .u32 zeroFrm.x, .int .u32 zeroFrm.y] 27)) _ _ (by simp [go_sem]) EX).mono ?_; rintro e w5 ⟨rfl, os5, n5, rfl⟩; rw [HA.out, HGG.out]; simp only [swp_a, swp_b, swp_c]))
  all_goals
    clear HK
    go_wp2
    go_region
    go_wp2
    (refine bodyPost_ret (v := .tuple #[A.v, G.v, .int .i64 0]) (by simp [results, Tryd.results24, go_sem]) rfl ⟨by rw [HA.out, HGG.out], EX⟩)
end Go.Proofs.YtpaplhkjaniafaaDoor
