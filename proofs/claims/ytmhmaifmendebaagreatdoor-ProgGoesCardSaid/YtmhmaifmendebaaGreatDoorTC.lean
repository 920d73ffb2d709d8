/- The walk of the layer 'trie's 'step'. -/
import Derived.Test.YtmhmaifmendebaaGreatDoorTA
import Derived.Deep.RegionHeld3
namespace Go.Proofs.YtmhmaifmendebaaGreatDoor.trie
open Go Go.RowKit
set_option maxRecDepth 100000
set_option maxHeartbeats 8000000

/-- The world with another block in the place of the one behind V. -/
def swp (o : Obj) (V w : World) : World := { w with heap := w.heap.setIfInBounds V.heap.size o }
theorem swp_drew (o : Obj) (V w : World) : swp o V w.drew = (swp o V w).drew := rfl
theorem swp_alloc (o : Obj) (V w : World) (p : Obj) (h : V.heap.size < w.heap.size) : swp o V (w.alloc p) = (swp o V w).alloc p := by
  show ({ w with heap := (w.heap.push p).setIfInBounds V.heap.size o } : World) = { w with heap := (w.heap.setIfInBounds V.heap.size o).push p }
  congr 1
  refine Array.ext_getElem? fun k => ?_
  simp only [Array.getElem?_push, Array.getElem?_setIfInBounds, Array.size_setIfInBounds, Array.size_push]
  by_cases e : V.heap.size = k
  · subst e
    simp [show V.heap.size < w.heap.size + 1 by omega, show V.heap.size ≠ w.heap.size by omega, h]
  · simp [e]
theorem swp_grew (o : Obj) (V w : World) (os : Array Obj) (d : Nat) (h : V.heap.size < w.heap.size) : swp o V (grew w os d) = grew (swp o V w) os d := by
  simp only [swp, grew]
  congr 1
  refine Array.ext_getElem? fun k => ?_
  rw [Array.getElem?_setIfInBounds, Array.getElem?_append, Array.getElem?_append, Array.getElem?_setIfInBounds, Array.size_setIfInBounds, Array.size_append]
  by_cases e : V.heap.size = k
  · subst e
    rw [if_pos rfl, if_pos (by omega), if_pos h, if_pos rfl, if_pos h]
  · rw [if_neg e, if_neg e]
theorem swp_new (o : Obj) (V : World) (p : Obj) : swp o V (V.alloc p) = V.alloc o := by
  show ({ V with heap := (V.heap.push p).setIfInBounds V.heap.size o } : World) = { V with heap := V.heap.push o }
  congr 1
  refine Array.ext_getElem? fun k => ?_
  rw [Array.getElem?_setIfInBounds, Array.getElem?_push, Array.getElem?_push, Array.size_push]
  by_cases e : V.heap.size = k
  · subst e
    rw [if_pos rfl, if_pos (by omega), if_pos rfl]
  · rw [if_neg e, if_neg (fun h => e h.symm), if_neg (fun h => e h.symm)]
theorem swp_a (o p : Obj) (V : World) (os : Array Obj) (d : Nat) : swp o V (grew (V.alloc p) os d) = grew (V.alloc o) os d := by
  rw [swp_grew _ _ _ _ _ (by simp), swp_new]
theorem swp_b (o p q : Obj) (V : World) (os : Array Obj) (d : Nat) : swp o V ((grew (V.alloc p) os d).alloc q) = (grew (V.alloc o) os d).alloc q := by
  rw [swp_alloc _ _ _ _ (by simp [go_sem]), swp_a]
theorem swp_c (o p q : Obj) (V : World) (os os2 : Array Obj) (d d2 : Nat) : swp o V (grew ((grew (V.alloc p) os d).alloc q) os2 d2) = grew ((grew (V.alloc o) os d).alloc q) os2 d2 := by
  rw [swp_grew _ _ _ _ _ (by simp [go_sem]), swp_b]

theorem trState_b (c : Cfg) (f : Frm) (hf : f.Fits) (V w : World) (b : Nat) (hb : V.heap.size = b) (hw : Ext (V.alloc (.cells (rn c (f)) 108)) w) : Calls Tryz.prog 92 #[.pointer (some ⟨b, 0, none⟩)] w
    fun e w' => e = .returned (trFnV (trFn f)) ∧ Ext w w' := by
  subst hb
  exact trState_any c f hf V w hw
theorem trMay_b (c : Cfg) (f : Frm) (hf : f.Fits) (ho : c.object = 1) (V w : World) (b : Nat) (hb : V.heap.size = b) (ht : Tab w) (hw : Ext (V.alloc (.cells (rn c (f)) 108)) w) : Calls Tryz.prog 91 #[.pointer (some ⟨b, 0, none⟩)] w
    fun e w' => e = .returned (.bool (trMay c f)) ∧ Ext w w' := by
  subst hb
  exact trMayW_any c f hf ho V w ht hw
/-- What the function of a number does with a run. -/
def TrRuns (g : Nat) (c : Cfg) (f : Frm) (l : Cel) : Prop := ∀ (V : World) (os : Array Obj) (d : Nat), Calls Tryz.prog g #[.pointer (some ⟨V.heap.size, 0, none⟩), l.v] (grew (V.alloc (.cells (rn c (f)) 108)) os d) fun e w' => e = .returned (trStep c f).v ∧ Ext (grew (V.alloc (.cells (rn c (trBehind c f l)) 108)) os d) w'
theorem TrRuns.b {g : Nat} {c : Cfg} {f : Frm} {l : Cel} (h : TrRuns g c f l) (V w : World) (b : Nat) (hb : V.heap.size = b) (hw : Ext (V.alloc (.cells (rn c (f)) 108)) w) : Calls Tryz.prog g #[.pointer (some ⟨b, 0, none⟩), l.v] w
    fun e w' => e = .returned (trStep c f).v ∧ Ext (swp (.cells (rn c (trBehind c f l)) 108) V w) w' := by
  subst hb
  obtain ⟨os, d, rfl⟩ := hw
  rw [swp_a]
  exact h V os d

end Go.Proofs.YtmhmaifmendebaaGreatDoor.trie
/- The walk of the layer 'trie's 'step', by the function that it runs. -/
namespace Go.Proofs.YtmhmaifmendebaaGreatDoor.trie
open Go Go.RowKit
set_option maxRecDepth 100000
set_option maxHeartbeats 8000000

theorem trStepP_look (c : Cfg) (f : Frm) (l : Cel) (hf : f.Fits) (he : trErr c f = 0) (hg : trFn f = some 124) (hr : TrRuns 124 c f l) (w : World) (ht : Tab w) : Calls Tryz.prog 45 #[c.v, f.v, l.v] w
    fun e w' => e = .returned (.tuple #[(trStep c f).v, (trBehind c f l).v, .int .i64 0]) ∧ Ext w w' := by
  have HF := Lib.hid hf
  have HT := Lib.hid ht
  have HR := Lib.hid hr
  have HG : Hid (trFnV (trFn f) = .func (.func 124) #[] #[]) := Lib.hid (by rw [hg]; rfl)
  obtain ⟨hp, ho, hm⟩ := trErr_ok he
  have HC := Lib.hid (conf_ok hp)
  have HM := Lib.hid hm
  have HOB := Lib.hid ho
  have h3 : (c.object != 1) = false := by simpa using ho
  obtain ⟨A, hA⟩ : ∃ A, trStep c f = A := ⟨_, rfl⟩
  obtain ⟨G, hG⟩ : ∃ G, trBehind c f l = G := ⟨_, rfl⟩
  have HA := Lib.hid hA
  have HGG := Lib.hid hG
  have HK : Hid (Holds (((w.alloc (.cells #[.int .u8 c.object, .int .i64 c.instances, .int .i64 c.threads, .int .u8 c.kind, .int .i64 c.stripes, .int .i64 c.bits, .int .i64 c.cap, .int .i64 c.node, .int .i64 c.batch, .int .i64 c.chunk, .int .u64 c.limit, .int .u64 c.most] 24)).alloc (.cells #[.int .u8 f.kind, .int .u32 f.a, .int .u32 f.b, .int .u8 f.pc, .int .u8 f.i, .int .u8 f.j, .int .u8 f.n, .int .u8 f.p, .int .u8 f.h, .int .u32 f.x, .int .u32 f.y] 27)).alloc (.cells #[.int .u64 l.tag, .int .u64 l.a, .int .u64 l.b, .int .u64 l.c] 37)) [(w.heap.size + 1 + 1, 0, .int .u64 l.tag), (w.heap.size + 1 + 1, 1, .int .u64 l.a), (w.heap.size + 1 + 1, 2, .int .u64 l.b), (w.heap.size + 1 + 1, 3, .int .u64 l.c)]) := Lib.hid (by simp [Holds, go_sem])
  clear hf ht hr hg hp ho hm he hA hG
  go_enter Tryz.func45, Tryz.ntmps45
  go_upto_region 6 with (first | (go_at_call 9; refine (partCheck_any c _).mono ?_; rintro e w1 ⟨rfl, os1, n1, rfl⟩; rw [HC.out]) | (go_at_call 91; refine (trMay_b c f HF.out HOB.out (((((w.alloc (.cells #[.int .u8 c.object, .int .i64 c.instances, .int .i64 c.threads, .int .u8 c.kind, .int .i64 c.stripes, .int .i64 c.bits, .int .i64 c.cap, .int .i64 c.node, .int .i64 c.batch, .int .i64 c.chunk, .int .u64 c.limit, .int .u64 c.most] 24)).alloc (.cells #[.int .u8 f.kind, .int .u32 f.a, .int .u32 f.b, .int .u8 f.pc, .int .u8 f.i, .int .u8 f.j, .int .u8 f.n, .int .u8 f.p, .int .u8 f.h, .int .u32 f.x, .int .u32 f.y] 27)).alloc (.cells #[.int .u64 l.tag, .int .u64 l.a, .int .u64 l.b, .int .u64 l.c] 37)).alloc (.cells #[.int .u8 0, .int .i64 0, .int .u64 0, .int .u64 0, .int .u64 0, .int .i64 0, .int .u32 0] 30)).alloc (.cells #[.int .u8 zeroFrm.kind, .int .u32 zeroFrm.a, .int .u32 zeroFrm.b, .int .u8 zeroFrm.pc, .int .u8 zeroFrm.i, .int .u8 zeroFrm.j, .int .u8 zeroFrm.n, .int .u8 zeroFrm.p, .int .u8 zeroFrm.h, .int .u32 zeroFrm.x, .int .u32 zeroFrm.y] 27)) _ _ (by simp [go_sem]) (Tab.ext HT.out EX) EX).mono ?_; rintro e w2 ⟨rfl, os2, n2, rfl⟩; rw [HM.out]))
  go_region_held3 (fun W => W.cell? ⟨w.heap.size + 1 + 1, 0, none⟩ = some (.int .u64 l.tag) ∧ W.cell? ⟨w.heap.size + 1 + 1, 1, none⟩ = some (.int .u64 l.a) ∧ W.cell? ⟨w.heap.size + 1 + 1, 2, none⟩ = some (.int .u64 l.b) ∧ W.cell? ⟨w.heap.size + 1 + 1, 3, none⟩ = some (.int .u64 l.c)) (exact HK.out.ext EX) (first | (go_at_call 92; refine (trState_b c f HF.out (((((w.alloc (.cells #[.int .u8 c.object, .int .i64 c.instances, .int .i64 c.threads, .int .u8 c.kind, .int .i64 c.stripes, .int .i64 c.bits, .int .i64 c.cap, .int .i64 c.node, .int .i64 c.batch, .int .i64 c.chunk, .int .u64 c.limit, .int .u64 c.most] 24)).alloc (.cells #[.int .u8 f.kind, .int .u32 f.a, .int .u32 f.b, .int .u8 f.pc, .int .u8 f.i, .int .u8 f.j, .int .u8 f.n, .int .u8 f.p, .int .u8 f.h, .int .u32 f.x, .int .u32 f.y] 27)).alloc (.cells #[.int .u64 l.tag, .int .u64 l.a, .int .u64 l.b, .int .u64 l.c] 37)).alloc (.cells #[.int .u8 0, .int .i64 0, .int .u64 0, .int .u64 0, .int .u64 0, .int .i64 0, .int .u32 0] 30)).alloc (.cells #[.int .u8 zeroFrm.kind, .int .u32 zeroFrm.a, .int .u32 zeroFrm.b, .int .u8 zeroFrm.pc, .int .u8 zeroFrm.i, .int .u8 zeroFrm.j, .int .u8 zeroFrm.n, .int .u8 zeroFrm.p, .int .u8 zeroFrm.h, .int .u32 zeroFrm.x, .int .u32 zeroFrm.y] 27)) _ _ (by simp [go_sem]) EX).mono ?_; rintro e w4 ⟨rfl, os4, n4, rfl⟩; rw [HG.out]) | (go_at_call 124; refine (TrRuns.b HR.out (((((w.alloc (.cells #[.int .u8 c.object, .int .i64 c.instances, .int .i64 c.threads, .int .u8 c.kind, .int .i64 c.stripes, .int .i64 c.bits, .int .i64 c.cap, .int .i64 c.node, .int .i64 c.batch, .int .i64 c.chunk, .int .u64 c.limit, .int .u64 c.most] 24)).alloc (.cells #[.int .u8 f.kind, .int .u32 f.a, .int .u32 f.b, .int .u8 f.pc, .int .u8 f.i, .int .u8 f.j, .int .u8 f.n, .int .u8 f.p, .int .u8 f.h, .int .u32 f.x, .int .u32 f.y] 27)).alloc (.cells #[.int .u64 l.tag, .int .u64 l.a, .int .u64 l.b, .int .u64 l.c] 37)).alloc (.cells #[.int .u8 0, .int .i64 0, .int .u64 0, .int .u64 0, .int .u64 0, .int .i64 0, .int .u32 0] 30)).alloc (.cells #[.int .u8 zeroFrm.kind, .int .u32 zeroFrm.a, .int .u32 zeroFrm.b, .int .u8 zeroFrm.pc, .int .u8 zeroFrm.i, .int .u8 zeroFrm.j, .int .u8 zeroFrm.n, .int .u8 zeroFrm.p, .int .u8 zeroFrm.h, .int .u32 zeroFrm.x, .int .u32 zeroFrm.y] 27)) _ _ (by simp [go_sem]) EX).mono ?_; rintro e w5 ⟨rfl, os5, n5, rfl⟩; rw [HA.out, HGG.out]; simp only [swp_a, swp_b, swp_c]))
  all_goals
    clear HK
    go_wp2
    go_region
    go_wp2
    (refine bodyPost_ret (v := .tuple #[A.v, G.v, .int .i64 0]) (by simp [results, Tryz.results45, go_sem]) rfl ⟨by rw [HA.out, HGG.out], EX⟩)
theorem trStepP_room (c : Cfg) (f : Frm) (l : Cel) (hf : f.Fits) (he : trErr c f = 0) (hg : trFn f = some 125) (hr : TrRuns 125 c f l) (w : World) (ht : Tab w) : Calls Tryz.prog 45 #[c.v, f.v, l.v] w
    fun e w' => e = .returned (.tuple #[(trStep c f).v, (trBehind c f l).v, .int .i64 0]) ∧ Ext w w' := by
  have HF := Lib.hid hf
  have HT := Lib.hid ht
  have HR := Lib.hid hr
  have HG : Hid (trFnV (trFn f) = .func (.func 125) #[] #[]) := Lib.hid (by rw [hg]; rfl)
  obtain ⟨hp, ho, hm⟩ := trErr_ok he
  have HC := Lib.hid (conf_ok hp)
  have HM := Lib.hid hm
  have HOB := Lib.hid ho
  have h3 : (c.object != 1) = false := by simpa using ho
  obtain ⟨A, hA⟩ : ∃ A, trStep c f = A := ⟨_, rfl⟩
  obtain ⟨G, hG⟩ : ∃ G, trBehind c f l = G := ⟨_, rfl⟩
  have HA := Lib.hid hA
  have HGG := Lib.hid hG
  have HK : Hid (Holds (((w.alloc (.cells #[.int .u8 c.object, .int .i64 c.instances, .int .i64 c.threads, .int .u8 c.kind, .int .i64 c.stripes, .int .i64 c.bits, .int .i64 c.cap, .int .i64 c.node, .int .i64 c.batch, .int .i64 c.chunk, .int .u64 c.limit, .int .u64 c.most] 24)).alloc (.cells #[.int .u8 f.kind, .int .u32 f.a, .int .u32 f.b, .int .u8 f.pc, .int .u8 f.i, .int .u8 f.j, .int .u8 f.n, .int .u8 f.p, .int .u8 f.h, .int .u32 f.x, .int .u32 f.y] 27)).alloc (.cells #[.int .u64 l.tag, .int .u64 l.a, .int .u64 l.b, .int .u64 l.c] 37)) [(w.heap.size + 1 + 1, 0, .int .u64 l.tag), (w.heap.size + 1 + 1, 1, .int .u64 l.a), (w.heap.size + 1 + 1, 2, .int .u64 l.b), (w.heap.size + 1 + 1, 3, .int .u64 l.c)]) := Lib.hid (by simp [Holds, go_sem])
  clear hf ht hr hg hp ho hm he hA hG
  go_enter Tryz.func45, Tryz.ntmps45
  go_upto_region 6 with (first | (go_at_call 9; refine (partCheck_any c _).mono ?_; rintro e w1 ⟨rfl, os1, n1, rfl⟩; rw [HC.out]) | (go_at_call 91; refine (trMay_b c f HF.out HOB.out (((((w.alloc (.cells #[.int .u8 c.object, .int .i64 c.instances, .int .i64 c.threads, .int .u8 c.kind, .int .i64 c.stripes, .int .i64 c.bits, .int .i64 c.cap, .int .i64 c.node, .int .i64 c.batch, .int .i64 c.chunk, .int .u64 c.limit, .int .u64 c.most] 24)).alloc (.cells #[.int .u8 f.kind, .int .u32 f.a, .int .u32 f.b, .int .u8 f.pc, .int .u8 f.i, .int .u8 f.j, .int .u8 f.n, .int .u8 f.p, .int .u8 f.h, .int .u32 f.x, .int .u32 f.y] 27)).alloc (.cells #[.int .u64 l.tag, .int .u64 l.a, .int .u64 l.b, .int .u64 l.c] 37)).alloc (.cells #[.int .u8 0, .int .i64 0, .int .u64 0, .int .u64 0, .int .u64 0, .int .i64 0, .int .u32 0] 30)).alloc (.cells #[.int .u8 zeroFrm.kind, .int .u32 zeroFrm.a, .int .u32 zeroFrm.b, .int .u8 zeroFrm.pc, .int .u8 zeroFrm.i, .int .u8 zeroFrm.j, .int .u8 zeroFrm.n, .int .u8 zeroFrm.p, .int .u8 zeroFrm.h, .int .u32 zeroFrm.x, .int .u32 zeroFrm.y] 27)) _ _ (by simp [go_sem]) (Tab.ext HT.out EX) EX).mono ?_; rintro e w2 ⟨rfl, os2, n2, rfl⟩; rw [HM.out]))
  go_region_held3 (fun W => W.cell? ⟨w.heap.size + 1 + 1, 0, none⟩ = some (.int .u64 l.tag) ∧ W.cell? ⟨w.heap.size + 1 + 1, 1, none⟩ = some (.int .u64 l.a) ∧ W.cell? ⟨w.heap.size + 1 + 1, 2, none⟩ = some (.int .u64 l.b) ∧ W.cell? ⟨w.heap.size + 1 + 1, 3, none⟩ = some (.int .u64 l.c)) (exact HK.out.ext EX) (first | (go_at_call 92; refine (trState_b c f HF.out (((((w.alloc (.cells #[.int .u8 c.object, .int .i64 c.instances, .int .i64 c.threads, .int .u8 c.kind, .int .i64 c.stripes, .int .i64 c.bits, .int .i64 c.cap, .int .i64 c.node, .int .i64 c.batch, .int .i64 c.chunk, .int .u64 c.limit, .int .u64 c.most] 24)).alloc (.cells #[.int .u8 f.kind, .int .u32 f.a, .int .u32 f.b, .int .u8 f.pc, .int .u8 f.i, .int .u8 f.j, .int .u8 f.n, .int .u8 f.p, .int .u8 f.h, .int .u32 f.x, .int .u32 f.y] 27)).alloc (.cells #[.int .u64 l.tag, .int .u64 l.a, .int .u64 l.b, .int .u64 l.c] 37)).alloc (.cells #[.int .u8 0, .int .i64 0, .int .u64 0, .int .u64 0, .int .u64 0, .int .i64 0, .int .u32 0] 30)).alloc (.cells #[.int .u8 zeroFrm.kind, .int .u32 zeroFrm.a, .int .u32 zeroFrm.b, .int .u8 zeroFrm.pc, .int .u8 zeroFrm.i, .int .u8 zeroFrm.j, .int .u8 zeroFrm.n, .int .u8 zeroFrm.p, .int .u8 zeroFrm.h, .int .u32 zeroFrm.x, .int .u32 zeroFrm.y] 27)) _ _ (by simp [go_sem]) EX).mono ?_; rintro e w4 ⟨rfl, os4, n4, rfl⟩; rw [HG.out]) | (go_at_call 125; refine (TrRuns.b HR.out (((((w.alloc (.cells #[.int .u8 c.object, .int .i64 c.instances, .int .i64 c.threads, .int .u8 c.kind, .int .i64 c.stripes, .int .i64 c.bits, .int .i64 c.cap, .int .i64 c.node, .int .i64 c.batch, .int .i64 c.chunk, .int .u64 c.limit, .int .u64 c.most] 24)).alloc (.cells #[.int .u8 f.kind, .int .u32 f.a, .int .u32 f.b, .int .u8 f.pc, .int .u8 f.i, .int .u8 f.j, .int .u8 f.n, .int .u8 f.p, .int .u8 f.h, .int .u32 f.x, .int .u32 f.y] 27)).alloc (.cells #[.int .u64 l.tag, .int .u64 l.a, .int .u64 l.b, .int .u64 l.c] 37)).alloc (.cells #[.int .u8 0, .int .i64 0, .int .u64 0, .int .u64 0, .int .u64 0, .int .i64 0, .int .u32 0] 30)).alloc (.cells #[.int .u8 zeroFrm.kind, .int .u32 zeroFrm.a, .int .u32 zeroFrm.b, .int .u8 zeroFrm.pc, .int .u8 zeroFrm.i, .int .u8 zeroFrm.j, .int .u8 zeroFrm.n, .int .u8 zeroFrm.p, .int .u8 zeroFrm.h, .int .u32 zeroFrm.x, .int .u32 zeroFrm.y] 27)) _ _ (by simp [go_sem]) EX).mono ?_; rintro e w5 ⟨rfl, os5, n5, rfl⟩; rw [HA.out, HGG.out]; simp only [swp_a, swp_b, swp_c]))
  all_goals
    clear HK
    go_wp2
    go_region
    go_wp2
    (refine bodyPost_ret (v := .tuple #[A.v, G.v, .int .i64 0]) (by simp [results, Tryz.results45, go_sem]) rfl ⟨by rw [HA.out, HGG.out], EX⟩)
theorem trStepP_turn (c : Cfg) (f : Frm) (l : Cel) (hf : f.Fits) (he : trErr c f = 0) (hg : trFn f = some 126) (hr : TrRuns 126 c f l) (w : World) (ht : Tab w) : Calls Tryz.prog 45 #[c.v, f.v, l.v] w
    fun e w' => e = .returned (.tuple #[(trStep c f).v, (trBehind c f l).v, .int .i64 0]) ∧ Ext w w' := by
  have HF := Lib.hid hf
  have HT := Lib.hid ht
  have HR := Lib.hid hr
  have HG : Hid (trFnV (trFn f) = .func (.func 126) #[] #[]) := Lib.hid (by rw [hg]; rfl)
  obtain ⟨hp, ho, hm⟩ := trErr_ok he
  have HC := Lib.hid (conf_ok hp)
  have HM := Lib.hid hm
  have HOB := Lib.hid ho
  have h3 : (c.object != 1) = false := by simpa using ho
  obtain ⟨A, hA⟩ : ∃ A, trStep c f = A := ⟨_, rfl⟩
  obtain ⟨G, hG⟩ : ∃ G, trBehind c f l = G := ⟨_, rfl⟩
  have HA := Lib.hid hA
  have HGG := Lib.hid hG
  have HK : Hid (Holds (((w.alloc (.cells #[.int .u8 c.object, .int .i64 c.instances, .int .i64 c.threads, .int .u8 c.kind, .int .i64 c.stripes, .int .i64 c.bits, .int .i64 c.cap, .int .i64 c.node, .int .i64 c.batch, .int .i64 c.chunk, .int .u64 c.limit, .int .u64 c.most] 24)).alloc (.cells #[.int .u8 f.kind, .int .u32 f.a, .int .u32 f.b, .int .u8 f.pc, .int .u8 f.i, .int .u8 f.j, .int .u8 f.n, .int .u8 f.p, .int .u8 f.h, .int .u32 f.x, .int .u32 f.y] 27)).alloc (.cells #[.int .u64 l.tag, .int .u64 l.a, .int .u64 l.b, .int .u64 l.c] 37)) [(w.heap.size + 1 + 1, 0, .int .u64 l.tag), (w.heap.size + 1 + 1, 1, .int .u64 l.a), (w.heap.size + 1 + 1, 2, .int .u64 l.b), (w.heap.size + 1 + 1, 3, .int .u64 l.c)]) := Lib.hid (by simp [Holds, go_sem])
  clear hf ht hr hg hp ho hm he hA hG
  go_enter Tryz.func45, Tryz.ntmps45
  go_upto_region 6 with (first | (go_at_call 9; refine (partCheck_any c _).mono ?_; rintro e w1 ⟨rfl, os1, n1, rfl⟩; rw [HC.out]) | (go_at_call 91; refine (trMay_b c f HF.out HOB.out (((((w.alloc (.cells #[.int .u8 c.object, .int .i64 c.instances, .int .i64 c.threads, .int .u8 c.kind, .int .i64 c.stripes, .int .i64 c.bits, .int .i64 c.cap, .int .i64 c.node, .int .i64 c.batch, .int .i64 c.chunk, .int .u64 c.limit, .int .u64 c.most] 24)).alloc (.cells #[.int .u8 f.kind, .int .u32 f.a, .int .u32 f.b, .int .u8 f.pc, .int .u8 f.i, .int .u8 f.j, .int .u8 f.n, .int .u8 f.p, .int .u8 f.h, .int .u32 f.x, .int .u32 f.y] 27)).alloc (.cells #[.int .u64 l.tag, .int .u64 l.a, .int .u64 l.b, .int .u64 l.c] 37)).alloc (.cells #[.int .u8 0, .int .i64 0, .int .u64 0, .int .u64 0, .int .u64 0, .int .i64 0, .int .u32 0] 30)).alloc (.cells #[.int .u8 zeroFrm.kind, .int .u32 zeroFrm.a, .int .u32 zeroFrm.b, .int .u8 zeroFrm.pc, .int .u8 zeroFrm.i, .int .u8 zeroFrm.j, .int .u8 zeroFrm.n, .int .u8 zeroFrm.p, .int .u8 zeroFrm.h, .int .u32 zeroFrm.x, .int .u32 zeroFrm.y] 27)) _ _ (by simp [go_sem]) (Tab.ext HT.out EX) EX).mono ?_; rintro e w2 ⟨rfl, os2, n2, rfl⟩; rw [HM.out]))
  go_region_held3 (fun W => W.cell? ⟨w.heap.size + 1 + 1, 0, none⟩ = some (.int .u64 l.tag) ∧ W.cell? ⟨w.heap.size + 1 + 1, 1, none⟩ = some (.int .u64 l.a) ∧ W.cell? ⟨w.heap.size + 1 + 1, 2, none⟩ = some (.int .u64 l.b) ∧ W.cell? ⟨w.heap.size + 1 + 1, 3, none⟩ = some (.int .u64 l.c)) (exact HK.out.ext EX) (first | (go_at_call 92; refine (trState_b c f HF.out (((((w.alloc (.cells #[.int .u8 c.object, .int .i64 c.instances, .int .i64 c.threads, .int .u8 c.kind, .int .i64 c.stripes, .int .i64 c.bits, .int .i64 c.cap, .int .i64 c.node, .int .i64 c.batch, .int .i64 c.chunk, .int .u64 c.limit, .int .u64 c.most] 24)).alloc (.cells #[.int .u8 f.kind, .int .u32 f.a, .int .u32 f.b, .int .u8 f.pc, .int .u8 f.i, .int .u8 f.j, .int .u8 f.n, .int .u8 f.p, .int .u8 f.h, .int .u32 f.x, .int .u32 f.y] 27)).alloc (.cells #[.int .u64 l.tag, .int .u64 l.a, .int .u64 l.b, .int .u64 l.c] 37)).alloc (.cells #[.int .u8 0, .int .i64 0, .int .u64 0, .int .u64 0, .int .u64 0, .int .i64 0, .int .u32 0] 30)).alloc (.cells #[.int .u8 zeroFrm.kind, .int .u32 zeroFrm.a, .int .u32 zeroFrm.b, .int .u8 zeroFrm.pc, .int .u8 zeroFrm.i, .int .u8 zeroFrm.j, .int .u8 zeroFrm.n, .int .u8 zeroFrm.p, .int .u8 zeroFrm.h, .int .u32 zeroFrm.x, .int .u32 zeroFrm.y] 27)) _ _ (by simp [go_sem]) EX).mono ?_; rintro e w4 ⟨rfl, os4, n4, rfl⟩; rw [HG.out]) | (go_at_call 126; refine (TrRuns.b HR.out (((((w.alloc (.cells #[.int .u8 c.object, .int .i64 c.instances, .int .i64 c.threads, .int .u8 c.kind, .int .i64 c.stripes, .int .i64 c.bits, .int .i64 c.cap, .int .i64 c.node, .int .i64 c.batch, .int .i64 c.chunk, .int .u64 c.limit, .int .u64 c.most] 24)).alloc (.cells #[.int .u8 f.kind, .int .u32 f.a, .int .u32 f.b, .int .u8 f.pc, .int .u8 f.i, .int .u8 f.j, .int .u8 f.n, .int .u8 f.p, .int .u8 f.h, .int .u32 f.x, .int .u32 f.y] 27)).alloc (.cells #[.int .u64 l.tag, .int .u64 l.a, .int .u64 l.b, .int .u64 l.c] 37)).alloc (.cells #[.int .u8 0, .int .i64 0, .int .u64 0, .int .u64 0, .int .u64 0, .int .i64 0, .int .u32 0] 30)).alloc (.cells #[.int .u8 zeroFrm.kind, .int .u32 zeroFrm.a, .int .u32 zeroFrm.b, .int .u8 zeroFrm.pc, .int .u8 zeroFrm.i, .int .u8 zeroFrm.j, .int .u8 zeroFrm.n, .int .u8 zeroFrm.p, .int .u8 zeroFrm.h, .int .u32 zeroFrm.x, .int .u32 zeroFrm.y] 27)) _ _ (by simp [go_sem]) EX).mono ?_; rintro e w5 ⟨rfl, os5, n5, rfl⟩; rw [HA.out, HGG.out]; simp only [swp_a, swp_b, swp_c]))
  all_goals
    clear HK
    go_wp2
    go_region
    go_wp2
    (refine bodyPost_ret (v := .tuple #[A.v, G.v, .int .i64 0]) (by simp [results, Tryz.results45, go_sem]) rfl ⟨by rw [HA.out, HGG.out], EX⟩)
end Go.Proofs.YtmhmaifmendebaaGreatDoor.trie
