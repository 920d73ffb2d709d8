/- The walk of the layer 'trie's 'step'. -/
import Derived.Test.YtpaplhkjaniafaaDoorTr2
import Derived.Deep.RegionHeld3
namespace Go.Proofs.YtpaplhkjaniafaaDoor
open Go Go.RowKit
set_option maxRecDepth 100000
set_option maxHeartbeats 8000000

/-- The world with another block in the place of the one behind V. -/
def swp (o : Obj) (V w : World) : World := { w with heap := w.heap.setIfInBounds V.heap.size o }
theorem swp_drew (o : Obj) (V w : World) : swp o V w.drew = (swp o V w).drew := rfl
theorem swp_alloc (o : Obj) (V w : World) (p : Obj) (h : V.heap.size < w.heap.size) : swp o V (w.alloc p) = (swp o V w).alloc p := by
  show ({ w with heap := (w.heap.push p).setIfInBounds V.heap.size o } : World) = { w with heap := (w.heap.setIfInBounds V.heap.size o).push p }
  congr 1
  refine Array.ext_getElem? fun k => ?_
  simp only [Array.getElem?_push, Array.getElem?_setIfInBounds, Array.size_setIfInBounds, Array.size_push]
  by_cases e : V.heap.size = k
  · subst e
    simp [show V.heap.size < w.heap.size + 1 by omega, show V.heap.size ≠ w.heap.size by omega, h]
  · simp [e]
theorem swp_grew (o : Obj) (V w : World) (os : Array Obj) (d : Nat) (h : V.heap.size < w.heap.size) : swp o V (grew w os d) = grew (swp o V w) os d := by
  simp only [swp, grew]
  congr 1
  refine Array.ext_getElem? fun k => ?_
  rw [Array.getElem?_setIfInBounds, Array.getElem?_append, Array.getElem?_append, Array.getElem?_setIfInBounds, Array.size_setIfInBounds, Array.size_append]
  by_cases e : V.heap.size = k
  · subst e
    rw [if_pos rfl, if_pos (by omega), if_pos h, if_pos rfl, if_pos h]
  · rw [if_neg e, if_neg e]
theorem swp_new (o : Obj) (V : World) (p : Obj) : swp o V (V.alloc p) = V.alloc o := by
  show ({ V with heap := (V.heap.push p).setIfInBounds V.heap.size o } : World) = { V with heap := V.heap.push o }
  congr 1
  refine Array.ext_getElem? fun k => ?_
  rw [Array.getElem?_setIfInBounds, Array.getElem?_push, Array.getElem?_push, Array.size_push]
  by_cases e : V.heap.size = k
  · subst e
    rw [if_pos rfl, if_pos (by omega), if_pos rfl]
  · rw [if_neg e, if_neg (fun h => e h.symm), if_neg (fun h => e h.symm)]
theorem swp_a (o p : Obj) (V : World) (os : Array Obj) (d : Nat) : swp o V (grew (V.alloc p) os d) = grew (V.alloc o) os d := by
  rw [swp_grew _ _ _ _ _ (by simp), swp_new]
theorem swp_b (o p q : Obj) (V : World) (os : Array Obj) (d : Nat) : swp o V ((grew (V.alloc p) os d).alloc q) = (grew (V.alloc o) os d).alloc q := by
  rw [swp_alloc _ _ _ _ (by simp [go_sem]), swp_a]
theorem swp_c (o p q : Obj) (V : World) (os os2 : Array Obj) (d d2 : Nat) : swp o V (grew ((grew (V.alloc p) os d).alloc q) os2 d2) = grew ((grew (V.alloc o) os d).alloc q) os2 d2 := by
  rw [swp_grew _ _ _ _ _ (by simp [go_sem]), swp_b]

theorem trState_b (c : Cfg) (f : Frm) (hf : f.Fits) (V w : World) (b : Nat) (hb : V.heap.size = b) (hw : Ext (V.alloc (.cells (rn c (f)) 97)) w) : Calls Tryd.prog 46 #[.pointer (some ⟨b, 0, none⟩)] w
    fun e w' => e = .returned (trFnV (trFn f)) ∧ Ext w w' := by
  subst hb
  exact trState_any c f hf V w hw
theorem trMay_b (c : Cfg) (f : Frm) (hf : f.Fits) (ho : c.object = 1) (V w : World) (b : Nat) (hb : V.heap.size = b) (ht : Tab w) (hw : Ext (V.alloc (.cells (rn c (f)) 97)) w) : Calls Tryd.prog 45 #[.pointer (some ⟨b, 0, none⟩)] w
    fun e w' => e = .returned (.bool (trMay c f)) ∧ Ext w w' := by
  subst hb
  exact trMayW_any c f hf ho V w ht hw
/-- What the function of a number does with a run. -/
def TrRuns (g : Nat) (c : Cfg) (f : Frm) (l : Cel) : Prop := ∀ (V : World) (os : Array Obj) (d : Nat), Calls Tryd.prog g #[.pointer (some ⟨V.heap.size, 0, none⟩), l.v] (grew (V.alloc (.cells (rn c (f)) 97)) os d) fun e w' => e = .returned (trStep c f).v ∧ Ext (grew (V.alloc (.cells (rn c (trBehind c f l)) 97)) os d) w'
theorem TrRuns.b {g : Nat} {c : Cfg} {f : Frm} {l : Cel} (h : TrRuns g c f l) (V w : World) (b : Nat) (hb : V.heap.size = b) (hw : Ext (V.alloc (.cells (rn c (f)) 97)) w) : Calls Tryd.prog g #[.pointer (some ⟨b, 0, none⟩), l.v] w
    fun e w' => e = .returned (trStep c f).v ∧ Ext (swp (.cells (rn c (trBehind c f l)) 97) V w) w' := by
  subst hb
  obtain ⟨os, d, rfl⟩ := hw
  rw [swp_a]
  exact h V os d

end Go.Proofs.YtpaplhkjaniafaaDoor
