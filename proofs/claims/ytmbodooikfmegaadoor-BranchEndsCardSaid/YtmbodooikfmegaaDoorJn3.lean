/- The walks of 'places', and of its iterator, which keeps where the next field begins in a cell of its own. -/
import Derived.Test.YtmbodooikfmegaaDoorJn2
import Derived.Test.YtmbodooikfmegaaDoorJnL
import Derived.Test.YtmbodooikfmegaaDoorJnR
import Derived.Test.YtmbodooikfmegaaDoorCells
import Derived.RangeFuncBound
import Derived.RangeFuncFrom
import Derived.Shelf.Abstract
import Derived.Shelf.RegionOpen
import Derived.WalkKit
import Derived.OwnWalkIn
import Derived.TacticsInMore
import Derived.LoopNIn
import Derived.LoopIn
import Derived.Scope
import Derived.RangeFuncBox
namespace Go.Proofs.YtmbodooikfmegaaDoor
open Go Go.RowKit Go.Shelf

attribute [local go_sem] Oper.semAt_some
/-- Where a field begins. -/
def offF (bs : Nat → Int) : Nat → Int
  | 0 => 0
  | k + 1 => offF bs k + bs k
/-- The blocks of a join: the slice's box, the word, 'fits', how many, the function of bits, where the next field begins, 'next', the fields. -/
structure JB where
  bl : Nat
  bx : Nat
  bf : Nat
  bm : Nat
  bb : Nat
  ba : Nat
  bn : Nat
  b2 : Nat
  b3 : Nat
  b : Nat
  o : Nat
  N : Nat
  cap : Nat
  bs : Nat → Int
  vs : Nat → Int
/-- The state of a join, at a field that begins at 'at'. -/
structure Jst (q : JB) (w0 : World) (M0 : Nat) (at' : Int) (W : World) : Prop where
  sl : W.cell? ⟨q.bl, 0, none⟩ = some (.slice (some ⟨q.b, q.o, none⟩) q.N q.cap)
  fit : W.cell? ⟨q.bf, 0, none⟩ = some (.bool true)
  many : W.cell? ⟨q.bm, 0, none⟩ = some (.int .i64 q.N)
  fb : W.cell? ⟨q.bb, 0, none⟩ = some (.func (.func 79) #[] #[.pointer (some ⟨q.bl, 0, none⟩)])
  fn : W.cell? ⟨q.bn, 0, none⟩ = some (.func (.func 88) #[] #[.pointer (some ⟨q.ba, 0, none⟩)])
  fld : ∀ i, i < q.N → W.cell? ⟨q.b, q.o + i * 2, none⟩ = some (.int .i64 (q.bs i)) ∧ W.cell? ⟨q.b, q.o + i * 2 + 1, none⟩ = some (.int .u64 (q.vs i))
  x : ∃ u, W.cell? ⟨q.bx, 0, none⟩ = some (.int .u64 u)
  xf : W.frozen? ⟨q.bx, 0, none⟩ = false
  at' : W.cell? ⟨q.ba, 0, none⟩ = some (.int .i64 at')
  af : W.frozen? ⟨q.ba, 0, none⟩ = false
  r2 : W.cell? ⟨q.b2, 0, none⟩ = some (.int .u64 0)
  r2f : W.frozen? ⟨q.b2, 0, none⟩ = false
  r3 : W.cell? ⟨q.b3, 0, none⟩ = some (.int .i64 0)
  r3f : W.frozen? ⟨q.b3, 0, none⟩ = false
  below : Below w0.heap.size w0 W
  size : M0 ≤ W.heap.size
/-- How the blocks lie. -/
structure JBok (q : JB) (w0 : World) (M0 : Nat) : Prop where
  l : q.bl < M0 ∧ q.bl ≠ q.bx ∧ q.bl ≠ q.ba
  f : q.bf < M0 ∧ q.bf ≠ q.bx ∧ q.bf ≠ q.ba
  m : q.bm < M0 ∧ q.bm ≠ q.bx ∧ q.bm ≠ q.ba
  b : q.bb < M0 ∧ q.bb ≠ q.bx ∧ q.bb ≠ q.ba
  n : q.bn < M0 ∧ q.bn ≠ q.bx ∧ q.bn ≠ q.ba
  e : q.b < M0 ∧ q.b ≠ q.bx ∧ q.b ≠ q.ba
  x : q.bx < M0 ∧ w0.heap.size ≤ q.bx ∧ q.bx ≠ q.ba
  a : q.ba < M0 ∧ w0.heap.size ≤ q.ba
  r2 : q.b2 < M0 ∧ q.b2 ≠ q.bx ∧ q.b2 ≠ q.ba
  r3 : q.b3 < M0 ∧ q.b3 ≠ q.bx ∧ q.b3 ≠ q.ba
  z : w0.heap.size ≤ M0
theorem cell_setO {W : World} {b i : Nat} {p : Nat} {u z : Value} (hne : b ≠ p) (h : W.cell? ⟨b, i, none⟩ = some z) : (W.setCell ⟨p, 0, none⟩ u).cell? ⟨b, i, none⟩ = some z := by
  rw [← h]
  simp [World.cell?, Below.heap_setCell W ⟨p, 0, none⟩ u b hne]
theorem frozen_setO {W : World} {b p : Nat} {u : Value} : (W.setCell ⟨p, 0, none⟩ u).frozen? ⟨b, 0, none⟩ = W.frozen? ⟨b, 0, none⟩ := World.frozen?_setCell _ _ _ _
theorem cell_putO {W : World} {b i l : Nat} {o' : Obj} {z : Value} (hne : b ≠ l) (h : W.cell? ⟨b, i, none⟩ = some z) : (W.putObj l o').cell? ⟨b, i, none⟩ = some z := by
  rw [← h]
  simp only [World.cell?, World.putObj_heap_other hne]
theorem frozen_putO {W : World} {b l : Nat} {o' : Obj} (hne : b ≠ l) : (W.putObj l o').frozen? ⟨b, 0, none⟩ = W.frozen? ⟨b, 0, none⟩ := by
  simp only [World.frozen?, World.putObj_heap_other hne]
theorem Jst.setA {q : JB} {w0 : World} {M0 : Nat} {a : Int} {W : World} (h : Jst q w0 M0 a W) (hq : JBok q w0 M0) (a2 : Int) : Jst q w0 M0 a2 (W.setCell ⟨q.ba, 0, none⟩ (.int .i64 a2)) :=
  ⟨cell_setO hq.l.2.2 h.sl, cell_setO hq.f.2.2 h.fit, cell_setO hq.m.2.2 h.many, cell_setO hq.b.2.2 h.fb, cell_setO hq.n.2.2 h.fn, fun i hi => ⟨cell_setO hq.e.2.2 (h.fld i hi).1, cell_setO hq.e.2.2 (h.fld i hi).2⟩,
    h.x.imp fun _ hu => cell_setO hq.x.2.2 hu, frozen_setO.trans h.xf, World.cell?_setCell_same' _ _ _ (by rw [h.at']; rfl), frozen_setO.trans h.af, cell_setO hq.r2.2.2 h.r2, frozen_setO.trans h.r2f, cell_setO hq.r3.2.2 h.r3, frozen_setO.trans h.r3f, h.below.setCell (p := ⟨q.ba, 0, none⟩) hq.a.2 _, by simpa using h.size⟩
theorem Jst.setX {q : JB} {w0 : World} {M0 : Nat} {a : Int} {W : World} (h : Jst q w0 M0 a W) (hq : JBok q w0 M0) (u : Int) : Jst q w0 M0 a (W.setCell ⟨q.bx, 0, none⟩ (.int .u64 u)) := by
  obtain ⟨u0, hu⟩ := h.x
  exact ⟨cell_setO hq.l.2.1 h.sl, cell_setO hq.f.2.1 h.fit, cell_setO hq.m.2.1 h.many, cell_setO hq.b.2.1 h.fb, cell_setO hq.n.2.1 h.fn, fun i hi => ⟨cell_setO hq.e.2.1 (h.fld i hi).1, cell_setO hq.e.2.1 (h.fld i hi).2⟩,
    ⟨u, World.cell?_setCell_same' _ _ _ (by rw [hu]; rfl)⟩, frozen_setO.trans h.xf, cell_setO (Ne.symm hq.x.2.2) h.at', frozen_setO.trans h.af, cell_setO hq.r2.2.1 h.r2, frozen_setO.trans h.r2f, cell_setO hq.r3.2.1 h.r3, frozen_setO.trans h.r3f, h.below.setCell (p := ⟨q.bx, 0, none⟩) hq.x.2.1 _, by simpa using h.size⟩
theorem frozen_ext {W W' : World} {b : Nat} (e : Ext W W') (hb : b < W.heap.size) : W'.frozen? ⟨b, 0, none⟩ = W.frozen? ⟨b, 0, none⟩ := by
  obtain ⟨os, n, rfl⟩ := e
  exact frozen_grew W os n b 0 hb
theorem Jst.ext {q : JB} {w0 : World} {M0 : Nat} {a : Int} {W W' : World} (h : Jst q w0 M0 a W) (hq : JBok q w0 M0) (e : Ext W W') : Jst q w0 M0 a W' :=
  ⟨ext_cell e h.sl, ext_cell e h.fit, ext_cell e h.many, ext_cell e h.fb, ext_cell e h.fn, fun i hi => ⟨ext_cell e (h.fld i hi).1, ext_cell e (h.fld i hi).2⟩,
    h.x.imp fun _ hu => ext_cell e hu, (frozen_ext e (Nat.lt_of_lt_of_le hq.x.1 h.size)).trans h.xf, ext_cell e h.at', (frozen_ext e (Nat.lt_of_lt_of_le hq.a.1 h.size)).trans h.af, ext_cell e h.r2, (frozen_ext e (Nat.lt_of_lt_of_le hq.r2.1 h.size)).trans h.r2f, ext_cell e h.r3, (frozen_ext e (Nat.lt_of_lt_of_le hq.r3.1 h.size)).trans h.r3f, h.below.trans (e.below.mono h.below.size), Nat.le_trans h.size e.size⟩
theorem Jst.put {q : JB} {w0 : World} {M0 : Nat} {a : Int} {W : World} (h : Jst q w0 M0 a W) (hq : JBok q w0 M0) {l : Nat} {o : Obj} (o' : Obj) (hl : M0 ≤ l) (_ho : W.heap[l]? = some o) : Jst q w0 M0 a (W.putObj l o') := by
  have e : ∀ b, b < M0 → b ≠ l := fun b hb => by omega
  exact ⟨cell_putO (e _ hq.l.1) h.sl, cell_putO (e _ hq.f.1) h.fit, cell_putO (e _ hq.m.1) h.many, cell_putO (e _ hq.b.1) h.fb, cell_putO (e _ hq.n.1) h.fn, fun i hi => ⟨cell_putO (e _ hq.e.1) (h.fld i hi).1, cell_putO (e _ hq.e.1) (h.fld i hi).2⟩,
    h.x.imp fun _ hu => cell_putO (e _ hq.x.1) hu, (frozen_putO (e _ hq.x.1)).trans h.xf, cell_putO (e _ hq.a.1) h.at', (frozen_putO (e _ hq.a.1)).trans h.af, cell_putO (e _ hq.r2.1) h.r2, (frozen_putO (e _ hq.r2.1)).trans h.r2f, cell_putO (e _ hq.r3.1) h.r3, (frozen_putO (e _ hq.r3.1)).trans h.r3f,
    h.below.grown (grownBy_putObj' W l o') h.below.size (fun k hk => by cases hk; exact Nat.le_trans hq.z hl), by simpa using h.size⟩
theorem Kept.ext {l D : Nat} {r d : Obj} {W W' : World} (h : Kept l D r d W) (e : Ext W W') : Kept l D r d W' :=
  ⟨(ext_heap e (Array.getElem?_eq_some_iff.1 h.lp).1).trans h.lp, (ext_heap e (Array.getElem?_eq_some_iff.1 h.dfr).1).trans h.dfr⟩
theorem Kept.set {l D p : Nat} {r d : Obj} {W : World} (h : Kept l D r d W) (u : Value) (h1 : l ≠ p) (h2 : D ≠ p) : Kept l D r d (W.setCell ⟨p, 0, none⟩ u) :=
  ⟨(Below.heap_setCell W ⟨p, 0, none⟩ u l h1).trans h.lp, (Below.heap_setCell W ⟨p, 0, none⟩ u D h2).trans h.dfr⟩
end Go.Proofs.YtmbodooikfmegaaDoor
