/- Small laws on rows that a call has made itself: the blocks ahead of them may change; no program in sight. -/
import Derived.Test.YtknfikdignpniaaDoorRws
namespace Go.Proofs.YtknfikdignpniaaDoor
open Go Go.RowKit
set_option maxRecDepth 100000
set_option maxHeartbeats 8000000

theorem own_swap {B B' : World} (hs : B'.heap.size = B.heap.size) {os : Array Obj} {d d' base : Nat} {e : TypeId} {size n : Nat} {v : Value} {xs : List Value} (h : (grew B os d).ownsRow base e size v n xs) (hb : B.heap.size ≤ base) : (grew B' os d').ownsRow base e size v n xs :=
  own_of h fun _ hg _ => heap_grew_ge hs os d d' (by omega)
theorem rws_swap {B B' : World} (hs : B'.heap.size = B.heap.size) {os : Array Obj} {d d' base : Nat} {e : TypeId} {v : Value} {L : List Rw} (h : (grew B os d).ownsRow base e 2 v L.length (rwCells L)) (hb : B.heap.size ≤ base) : Rws (grew B' os d') v L :=
  own_rws (own_swap hs h hb)
theorem own_low {w : World} {base lo : Nat} {e : TypeId} {size n : Nat} {v : Value} {xs : List Value} (h : w.ownsRow base e size v n xs) (hl : lo ≤ base) : w.ownsRow lo e size v n xs := by
  obtain ⟨h1, h2⟩ := h
  refine ⟨h1, ?_⟩
  rcases h2 with h | ⟨g, cap, cur, hv, hg, hr⟩
  · exact Or.inl h
  · exact Or.inr ⟨g, cap, cur, hv, by omega, hr⟩
theorem own_fin {B B' : World} (hs : B'.heap.size = B.heap.size) {os os2 : Array Obj} {d d' base : Nat} {e : TypeId} {size n : Nat} {v : Value} {xs : List Value} (h : (grew B os d).ownsRow base e size v n xs) (hb : B.heap.size ≤ base) : (grew B' (both os os2) d').ownsRow base e size v n xs := by
  rw [← grew_grew B' os os2 d d']
  exact own_ext (own_swap hs h hb) ⟨os2, d', rfl⟩
theorem own_fin2 {B B' : World} (hs : B'.heap.size = B.heap.size) {os p1 p2 : Array Obj} {d d' base : Nat} {e : TypeId} {size n : Nat} {v : Value} {xs : List Value} (h : (grew B os d).ownsRow base e size v n xs) (hb : B.heap.size ≤ base) : (grew B' (both (both os p1) p2) d').ownsRow base e size v n xs :=
  own_fin (B := B') rfl (own_fin (d' := d') hs h hb) (by rw [hs]; exact hb)
theorem own_fin3 {B B' : World} (hs : B'.heap.size = B.heap.size) {os p1 p2 p3 : Array Obj} {d d' base : Nat} {e : TypeId} {size n : Nat} {v : Value} {xs : List Value} (h : (grew B os d).ownsRow base e size v n xs) (hb : B.heap.size ≤ base) : (grew B' (both (both (both os p1) p2) p3) d').ownsRow base e size v n xs :=
  own_fin (B := B') rfl (own_fin2 (d' := d') hs h hb) (by rw [hs]; exact hb)
theorem own_fin4 {B B' : World} (hs : B'.heap.size = B.heap.size) {os p1 p2 p3 p4 : Array Obj} {d d' base : Nat} {e : TypeId} {size n : Nat} {v : Value} {xs : List Value} (h : (grew B os d).ownsRow base e size v n xs) (hb : B.heap.size ≤ base) : (grew B' (both (both (both (both os p1) p2) p3) p4) d').ownsRow base e size v n xs :=
  own_fin (B := B') rfl (own_fin3 (d' := d') hs h hb) (by rw [hs]; exact hb)
theorem own_fin5 {B B' : World} (hs : B'.heap.size = B.heap.size) {os p1 p2 p3 p4 p5 : Array Obj} {d d' base : Nat} {e : TypeId} {size n : Nat} {v : Value} {xs : List Value} (h : (grew B os d).ownsRow base e size v n xs) (hb : B.heap.size ≤ base) : (grew B' (both (both (both (both (both os p1) p2) p3) p4) p5) d').ownsRow base e size v n xs :=
  own_fin (B := B') rfl (own_fin4 (d' := d') hs h hb) (by rw [hs]; exact hb)
theorem made_at (W : World) (b base : Nat) (t : TypeId) (hb : W.heap.size = b) (hl : base ≤ b) : (W.alloc (.cells #[] t)).ownsRow base t 2 (.slice (some ⟨b, 0, none⟩) 0 0) 0 [] := by
  subst hb
  exact World.ownsRow_made W #[] 0 hl (by decide) rfl
/-- A slice of one row that has just been built. -/
theorem made_one (W : World) (b base : Nat) (t : TypeId) (x : Rw) (hb : W.heap.size = b) (hl : base ≤ b) : (W.alloc (.cells #[.int .u64 x.k, .int .u64 x.v] t)).ownsRow base t 2 (.slice (some ⟨b, 0, none⟩) 1 1) 1 (rwCells [x]) := by
  subst hb
  exact ⟨by simp [rwCells, Rw.cells], Or.inr ⟨_, 1, #[.int .u64 x.k, .int .u64 x.v], rfl, hl, by rw [alloc_heap, if_pos rfl], by omega, by unfold maxLen; omega, rfl, rfl⟩⟩
end Go.Proofs.YtknfikdignpniaaDoor
