/- Small laws on worlds that grow; no program in sight. -/
import Derived.Test.YtknfikdignpniaaDoorPlain
import Derived.Calls
import Derived.Deep.QuietTactic
import Derived.BigQuiet
namespace Go.Proofs.YtknfikdignpniaaDoor
open Go Go.RowKit
set_option maxRecDepth 100000
set_option maxHeartbeats 8000000

theorem ext_cell {W W' : World} {p : Addr} {v : Value} (e : Ext W W') (h : W.cell? p = some v) : W'.cell? p = some v :=
  (Below.cell e.below (World.block_lt_of_cell? W p h)).trans h
theorem Ext.bothR {a w : World} {x y : Array Obj} {n m : Nat} (h : Ext a (grew w x n)) : Ext a (grew w (both x y) m) := by
  obtain ⟨os, d, h⟩ := h
  refine ⟨both os y, m, ?_⟩
  rw [← grew_grew w x y n m, h, grew_grew]
theorem and3 {A B C : Prop} (a : A) (b : B) (c : A → B → C) : A ∧ B ∧ C := ⟨a, b, c a b⟩
theorem wp_have {P : Program} {code : Code} {Q : Exit → Act → World → Prop} {a : Act} {W : World} (S : World → Prop) (h : S W) (k : S W → code.wp P Q a W) : code.wp P Q a W := k h
theorem wp_gen {P : Program} {code : Code} {Q : Exit → Act → World → Prop} {a : Act} {W : World} (S : World → Prop) (h : S W) (k : ∀ W', S W' → code.wp P Q a W') : code.wp P Q a W := k W h
theorem ext_heap {w W : World} (e : Ext w W) {k : Nat} (h : k < w.heap.size) : W.heap[k]? = w.heap[k]? := by
  obtain ⟨os, d, rfl⟩ := e
  exact heap_grew w os d h
/-- These cells hold these values: each a block, an offset, a value. -/
def Holds (w : World) : List (Nat × Nat × Value) → Prop
  | [] => True
  | [x] => w.cell? ⟨x.1, x.2.1, none⟩ = some x.2.2
  | x :: y :: l => w.cell? ⟨x.1, x.2.1, none⟩ = some x.2.2 ∧ Holds w (y :: l)
theorem holds_iff (w : World) (l : List (Nat × Nat × Value)) : Holds w l ↔ ∀ x ∈ l, w.cell? ⟨x.1, x.2.1, none⟩ = some x.2.2 := by
  induction l with
  | nil => simp [Holds]
  | cons x l ih =>
    cases l with
    | nil => simp [Holds]
    | cons y l => simp only [Holds, ih, List.forall_mem_cons]
theorem Holds.ext {w w' : World} {l : List (Nat × Nat × Value)} (h : Holds w l) (e : Ext w w') : Holds w' l := by
  rw [holds_iff] at h ⊢
  exact fun x hx => ext_cell e (h x hx)
theorem Holds.app {w : World} {l m : List (Nat × Nat × Value)} (h : Holds w l) (k : Holds w m) : Holds w (l ++ m) := by
  rw [holds_iff] at h k ⊢
  intro x hx
  rcases List.mem_append.1 hx with hx | hx
  · exact h x hx
  · exact k x hx
/-- The cells of all blocks but those from lo to hi are as they were. -/
def Mid (lo hi : Nat) (w w' : World) : Prop := ∀ b i v, (b < lo ∨ hi ≤ b) → w.cell? ⟨b, i, none⟩ = some v → w'.cell? ⟨b, i, none⟩ = some v
theorem Mid.ext {lo hi : Nat} {a b c : World} (h : Mid lo hi a b) (e : Ext b c) : Mid lo hi a c := fun k i v hk hc => ext_cell e (h k i v hk hc)
theorem Mid.of_ext {lo hi : Nat} {a b : World} (e : Ext a b) : Mid lo hi a b := fun _ _ _ _ hc => ext_cell e hc
theorem mid_grew {B B' : World} {lo : Nat} (hs : B'.heap.size = B.heap.size) (hl : ∀ k, k < lo → B'.heap[k]? = B.heap[k]?) (os : Array Obj) (d d' : Nat) : Mid lo B.heap.size (grew B os d) (grew B' os d') := by
  intro b i v hb hc
  have e : (grew B' os d').heap[b]? = (grew B os d).heap[b]? := by
    show (B'.heap ++ os)[b]? = (B.heap ++ os)[b]?
    by_cases h : b < B.heap.size
    · rw [Array.getElem?_append_left (by omega), Array.getElem?_append_left h]
      rcases hb with hb | hb
      · exact hl b hb
      · omega
    · rw [Array.getElem?_append_right (by omega), Array.getElem?_append_right (by omega), hs]
  rw [← hc]
  simp only [World.cell?, e]
/-- All cells that hold a uint64 are as they were. -/
def KeepU (w w' : World) : Prop := w'.heap.size = w.heap.size ∧ ∀ b i x, w.cell? ⟨b, i, none⟩ = some (.int .u64 x) → w'.cell? ⟨b, i, none⟩ = some (.int .u64 x)
theorem KeepU.refl (w : World) : KeepU w w := ⟨rfl, fun _ _ _ h => h⟩
theorem KeepU.grew {X X' : World} (h : KeepU X X') (os : Array Obj) (n n' : Nat) : KeepU (grew X os n) (grew X' os n') := by
  refine ⟨by rw [size_grew, size_grew, h.1], fun b i x hc => ?_⟩
  by_cases hb : b < X.heap.size
  · rw [cell_grew _ _ _ _ _ hb] at hc
    rw [cell_grew _ _ _ _ _ (by rw [h.1]; exact hb)]
    exact h.2 _ _ _ hc
  · have e : (Go.Proofs.YtknfikdignpniaaDoor.grew X' os n').heap[b]? = (Go.Proofs.YtknfikdignpniaaDoor.grew X os n).heap[b]? := by
      show (X'.heap ++ os)[b]? = (X.heap ++ os)[b]?
      rw [Array.getElem?_append_right (by rw [h.1]; omega), Array.getElem?_append_right (by omega), h.1]
    rw [← hc]
    simp only [World.cell?, e]
theorem alloc_heap (w : World) (o : Obj) (k : Nat) : (w.alloc o).heap[k]? = if k = w.heap.size then some o else w.heap[k]? := by
  show (w.heap.push o)[k]? = _
  rw [Array.getElem?_push]
theorem KeepU.alloc {X X' : World} (h : KeepU X X') (o : Obj) : KeepU (X.alloc o) (X'.alloc o) := by
  refine ⟨by simp [h.1], fun b i x hc => ?_⟩
  have h2 := h.2 b i x
  by_cases e : b = X.heap.size
  · simp only [World.cell?, alloc_heap, h.1, if_pos e] at hc ⊢
    exact hc
  · simp only [World.cell?, alloc_heap, h.1, if_neg e] at hc h2 ⊢
    exact h2 hc
theorem KeepU.change {X X' : World} (h : KeepU X X') {C : Array Value} {t : TypeId} {f : Nat × Nat} {o : Obj} (hC : ∀ v ∈ C.toList, ∀ x, v ≠ .int .u64 x) : KeepU (X.alloc (.cells C t f)) (X'.alloc o) := by
  refine ⟨by simp [h.1], fun b i x hc => ?_⟩
  have h2 := h.2 b i x
  by_cases e : b = X.heap.size
  · simp only [World.cell?, alloc_heap, if_pos e, Option.isSome_none, Bool.false_eq_true, if_false] at hc
    exact absurd rfl (hC _ (Array.mem_toList_iff.2 (Array.mem_of_getElem? hc)) x)
  · simp only [World.cell?, alloc_heap, h.1, if_neg e] at hc h2 ⊢
    exact h2 hc
theorem KeepU.drew {X X' : World} (h : KeepU X X') : KeepU X.drew X'.drew := h
theorem KeepU.drewL {X X' : World} (h : KeepU X X') : KeepU X.drew X' := h
theorem KeepU.drewR {X X' : World} (h : KeepU X X') : KeepU X X'.drew := h

/-- New blocks, and a count of draws: what a world has grown by, under one name. -/
structure Gr where
  os : Array Obj
  n : Nat
instance : Nonempty Gr := ⟨⟨#[], 0⟩⟩
def gr (w : World) (p : Gr) : World := grew w p.os p.n
@[go_sem] theorem cell_gr (w : World) (p : Gr) (b i : Nat) (h : b < w.heap.size) : (gr w p).cell? ⟨b, i, none⟩ = w.cell? ⟨b, i, none⟩ := cell_grew w p.os p.n b i h
@[go_sem] theorem frozen_gr (w : World) (p : Gr) (b i : Nat) (h : b < w.heap.size) : (gr w p).frozen? ⟨b, i, none⟩ = w.frozen? ⟨b, i, none⟩ := frozen_grew w p.os p.n b i h
/-- A region that draws its order, whose operations read, and whose calls lay new blocks alone: one walk in the text's order. -/
theorem wp_region_ext_lit {P : Program} {id : Nat} {Q : Exit → Act → World → Prop} {a : Act} {W : World} {l : List Oper} (hm : P.follows .mixedOrders = true) (hB : Region.lexB .any l.toArray = true)
    (h : wpQuiet P l.toArray (fun w' => ∃ p, w' = gr W p) (fun a' => ∀ w', (∃ p, w' = gr W p) → Q .normal a' w') l a) : (Code.region id l.toArray true).wp P Q a W :=
  wp_region_quiet (C := fun w' => ∃ p, w' = gr W p) hm hB ⟨⟨#[], W.drawn + 1⟩, by simp [gr, grew]⟩ (by simpa using h)
theorem Ext.gr {a w : World} (h : Ext a w) (p : Gr) : Ext a (gr w p) := h.more p.os p.n
theorem quiet_ext {P : Program} {f : FuncId} {args : Array Value} {W : World} {p : Gr} {v : Value}
    (h : Calls P f args (gr W p) fun e w' => e = .returned v ∧ Ext (gr W p) w') : Calls P f args (gr W p) fun e w' => e = .returned v ∧ ∃ q, w' = gr W q :=
  h.mono fun _ _ ⟨he, hx⟩ => ⟨he, by
    obtain ⟨os, n, h⟩ := Ext.trans ((Ext.refl W).gr p) hx
    exact ⟨⟨os, n⟩, h⟩⟩
end Go.Proofs.YtknfikdignpniaaDoor
