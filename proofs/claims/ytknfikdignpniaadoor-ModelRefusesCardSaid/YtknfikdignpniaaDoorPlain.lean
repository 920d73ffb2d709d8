/- Plain functions of the engine's first layers: what a config, an operation, a frame is, and which of them may be; no program in sight. -/
import Derived.WalkKit
import Derived.WalkLawsBesides
import Derived.WalkSpells
namespace Go.Proofs.YtknfikdignpniaaDoor
open Go Go.RowKit
set_option maxRecDepth 100000
set_option maxHeartbeats 8000000

/-- The world with new blocks behind it, and so many draws in all. -/
def grew (w : World) (os : Array Obj) (d : Nat) : World := { w with heap := w.heap ++ os, drawn := d }
/-- How many, and two rows behind each other: words of their own, so that sums have one form. -/
def cnt (os : Array Obj) : Nat := os.size
def both (x y : Array Obj) : Array Obj := x ++ y
theorem cnt_both (x y : Array Obj) : cnt (both x y) = cnt x + cnt y := Array.size_append
@[go_sem] theorem size_grew (w : World) (os : Array Obj) (n : Nat) : (grew w os n).heap.size = w.heap.size + cnt os := Array.size_append
@[go_sem] theorem cnt_one (a : Nat) (x : Array Obj) : a + cnt x + 1 = a + 1 + cnt x := Nat.add_right_comm _ _ _
@[go_sem] theorem cnt_cnt (a : Nat) (x y : Array Obj) : a + cnt x + cnt y = a + cnt (both x y) := by rw [cnt_both, Nat.add_assoc]
@[go_sem] theorem lt_cnt1 (a : Nat) (x : Array Obj) : a < a + 1 + cnt x := by omega
@[go_sem] theorem lt_both1 (a : Nat) (x y : Array Obj) : a + cnt x < a + 1 + cnt (both x y) := by rw [cnt_both]; omega
@[go_sem] theorem lt_bothb1 (a : Nat) (x y z : Array Obj) : a + cnt x < a + 1 + cnt (both (both x y) z) := by simp only [cnt_both]; omega
@[go_sem] theorem lt_bothc1 (a : Nat) (x y z u : Array Obj) : a + cnt x < a + 1 + cnt (both (both (both x y) z) u) := by simp only [cnt_both]; omega
@[go_sem] theorem lt_bothd1 (a : Nat) (x y z u v : Array Obj) : a + cnt x < a + 1 + cnt (both (both (both (both x y) z) u) v) := by simp only [cnt_both]; omega
@[go_sem] theorem lt_cnt2 (a : Nat) (x : Array Obj) : a < a + 1 + 1 + cnt x := by omega
@[go_sem] theorem lt_both2 (a : Nat) (x y : Array Obj) : a + cnt x < a + 1 + 1 + cnt (both x y) := by rw [cnt_both]; omega
@[go_sem] theorem lt_bothb2 (a : Nat) (x y z : Array Obj) : a + cnt x < a + 1 + 1 + cnt (both (both x y) z) := by simp only [cnt_both]; omega
@[go_sem] theorem lt_bothc2 (a : Nat) (x y z u : Array Obj) : a + cnt x < a + 1 + 1 + cnt (both (both (both x y) z) u) := by simp only [cnt_both]; omega
@[go_sem] theorem lt_bothd2 (a : Nat) (x y z u v : Array Obj) : a + cnt x < a + 1 + 1 + cnt (both (both (both (both x y) z) u) v) := by simp only [cnt_both]; omega
@[go_sem] theorem lt_cnt3 (a : Nat) (x : Array Obj) : a < a + 1 + 1 + 1 + cnt x := by omega
@[go_sem] theorem lt_both3 (a : Nat) (x y : Array Obj) : a + cnt x < a + 1 + 1 + 1 + cnt (both x y) := by rw [cnt_both]; omega
@[go_sem] theorem lt_bothb3 (a : Nat) (x y z : Array Obj) : a + cnt x < a + 1 + 1 + 1 + cnt (both (both x y) z) := by simp only [cnt_both]; omega
@[go_sem] theorem lt_bothc3 (a : Nat) (x y z u : Array Obj) : a + cnt x < a + 1 + 1 + 1 + cnt (both (both (both x y) z) u) := by simp only [cnt_both]; omega
@[go_sem] theorem lt_bothd3 (a : Nat) (x y z u v : Array Obj) : a + cnt x < a + 1 + 1 + 1 + cnt (both (both (both (both x y) z) u) v) := by simp only [cnt_both]; omega
@[go_sem] theorem lt_cnt4 (a : Nat) (x : Array Obj) : a < a + 1 + 1 + 1 + 1 + cnt x := by omega
@[go_sem] theorem lt_both4 (a : Nat) (x y : Array Obj) : a + cnt x < a + 1 + 1 + 1 + 1 + cnt (both x y) := by rw [cnt_both]; omega
@[go_sem] theorem lt_bothb4 (a : Nat) (x y z : Array Obj) : a + cnt x < a + 1 + 1 + 1 + 1 + cnt (both (both x y) z) := by simp only [cnt_both]; omega
@[go_sem] theorem lt_bothc4 (a : Nat) (x y z u : Array Obj) : a + cnt x < a + 1 + 1 + 1 + 1 + cnt (both (both (both x y) z) u) := by simp only [cnt_both]; omega
@[go_sem] theorem lt_bothd4 (a : Nat) (x y z u v : Array Obj) : a + cnt x < a + 1 + 1 + 1 + 1 + cnt (both (both (both (both x y) z) u) v) := by simp only [cnt_both]; omega
@[go_sem] theorem lt_cnt5 (a : Nat) (x : Array Obj) : a < a + 1 + 1 + 1 + 1 + 1 + cnt x := by omega
@[go_sem] theorem lt_both5 (a : Nat) (x y : Array Obj) : a + cnt x < a + 1 + 1 + 1 + 1 + 1 + cnt (both x y) := by rw [cnt_both]; omega
@[go_sem] theorem lt_bothb5 (a : Nat) (x y z : Array Obj) : a + cnt x < a + 1 + 1 + 1 + 1 + 1 + cnt (both (both x y) z) := by simp only [cnt_both]; omega
@[go_sem] theorem lt_bothc5 (a : Nat) (x y z u : Array Obj) : a + cnt x < a + 1 + 1 + 1 + 1 + 1 + cnt (both (both (both x y) z) u) := by simp only [cnt_both]; omega
@[go_sem] theorem lt_bothd5 (a : Nat) (x y z u v : Array Obj) : a + cnt x < a + 1 + 1 + 1 + 1 + 1 + cnt (both (both (both (both x y) z) u) v) := by simp only [cnt_both]; omega
@[go_sem] theorem lt_cnt6 (a : Nat) (x : Array Obj) : a < a + 1 + 1 + 1 + 1 + 1 + 1 + cnt x := by omega
@[go_sem] theorem lt_both6 (a : Nat) (x y : Array Obj) : a + cnt x < a + 1 + 1 + 1 + 1 + 1 + 1 + cnt (both x y) := by rw [cnt_both]; omega
@[go_sem] theorem lt_bothb6 (a : Nat) (x y z : Array Obj) : a + cnt x < a + 1 + 1 + 1 + 1 + 1 + 1 + cnt (both (both x y) z) := by simp only [cnt_both]; omega
@[go_sem] theorem lt_bothc6 (a : Nat) (x y z u : Array Obj) : a + cnt x < a + 1 + 1 + 1 + 1 + 1 + 1 + cnt (both (both (both x y) z) u) := by simp only [cnt_both]; omega
@[go_sem] theorem lt_bothd6 (a : Nat) (x y z u v : Array Obj) : a + cnt x < a + 1 + 1 + 1 + 1 + 1 + 1 + cnt (both (both (both (both x y) z) u) v) := by simp only [cnt_both]; omega
@[go_sem] theorem lt_cnt7 (a : Nat) (x : Array Obj) : a < a + 1 + 1 + 1 + 1 + 1 + 1 + 1 + cnt x := by omega
@[go_sem] theorem lt_both7 (a : Nat) (x y : Array Obj) : a + cnt x < a + 1 + 1 + 1 + 1 + 1 + 1 + 1 + cnt (both x y) := by rw [cnt_both]; omega
@[go_sem] theorem lt_bothb7 (a : Nat) (x y z : Array Obj) : a + cnt x < a + 1 + 1 + 1 + 1 + 1 + 1 + 1 + cnt (both (both x y) z) := by simp only [cnt_both]; omega
@[go_sem] theorem lt_bothc7 (a : Nat) (x y z u : Array Obj) : a + cnt x < a + 1 + 1 + 1 + 1 + 1 + 1 + 1 + cnt (both (both (both x y) z) u) := by simp only [cnt_both]; omega
@[go_sem] theorem lt_bothd7 (a : Nat) (x y z u v : Array Obj) : a + cnt x < a + 1 + 1 + 1 + 1 + 1 + 1 + 1 + cnt (both (both (both (both x y) z) u) v) := by simp only [cnt_both]; omega
@[go_sem] theorem lt_cnt8 (a : Nat) (x : Array Obj) : a < a + 1 + 1 + 1 + 1 + 1 + 1 + 1 + 1 + cnt x := by omega
@[go_sem] theorem lt_both8 (a : Nat) (x y : Array Obj) : a + cnt x < a + 1 + 1 + 1 + 1 + 1 + 1 + 1 + 1 + cnt (both x y) := by rw [cnt_both]; omega
@[go_sem] theorem lt_bothb8 (a : Nat) (x y z : Array Obj) : a + cnt x < a + 1 + 1 + 1 + 1 + 1 + 1 + 1 + 1 + cnt (both (both x y) z) := by simp only [cnt_both]; omega
@[go_sem] theorem lt_bothc8 (a : Nat) (x y z u : Array Obj) : a + cnt x < a + 1 + 1 + 1 + 1 + 1 + 1 + 1 + 1 + cnt (both (both (both x y) z) u) := by simp only [cnt_both]; omega
@[go_sem] theorem lt_bothd8 (a : Nat) (x y z u v : Array Obj) : a + cnt x < a + 1 + 1 + 1 + 1 + 1 + 1 + 1 + 1 + cnt (both (both (both (both x y) z) u) v) := by simp only [cnt_both]; omega
@[go_sem] theorem grew_grew (w : World) (x y : Array Obj) (n m : Nat) : grew (grew w x n) y m = grew w (both x y) m := by
  simp [grew, both]
theorem heap_grew (w : World) (os : Array Obj) (n : Nat) {k : Nat} (h : k < w.heap.size) : (grew w os n).heap[k]? = w.heap[k]? := Array.getElem?_append_left h
@[go_sem] theorem cell_grew (w : World) (os : Array Obj) (n b i : Nat) (h : b < w.heap.size) : (grew w os n).cell? ⟨b, i, none⟩ = w.cell? ⟨b, i, none⟩ := by
  simp only [World.cell?, heap_grew w os n h]
@[go_sem] theorem frozen_grew (w : World) (os : Array Obj) (n b i : Nat) (h : b < w.heap.size) : (grew w os n).frozen? ⟨b, i, none⟩ = w.frozen? ⟨b, i, none⟩ := by
  simp only [World.frozen?, heap_grew w os n h]
@[go_sem] theorem setCell_grew (w : World) (os : Array Obj) (n b i : Nat) (v : Value) (h : b < w.heap.size) : (grew w os n).setCell ⟨b, i, none⟩ v = grew (w.setCell ⟨b, i, none⟩ v) os n := by
  simp only [World.setCell, grew]
  congr 1
  refine Array.ext_getElem? fun k => ?_
  by_cases hk : k < w.heap.size
  · rw [Array.getElem?_append_left (by simpa using hk), Array.getElem?_modify, Array.getElem?_modify, Array.getElem?_append_left hk]
  · rw [Array.getElem?_append_right (by simpa using hk), Array.getElem?_modify, if_neg (by omega), Array.getElem?_append_right (by omega)]
    simp
@[go_sem] theorem drew_grew (w : World) (os : Array Obj) (n : Nat) : grew w.drew os n = grew w os n := rfl
@[go_sem] theorem drewN_grew (w : World) (os : Array Obj) (k n : Nat) : grew (w.drewN k) os n = grew w os n := rfl

/-- Only new blocks, and draws, part two worlds. -/
def Ext (w w' : World) : Prop := ∃ os n, w' = grew w os n
theorem Ext.refl (w : World) : Ext w w := ⟨#[], w.drawn, by simp [grew]⟩
theorem Ext.trans {a b c : World} (h : Ext a b) (k : Ext b c) : Ext a c := by
  obtain ⟨os, n, rfl⟩ := h
  obtain ⟨os2, n2, rfl⟩ := k
  exact ⟨os ++ os2, n2, by simp [grew]⟩
theorem Ext.more {a w : World} (h : Ext a w) (os : Array Obj) (n : Nat) : Ext a (grew w os n) := h.trans ⟨os, n, rfl⟩
theorem Ext.alloc {a w : World} (h : Ext a w) (o : Obj) : Ext a (w.alloc o) := h.trans ⟨#[o], w.drawn, by show ({ w with heap := w.heap.push o } : World) = { w with heap := w.heap ++ #[o] }; rw [Array.push_eq_append]⟩
theorem Ext.drew {a w : World} (h : Ext a w) : Ext a w.drew := h.trans ⟨#[], w.drawn + 1, by show ({ w with drawn := w.drawn + 1 } : World) = { w with heap := w.heap ++ #[], drawn := w.drawn + 1 }; rw [Array.append_empty]⟩
theorem Ext.drewN {a w : World} (h : Ext a w) (n : Nat) : Ext a (w.drewN n) := h.trans ⟨#[], w.drawn + n, by show ({ w with drawn := w.drawn + n } : World) = { w with heap := w.heap ++ #[], drawn := w.drawn + n }; rw [Array.append_empty]⟩
/-- What the kit's laws say ('Below', out of 'grownBy') is as much. -/
theorem Ext.of_below {w w' : World} (h : Below w.heap.size w w') : Ext w w' := by
  refine ⟨w'.heap.extract w.heap.size w'.heap.size, w'.drawn, ?_⟩
  obtain ⟨h1, h2, h3, h4, h5⟩ := h
  have e : w'.heap = w.heap ++ w'.heap.extract w.heap.size w'.heap.size := by
    refine Array.ext_getElem? fun k => ?_
    by_cases hk : k < w.heap.size
    · rw [Array.getElem?_append_left hk, h5 k hk]
    · rw [Array.getElem?_append_right (by omega), Array.getElem?_extract]
      by_cases hk2 : k < w'.heap.size
      · rw [if_pos (by omega)]
        congr 1
        omega
      · rw [if_neg (by omega), Array.getElem?_eq_none (by omega)]
  cases w'
  cases w
  simp only [grew, World.mk.injEq] at *
  exact ⟨e, h2, trivial, h1, h3⟩
theorem Ext.setCell {a w : World} (h : Ext a w) {p : Addr} (hp : a.heap.size ≤ p.block) (u : Value) : Ext a (w.setCell p u) := by
  obtain ⟨os, n, rfl⟩ := h
  refine ⟨os.modify (p.block - a.heap.size) fun
    | .cells c t f => .cells (if p.spot.isSome then c else c.setIfInBounds p.off u) t f
    | o => o, n, ?_⟩
  show ({ (grew a os n) with heap := (a.heap ++ os).modify p.block _ } : World) = _
  simp only [grew]
  congr 1
  refine Array.ext_getElem? fun k => ?_
  by_cases hk : k < a.heap.size
  · rw [Array.getElem?_append_left hk, Array.getElem?_modify, if_neg (by omega), Array.getElem?_append_left hk]
  · rw [Array.getElem?_append_right (by omega), Array.getElem?_modify, Array.getElem?_modify, Array.getElem?_append_right (by omega)]
    by_cases e : p.block = k
    · rw [if_pos e, if_pos (by omega)]
      cases os[k - a.heap.size]? with
      | none => rfl
      | some x => cases x <;> rfl
    · rw [if_neg e, if_neg (by omega)]
theorem Ext.size {w w' : World} (h : Ext w w') : w.heap.size ≤ w'.heap.size := by
  obtain ⟨os, n, rfl⟩ := h
  rw [size_grew]; omega
theorem Ext.below {w w' : World} (h : Ext w w') : Below w.heap.size w w' := by
  obtain ⟨os, n, rfl⟩ := h
  exact ⟨rfl, rfl, rfl, by rw [size_grew]; omega, fun k hk => heap_grew w os n hk⟩
theorem Ext.cell {W w1 : World} (hb : Ext W w1) : (∀ b o, b < W.heap.size → w1.cell? ⟨b, o, none⟩ = W.cell? ⟨b, o, none⟩) ∧ (∀ b o, b < W.heap.size → w1.frozen? ⟨b, o, none⟩ = W.frozen? ⟨b, o, none⟩) :=
  ⟨fun b o h => Below.cell hb.below (p := ⟨b, o, none⟩) h, fun b o h => Below.frozen hb.below (p := ⟨b, o, none⟩) h⟩

theorem ret_bool {a b : Bool} (h : a = b) : Ending.returned (.bool a) = .returned (.bool b) := by rw [h]
theorem ret_int {k : IntKind} {a b : Int} (h : a = b) : Ending.returned (.int k a) = .returned (.int k b) := by rw [h]

/-- One of a config's numbers. -/
def within (is : Bool) (n a b : Int) : Bool := if is then decide (a ≤ n) && decide (n ≤ b) else n == 0

structure Cfg where
  object : Int
  instances : Int
  threads : Int
  kind : Int
  stripes : Int
  bits : Int
  cap : Int
  node : Int
  batch : Int
  chunk : Int
  limit : Int
  most : Int

abbrev Cfg.v (c : Cfg) : Value := .agg #[.int .u8 c.object, .int .i64 c.instances, .int .i64 c.threads, .int .u8 c.kind, .int .i64 c.stripes, .int .i64 c.bits, .int .i64 c.cap, .int .i64 c.node, .int .i64 c.batch, .int .i64 c.chunk, .int .u64 c.limit, .int .u64 c.most]

structure Opn where
  kind : Int
  a : Int
  b : Int
  c : Int

abbrev Opn.v (o : Opn) : Value := .agg #[.int .u8 o.kind, .int .u32 o.a, .int .u32 o.b, .int .u32 o.c]

structure Opn.Fits (o : Opn) : Prop where
  kind : 0 ≤ o.kind ∧ o.kind ≤ 255
  a : 0 ≤ o.a ∧ o.a ≤ 4294967295
  b : 0 ≤ o.b ∧ o.b ≤ 4294967295
  c : 0 ≤ o.c ∧ o.c ≤ 4294967295

/-- May a config be? -/
def partOk (c : Cfg) : Bool :=
  decide (1 ≤ c.object) && decide (c.object ≤ 4) && (c.kind == 1 || c.kind == 2) && within true c.instances 2 4 && within true c.threads 1 16 &&
  within (c.kind == 2) c.stripes 1 4 && within (c.object == 1) c.bits 1 6 && within true c.cap 1 32 && within (c.object == 2) c.node 2 4 &&
  within (c.object == 2) c.chunk 1 8 && within true c.batch 1 16 && decide (131072 ≤ c.limit) && decide (c.limit ≤ 4611686018427387904) &&
  (if c.kind == 2 then decide (1 ≤ c.most) && decide (c.most ≤ 4611686018427387904) else c.most == 0)

/-- A config's error. -/
def confN (c : Cfg) : Int := if partOk c then 0 else 40

/-- Whose kind it is. -/
def objOf (k : Int) : Int := if k ≤ 0 then 0 else if k ≤ 3 then 1 else if k ≤ 8 then 2 else if k ≤ 11 then 3 else if k ≤ 14 then 4 else 0

/-- Do numbers name a route of at most so many bits? -/
def prefixB (bits a b : Int) : Bool := decide (b ≤ bits) && decide (a < 2 ^ b.toNat)

/-- Are numbers a path? -/
def pathB (a b : Int) : Bool := !(a % 65536 == 0) && (!(a / 65536 == 0) || b == 0) && decide (b ≤ 65535)

/-- Are an operation's numbers as they should be? -/
def fitsB (c : Cfg) (o : Opn) : Bool :=
  if o.kind == 1 then decide (o.c ≤ 2147483647) && prefixB c.bits o.a o.b
  else if o.kind == 2 then (o.c == 0) && prefixB c.bits o.a o.b
  else if o.kind == 3 then (o.c == 0) && (o.b == 0) && decide (o.a < 2 ^ c.bits.toNat)
  else if o.kind == 4 || o.kind == 8 then (o.c == 0) && decide (o.a ≤ 2147483647) && decide (o.b ≤ 2147483647)
  else if o.kind == 5 || o.kind == 6 || o.kind == 7 then (o.c == 0) && (o.b == 0) && decide (o.a ≤ 2147483647)
  else if o.kind == 9 then (o.c == 1 || o.c == 2) && decide (o.a ≤ 65535) && decide (o.b ≤ 65535)
  else if o.kind == 10 then (o.c == 0) && decide (o.a ≤ 65535) && decide (o.b ≤ 65535)
  else if o.kind == 11 then (o.c == 0) && decide (1 ≤ o.a) && decide (o.a ≤ 65535) && decide (1 ≤ o.b) && decide (o.b ≤ 65535)
  else if o.kind == 12 then decide (o.c ≤ 2147483647) && pathB o.a o.b
  else (o.c == 0) && pathB o.a o.b

/-- An operation's first error. -/
def opErr (c : Cfg) (o : Opn) : Int :=
  if partOk c then (if objOf o.kind == c.object then (if fitsB c o then 0 else 10) else 50) else 40

/-- Does a kind write? -/
def writesB (k : Int) : Bool := k == 1 || k == 2 || k == 4 || k == 5 || k == 9 || k == 10 || k == 12 || k == 13
/-- The package variable 'objects' lies where it lies, and holds what the text lays. -/
def Tab (w : World) : Prop := 0 < w.heap.size ∧ ∀ k : Nat, k < 15 → w.cell? ⟨0, k, none⟩ = some (.int .u8 (objOf k))
theorem Tab.ext {w w' : World} (h : Tab w) (e : Ext w w') : Tab w' :=
  ⟨Nat.lt_of_lt_of_le h.1 e.size, fun k hk => (e.cell.1 _ k h.1).trans (h.2 k hk)⟩
/-- The package variable 'writers' holds some Bools. -/
def TabQ (w : World) : Prop := Tab w ∧ 1 < w.heap.size ∧ ∀ k : Nat, k < 15 → ∃ b, w.cell? ⟨1, k, none⟩ = some (.bool b)
theorem TabQ.ext {w w' : World} (h : TabQ w) (e : Ext w w') : TabQ w' :=
  ⟨h.1.ext e, Nat.lt_of_lt_of_le h.2.1 e.size, fun k hk => by
    obtain ⟨b, hb⟩ := h.2.2 k hk
    exact ⟨b, (e.cell.1 _ k h.2.1).trans hb⟩⟩
theorem TabQ.wr {w : World} (h : TabQ w) {k : Int} (hk0 : 0 ≤ k) (hk : k < 15) : ∃ b, w.cell? ⟨1, k.toNat, none⟩ = some (.bool b) := h.2.2 k.toNat (by omega)

/-- What 'opErr' says, case by case. -/
theorem partOk_bits {c : Cfg} (h : partOk c = true) : 0 ≤ c.bits ∧ c.bits ≤ 6 := by
  simp [partOk, within] at h
  by_cases k : c.object = 1 <;> simp [k] at h <;> omega
theorem partOk_object {c : Cfg} (h : partOk c = true) : 1 ≤ c.object ∧ c.object ≤ 4 := by
  simp [partOk] at h
  omega
theorem partOk_cap {c : Cfg} (h : partOk c = true) : 1 ≤ c.cap ∧ c.cap ≤ 32 := by
  simp [partOk, within] at h
  omega
theorem objOf_pos {k : Int} (h : 1 ≤ objOf k) : 1 ≤ k ∧ k ≤ 14 := by
  unfold objOf at h
  split at h <;> (try split at h) <;> (try split at h) <;> (try split at h) <;> (try split at h) <;> omega
theorem opErr_conf {c : Cfg} {o : Opn} (h : partOk c = false) : opErr c o = 40 := by simp [opErr, h]
theorem opErr_op {c : Cfg} {o : Opn} (h : partOk c = true) (h2 : (objOf o.kind == c.object) = false) : opErr c o = 50 := by simp [opErr, h, h2]
theorem opErr_over {c : Cfg} {o : Opn} (h : partOk c = true) (h2 : (objOf o.kind == c.object) = true) (h3 : fitsB c o = false) : opErr c o = 10 := by simp [opErr, h, h2, h3]
theorem opErr_ok {c : Cfg} {o : Opn} (h : partOk c = true) (h2 : (objOf o.kind == c.object) = true) (h3 : fitsB c o = true) : opErr c o = 0 := by simp [opErr, h, h2, h3]

theorem Tab.at {w : World} (h : Tab w) {k : Int} (hk0 : 0 ≤ k) (hk : k < 15) : w.cell? ⟨0, k.toNat, none⟩ = some (.int .u8 (objOf k)) := by
  have h1 := h.2 k.toNat (by omega)
  rw [h1]
  congr
  omega

theorem conf_ok {c : Cfg} (h : partOk c = true) : confN c = 0 := by simp [confN, h]
theorem conf_no {c : Cfg} (h : partOk c = false) : confN c = 40 := by simp [confN, h]
theorem kind_of {c : Cfg} {o : Opn} (hobj : 1 ≤ c.object ∧ c.object ≤ 4) (h2 : (objOf o.kind == c.object) = true) : 1 ≤ o.kind ∧ o.kind ≤ 14 :=
  objOf_pos (by have h : objOf o.kind = c.object := by simpa using h2
                omega)

theorem quiet_left {P : Program} {f : FuncId} {args : Array Value} {w : World} {n : Nat} {v : Value}
    (h : Calls P f args (w.drewN n) fun e w' => e = .returned v ∧ w.drewN n = w') : Calls P f args (w.drewN n) fun e w' => e = .returned v ∧ ∃ m, w' = w.drewN m :=
  h.mono fun _ _ ⟨he, hm⟩ => ⟨he, n, hm.symm⟩
/-- The same, found. -/
theorem EX {a b : World} (h : Ext a b := by repeat (first | with_reducible exact Ext.refl _ | with_reducible assumption | with_reducible refine Ext.alloc ?_ _ | with_reducible refine Ext.gr ?_ _ | with_reducible refine Ext.drewN ?_ _ | with_reducible refine Ext.drew ?_ | with_reducible refine Ext.setCell ?_ ?_ _ | with_reducible refine Ext.more ?_ _ _ | (show _ ≤ _; dsimp only; omega))) : Ext a b := h
theorem EXB {a b : World} (h : Ext a b := by repeat (first | with_reducible exact Ext.refl _ | with_reducible assumption | with_reducible apply Ext.bothR | with_reducible refine Ext.alloc ?_ _ | with_reducible refine Ext.gr ?_ _ | with_reducible refine Ext.drewN ?_ _ | with_reducible refine Ext.drew ?_ | with_reducible refine Ext.setCell ?_ ?_ _ | with_reducible refine Ext.more ?_ _ _ | (show _ ≤ _; dsimp only; omega))) : Ext a b := h
theorem EXX {a b : World} (h : Ext a b := by first | ((repeat (first | with_reducible exact Ext.refl _ | with_reducible assumption | with_reducible refine Ext.alloc ?_ _ | with_reducible refine Ext.gr ?_ _ | with_reducible refine Ext.drewN ?_ _ | with_reducible refine Ext.drew ?_ | with_reducible refine Ext.setCell ?_ ?_ _ | with_reducible refine Ext.more ?_ _ _ | (show _ ≤ _; dsimp only; omega))); done) | ((repeat (first | with_reducible exact Ext.refl _ | with_reducible assumption | with_reducible apply Ext.bothR | with_reducible refine Ext.alloc ?_ _ | with_reducible refine Ext.gr ?_ _ | with_reducible refine Ext.drewN ?_ _ | with_reducible refine Ext.drew ?_ | with_reducible refine Ext.setCell ?_ ?_ _ | with_reducible refine Ext.more ?_ _ _ | (show _ ≤ _; dsimp only; omega))); done)) : Ext a b := h
theorem EXY {a b : World} (h : Ext a b := by first | ((repeat (first | with_reducible exact Ext.refl _ | with_reducible assumption | with_reducible refine Ext.alloc ?_ _ | with_reducible refine Ext.gr ?_ _ | with_reducible refine Ext.drewN ?_ _ | with_reducible refine Ext.drew ?_ | with_reducible refine Ext.setCell ?_ ?_ _ | with_reducible refine Ext.more ?_ _ _ | (show _ ≤ _; dsimp only; omega))); done) | ((repeat (first | with_reducible exact Ext.refl _ | with_reducible assumption | with_reducible apply Ext.bothR | with_reducible refine Ext.alloc ?_ _ | with_reducible refine Ext.gr ?_ _ | with_reducible refine Ext.drewN ?_ _ | with_reducible refine Ext.drew ?_ | with_reducible refine Ext.setCell ?_ ?_ _ | with_reducible refine Ext.more ?_ _ _ | (show _ ≤ _; dsimp only; omega))); done) | ((repeat (first | with_reducible exact Ext.refl _ | with_reducible exact Ext.sameG _ _ _ _ | with_reducible assumption | with_reducible refine Ext.bothR (n := 0) ?_ | with_reducible refine Ext.alloc ?_ _ | with_reducible refine Ext.gr ?_ _ | with_reducible refine Ext.drewN ?_ _ | with_reducible refine Ext.drew ?_ | with_reducible refine Ext.setCell ?_ ?_ _ | with_reducible refine Ext.more ?_ _ _ | (show _ ≤ _; dsimp only; omega))); done)) : Ext a b := h
end Go.Proofs.YtknfikdignpniaaDoor
