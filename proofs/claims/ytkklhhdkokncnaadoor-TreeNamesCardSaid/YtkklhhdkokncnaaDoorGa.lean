/- Plain: a program's frame, its act, a cell; no program in sight. -/
import Derived.Test.YtkklhhdkokncnaaDoorPlain
import Derived.Calls
import Derived.Deep.QuietTactic
import Derived.BigQuiet
import Derived.Deep.AppendSrc
import Derived.Laws.AppendOwn
import Derived.Maps.AppendAt
namespace Go.Proofs.YtkklhhdkokncnaaDoor
open Go Go.RowKit

structure Frm where
  kind : Int
  a : Int
  b : Int
  pc : Int
  i : Int
  j : Int
  n : Int
  p : Int
  h : Int
  x : Int
  y : Int

abbrev Frm.v (f : Frm) : Value := .agg #[.int .u8 f.kind, .int .u32 f.a, .int .u32 f.b, .int .u8 f.pc, .int .u8 f.i, .int .u8 f.j, .int .u8 f.n, .int .u8 f.p, .int .u8 f.h, .int .u32 f.x, .int .u32 f.y]

structure Frm.Fits (f : Frm) : Prop where
  kind : 0 ≤ f.kind ∧ f.kind ≤ 255
  a : 0 ≤ f.a ∧ f.a ≤ 4294967295
  b : 0 ≤ f.b ∧ f.b ≤ 4294967295
  pc : 0 ≤ f.pc ∧ f.pc ≤ 255
  i : 0 ≤ f.i ∧ f.i ≤ 255
  j : 0 ≤ f.j ∧ f.j ≤ 255
  n : 0 ≤ f.n ∧ f.n ≤ 255
  p : 0 ≤ f.p ∧ f.p ≤ 255
  h : 0 ≤ f.h ∧ f.h ≤ 255
  x : 0 ≤ f.x ∧ f.x ≤ 4294967295
  y : 0 ≤ f.y ∧ f.y ≤ 4294967295

abbrev zeroFrm : Frm := ⟨0, 0, 0, 0, 0, 0, 0, 0, 0, 0, 0⟩

structure Actn where
  kind : Int
  at' : Int
  a : Int
  b : Int
  c : Int
  code : Int
  v' : Int

abbrev Actn.v (x : Actn) : Value := .agg #[.int .u8 x.kind, .int .i64 x.at', .int .u64 x.a, .int .u64 x.b, .int .u64 x.c, .int .i64 x.code, .int .u32 x.v']

abbrev zeroAct : Actn := ⟨0, 0, 0, 0, 0, 0, 0⟩

structure Cel where
  tag : Int
  a : Int
  b : Int
  c : Int

abbrev Cel.v (x : Cel) : Value := .agg #[.int .u64 x.tag, .int .u64 x.a, .int .u64 x.b, .int .u64 x.c]

structure Cel.Fits (x : Cel) : Prop where
  tag : 0 ≤ x.tag ∧ x.tag ≤ 18446744073709551615
  a : 0 ≤ x.a ∧ x.a ≤ 18446744073709551615
  b : 0 ≤ x.b ∧ x.b ≤ 18446744073709551615
  c : 0 ≤ x.c ∧ x.c ≤ 18446744073709551615
end Go.Proofs.YtkklhhdkokncnaaDoor
/- Plain: masks and powers of two; no program in sight. -/
namespace Go.Proofs.YtkklhhdkokncnaaDoor
open Go Go.RowKit

theorem and_mask (a : Int) (h0 : 0 ≤ a) (h1 : a ≤ 4294967295) : bits .and .u32 a 65535 = a % 65536 := by
  rw [u32_and a 65535 h0 (by omega) (by omega) (by omega)]
  have h : a.toNat &&& (65535 : Int).toNat = a.toNat % 65536 := Nat.and_two_pow_sub_one_eq_mod a.toNat 16
  rw [h]
  omega

theorem pow_mod (b : Int) (h0 : 0 ≤ b) (h1 : b ≤ 31) : (2 : Int) ^ b.toNat % 4294967296 = 2 ^ b.toNat := by
  have h := u32_shl_one_var b h0
  rw [if_neg (by omega), show min b.toNat 32 = b.toNat by omega] at h
  exact h

theorem pow_le (b : Int) (h1 : b ≤ 6) : (2 : Int) ^ b.toNat ≤ 64 := by
  have h : 2 ^ b.toNat ≤ 2 ^ 6 := Nat.pow_le_pow_right (by omega) (by omega)
  have h2 : ((2 ^ b.toNat : Nat) : Int) ≤ ((2 ^ 6 : Nat) : Int) := Int.ofNat_le.2 h
  simpa using h2

end Go.Proofs.YtkklhhdkokncnaaDoor
/- Small laws on worlds that grow; no program in sight. -/
namespace Go.Proofs.YtkklhhdkokncnaaDoor
open Go Go.RowKit

theorem ext_cell {W W' : World} {p : Addr} {v : Value} (e : Ext W W') (h : W.cell? p = some v) : W'.cell? p = some v :=
  (Below.cell e.below (World.block_lt_of_cell? W p h)).trans h
theorem Ext.bothR {a w : World} {x y : Array Obj} {n m : Nat} (h : Ext a (grew w x n)) : Ext a (grew w (both x y) m) := by
  obtain ⟨os, d, h⟩ := h
  refine ⟨both os y, m, ?_⟩
  rw [← grew_grew w x y n m, h, grew_grew]
theorem and3 {A B C : Prop} (a : A) (b : B) (c : A → B → C) : A ∧ B ∧ C := ⟨a, b, c a b⟩
theorem wp_have {P : Program} {code : Code} {Q : Exit → Act → World → Prop} {a : Act} {W : World} (S : World → Prop) (h : S W) (k : S W → code.wp P Q a W) : code.wp P Q a W := k h
theorem wp_gen {P : Program} {code : Code} {Q : Exit → Act → World → Prop} {a : Act} {W : World} (S : World → Prop) (h : S W) (k : ∀ W', S W' → code.wp P Q a W') : code.wp P Q a W := k W h
theorem ext_heap {w W : World} (e : Ext w W) {k : Nat} (h : k < w.heap.size) : W.heap[k]? = w.heap[k]? := by
  obtain ⟨os, d, rfl⟩ := e
  exact heap_grew w os d h
/-- These cells hold these values: each a block, an offset, a value. -/
def Holds (w : World) : List (Nat × Nat × Value) → Prop
  | [] => True
  | [x] => w.cell? ⟨x.1, x.2.1, none⟩ = some x.2.2
  | x :: y :: l => w.cell? ⟨x.1, x.2.1, none⟩ = some x.2.2 ∧ Holds w (y :: l)
theorem holds_iff (w : World) (l : List (Nat × Nat × Value)) : Holds w l ↔ ∀ x ∈ l, w.cell? ⟨x.1, x.2.1, none⟩ = some x.2.2 := by
  induction l with
  | nil => simp [Holds]
  | cons x l ih =>
    cases l with
    | nil => simp [Holds]
    | cons y l => simp only [Holds, ih, List.forall_mem_cons]
theorem Holds.ext {w w' : World} {l : List (Nat × Nat × Value)} (h : Holds w l) (e : Ext w w') : Holds w' l := by
  rw [holds_iff] at h ⊢
  exact fun x hx => ext_cell e (h x hx)
theorem Holds.app {w : World} {l m : List (Nat × Nat × Value)} (h : Holds w l) (k : Holds w m) : Holds w (l ++ m) := by
  rw [holds_iff] at h k ⊢
  intro x hx
  rcases List.mem_append.1 hx with hx | hx
  · exact h x hx
  · exact k x hx
/-- The cells of all blocks but those from lo to hi are as they were. -/
def Mid (lo hi : Nat) (w w' : World) : Prop := ∀ b i v, (b < lo ∨ hi ≤ b) → w.cell? ⟨b, i, none⟩ = some v → w'.cell? ⟨b, i, none⟩ = some v
theorem Mid.ext {lo hi : Nat} {a b c : World} (h : Mid lo hi a b) (e : Ext b c) : Mid lo hi a c := fun k i v hk hc => ext_cell e (h k i v hk hc)
theorem Mid.of_ext {lo hi : Nat} {a b : World} (e : Ext a b) : Mid lo hi a b := fun _ _ _ _ hc => ext_cell e hc
theorem mid_grew {B B' : World} {lo : Nat} (hs : B'.heap.size = B.heap.size) (hl : ∀ k, k < lo → B'.heap[k]? = B.heap[k]?) (os : Array Obj) (d d' : Nat) : Mid lo B.heap.size (grew B os d) (grew B' os d') := by
  intro b i v hb hc
  have e : (grew B' os d').heap[b]? = (grew B os d).heap[b]? := by
    show (B'.heap ++ os)[b]? = (B.heap ++ os)[b]?
    by_cases h : b < B.heap.size
    · rw [Array.getElem?_append_left (by omega), Array.getElem?_append_left h]
      rcases hb with hb | hb
      · exact hl b hb
      · omega
    · rw [Array.getElem?_append_right (by omega), Array.getElem?_append_right (by omega), hs]
  rw [← hc]
  simp only [World.cell?, e]
/-- All cells that hold a uint64 are as they were. -/
def KeepU (w w' : World) : Prop := w'.heap.size = w.heap.size ∧ ∀ b i x, w.cell? ⟨b, i, none⟩ = some (.int .u64 x) → w'.cell? ⟨b, i, none⟩ = some (.int .u64 x)
theorem KeepU.refl (w : World) : KeepU w w := ⟨rfl, fun _ _ _ h => h⟩
theorem KeepU.grew {X X' : World} (h : KeepU X X') (os : Array Obj) (n n' : Nat) : KeepU (grew X os n) (grew X' os n') := by
  refine ⟨by rw [size_grew, size_grew, h.1], fun b i x hc => ?_⟩
  by_cases hb : b < X.heap.size
  · rw [cell_grew _ _ _ _ _ hb] at hc
    rw [cell_grew _ _ _ _ _ (by rw [h.1]; exact hb)]
    exact h.2 _ _ _ hc
  · have e : (Go.Proofs.YtkklhhdkokncnaaDoor.grew X' os n').heap[b]? = (Go.Proofs.YtkklhhdkokncnaaDoor.grew X os n).heap[b]? := by
      show (X'.heap ++ os)[b]? = (X.heap ++ os)[b]?
      rw [Array.getElem?_append_right (by rw [h.1]; omega), Array.getElem?_append_right (by omega), h.1]
    rw [← hc]
    simp only [World.cell?, e]
theorem alloc_heap (w : World) (o : Obj) (k : Nat) : (w.alloc o).heap[k]? = if k = w.heap.size then some o else w.heap[k]? := by
  show (w.heap.push o)[k]? = _
  rw [Array.getElem?_push]
theorem KeepU.alloc {X X' : World} (h : KeepU X X') (o : Obj) : KeepU (X.alloc o) (X'.alloc o) := by
  refine ⟨by simp [h.1], fun b i x hc => ?_⟩
  have h2 := h.2 b i x
  by_cases e : b = X.heap.size
  · simp only [World.cell?, alloc_heap, h.1, if_pos e] at hc ⊢
    exact hc
  · simp only [World.cell?, alloc_heap, h.1, if_neg e] at hc h2 ⊢
    exact h2 hc
theorem KeepU.change {X X' : World} (h : KeepU X X') {C : Array Value} {t : TypeId} {f : Nat × Nat} {o : Obj} (hC : ∀ v ∈ C.toList, ∀ x, v ≠ .int .u64 x) : KeepU (X.alloc (.cells C t f)) (X'.alloc o) := by
  refine ⟨by simp [h.1], fun b i x hc => ?_⟩
  have h2 := h.2 b i x
  by_cases e : b = X.heap.size
  · simp only [World.cell?, alloc_heap, if_pos e, Option.isSome_none, Bool.false_eq_true, if_false] at hc
    exact absurd rfl (hC _ (Array.mem_toList_iff.2 (Array.mem_of_getElem? hc)) x)
  · simp only [World.cell?, alloc_heap, h.1, if_neg e] at hc h2 ⊢
    exact h2 hc
theorem KeepU.drew {X X' : World} (h : KeepU X X') : KeepU X.drew X'.drew := h
theorem KeepU.drewL {X X' : World} (h : KeepU X X') : KeepU X.drew X' := h
theorem KeepU.drewR {X X' : World} (h : KeepU X X') : KeepU X X'.drew := h

/-- New blocks, and a count of draws: what a world has grown by, under one name. -/
structure Gr where
  os : Array Obj
  n : Nat
instance : Nonempty Gr := ⟨⟨#[], 0⟩⟩
def gr (w : World) (p : Gr) : World := grew w p.os p.n
@[go_sem] theorem cell_gr (w : World) (p : Gr) (b i : Nat) (h : b < w.heap.size) : (gr w p).cell? ⟨b, i, none⟩ = w.cell? ⟨b, i, none⟩ := cell_grew w p.os p.n b i h
@[go_sem] theorem frozen_gr (w : World) (p : Gr) (b i : Nat) (h : b < w.heap.size) : (gr w p).frozen? ⟨b, i, none⟩ = w.frozen? ⟨b, i, none⟩ := frozen_grew w p.os p.n b i h
/-- A region that draws its order, whose operations read, and whose calls lay new blocks alone: one walk in the text's order. -/
theorem wp_region_ext_lit {P : Program} {id : Nat} {Q : Exit → Act → World → Prop} {a : Act} {W : World} {l : List Oper} (hm : P.follows .mixedOrders = true) (hB : Region.lexB .any l.toArray = true)
    (h : wpQuiet P l.toArray (fun w' => ∃ p, w' = gr W p) (fun a' => ∀ w', (∃ p, w' = gr W p) → Q .normal a' w') l a) : (Code.region id l.toArray true).wp P Q a W :=
  wp_region_quiet (C := fun w' => ∃ p, w' = gr W p) hm hB ⟨⟨#[], W.drawn + 1⟩, by simp [gr, grew]⟩ (by simpa using h)
theorem Ext.gr {a w : World} (h : Ext a w) (p : Gr) : Ext a (gr w p) := h.more p.os p.n
theorem quiet_ext {P : Program} {f : FuncId} {args : Array Value} {W : World} {p : Gr} {v : Value}
    (h : Calls P f args (gr W p) fun e w' => e = .returned v ∧ Ext (gr W p) w') : Calls P f args (gr W p) fun e w' => e = .returned v ∧ ∃ q, w' = gr W q :=
  h.mono fun _ _ ⟨he, hx⟩ => ⟨he, by
    obtain ⟨os, n, h⟩ := Ext.trans ((Ext.refl W).gr p) hx
    exact ⟨⟨os, n⟩, h⟩⟩
end Go.Proofs.YtkklhhdkokncnaaDoor
/- Plain: slices of structs as flat cells in a world; no program in sight. -/
namespace Go.Proofs.YtkklhhdkokncnaaDoor
open Go Go.RowKit

def Cel.cells (x : Cel) : List Value := [.int .u64 x.tag, .int .u64 x.a, .int .u64 x.b, .int .u64 x.c]
def celCells (L : List Cel) : List Value := L.flatMap Cel.cells

theorem flat4_len {α : Type} (f : α → List Value) (h : ∀ x, (f x).length = 4) (L : List α) : (L.flatMap f).length = L.length * 4 := by
  induction L with
  | nil => rfl
  | cons x L ih => simp [List.flatMap_cons, h, ih]; omega
theorem celCells_len (L : List Cel) : (celCells L).length = L.length * 4 := flat4_len _ (fun _ => rfl) L
theorem celCells_cons (x : Cel) (L : List Cel) : celCells (x :: L) = .int .u64 x.tag :: .int .u64 x.a :: .int .u64 x.b :: .int .u64 x.c :: celCells L := rfl
theorem celCells_at (L : List Cel) (i : Nat) (h : i < L.length) :
    (celCells L)[i * 4]? = some (.int .u64 L[i].tag) ∧ (celCells L)[i * 4 + 1]? = some (.int .u64 L[i].a) ∧ (celCells L)[i * 4 + 2]? = some (.int .u64 L[i].b) ∧ (celCells L)[i * 4 + 3]? = some (.int .u64 L[i].c) := by
  induction L generalizing i with
  | nil => simp at h
  | cons x L ih =>
    rw [celCells_cons]
    cases i with
    | zero => exact ⟨rfl, rfl, rfl, rfl⟩
    | succ i =>
      have e : (i + 1) * 4 = i * 4 + 4 := by omega
      have := ih i (by simpa using h)
      simp only [e, List.getElem_cons_succ]
      exact this

/-- A slice's address with n elements, their flat cells lying in a world. -/
def SlAt (w : World) (ad : Option Addr) (n cap : Nat) (cs : List Value) : Prop :=
  n ≤ cap ∧ cap ≤ maxLen ∧ ((n = 0 ∧ cs = []) ∨ ∃ b o, ad = some ⟨b, o, none⟩ ∧ ∀ (j : Nat) (u : Value), cs[j]? = some u → w.cell? ⟨b, o + j, none⟩ = some u)
/-- A slice value with n elements, its flat cells lying in a world. -/
def Sl (w : World) (v : Value) (n : Nat) (cs : List Value) : Prop := ∃ ad cap, v = .slice ad n cap ∧ SlAt w ad n cap cs

theorem SlAt.ext {w w' : World} {ad : Option Addr} {n cap : Nat} {cs : List Value} (h : SlAt w ad n cap cs) (e : Ext w w') : SlAt w' ad n cap cs := by
  obtain ⟨h1, h2, h3⟩ := h
  refine ⟨h1, h2, ?_⟩
  rcases h3 with h | ⟨b, o, h3, h4⟩
  · exact Or.inl h
  · exact Or.inr ⟨b, o, h3, fun j u hu => by
      have hc := h4 j u hu
      rw [e.cell.1 b (o + j) (World.block_lt_of_cell? (w := w) (a := ⟨b, o + j, none⟩) hc)]
      exact hc⟩
theorem Sl.ext {w w' : World} {v : Value} {n : Nat} {cs : List Value} (h : Sl w v n cs) (e : Ext w w') : Sl w' v n cs := by
  obtain ⟨ad, cap, h1, h2⟩ := h
  exact ⟨ad, cap, h1, h2.ext e⟩
theorem Sl.nil (w : World) : Sl w (.slice none 0 0) 0 [] := ⟨none, 0, rfl, Nat.le_refl _, by decide, Or.inl ⟨rfl, rfl⟩⟩
theorem SlAt.pos {w : World} {ad : Option Addr} {n cap : Nat} {cs : List Value} (h : SlAt w ad n cap cs) (hn : 0 < n) :
    ∃ b o, ad = some ⟨b, o, none⟩ ∧ ∀ (j : Nat) (u : Value), cs[j]? = some u → w.cell? ⟨b, o + j, none⟩ = some u := by
  obtain ⟨h1, h2, h3⟩ := h
  rcases h3 with ⟨h, _⟩ | h3
  · omega
  · exact h3
/-- The cells of an element. -/
theorem SlAt.cel {w : World} {ad : Option Addr} {cap : Nat} {L : List Cel} (h : SlAt w ad L.length cap (celCells L)) {i : Int} (h0 : 0 ≤ i) (h1 : i < L.length) :
    ∃ b o, ad = some ⟨b, o, none⟩ ∧ w.cell? ⟨b, o + i.toNat * 4, none⟩ = some (.int .u64 (L.getD i.toNat ⟨0, 0, 0, 0⟩).tag) ∧ w.cell? ⟨b, o + i.toNat * 4 + 1, none⟩ = some (.int .u64 (L.getD i.toNat ⟨0, 0, 0, 0⟩).a) ∧
      w.cell? ⟨b, o + i.toNat * 4 + 2, none⟩ = some (.int .u64 (L.getD i.toNat ⟨0, 0, 0, 0⟩).b) ∧ w.cell? ⟨b, o + i.toNat * 4 + 3, none⟩ = some (.int .u64 (L.getD i.toNat ⟨0, 0, 0, 0⟩).c) := by
  have hi : i.toNat < L.length := by omega
  obtain ⟨b, o, e, hc⟩ := h.pos (by omega)
  obtain ⟨c0, c1, c2, c3⟩ := celCells_at L i.toNat hi
  have e1 : L.getD i.toNat ⟨0, 0, 0, 0⟩ = L[i.toNat] := by simp [hi]
  rw [e1]
  exact ⟨b, o, e, hc _ _ c0, hc _ _ c1, hc _ _ c2, hc _ _ c3⟩
/-- A cell's four words lie there. -/
def CelAt (w : World) (b o : Nat) (x : Cel) : Prop :=
  w.cell? ⟨b, o, none⟩ = some (.int .u64 x.tag) ∧ w.cell? ⟨b, o + 1, none⟩ = some (.int .u64 x.a) ∧ w.cell? ⟨b, o + 2, none⟩ = some (.int .u64 x.b) ∧ w.cell? ⟨b, o + 3, none⟩ = some (.int .u64 x.c)
theorem CelAt.holds {w : World} {b o : Nat} {x : Cel} (h : CelAt w b o x) : Holds w [(b, o, .int .u64 x.tag), (b, o + 1, .int .u64 x.a), (b, o + 2, .int .u64 x.b), (b, o + 3, .int .u64 x.c)] := h
theorem CelAt.ext {w w' : World} {b o : Nat} {x : Cel} (h : CelAt w b o x) (e : Ext w w') : CelAt w' b o x :=
  ⟨ext_cell e h.1, ext_cell e h.2.1, ext_cell e h.2.2.1, ext_cell e h.2.2.2⟩
/-- As 'SlAt', of a slice that lies in no block from lo to hi. -/
def SlIn (lo hi : Nat) (w : World) (ad : Option Addr) (n cap : Nat) (cs : List Value) : Prop :=
  n ≤ cap ∧ cap ≤ maxLen ∧ ((n = 0 ∧ cs = []) ∨ ∃ b o, ad = some ⟨b, o, none⟩ ∧ ∀ (j : Nat) (u : Value), cs[j]? = some u → (b < lo ∨ hi ≤ b) ∧ w.cell? ⟨b, o + j, none⟩ = some u)
theorem SlIn.at {lo hi : Nat} {w : World} {ad : Option Addr} {n cap : Nat} {cs : List Value} (h : SlIn lo hi w ad n cap cs) : SlAt w ad n cap cs := by
  obtain ⟨h1, h2, h3⟩ := h
  refine ⟨h1, h2, ?_⟩
  rcases h3 with h | ⟨b, o, h3, h4⟩
  · exact Or.inl h
  · exact Or.inr ⟨b, o, h3, fun j u hu => (h4 j u hu).2⟩
theorem SlIn.mid {lo hi : Nat} {w w' : World} {ad : Option Addr} {n cap : Nat} {cs : List Value} (h : SlIn lo hi w ad n cap cs) (e : Mid lo hi w w') : SlIn lo hi w' ad n cap cs := by
  obtain ⟨h1, h2, h3⟩ := h
  refine ⟨h1, h2, ?_⟩
  rcases h3 with h | ⟨b, o, h3, h4⟩
  · exact Or.inl h
  · exact Or.inr ⟨b, o, h3, fun j u hu => ⟨(h4 j u hu).1, e _ _ _ (h4 j u hu).1 (h4 j u hu).2⟩⟩
theorem SlAt.inn {w w' : World} {lo hi : Nat} {ad : Option Addr} {n cap : Nat} {cs : List Value} (h : SlAt w ad n cap cs) (hl : w.heap.size ≤ lo) (e : Ext w w') : SlIn lo hi w' ad n cap cs := by
  obtain ⟨h1, h2, h3⟩ := h
  refine ⟨h1, h2, ?_⟩
  rcases h3 with h | ⟨b, o, h3, h4⟩
  · exact Or.inl h
  · refine Or.inr ⟨b, o, h3, fun j u hu => ⟨Or.inl ?_, ext_cell e (h4 j u hu)⟩⟩
    have := World.block_lt_of_cell? w _ (h4 j u hu)
    dsimp only at this
    omega
theorem SlIn.cel {lo hi : Nat} {w : World} {ad : Option Addr} {cap : Nat} {L : List Cel} (h : SlIn lo hi w ad L.length cap (celCells L)) {i : Int} (h0 : 0 ≤ i) (h1 : i < L.length) :
    ∃ b o, ad = some ⟨b, o, none⟩ ∧ (b < lo ∨ hi ≤ b) ∧ CelAt w b (o + i.toNat * 4) (L.getD i.toNat ⟨0, 0, 0, 0⟩) := by
  obtain ⟨b, o, e, hc⟩ := h.at.cel h0 h1
  refine ⟨b, o, e, ?_, hc⟩
  obtain ⟨_, _, h3⟩ := h
  rcases h3 with ⟨h3, _⟩ | ⟨b', o', h3, h4⟩
  · omega
  · rw [h3] at e
    cases e
    exact (h4 _ _ (celCells_at L i.toNat (by omega)).1).1
theorem CelAt.mid {lo hi : Nat} {w w' : World} {b o : Nat} {x : Cel} (h : CelAt w b o x) (hb : b < lo ∨ hi ≤ b) (e : Mid lo hi w w') : CelAt w' b o x :=
  ⟨e _ _ _ hb h.1, e _ _ _ hb h.2.1, e _ _ _ hb h.2.2.1, e _ _ _ hb h.2.2.2⟩

theorem celCells_set (L : List Cel) (i : Nat) (x : Cel) :
    celCells (L.set i x) = ((((celCells L).set (i * 4) (.int .u64 x.tag)).set (i * 4 + 1) (.int .u64 x.a)).set (i * 4 + 2) (.int .u64 x.b)).set (i * 4 + 3) (.int .u64 x.c) := by
  induction L generalizing i with
  | nil => simp [celCells]
  | cons y L ih =>
    cases i with
    | zero => rfl
    | succ i =>
      have e : (i + 1) * 4 = i * 4 + 4 := by omega
      rw [List.set_cons_succ, celCells_cons, ih, celCells_cons, e]
      rfl
theorem set_in {C : Array Value} {cs : List Value} (h : ∀ (j : Nat) (u : Value), cs[j]? = some u → C[j]? = some u) (k : Nat) (v : Value) : ∀ (j : Nat) (u : Value), (cs.set k v)[j]? = some u → (C.setIfInBounds k v)[j]? = some u := by
  intro j u hu
  rw [List.getElem?_set] at hu
  rw [Array.getElem?_setIfInBounds]
  split at hu
  · rename_i e
    subst e
    split at hu
    · rename_i hk
      have h1 := h k _ (List.getElem?_eq_getElem hk)
      have h2 : k < C.size := (Array.getElem?_eq_some_iff.1 h1).1
      simp [h2]
      simpa using hu
    · cases hu
  · rename_i e
    rw [if_neg e]
    exact h j u hu
theorem cel_set_in {C : Array Value} {L : List Cel} (h : ∀ (j : Nat) (u : Value), (celCells L)[j]? = some u → C[j]? = some u) (i : Nat) (x : Cel) : ∀ (j : Nat) (u : Value), (celCells (L.set i x))[j]? = some u →
    ((((C.setIfInBounds (i * 4) (.int .u64 x.tag)).setIfInBounds (i * 4 + 1) (.int .u64 x.a)).setIfInBounds (i * 4 + 2) (.int .u64 x.b)).setIfInBounds (i * 4 + 3) (.int .u64 x.c))[j]? = some u := by
  rw [celCells_set]
  exact set_in (set_in (set_in (set_in h _ _) _ _) _ _) _ _
theorem cel_in {C : Array Value} {L : List Cel} (h : ∀ (j : Nat) (u : Value), (celCells L)[j]? = some u → C[j]? = some u) {i : Int} (h0 : 0 ≤ i) (h1 : i < L.length) :
    ∃ u0 u1 u2 u3, C[i.toNat * 4]? = some u0 ∧ C[i.toNat * 4 + 1]? = some u1 ∧ C[i.toNat * 4 + 2]? = some u2 ∧ C[i.toNat * 4 + 3]? = some u3 ∧ i.toNat * 4 + 3 < C.size := by
  obtain ⟨c0, c1, c2, c3⟩ := celCells_at L i.toNat (by omega)
  have e := h _ _ c3
  exact ⟨_, _, _, _, h _ _ c0, h _ _ c1, h _ _ c2, e, (Array.getElem?_eq_some_iff.1 e).1⟩
theorem celCells_one (L : List Cel) : ∀ u ∈ celCells L, u.oneCell' = true := by
  intro u hu
  obtain ⟨x, _, hx⟩ := List.mem_flatMap.1 hu
  simp [Cel.cells] at hx
  rcases hx with rfl | rfl | rfl | rfl <;> rfl

/-- 'append([]T{}, l...)' of a slice that has elements: a new block. -/
theorem wpList_append_copy {P : Program} {w : World} {ops : Array Oper} {rest : List Oper} {o : Oper} {a : Act} {Q : Exit → Act → World → Prop} (hgd : o.guard = none) (s x : Operand) (t : TypeId)
    (ho : o.op = .call { callee := .builtin .append, args := #[s, x], argTypes := #[t, t] })
    (e : TypeId) (i : TypeInfo) (z : Value) (size bytes : Nat) (ht : P.underlying t = some (.slice e)) (hi : P.info? e = some i) (hz : i.zero = some z) (hsize : i.size = size) (hby : i.bytes = bytes)
    (ad0 : Option Addr) (hs : a.eval s = .slice ad0 0 0) (b off : Nat) (n cap : Nat) (cs : List Value) (hx : a.eval x = .slice (some ⟨b, off, none⟩) n cap) (hl : cs.length = n * size)
    (hc : ∀ (j : Nat) (u : Value), cs[j]? = some u → w.cell? ⟨b, off + j, none⟩ = some u) (h1 : ∀ u ∈ cs, u.oneCell' = true) (hn : 0 < n) (h63 : n ≤ maxLen) (hbytes : n * bytes ≤ 140737488355328)
    (h : ∀ (C : Array Value) (cap' : Nat), (∀ (j : Nat) (u : Value), cs[j]? = some u → C[j]? = some u) → n ≤ cap' → cap' ≤ maxLen →
      wpList P ops Q rest (a.put o.dst (.slice (some ⟨w.heap.size, 0, none⟩) n cap')) (w.drew.alloc (.cells C e))) : wpList P ops Q (o :: rest) a w := by
  refine wpList_plain hgd fun K hK => ?_
  have hsmall : n ≤ 9223372036854775807 := by simp only [maxLen] at h63; omega
  have hold : (Builtin.firstCells i.size 0 (.slice ad0 0 0)).run P w.drew = .ok ([] : List Value).toArray w.drew := by
    cases ad0 with
    | none => exact run_firstCells_none w.drew _ 0 0 0
    | some a0 => exact run_firstCells_some w.drew i.size 0 a0 0 0 [] (by simp) (fun j u hu => by simp at hu)
  have hr := run_append_grow_src (P := P) w t t o.type e i z ht hi hz ad0 0 0 [] hold (.slice (some ⟨b, off, none⟩) n cap) n cs (Src.ofSlice w ht ⟨b, off, none⟩ n cap cs (by rw [hsize]; exact hl) (fun j u hu => by rw [Addr.add_lit]; exact hc j u hu) h1) (by omega) (by omega)
    (growslice_fits (by omega) (by rw [hby]; simpa using hbytes))
  unfold Oper.wp execOp
  simp only [ho, resolve, invoke, builtin, Sem.run_bind, Sem.run_pure, Result.andThen_ok, List.map_toArray, List.map_cons, List.map_nil, hs, hx, hr]
  have hge := grownCap_ge w (0 + n) 0 e
  refine hK _ _ ?_
  simp only [Nat.zero_add] at hge ⊢
  refine h _ _ (fun j u hu => ?_) hge (grownCap_le_maxLen w n 0 e h63)
  have hj := (List.getElem?_eq_some_iff.1 hu).1
  rw [Array.getElem?_append_left (by simpa using hj)]
  simpa using hu

theorem celCells_u64 (L : List Cel) : ∀ u ∈ celCells L, ∃ x, u = .int .u64 x := by
  intro u hu
  obtain ⟨x, _, hx⟩ := List.mem_flatMap.1 hu
  simp [Cel.cells] at hx
  rcases hx with rfl | rfl | rfl | rfl <;> exact ⟨_, rfl⟩
theorem SlAt.keepU {w w' w'' : World} {ad : Option Addr} {n cap : Nat} {cs : List Value} (h : SlAt w ad n cap cs) (hu : ∀ u ∈ cs, ∃ x, u = .int .u64 x) (e : KeepU w w') (e2 : Ext w' w'') : SlAt w'' ad n cap cs := by
  obtain ⟨h1, h2, h3⟩ := h
  refine ⟨h1, h2, ?_⟩
  rcases h3 with h | ⟨b, o, h3, h4⟩
  · exact Or.inl h
  · refine Or.inr ⟨b, o, h3, fun j u hj => ext_cell e2 ?_⟩
    obtain ⟨x, rfl⟩ := hu u (List.mem_of_getElem? hj)
    exact e.2 _ _ _ (h4 _ _ hj)
theorem SlAt.cel0 {w : World} {ad : Option Addr} {n cap : Nat} {L : List Cel} (h : SlAt w ad n cap (celCells L)) {i : Int} (h0 : 0 ≤ i) (h1 : i < L.length) :
    ∃ b o, ad = some ⟨b, o, none⟩ ∧ b < w.heap.size ∧ CelAt w b (o + i.toNat * 4) (L.getD i.toNat ⟨0, 0, 0, 0⟩) := by
  have hi : i.toNat < L.length := by omega
  obtain ⟨c0, c1, c2, c3⟩ := celCells_at L i.toNat hi
  obtain ⟨_, _, h3⟩ := h
  rcases h3 with ⟨_, h⟩ | ⟨b, o, e, hc⟩
  · rw [h] at c0; simp at c0
  · have e1 : L.getD i.toNat ⟨0, 0, 0, 0⟩ = L[i.toNat] := by simp [hi]
    rw [e1]
    exact ⟨b, o, e, World.block_lt_of_cell? w _ (hc _ _ c0), hc _ _ c0, hc _ _ c1, hc _ _ c2, hc _ _ c3⟩
def CelsFit (L : List Cel) : Prop := ∀ x ∈ L, x.Fits
theorem CelsFit.get {L : List Cel} (h : CelsFit L) (i : Nat) : (L.getD i ⟨0, 0, 0, 0⟩).Fits := by
  by_cases hi : i < L.length
  · rw [List.getD_eq_getElem?_getD, List.getElem?_eq_getElem hi]
    exact h _ (List.getElem_mem hi)
  · rw [List.getD_eq_getElem?_getD, List.getElem?_eq_none (by omega)]
    exact ⟨by decide, by decide, by decide, by decide⟩
theorem CelsFit.set {L : List Cel} (h : CelsFit L) (i : Nat) {x : Cel} (hx : x.Fits) : CelsFit (L.set i x) := fun y hy => by
  rcases List.mem_or_eq_of_mem_set hy with hy | rfl
  · exact h y hy
  · exact hx
end Go.Proofs.YtkklhhdkokncnaaDoor
/- Small laws on a slice that the call has made itself, beside slices in other blocks; no program in sight. -/
namespace Go.Proofs.YtkklhhdkokncnaaDoor
open Go Go.RowKit

/-- As 'SlAt', of a slice whose block has a property. -/
def SlNo (S : Nat → Prop) (w : World) (ad : Option Addr) (n cap : Nat) (cs : List Value) : Prop :=
  n ≤ cap ∧ cap ≤ maxLen ∧ ((n = 0 ∧ cs = []) ∨ ∃ b o, ad = some ⟨b, o, none⟩ ∧ ∀ (j : Nat) (u : Value), cs[j]? = some u → S b ∧ w.cell? ⟨b, o + j, none⟩ = some u)
theorem SlNo.at {S : Nat → Prop} {w : World} {ad : Option Addr} {n cap : Nat} {cs : List Value} (h : SlNo S w ad n cap cs) : SlAt w ad n cap cs := by
  obtain ⟨h1, h2, h3⟩ := h
  refine ⟨h1, h2, ?_⟩
  rcases h3 with h | ⟨b, o, h3, h4⟩
  · exact Or.inl h
  · exact Or.inr ⟨b, o, h3, fun j u hu => (h4 j u hu).2⟩
theorem SlAt.no {S : Nat → Prop} {w w' : World} {ad : Option Addr} {n cap : Nat} {cs : List Value} (h : SlAt w ad n cap cs)
    (k : ∀ b i v, w.cell? ⟨b, i, none⟩ = some v → S b ∧ w'.cell? ⟨b, i, none⟩ = some v) : SlNo S w' ad n cap cs := by
  obtain ⟨h1, h2, h3⟩ := h
  refine ⟨h1, h2, ?_⟩
  rcases h3 with h | ⟨b, o, h3, h4⟩
  · exact Or.inl h
  · exact Or.inr ⟨b, o, h3, fun j u hu => k _ _ _ (h4 j u hu)⟩
theorem SlNo.to {S S' : Nat → Prop} {w w' : World} {ad : Option Addr} {n cap : Nat} {cs : List Value} (h : SlNo S w ad n cap cs)
    (k : ∀ b i v, S b → w.cell? ⟨b, i, none⟩ = some v → S' b ∧ w'.cell? ⟨b, i, none⟩ = some v) : SlNo S' w' ad n cap cs := by
  obtain ⟨h1, h2, h3⟩ := h
  refine ⟨h1, h2, ?_⟩
  rcases h3 with h | ⟨b, o, h3, h4⟩
  · exact Or.inl h
  · exact Or.inr ⟨b, o, h3, fun j u hu => k _ _ _ (h4 j u hu).1 (h4 j u hu).2⟩
theorem SlNo.ext {S : Nat → Prop} {w w' : World} {ad : Option Addr} {n cap : Nat} {cs : List Value} (h : SlNo S w ad n cap cs) (e : Ext w w') : SlNo S w' ad n cap cs :=
  h.to fun _ _ _ hs hc => ⟨hs, ext_cell e hc⟩
theorem SlNo.cel {S : Nat → Prop} {w : World} {ad : Option Addr} {cap : Nat} {L : List Cel} (h : SlNo S w ad L.length cap (celCells L)) {i : Int} (h0 : 0 ≤ i) (h1 : i < L.length) :
    ∃ b o, ad = some ⟨b, o, none⟩ ∧ S b ∧ CelAt w b (o + i.toNat * 4) (L.getD i.toNat ⟨0, 0, 0, 0⟩) := by
  obtain ⟨b, o, e, hc⟩ := h.at.cel h0 h1
  refine ⟨b, o, e, ?_, hc⟩
  obtain ⟨_, _, h3⟩ := h
  rcases h3 with ⟨h3, _⟩ | ⟨b', o', h3, h4⟩
  · omega
  · rw [h3] at e
    cases e
    exact (h4 _ _ (celCells_at L i.toNat (by omega)).1).1

theorem own_nil (w : World) (base : Nat) (e : TypeId) (size : Nat) : w.ownsRow base e size (.slice none 0 0) 0 [] := ⟨by simp, Or.inl ⟨rfl, rfl⟩⟩
/-- Where the row's block is as it was, the row is. -/
theorem own_of {w w' : World} {base : Nat} {e : TypeId} {size n : Nat} {v : Value} {xs : List Value} (h : w.ownsRow base e size v n xs)
    (k : ∀ g, base ≤ g → g < w.heap.size → w'.heap[g]? = w.heap[g]?) : w'.ownsRow base e size v n xs := by
  obtain ⟨h1, h2⟩ := h
  refine ⟨h1, ?_⟩
  rcases h2 with h | ⟨g, cap, cur, hv, hg, hc, hr⟩
  · exact Or.inl h
  · exact Or.inr ⟨g, cap, cur, hv, hg, (k g hg (Array.getElem?_eq_some_iff.1 hc).1).trans hc, hr⟩
theorem own_ext {w w' : World} {base : Nat} {e : TypeId} {size n : Nat} {v : Value} {xs : List Value} (h : w.ownsRow base e size v n xs) (x : Ext w w') : w'.ownsRow base e size v n xs :=
  own_of h fun _ _ hk => ext_heap x hk
theorem own_block {w : World} {base : Nat} {e : TypeId} {size n : Nat} {v : Value} {xs : List Value} (h : w.ownsRow base e size v n xs) {k : Nat} (hk : v.ownBlock = some k) : base ≤ k ∧ k < w.heap.size := by
  obtain ⟨_, h2⟩ := h
  rcases h2 with ⟨rfl, _⟩ | ⟨g, cap, cur, rfl, hg, hc, _⟩
  · cases hk
  · cases hk
    exact ⟨hg, (Array.getElem?_eq_some_iff.1 hc).1⟩
theorem own_form {w : World} {base : Nat} {e : TypeId} {size n : Nat} {v : Value} {xs : List Value} (h : w.ownsRow base e size v n xs) : ∃ ad cap, v = .slice ad n cap := by
  obtain ⟨_, h2⟩ := h
  rcases h2 with ⟨rfl, rfl⟩ | ⟨g, cap, cur, rfl, _⟩
  · exact ⟨_, _, rfl⟩
  · exact ⟨_, _, rfl⟩
theorem own_sl {w : World} {base : Nat} {e : TypeId} {n : Nat} {v : Value} {xs : List Value} (h : w.ownsRow base e 1 v n xs) : Sl w v n xs := by
  obtain ⟨h1, h2⟩ := h
  rcases h2 with ⟨rfl, rfl⟩ | ⟨g, cap, cur, rfl, hg, hc, hn, hcap, hs, ht⟩
  · obtain rfl : xs = [] := List.length_eq_zero_iff.1 (by simpa using h1)
    exact Sl.nil w
  · refine ⟨_, _, rfl, hn, hcap, Or.inr ⟨g, 0, rfl, fun j u hu => ?_⟩⟩
    have hj : j < xs.length := (List.getElem?_eq_some_iff.1 hu).1
    rw [← ht, List.getElem?_take] at hu
    split at hu
    · simp only [World.cell?, hc, Option.isSome_none, Bool.false_eq_true, if_false, Nat.zero_add]
      simpa using hu
    · cases hu
/-- A slice in no block below a number. -/
def SlB (lo : Nat) (w : World) (v : Value) (n : Nat) (cs : List Value) : Prop := ∃ ad cap, v = .slice ad n cap ∧ SlNo (fun b => lo ≤ b) w ad n cap cs
theorem SlB.sl {lo : Nat} {w : World} {v : Value} {n : Nat} {cs : List Value} (h : SlB lo w v n cs) : Sl w v n cs := by
  obtain ⟨ad, cap, e, h⟩ := h
  exact ⟨ad, cap, e, h.at⟩
theorem SlB.ext {lo : Nat} {w w' : World} {v : Value} {n : Nat} {cs : List Value} (h : SlB lo w v n cs) (e : Ext w w') : SlB lo w' v n cs := by
  obtain ⟨ad, cap, e1, h⟩ := h
  exact ⟨ad, cap, e1, h.ext e⟩
theorem own_slB {w : World} {base lo : Nat} {e : TypeId} {n : Nat} {v : Value} {xs : List Value} (h : w.ownsRow base e 1 v n xs) (hl : lo ≤ base) : SlB lo w v n xs := by
  obtain ⟨ad, cap, rfl, hs⟩ := own_sl h
  refine ⟨ad, cap, rfl, hs.1, hs.2.1, ?_⟩
  rcases hs.2.2 with h3 | ⟨b, o, rfl, h4⟩
  · exact Or.inl h3
  · refine Or.inr ⟨b, o, rfl, fun j u hu => ⟨?_, h4 j u hu⟩⟩
    have := (own_block h (k := b) rfl).1
    omega
/-- Where blocks below are changed, what lies beyond is as it was. -/
theorem SlB.turn {X X' : World} {os : Array Obj} {d d' : Nat} {v : Value} {n : Nat} {cs : List Value} (h : SlB X.heap.size (grew X os d) v n cs) (hs : X'.heap.size = X.heap.size) : SlB X.heap.size (grew X' os d') v n cs := by
  obtain ⟨ad, cap, e, h⟩ := h
  refine ⟨ad, cap, e, h.to fun b i u hb hc => ⟨hb, ?_⟩⟩
  rw [← hc]
  have hq : (grew X' os d').heap[b]? = (grew X os d).heap[b]? := by
    show (X'.heap ++ os)[b]? = (X.heap ++ os)[b]?
    rw [Array.getElem?_append_right (by omega), Array.getElem?_append_right hb, hs]
  simp only [World.cell?, hq]
/-- New blocks, and a store into a row beyond U's blocks: U's blocks are as they were. -/
theorem ext_grown {U w w' : World} {row : Option Nat} (h : Ext U w) (hg : w.grownBy w' row) (hr : ∀ k, row = some k → U.heap.size ≤ k) : Ext U w' :=
  Ext.of_below (Below.grown h.below hg h.size hr)
theorem heap_grew_ge {B B' : World} (hs : B'.heap.size = B.heap.size) (os : Array Obj) (d d' : Nat) {k : Nat} (hk : B.heap.size ≤ k) : (grew B' os d').heap[k]? = (grew B os d).heap[k]? := by
  show (B'.heap ++ os)[k]? = (B.heap ++ os)[k]?
  rw [Array.getElem?_append_right (by omega), Array.getElem?_append_right hk, hs]
end Go.Proofs.YtkklhhdkokncnaaDoor
/- Plain: the program of an index, as the document has it; no program in sight. -/
namespace Go.Proofs.YtkklhhdkokncnaaDoor
open Go Go.RowKit

/-- How many items there are so many levels above so many. -/
def itN (w : Nat) : Nat → Nat → Nat
  | 0, m => m
  | h + 1, m => itN w h ((m + w - 1) / w)
def upI (n w h : Int) : Int := ((itN w.toNat h.toNat n.toNat : Nat) : Int)
/-- The top level of a row of many. -/
def topI (n w : Int) : Int := if upI n w 0 ≤ w then 0 else if upI n w 1 ≤ w then 1 else if upI n w 2 ≤ w then 2 else if upI n w 3 ≤ w then 3 else 4
/-- How many items there are below a level. -/
def sumI (n w : Int) : Nat → Int
  | 0 => 0
  | k + 1 => sumI n w k + upI n w k
def offI (n w h i : Int) : Int := if 0 ≤ h ∧ h ≤ topI n w ∧ 0 ≤ i ∧ i < upI n w h then 1 + sumI n w h.toNat + i else -1
/-- The place, on the level below, of the last item that an item is for. -/
def endI (n w h i : Int) : Int := if (i + 1) * w ≤ upI n w (h - 1) then (i + 1) * w - 1 else upI n w (h - 1) - 1

def treTop (c : Cfg) : Int := topI c.cap c.node
def treOff (c : Cfg) (h i : Int) : Int := offI c.cap c.node h i
def treUp (c : Cfg) (n h : Int) : Int := upI n c.node h
def treOp (f : Frm) : Opn := ⟨f.kind, f.a, if f.kind == 5 then 0 else f.b, 0⟩

/-- Has the table such a Pc for a kind? -/
def treHas (f : Frm) : Bool :=
  f.pc == 0 || f.pc == 1 || (f.pc == 3 && f.kind == 7) || ((f.pc == 4 || f.pc == 5 || f.pc == 6 || f.pc == 7 || f.pc == 22 || f.pc == 24) && f.kind == 4) ||
  ((f.pc == 8 || f.pc == 9 || f.pc == 11) && (f.kind == 4 || f.kind == 5)) || ((f.pc == 12 || f.pc == 13 || f.pc == 14 || f.pc == 15 || f.pc == 25) && f.kind == 5) ||
  ((f.pc == 16 || f.pc == 17) && f.kind == 8) || (f.pc == 20 && (f.kind == 7 || f.kind == 8)) || (f.pc == 21 && (f.kind == 6 || f.kind == 7 || f.kind == 5)) ||
  (f.pc == 23 && (f.kind == 6 || f.kind == 4))

/-- Are a frame's numbers as they should be? -/
def treNum (c : Cfg) (f : Frm) : Bool :=
  decide (f.n ≤ c.cap) && decide (f.p ≤ c.cap) && decide (f.j ≤ c.chunk) && decide (f.h ≤ treTop c) && !(!(f.pc == 16) && f.j == c.chunk) &&
  (if f.pc == 6 then decide (1 ≤ f.i) else if f.pc == 9 || f.pc == 11 then decide (1 ≤ f.h) && decide (f.i < treUp c f.n f.h) else if f.pc == 12 then decide (1 ≤ f.h) else true)

def treStep (c : Cfg) (f : Frm) : Actn :=
  if f.pc == 0 then ⟨1, 0, 0, 0, 0, 0, 0⟩
  else if f.pc == 1 then ⟨1, treOff c f.h f.i, 0, 0, 0, 0, 0⟩
  else if f.pc == 3 then ⟨1, treOff c 0 (f.p - 1), 0, 0, 0, 0, 0⟩
  else if f.pc == 4 || f.pc == 7 then ⟨2, treOff c 0 f.p, f.a, f.b, 0, 0, 0⟩
  else if f.pc == 5 then ⟨1, treOff c 0 (f.i - 1), 0, 0, 0, 0, 0⟩
  else if f.pc == 6 then ⟨2, treOff c 0 f.i, f.x, f.y, 0, 0, 0⟩
  else if f.pc == 8 then ⟨2, 0, f.n, 0, 0, 0, 0⟩
  else if f.pc == 9 then ⟨1, treOff c (f.h - 1) (endI f.n c.node f.h f.i), 0, 0, 0, 0, 0⟩
  else if f.pc == 11 then ⟨2, treOff c f.h f.i, f.x, 0, 0, 0, 0⟩
  else if f.pc == 12 then ⟨2, treOff c f.h (treUp c f.n f.h), 0, 0, 0, 0, 0⟩
  else if f.pc == 13 then ⟨1, treOff c 0 f.i, 0, 0, 0, 0, 0⟩
  else if f.pc == 14 then ⟨2, treOff c 0 (f.i - 1), f.x, f.y, 0, 0, 0⟩
  else if f.pc == 15 then ⟨2, treOff c 0 (f.n - 1), 0, 0, 0, 0, 0⟩
  else if f.pc == 16 then ⟨3, 0, 0, 0, 0, 0, 0⟩
  else if f.pc == 17 then ⟨1, treOff c 0 f.p, 0, 0, 0, 0, 0⟩
  else if f.pc == 21 then ⟨4, 0, 0, 0, 0, 6, 0⟩
  else if f.pc == 22 then ⟨4, 0, 0, 0, 0, 9, 0⟩
  else if f.pc == 23 then ⟨4, 0, 0, 0, 0, 0, (f.y + 1) % 4294967296⟩
  else if f.pc == 25 then ⟨4, 0, 0, 0, 0, 0, f.b⟩
  else ⟨4, 0, 0, 0, 0, 0, 0⟩

def treMay (c : Cfg) (f : Frm) : Bool := opErr c (treOp f) == 0 && treHas f && treNum c f && decide (0 ≤ (treStep c f).at')
def treErr (c : Cfg) (f : Frm) : Int := if partOk c && c.object == 2 then (if treMay c f then 0 else 2) else 40
def treNextA (c : Cfg) (f : Frm) : Actn := if treErr c f == 0 then treStep c f else zeroAct

/-- A cell is taken over. -/
def treOver (f : Frm) (l : Cel) : Frm := { f with x := l.a % 4294967296, y := l.b % 4294967296 }
def treFresh (c : Cfg) (f : Frm) : Frm := if c.cap ≤ f.n then { f with pc := 22 } else if f.n ≤ f.p then { f with pc := 7 } else { f with pc := 5, i := f.n }
def treGo (f : Frm) : Frm := if f.n ≤ f.p + 1 then { f with pc := 20 } else { f with pc := 17, p := f.p + 1 }
/-- A scan's frame behind it took a cell over, and whether a row is told. -/
def treOn (c : Cfg) (f : Frm) : Frm × Bool :=
  if f.b < f.x then ({ f with pc := 20 }, false)
  else if c.chunk ≤ f.j + 1 then ({ f with j := f.j + 1, pc := 16 }, true) else (treGo { f with j := f.j + 1 }, true)
def treFound (c : Cfg) (f : Frm) : Frm × Bool :=
  if f.kind == 6 then (if f.x == f.a then ({ f with pc := 23 }, false) else ({ f with pc := 21 }, false))
  else if f.kind == 7 then (if f.x == f.a then ({ f with pc := 20 }, true) else if f.p == 0 then ({ f with pc := 21 }, false) else ({ f with pc := 3 }, false))
  else if f.kind == 8 then treOn c f
  else if f.kind == 4 then (if f.x == f.a then ({ f with pc := 4 }, false) else (treFresh c f, false))
  else (if f.x == f.a then (if f.n ≤ f.p + 1 then ({ f with b := (f.y + 1) % 4294967296, pc := 15 }, false) else ({ f with b := (f.y + 1) % 4294967296, pc := 13, i := f.p + 1 }, false)) else ({ f with pc := 21 }, false))
def treNone (c : Cfg) (f : Frm) : Frm :=
  if f.kind == 4 then treFresh c { f with p := f.n } else if f.kind == 8 then { f with p := f.n, pc := 20 }
  else if f.kind == 7 then (if f.n == 0 then { f with p := f.n, pc := 21 } else { f with p := f.n, pc := 3 }) else { f with p := f.n, pc := 21 }
def treClears (c : Cfg) (f : Frm) : Bool := f.kind == 5 && decide (treUp c f.n f.h < treUp c (if f.n < c.cap then f.n + 1 else f.n) f.h)
/-- Where an item of a level stands on the one above, so many times. -/
def divI (w : Int) : Nat → Int → Int
  | 0, p => p
  | k + 1, p => divI w k (p / w)
/-- 'up': so many levels are left. -/
def treClimb (c : Cfg) : Nat → Frm → Frm
  | 0, f => if f.kind == 4 then { f with pc := 24 } else { f with pc := 25 }
  | k + 1, f =>
    if divI c.node (f.h + 1).toNat f.p < treUp c f.n (f.h + 1) then { f with h := f.h + 1, i := divI c.node (f.h + 1).toNat f.p, pc := 9 }
    else if treClears c { f with h := f.h + 1 } then { f with h := f.h + 1, i := divI c.node (f.h + 1).toNat f.p, pc := 12 }
    else treClimb c k { f with h := f.h + 1, i := divI c.node (f.h + 1).toNat f.p }
def treUpw (c : Cfg) (f : Frm) : Frm := treClimb c (treTop c - f.h).toNat f
def treItem (c : Cfg) (f : Frm) (l : Cel) : Frm × Bool :=
  if f.a ≤ l.a then (if f.h == 0 then treFound c (treOver { f with p := f.i } l) else ({ f with h := f.h - 1, i := f.i * c.node % 256 }, false))
  else if (f.i + 1) % c.node == 0 || decide (treUp c f.n f.h ≤ f.i + 1) then (treNone c f, false) else ({ f with i := f.i + 1 }, false)

/-- The frame behind the act of one that may be, where it read a cell, and whether a row is told. -/
def treBehind (c : Cfg) (f : Frm) (l : Cel) : Frm × Bool :=
  if f.pc == 0 then
    (if (if l.a < c.cap then l.a else c.cap) == 0 then (treNone c { f with n := 0 }, false)
     else ({ f with n := (if l.a < c.cap then l.a else c.cap), h := treTop c, i := 0, pc := 1 }, false))
  else if f.pc == 1 then treItem c f l
  else if f.pc == 3 then ({ treOver f l with pc := 20 }, true)
  else if f.pc == 4 then ({ f with pc := 23 }, false)
  else if f.pc == 5 then ({ treOver f l with pc := 6 }, false)
  else if f.pc == 6 then (if f.i - 1 ≤ f.p then ({ f with i := f.i - 1, pc := 7 }, false) else ({ f with i := f.i - 1, pc := 5 }, false))
  else if f.pc == 7 then ({ f with n := f.n + 1, pc := 8 }, false)
  else if f.pc == 8 then (treUpw c { f with h := 0 }, false)
  else if f.pc == 9 then ({ treOver f l with pc := 11 }, false)
  else if f.pc == 11 then
    (if f.i + 1 < treUp c f.n f.h then ({ f with i := f.i + 1, pc := 9 }, false)
     else if treClears c f then ({ f with i := f.i + 1, pc := 12 }, false) else (treUpw c { f with i := f.i + 1, pc := 9 }, false))
  else if f.pc == 12 then (treUpw c f, false)
  else if f.pc == 13 then ({ treOver f l with pc := 14 }, false)
  else if f.pc == 14 then (if f.n ≤ f.i + 1 then ({ f with i := f.i + 1, pc := 15 }, false) else ({ f with i := f.i + 1, pc := 13 }, false))
  else if f.pc == 15 then ({ f with n := f.n - 1, pc := 8 }, false)
  else if f.pc == 16 then (treGo { f with j := 0 }, false)
  else if f.pc == 17 then treOn c (treOver f l)
  else (f, false)
def treAfterA (c : Cfg) (f : Frm) (l : Cel) : Frm × Bool := if treErr c f == 0 then treBehind c f l else (zeroFrm, false)
end Go.Proofs.YtkklhhdkokncnaaDoor
/- Plain: a frame's error, layer 'tree'. -/
namespace Go.Proofs.YtkklhhdkokncnaaDoor
open Go Go.RowKit

theorem treErr_conf {c : Cfg} {f : Frm} (h : partOk c = false) : treErr c f = 40 := by simp [treErr, h]
theorem treErr_obj {c : Cfg} {f : Frm} (h : (c.object == 2) = false) : treErr c f = 40 := by simp [treErr, h]
theorem treErr_arg {c : Cfg} {f : Frm} (h : partOk c = true) (h1 : (c.object == 2) = true) (h2 : treMay c f = false) : treErr c f = 2 := by simp [treErr, h, h1, h2]
theorem treErr_yes {c : Cfg} {f : Frm} (h : partOk c = true) (h1 : (c.object == 2) = true) (h2 : treMay c f = true) : treErr c f = 0 := by simp [treErr, h, h1, h2]
theorem treErr_ok {c : Cfg} {f : Frm} (h : treErr c f = 0) : partOk c = true ∧ c.object = 2 ∧ treMay c f = true := by
  unfold treErr at h
  split at h
  · rename_i h1
    simp at h1
    split at h
    · rename_i h2
      exact ⟨h1.1, h1.2, h2⟩
    · cases h
  · cases h
theorem treMay_facts {c : Cfg} {f : Frm} (h : treMay c f = true) : opErr c (treOp f) = 0 ∧ treHas f = true ∧ treNum c f = true ∧ 0 ≤ (treStep c f).at' := by
  simp only [treMay, Bool.and_eq_true, beq_iff_eq, decide_eq_true_eq] at h
  exact ⟨h.1.1.1, h.1.1.2, h.1.2, h.2⟩
end Go.Proofs.YtkklhhdkokncnaaDoor
