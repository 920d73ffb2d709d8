/- Plain: slices of structs as flat cells in a world; no program in sight. -/
import Derived.Test.YtkklhhdkokncnaaDoorA0
import Derived.Deep.AppendSrc
import Derived.Laws.AppendOwn
import Derived.Maps.AppendAt
import Derived.Laws.AppendOwnNone
namespace Go.Proofs.YtkklhhdkokncnaaDoor
open Go Go.RowKit
set_option maxRecDepth 100000
set_option maxHeartbeats 8000000

def Cel.cells (x : Cel) : List Value := [.int .u64 x.tag, .int .u64 x.a, .int .u64 x.b, .int .u64 x.c]
def celCells (L : List Cel) : List Value := L.flatMap Cel.cells

theorem flat4_len {α : Type} (f : α → List Value) (h : ∀ x, (f x).length = 4) (L : List α) : (L.flatMap f).length = L.length * 4 := by
  induction L with
  | nil => rfl
  | cons x L ih => simp [List.flatMap_cons, h, ih]; omega
theorem celCells_len (L : List Cel) : (celCells L).length = L.length * 4 := flat4_len _ (fun _ => rfl) L
theorem celCells_cons (x : Cel) (L : List Cel) : celCells (x :: L) = .int .u64 x.tag :: .int .u64 x.a :: .int .u64 x.b :: .int .u64 x.c :: celCells L := rfl
theorem celCells_at (L : List Cel) (i : Nat) (h : i < L.length) :
    (celCells L)[i * 4]? = some (.int .u64 L[i].tag) ∧ (celCells L)[i * 4 + 1]? = some (.int .u64 L[i].a) ∧ (celCells L)[i * 4 + 2]? = some (.int .u64 L[i].b) ∧ (celCells L)[i * 4 + 3]? = some (.int .u64 L[i].c) := by
  induction L generalizing i with
  | nil => simp at h
  | cons x L ih =>
    rw [celCells_cons]
    cases i with
    | zero => exact ⟨rfl, rfl, rfl, rfl⟩
    | succ i =>
      have e : (i + 1) * 4 = i * 4 + 4 := by omega
      have := ih i (by simpa using h)
      simp only [e, List.getElem_cons_succ]
      exact this

/-- A slice's address with n elements, their flat cells lying in a world. -/
def SlAt (w : World) (ad : Option Addr) (n cap : Nat) (cs : List Value) : Prop :=
  n ≤ cap ∧ cap ≤ maxLen ∧ ((n = 0 ∧ cs = []) ∨ ∃ b o, ad = some ⟨b, o, none⟩ ∧ ∀ (j : Nat) (u : Value), cs[j]? = some u → w.cell? ⟨b, o + j, none⟩ = some u)
/-- A slice value with n elements, its flat cells lying in a world. -/
def Sl (w : World) (v : Value) (n : Nat) (cs : List Value) : Prop := ∃ ad cap, v = .slice ad n cap ∧ SlAt w ad n cap cs

theorem SlAt.ext {w w' : World} {ad : Option Addr} {n cap : Nat} {cs : List Value} (h : SlAt w ad n cap cs) (e : Ext w w') : SlAt w' ad n cap cs := by
  obtain ⟨h1, h2, h3⟩ := h
  refine ⟨h1, h2, ?_⟩
  rcases h3 with h | ⟨b, o, h3, h4⟩
  · exact Or.inl h
  · exact Or.inr ⟨b, o, h3, fun j u hu => by
      have hc := h4 j u hu
      rw [e.cell.1 b (o + j) (World.block_lt_of_cell? (w := w) (a := ⟨b, o + j, none⟩) hc)]
      exact hc⟩
theorem Sl.ext {w w' : World} {v : Value} {n : Nat} {cs : List Value} (h : Sl w v n cs) (e : Ext w w') : Sl w' v n cs := by
  obtain ⟨ad, cap, h1, h2⟩ := h
  exact ⟨ad, cap, h1, h2.ext e⟩
theorem Sl.nil (w : World) : Sl w (.slice none 0 0) 0 [] := ⟨none, 0, rfl, Nat.le_refl _, by decide, Or.inl ⟨rfl, rfl⟩⟩
theorem SlAt.pos {w : World} {ad : Option Addr} {n cap : Nat} {cs : List Value} (h : SlAt w ad n cap cs) (hn : 0 < n) :
    ∃ b o, ad = some ⟨b, o, none⟩ ∧ ∀ (j : Nat) (u : Value), cs[j]? = some u → w.cell? ⟨b, o + j, none⟩ = some u := by
  obtain ⟨h1, h2, h3⟩ := h
  rcases h3 with ⟨h, _⟩ | h3
  · omega
  · exact h3
/-- The cells of an element. -/
theorem SlAt.cel {w : World} {ad : Option Addr} {cap : Nat} {L : List Cel} (h : SlAt w ad L.length cap (celCells L)) {i : Int} (h0 : 0 ≤ i) (h1 : i < L.length) :
    ∃ b o, ad = some ⟨b, o, none⟩ ∧ w.cell? ⟨b, o + i.toNat * 4, none⟩ = some (.int .u64 (L.getD i.toNat ⟨0, 0, 0, 0⟩).tag) ∧ w.cell? ⟨b, o + i.toNat * 4 + 1, none⟩ = some (.int .u64 (L.getD i.toNat ⟨0, 0, 0, 0⟩).a) ∧
      w.cell? ⟨b, o + i.toNat * 4 + 2, none⟩ = some (.int .u64 (L.getD i.toNat ⟨0, 0, 0, 0⟩).b) ∧ w.cell? ⟨b, o + i.toNat * 4 + 3, none⟩ = some (.int .u64 (L.getD i.toNat ⟨0, 0, 0, 0⟩).c) := by
  have hi : i.toNat < L.length := by omega
  obtain ⟨b, o, e, hc⟩ := h.pos (by omega)
  obtain ⟨c0, c1, c2, c3⟩ := celCells_at L i.toNat hi
  have e1 : L.getD i.toNat ⟨0, 0, 0, 0⟩ = L[i.toNat] := by simp [hi]
  rw [e1]
  exact ⟨b, o, e, hc _ _ c0, hc _ _ c1, hc _ _ c2, hc _ _ c3⟩
/-- A cell's four words lie there. -/
def CelAt (w : World) (b o : Nat) (x : Cel) : Prop :=
  w.cell? ⟨b, o, none⟩ = some (.int .u64 x.tag) ∧ w.cell? ⟨b, o + 1, none⟩ = some (.int .u64 x.a) ∧ w.cell? ⟨b, o + 2, none⟩ = some (.int .u64 x.b) ∧ w.cell? ⟨b, o + 3, none⟩ = some (.int .u64 x.c)
theorem CelAt.holds {w : World} {b o : Nat} {x : Cel} (h : CelAt w b o x) : Holds w [(b, o, .int .u64 x.tag), (b, o + 1, .int .u64 x.a), (b, o + 2, .int .u64 x.b), (b, o + 3, .int .u64 x.c)] := h
theorem CelAt.ext {w w' : World} {b o : Nat} {x : Cel} (h : CelAt w b o x) (e : Ext w w') : CelAt w' b o x :=
  ⟨ext_cell e h.1, ext_cell e h.2.1, ext_cell e h.2.2.1, ext_cell e h.2.2.2⟩
/-- As 'SlAt', of a slice that lies in no block from lo to hi. -/
def SlIn (lo hi : Nat) (w : World) (ad : Option Addr) (n cap : Nat) (cs : List Value) : Prop :=
  n ≤ cap ∧ cap ≤ maxLen ∧ ((n = 0 ∧ cs = []) ∨ ∃ b o, ad = some ⟨b, o, none⟩ ∧ ∀ (j : Nat) (u : Value), cs[j]? = some u → (b < lo ∨ hi ≤ b) ∧ w.cell? ⟨b, o + j, none⟩ = some u)
theorem SlIn.at {lo hi : Nat} {w : World} {ad : Option Addr} {n cap : Nat} {cs : List Value} (h : SlIn lo hi w ad n cap cs) : SlAt w ad n cap cs := by
  obtain ⟨h1, h2, h3⟩ := h
  refine ⟨h1, h2, ?_⟩
  rcases h3 with h | ⟨b, o, h3, h4⟩
  · exact Or.inl h
  · exact Or.inr ⟨b, o, h3, fun j u hu => (h4 j u hu).2⟩
theorem SlIn.mid {lo hi : Nat} {w w' : World} {ad : Option Addr} {n cap : Nat} {cs : List Value} (h : SlIn lo hi w ad n cap cs) (e : Mid lo hi w w') : SlIn lo hi w' ad n cap cs := by
  obtain ⟨h1, h2, h3⟩ := h
  refine ⟨h1, h2, ?_⟩
  rcases h3 with h | ⟨b, o, h3, h4⟩
  · exact Or.inl h
  · exact Or.inr ⟨b, o, h3, fun j u hu => ⟨(h4 j u hu).1, e _ _ _ (h4 j u hu).1 (h4 j u hu).2⟩⟩
theorem SlAt.inn {w w' : World} {lo hi : Nat} {ad : Option Addr} {n cap : Nat} {cs : List Value} (h : SlAt w ad n cap cs) (hl : w.heap.size ≤ lo) (e : Ext w w') : SlIn lo hi w' ad n cap cs := by
  obtain ⟨h1, h2, h3⟩ := h
  refine ⟨h1, h2, ?_⟩
  rcases h3 with h | ⟨b, o, h3, h4⟩
  · exact Or.inl h
  · refine Or.inr ⟨b, o, h3, fun j u hu => ⟨Or.inl ?_, ext_cell e (h4 j u hu)⟩⟩
    have := World.block_lt_of_cell? w _ (h4 j u hu)
    dsimp only at this
    omega
theorem SlIn.cel {lo hi : Nat} {w : World} {ad : Option Addr} {cap : Nat} {L : List Cel} (h : SlIn lo hi w ad L.length cap (celCells L)) {i : Int} (h0 : 0 ≤ i) (h1 : i < L.length) :
    ∃ b o, ad = some ⟨b, o, none⟩ ∧ (b < lo ∨ hi ≤ b) ∧ CelAt w b (o + i.toNat * 4) (L.getD i.toNat ⟨0, 0, 0, 0⟩) := by
  obtain ⟨b, o, e, hc⟩ := h.at.cel h0 h1
  refine ⟨b, o, e, ?_, hc⟩
  obtain ⟨_, _, h3⟩ := h
  rcases h3 with ⟨h3, _⟩ | ⟨b', o', h3, h4⟩
  · omega
  · rw [h3] at e
    cases e
    exact (h4 _ _ (celCells_at L i.toNat (by omega)).1).1
theorem CelAt.mid {lo hi : Nat} {w w' : World} {b o : Nat} {x : Cel} (h : CelAt w b o x) (hb : b < lo ∨ hi ≤ b) (e : Mid lo hi w w') : CelAt w' b o x :=
  ⟨e _ _ _ hb h.1, e _ _ _ hb h.2.1, e _ _ _ hb h.2.2.1, e _ _ _ hb h.2.2.2⟩

theorem celCells_set (L : List Cel) (i : Nat) (x : Cel) :
    celCells (L.set i x) = ((((celCells L).set (i * 4) (.int .u64 x.tag)).set (i * 4 + 1) (.int .u64 x.a)).set (i * 4 + 2) (.int .u64 x.b)).set (i * 4 + 3) (.int .u64 x.c) := by
  induction L generalizing i with
  | nil => simp [celCells]
  | cons y L ih =>
    cases i with
    | zero => rfl
    | succ i =>
      have e : (i + 1) * 4 = i * 4 + 4 := by omega
      rw [List.set_cons_succ, celCells_cons, ih, celCells_cons, e]
      rfl
theorem set_in {C : Array Value} {cs : List Value} (h : ∀ (j : Nat) (u : Value), cs[j]? = some u → C[j]? = some u) (k : Nat) (v : Value) : ∀ (j : Nat) (u : Value), (cs.set k v)[j]? = some u → (C.setIfInBounds k v)[j]? = some u := by
  intro j u hu
  rw [List.getElem?_set] at hu
  rw [Array.getElem?_setIfInBounds]
  split at hu
  · rename_i e
    subst e
    split at hu
    · rename_i hk
      have h1 := h k _ (List.getElem?_eq_getElem hk)
      have h2 : k < C.size := (Array.getElem?_eq_some_iff.1 h1).1
      simp [h2]
      simpa using hu
    · cases hu
  · rename_i e
    rw [if_neg e]
    exact h j u hu
theorem cel_set_in {C : Array Value} {L : List Cel} (h : ∀ (j : Nat) (u : Value), (celCells L)[j]? = some u → C[j]? = some u) (i : Nat) (x : Cel) : ∀ (j : Nat) (u : Value), (celCells (L.set i x))[j]? = some u →
    ((((C.setIfInBounds (i * 4) (.int .u64 x.tag)).setIfInBounds (i * 4 + 1) (.int .u64 x.a)).setIfInBounds (i * 4 + 2) (.int .u64 x.b)).setIfInBounds (i * 4 + 3) (.int .u64 x.c))[j]? = some u := by
  rw [celCells_set]
  exact set_in (set_in (set_in (set_in h _ _) _ _) _ _) _ _
theorem cel_in {C : Array Value} {L : List Cel} (h : ∀ (j : Nat) (u : Value), (celCells L)[j]? = some u → C[j]? = some u) {i : Int} (h0 : 0 ≤ i) (h1 : i < L.length) :
    ∃ u0 u1 u2 u3, C[i.toNat * 4]? = some u0 ∧ C[i.toNat * 4 + 1]? = some u1 ∧ C[i.toNat * 4 + 2]? = some u2 ∧ C[i.toNat * 4 + 3]? = some u3 ∧ i.toNat * 4 + 3 < C.size := by
  obtain ⟨c0, c1, c2, c3⟩ := celCells_at L i.toNat (by omega)
  have e := h _ _ c3
  exact ⟨_, _, _, _, h _ _ c0, h _ _ c1, h _ _ c2, e, (Array.getElem?_eq_some_iff.1 e).1⟩
theorem celCells_one (L : List Cel) : ∀ u ∈ celCells L, u.oneCell' = true := by
  intro u hu
  obtain ⟨x, _, hx⟩ := List.mem_flatMap.1 hu
  simp [Cel.cells] at hx
  rcases hx with rfl | rfl | rfl | rfl <;> rfl

/-- 'append([]T{}, l...)' of a slice that has elements: a new block. -/
theorem wpList_append_copy {P : Program} {w : World} {ops : Array Oper} {rest : List Oper} {o : Oper} {a : Act} {Q : Exit → Act → World → Prop} (hgd : o.guard = none) (s x : Operand) (t : TypeId)
    (ho : o.op = .call { callee := .builtin .append, args := #[s, x], argTypes := #[t, t] })
    (e : TypeId) (i : TypeInfo) (z : Value) (size bytes : Nat) (ht : P.underlying t = some (.slice e)) (hi : P.info? e = some i) (hz : i.zero = some z) (hsize : i.size = size) (hby : i.bytes = bytes)
    (ad0 : Option Addr) (hs : a.eval s = .slice ad0 0 0) (b off : Nat) (n cap : Nat) (cs : List Value) (hx : a.eval x = .slice (some ⟨b, off, none⟩) n cap) (hl : cs.length = n * size)
    (hc : ∀ (j : Nat) (u : Value), cs[j]? = some u → w.cell? ⟨b, off + j, none⟩ = some u) (h1 : ∀ u ∈ cs, u.oneCell' = true) (hn : 0 < n) (h63 : n ≤ maxLen) (hbytes : n * bytes ≤ 140737488355328)
    (h : ∀ (C : Array Value) (cap' : Nat), (∀ (j : Nat) (u : Value), cs[j]? = some u → C[j]? = some u) → n ≤ cap' → cap' ≤ maxLen →
      wpList P ops Q rest (a.put o.dst (.slice (some ⟨w.heap.size, 0, none⟩) n cap')) (w.drew.alloc (.cells C e))) : wpList P ops Q (o :: rest) a w := by
  refine wpList_plain hgd fun K hK => ?_
  have hsmall : n ≤ 9223372036854775807 := by simp only [maxLen] at h63; omega
  have hold : (Builtin.firstCells i.size 0 (.slice ad0 0 0)).run P w.drew = .ok ([] : List Value).toArray w.drew := by
    cases ad0 with
    | none => exact run_firstCells_none w.drew _ 0 0 0
    | some a0 => exact run_firstCells_some w.drew i.size 0 a0 0 0 [] (by simp) (fun j u hu => by simp at hu)
  have hr := run_append_grow_src (P := P) w t t o.type e i z ht hi hz ad0 0 0 [] hold (.slice (some ⟨b, off, none⟩) n cap) n cs (Src.ofSlice w ht ⟨b, off, none⟩ n cap cs (by rw [hsize]; exact hl) (fun j u hu => by rw [Addr.add_lit]; exact hc j u hu) h1) (by omega) (by omega)
    (growslice_fits (by omega) (by rw [hby]; simpa using hbytes))
  unfold Oper.wp execOp
  simp only [ho, resolve, invoke, builtin, Sem.run_bind, Sem.run_pure, Result.andThen_ok, List.map_toArray, List.map_cons, List.map_nil, hs, hx, hr]
  have hge := grownCap_ge w (0 + n) 0 e
  refine hK _ _ ?_
  simp only [Nat.zero_add] at hge ⊢
  refine h _ _ (fun j u hu => ?_) hge (grownCap_le_maxLen w n 0 e h63)
  have hj := (List.getElem?_eq_some_iff.1 hu).1
  rw [Array.getElem?_append_left (by simpa using hj)]
  simpa using hu

theorem celCells_u64 (L : List Cel) : ∀ u ∈ celCells L, ∃ x, u = .int .u64 x := by
  intro u hu
  obtain ⟨x, _, hx⟩ := List.mem_flatMap.1 hu
  simp [Cel.cells] at hx
  rcases hx with rfl | rfl | rfl | rfl <;> exact ⟨_, rfl⟩
theorem SlAt.keepU {w w' w'' : World} {ad : Option Addr} {n cap : Nat} {cs : List Value} (h : SlAt w ad n cap cs) (hu : ∀ u ∈ cs, ∃ x, u = .int .u64 x) (e : KeepU w w') (e2 : Ext w' w'') : SlAt w'' ad n cap cs := by
  obtain ⟨h1, h2, h3⟩ := h
  refine ⟨h1, h2, ?_⟩
  rcases h3 with h | ⟨b, o, h3, h4⟩
  · exact Or.inl h
  · refine Or.inr ⟨b, o, h3, fun j u hj => ext_cell e2 ?_⟩
    obtain ⟨x, rfl⟩ := hu u (List.mem_of_getElem? hj)
    exact e.2 _ _ _ (h4 _ _ hj)
theorem SlAt.cel0 {w : World} {ad : Option Addr} {n cap : Nat} {L : List Cel} (h : SlAt w ad n cap (celCells L)) {i : Int} (h0 : 0 ≤ i) (h1 : i < L.length) :
    ∃ b o, ad = some ⟨b, o, none⟩ ∧ b < w.heap.size ∧ CelAt w b (o + i.toNat * 4) (L.getD i.toNat ⟨0, 0, 0, 0⟩) := by
  have hi : i.toNat < L.length := by omega
  obtain ⟨c0, c1, c2, c3⟩ := celCells_at L i.toNat hi
  obtain ⟨_, _, h3⟩ := h
  rcases h3 with ⟨_, h⟩ | ⟨b, o, e, hc⟩
  · rw [h] at c0; simp at c0
  · have e1 : L.getD i.toNat ⟨0, 0, 0, 0⟩ = L[i.toNat] := by simp [hi]
    rw [e1]
    exact ⟨b, o, e, World.block_lt_of_cell? w _ (hc _ _ c0), hc _ _ c0, hc _ _ c1, hc _ _ c2, hc _ _ c3⟩
def CelsFit (L : List Cel) : Prop := ∀ x ∈ L, x.Fits
theorem CelsFit.get {L : List Cel} (h : CelsFit L) (i : Nat) : (L.getD i ⟨0, 0, 0, 0⟩).Fits := by
  by_cases hi : i < L.length
  · rw [List.getD_eq_getElem?_getD, List.getElem?_eq_getElem hi]
    exact h _ (List.getElem_mem hi)
  · rw [List.getD_eq_getElem?_getD, List.getElem?_eq_none (by omega)]
    exact ⟨by decide, by decide, by decide, by decide⟩
theorem CelsFit.set {L : List Cel} (h : CelsFit L) (i : Nat) {x : Cel} (hx : x.Fits) : CelsFit (L.set i x) := fun y hy => by
  rcases List.mem_or_eq_of_mem_set hy with hy | rfl
  · exact h y hy
  · exact hx
end Go.Proofs.YtkklhhdkokncnaaDoor
/- Small laws on a slice that the call has made itself, beside slices in other blocks; no program in sight. -/
namespace Go.Proofs.YtkklhhdkokncnaaDoor
open Go Go.RowKit
set_option maxRecDepth 100000
set_option maxHeartbeats 8000000

/-- As 'SlAt', of a slice whose block has a property. -/
def SlNo (S : Nat → Prop) (w : World) (ad : Option Addr) (n cap : Nat) (cs : List Value) : Prop :=
  n ≤ cap ∧ cap ≤ maxLen ∧ ((n = 0 ∧ cs = []) ∨ ∃ b o, ad = some ⟨b, o, none⟩ ∧ ∀ (j : Nat) (u : Value), cs[j]? = some u → S b ∧ w.cell? ⟨b, o + j, none⟩ = some u)
theorem SlNo.at {S : Nat → Prop} {w : World} {ad : Option Addr} {n cap : Nat} {cs : List Value} (h : SlNo S w ad n cap cs) : SlAt w ad n cap cs := by
  obtain ⟨h1, h2, h3⟩ := h
  refine ⟨h1, h2, ?_⟩
  rcases h3 with h | ⟨b, o, h3, h4⟩
  · exact Or.inl h
  · exact Or.inr ⟨b, o, h3, fun j u hu => (h4 j u hu).2⟩
theorem SlAt.no {S : Nat → Prop} {w w' : World} {ad : Option Addr} {n cap : Nat} {cs : List Value} (h : SlAt w ad n cap cs)
    (k : ∀ b i v, w.cell? ⟨b, i, none⟩ = some v → S b ∧ w'.cell? ⟨b, i, none⟩ = some v) : SlNo S w' ad n cap cs := by
  obtain ⟨h1, h2, h3⟩ := h
  refine ⟨h1, h2, ?_⟩
  rcases h3 with h | ⟨b, o, h3, h4⟩
  · exact Or.inl h
  · exact Or.inr ⟨b, o, h3, fun j u hu => k _ _ _ (h4 j u hu)⟩
theorem SlNo.to {S S' : Nat → Prop} {w w' : World} {ad : Option Addr} {n cap : Nat} {cs : List Value} (h : SlNo S w ad n cap cs)
    (k : ∀ b i v, S b → w.cell? ⟨b, i, none⟩ = some v → S' b ∧ w'.cell? ⟨b, i, none⟩ = some v) : SlNo S' w' ad n cap cs := by
  obtain ⟨h1, h2, h3⟩ := h
  refine ⟨h1, h2, ?_⟩
  rcases h3 with h | ⟨b, o, h3, h4⟩
  · exact Or.inl h
  · exact Or.inr ⟨b, o, h3, fun j u hu => k _ _ _ (h4 j u hu).1 (h4 j u hu).2⟩
theorem SlNo.ext {S : Nat → Prop} {w w' : World} {ad : Option Addr} {n cap : Nat} {cs : List Value} (h : SlNo S w ad n cap cs) (e : Ext w w') : SlNo S w' ad n cap cs :=
  h.to fun _ _ _ hs hc => ⟨hs, ext_cell e hc⟩
theorem SlNo.cel {S : Nat → Prop} {w : World} {ad : Option Addr} {cap : Nat} {L : List Cel} (h : SlNo S w ad L.length cap (celCells L)) {i : Int} (h0 : 0 ≤ i) (h1 : i < L.length) :
    ∃ b o, ad = some ⟨b, o, none⟩ ∧ S b ∧ CelAt w b (o + i.toNat * 4) (L.getD i.toNat ⟨0, 0, 0, 0⟩) := by
  obtain ⟨b, o, e, hc⟩ := h.at.cel h0 h1
  refine ⟨b, o, e, ?_, hc⟩
  obtain ⟨_, _, h3⟩ := h
  rcases h3 with ⟨h3, _⟩ | ⟨b', o', h3, h4⟩
  · omega
  · rw [h3] at e
    cases e
    exact (h4 _ _ (celCells_at L i.toNat (by omega)).1).1

theorem own_nil (w : World) (base : Nat) (e : TypeId) (size : Nat) : w.ownsRow base e size (.slice none 0 0) 0 [] := ⟨by simp, Or.inl ⟨rfl, rfl⟩⟩
/-- Where the row's block is as it was, the row is. -/
theorem own_of {w w' : World} {base : Nat} {e : TypeId} {size n : Nat} {v : Value} {xs : List Value} (h : w.ownsRow base e size v n xs)
    (k : ∀ g, base ≤ g → g < w.heap.size → w'.heap[g]? = w.heap[g]?) : w'.ownsRow base e size v n xs := by
  obtain ⟨h1, h2⟩ := h
  refine ⟨h1, ?_⟩
  rcases h2 with h | ⟨g, cap, cur, hv, hg, hc, hr⟩
  · exact Or.inl h
  · exact Or.inr ⟨g, cap, cur, hv, hg, (k g hg (Array.getElem?_eq_some_iff.1 hc).1).trans hc, hr⟩
theorem own_ext {w w' : World} {base : Nat} {e : TypeId} {size n : Nat} {v : Value} {xs : List Value} (h : w.ownsRow base e size v n xs) (x : Ext w w') : w'.ownsRow base e size v n xs :=
  own_of h fun _ _ hk => ext_heap x hk
theorem own_block {w : World} {base : Nat} {e : TypeId} {size n : Nat} {v : Value} {xs : List Value} (h : w.ownsRow base e size v n xs) {k : Nat} (hk : v.ownBlock = some k) : base ≤ k ∧ k < w.heap.size := by
  obtain ⟨_, h2⟩ := h
  rcases h2 with ⟨rfl, _⟩ | ⟨g, cap, cur, rfl, hg, hc, _⟩
  · cases hk
  · cases hk
    exact ⟨hg, (Array.getElem?_eq_some_iff.1 hc).1⟩
theorem own_form {w : World} {base : Nat} {e : TypeId} {size n : Nat} {v : Value} {xs : List Value} (h : w.ownsRow base e size v n xs) : ∃ ad cap, v = .slice ad n cap := by
  obtain ⟨_, h2⟩ := h
  rcases h2 with ⟨rfl, rfl⟩ | ⟨g, cap, cur, rfl, _⟩
  · exact ⟨_, _, rfl⟩
  · exact ⟨_, _, rfl⟩
theorem own_sl {w : World} {base : Nat} {e : TypeId} {n : Nat} {v : Value} {xs : List Value} (h : w.ownsRow base e 1 v n xs) : Sl w v n xs := by
  obtain ⟨h1, h2⟩ := h
  rcases h2 with ⟨rfl, rfl⟩ | ⟨g, cap, cur, rfl, hg, hc, hn, hcap, hs, ht⟩
  · obtain rfl : xs = [] := List.length_eq_zero_iff.1 (by simpa using h1)
    exact Sl.nil w
  · refine ⟨_, _, rfl, hn, hcap, Or.inr ⟨g, 0, rfl, fun j u hu => ?_⟩⟩
    have hj : j < xs.length := (List.getElem?_eq_some_iff.1 hu).1
    rw [← ht, List.getElem?_take] at hu
    split at hu
    · simp only [World.cell?, hc, Option.isSome_none, Bool.false_eq_true, if_false, Nat.zero_add]
      simpa using hu
    · cases hu
/-- A slice in no block below a number. -/
def SlB (lo : Nat) (w : World) (v : Value) (n : Nat) (cs : List Value) : Prop := ∃ ad cap, v = .slice ad n cap ∧ SlNo (fun b => lo ≤ b) w ad n cap cs
theorem SlB.sl {lo : Nat} {w : World} {v : Value} {n : Nat} {cs : List Value} (h : SlB lo w v n cs) : Sl w v n cs := by
  obtain ⟨ad, cap, e, h⟩ := h
  exact ⟨ad, cap, e, h.at⟩
theorem SlB.ext {lo : Nat} {w w' : World} {v : Value} {n : Nat} {cs : List Value} (h : SlB lo w v n cs) (e : Ext w w') : SlB lo w' v n cs := by
  obtain ⟨ad, cap, e1, h⟩ := h
  exact ⟨ad, cap, e1, h.ext e⟩
theorem own_slB {w : World} {base lo : Nat} {e : TypeId} {n : Nat} {v : Value} {xs : List Value} (h : w.ownsRow base e 1 v n xs) (hl : lo ≤ base) : SlB lo w v n xs := by
  obtain ⟨ad, cap, rfl, hs⟩ := own_sl h
  refine ⟨ad, cap, rfl, hs.1, hs.2.1, ?_⟩
  rcases hs.2.2 with h3 | ⟨b, o, rfl, h4⟩
  · exact Or.inl h3
  · refine Or.inr ⟨b, o, rfl, fun j u hu => ⟨?_, h4 j u hu⟩⟩
    have := (own_block h (k := b) rfl).1
    omega
/-- Where blocks below are changed, what lies beyond is as it was. -/
theorem SlB.turn {X X' : World} {os : Array Obj} {d d' : Nat} {v : Value} {n : Nat} {cs : List Value} (h : SlB X.heap.size (grew X os d) v n cs) (hs : X'.heap.size = X.heap.size) : SlB X.heap.size (grew X' os d') v n cs := by
  obtain ⟨ad, cap, e, h⟩ := h
  refine ⟨ad, cap, e, h.to fun b i u hb hc => ⟨hb, ?_⟩⟩
  rw [← hc]
  have hq : (grew X' os d').heap[b]? = (grew X os d).heap[b]? := by
    show (X'.heap ++ os)[b]? = (X.heap ++ os)[b]?
    rw [Array.getElem?_append_right (by omega), Array.getElem?_append_right hb, hs]
  simp only [World.cell?, hq]
/-- New blocks, and a store into a row beyond U's blocks: U's blocks are as they were. -/
theorem ext_grown {U w w' : World} {row : Option Nat} (h : Ext U w) (hg : w.grownBy w' row) (hr : ∀ k, row = some k → U.heap.size ≤ k) : Ext U w' :=
  Ext.of_below (Below.grown h.below hg h.size hr)
theorem heap_grew_ge {B B' : World} (hs : B'.heap.size = B.heap.size) (os : Array Obj) (d d' : Nat) {k : Nat} (hk : B.heap.size ≤ k) : (grew B' os d').heap[k]? = (grew B os d).heap[k]? := by
  show (B'.heap ++ os)[k]? = (B.heap ++ os)[k]?
  rw [Array.getElem?_append_right (by omega), Array.getElem?_append_right hk, hs]
end Go.Proofs.YtkklhhdkokncnaaDoor
/- Plain: rows in the order of their keys; no program in sight. -/
namespace Go.Proofs.YtkklhhdkokncnaaDoor
open Go Go.RowKit
set_option maxRecDepth 100000
set_option maxHeartbeats 8000000

structure Rw where
  k : Int
  v : Int
  deriving DecidableEq

abbrev Rw.val (x : Rw) : Value := .agg #[.int .u64 x.k, .int .u64 x.v]
def Rw.cells (x : Rw) : List Value := [.int .u64 x.k, .int .u64 x.v]
def rwCells (L : List Rw) : List Value := L.flatMap Rw.cells

structure Rw.Fits (x : Rw) : Prop where
  k : 0 ≤ x.k ∧ x.k ≤ 18446744073709551615
  v : 0 ≤ x.v ∧ x.v ≤ 18446744073709551615
def RwsFit (L : List Rw) : Prop := ∀ x ∈ L, x.Fits

theorem rwCells_nil : rwCells [] = [] := rfl
theorem rwCells_cons (x : Rw) (L : List Rw) : rwCells (x :: L) = .int .u64 x.k :: .int .u64 x.v :: rwCells L := rfl
theorem rwCells_len (L : List Rw) : (rwCells L).length = L.length * 2 := by
  induction L with
  | nil => rfl
  | cons x L ih => rw [rwCells_cons]; simp [ih]; omega
theorem rwCells_app (L M : List Rw) : rwCells (L ++ M) = rwCells L ++ rwCells M := by simp [rwCells]
theorem rwCells_at (L : List Rw) (i : Nat) (h : i < L.length) : (rwCells L)[i * 2]? = some (.int .u64 L[i].k) ∧ (rwCells L)[i * 2 + 1]? = some (.int .u64 L[i].v) := by
  induction L generalizing i with
  | nil => simp at h
  | cons x L ih =>
    rw [rwCells_cons]
    cases i with
    | zero => exact ⟨rfl, rfl⟩
    | succ i =>
      have e : (i + 1) * 2 = i * 2 + 2 := by omega
      have := ih i (by simpa using h)
      simp only [e, List.getElem_cons_succ]
      exact this
theorem rwCells_one (L : List Rw) : ∀ u ∈ rwCells L, u.oneCell' = true := by
  intro u hu
  obtain ⟨x, _, hx⟩ := List.mem_flatMap.1 hu
  simp [Rw.cells] at hx
  rcases hx with rfl | rfl <;> rfl

/-- Do the keys rise? -/
def Rises (L : List Rw) : Prop := L.Pairwise fun x y => x.k < y.k
def risesB : List Rw → Bool
  | [] => true
  | x :: l => (match l with | [] => true | y :: _ => decide (x.k < y.k)) && risesB l
theorem risesB_iff (L : List Rw) : risesB L = true ↔ Rises L := by
  unfold Rises
  induction L with
  | nil => simp [risesB]
  | cons x l ih =>
    cases l with
    | nil => simp [risesB]
    | cons y l =>
      simp only [risesB, Bool.and_eq_true, decide_eq_true_eq, List.pairwise_cons] at ih ⊢
      constructor
      · rintro ⟨h1, h2⟩
        have h3 := ih.1 h2
        refine ⟨fun z hz => ?_, h3⟩
        rcases List.mem_cons.1 hz with rfl | hz
        · exact h1
        · exact Int.lt_trans h1 (h3.1 z hz)
      · rintro ⟨h1, h2⟩
        exact ⟨h1 y (by simp), ih.2 h2⟩

/-- The value of a key. -/
def look (L : List Rw) (k : Int) : Option Int := (L.find? fun x => x.k == k).map (·.v)
theorem look_nil (k : Int) : look [] k = none := rfl
theorem look_cons (x : Rw) (L : List Rw) (k : Int) : look (x :: L) k = if x.k == k then some x.v else look L k := by
  unfold look
  rw [List.find?_cons]
  split <;> simp_all
theorem look_of_lt {L : List Rw} {k : Int} (h : ∀ x ∈ L, k < x.k) : look L k = none := by
  induction L with
  | nil => rfl
  | cons x L ih =>
    rw [look_cons]
    have h1 := h x (by simp)
    have h2 : (x.k == k) = false := by simp; omega
    rw [h2]
    exact ih fun y hy => h y (by simp [hy])

/-- Rows whose keys rise are told by what they say of each key. -/
theorem rows_ext {L M : List Rw} (hL : Rises L) (hM : Rises M) (h : ∀ k, look L k = look M k) : L = M := by
  induction L generalizing M with
  | nil =>
    cases M with
    | nil => rfl
    | cons y M => have := h y.k; simp [look_nil, look_cons] at this
  | cons x L ih =>
    cases M with
    | nil => have := h x.k; simp [look_nil, look_cons] at this
    | cons y M =>
      obtain ⟨hx, hL2⟩ := List.pairwise_cons.1 hL
      obtain ⟨hy, hM2⟩ := List.pairwise_cons.1 hM
      have hk : x.k = y.k := by
        rcases Int.lt_trichotomy x.k y.k with hlt | he | hgt
        · have h1 := h x.k
          have h2 : look (y :: M) x.k = none := look_of_lt fun z hz => by
            rcases List.mem_cons.1 hz with rfl | hz
            · exact hlt
            · exact Int.lt_trans hlt (hy z hz)
          rw [h2, look_cons] at h1
          simp at h1
        · exact he
        · have h1 := h y.k
          have h2 : look (x :: L) y.k = none := look_of_lt fun z hz => by
            rcases List.mem_cons.1 hz with rfl | hz
            · exact hgt
            · exact Int.lt_trans hgt (hx z hz)
          rw [h2, look_cons] at h1
          simp at h1
      have hv : x.v = y.v := by
        have h1 := h x.k
        rw [look_cons, look_cons] at h1
        simpa [hk] using h1
      have e : x = y := by cases x; cases y; simp_all
      subst e
      congr 1
      refine ih hL2 hM2 fun k => ?_
      by_cases hkk : x.k = k
      · subst hkk
        rw [look_of_lt hx, look_of_lt hy]
      · have h1 := h k
        have hf : (x.k == k) = false := by simpa using hkk
        rw [look_cons, look_cons, hf] at h1
        simpa using h1

/-- Rows in which that of a key has a value. -/
def withK (k v : Int) : List Rw → List Rw
  | [] => [⟨k, v⟩]
  | x :: l => if x.k < k then x :: withK k v l else if x.k = k then ⟨k, v⟩ :: l else ⟨k, v⟩ :: x :: l
/-- Rows without that of a key. -/
def withoutK (k : Int) (L : List Rw) : List Rw := L.filter fun x => !(x.k == k)

theorem withK_mem {k v : Int} {L : List Rw} {x : Rw} (h : x ∈ withK k v L) : x = ⟨k, v⟩ ∨ x ∈ L := by
  induction L with
  | nil => simpa [withK] using h
  | cons y l ih =>
    simp only [withK] at h
    split at h
    · rcases List.mem_cons.1 h with h | h
      · exact Or.inr (by simp [h])
      · rcases ih h with h | h
        · exact Or.inl h
        · exact Or.inr (by simp [h])
    · split at h
      · rcases List.mem_cons.1 h with h | h
        · exact Or.inl h
        · exact Or.inr (by simp [h])
      · rcases List.mem_cons.1 h with h | h
        · exact Or.inl h
        · exact Or.inr h
theorem rises_withK (k v : Int) {L : List Rw} (h : Rises L) : Rises (withK k v L) := by
  induction L with
  | nil => simp [withK, Rises]
  | cons x l ih =>
    obtain ⟨hx, hl⟩ := List.pairwise_cons.1 h
    simp only [withK]
    split
    · rename_i hlt
      refine List.pairwise_cons.2 ⟨fun y hy => ?_, ih hl⟩
      rcases withK_mem hy with rfl | hy
      · exact hlt
      · exact hx y hy
    · split
      · rename_i he
        exact List.pairwise_cons.2 ⟨fun y hy => by have := hx y hy; dsimp only; omega, hl⟩
      · rename_i h1 h2
        refine List.pairwise_cons.2 ⟨fun y hy => ?_, h⟩
        rcases List.mem_cons.1 hy with rfl | hy
        · dsimp only; omega
        · have := hx y hy; dsimp only; omega
theorem look_withK (k v : Int) {L : List Rw} (h : Rises L) (j : Int) : look (withK k v L) j = if k = j then some v else look L j := by
  induction L with
  | nil => simp [withK, look_cons, look_nil]
  | cons x l ih =>
    obtain ⟨hx, hl⟩ := List.pairwise_cons.1 h
    simp only [withK]
    split
    · rename_i hlt
      rw [look_cons, look_cons, ih hl]
      by_cases h1 : x.k = j
      · subst h1
        simp
        intro h2
        omega
      · have hf : (x.k == j) = false := by simpa using h1
        simp [hf]
    · split
      · rename_i he
        rw [look_cons, look_cons]
        subst he
        simp only [beq_iff_eq]
        split <;> rfl
      · rename_i h1 h2
        rw [look_cons]
        simp
theorem rises_withoutK (k : Int) {L : List Rw} (h : Rises L) : Rises (withoutK k L) := List.Pairwise.filter _ h
theorem look_withoutK (k : Int) (L : List Rw) (j : Int) : look (withoutK k L) j = if k = j then none else look L j := by
  induction L with
  | nil => simp [withoutK, look_nil]
  | cons x l ih =>
    unfold withoutK at ih ⊢
    rw [List.filter_cons]
    by_cases hk : x.k = k
    · have : (!(x.k == k)) = false := by simp [hk]
      rw [this, if_neg (by simp), ih, look_cons]
      by_cases h1 : k = j
      · simp [h1]
      · rw [if_neg h1, if_neg h1]
        have hf : (x.k == j) = false := by simp; omega
        simp [hf]
    · have : (!(x.k == k)) = true := by simp [hk]
      rw [this, if_pos rfl, look_cons, look_cons, ih]
      by_cases h1 : x.k = j
      · subst h1
        have : ¬ k = x.k := by omega
        simp [this]
      · have hf : (x.k == j) = false := by simpa using h1
        simp [hf]

theorem withoutK_sub (k : Int) (L : List Rw) : ∀ x ∈ withoutK k L, x ∈ L := fun _ hx => (List.mem_filter.1 hx).1
theorem withK_len (k v : Int) {L : List Rw} (h : look L k = none) : (withK k v L).length = L.length + 1 := by
  induction L with
  | nil => rfl
  | cons x l ih =>
    rw [look_cons] at h
    have hk : ¬ x.k = k := by
      intro e
      simp [e] at h
    have hf : (x.k == k) = false := by simpa using hk
    rw [hf] at h
    by_cases h1 : x.k < k
    · simp [withK, h1, ih (by simpa using h)]
    · simp [withK, h1, hk]
theorem withK_len_le (k v : Int) (L : List Rw) : L.length ≤ (withK k v L).length ∧ (withK k v L).length ≤ L.length + 1 := by
  induction L with
  | nil => simp [withK]
  | cons x l ih =>
    simp only [withK]
    split
    · simp; exact ih
    · split <;> simp
theorem withK_len_some (k v : Int) {L : List Rw} (hr : Rises L) {u : Int} (h : look L k = some u) : (withK k v L).length = L.length := by
  induction L with
  | nil => simp [look_nil] at h
  | cons x l ih =>
    obtain ⟨hx, hl⟩ := List.pairwise_cons.1 hr
    rw [look_cons] at h
    simp only [withK]
    split
    · rename_i hlt
      have hf : (x.k == k) = false := by simp; omega
      rw [hf] at h
      simp [ih hl (by simpa using h)]
    · split
      · simp
      · rename_i h1 h2
        have hf : (x.k == k) = false := by simp; omega
        rw [hf] at h
        have := look_of_lt (L := l) (k := k) fun y hy => by have := hx y hy; omega
        simp [this] at h
theorem fits_withK {k v : Int} {L : List Rw} (h : RwsFit L) (hk : 0 ≤ k ∧ k ≤ 18446744073709551615) (hv : 0 ≤ v ∧ v ≤ 18446744073709551615) : RwsFit (withK k v L) := fun x hx => by
  rcases withK_mem hx with rfl | hx
  · exact ⟨hk, hv⟩
  · exact h x hx
theorem fits_withoutK {k : Int} {L : List Rw} (h : RwsFit L) : RwsFit (withoutK k L) := fun x hx => h x (withoutK_sub k L x hx)

/-- Where a key's row stands; -1: there is none. -/
def findK (L : List Rw) (k : Int) : Int := match L.findIdx? (fun x => x.k == k) with | some i => (i : Int) | none => -1
theorem look_mem {L : List Rw} {k v : Int} (h : look L k = some v) : ⟨k, v⟩ ∈ L := by
  unfold look at h
  obtain ⟨x, hx, hv⟩ := Option.map_eq_some_iff.1 h
  have h1 := List.mem_of_find?_eq_some hx
  have h2 := List.find?_some hx
  have : x = ⟨k, v⟩ := by cases x; simp_all
  exact this ▸ h1
theorem look_none {L : List Rw} {k : Int} (h : look L k = none) : ∀ x ∈ L, ¬ x.k = k := by
  intro x hx e
  unfold look at h
  have := List.find?_eq_none.1 (Option.map_eq_none_iff.1 h) x hx
  simp [e] at this
theorem look_of_mem {L : List Rw} (hr : Rises L) {x : Rw} (h : x ∈ L) : look L x.k = some x.v := by
  induction L with
  | nil => simp at h
  | cons y l ih =>
    obtain ⟨hy, hl⟩ := List.pairwise_cons.1 hr
    rw [look_cons]
    rcases List.mem_cons.1 h with rfl | h
    · simp
    · have h1 := hy x h
      have hf : (y.k == x.k) = false := by simp; omega
      rw [hf]
      exact ih hl h
end Go.Proofs.YtkklhhdkokncnaaDoor
/- Plain: slices of rows as flat cells in a world; no program in sight. -/
namespace Go.Proofs.YtkklhhdkokncnaaDoor
open Go Go.RowKit
set_option maxRecDepth 100000
set_option maxHeartbeats 8000000

abbrev zrw : Rw := ⟨0, 0⟩
/-- A row's two words lie there. -/
def RwAt (w : World) (b o : Nat) (x : Rw) : Prop := w.cell? ⟨b, o, none⟩ = some (.int .u64 x.k) ∧ w.cell? ⟨b, o + 1, none⟩ = some (.int .u64 x.v)
theorem RwAt.ext {w w' : World} {b o : Nat} {x : Rw} (h : RwAt w b o x) (e : Ext w w') : RwAt w' b o x := ⟨ext_cell e h.1, ext_cell e h.2⟩
theorem getD_rw (L : List Rw) (i : Nat) (h : i < L.length) : L.getD i zrw = L[i] := by simp [h]
/-- The cells of a row of a slice. -/
theorem SlAt.rw {w : World} {ad : Option Addr} {n cap : Nat} {L : List Rw} (h : SlAt w ad n cap (rwCells L)) {i : Nat} (h1 : i < L.length) :
    ∃ b o, ad = some ⟨b, o, none⟩ ∧ b < w.heap.size ∧ RwAt w b (o + i * 2) (L.getD i zrw) := by
  obtain ⟨c0, c1⟩ := rwCells_at L i h1
  obtain ⟨_, _, h3⟩ := h
  rw [getD_rw L i h1]
  rcases h3 with ⟨_, h⟩ | ⟨b, o, e, hc⟩
  · rw [h] at c0; simp at c0
  · exact ⟨b, o, e, World.block_lt_of_cell? w _ (hc _ _ c0), hc _ _ c0, hc _ _ c1⟩
theorem SlAt.len {w : World} {ad : Option Addr} {n cap : Nat} {cs : List Value} (h : SlAt w ad n cap cs) : n ≤ 9223372036854775807 := by
  have h1 := h.1; have h2 := h.2.1; unfold maxLen at h2; omega
theorem RwsFit.get {L : List Rw} (h : RwsFit L) (i : Nat) : (L.getD i zrw).Fits := by
  by_cases hi : i < L.length
  · rw [getD_rw L i hi]; exact h _ (List.getElem_mem hi)
  · rw [List.getD_eq_getElem?_getD, List.getElem?_eq_none (by omega)]
    exact ⟨by decide, by decide⟩
/-- A row that the call has made itself, of two cells an element: what a reader sees. -/
theorem own_sl2 {w : World} {base : Nat} {e : TypeId} {n : Nat} {v : Value} {L : List Rw} (hn : L.length = n) (h : w.ownsRow base e 2 v n (rwCells L)) : ∃ ad cap, v = .slice ad n cap ∧ SlNo (fun b => base ≤ b) w ad n cap (rwCells L) := by
  obtain ⟨h1, h2⟩ := h
  rcases h2 with ⟨rfl, rfl⟩ | ⟨g, cap, cur, rfl, hg, hc, hn', hcap, hs, ht⟩
  · obtain rfl : L = [] := List.length_eq_zero_iff.1 hn
    exact ⟨_, _, rfl, Nat.le_refl _, by decide, Or.inl ⟨rfl, rfl⟩⟩
  · refine ⟨_, _, rfl, hn', hcap, Or.inr ⟨g, 0, rfl, fun j u hu => ⟨hg, ?_⟩⟩⟩
    have hj : j < (rwCells L).length := (List.getElem?_eq_some_iff.1 hu).1
    rw [← ht, List.getElem?_take] at hu
    split at hu
    · simp only [World.cell?, hc, Option.isSome_none, Bool.false_eq_true, if_false, Nat.zero_add]
      simpa using hu
    · cases hu
theorem own_slB2 {w : World} {base lo : Nat} {e : TypeId} {n : Nat} {v : Value} {L : List Rw} (hn : L.length = n) (h : w.ownsRow base e 2 v n (rwCells L)) (hl : lo ≤ base) : SlB lo w v n (rwCells L) := by
  obtain ⟨ad, cap, rfl, hs⟩ := own_sl2 hn h
  exact ⟨ad, cap, rfl, hs.to fun b _ _ hb hc => ⟨by omega, hc⟩⟩
theorem SlB.nil (lo : Nat) (w : World) : SlB lo w (.slice none 0 0) 0 [] := ⟨none, 0, rfl, Nat.le_refl _, by decide, Or.inl ⟨rfl, rfl⟩⟩
theorem SlB.mono {lo lo' : Nat} {w : World} {v : Value} {n : Nat} {cs : List Value} (h : SlB lo w v n cs) (hl : lo' ≤ lo) : SlB lo' w v n cs := by
  obtain ⟨ad, cap, rfl, hs⟩ := h
  exact ⟨ad, cap, rfl, hs.to fun b _ _ hb hc => ⟨by omega, hc⟩⟩
/-- A slice of rows that lies in a world. -/
def Rws (w : World) (v : Value) (L : List Rw) : Prop := ∃ ad cap, v = .slice ad L.length cap ∧ SlAt w ad L.length cap (rwCells L) ∧ (ad = none → cap = 0)
theorem Rws.sl {w : World} {v : Value} {L : List Rw} (h : Rws w v L) : Sl w v L.length (rwCells L) := by
  obtain ⟨ad, cap, e, h, _⟩ := h
  exact ⟨ad, cap, e, h⟩
theorem Rws.ext {w w' : World} {v : Value} {L : List Rw} (h : Rws w v L) (e : Ext w w') : Rws w' v L := by
  obtain ⟨ad, cap, e1, h, h2⟩ := h
  exact ⟨ad, cap, e1, h.ext e, h2⟩
theorem Rws.nil (w : World) : Rws w (.slice none 0 0) [] := ⟨none, 0, rfl, ⟨Nat.le_refl _, by decide, Or.inl ⟨rfl, rfl⟩⟩, fun _ => rfl⟩
theorem own_rws {w : World} {base : Nat} {e : TypeId} {v : Value} {L : List Rw} (h : w.ownsRow base e 2 v L.length (rwCells L)) : Rws w v L := by
  obtain ⟨ad, cap, rfl, hs⟩ := own_sl2 rfl h
  refine ⟨ad, cap, rfl, hs.at, fun h0 => ?_⟩
  subst h0
  rcases h.2 with ⟨h1, _⟩ | ⟨g, cap', cur, h1, _⟩
  · exact (Value.slice.inj h1).2.2
  · cases (Value.slice.inj h1).1
/-- 'append(s, l...)' of rows to rows of the call's own. -/
theorem wpList_append_rws {P : Program} {w : World} {ops : Array Oper} {rest : List Oper} {o : Oper} {a : Act} {Q : Exit → Act → World → Prop} (hgd : o.guard = none) (s x : Operand) (t : TypeId)
    (ho : o.op = .call { callee := .builtin .append, args := #[s, x], argTypes := #[t, t] })
    (base : Nat) (e : TypeId) (i : TypeInfo) (ht : P.underlying t = some (.slice e)) (hi : P.info? e = some i) (hz : i.zero = some (.agg #[.int .u64 0, .int .u64 0])) (hsize : i.size = 2) (hby : i.bytes = 16)
    (v : Value) (n : Nat) (xs : List Value) (hs : a.eval s = v) (hown : w.ownsRow base e 2 v n xs)
    (u : Value) (L : List Rw) (hu : Rws w u L) (hx : a.eval x = u) (hn : n + L.length ≤ 100000) (hbase : base ≤ w.heap.size)
    (h : ∀ v' w', w'.ownsRow base e 2 v' (n + L.length) (xs ++ rwCells L) → w.grownBy w' v.ownBlock → (v'.ownBlock = v.ownBlock ∨ v'.ownBlock = some w.heap.size) → wpList P ops Q rest (a.put o.dst v') w') : wpList P ops Q (o :: rest) a w := by
  obtain ⟨ad, cap, rfl, hL, hnil⟩ := hu
  cases ad with
  | none =>
    obtain rfl := hnil rfl
    obtain rfl : L = [] := by
      rcases hL.2.2 with ⟨h1, _⟩ | ⟨b, o, h1, _⟩
      · exact List.length_eq_zero_iff.1 h1
      · cases h1
    refine wpList_append_own_none hgd s x t ho base e i 2 ht hi v n xs hs hown hx ?_
    refine h v w (by simpa [rwCells] using hown) ?_ (Or.inl rfl)
    exact ⟨rfl, rfl, rfl, Nat.le_refl _, fun _ _ _ => rfl⟩
  | some ad =>
    refine wpList_append_own_at _ hgd s x t ho base e i _ 2 16 ht hi hz hsize hby rfl (by decide) v n xs hs hown ad L.length cap (rwCells L) hx (rwCells_len L) ?_ (rwCells_one L) (by unfold maxLen; omega) (by omega) hbase (fun v' w' h1 h2 _ h4 => h v' w' h1 h2 h4)
    intro j q hq
    rcases hL.2.2 with ⟨_, h1⟩ | ⟨b, o, h1, h2⟩
    · rw [h1] at hq; simp at hq
    · cases h1
      rw [Addr.add_lit]
      exact h2 j q hq
/-- Rows in which that of a key has a value, as the document's loop makes them. -/
def withF (q u : Int) : Bool → List Rw → List Rw
  | put, [] => if put then [] else [⟨q, u⟩]
  | put, x :: l => (if !put && decide (q ≤ x.k) then [⟨q, u⟩] else []) ++ ((if x.k == q then [] else [x]) ++ withF q u (put || decide (q ≤ x.k)) l)
theorem drop_cons (A : List Rw) (k : Nat) (h : k < A.length) : A.drop k = A.getD k zrw :: A.drop (k + 1) := by
  rw [getD_rw A k h]; exact List.drop_eq_getElem_cons h
theorem withoutK_cons (q : Int) (x : Rw) (l : List Rw) : withoutK q (x :: l) = (if x.k == q then [] else [x]) ++ withoutK q l := by
  unfold withoutK
  rw [List.filter_cons]
  cases h : (x.k == q) <;> simp
theorem withoutK_len (q : Int) (l : List Rw) : (withoutK q l).length ≤ l.length := List.length_filter_le _ _
theorem withF_true (q u : Int) (l : List Rw) : withF q u true l = withoutK q l := by
  induction l with
  | nil => rfl
  | cons x l ih => rw [withoutK_cons]; simp [withF, ih]
theorem withF_len (q u : Int) (p : Bool) (l : List Rw) : (withF q u p l).length ≤ l.length + 1 := by
  induction l generalizing p with
  | nil => cases p <;> simp [withF]
  | cons x l ih =>
    cases p
    · simp only [withF, Bool.not_false, Bool.true_and, Bool.false_or]
      by_cases h : q ≤ x.k
      · have h2 := withoutK_len q l
        simp only [h, decide_true, if_true, withF_true]
        cases (x.k == q) <;> simp <;> omega
      · have := ih false
        simp only [h, decide_false]
        cases (x.k == q) <;> simp <;> omega
    · rw [withF_true]
      have := withoutK_len q (x :: l)
      omega
theorem withF_eq (q u : Int) {l : List Rw} (h : Rises l) : withF q u false l = withK q u l := by
  induction l with
  | nil => rfl
  | cons x l ih =>
    obtain ⟨hx, hl⟩ := List.pairwise_cons.1 h
    simp only [withF, withK]
    by_cases h1 : x.k < q
    · have h2 : ¬ q ≤ x.k := by omega
      have h3 : (x.k == q) = false := by simp; omega
      simp [h1, h2, h3, ih hl]
    · have h2 : q ≤ x.k := by omega
      have h4 : withoutK q l = l := by
        unfold withoutK
        rw [List.filter_eq_self]
        intro y hy
        have := hx y hy
        simp; omega
      simp only [h1, h2, decide_true, Bool.not_false, Bool.true_and, Bool.false_or, if_true, if_false, withF_true, h4]
      by_cases h3 : x.k = q
      · simp [h3]
      · simp [h3]
theorem findK_hit {A : List Rw} {q : Int} {k : Nat} (h : k < A.length) (h1 : (A.getD k zrw).k = q) (h2 : ∀ j, j < k → ¬ (A.getD j zrw).k = q) : findK A q = k := by
  have : A.findIdx? (fun x => x.k == q) = some k := by
    rw [List.findIdx?_eq_some_iff_getElem]
    refine ⟨h, ?_, fun j hj => ?_⟩
    · rw [getD_rw A k h] at h1; simpa using h1
    · have := h2 j hj
      rw [getD_rw A j (by omega)] at this
      simpa using this
  unfold findK
  rw [this]
theorem findK_miss {A : List Rw} {q : Int} (h2 : ∀ j, j < A.length → ¬ (A.getD j zrw).k = q) : findK A q = -1 := by
  have : A.findIdx? (fun x => x.k == q) = none := by
    rw [List.findIdx?_eq_none_iff]
    intro x hx
    obtain ⟨j, hj, rfl⟩ := List.getElem_of_mem hx
    have := h2 j hj
    rw [getD_rw A j hj] at this
    simpa using this
  unfold findK
  rw [this]
theorem rises_at {A : List Rw} (h : Rises A) {i j : Nat} (h1 : i < j) (h2 : j < A.length) : (A.getD i zrw).k < (A.getD j zrw).k := by
  rw [getD_rw A i (by omega), getD_rw A j h2]
  exact List.pairwise_iff_getElem.1 h i j (by omega) h2 h1
theorem rises_of {A : List Rw} (h : ∀ i, i + 1 < A.length → (A.getD i zrw).k < (A.getD (i + 1) zrw).k) : Rises A := by
  rw [← risesB_iff]
  induction A with
  | nil => rfl
  | cons x l ih =>
    cases l with
    | nil => rfl
    | cons y l =>
      have h0 := h 0 (by simp)
      simp at h0
      have := ih fun i hi => by have := h (i + 1) (by simp at hi ⊢; omega); simpa using this
      simp only [risesB, Bool.and_eq_true, decide_eq_true_eq] at this ⊢
      exact ⟨h0, this⟩
theorem all_of {L : List Rw} {p : Rw → Bool} (h : ∀ j, j < L.length → p (L.getD j zrw) = true) : L.all p = true := by
  rw [List.all_eq_true]
  intro x hx
  obtain ⟨j, hj, rfl⟩ := List.getElem_of_mem hx
  have := h j hj
  rwa [getD_rw L j hj] at this
theorem all_not {L : List Rw} {p : Rw → Bool} {j : Nat} (hj : j < L.length) (h : p (L.getD j zrw) = false) : L.all p = false := by
  rw [← Bool.not_eq_true, List.all_eq_true]
  intro hh
  have := hh _ (List.getElem_mem hj)
  rw [getD_rw L j hj] at h
  rw [h] at this
  cases this
theorem look_findK {L : List Rw} {k : Int} (h : look L k = none) : findK L k = -1 := by
  refine findK_miss fun j hj => ?_
  rw [getD_rw L j hj]
  exact look_none h _ (List.getElem_mem hj)
theorem findK_look {L : List Rw} {k u : Int} (h : look L k = some u) : ∃ i : Nat, i < L.length ∧ findK L k = i ∧ L.getD i zrw = ⟨k, u⟩ := by
  induction L with
  | nil => simp [look_nil] at h
  | cons x l ih =>
    rw [look_cons] at h
    by_cases hx : x.k = k
    · simp [hx] at h
      refine ⟨0, by simp, ?_, ?_⟩
      · exact findK_hit (k := 0) (by simp) (by simpa using hx) (fun j hj => absurd hj (Nat.not_lt_zero _))
      · cases x; simp_all
    · have hf : (x.k == k) = false := by simpa using hx
      rw [hf] at h
      obtain ⟨i, h1, h2, h3⟩ := ih (by simpa using h)
      refine ⟨i + 1, by simpa using h1, ?_, by simpa using h3⟩
      refine findK_hit (by simpa using h1) (by rw [List.getD_cons_succ, h3]) fun j hj => ?_
      cases j with
      | zero => simpa using hx
      | succ j =>
        have : findK l k = i := h2
        intro e
        have hj' : j < i := by omega
        have e' : (l.getD j zrw).k = k := by simpa using e
        -- the first place is i
        have hmin : ∀ j, j < i → ¬ (l.getD j zrw).k = k := by
          intro j hj
          unfold findK at this
          split at this
          · rename_i i' hi'
            have hii : i' = i := by omega
            subst hii
            rw [List.findIdx?_eq_some_iff_getElem] at hi'
            obtain ⟨a, _, c⟩ := hi'
            have := c j hj
            rw [getD_rw l j (by omega)]
            simpa using this
          · omega
        exact hmin j hj' e'
end Go.Proofs.YtkklhhdkokncnaaDoor
/- Plain: where a key stands among rows whose keys rise; no program in sight. -/
namespace Go.Proofs.YtkklhhdkokncnaaDoor
open Go Go.RowKit
set_option maxRecDepth 100000
set_option maxHeartbeats 8000000

/-- Where the first row stands of which something holds; -1: there is none. -/
def findP (p : Rw → Bool) (L : List Rw) : Int := match L.findIdx? p with | some i => (i : Int) | none => -1
theorem findP_hit {p : Rw → Bool} {L : List Rw} {k : Nat} (h : k < L.length) (h1 : p (L.getD k zrw) = true) (h2 : ∀ j, j < k → p (L.getD j zrw) = false) : findP p L = k := by
  have : L.findIdx? p = some k := by
    rw [List.findIdx?_eq_some_iff_getElem]
    refine ⟨h, by rwa [getD_rw L k h] at h1, fun j hj => ?_⟩
    have := h2 j hj
    rw [getD_rw L j (by omega)] at this
    rw [this]; simp
  unfold findP
  rw [this]
theorem findP_miss {p : Rw → Bool} {L : List Rw} (h2 : ∀ j, j < L.length → p (L.getD j zrw) = false) : findP p L = -1 := by
  have : L.findIdx? p = none := by
    rw [List.findIdx?_eq_none_iff]
    intro x hx
    obtain ⟨j, hj, rfl⟩ := List.getElem_of_mem hx
    have := h2 j hj
    rwa [getD_rw L j hj] at this
  unfold findP
  rw [this]

theorem ofInt_nat (a : Nat) (ha : a < 4611686018427387904) : (BitVec.ofInt 64 (a : Int)).toNat = a := by
  rw [BitVec.ofInt_natCast, BitVec.toNat_ofNat]; exact Nat.mod_eq_of_lt (by omega)
theorem findP_pos {L : List Rw} (q : Int) (hr : Rises L) : ∃ i, i ≤ L.length ∧ (∀ j, j < i → (L.getD j zrw).k < q) ∧ (∀ j, i ≤ j → j < L.length → q ≤ (L.getD j zrw).k) ∧ findP (fun x => decide (q ≤ x.k)) L = if i < L.length then (i : Int) else -1 := by
  induction L with
  | nil => exact ⟨0, Nat.le_refl _, fun j hj => absurd hj (Nat.not_lt_zero _), fun j _ hj => absurd hj (Nat.not_lt_zero _), rfl⟩
  | cons x l ih =>
    obtain ⟨hx, hl⟩ := List.pairwise_cons.1 hr
    by_cases h : q ≤ x.k
    · refine ⟨0, Nat.zero_le _, fun j hj => absurd hj (Nat.not_lt_zero _), fun j _ hj => ?_, ?_⟩
      · cases j with
        | zero => simpa using h
        | succ j =>
          have hj' : j < l.length := by simpa using hj
          have := hx _ (List.getElem_mem hj')
          rw [List.getD_cons_succ, getD_rw l j hj']
          omega
      · rw [if_pos (by simp)]
        exact findP_hit (k := 0) (by simp) (by simpa using h) (fun j hj => absurd hj (Nat.not_lt_zero _))
    · obtain ⟨i, h1, h2, h3, h4⟩ := ih hl
      have h2' : ∀ j, j < i + 1 → ((x :: l).getD j zrw).k < q := fun j hj => by
        cases j with
        | zero => simp; omega
        | succ j => rw [List.getD_cons_succ]; exact h2 j (by omega)
      refine ⟨i + 1, by simp; omega, h2', fun j hj hjl => ?_, ?_⟩
      · cases j with
        | zero => omega
        | succ j => rw [List.getD_cons_succ]; exact h3 j (by omega) (by simpa using hjl)
      · by_cases hi : i < l.length
        · rw [if_pos (by simpa using hi)]
          refine findP_hit (by simpa using hi) ?_ fun j hj => ?_
          · rw [List.getD_cons_succ]; simpa using h3 i (Nat.le_refl _) hi
          · have := h2' j hj
            simp only [decide_eq_false_iff_not]
            omega
        · rw [if_neg (by simpa using hi)]
          refine findP_miss fun j hj => ?_
          have := h2' j (by simp at hj; omega)
          simp only [decide_eq_false_iff_not]
          omega
theorem with_pos {L : List Rw} {q u : Int} {i : Nat} (hi : i ≤ L.length) (h1 : ∀ j, j < i → (L.getD j zrw).k < q) (h2 : ∀ j, i ≤ j → j < L.length → q < (L.getD j zrw).k) : withK q u L = L.take i ++ ⟨q, u⟩ :: L.drop i := by
  induction L generalizing i with
  | nil => obtain rfl : i = 0 := by simpa using hi
           rfl
  | cons x l ih =>
    cases i with
    | zero =>
      have := h2 0 (Nat.le_refl _) (by simp)
      simp only [List.getD_cons_zero] at this
      have a : ¬ x.k < q := by omega
      have b : ¬ x.k = q := by omega
      simp [withK, a, b]
    | succ i =>
      have := h1 0 (by omega)
      simp only [List.getD_cons_zero] at this
      simp only [withK, this, if_true]
      rw [ih (by simpa using hi) (fun j hj => by have := h1 (j + 1) (by omega); rwa [List.getD_cons_succ] at this) (fun j hj hjl => by have := h2 (j + 1) (by omega) (by simpa using hjl); rwa [List.getD_cons_succ] at this)]
      simp
theorem with_at {L : List Rw} {q u z : Int} {i : Nat} (hi : i < L.length) (h1 : ∀ j, j < i → (L.getD j zrw).k < q) (h2 : L.getD i zrw = ⟨q, z⟩) : withK q u L = L.set i ⟨q, u⟩ := by
  induction L generalizing i with
  | nil => simp at hi
  | cons x l ih =>
    cases i with
    | zero =>
      simp only [List.getD_cons_zero] at h2
      subst h2
      simp [withK]
    | succ i =>
      have := h1 0 (by omega)
      simp only [List.getD_cons_zero] at this
      simp only [withK, this, if_true]
      rw [ih (by simpa using hi) (fun j hj => by have := h1 (j + 1) (by omega); rwa [List.getD_cons_succ] at this) (by rwa [List.getD_cons_succ] at h2)]
      rfl
theorem without_at {L : List Rw} {q z : Int} {i : Nat} (hr : Rises L) (hi : i < L.length) (h2 : L.getD i zrw = ⟨q, z⟩) : withoutK q L = L.take i ++ L.drop (i + 1) := by
  induction L generalizing i with
  | nil => simp at hi
  | cons x l ih =>
    obtain ⟨hx, hl⟩ := List.pairwise_cons.1 hr
    rw [withoutK_cons]
    cases i with
    | zero =>
      simp only [List.getD_cons_zero] at h2
      subst h2
      simp only [beq_self_eq_true, if_true, List.nil_append, List.take_zero, List.drop_succ_cons, List.drop_zero]
      unfold withoutK
      rw [List.filter_eq_self]
      intro y hy
      have := hx y hy
      simp only at this
      simp; omega
    | succ i =>
      rw [List.getD_cons_succ] at h2
      have hi' : i < l.length := by simpa using hi
      have := hx _ (List.getElem_mem hi')
      rw [getD_rw l i hi'] at h2
      rw [h2] at this
      have hf : (x.k == q) = false := by simp; simp only at this; omega
      rw [hf, ih hl hi' (by rw [getD_rw l i hi']; exact h2)]
      simp
/-- A key that is there. -/
theorem pos_some {L : List Rw} {q u : Int} (hr : Rises L) (h : look L q = some u) : ∃ i, i < L.length ∧ findP (fun x => decide (q ≤ x.k)) L = i ∧ L.getD i zrw = ⟨q, u⟩ ∧ (∀ z, withK q z L = L.set i ⟨q, z⟩) ∧ withoutK q L = L.take i ++ L.drop (i + 1) := by
  obtain ⟨i, h1, h2, h3, h4⟩ := findP_pos q hr
  obtain ⟨j, hj, _, hg⟩ := findK_look h
  have hij : i ≤ j := by
    rcases Nat.lt_or_ge j i with h | h
    · have := h2 j h
      rw [hg] at this
      simp only at this
      omega
    · exact h
  have e : i = j := by
    rcases Nat.lt_or_ge i j with h | h
    · have a := h3 i (Nat.le_refl _) (by omega)
      have b := rises_at hr h hj
      rw [hg] at b
      simp only at b
      omega
    · omega
  subst e
  exact ⟨i, hj, by rw [h4, if_pos hj], hg, fun z => with_at hj h2 hg, without_at hr hj hg⟩
/-- A key that is not there. -/
theorem pos_none {L : List Rw} {q : Int} (hr : Rises L) (h : look L q = none) : ∃ i, i ≤ L.length ∧ findP (fun x => decide (q ≤ x.k)) L = (if i < L.length then (i : Int) else -1) ∧ (i < L.length → ¬ (L.getD i zrw).k = q) ∧ (∀ z, withK q z L = L.take i ++ ⟨q, z⟩ :: L.drop i) := by
  obtain ⟨i, h1, h2, h3, h4⟩ := findP_pos q hr
  have hne : ∀ j, j < L.length → ¬ (L.getD j zrw).k = q := fun j hj => by
    rw [getD_rw L j hj]
    exact look_none h _ (List.getElem_mem hj)
  exact ⟨i, h1, h4, fun hi => hne i hi, fun z => with_pos h1 h2 fun j hj hjl => by have a := h3 j hj hjl; have b := hne j hjl; omega⟩
/-- A key that is there, and all that is known of its place. -/
theorem at_some {L : List Rw} {q u : Int} (hr : Rises L) (h : look L q = some u) : ∃ i, i < L.length ∧ (∀ j, j < i → (L.getD j zrw).k < q) ∧ L.getD i zrw = ⟨q, u⟩ ∧ (∀ z, withK q z L = L.set i ⟨q, z⟩) ∧ withoutK q L = L.take i ++ L.drop (i + 1) := by
  obtain ⟨i, h1, _, h3, h4, h5⟩ := pos_some hr h
  refine ⟨i, h1, fun j hj => ?_, h3, h4, h5⟩
  have := rises_at hr hj h1
  rw [h3] at this
  exact this
/-- A key that is not there. -/
theorem at_none {L : List Rw} {q : Int} (hr : Rises L) (h : look L q = none) : ∃ i, i ≤ L.length ∧ (∀ j, j < i → (L.getD j zrw).k < q) ∧ (i < L.length → q < (L.getD i zrw).k) ∧ (∀ z, withK q z L = L.take i ++ ⟨q, z⟩ :: L.drop i) := by
  obtain ⟨i, h1, h2, h3, h4⟩ := findP_pos q hr
  have hne : ∀ j, j < L.length → ¬ (L.getD j zrw).k = q := fun j hj => by
    rw [getD_rw L j hj]
    exact look_none h _ (List.getElem_mem hj)
  exact ⟨i, h1, h2, fun hi => by have a := h3 i (Nat.le_refl _) hi; have b := hne i hi; omega, fun z => with_pos h1 h2 fun j hj hjl => by have a := h3 j hj hjl; have b := hne j hjl; omega⟩
/-- The place of the first key that is not less than one. -/
theorem at_any {L : List Rw} (q : Int) (hr : Rises L) : ∃ i, i ≤ L.length ∧ (∀ j, j < i → (L.getD j zrw).k < q) ∧ (∀ j, i ≤ j → j < L.length → q ≤ (L.getD j zrw).k) := by
  obtain ⟨i, h1, h2, h3, _⟩ := findP_pos q hr
  exact ⟨i, h1, h2, h3⟩
theorem look_hit {L : List Rw} {q : Int} {k : Nat} (h : k < L.length) (h1 : (L.getD k zrw).k = q) (h2 : ∀ j, j < k → ¬ (L.getD j zrw).k = q) : look L q = some (L.getD k zrw).v := by
  induction L generalizing k with
  | nil => simp at h
  | cons x l ih =>
    rw [look_cons]
    cases k with
    | zero => simp at h1; simp [h1]
    | succ k =>
      have a := h2 0 (by omega)
      have hf : (x.k == q) = false := by simpa using a
      rw [hf, List.getD_cons_succ]
      rw [List.getD_cons_succ] at h1
      exact ih (by simpa using h) h1 fun j hj => by have := h2 (j + 1) (by omega); rwa [List.getD_cons_succ] at this
theorem look_miss {L : List Rw} {q : Int} (h : ∀ j, j < L.length → ¬ (L.getD j zrw).k = q) : look L q = none := by
  induction L with
  | nil => rfl
  | cons x l ih =>
    have a := h 0 (by simp)
    have hf : (x.k == q) = false := by simpa using a
    rw [look_cons, hf]
    exact ih fun j hj => by have := h (j + 1) (by simpa using hj); rwa [List.getD_cons_succ] at this
end Go.Proofs.YtkklhhdkokncnaaDoor
