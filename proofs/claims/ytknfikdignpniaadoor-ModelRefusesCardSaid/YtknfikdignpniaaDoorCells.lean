/- Plain: slices of structs as flat cells in a world; no program in sight. -/
import Derived.Test.YtknfikdignpniaaDoorFrame
import Derived.Test.YtknfikdignpniaaDoorWorld
import Derived.Deep.AppendSrc
import Derived.Laws.AppendOwn
namespace Go.Proofs.YtknfikdignpniaaDoor
open Go Go.RowKit
set_option maxRecDepth 100000
set_option maxHeartbeats 8000000

def Cel.cells (x : Cel) : List Value := [.int .u64 x.tag, .int .u64 x.a, .int .u64 x.b, .int .u64 x.c]
def celCells (L : List Cel) : List Value := L.flatMap Cel.cells

theorem flat4_len {α : Type} (f : α → List Value) (h : ∀ x, (f x).length = 4) (L : List α) : (L.flatMap f).length = L.length * 4 := by
  induction L with
  | nil => rfl
  | cons x L ih => simp [List.flatMap_cons, h, ih]; omega
theorem celCells_len (L : List Cel) : (celCells L).length = L.length * 4 := flat4_len _ (fun _ => rfl) L
theorem celCells_cons (x : Cel) (L : List Cel) : celCells (x :: L) = .int .u64 x.tag :: .int .u64 x.a :: .int .u64 x.b :: .int .u64 x.c :: celCells L := rfl
theorem celCells_at (L : List Cel) (i : Nat) (h : i < L.length) :
    (celCells L)[i * 4]? = some (.int .u64 L[i].tag) ∧ (celCells L)[i * 4 + 1]? = some (.int .u64 L[i].a) ∧ (celCells L)[i * 4 + 2]? = some (.int .u64 L[i].b) ∧ (celCells L)[i * 4 + 3]? = some (.int .u64 L[i].c) := by
  induction L generalizing i with
  | nil => simp at h
  | cons x L ih =>
    rw [celCells_cons]
    cases i with
    | zero => exact ⟨rfl, rfl, rfl, rfl⟩
    | succ i =>
      have e : (i + 1) * 4 = i * 4 + 4 := by omega
      have := ih i (by simpa using h)
      simp only [e, List.getElem_cons_succ]
      exact this

/-- A slice's address with n elements, their flat cells lying in a world. -/
def SlAt (w : World) (ad : Option Addr) (n cap : Nat) (cs : List Value) : Prop :=
  n ≤ cap ∧ cap ≤ maxLen ∧ ((n = 0 ∧ cs = []) ∨ ∃ b o, ad = some ⟨b, o, none⟩ ∧ ∀ (j : Nat) (u : Value), cs[j]? = some u → w.cell? ⟨b, o + j, none⟩ = some u)
/-- A slice value with n elements, its flat cells lying in a world. -/
def Sl (w : World) (v : Value) (n : Nat) (cs : List Value) : Prop := ∃ ad cap, v = .slice ad n cap ∧ SlAt w ad n cap cs

theorem SlAt.ext {w w' : World} {ad : Option Addr} {n cap : Nat} {cs : List Value} (h : SlAt w ad n cap cs) (e : Ext w w') : SlAt w' ad n cap cs := by
  obtain ⟨h1, h2, h3⟩ := h
  refine ⟨h1, h2, ?_⟩
  rcases h3 with h | ⟨b, o, h3, h4⟩
  · exact Or.inl h
  · exact Or.inr ⟨b, o, h3, fun j u hu => by
      have hc := h4 j u hu
      rw [e.cell.1 b (o + j) (World.block_lt_of_cell? (w := w) (a := ⟨b, o + j, none⟩) hc)]
      exact hc⟩
theorem Sl.ext {w w' : World} {v : Value} {n : Nat} {cs : List Value} (h : Sl w v n cs) (e : Ext w w') : Sl w' v n cs := by
  obtain ⟨ad, cap, h1, h2⟩ := h
  exact ⟨ad, cap, h1, h2.ext e⟩
theorem Sl.nil (w : World) : Sl w (.slice none 0 0) 0 [] := ⟨none, 0, rfl, Nat.le_refl _, by decide, Or.inl ⟨rfl, rfl⟩⟩
theorem SlAt.pos {w : World} {ad : Option Addr} {n cap : Nat} {cs : List Value} (h : SlAt w ad n cap cs) (hn : 0 < n) :
    ∃ b o, ad = some ⟨b, o, none⟩ ∧ ∀ (j : Nat) (u : Value), cs[j]? = some u → w.cell? ⟨b, o + j, none⟩ = some u := by
  obtain ⟨h1, h2, h3⟩ := h
  rcases h3 with ⟨h, _⟩ | h3
  · omega
  · exact h3
/-- The cells of an element. -/
theorem SlAt.cel {w : World} {ad : Option Addr} {cap : Nat} {L : List Cel} (h : SlAt w ad L.length cap (celCells L)) {i : Int} (h0 : 0 ≤ i) (h1 : i < L.length) :
    ∃ b o, ad = some ⟨b, o, none⟩ ∧ w.cell? ⟨b, o + i.toNat * 4, none⟩ = some (.int .u64 (L.getD i.toNat ⟨0, 0, 0, 0⟩).tag) ∧ w.cell? ⟨b, o + i.toNat * 4 + 1, none⟩ = some (.int .u64 (L.getD i.toNat ⟨0, 0, 0, 0⟩).a) ∧
      w.cell? ⟨b, o + i.toNat * 4 + 2, none⟩ = some (.int .u64 (L.getD i.toNat ⟨0, 0, 0, 0⟩).b) ∧ w.cell? ⟨b, o + i.toNat * 4 + 3, none⟩ = some (.int .u64 (L.getD i.toNat ⟨0, 0, 0, 0⟩).c) := by
  have hi : i.toNat < L.length := by omega
  obtain ⟨b, o, e, hc⟩ := h.pos (by omega)
  obtain ⟨c0, c1, c2, c3⟩ := celCells_at L i.toNat hi
  have e1 : L.getD i.toNat ⟨0, 0, 0, 0⟩ = L[i.toNat] := by simp [hi]
  rw [e1]
  exact ⟨b, o, e, hc _ _ c0, hc _ _ c1, hc _ _ c2, hc _ _ c3⟩
/-- A cell's four words lie there. -/
def CelAt (w : World) (b o : Nat) (x : Cel) : Prop :=
  w.cell? ⟨b, o, none⟩ = some (.int .u64 x.tag) ∧ w.cell? ⟨b, o + 1, none⟩ = some (.int .u64 x.a) ∧ w.cell? ⟨b, o + 2, none⟩ = some (.int .u64 x.b) ∧ w.cell? ⟨b, o + 3, none⟩ = some (.int .u64 x.c)
theorem CelAt.holds {w : World} {b o : Nat} {x : Cel} (h : CelAt w b o x) : Holds w [(b, o, .int .u64 x.tag), (b, o + 1, .int .u64 x.a), (b, o + 2, .int .u64 x.b), (b, o + 3, .int .u64 x.c)] := h
theorem CelAt.ext {w w' : World} {b o : Nat} {x : Cel} (h : CelAt w b o x) (e : Ext w w') : CelAt w' b o x :=
  ⟨ext_cell e h.1, ext_cell e h.2.1, ext_cell e h.2.2.1, ext_cell e h.2.2.2⟩
/-- As 'SlAt', of a slice that lies in no block from lo to hi. -/
def SlIn (lo hi : Nat) (w : World) (ad : Option Addr) (n cap : Nat) (cs : List Value) : Prop :=
  n ≤ cap ∧ cap ≤ maxLen ∧ ((n = 0 ∧ cs = []) ∨ ∃ b o, ad = some ⟨b, o, none⟩ ∧ ∀ (j : Nat) (u : Value), cs[j]? = some u → (b < lo ∨ hi ≤ b) ∧ w.cell? ⟨b, o + j, none⟩ = some u)
theorem SlIn.at {lo hi : Nat} {w : World} {ad : Option Addr} {n cap : Nat} {cs : List Value} (h : SlIn lo hi w ad n cap cs) : SlAt w ad n cap cs := by
  obtain ⟨h1, h2, h3⟩ := h
  refine ⟨h1, h2, ?_⟩
  rcases h3 with h | ⟨b, o, h3, h4⟩
  · exact Or.inl h
  · exact Or.inr ⟨b, o, h3, fun j u hu => (h4 j u hu).2⟩
theorem SlIn.mid {lo hi : Nat} {w w' : World} {ad : Option Addr} {n cap : Nat} {cs : List Value} (h : SlIn lo hi w ad n cap cs) (e : Mid lo hi w w') : SlIn lo hi w' ad n cap cs := by
  obtain ⟨h1, h2, h3⟩ := h
  refine ⟨h1, h2, ?_⟩
  rcases h3 with h | ⟨b, o, h3, h4⟩
  · exact Or.inl h
  · exact Or.inr ⟨b, o, h3, fun j u hu => ⟨(h4 j u hu).1, e _ _ _ (h4 j u hu).1 (h4 j u hu).2⟩⟩
theorem SlAt.inn {w w' : World} {lo hi : Nat} {ad : Option Addr} {n cap : Nat} {cs : List Value} (h : SlAt w ad n cap cs) (hl : w.heap.size ≤ lo) (e : Ext w w') : SlIn lo hi w' ad n cap cs := by
  obtain ⟨h1, h2, h3⟩ := h
  refine ⟨h1, h2, ?_⟩
  rcases h3 with h | ⟨b, o, h3, h4⟩
  · exact Or.inl h
  · refine Or.inr ⟨b, o, h3, fun j u hu => ⟨Or.inl ?_, ext_cell e (h4 j u hu)⟩⟩
    have := World.block_lt_of_cell? w _ (h4 j u hu)
    dsimp only at this
    omega
theorem SlIn.cel {lo hi : Nat} {w : World} {ad : Option Addr} {cap : Nat} {L : List Cel} (h : SlIn lo hi w ad L.length cap (celCells L)) {i : Int} (h0 : 0 ≤ i) (h1 : i < L.length) :
    ∃ b o, ad = some ⟨b, o, none⟩ ∧ (b < lo ∨ hi ≤ b) ∧ CelAt w b (o + i.toNat * 4) (L.getD i.toNat ⟨0, 0, 0, 0⟩) := by
  obtain ⟨b, o, e, hc⟩ := h.at.cel h0 h1
  refine ⟨b, o, e, ?_, hc⟩
  obtain ⟨_, _, h3⟩ := h
  rcases h3 with ⟨h3, _⟩ | ⟨b', o', h3, h4⟩
  · omega
  · rw [h3] at e
    cases e
    exact (h4 _ _ (celCells_at L i.toNat (by omega)).1).1
theorem CelAt.mid {lo hi : Nat} {w w' : World} {b o : Nat} {x : Cel} (h : CelAt w b o x) (hb : b < lo ∨ hi ≤ b) (e : Mid lo hi w w') : CelAt w' b o x :=
  ⟨e _ _ _ hb h.1, e _ _ _ hb h.2.1, e _ _ _ hb h.2.2.1, e _ _ _ hb h.2.2.2⟩

theorem celCells_set (L : List Cel) (i : Nat) (x : Cel) :
    celCells (L.set i x) = ((((celCells L).set (i * 4) (.int .u64 x.tag)).set (i * 4 + 1) (.int .u64 x.a)).set (i * 4 + 2) (.int .u64 x.b)).set (i * 4 + 3) (.int .u64 x.c) := by
  induction L generalizing i with
  | nil => simp [celCells]
  | cons y L ih =>
    cases i with
    | zero => rfl
    | succ i =>
      have e : (i + 1) * 4 = i * 4 + 4 := by omega
      rw [List.set_cons_succ, celCells_cons, ih, celCells_cons, e]
      rfl
theorem set_in {C : Array Value} {cs : List Value} (h : ∀ (j : Nat) (u : Value), cs[j]? = some u → C[j]? = some u) (k : Nat) (v : Value) : ∀ (j : Nat) (u : Value), (cs.set k v)[j]? = some u → (C.setIfInBounds k v)[j]? = some u := by
  intro j u hu
  rw [List.getElem?_set] at hu
  rw [Array.getElem?_setIfInBounds]
  split at hu
  · rename_i e
    subst e
    split at hu
    · rename_i hk
      have h1 := h k _ (List.getElem?_eq_getElem hk)
      have h2 : k < C.size := (Array.getElem?_eq_some_iff.1 h1).1
      simp [h2]
      simpa using hu
    · cases hu
  · rename_i e
    rw [if_neg e]
    exact h j u hu
theorem cel_set_in {C : Array Value} {L : List Cel} (h : ∀ (j : Nat) (u : Value), (celCells L)[j]? = some u → C[j]? = some u) (i : Nat) (x : Cel) : ∀ (j : Nat) (u : Value), (celCells (L.set i x))[j]? = some u →
    ((((C.setIfInBounds (i * 4) (.int .u64 x.tag)).setIfInBounds (i * 4 + 1) (.int .u64 x.a)).setIfInBounds (i * 4 + 2) (.int .u64 x.b)).setIfInBounds (i * 4 + 3) (.int .u64 x.c))[j]? = some u := by
  rw [celCells_set]
  exact set_in (set_in (set_in (set_in h _ _) _ _) _ _) _ _
theorem cel_in {C : Array Value} {L : List Cel} (h : ∀ (j : Nat) (u : Value), (celCells L)[j]? = some u → C[j]? = some u) {i : Int} (h0 : 0 ≤ i) (h1 : i < L.length) :
    ∃ u0 u1 u2 u3, C[i.toNat * 4]? = some u0 ∧ C[i.toNat * 4 + 1]? = some u1 ∧ C[i.toNat * 4 + 2]? = some u2 ∧ C[i.toNat * 4 + 3]? = some u3 ∧ i.toNat * 4 + 3 < C.size := by
  obtain ⟨c0, c1, c2, c3⟩ := celCells_at L i.toNat (by omega)
  have e := h _ _ c3
  exact ⟨_, _, _, _, h _ _ c0, h _ _ c1, h _ _ c2, e, (Array.getElem?_eq_some_iff.1 e).1⟩
theorem celCells_one (L : List Cel) : ∀ u ∈ celCells L, u.oneCell' = true := by
  intro u hu
  obtain ⟨x, _, hx⟩ := List.mem_flatMap.1 hu
  simp [Cel.cells] at hx
  rcases hx with rfl | rfl | rfl | rfl <;> rfl

/-- 'append([]T{}, l...)' of a slice that has elements: a new block. -/
theorem wpList_append_copy {P : Program} {w : World} {ops : Array Oper} {rest : List Oper} {o : Oper} {a : Act} {Q : Exit → Act → World → Prop} (hgd : o.guard = none) (s x : Operand) (t : TypeId)
    (ho : o.op = .call { callee := .builtin .append, args := #[s, x], argTypes := #[t, t] })
    (e : TypeId) (i : TypeInfo) (z : Value) (size bytes : Nat) (ht : P.underlying t = some (.slice e)) (hi : P.info? e = some i) (hz : i.zero = some z) (hsize : i.size = size) (hby : i.bytes = bytes)
    (ad0 : Option Addr) (hs : a.eval s = .slice ad0 0 0) (b off : Nat) (n cap : Nat) (cs : List Value) (hx : a.eval x = .slice (some ⟨b, off, none⟩) n cap) (hl : cs.length = n * size)
    (hc : ∀ (j : Nat) (u : Value), cs[j]? = some u → w.cell? ⟨b, off + j, none⟩ = some u) (h1 : ∀ u ∈ cs, u.oneCell' = true) (hn : 0 < n) (h63 : n ≤ maxLen) (hbytes : n * bytes ≤ 140737488355328)
    (h : ∀ (C : Array Value) (cap' : Nat), (∀ (j : Nat) (u : Value), cs[j]? = some u → C[j]? = some u) → n ≤ cap' → cap' ≤ maxLen →
      wpList P ops Q rest (a.put o.dst (.slice (some ⟨w.heap.size, 0, none⟩) n cap')) (w.drew.alloc (.cells C e))) : wpList P ops Q (o :: rest) a w := by
  refine wpList_plain hgd fun K hK => ?_
  have hsmall : n ≤ 9223372036854775807 := by simp only [maxLen] at h63; omega
  have hold : (Builtin.firstCells i.size 0 (.slice ad0 0 0)).run P w.drew = .ok ([] : List Value).toArray w.drew := by
    cases ad0 with
    | none => exact run_firstCells_none w.drew _ 0 0 0
    | some a0 => exact run_firstCells_some w.drew i.size 0 a0 0 0 [] (by simp) (fun j u hu => by simp at hu)
  have hr := run_append_grow_src (P := P) w t t o.type e i z ht hi hz ad0 0 0 [] hold (.slice (some ⟨b, off, none⟩) n cap) n cs (Src.ofSlice w ht ⟨b, off, none⟩ n cap cs (by rw [hsize]; exact hl) (fun j u hu => by rw [Addr.add_lit]; exact hc j u hu) h1) (by omega) (by omega)
    (growslice_fits (by omega) (by rw [hby]; simpa using hbytes))
  unfold Oper.wp execOp
  simp only [ho, resolve, invoke, builtin, Sem.run_bind, Sem.run_pure, Result.andThen_ok, List.map_toArray, List.map_cons, List.map_nil, hs, hx, hr]
  have hge := grownCap_ge w (0 + n) 0 e
  refine hK _ _ ?_
  simp only [Nat.zero_add] at hge ⊢
  refine h _ _ (fun j u hu => ?_) hge (grownCap_le_maxLen w n 0 e h63)
  have hj := (List.getElem?_eq_some_iff.1 hu).1
  rw [Array.getElem?_append_left (by simpa using hj)]
  simpa using hu

theorem celCells_u64 (L : List Cel) : ∀ u ∈ celCells L, ∃ x, u = .int .u64 x := by
  intro u hu
  obtain ⟨x, _, hx⟩ := List.mem_flatMap.1 hu
  simp [Cel.cells] at hx
  rcases hx with rfl | rfl | rfl | rfl <;> exact ⟨_, rfl⟩
theorem SlAt.keepU {w w' w'' : World} {ad : Option Addr} {n cap : Nat} {cs : List Value} (h : SlAt w ad n cap cs) (hu : ∀ u ∈ cs, ∃ x, u = .int .u64 x) (e : KeepU w w') (e2 : Ext w' w'') : SlAt w'' ad n cap cs := by
  obtain ⟨h1, h2, h3⟩ := h
  refine ⟨h1, h2, ?_⟩
  rcases h3 with h | ⟨b, o, h3, h4⟩
  · exact Or.inl h
  · refine Or.inr ⟨b, o, h3, fun j u hj => ext_cell e2 ?_⟩
    obtain ⟨x, rfl⟩ := hu u (List.mem_of_getElem? hj)
    exact e.2 _ _ _ (h4 _ _ hj)
theorem SlAt.cel0 {w : World} {ad : Option Addr} {n cap : Nat} {L : List Cel} (h : SlAt w ad n cap (celCells L)) {i : Int} (h0 : 0 ≤ i) (h1 : i < L.length) :
    ∃ b o, ad = some ⟨b, o, none⟩ ∧ b < w.heap.size ∧ CelAt w b (o + i.toNat * 4) (L.getD i.toNat ⟨0, 0, 0, 0⟩) := by
  have hi : i.toNat < L.length := by omega
  obtain ⟨c0, c1, c2, c3⟩ := celCells_at L i.toNat hi
  obtain ⟨_, _, h3⟩ := h
  rcases h3 with ⟨_, h⟩ | ⟨b, o, e, hc⟩
  · rw [h] at c0; simp at c0
  · have e1 : L.getD i.toNat ⟨0, 0, 0, 0⟩ = L[i.toNat] := by simp [hi]
    rw [e1]
    exact ⟨b, o, e, World.block_lt_of_cell? w _ (hc _ _ c0), hc _ _ c0, hc _ _ c1, hc _ _ c2, hc _ _ c3⟩
def CelsFit (L : List Cel) : Prop := ∀ x ∈ L, x.Fits
theorem CelsFit.get {L : List Cel} (h : CelsFit L) (i : Nat) : (L.getD i ⟨0, 0, 0, 0⟩).Fits := by
  by_cases hi : i < L.length
  · rw [List.getD_eq_getElem?_getD, List.getElem?_eq_getElem hi]
    exact h _ (List.getElem_mem hi)
  · rw [List.getD_eq_getElem?_getD, List.getElem?_eq_none (by omega)]
    exact ⟨by decide, by decide, by decide, by decide⟩
theorem CelsFit.set {L : List Cel} (h : CelsFit L) (i : Nat) {x : Cel} (hx : x.Fits) : CelsFit (L.set i x) := fun y hy => by
  rcases List.mem_or_eq_of_mem_set hy with hy | rfl
  · exact h y hy
  · exact hx
end Go.Proofs.YtknfikdignpniaaDoor
