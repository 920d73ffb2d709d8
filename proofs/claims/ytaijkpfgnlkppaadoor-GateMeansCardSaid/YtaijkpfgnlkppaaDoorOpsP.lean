/- Plain: slices of operations as flat cells in a world; no program in sight. -/
import Derived.Test.YtaijkpfgnlkppaaDoorRws
namespace Go.Proofs.YtaijkpfgnlkppaaDoor
open Go Go.RowKit

abbrev zop : Opn := ⟨0, 0, 0, 0⟩
def Opn.cells (o : Opn) : List Value := [.int .u8 o.kind, .int .u32 o.a, .int .u32 o.b, .int .u32 o.c]
def opCells (L : List Opn) : List Value := L.flatMap Opn.cells
def OpsFit (L : List Opn) : Prop := ∀ o ∈ L, o.Fits
theorem opCells_nil : opCells [] = [] := rfl
theorem opCells_cons (x : Opn) (L : List Opn) : opCells (x :: L) = .int .u8 x.kind :: .int .u32 x.a :: .int .u32 x.b :: .int .u32 x.c :: opCells L := rfl
theorem opCells_len (L : List Opn) : (opCells L).length = L.length * 4 := by
  induction L with
  | nil => rfl
  | cons x L ih => rw [opCells_cons]; simp [ih]; omega
theorem opCells_app (L M : List Opn) : opCells (L ++ M) = opCells L ++ opCells M := by simp [opCells]
theorem opCells_at (L : List Opn) (i : Nat) (h : i < L.length) : (opCells L)[i * 4]? = some (.int .u8 L[i].kind) ∧ (opCells L)[i * 4 + 1]? = some (.int .u32 L[i].a) ∧ (opCells L)[i * 4 + 2]? = some (.int .u32 L[i].b) ∧ (opCells L)[i * 4 + 3]? = some (.int .u32 L[i].c) := by
  induction L generalizing i with
  | nil => simp at h
  | cons x L ih =>
    rw [opCells_cons]
    cases i with
    | zero => exact ⟨rfl, rfl, rfl, rfl⟩
    | succ i =>
      have e : (i + 1) * 4 = i * 4 + 4 := by omega
      have := ih i (by simpa using h)
      simp only [e, List.getElem_cons_succ]
      exact this
/-- An operation's four numbers lie there. -/
def OpAt (w : World) (b o : Nat) (x : Opn) : Prop := w.cell? ⟨b, o, none⟩ = some (.int .u8 x.kind) ∧ w.cell? ⟨b, o + 1, none⟩ = some (.int .u32 x.a) ∧ w.cell? ⟨b, o + 2, none⟩ = some (.int .u32 x.b) ∧ w.cell? ⟨b, o + 3, none⟩ = some (.int .u32 x.c)
theorem OpAt.ext {w w' : World} {b o : Nat} {x : Opn} (h : OpAt w b o x) (e : Ext w w') : OpAt w' b o x := ⟨ext_cell e h.1, ext_cell e h.2.1, ext_cell e h.2.2.1, ext_cell e h.2.2.2⟩
theorem getD_op (L : List Opn) (i : Nat) (h : i < L.length) : L.getD i zop = L[i] := by simp [h]
theorem OpsFit.get {L : List Opn} (h : OpsFit L) (i : Nat) : (L.getD i zop).Fits := by
  by_cases hi : i < L.length
  · rw [getD_op L i hi]; exact h _ (List.getElem_mem hi)
  · rw [List.getD_eq_getElem?_getD, List.getElem?_eq_none (by omega)]
    exact ⟨by decide, by decide, by decide, by decide⟩
/-- The cells of an operation of a slice. -/
theorem SlAt.op {w : World} {ad : Option Addr} {n cap : Nat} {L : List Opn} (h : SlAt w ad n cap (opCells L)) {i : Nat} (h1 : i < L.length) :
    ∃ b o, ad = some ⟨b, o, none⟩ ∧ b < w.heap.size ∧ OpAt w b (o + i * 4) (L.getD i zop) := by
  obtain ⟨c0, c1, c2, c3⟩ := opCells_at L i h1
  obtain ⟨_, _, h3⟩ := h
  rw [getD_op L i h1]
  rcases h3 with ⟨_, h⟩ | ⟨b, o, e, hc⟩
  · rw [h] at c0; simp at c0
  · exact ⟨b, o, e, World.block_lt_of_cell? w _ (hc _ _ c0), hc _ _ c0, hc _ _ c1, hc _ _ c2, hc _ _ c3⟩
end Go.Proofs.YtaijkpfgnlkppaaDoor
