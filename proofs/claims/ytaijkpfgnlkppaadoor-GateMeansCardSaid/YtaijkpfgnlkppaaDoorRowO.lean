/- A law's arguments that are slices of operations, opened. -/
import Derived.Test.YtaijkpfgnlkppaaDoorRowR
import Derived.Test.YtaijkpfgnlkppaaDoorOpsP
namespace Go.Proofs.YtaijkpfgnlkppaaDoor
open Go.ChangeShapes Go.WideShapes Go.ChangeAt Go.WideMaps Go.WideElems Go.RowKit Go.Joins Go.Deep

set_option maxRecDepth 100000 in
theorem open_ops {H : Type} {enc : TypeId × Value → H} {W : World} {b0 base : Nat} {spare : Nat → Bool} {held : Bool} {r : Reach} {v : Value} {d : DataW H} {p : List MemPlace} (hv : Value.okWide Tryd.prog W r b0 62 v) (h : DataW.Trod enc Tryd.prog W base spare held 62 v d p) :
    ∃ L : List Opn, OpsFit L ∧ Sl W v L.length (opCells L) := by
  obtain ⟨a0, len, cap, rfl⟩ := okWide_slice Tryd.underlying62 hv
  obtain ⟨fuel, hf⟩ := h
  rcases open_structs Tryd.underlying62 Tryd.underlying47 (by kernel_rfl) cells_opn hf with h0 | ⟨a, len', cap', hcs, h1, h2, hi⟩
  · simp [Value.cells] at h0
    obtain ⟨rfl, rfl, rfl⟩ := h0
    exact ⟨[], fun x hx => (by cases hx), none, 0, rfl, Nat.le_refl _, by decide, Or.inl ⟨rfl, rfl⟩⟩
  · simp [Value.cells] at hcs
    obtain ⟨rfl, rfl, rfl⟩ := hcs
    have key : ∀ k, k ≤ len → ∃ L : List Opn, L.length = k ∧ OpsFit L ∧ ∀ (j : Nat) (u : Value), (opCells L)[j]? = some u → W.cell? (a.add j) = some u := by
      intro k
      induction k with
      | zero => intro _; exact ⟨[], rfl, fun x hx => (by cases hx), fun j u hu => by simp [opCells] at hu⟩
      | succ k ih =>
        intro hk
        obtain ⟨L, hl, hfit, hc⟩ := ih (by omega)
        obtain ⟨v0, y0, n0, c0, t0⟩ := hi k (by omega) 0 _ rfl
        obtain ⟨v1, y1, n1, c1, t1⟩ := hi k (by omega) 1 _ rfl
        obtain ⟨v2, y2, n2, c2, t2⟩ := hi k (by omega) 2 _ rfl
        obtain ⟨v3, y3, n3, c3, t3⟩ := hi k (by omega) 3 _ rfl
        obtain ⟨a0, e0, rfl, w0⟩ := DataW.trod_int Tryd.underlying5 t0
        obtain ⟨a1, e1, rfl, w1⟩ := DataW.trod_int Tryd.underlying25 t1
        obtain ⟨a2, e2, rfl, w2⟩ := DataW.trod_int Tryd.underlying25 t2
        obtain ⟨a3, e3, rfl, w3⟩ := DataW.trod_int Tryd.underlying25 t3
        simp only [List.cons.injEq, and_true] at e0 e1 e2 e3
        subst e0 e1 e2 e3
        refine ⟨L ++ [⟨a0, a1, a2, a3⟩], by simp [hl], ?_, fun j u hu => ?_⟩
        · intro x hx
          rcases List.mem_append.1 hx with hx | hx
          · exact hfit x hx
          · simp at hx
            subst hx
            exact ⟨wf_bd w0, wf_bd w1, wf_bd w2, wf_bd w3⟩
        · rw [opCells_app] at hu
          have hlen : (opCells L).length = k * 4 := by rw [opCells_len, hl]
          by_cases hj : j < (opCells L).length
          · rw [List.getElem?_append_left hj] at hu
            exact hc j u hu
          · rw [List.getElem?_append_right (by omega), hlen] at hu
            rw [hlen] at hj
            have hj4 := (List.getElem?_eq_some_iff.1 hu).1
            simp [opCells, Opn.cells] at hj4
            obtain h | h | h | h : j = k * 4 + 0 ∨ j = k * 4 + 1 ∨ j = k * 4 + 2 ∨ j = k * 4 + 3 := by omega
            all_goals
              subst h
              simp [opCells, Opn.cells] at hu
              subst hu
              first | exact c0 | exact c1 | exact c2 | exact c3
    obtain ⟨L, hl, hfit, hc⟩ := key len (Nat.le_refl _)
    refine ⟨L, hfit, some a, cap, by rw [hl], by rw [hl]; exact h1, h2, ?_⟩
    by_cases h0 : len = 0
    · subst h0
      obtain rfl : L = [] := List.eq_nil_of_length_eq_zero hl
      exact Or.inl ⟨rfl, rfl⟩
    · obtain ⟨b, o, sp⟩ := a
      have hx := hc 0 (.int .u8 (L[0]'(by omega)).kind) (opCells_at L 0 (by omega)).1
      cases sp with
      | some z =>
        exfalso
        simp only [World.cell?, Addr.add, Option.isSome_some, if_true] at hx
        split at hx <;> simp at hx
      | none => exact Or.inr ⟨b, o, rfl, fun j u hu => by have := hc j u hu; rwa [Addr.add_lit] at this⟩
end Go.Proofs.YtaijkpfgnlkppaaDoor
