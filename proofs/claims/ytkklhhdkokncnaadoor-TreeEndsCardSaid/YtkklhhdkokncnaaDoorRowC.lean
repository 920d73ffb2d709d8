/- A law's arguments that are slices of cells, opened. -/
import Derived.Test.YtkklhhdkokncnaaDoorRow
import Derived.Test.YtkklhhdkokncnaaDoorA5
namespace Go.Proofs.YtkklhhdkokncnaaDoor
open Go.ChangeShapes Go.WideShapes Go.ChangeAt Go.WideMaps Go.WideElems Go.RowKit Go.Joins Go.Deep
set_option maxRecDepth 100000
set_option maxHeartbeats 8000000

section
variable {H : Type} {enc : TypeId × Value → H} {P : Program} {w : World} {base : Nat} {spare : Nat → Bool} {held : Bool}
/-- A slice of structs whose fields have one cell each: nil, or cells behind an address. -/
theorem open_structs {t e : TypeId} {fs : Array Field} {fuel : Nat} {cs : List Value} {x : DataW H × List MemPlace} (ht : P.underlying t = some (.slice e)) (he : P.underlying e = some (.struct fs))
    (hone : oneCellFields P fs = true) (hC : P.cellsOf e = fs.size) (h : DataW.trod enc P w base spare held fuel t cs = some x) :
    cs = [.slice none 0 0] ∨
    ∃ (a : Addr) (len cap : Nat), cs = [.slice (some a) len cap] ∧ len ≤ cap ∧ cap ≤ maxLen ∧
      ∀ i, i < len → ∀ (j : Nat) (f : Field), fs[j]? = some f → ∃ (v : Value) (y : DataW H × List MemPlace) (n : Nat), w.cell? (a.add (i * fs.size + j)) = some v ∧ DataW.trod enc P w base spare held n f.type [v] = some y := by
  rcases open_slice ht h with h0 | ⟨a, len, cap, m, n, D, Pl, hcs, hb, hl, hm, hmm, hx, hi⟩
  · exact .inl h0.1
  · refine .inr ⟨a, len, cap, hcs, hl, hm, fun i him j f hj => ?_⟩
    have hlm : len ≤ m := by rw [hmm]; split <;> omega
    obtain ⟨cs', hc, ht'⟩ := hi i (by omega)
    rw [hC] at hc
    obtain ⟨ys, n', hn', hy, hlen, hyl, hf⟩ := DataW.trod_struct he ht'
    obtain ⟨_, hcl, hat⟩ := World.cells?_some hc
    obtain ⟨ho, hk⟩ := hone_of hone j f hj
    have hjl : j < fs.size := (Array.getElem?_eq_some_iff.1 hj).1
    have hcell := hat j hjl
    have hv : cs'[j]? = some (cs'[j]'(by omega)) := List.getElem?_eq_getElem (by omega)
    have h1 := hf j f hj
    rw [ho, hk] at h1
    have hone' : (cs'.drop j).take 1 = [cs'[j]'(by omega)] := by
      rw [List.drop_eq_getElem_cons (by omega)]
      rfl
    rw [hone'] at h1
    have hys : ys[j]? = some (ys[j]'(by omega)) := List.getElem?_eq_getElem (by omega)
    refine ⟨_, _, _, ?_, h1.trans hys⟩
    rw [← Go.Deep.add_add, hcell, hv]
end

theorem celCells_app (L M : List Cel) : celCells (L ++ M) = celCells L ++ celCells M := by simp [celCells]
theorem open_cels {H : Type} {enc : TypeId × Value → H} {W : World} {b0 base : Nat} {spare : Nat → Bool} {held : Bool} {r : Reach} {v : Value} {d : DataW H} {p : List MemPlace} (hv : Value.okWide Tryd.prog W r b0 46 v) (h : DataW.Trod enc Tryd.prog W base spare held 46 v d p) :
    ∃ L : List Cel, CelsFit L ∧ Sl W v L.length (celCells L) := by
  obtain ⟨a0, len, cap, rfl⟩ := okWide_slice Tryd.underlying46 hv
  obtain ⟨fuel, hf⟩ := h
  rcases open_structs Tryd.underlying46 Tryd.underlying37 (by kernel_rfl) cells_cel hf with h0 | ⟨a, len', cap', hcs, h1, h2, hi⟩
  · simp [Value.cells] at h0
    obtain ⟨rfl, rfl, rfl⟩ := h0
    exact ⟨[], fun x hx => (by cases hx), Sl.nil W⟩
  · simp [Value.cells] at hcs
    obtain ⟨rfl, rfl, rfl⟩ := hcs
    have key : ∀ k, k ≤ len → ∃ L : List Cel, L.length = k ∧ CelsFit L ∧ ∀ (j : Nat) (u : Value), (celCells L)[j]? = some u → W.cell? (a.add j) = some u := by
      intro k
      induction k with
      | zero => intro _; exact ⟨[], rfl, fun x hx => (by cases hx), fun j u hu => by simp [celCells] at hu⟩
      | succ k ih =>
        intro hk
        obtain ⟨L, hl, hfit, hc⟩ := ih (by omega)
        obtain ⟨v0, y0, n0, c0, t0⟩ := hi k (by omega) 0 _ rfl
        obtain ⟨v1, y1, n1, c1, t1⟩ := hi k (by omega) 1 _ rfl
        obtain ⟨v2, y2, n2, c2, t2⟩ := hi k (by omega) 2 _ rfl
        obtain ⟨v3, y3, n3, c3, t3⟩ := hi k (by omega) 3 _ rfl
        obtain ⟨a0, e0, rfl, w0⟩ := DataW.trod_int Tryd.underlying22 t0
        obtain ⟨a1, e1, rfl, w1⟩ := DataW.trod_int Tryd.underlying22 t1
        obtain ⟨a2, e2, rfl, w2⟩ := DataW.trod_int Tryd.underlying22 t2
        obtain ⟨a3, e3, rfl, w3⟩ := DataW.trod_int Tryd.underlying22 t3
        simp only [List.cons.injEq, and_true] at e0 e1 e2 e3
        subst e0 e1 e2 e3
        refine ⟨L ++ [⟨a0, a1, a2, a3⟩], by simp [hl], ?_, fun j u hu => ?_⟩
        · intro x hx
          rcases List.mem_append.1 hx with hx | hx
          · exact hfit x hx
          · simp at hx
            subst hx
            exact ⟨wf_bd w0, wf_bd w1, wf_bd w2, wf_bd w3⟩
        · rw [celCells_app] at hu
          have hlen : (celCells L).length = k * 4 := by rw [celCells_len, hl]
          by_cases hj : j < (celCells L).length
          · rw [List.getElem?_append_left hj] at hu
            exact hc j u hu
          · rw [List.getElem?_append_right (by omega), hlen] at hu
            rw [hlen] at hj
            have hj4 := (List.getElem?_eq_some_iff.1 hu).1
            simp [celCells, Cel.cells] at hj4
            obtain h | h | h | h : j = k * 4 + 0 ∨ j = k * 4 + 1 ∨ j = k * 4 + 2 ∨ j = k * 4 + 3 := by omega
            all_goals
              subst h
              simp [celCells, Cel.cells] at hu
              subst hu
              first | exact c0 | exact c1 | exact c2 | exact c3
    obtain ⟨L, hl, hfit, hc⟩ := key len (Nat.le_refl _)
    refine ⟨L, hfit, some a, cap, by rw [hl], by rw [hl]; exact h1, h2, ?_⟩
    by_cases h0 : len = 0
    · subst h0
      obtain rfl : L = [] := List.eq_nil_of_length_eq_zero hl
      exact Or.inl ⟨rfl, rfl⟩
    · obtain ⟨b, o, sp⟩ := a
      have hx := hc 0 (.int .u64 (L[0]'(by omega)).tag) (celCells_at L 0 (by omega)).1
      cases sp with
      | some z =>
        exfalso
        simp only [World.cell?, Addr.add, Option.isSome_some, if_true] at hx
        split at hx <;> simp at hx
      | none => exact Or.inr ⟨b, o, rfl, fun j u hu => by have := hc j u hu; rwa [Addr.add_lit] at this⟩
end Go.Proofs.YtkklhhdkokncnaaDoor
