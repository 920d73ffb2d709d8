/- Plain: rows of two cells an element that are moved about in a block; no program in sight. -/
import Derived.Test.YtknfikdignpniaaDoorRws
import Derived.Laws.IdiomCopy
import Derived.Lib.Overlaps
import Derived.Lib.AppendZerosOnto
import Derived.Lib.SliceRun
import Derived.Lib.JoinLaws
namespace Go.Proofs.YtknfikdignpniaaDoor
open Go Go.RowKit
set_option maxRecDepth 100000
set_option maxHeartbeats 8000000

theorem grown_setCell (w : World) (g o : Nat) (v : Value) : w.grownBy (w.setCell ⟨g, o, none⟩ v) (some g) :=
  ⟨rfl, rfl, rfl, by simp [World.setCell], fun k hk hne => by
    have hne' : ¬ g = k := fun e => hne (by rw [e])
    show (w.heap.modify g _)[k]? = w.heap[k]?
    rw [Array.getElem?_modify, if_neg hne']⟩
theorem grown_self (w : World) (r : Option Nat) : w.grownBy w r := ⟨rfl, rfl, rfl, Nat.le_refl _, fun _ _ _ => rfl⟩
theorem grown_setCells (g : Nat) : ∀ (vs : List Value) (o : Nat) (w : World), w.grownBy (w.setCells g o vs) (some g)
  | [], _, w => grown_self w _
  | v :: r, o, w => (grown_setCell w g o v).trans (grown_setCells g r (o + 1) _)
theorem grown_drew (w : World) (r : Option Nat) : w.grownBy w.drew r := ⟨rfl, rfl, rfl, Nat.le_refl _, fun _ _ _ => rfl⟩
/-- What a block holds behind stores into it. -/
theorem heap_setCells (g : Nat) (t : TypeId) (fr : Nat × Nat) : ∀ (vs : List Value) (o : Nat) (w : World) (cur : Array Value), w.heap[g]? = some (.cells cur t fr) → o + vs.length ≤ cur.size →
    ∃ cur' : Array Value, (w.setCells g o vs).heap[g]? = some (.cells cur' t fr) ∧ cur'.size = cur.size ∧ ∀ k, cur'[k]? = if o ≤ k ∧ k < o + vs.length then vs[k - o]? else cur[k]?
  | [], o, w, cur, h, _ => ⟨cur, h, rfl, fun k => by rw [if_neg (fun ⟨a, b⟩ => by simp at b; omega)]⟩
  | v :: r, o, w, cur, h, hl => by
    have h1 : (w.setCell ⟨g, o, none⟩ v).heap[g]? = some (.cells (cur.setIfInBounds o v) t fr) := by
      rw [setCell_eq_setRow w g o cur t fr v h]
      exact setRow_heap w g cur _ t fr h
    simp only [List.length_cons] at hl
    obtain ⟨cur', h2, h3, h4⟩ := heap_setCells g t fr r (o + 1) _ _ h1 (by simp; omega)
    refine ⟨cur', h2, by simpa using h3, fun k => ?_⟩
    rw [h4]
    by_cases e : o = k
    · subst e
      rw [if_neg (by omega), if_pos (by simp), Array.getElem?_setIfInBounds_self_of_lt (by omega)]
      simp
    · by_cases h5 : o + 1 ≤ k ∧ k < o + 1 + r.length
      · rw [if_pos h5, if_pos (by simp; omega), show k - o = (k - (o + 1)) + 1 by omega, List.getElem?_cons_succ]
      · rw [if_neg h5, if_neg (by simp; omega), Array.getElem?_setIfInBounds, if_neg e]
theorem drew_setCells (g : Nat) : ∀ (vs : List Value) (o : Nat) (w : World), (w.setCells g o vs).drew = w.drew.setCells g o vs
  | [], _, _ => rfl
  | v :: r, o, w => by rw [World.setCells, World.setCells, drew_setCells g r]; rfl

/-- 'copy' of elements of several cells. -/
theorem run_copy_sz {P : Program} (w : World) (dT sT ty elem : TypeId) (sz : Nat) (b o dLen dCap : Nat) (a : Addr) (sLen sCap : Nat) (cs : List Value)
    (hu : P.underlying dT = some (.slice elem)) (hs : (P.info? elem).map (·.size) = some sz) (hn : cs.length = Nat.min sLen dLen * sz)
    (hsrc : ∀ j v, cs[j]? = some v → w.cell? (a.add j) = some v) (hc : ∀ j, j < cs.length → (w.cell? ⟨b, o + j, none⟩).isSome = true) (hf : ∀ j, j < cs.length → w.frozen? ⟨b, o + j, none⟩ = false) (h1 : ∀ v ∈ cs, v.oneCell' = true) :
    (Builtin.copy_ #[dT, sT] ty #[.slice (some ⟨b, o, none⟩) dLen dCap, .slice (some a) sLen sCap]).run P w = .ok (goInt (Nat.min sLen dLen)) (w.setCells b o cs) := by
  have hl := run_loadCells_list (P := P) w a cs hsrc
  have hst := run_storeCells_cells (P := P) b o cs 0 w (by simpa using hc) (by simpa using hf) h1
  cases hq : P.info? elem with
  | none => simp [hq] at hs
  | some i =>
    have hi : i.size = sz := by simpa [hq] using hs
    simp [Builtin.copy_, run_underlying hu, Builtin.lenOf, Builtin.firstCells, sizeOf, typeInfo, hq, hi, ← hn, hl, hst]
/-- 'clear' of one row. -/
theorem run_clear_row {P : Program} (w : World) (t e ty : TypeId) (ht : P.underlying t = some (.slice e)) (hv : ∀ w, (zeroValue e).run P w = .ok (.agg #[.int .u64 0, .int .u64 0]) w) (b o c : Nat)
    (hc : ∀ j, j < 2 → (w.cell? ⟨b, o + j, none⟩).isSome = true) (hf : ∀ j, j < 2 → w.frozen? ⟨b, o + j, none⟩ = false) :
    (Builtin.clear_ #[t] ty #[.slice (some ⟨b, o, none⟩) 1 c]).run P w = .ok (.tuple #[]) (w.setCells b o [.int .u64 0, .int .u64 0]) := by
  have hzc : (Builtin.zeroCells (Value.cells (.agg #[.int .u64 0, .int .u64 0])) 1).toList = [.int .u64 0, .int .u64 0] := by kernel_rfl
  have hst := run_storeCells_cells (P := P) b o [.int .u64 0, .int .u64 0] 0 w (by simpa using hc) (by simpa using hf) (by intro v hv'; simp at hv'; subst hv'; rfl)
  simp only [Nat.add_zero] at hst
  simp [Builtin.clear_, run_underlying ht, hv, hzc, hst]
theorem wp_copy_r {P : Program} (w : World) {o : Oper} {a : Act} {K : Act → World → Prop} {Q : Exit → Act → World → Prop} (d s : Operand) (t t' : TypeId)
    (ho : o.op = .call { callee := .builtin .copy, args := #[d, s], argTypes := #[t, t'] }) (v u : Value) (hd : a.eval d = v) (hs : a.eval s = u) {v' : Value} {w' : World}
    (hr : (Builtin.copy_ #[t, t'] o.type #[v, u]).run P w = .ok v' w') (h : K (a.put o.dst v') w') : o.wp P a w K Q := by
  unfold Oper.wp execOp
  simp only [ho, resolve, invoke, builtin, Sem.run_bind, Sem.run_pure, Result.andThen_ok, List.map_toArray, List.map_cons, List.map_nil, hd, hs, hr]
  exact h
theorem wpList_copy_r {P : Program} (w : World) {ops : Array Oper} {rest : List Oper} {o : Oper} {a : Act} {Q : Exit → Act → World → Prop} (hgd : o.guard = none) (d s : Operand) (t t' : TypeId)
    (ho : o.op = .call { callee := .builtin .copy, args := #[d, s], argTypes := #[t, t'] }) (v u : Value) (hd : a.eval d = v) (hs : a.eval s = u) {v' : Value} {w' : World}
    (hr : (Builtin.copy_ #[t, t'] o.type #[v, u]).run P w = .ok v' w') (h : wpList P ops Q rest (a.put o.dst v') w') : wpList P ops Q (o :: rest) a w :=
  wpList_plain hgd fun _ hK => wp_copy_r w d s t t' ho v u hd hs hr (hK _ _ h)
theorem step_copy_r {P : Program} {ops : Array Oper} {o : Oper} {a : Act} {w : World} {K : Act → World → Prop} {Q : Exit → Act → World → Prop} {E : Prop}
    (hg : o.guard = none) (d x : Operand) (dT sT : TypeId) (hop : o.op = Op.call { callee := Callee.builtin Builtin.copy, args := #[d, x], argTypes := #[dT, sT] })
    (v u : Value) (hd : a.eval d = v) (hx : a.eval x = u) {v' : Value} {w' : World} (hr : (Builtin.copy_ #[dT, sT] o.type #[v, u]).run P w = .ok v' w') (hK : K (a.put o.dst v') w') :
    if Region.wanted o (yielded ops a.tmps) = true then Oper.wp P o a w K Q else E := by
  have hw : Region.wanted o (yielded ops a.tmps) = true := by simp [Region.wanted, hg]
  rw [if_pos hw]
  unfold Oper.wp
  simp [execOp, hop, resolve, invoke, builtin, hd, hx, hr, Result.andThen]
  exact hK

theorem rwCells_take (L : List Rw) (i : Nat) : rwCells (L.take i) = (rwCells L).take (i * 2) := by
  induction L generalizing i with
  | nil => simp [rwCells]
  | cons x L ih =>
    cases i with
    | zero => simp [rwCells]
    | succ i => rw [List.take_succ_cons, rwCells_cons, ih, rwCells_cons, show (i + 1) * 2 = i * 2 + 1 + 1 by omega]; rfl
theorem rwCells_drop (L : List Rw) (i : Nat) : rwCells (L.drop i) = (rwCells L).drop (i * 2) := by
  induction L generalizing i with
  | nil => simp [rwCells]
  | cons x L ih =>
    cases i with
    | zero => simp [rwCells]
    | succ i => rw [List.drop_succ_cons, ih, rwCells_cons, show (i + 1) * 2 = i * 2 + 1 + 1 by omega]; rfl
theorem target_of {cs vs : List Value} {n i : Nat} (hcl : cs.length = n * 2) (hvl : vs.length = 2) (hi : i ≤ n) {cur cur0 : Array Value} (h0 : ∀ k, k < i * 2 → cur0[k]? = cs[k]?) (_hs : (n + 1) * 2 ≤ cur.size)
    (h1 : ∀ k, (i + 1) * 2 ≤ k → k < (n + 1) * 2 → cur[k]? = (cs.drop (i * 2))[k - (i + 1) * 2]?) (h2 : ∀ k, i * 2 ≤ k → k < (i + 1) * 2 → cur[k]? = vs[k - i * 2]?) (h3 : ∀ k, k < i * 2 → cur[k]? = cur0[k]?) :
    cur.toList.take ((n + 1) * 2) = cs.take (i * 2) ++ (vs ++ cs.drop (i * 2)) := by
  apply List.ext_getElem?
  intro k
  rw [List.getElem?_take]
  by_cases hk : k < (n + 1) * 2
  · rw [if_pos hk, Array.getElem?_toList]
    by_cases a : k < i * 2
    · rw [h3 k a, h0 k a, List.getElem?_append_left (by simp; omega), List.getElem?_take, if_pos a]
    · rw [List.getElem?_append_right (by simp; omega), List.length_take, Nat.min_eq_left (by omega)]
      by_cases b : k < (i + 1) * 2
      · rw [h2 k (by omega) b, List.getElem?_append_left (by omega)]
      · rw [h1 k (by omega) hk, List.getElem?_append_right (by omega), hvl, show k - i * 2 - 2 = k - (i + 1) * 2 by omega]
  · rw [if_neg hk, List.getElem?_eq_none (by simp; omega)]
theorem rwCells_ins (L : List Rw) (x : Rw) (i : Nat) : rwCells (L.take i ++ x :: L.drop i) = (rwCells L).take (i * 2) ++ (rwCells [x] ++ (rwCells L).drop (i * 2)) := by
  rw [rwCells_app, rwCells_take, ← rwCells_drop, ← rwCells_app]; rfl
theorem rwCells_setv (L : List Rw) (i : Nat) (k z : Int) (hi : i < L.length) (hk : (L.getD i zrw).k = k) : rwCells (L.set i ⟨k, z⟩) = (rwCells L).set (i * 2 + 1) (.int .u64 z) := by
  induction L generalizing i with
  | nil => simp at hi
  | cons x L ih =>
    cases i with
    | zero =>
      simp only [List.getD_cons_zero] at hk
      subst hk
      rfl
    | succ i =>
      rw [List.getD_cons_succ] at hk
      rw [List.set_cons_succ, rwCells_cons, rwCells_cons, ih i (by simpa using hi) hk, show (i + 1) * 2 + 1 = i * 2 + 1 + 1 + 1 by omega]
      rfl
/-- A value stored into a row of the call's own. -/
theorem own_setv {w : World} {base g cap i : Nat} {t : TypeId} {L : List Rw} {k z : Int} (h : w.ownsRow base t 2 (.slice (some ⟨g, 0, none⟩) L.length cap) L.length (rwCells L)) (hi : i < L.length) (hk : (L.getD i zrw).k = k) :
    (w.setCell ⟨g, i * 2 + 1, none⟩ (.int .u64 z)).ownsRow base t 2 (.slice (some ⟨g, 0, none⟩) L.length cap) (L.set i ⟨k, z⟩).length (rwCells (L.set i ⟨k, z⟩)) := by
  obtain ⟨_, h2⟩ := h
  rcases h2 with ⟨h1, _⟩ | ⟨g', cap', cur, hv, hg, hc, hn, hcap, hs, ht⟩
  · cases h1
  · obtain ⟨ha, _, hcc⟩ := Value.slice.inj hv
    cases ha
    subst hcc
    refine ⟨by rw [rwCells_len], Or.inr ⟨g, cap, cur.setIfInBounds (i * 2 + 1) (.int .u64 z), by rw [List.length_set], hg, ?_, by rw [List.length_set]; exact hn, hcap, by simpa using hs, ?_⟩⟩
    · rw [setCell_eq_setRow w g _ cur t (0, 0) _ hc]
      exact setRow_heap w g cur _ t (0, 0) hc
    · rw [rwCells_setv L i k z hi hk, List.length_set, ← ht, Array.toList_setIfInBounds, List.take_set]
end Go.Proofs.YtknfikdignpniaaDoor
