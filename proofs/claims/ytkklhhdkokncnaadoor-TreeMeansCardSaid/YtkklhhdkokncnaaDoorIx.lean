/- Plain: rows of two cells an element that are moved about in a block; no program in sight. -/
import Derived.Test.YtkklhhdkokncnaaDoorA5
import Derived.Laws.IdiomCopy
import Derived.Lib.Overlaps
import Derived.Lib.AppendZerosOnto
import Derived.Lib.SliceRun
import Derived.Lib.JoinLaws
import Derived.Test.YtkklhhdkokncnaaDoorRf
import Derived.Deep.RegionLaw
namespace Go.Proofs.YtkklhhdkokncnaaDoor
open Go Go.RowKit
set_option maxRecDepth 100000
set_option maxHeartbeats 8000000

theorem grown_setCell (w : World) (g o : Nat) (v : Value) : w.grownBy (w.setCell ⟨g, o, none⟩ v) (some g) :=
  ⟨rfl, rfl, rfl, by simp [World.setCell], fun k hk hne => by
    have hne' : ¬ g = k := fun e => hne (by rw [e])
    show (w.heap.modify g _)[k]? = w.heap[k]?
    rw [Array.getElem?_modify, if_neg hne']⟩
theorem grown_self (w : World) (r : Option Nat) : w.grownBy w r := ⟨rfl, rfl, rfl, Nat.le_refl _, fun _ _ _ => rfl⟩
theorem grown_setCells (g : Nat) : ∀ (vs : List Value) (o : Nat) (w : World), w.grownBy (w.setCells g o vs) (some g)
  | [], _, w => grown_self w _
  | v :: r, o, w => (grown_setCell w g o v).trans (grown_setCells g r (o + 1) _)
theorem grown_drew (w : World) (r : Option Nat) : w.grownBy w.drew r := ⟨rfl, rfl, rfl, Nat.le_refl _, fun _ _ _ => rfl⟩
/-- What a block holds behind stores into it. -/
theorem heap_setCells (g : Nat) (t : TypeId) (fr : Nat × Nat) : ∀ (vs : List Value) (o : Nat) (w : World) (cur : Array Value), w.heap[g]? = some (.cells cur t fr) → o + vs.length ≤ cur.size →
    ∃ cur' : Array Value, (w.setCells g o vs).heap[g]? = some (.cells cur' t fr) ∧ cur'.size = cur.size ∧ ∀ k, cur'[k]? = if o ≤ k ∧ k < o + vs.length then vs[k - o]? else cur[k]?
  | [], o, w, cur, h, _ => ⟨cur, h, rfl, fun k => by rw [if_neg (fun ⟨a, b⟩ => by simp at b; omega)]⟩
  | v :: r, o, w, cur, h, hl => by
    have h1 : (w.setCell ⟨g, o, none⟩ v).heap[g]? = some (.cells (cur.setIfInBounds o v) t fr) := by
      rw [setCell_eq_setRow w g o cur t fr v h]
      exact setRow_heap w g cur _ t fr h
    simp only [List.length_cons] at hl
    obtain ⟨cur', h2, h3, h4⟩ := heap_setCells g t fr r (o + 1) _ _ h1 (by simp; omega)
    refine ⟨cur', h2, by simpa using h3, fun k => ?_⟩
    rw [h4]
    by_cases e : o = k
    · subst e
      rw [if_neg (by omega), if_pos (by simp), Array.getElem?_setIfInBounds_self_of_lt (by omega)]
      simp
    · by_cases h5 : o + 1 ≤ k ∧ k < o + 1 + r.length
      · rw [if_pos h5, if_pos (by simp; omega), show k - o = (k - (o + 1)) + 1 by omega, List.getElem?_cons_succ]
      · rw [if_neg h5, if_neg (by simp; omega), Array.getElem?_setIfInBounds, if_neg e]
theorem drew_setCells (g : Nat) : ∀ (vs : List Value) (o : Nat) (w : World), (w.setCells g o vs).drew = w.drew.setCells g o vs
  | [], _, _ => rfl
  | v :: r, o, w => by rw [World.setCells, World.setCells, drew_setCells g r]; rfl

/-- 'copy' of elements of several cells. -/
theorem run_copy_sz {P : Program} (w : World) (dT sT ty elem : TypeId) (sz : Nat) (b o dLen dCap : Nat) (a : Addr) (sLen sCap : Nat) (cs : List Value)
    (hu : P.underlying dT = some (.slice elem)) (hs : (P.info? elem).map (·.size) = some sz) (hn : cs.length = Nat.min sLen dLen * sz)
    (hsrc : ∀ j v, cs[j]? = some v → w.cell? (a.add j) = some v) (hc : ∀ j, j < cs.length → (w.cell? ⟨b, o + j, none⟩).isSome = true) (hf : ∀ j, j < cs.length → w.frozen? ⟨b, o + j, none⟩ = false) (h1 : ∀ v ∈ cs, v.oneCell' = true) :
    (Builtin.copy_ #[dT, sT] ty #[.slice (some ⟨b, o, none⟩) dLen dCap, .slice (some a) sLen sCap]).run P w = .ok (goInt (Nat.min sLen dLen)) (w.setCells b o cs) := by
  have hl := run_loadCells_list (P := P) w a cs hsrc
  have hst := run_storeCells_cells (P := P) b o cs 0 w (by simpa using hc) (by simpa using hf) h1
  cases hq : P.info? elem with
  | none => simp [hq] at hs
  | some i =>
    have hi : i.size = sz := by simpa [hq] using hs
    simp [Builtin.copy_, run_underlying hu, Builtin.lenOf, Builtin.firstCells, sizeOf, typeInfo, hq, hi, ← hn, hl, hst]
/-- 'clear' of one row. -/
theorem run_clear_row {P : Program} (w : World) (t e ty : TypeId) (ht : P.underlying t = some (.slice e)) (hv : ∀ w, (zeroValue e).run P w = .ok (.agg #[.int .u64 0, .int .u64 0]) w) (b o c : Nat)
    (hc : ∀ j, j < 2 → (w.cell? ⟨b, o + j, none⟩).isSome = true) (hf : ∀ j, j < 2 → w.frozen? ⟨b, o + j, none⟩ = false) :
    (Builtin.clear_ #[t] ty #[.slice (some ⟨b, o, none⟩) 1 c]).run P w = .ok (.tuple #[]) (w.setCells b o [.int .u64 0, .int .u64 0]) := by
  have hzc : (Builtin.zeroCells (Value.cells (.agg #[.int .u64 0, .int .u64 0])) 1).toList = [.int .u64 0, .int .u64 0] := by kernel_rfl
  have hst := run_storeCells_cells (P := P) b o [.int .u64 0, .int .u64 0] 0 w (by simpa using hc) (by simpa using hf) (by intro v hv'; simp at hv'; subst hv'; rfl)
  simp only [Nat.add_zero] at hst
  simp [Builtin.clear_, run_underlying ht, hv, hzc, hst]
theorem wp_copy_r {P : Program} (w : World) {o : Oper} {a : Act} {K : Act → World → Prop} {Q : Exit → Act → World → Prop} (d s : Operand) (t t' : TypeId)
    (ho : o.op = .call { callee := .builtin .copy, args := #[d, s], argTypes := #[t, t'] }) (v u : Value) (hd : a.eval d = v) (hs : a.eval s = u) {v' : Value} {w' : World}
    (hr : (Builtin.copy_ #[t, t'] o.type #[v, u]).run P w = .ok v' w') (h : K (a.put o.dst v') w') : o.wp P a w K Q := by
  unfold Oper.wp execOp
  simp only [ho, resolve, invoke, builtin, Sem.run_bind, Sem.run_pure, Result.andThen_ok, List.map_toArray, List.map_cons, List.map_nil, hd, hs, hr]
  exact h
theorem wpList_copy_r {P : Program} (w : World) {ops : Array Oper} {rest : List Oper} {o : Oper} {a : Act} {Q : Exit → Act → World → Prop} (hgd : o.guard = none) (d s : Operand) (t t' : TypeId)
    (ho : o.op = .call { callee := .builtin .copy, args := #[d, s], argTypes := #[t, t'] }) (v u : Value) (hd : a.eval d = v) (hs : a.eval s = u) {v' : Value} {w' : World}
    (hr : (Builtin.copy_ #[t, t'] o.type #[v, u]).run P w = .ok v' w') (h : wpList P ops Q rest (a.put o.dst v') w') : wpList P ops Q (o :: rest) a w :=
  wpList_plain hgd fun _ hK => wp_copy_r w d s t t' ho v u hd hs hr (hK _ _ h)
theorem step_copy_r {P : Program} {ops : Array Oper} {o : Oper} {a : Act} {w : World} {K : Act → World → Prop} {Q : Exit → Act → World → Prop} {E : Prop}
    (hg : o.guard = none) (d x : Operand) (dT sT : TypeId) (hop : o.op = Op.call { callee := Callee.builtin Builtin.copy, args := #[d, x], argTypes := #[dT, sT] })
    (v u : Value) (hd : a.eval d = v) (hx : a.eval x = u) {v' : Value} {w' : World} (hr : (Builtin.copy_ #[dT, sT] o.type #[v, u]).run P w = .ok v' w') (hK : K (a.put o.dst v') w') :
    if Region.wanted o (yielded ops a.tmps) = true then Oper.wp P o a w K Q else E := by
  have hw : Region.wanted o (yielded ops a.tmps) = true := by simp [Region.wanted, hg]
  rw [if_pos hw]
  unfold Oper.wp
  simp [execOp, hop, resolve, invoke, builtin, hd, hx, hr, Result.andThen]
  exact hK

theorem rwCells_take (L : List Rw) (i : Nat) : rwCells (L.take i) = (rwCells L).take (i * 2) := by
  induction L generalizing i with
  | nil => simp [rwCells]
  | cons x L ih =>
    cases i with
    | zero => simp [rwCells]
    | succ i => rw [List.take_succ_cons, rwCells_cons, ih, rwCells_cons, show (i + 1) * 2 = i * 2 + 1 + 1 by omega]; rfl
theorem rwCells_drop (L : List Rw) (i : Nat) : rwCells (L.drop i) = (rwCells L).drop (i * 2) := by
  induction L generalizing i with
  | nil => simp [rwCells]
  | cons x L ih =>
    cases i with
    | zero => simp [rwCells]
    | succ i => rw [List.drop_succ_cons, ih, rwCells_cons, show (i + 1) * 2 = i * 2 + 1 + 1 by omega]; rfl
theorem target_of {cs vs : List Value} {n i : Nat} (hcl : cs.length = n * 2) (hvl : vs.length = 2) (hi : i ≤ n) {cur cur0 : Array Value} (h0 : ∀ k, k < i * 2 → cur0[k]? = cs[k]?) (_hs : (n + 1) * 2 ≤ cur.size)
    (h1 : ∀ k, (i + 1) * 2 ≤ k → k < (n + 1) * 2 → cur[k]? = (cs.drop (i * 2))[k - (i + 1) * 2]?) (h2 : ∀ k, i * 2 ≤ k → k < (i + 1) * 2 → cur[k]? = vs[k - i * 2]?) (h3 : ∀ k, k < i * 2 → cur[k]? = cur0[k]?) :
    cur.toList.take ((n + 1) * 2) = cs.take (i * 2) ++ (vs ++ cs.drop (i * 2)) := by
  apply List.ext_getElem?
  intro k
  rw [List.getElem?_take]
  by_cases hk : k < (n + 1) * 2
  · rw [if_pos hk, Array.getElem?_toList]
    by_cases a : k < i * 2
    · rw [h3 k a, h0 k a, List.getElem?_append_left (by simp; omega), List.getElem?_take, if_pos a]
    · rw [List.getElem?_append_right (by simp; omega), List.length_take, Nat.min_eq_left (by omega)]
      by_cases b : k < (i + 1) * 2
      · rw [h2 k (by omega) b, List.getElem?_append_left (by omega)]
      · rw [h1 k (by omega) hk, List.getElem?_append_right (by omega), hvl, show k - i * 2 - 2 = k - (i + 1) * 2 by omega]
  · rw [if_neg hk, List.getElem?_eq_none (by simp; omega)]
theorem rwCells_ins (L : List Rw) (x : Rw) (i : Nat) : rwCells (L.take i ++ x :: L.drop i) = (rwCells L).take (i * 2) ++ (rwCells [x] ++ (rwCells L).drop (i * 2)) := by
  rw [rwCells_app, rwCells_take, ← rwCells_drop, ← rwCells_app]; rfl
theorem rwCells_setv (L : List Rw) (i : Nat) (k z : Int) (hi : i < L.length) (hk : (L.getD i zrw).k = k) : rwCells (L.set i ⟨k, z⟩) = (rwCells L).set (i * 2 + 1) (.int .u64 z) := by
  induction L generalizing i with
  | nil => simp at hi
  | cons x L ih =>
    cases i with
    | zero =>
      simp only [List.getD_cons_zero] at hk
      subst hk
      rfl
    | succ i =>
      rw [List.getD_cons_succ] at hk
      rw [List.set_cons_succ, rwCells_cons, rwCells_cons, ih i (by simpa using hi) hk, show (i + 1) * 2 + 1 = i * 2 + 1 + 1 + 1 by omega]
      rfl
/-- A value stored into a row of the call's own. -/
theorem own_setv {w : World} {base g cap i : Nat} {t : TypeId} {L : List Rw} {k z : Int} (h : w.ownsRow base t 2 (.slice (some ⟨g, 0, none⟩) L.length cap) L.length (rwCells L)) (hi : i < L.length) (hk : (L.getD i zrw).k = k) :
    (w.setCell ⟨g, i * 2 + 1, none⟩ (.int .u64 z)).ownsRow base t 2 (.slice (some ⟨g, 0, none⟩) L.length cap) (L.set i ⟨k, z⟩).length (rwCells (L.set i ⟨k, z⟩)) := by
  obtain ⟨_, h2⟩ := h
  rcases h2 with ⟨h1, _⟩ | ⟨g', cap', cur, hv, hg, hc, hn, hcap, hs, ht⟩
  · cases h1
  · obtain ⟨ha, _, hcc⟩ := Value.slice.inj hv
    cases ha
    subst hcc
    refine ⟨by rw [rwCells_len], Or.inr ⟨g, cap, cur.setIfInBounds (i * 2 + 1) (.int .u64 z), by rw [List.length_set], hg, ?_, by rw [List.length_set]; exact hn, hcap, by simpa using hs, ?_⟩⟩
    · rw [setCell_eq_setRow w g _ cur t (0, 0) _ hc]
      exact setRow_heap w g cur _ t (0, 0) hc
    · rw [rwCells_setv L i k z hi hk, List.length_set, ← ht, Array.toList_setIfInBounds, List.take_set]
end Go.Proofs.YtkklhhdkokncnaaDoor
/- The walk of 'slices.Insert' at rows, one row, into a slice of the call's own. -/
namespace Go.Proofs.YtkklhhdkokncnaaDoor
open Go Go.RowKit
set_option maxRecDepth 100000
set_option maxHeartbeats 8000000

def InsP (w : World) (base : Nat) (v : Value) (L : List Rw) (e : Ending) (w' : World) : Prop := ∃ r, e = .returned r ∧ w'.ownsRow base 39 2 r L.length (rwCells L) ∧ w.grownBy w' v.ownBlock
theorem cell_of_heap {w : World} {g : Nat} {cur : Array Value} {t : TypeId} {fr : Nat × Nat} (h : w.heap[g]? = some (.cells cur t fr)) (j : Nat) : w.cell? ⟨g, j, none⟩ = cur[j]? := by
  simp [World.cell?, h]
theorem frozen_of_heap {w : World} {g : Nat} {cur : Array Value} {t : TypeId} (h : w.heap[g]? = some (.cells cur t (0, 0))) (j : Nat) : w.frozen? ⟨g, j, none⟩ = false := by
  simp [World.frozen?, h]
theorem shape_of_heap {w : World} {g : Nat} {cur : Array Value} {t : TypeId} (h : w.heap[g]? = some (.cells cur t (0, 0))) : w.shape? g = some (t, cur.size) := by
  simp [World.shape?, h]

theorem ins_end (v : Value) (L : List Rw) (x : Rw) (vb base : Nat) (w : World) (hown : w.ownsRow base 39 2 v L.length (rwCells L)) (hn : L.length ≤ 1000) (hb : base ≤ w.heap.size)
    (hx : RwAt w vb 0 x) : Calls Tryd.prog 51 #[v, .int .i64 L.length, .slice (some ⟨vb, 0, none⟩) 1 1] w (InsP w base v (L ++ [x])) := by
  obtain ⟨ad, cap, rfl⟩ := own_form hown
  have HOWN := Lib.hid hown
  have HX := Lib.hid hx
  have hlc : L.length ≤ cap := by
    rcases hown.2 with ⟨h1, h2⟩ | ⟨g, cap', cur, h1, _, _, h2, _⟩
    · omega
    · rw [(Value.slice.inj h1).2.2]; exact h2
  clear hown hx
  obtain ⟨ti, HI1, HI2, HI3, HI4⟩ := info_parts info_row; have HI := Lib.hid (And.intro HI1 (And.intro HI2 (And.intro HI3 HI4))); clear HI1 HI2 HI3 HI4
  go_enter Tryd.func51, Tryd.ntmps51
  cases ad with
  | none =>
    go_wp2_with (at_builtin; refine wpList_append_own_at _ rfl _ _ 47 rfl base 39 ti _ 2 16 Tryd.underlying47 HI.out.1 HI.out.2.1 HI.out.2.2.1 HI.out.2.2.2 rfl (by decide) (.slice none L.length cap) L.length (rwCells L) (by rfl) (by exact HOWN.out) _ 1 1 (rwCells [x]) (by rfl) (by rfl) (by exact rows_one HX.out) (rwCells_one _) (by unfold maxLen; omega) (by omega) hb ?_; intro v2 w2 hown2 hgrow2 _ hat2; have HO2 := Lib.hid hown2; have HG2 := Lib.hid hgrow2; clear hown2 hgrow2 hat2)
    go_wp2
    go_ret
    exact ⟨_, rfl, by rw [rwCells_app]; simpa using HO2.out, HG2.out⟩
  | some a =>
    obtain ⟨ab, ao, asp⟩ := a
    go_wp2_with (at_builtin; refine wpList_append_own_at _ rfl _ _ 47 rfl base 39 ti _ 2 16 Tryd.underlying47 HI.out.1 HI.out.2.1 HI.out.2.2.1 HI.out.2.2.2 rfl (by decide) (.slice (some ⟨ab, ao, asp⟩) L.length cap) L.length (rwCells L) (by rfl) (by exact HOWN.out) _ 1 1 (rwCells [x]) (by rfl) (by rfl) (by exact rows_one HX.out) (rwCells_one _) (by unfold maxLen; omega) (by omega) hb ?_; intro v2 w2 hown2 hgrow2 _ hat2; have HO2 := Lib.hid hown2; have HG2 := Lib.hid hgrow2; clear hown2 hgrow2 hat2)
    all_goals go_wp2
    all_goals go_ret
    all_goals exact ⟨_, rfl, by rw [rwCells_app]; simpa using HO2.out, HG2.out⟩
end Go.Proofs.YtkklhhdkokncnaaDoor
/- The walk of 'slices.Insert' at rows, one row, ahead of others: there is room. -/
namespace Go.Proofs.YtkklhhdkokncnaaDoor
open Go Go.RowKit
set_option maxRecDepth 100000
set_option maxHeartbeats 8000000

theorem ins_shift (g cap i : Nat) (cur : Array Value) (L : List Rw) (x : Rw) (vb : Nat) (w : World) (hg : w.heap[g]? = some (.cells cur 39 (0, 0))) (hsz : cur.size = cap * 2) (htk : cur.toList.take (L.length * 2) = rwCells L)
    (hi : i < L.length) (hroom : L.length + 1 ≤ cap) (hcap : cap ≤ maxLen) (hvb : vb ≠ g) (hx : w.heap[vb]? = some (.cells #[.int .u64 x.k, .int .u64 x.v] 39 (0, 0))) :
    Calls Tryd.prog 51 #[.slice (some ⟨g, 0, none⟩) L.length cap, .int .i64 i, .slice (some ⟨vb, 0, none⟩) 1 1] w fun e w' =>
      e = .returned (.slice (some ⟨g, 0, none⟩) (L.length + 1) cap) ∧ w' = (w.drew.setCells g ((i + 1) * 2) ((rwCells L).drop (i * 2))).setCells g (i * 2) (rwCells [x]) := by
  obtain ⟨cs, hcs⟩ : ∃ cs, cs = rwCells L := ⟨_, rfl⟩
  obtain ⟨n, hn⟩ : ∃ n, n = L.length := ⟨_, rfl⟩
  obtain ⟨vs, hvs⟩ : ∃ vs, vs = rwCells [x] := ⟨_, rfl⟩
  have hcl : cs.length = n * 2 := by rw [hcs, rwCells_len, hn]
  have hvl : vs.length = 2 := by rw [hvs]; rfl
  have h1c : ∀ v ∈ cs, v.oneCell' = true := by rw [hcs]; exact rwCells_one L
  have h1v : ∀ v ∈ vs, v.oneCell' = true := by rw [hvs]; exact rwCells_one _
  rw [← hcs, ← hvs, ← hn]
  rw [← hcs, ← hn] at htk
  rw [← hn] at hi hroom
  have hcc : ∀ j v, cs[j]? = some v → w.cell? ⟨g, 0 + j, none⟩ = some v := fun j v hj => by
    rw [cell_of_heap hg, Nat.zero_add]
    have hj2 := (List.getElem?_eq_some_iff.1 hj).1
    rw [← htk, List.getElem?_take, if_pos (by omega)] at hj
    simpa using hj
  have hsp : ∀ j, j < (n + 1) * 2 → (w.cell? ⟨g, 0 + j, none⟩).isSome = true := fun j hj => by
    rw [cell_of_heap hg, Nat.zero_add, Array.getElem?_eq_getElem (by omega)]; rfl
  have hfz : ∀ j, w.frozen? ⟨g, j, none⟩ = false := frozen_of_heap hg
  have hvv : ∀ j v, vs[j]? = some v → w.cell? ⟨vb, 0 + j, none⟩ = some v := fun j v hj => by
    rw [cell_of_heap hx, Nat.zero_add]
    rw [hvs] at hj
    match j, hj with
    | 0, hj => simpa [rwCells, Rw.cells] using hj
    | 1, hj => simpa [rwCells, Rw.cells] using hj
    | j + 2, hj => simp [rwCells, Rw.cells] at hj
  have hov : ∀ lb cb, (callFunc 89 #[.slice (some ⟨vb, 0, none⟩) 1 1, .slice (some ⟨g, (i + 1) * 2, none⟩) lb cb]).run Tryd.prog w = .ok (.value (.bool false)) w := fun lb cb => by
    rw [run_callFunc_extern Tryd.func89 (by kernel_rfl) (by kernel_rfl) (by kernel_rfl) (e := Extern.SlicesOverlaps.overlaps #[47, 47] #[4]) (by kernel_rfl),
      Lib.run_overlaps_apart w 47 4 39 Tryd.underlying47 2 Tryd.sizeOf39 ⟨vb, 0, none⟩ ⟨g, (i + 1) * 2, none⟩ 1 1 lb cb hvb _ _ _ _ (shape_of_heap hx) (shape_of_heap hg) (by omega) (frozen_of_heap hx 0) (frozen_of_heap hx _)]
    rfl
  have hw1 : IntKind.i64.wrap ((i : Int) + 1) = (i : Int) + 1 := by rw [IntKind.wrap_i64]; unfold maxLen at hcap; omega
  have hw2 : IntKind.i64.wrap ((n : Int) + 1) = (n : Int) + 1 := by rw [IntKind.wrap_i64]; unfold maxLen at hcap; omega
  have hz2 : ¬ ((i : Int) = (n : Int)) := by omega
  have hb1 : (0 : Int) ≤ (i : Int) + 1 := by omega
  have hb2 : ¬ (cap = i + 1) := by omega
  have hin : i ≤ n := by omega
  have hb3 : (i : Int) ≤ (n : Int) + 1 := by omega
  have hb4 : ¬ (cap = i) := by omega
  have htn : ((i : Int) + 1).toNat = i + 1 := by omega
  have htn2 : ((n : Int) + 1).toNat = n + 1 := by omega
  have hcap2 : cap ≤ 9223372036854775807 := by unfold maxLen at hcap; omega
  have mixed : Tryd.prog.follows .mixedOrders = true := by kernel_rfl
  have hdl : (cs.drop (i * 2)).length = (n - i) * 2 := by rw [List.length_drop, hcl]; omega
  have hinfo : (Tryd.prog.info? 39).map (·.size) = some 2 := by kernel_rfl
  have hcp1 : ∀ ty dc sc, (Builtin.copy_ #[47, 47] ty #[.slice (some ⟨g, (i + 1) * 2, none⟩) (n - i) dc, .slice (some ⟨g, i * 2, none⟩) (n + 1 - i) sc]).run Tryd.prog w.drew = .ok (goInt (Nat.min (n + 1 - i) (n - i))) (w.drew.setCells g ((i + 1) * 2) (cs.drop (i * 2))) := fun ty dc sc =>
    run_copy_sz w.drew _ _ ty 39 2 g ((i + 1) * 2) (n - i) dc ⟨g, i * 2, none⟩ (n + 1 - i) sc (cs.drop (i * 2)) Tryd.underlying47 hinfo (by rw [hdl]; simp only [Nat.min_def]; split <;> omega)
      (fun j v hj => by
        rw [Addr.add_lit]
        have := hcc (i * 2 + j) v (by rwa [List.getElem?_drop] at hj)
        rwa [Nat.zero_add] at this)
      (fun j hj => by
        have := hsp ((i + 1) * 2 + j) (by omega)
        rwa [Nat.zero_add] at this) (fun j hj => hfz _) (fun v hv => h1c v (List.mem_of_mem_drop hv))
  obtain ⟨W1, hW1⟩ : ∃ W1, W1 = w.drew.setCells g ((i + 1) * 2) (cs.drop (i * 2)) := ⟨_, rfl⟩
  obtain ⟨cur1, hg1, hs1, _⟩ := heap_setCells g 39 (0, 0) (cs.drop (i * 2)) ((i + 1) * 2) w.drew cur hg (by rw [hdl]; omega)
  have hvW : ∀ j v, vs[j]? = some v → W1.cell? ⟨vb, 0 + j, none⟩ = some v := fun j v hj => by
    rw [hW1, World.cell?_setCells_out g _ _ _ _ (fun h _ => absurd h hvb)]
    exact hvv j v hj
  rw [← hW1] at hg1
  have hcp2 : ∀ ty dc, (Builtin.copy_ #[47, 47] ty #[.slice (some ⟨g, i * 2, none⟩) (n + 1 - i) dc, .slice (some ⟨vb, 0, none⟩) 1 1]).run Tryd.prog W1 = .ok (goInt (Nat.min 1 (n + 1 - i))) (W1.setCells g (i * 2) vs) := fun ty dc =>
    run_copy_sz W1 _ _ ty 39 2 g (i * 2) (n + 1 - i) dc ⟨vb, 0, none⟩ 1 1 vs Tryd.underlying47 hinfo (by rw [hvl]; simp only [Nat.min_def]; split <;> omega)
      (fun j v hj => by rw [Addr.add_lit]; exact hvW j v hj)
      (fun j hj => by rw [cell_of_heap hg1, Array.getElem?_eq_getElem (by omega)]; rfl) (fun j hj => frozen_of_heap hg1 _) h1v
  rw [← hW1] at hcp1
  have HCS := Lib.hid hcs
  have HN := Lib.hid hn
  have HVS := Lib.hid hvs
  have HW1 := Lib.hid hW1
  have HCP1 := Lib.hid hcp1
  have HCP2 := Lib.hid hcp2
  clear hcc hsp hvv hcs hn hvs hW1 hvW hcp1 hcp2 hg1 hs1 hfz hg hsz htk hx h1c h1v hcl hvl hdl hinfo
  go_enter Tryd.func51, Tryd.ntmps51
  go_wp2_with (simp only [hov])
  go_region_law (refine step_copy_r rfl (.tmp 73) (.tmp 76) 47 47 rfl (.slice (some ⟨g, (i + 1) * 2, none⟩) (n - i) (cap - (i + 1))) (.slice (some ⟨g, i * 2, none⟩) (n + 1 - i) (cap - i)) (by simp [Act.eval, Act.put]) (by simp [Act.eval, Act.put]) (HCP1.out 3 (cap - (i + 1)) (cap - i)) ?_)
  have hcp2 := HCP2.out
  go_wp2
  go_ret
  exact ⟨rfl, by rw [HW1.out]⟩
end Go.Proofs.YtkklhhdkokncnaaDoor
/- The walk of 'slices.Insert' at rows, one row, ahead of others: there is no room; and all ways together. -/
namespace Go.Proofs.YtkklhhdkokncnaaDoor
open Go Go.RowKit
set_option maxRecDepth 100000
set_option maxHeartbeats 8000000

theorem ins_grow (g cap i : Nat) (cur : Array Value) (L : List Rw) (x : Rw) (vb : Nat) (w : World) (hg : w.heap[g]? = some (.cells cur 39 (0, 0))) (_hsz : cur.size = cap * 2) (htk : cur.toList.take (L.length * 2) = rwCells L)
    (hi : i < L.length) (hlc : L.length ≤ cap) (hroom : cap < L.length + 1) (hl : L.length ≤ 1000) (hx : w.heap[vb]? = some (.cells #[.int .u64 x.k, .int .u64 x.v] 39 (0, 0))) :
    Calls Tryd.prog 51 #[.slice (some ⟨g, 0, none⟩) L.length cap, .int .i64 i, .slice (some ⟨vb, 0, none⟩) 1 1] w fun e w' =>
      ∃ (G : Nat) (new : Array Value), e = .returned (.slice (some ⟨w.heap.size, 0, none⟩) (L.length + 1) G) ∧ L.length + 1 ≤ G ∧ G ≤ maxLen ∧ w'.heap[w.heap.size]? = some (.cells new 39 (0, 0)) ∧ new.size = G * 2 ∧
        new.toList.take ((L.length + 1) * 2) = rwCells (L.take i ++ x :: L.drop i) ∧ w.grownBy w' none := by
  rw [rwCells_ins]
  obtain ⟨cs, hcs⟩ : ∃ cs, cs = rwCells L := ⟨_, rfl⟩
  obtain ⟨n, hn⟩ : ∃ n, n = L.length := ⟨_, rfl⟩
  obtain ⟨vs, hvs⟩ : ∃ vs, vs = rwCells [x] := ⟨_, rfl⟩
  have hcl : cs.length = n * 2 := by rw [hcs, rwCells_len, hn]
  have hvl : vs.length = 2 := by rw [hvs]; rfl
  have h1c : ∀ v ∈ cs, v.oneCell' = true := by rw [hcs]; exact rwCells_one L
  have h1v : ∀ v ∈ vs, v.oneCell' = true := by rw [hvs]; exact rwCells_one _
  rw [← hcs, ← hvs, ← hn]
  rw [← hcs, ← hn] at htk
  rw [← hn] at hi hroom hlc hl
  have hgl : g < w.heap.size := (Array.getElem?_eq_some_iff.1 hg).1
  have hvl2 : vb < w.heap.size := (Array.getElem?_eq_some_iff.1 hx).1
  have hcc : ∀ j v, cs[j]? = some v → w.cell? ⟨g, 0 + j, none⟩ = some v := fun j v hj => by
    rw [cell_of_heap hg, Nat.zero_add]
    have hj2 := (List.getElem?_eq_some_iff.1 hj).1
    rw [← htk, List.getElem?_take, if_pos (by omega)] at hj
    simpa using hj
  have hvv : ∀ j v, vs[j]? = some v → w.cell? ⟨vb, 0 + j, none⟩ = some v := fun j v hj => by
    rw [cell_of_heap hx, Nat.zero_add]
    rw [hvs] at hj
    match j, hj with
    | 0, hj => simpa [rwCells, Rw.cells] using hj
    | 1, hj => simpa [rwCells, Rw.cells] using hj
    | j + 2, hj => simp [rwCells, Rw.cells] at hj
  obtain ⟨ti, hi0, hz0, hzs, hzb⟩ := info_parts info_row
  have hinfo : (Tryd.prog.info? 39).map (·.size) = some 2 := by kernel_rfl
  have hkk : (n : Int) + 1 - (i : Int) = ((n + 1 - i : Nat) : Int) := by omega
  have hik : i + (n + 1 - i) = n + 1 := by omega
  have hold : (Builtin.firstCells ti.size i (.slice (some ⟨g, 0, none⟩) i cap)).run Tryd.prog w.drew = .ok (cs.take (i * 2)).toArray w.drew := by
    rw [hzs]
    exact run_firstCells_some w.drew 2 i ⟨g, 0, none⟩ i cap (cs.take (i * 2)) (by rw [List.length_take]; omega) (fun j v hj => by
      rw [Addr.add_lit]
      rw [List.getElem?_take] at hj
      split at hj
      · exact hcc j v hj
      · cases hj)
  obtain ⟨G, hG⟩ : ∃ G, G = grownCap w (n + 1) cap 39 := ⟨_, rfl⟩
  have hrz : ∀ ty, (Builtin.append_ #[47, 3] ty #[.slice (some ⟨g, 0, none⟩) i cap, .int .i64 ((n : Int) + 1 - (i : Int))]).run Tryd.prog w =
      .ok (.slice (some ⟨w.heap.size, 0, none⟩) (n + 1) G) (w.drew.alloc (.cells ((cs.take (i * 2)).toArray ++ Builtin.zeroCells (Value.cells (.agg #[.int .u64 0, .int .u64 0])) (n + 1 - i) ++ Builtin.zeroCells (Value.cells (.agg #[.int .u64 0, .int .u64 0])) (G - (n + 1))) 39)) := fun ty => by
    have h := Lib.run_append_grow_zeros w 47 3 ty 39 ti _ .i64 .i64 Tryd.underlying47 Tryd.underlying3 hi0 hz0 (some ⟨g, 0, none⟩) i cap (cs.take (i * 2)) hold (n + 1 - i) (by omega) (by omega) (by omega) (by omega) (by rw [hzb]; omega) (by rw [hzb, hik]; exact growslice_fits hroom (by omega))
    rw [hik] at h
    rw [hkk, hG]
    exact h
  have hGn : n + 1 ≤ G := by rw [hG]; exact grownCap_ge w _ _ _
  have hG63 : G ≤ maxLen := by rw [hG]; exact grownCap_le_maxLen w (n + 1) cap 39 (by unfold maxLen; omega)
  obtain ⟨B, hB⟩ : ∃ B : Array Value, B = (cs.take (i * 2)).toArray ++ Builtin.zeroCells (Value.cells (.agg #[.int .u64 0, .int .u64 0])) (n + 1 - i) ++ Builtin.zeroCells (Value.cells (.agg #[.int .u64 0, .int .u64 0])) (G - (n + 1)) := ⟨_, rfl⟩
  have hz2 : (Value.cells (.agg #[.int .u64 0, .int .u64 0])).size = 2 := rfl
  have hBs : B.size = G * 2 := by
    rw [hB, Array.size_append, Array.size_append, size_zeroCells, size_zeroCells, hz2]
    simp; omega
  have hB0 : ∀ k, k < i * 2 → B[k]? = cs[k]? := fun k hk => by
    rw [hB, Array.append_assoc, Array.getElem?_append_left (by simp; omega)]
    simp [hk]
  rw [← hB] at hrz
  obtain ⟨W1, hW1⟩ : ∃ W1, W1 = w.drew.alloc (.cells B 39) := ⟨_, rfl⟩
  rw [← hW1] at hrz
  have hN1 : W1.heap[w.heap.size]? = some (.cells B 39 (0, 0)) := by rw [hW1]; exact heap_alloc_new w.drew _
  have hO1 : ∀ b, b < w.heap.size → W1.heap[b]? = w.heap[b]? := fun b hb => by
    rw [hW1, alloc_heap, if_neg (by show b ≠ w.heap.size; omega)]; rfl
  obtain ⟨W2, hW2⟩ : ∃ W2, W2 = W1.setCells w.heap.size (i * 2) vs := ⟨_, rfl⟩
  obtain ⟨B2, hN2, hs2, hB2⟩ := heap_setCells w.heap.size 39 (0, 0) vs (i * 2) W1 B hN1 (by omega)
  rw [← hW2] at hN2
  have hdl : (cs.drop (i * 2)).length = (n - i) * 2 := by rw [List.length_drop, hcl]; omega
  obtain ⟨W3, hW3⟩ : ∃ W3, W3 = W2.drew.setCells w.heap.size ((i + 1) * 2) (cs.drop (i * 2)) := ⟨_, rfl⟩
  obtain ⟨B3, hN3, hs3, hB3⟩ := heap_setCells w.heap.size 39 (0, 0) (cs.drop (i * 2)) ((i + 1) * 2) W2.drew B2 hN2 (by rw [hdl]; omega)
  rw [← hW3] at hN3
  have hg1 : w.grownBy W1 none := by rw [hW1]; exact (grown_drew w none).trans (World.grownBy_alloc _ _ _)
  have hg3 : w.grownBy W3 none := by
    have a := (grown_setCells w.heap.size vs (i * 2) W1)
    rw [← hW2] at a
    have b := (grown_setCells w.heap.size (cs.drop (i * 2)) ((i + 1) * 2) W2.drew)
    rw [← hW3] at b
    have c := a.trans ((grown_drew W2 _).trans b)
    exact ⟨c.os.trans hg1.os, c.tape.trans hg1.tape, c.output.trans hg1.output, Nat.le_trans hg1.size c.size, fun k hk _ => (c.block k (Nat.lt_of_lt_of_le hk hg1.size) (fun e => by cases e; omega)).trans (hg1.block k hk (fun e => by cases e))⟩
  have hfin : B3.toList.take ((n + 1) * 2) = cs.take (i * 2) ++ (vs ++ cs.drop (i * 2)) := by
    refine target_of hcl hvl (by omega) hB0 (by omega) (fun k a b => ?_) (fun k a b => ?_) (fun k a => ?_)
    · rw [hB3, if_pos (by omega)]
    · rw [hB3, if_neg (by omega), hB2, if_pos (by omega)]
    · rw [hB3, if_neg (by omega), hB2, if_neg (by omega)]
  have hcpA : ∀ ty dc, (Builtin.copy_ #[47, 47] ty #[.slice (some ⟨w.heap.size, i * 2, none⟩) (n + 1 - i) dc, .slice (some ⟨vb, 0, none⟩) 1 1]).run Tryd.prog W1 = .ok (goInt (Nat.min 1 (n + 1 - i))) W2 := fun ty dc => by
    rw [hW2]
    exact run_copy_sz W1 _ _ ty 39 2 w.heap.size (i * 2) (n + 1 - i) dc ⟨vb, 0, none⟩ 1 1 vs Tryd.underlying47 hinfo (by rw [hvl]; simp only [Nat.min_def]; split <;> omega)
      (fun j v hj => by rw [Addr.add_lit, World.cell?_of_block (w := w) (hO1 vb hvl2)]; exact hvv j v hj)
      (fun j hj => by rw [cell_of_heap hN1, Array.getElem?_eq_getElem (by omega)]; rfl) (fun j hj => frozen_of_heap hN1 _) h1v
  have hcpB : ∀ ty dc sc, (Builtin.copy_ #[47, 47] ty #[.slice (some ⟨w.heap.size, (i + 1) * 2, none⟩) (n - i) dc, .slice (some ⟨g, i * 2, none⟩) (n - i) sc]).run Tryd.prog W2.drew = .ok (goInt (Nat.min (n - i) (n - i))) W3 := fun ty dc sc => by
    rw [hW3]
    exact run_copy_sz W2.drew _ _ ty 39 2 w.heap.size ((i + 1) * 2) (n - i) dc ⟨g, i * 2, none⟩ (n - i) sc (cs.drop (i * 2)) Tryd.underlying47 hinfo (by rw [hdl]; simp only [Nat.min_def]; split <;> omega)
      (fun j v hj => by
        have := hcc (i * 2 + j) v (by rwa [List.getElem?_drop] at hj)
        rw [Nat.zero_add] at this
        rw [Addr.add_lit]
        show W2.cell? _ = _
        rw [hW2, World.cell?_setCells_out _ _ _ _ _ (fun h _ => by dsimp only at h; omega), World.cell?_of_block (w := w) (hO1 g hgl)]
        exact this)
      (fun j hj => by
        show (W2.cell? _).isSome = true
        rw [cell_of_heap hN2, Array.getElem?_eq_getElem (by omega)]; rfl) (fun j hj => by
        show W2.frozen? _ = false
        exact frozen_of_heap hN2 _) (fun v hv => h1c v (List.mem_of_mem_drop hv))
  obtain ⟨tg, htg⟩ : ∃ tg, tg = cs.take (i * 2) ++ (vs ++ cs.drop (i * 2)) := ⟨_, rfl⟩
  rw [← htg] at hfin ⊢
  have F1 := Lib.hid hGn
  have F2 := Lib.hid hG63
  have F3 := Lib.hid hN3
  have F4 : Hid (B3.size = G * 2) := Lib.hid (by rw [hs3, hs2, hBs])
  have F5 := Lib.hid hfin
  have F6 := Lib.hid hg3
  have HCPB := Lib.hid hcpB
  have HN := Lib.hid hn
  have hz3 : (cap : Int) < (n : Int) + 1 := by omega
  have hw1 : IntKind.i64.wrap ((i : Int) + 1) = (i : Int) + 1 := by rw [IntKind.wrap_i64]; omega
  have hz4 : ¬ ((i : Int) = (n : Int)) := by omega
  have hb1 : (0 : Int) ≤ (i : Int) + 1 := by omega
  have hin : i ≤ n := by omega
  have htn : ((i : Int) + 1).toNat = i + 1 := by omega
  have hb3 : (i : Int) ≤ (n : Int) := by omega
  have hci : ¬ (cap = i) := by omega
  have hGi : ¬ (G = i) := by omega
  have hGim : ¬ (G = i + 1) := by omega
  have hG64 : G ≤ 9223372036854775807 := by unfold maxLen at hG63; omega
  clear hcs hvs hn hcl hvl h1c h1v htk hcc hvv hkk hik hold hG hB hz2 hBs hB0 hW1 hN1 hO1 hW2 hN2 hs2 hB2 hdl hW3 hN3 hs3 hB3 hg1 hg3 hfin hcpB hi0 hz0 hzs hzb hinfo hg hx _hsz hG63 htg
  go_enter Tryd.func51, Tryd.ntmps51
  go_wp2_with (at_builtin; refine Lib.wpList_append_run _ rfl _ _ _ _ rfl _ _ rfl rfl _ _ (hrz _) ?_)
  go_region_law (refine step_copy_r rfl (.tmp 50) (.tmp 53) 47 47 rfl (.slice (some ⟨w.heap.size, (i + 1) * 2, none⟩) (n - i) (G - (i + 1))) (.slice (some ⟨g, i * 2, none⟩) (n - i) (cap - i)) (by simp [Act.eval, Act.put]) (by simp [Act.eval, Act.put]) (HCPB.out 3 (G - (i + 1)) (cap - i)) ?_)
  go_wp2
  go_ret
  exact ⟨G, B3, rfl, F1.out, F2.out, F3.out, F4.out, F5.out, F6.out⟩

/-- 'slices.Insert(s, i, x)' into rows of the call's own. -/
theorem ins_any (v : Value) (L : List Rw) (x : Rw) (i : Nat) (hi : i ≤ L.length) (vb base : Nat) (w : World) (hown : w.ownsRow base 39 2 v L.length (rwCells L)) (hn : L.length ≤ 1000) (hb : base ≤ w.heap.size)
    (hx : w.heap[vb]? = some (.cells #[.int .u64 x.k, .int .u64 x.v] 39 (0, 0))) (hvb : v.ownBlock ≠ some vb) :
    Calls Tryd.prog 51 #[v, .int .i64 i, .slice (some ⟨vb, 0, none⟩) 1 1] w (InsP w base v (L.take i ++ x :: L.drop i)) := by
  by_cases he : i = L.length
  · subst he
    rw [List.take_length, List.drop_length]
    exact ins_end v L x vb base w hown hn hb ⟨by rw [cell_of_heap hx]; rfl, by rw [cell_of_heap hx]; rfl⟩
  · have hlt : i < L.length := by omega
    have hlen : (L.take i ++ x :: L.drop i).length = L.length + 1 := by simp; omega
    obtain ⟨_, h2⟩ := hown
    rcases h2 with ⟨_, h0⟩ | ⟨g, cap, cur, rfl, hg, hc, hn', hcap, hs, ht⟩
    · omega
    · by_cases hroom : L.length + 1 ≤ cap
      · have hne : vb ≠ g := fun e => hvb (by rw [e]; rfl)
        refine (ins_shift g cap i cur L x vb w hc hs ht hlt hroom hcap hne hx).mono ?_
        rintro e w' ⟨rfl, rfl⟩
        have hdl : ((rwCells L).drop (i * 2)).length = (L.length - i) * 2 := by rw [List.length_drop, rwCells_len]; omega
        obtain ⟨c1, a1, a2, a3⟩ := heap_setCells g 39 (0, 0) ((rwCells L).drop (i * 2)) ((i + 1) * 2) w.drew cur hc (by rw [hdl]; omega)
        obtain ⟨c2, b1, b2, b3⟩ := heap_setCells g 39 (0, 0) (rwCells [x]) (i * 2) _ c1 a1 (by rw [show (rwCells [x]).length = 2 from rfl]; omega)
        have hvl : (rwCells [x]).length = 2 := rfl
        refine ⟨_, rfl, ⟨by rw [rwCells_len], Or.inr ⟨g, cap, c2, by rw [hlen], hg, b1, by rw [hlen]; exact hroom, hcap, by rw [b2, a2, hs], ?_⟩⟩, ?_⟩
        · rw [hlen, rwCells_ins]
          refine target_of (cur0 := cur) (rwCells_len L) hvl (by omega) (fun k hk => ?_) (by omega) (fun k a b => ?_) (fun k a b => ?_) (fun k a => ?_)
          · rw [← ht, List.getElem?_take, if_pos (by omega), Array.getElem?_toList]
          · rw [b3, if_neg (by omega), a3, if_pos (by omega)]
          · rw [b3, if_pos (by omega)]
          · rw [b3, if_neg (by omega), a3, if_neg (by omega)]
        · exact (grown_drew w _).trans ((grown_setCells g _ _ _).trans (grown_setCells g _ _ _))
      · refine (ins_grow g cap i cur L x vb w hc hs ht hlt hn' (by omega) hn hx).mono ?_
        rintro e w' ⟨G, new, rfl, h1, h2, h3, h4, h5, h6⟩
        refine ⟨_, rfl, ⟨by rw [rwCells_len], Or.inr ⟨_, G, new, by rw [hlen], hb, h3, by rw [hlen]; exact h1, h2, h4, by rw [hlen]; exact h5⟩⟩, ?_⟩
        exact ⟨h6.os, h6.tape, h6.output, h6.size, fun k hk _ => h6.block k hk (fun e => by cases e)⟩
end Go.Proofs.YtkklhhdkokncnaaDoor
/- The walk of 'slices.Delete' at rows, one row, out of a slice of the call's own. -/
namespace Go.Proofs.YtkklhhdkokncnaaDoor
open Go Go.RowKit
set_option maxRecDepth 100000
set_option maxHeartbeats 8000000

theorem cut_of {cs : List Value} {n i : Nat} (hcl : cs.length = n * 2) (hi : i < n) {cur : Array Value} (_hs : n * 2 ≤ cur.size)
    (h1 : ∀ k, i * 2 ≤ k → k < (n - 1) * 2 → cur[k]? = (cs.drop ((i + 1) * 2))[k - i * 2]?) (h3 : ∀ k, k < i * 2 → cur[k]? = cs[k]?) :
    cur.toList.take ((n - 1) * 2) = cs.take (i * 2) ++ cs.drop ((i + 1) * 2) := by
  apply List.ext_getElem?
  intro k
  rw [List.getElem?_take]
  by_cases hk : k < (n - 1) * 2
  · rw [if_pos hk, Array.getElem?_toList]
    by_cases a : k < i * 2
    · rw [h3 k a, List.getElem?_append_left (by simp; omega), List.getElem?_take, if_pos a]
    · rw [List.getElem?_append_right (by simp; omega), List.length_take, Nat.min_eq_left (by omega), h1 k (by omega) hk]
  · rw [if_neg hk, List.getElem?_eq_none (by simp; omega)]
theorem rwCells_del (L : List Rw) (i : Nat) : rwCells (L.take i ++ L.drop (i + 1)) = (rwCells L).take (i * 2) ++ (rwCells L).drop ((i + 1) * 2) := by
  rw [rwCells_app, rwCells_take, rwCells_drop]

theorem del_any (v : Value) (L : List Rw) (i : Nat) (hi : i < L.length) (base : Nat) (w : World) (hown : w.ownsRow base 39 2 v L.length (rwCells L)) (hl : L.length ≤ 1000) :
    Calls Tryd.prog 52 #[v, .int .i64 i, .int .i64 ((i : Int) + 1)] w (InsP w base v (L.take i ++ L.drop (i + 1))) := by
  obtain ⟨_, h2⟩ := hown
  rcases h2 with ⟨_, h0⟩ | ⟨g, cap, cur, rfl, hgb, hg, hlc, hcap, hsz, htk⟩
  · omega
  have hlen : (L.take i ++ L.drop (i + 1)).length = L.length - 1 := by simp; omega
  obtain ⟨cs, hcs⟩ : ∃ cs, cs = rwCells L := ⟨_, rfl⟩
  obtain ⟨n, hn⟩ : ∃ n, n = L.length := ⟨_, rfl⟩
  have hcl : cs.length = n * 2 := by rw [hcs, rwCells_len, hn]
  have h1c : ∀ v ∈ cs, v.oneCell' = true := by rw [hcs]; exact rwCells_one L
  rw [← hcs, ← hn] at htk
  rw [← hn] at hi hlc hl ⊢
  have hcc : ∀ j v, cs[j]? = some v → w.cell? ⟨g, j, none⟩ = some v := fun j v hj => by
    rw [cell_of_heap hg]
    have hj2 := (List.getElem?_eq_some_iff.1 hj).1
    rw [← htk, List.getElem?_take, if_pos (by omega)] at hj
    simpa using hj
  obtain ⟨ti, hi0, hz0, hzs, hzb⟩ := info_parts info_row
  obtain ⟨news, hnews⟩ : ∃ news, news = cs.drop ((i + 1) * 2) := ⟨_, rfl⟩
  have hnl : news.length = (n - (i + 1)) * 2 := by rw [hnews, List.length_drop, hcl]; omega
  have h1n : ∀ v ∈ news, v.oneCell' = true := by rw [hnews]; exact fun v hv => h1c v (List.mem_of_mem_drop hv)
  obtain ⟨A, hA, hsrc⟩ : ∃ A : Addr, (if cap = i + 1 then (some ⟨g, 0, none⟩ : Option Addr) else some ⟨g, (i + 1) * 2, none⟩) = some A ∧ (∀ t u, news[t]? = some u → w.drew.cell? (A.add t) = some u) := by
    by_cases h : cap = i + 1
    · refine ⟨⟨g, 0, none⟩, by simp [h], fun t u hu => ?_⟩
      have h0 : news.length = 0 := by rw [hnl]; omega
      rw [List.length_eq_zero_iff.1 h0] at hu
      simp at hu
    · refine ⟨⟨g, (i + 1) * 2, none⟩, by simp [h], fun t u hu => ?_⟩
      rw [Addr.add_lit]
      rw [hnews, List.getElem?_drop] at hu
      exact hcc _ u hu
  have hsp : ∀ t, t < news.length → (w.drew.cell? ⟨g, 0 + i * 2 + t, none⟩).isSome = true ∧ w.drew.frozen? ⟨g, 0 + i * 2 + t, none⟩ = false := fun t ht => by
    refine ⟨?_, frozen_of_heap (w := w.drew) hg _⟩
    show (w.cell? _).isSome = true
    rw [cell_of_heap hg, Array.getElem?_eq_getElem (by omega)]; rfl
  obtain ⟨W1, hW1⟩ : ∃ W1, W1 = w.drew.setCells g (0 + i * 2) news := ⟨_, rfl⟩
  obtain ⟨c1, a1, a2, a3⟩ := heap_setCells g 39 (0, 0) news (0 + i * 2) w.drew cur hg (by omega)
  rw [← hW1] at a1
  obtain ⟨W2, hW2⟩ : ∃ W2, W2 = W1.setCells g ((n - 1) * 2) [.int .u64 0, .int .u64 0] := ⟨_, rfl⟩
  obtain ⟨c2, b1, b2, b3⟩ := heap_setCells g 39 (0, 0) [.int .u64 0, .int .u64 0] ((n - 1) * 2) W1 c1 a1 (by simp only [List.length_cons, List.length_nil]; omega)
  rw [← hW2] at b1
  have hclr : ∀ ty c, (Builtin.clear_ #[47] ty #[.slice (some ⟨g, (n - 1) * 2, none⟩) 1 c]).run Tryd.prog W1 = .ok (.tuple #[]) W2 := fun ty c => by
    rw [hW2]
    exact run_clear_row W1 _ _ ty Tryd.underlying47 Tryd.zeroValue39 g ((n - 1) * 2) c (fun j hj => by rw [cell_of_heap a1, Array.getElem?_eq_getElem (by omega)]; rfl) (fun j _ => frozen_of_heap a1 _)
  have hfin : c2.toList.take ((n - 1) * 2) = cs.take (i * 2) ++ cs.drop ((i + 1) * 2) := by
    refine cut_of hcl hi (by omega) (fun k a b => ?_) (fun k a => ?_)
    · rw [b3, if_neg (by omega), a3, if_pos (by omega), hnews, Nat.zero_add]
    · rw [b3, if_neg (by omega), a3, if_neg (by omega), ← htk, List.getElem?_take, if_pos (by omega), Array.getElem?_toList]
  have hgr : w.grownBy W2 (some g) := by
    have x1 := grown_setCells g news (0 + i * 2) w.drew
    rw [← hW1] at x1
    have x2 := grown_setCells g [.int .u64 0, .int .u64 0] ((n - 1) * 2) W1
    rw [← hW2] at x2
    exact (grown_drew w _).trans (x1.trans x2)
  have F1 : Hid (InsP w base (.slice (some ⟨g, 0, none⟩) n cap) (L.take i ++ L.drop (i + 1)) (.returned (.slice (some ⟨g, 0, none⟩) (n - 1) cap)) W2) := Lib.hid ⟨_, rfl, ⟨by rw [rwCells_len], Or.inr ⟨g, cap, c2, by rw [hlen, hn], hgb, b1, by rw [hlen]; omega, hcap, by rw [b2, a2, hsz], by rw [hlen, ← hn, hfin, rwCells_del, ← hcs]⟩⟩, hgr⟩
  have HS := Lib.hid hsrc
  have HP := Lib.hid hsp
  have H1 := Lib.hid h1n
  have HNL := Lib.hid hnl
  have HW1 := Lib.hid hW1
  have HI := Lib.hid (And.intro hi0 hzs)
  have hw1 : IntKind.i64.wrap ((i : Int) + 1) = (i : Int) + 1 := by rw [IntKind.wrap_i64]; omega
  have hb1 : (0 : Int) ≤ (i : Int) + 1 := by omega
  have hic : i ≤ cap := by omega
  have hjc : i + 1 ≤ cap := by omega
  have hjn : i + 1 ≤ n := by omega
  have htn : ((i : Int) + 1).toNat = i + 1 := by omega
  have hne : ¬ ((i : Int) = (i : Int) + 1) := by omega
  have hcap2 : cap ≤ 9223372036854775807 := by unfold maxLen at hcap; omega
  have hj3 : (i : Int) + 1 ≤ (n : Int) := by omega
  have hj4 : (i : Int) ≤ (i : Int) + 1 := by omega
  have hrl : i + (n - (i + 1)) = n - 1 := by omega
  have hn1 : n - (n - 1) = 1 := by omega
  clear hcs hn hcl h1c htk hcc hi0 hz0 hzs hzb hnews hnl h1n hsrc hsp hW1 a1 a2 a3 hW2 b1 b2 b3 hfin hgr hg hsz hcap hlen
  go_enter Tryd.func52, Tryd.ntmps52
  go_wp2
  go_region_law (refine step_append_room rfl (.tmp 22) (.tmp 25) 47 rfl 39 ti 2 Tryd.underlying47 HI.out.1 HI.out.2 g 0 i cap (by simp [Act.eval, Act.put]) A (n - (i + 1)) (cap - (i + 1)) news (by simp [Act.eval, Act.put]) HNL.out HS.out H1.out (by omega) HP.out ?_; rw [← HW1.out])
  go_wp2
  go_ret
  exact F1.out
end Go.Proofs.YtkklhhdkokncnaaDoor
