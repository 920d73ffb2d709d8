/- Plain: slices of rows as flat cells in a world; no program in sight. -/
import Derived.Test.YtknfikdignpniaaDoorOwnI
import Derived.Test.YtknfikdignpniaaDoorRowsP
import Derived.Laws.AppendOwnNone
namespace Go.Proofs.YtknfikdignpniaaDoor
open Go Go.RowKit
set_option maxRecDepth 100000
set_option maxHeartbeats 8000000

abbrev zrw : Rw := ⟨0, 0⟩
/-- A row's two words lie there. -/
def RwAt (w : World) (b o : Nat) (x : Rw) : Prop := w.cell? ⟨b, o, none⟩ = some (.int .u64 x.k) ∧ w.cell? ⟨b, o + 1, none⟩ = some (.int .u64 x.v)
theorem RwAt.ext {w w' : World} {b o : Nat} {x : Rw} (h : RwAt w b o x) (e : Ext w w') : RwAt w' b o x := ⟨ext_cell e h.1, ext_cell e h.2⟩
theorem getD_rw (L : List Rw) (i : Nat) (h : i < L.length) : L.getD i zrw = L[i] := by simp [h]
/-- The cells of a row of a slice. -/
theorem SlAt.rw {w : World} {ad : Option Addr} {n cap : Nat} {L : List Rw} (h : SlAt w ad n cap (rwCells L)) {i : Nat} (h1 : i < L.length) :
    ∃ b o, ad = some ⟨b, o, none⟩ ∧ b < w.heap.size ∧ RwAt w b (o + i * 2) (L.getD i zrw) := by
  obtain ⟨c0, c1⟩ := rwCells_at L i h1
  obtain ⟨_, _, h3⟩ := h
  rw [getD_rw L i h1]
  rcases h3 with ⟨_, h⟩ | ⟨b, o, e, hc⟩
  · rw [h] at c0; simp at c0
  · exact ⟨b, o, e, World.block_lt_of_cell? w _ (hc _ _ c0), hc _ _ c0, hc _ _ c1⟩
theorem SlAt.len {w : World} {ad : Option Addr} {n cap : Nat} {cs : List Value} (h : SlAt w ad n cap cs) : n ≤ 9223372036854775807 := by
  have h1 := h.1; have h2 := h.2.1; unfold maxLen at h2; omega
theorem RwsFit.get {L : List Rw} (h : RwsFit L) (i : Nat) : (L.getD i zrw).Fits := by
  by_cases hi : i < L.length
  · rw [getD_rw L i hi]; exact h _ (List.getElem_mem hi)
  · rw [List.getD_eq_getElem?_getD, List.getElem?_eq_none (by omega)]
    exact ⟨by decide, by decide⟩
/-- A row that the call has made itself, of two cells an element: what a reader sees. -/
theorem own_sl2 {w : World} {base : Nat} {e : TypeId} {n : Nat} {v : Value} {L : List Rw} (hn : L.length = n) (h : w.ownsRow base e 2 v n (rwCells L)) : ∃ ad cap, v = .slice ad n cap ∧ SlNo (fun b => base ≤ b) w ad n cap (rwCells L) := by
  obtain ⟨h1, h2⟩ := h
  rcases h2 with ⟨rfl, rfl⟩ | ⟨g, cap, cur, rfl, hg, hc, hn', hcap, hs, ht⟩
  · obtain rfl : L = [] := List.length_eq_zero_iff.1 hn
    exact ⟨_, _, rfl, Nat.le_refl _, by decide, Or.inl ⟨rfl, rfl⟩⟩
  · refine ⟨_, _, rfl, hn', hcap, Or.inr ⟨g, 0, rfl, fun j u hu => ⟨hg, ?_⟩⟩⟩
    have hj : j < (rwCells L).length := (List.getElem?_eq_some_iff.1 hu).1
    rw [← ht, List.getElem?_take] at hu
    split at hu
    · simp only [World.cell?, hc, Option.isSome_none, Bool.false_eq_true, if_false, Nat.zero_add]
      simpa using hu
    · cases hu
theorem own_slB2 {w : World} {base lo : Nat} {e : TypeId} {n : Nat} {v : Value} {L : List Rw} (hn : L.length = n) (h : w.ownsRow base e 2 v n (rwCells L)) (hl : lo ≤ base) : SlB lo w v n (rwCells L) := by
  obtain ⟨ad, cap, rfl, hs⟩ := own_sl2 hn h
  exact ⟨ad, cap, rfl, hs.to fun b _ _ hb hc => ⟨by omega, hc⟩⟩
theorem SlB.nil (lo : Nat) (w : World) : SlB lo w (.slice none 0 0) 0 [] := ⟨none, 0, rfl, Nat.le_refl _, by decide, Or.inl ⟨rfl, rfl⟩⟩
theorem SlB.mono {lo lo' : Nat} {w : World} {v : Value} {n : Nat} {cs : List Value} (h : SlB lo w v n cs) (hl : lo' ≤ lo) : SlB lo' w v n cs := by
  obtain ⟨ad, cap, rfl, hs⟩ := h
  exact ⟨ad, cap, rfl, hs.to fun b _ _ hb hc => ⟨by omega, hc⟩⟩
/-- A slice of rows that lies in a world. -/
def Rws (w : World) (v : Value) (L : List Rw) : Prop := ∃ ad cap, v = .slice ad L.length cap ∧ SlAt w ad L.length cap (rwCells L) ∧ (ad = none → cap = 0)
theorem Rws.sl {w : World} {v : Value} {L : List Rw} (h : Rws w v L) : Sl w v L.length (rwCells L) := by
  obtain ⟨ad, cap, e, h, _⟩ := h
  exact ⟨ad, cap, e, h⟩
theorem Rws.ext {w w' : World} {v : Value} {L : List Rw} (h : Rws w v L) (e : Ext w w') : Rws w' v L := by
  obtain ⟨ad, cap, e1, h, h2⟩ := h
  exact ⟨ad, cap, e1, h.ext e, h2⟩
theorem Rws.nil (w : World) : Rws w (.slice none 0 0) [] := ⟨none, 0, rfl, ⟨Nat.le_refl _, by decide, Or.inl ⟨rfl, rfl⟩⟩, fun _ => rfl⟩
theorem own_rws {w : World} {base : Nat} {e : TypeId} {v : Value} {L : List Rw} (h : w.ownsRow base e 2 v L.length (rwCells L)) : Rws w v L := by
  obtain ⟨ad, cap, rfl, hs⟩ := own_sl2 rfl h
  refine ⟨ad, cap, rfl, hs.at, fun h0 => ?_⟩
  subst h0
  rcases h.2 with ⟨h1, _⟩ | ⟨g, cap', cur, h1, _⟩
  · exact (Value.slice.inj h1).2.2
  · cases (Value.slice.inj h1).1
/-- 'append(s, l...)' of rows to rows of the call's own. -/
theorem wpList_append_rws {P : Program} {w : World} {ops : Array Oper} {rest : List Oper} {o : Oper} {a : Act} {Q : Exit → Act → World → Prop} (hgd : o.guard = none) (s x : Operand) (t : TypeId)
    (ho : o.op = .call { callee := .builtin .append, args := #[s, x], argTypes := #[t, t] })
    (base : Nat) (e : TypeId) (i : TypeInfo) (ht : P.underlying t = some (.slice e)) (hi : P.info? e = some i) (hz : i.zero = some (.agg #[.int .u64 0, .int .u64 0])) (hsize : i.size = 2) (hby : i.bytes = 16)
    (v : Value) (n : Nat) (xs : List Value) (hs : a.eval s = v) (hown : w.ownsRow base e 2 v n xs)
    (u : Value) (L : List Rw) (hu : Rws w u L) (hx : a.eval x = u) (hn : n + L.length ≤ 100000) (hbase : base ≤ w.heap.size)
    (h : ∀ v' w', w'.ownsRow base e 2 v' (n + L.length) (xs ++ rwCells L) → w.grownBy w' v.ownBlock → (v'.ownBlock = v.ownBlock ∨ v'.ownBlock = some w.heap.size) → wpList P ops Q rest (a.put o.dst v') w') : wpList P ops Q (o :: rest) a w := by
  obtain ⟨ad, cap, rfl, hL, hnil⟩ := hu
  cases ad with
  | none =>
    obtain rfl := hnil rfl
    obtain rfl : L = [] := by
      rcases hL.2.2 with ⟨h1, _⟩ | ⟨b, o, h1, _⟩
      · exact List.length_eq_zero_iff.1 h1
      · cases h1
    refine wpList_append_own_none hgd s x t ho base e i 2 ht hi v n xs hs hown hx ?_
    refine h v w (by simpa [rwCells] using hown) ?_ (Or.inl rfl)
    exact ⟨rfl, rfl, rfl, Nat.le_refl _, fun _ _ _ => rfl⟩
  | some ad =>
    refine wpList_append_own_at _ hgd s x t ho base e i _ 2 16 ht hi hz hsize hby rfl (by decide) v n xs hs hown ad L.length cap (rwCells L) hx (rwCells_len L) ?_ (rwCells_one L) (by unfold maxLen; omega) (by omega) hbase (fun v' w' h1 h2 _ h4 => h v' w' h1 h2 h4)
    intro j q hq
    rcases hL.2.2 with ⟨_, h1⟩ | ⟨b, o, h1, h2⟩
    · rw [h1] at hq; simp at hq
    · cases h1
      rw [Addr.add_lit]
      exact h2 j q hq
/-- Rows in which that of a key has a value, as the document's loop makes them. -/
def withF (q u : Int) : Bool → List Rw → List Rw
  | put, [] => if put then [] else [⟨q, u⟩]
  | put, x :: l => (if !put && decide (q ≤ x.k) then [⟨q, u⟩] else []) ++ ((if x.k == q then [] else [x]) ++ withF q u (put || decide (q ≤ x.k)) l)
theorem drop_cons (A : List Rw) (k : Nat) (h : k < A.length) : A.drop k = A.getD k zrw :: A.drop (k + 1) := by
  rw [getD_rw A k h]; exact List.drop_eq_getElem_cons h
theorem withoutK_cons (q : Int) (x : Rw) (l : List Rw) : withoutK q (x :: l) = (if x.k == q then [] else [x]) ++ withoutK q l := by
  unfold withoutK
  rw [List.filter_cons]
  cases h : (x.k == q) <;> simp
theorem withoutK_len (q : Int) (l : List Rw) : (withoutK q l).length ≤ l.length := List.length_filter_le _ _
theorem withF_true (q u : Int) (l : List Rw) : withF q u true l = withoutK q l := by
  induction l with
  | nil => rfl
  | cons x l ih => rw [withoutK_cons]; simp [withF, ih]
theorem withF_len (q u : Int) (p : Bool) (l : List Rw) : (withF q u p l).length ≤ l.length + 1 := by
  induction l generalizing p with
  | nil => cases p <;> simp [withF]
  | cons x l ih =>
    cases p
    · simp only [withF, Bool.not_false, Bool.true_and, Bool.false_or]
      by_cases h : q ≤ x.k
      · have h2 := withoutK_len q l
        simp only [h, decide_true, if_true, withF_true]
        cases (x.k == q) <;> simp <;> omega
      · have := ih false
        simp only [h, decide_false]
        cases (x.k == q) <;> simp <;> omega
    · rw [withF_true]
      have := withoutK_len q (x :: l)
      omega
theorem withF_eq (q u : Int) {l : List Rw} (h : Rises l) : withF q u false l = withK q u l := by
  induction l with
  | nil => rfl
  | cons x l ih =>
    obtain ⟨hx, hl⟩ := List.pairwise_cons.1 h
    simp only [withF, withK]
    by_cases h1 : x.k < q
    · have h2 : ¬ q ≤ x.k := by omega
      have h3 : (x.k == q) = false := by simp; omega
      simp [h1, h2, h3, ih hl]
    · have h2 : q ≤ x.k := by omega
      have h4 : withoutK q l = l := by
        unfold withoutK
        rw [List.filter_eq_self]
        intro y hy
        have := hx y hy
        simp; omega
      simp only [h1, h2, decide_true, Bool.not_false, Bool.true_and, Bool.false_or, if_true, if_false, withF_true, h4]
      by_cases h3 : x.k = q
      · simp [h3]
      · simp [h3]
theorem findK_hit {A : List Rw} {q : Int} {k : Nat} (h : k < A.length) (h1 : (A.getD k zrw).k = q) (h2 : ∀ j, j < k → ¬ (A.getD j zrw).k = q) : findK A q = k := by
  have : A.findIdx? (fun x => x.k == q) = some k := by
    rw [List.findIdx?_eq_some_iff_getElem]
    refine ⟨h, ?_, fun j hj => ?_⟩
    · rw [getD_rw A k h] at h1; simpa using h1
    · have := h2 j hj
      rw [getD_rw A j (by omega)] at this
      simpa using this
  unfold findK
  rw [this]
theorem findK_miss {A : List Rw} {q : Int} (h2 : ∀ j, j < A.length → ¬ (A.getD j zrw).k = q) : findK A q = -1 := by
  have : A.findIdx? (fun x => x.k == q) = none := by
    rw [List.findIdx?_eq_none_iff]
    intro x hx
    obtain ⟨j, hj, rfl⟩ := List.getElem_of_mem hx
    have := h2 j hj
    rw [getD_rw A j hj] at this
    simpa using this
  unfold findK
  rw [this]
theorem rises_at {A : List Rw} (h : Rises A) {i j : Nat} (h1 : i < j) (h2 : j < A.length) : (A.getD i zrw).k < (A.getD j zrw).k := by
  rw [getD_rw A i (by omega), getD_rw A j h2]
  exact List.pairwise_iff_getElem.1 h i j (by omega) h2 h1
theorem rises_of {A : List Rw} (h : ∀ i, i + 1 < A.length → (A.getD i zrw).k < (A.getD (i + 1) zrw).k) : Rises A := by
  rw [← risesB_iff]
  induction A with
  | nil => rfl
  | cons x l ih =>
    cases l with
    | nil => rfl
    | cons y l =>
      have h0 := h 0 (by simp)
      simp at h0
      have := ih fun i hi => by have := h (i + 1) (by simp at hi ⊢; omega); simpa using this
      simp only [risesB, Bool.and_eq_true, decide_eq_true_eq] at this ⊢
      exact ⟨h0, this⟩
theorem all_of {L : List Rw} {p : Rw → Bool} (h : ∀ j, j < L.length → p (L.getD j zrw) = true) : L.all p = true := by
  rw [List.all_eq_true]
  intro x hx
  obtain ⟨j, hj, rfl⟩ := List.getElem_of_mem hx
  have := h j hj
  rwa [getD_rw L j hj] at this
theorem all_not {L : List Rw} {p : Rw → Bool} {j : Nat} (hj : j < L.length) (h : p (L.getD j zrw) = false) : L.all p = false := by
  rw [← Bool.not_eq_true, List.all_eq_true]
  intro hh
  have := hh _ (List.getElem_mem hj)
  rw [getD_rw L j hj] at h
  rw [h] at this
  cases this
theorem look_findK {L : List Rw} {k : Int} (h : look L k = none) : findK L k = -1 := by
  refine findK_miss fun j hj => ?_
  rw [getD_rw L j hj]
  exact look_none h _ (List.getElem_mem hj)
theorem findK_look {L : List Rw} {k u : Int} (h : look L k = some u) : ∃ i : Nat, i < L.length ∧ findK L k = i ∧ L.getD i zrw = ⟨k, u⟩ := by
  induction L with
  | nil => simp [look_nil] at h
  | cons x l ih =>
    rw [look_cons] at h
    by_cases hx : x.k = k
    · simp [hx] at h
      refine ⟨0, by simp, ?_, ?_⟩
      · exact findK_hit (k := 0) (by simp) (by simpa using hx) (fun j hj => absurd hj (Nat.not_lt_zero _))
      · cases x; simp_all
    · have hf : (x.k == k) = false := by simpa using hx
      rw [hf] at h
      obtain ⟨i, h1, h2, h3⟩ := ih (by simpa using h)
      refine ⟨i + 1, by simpa using h1, ?_, by simpa using h3⟩
      refine findK_hit (by simpa using h1) (by rw [List.getD_cons_succ, h3]) fun j hj => ?_
      cases j with
      | zero => simpa using hx
      | succ j =>
        have : findK l k = i := h2
        intro e
        have hj' : j < i := by omega
        have e' : (l.getD j zrw).k = k := by simpa using e
        -- the first place is i
        have hmin : ∀ j, j < i → ¬ (l.getD j zrw).k = k := by
          intro j hj
          unfold findK at this
          split at this
          · rename_i i' hi'
            have hii : i' = i := by omega
            subst hii
            rw [List.findIdx?_eq_some_iff_getElem] at hi'
            obtain ⟨a, _, c⟩ := hi'
            have := c j hj
            rw [getD_rw l j (by omega)]
            simpa using this
          · omega
        exact hmin j hj' e'
end Go.Proofs.YtknfikdignpniaaDoor
