/- Plain: an index in order, and what an operation does with it; no program in sight. -/
import Derived.Test.YthecacdofbhblaaDoorPosP
namespace Go.Proofs.YthecacdofbhblaaDoor
open Go Go.RowKit

/-- What a row of an index may be. -/
def RowOk (x : Rw) : Prop := (0 ≤ x.k ∧ x.k ≤ 2147483647) ∧ 0 ≤ x.v ∧ x.v ≤ 2147483647
def ordB (x : Rw) : Bool := decide (x.k ≤ 2147483647) && decide (x.v ≤ 2147483647)
/-- May rows be an index's? -/
def ordIs (c : Cfg) (L : List Rw) : Bool := partOk c && (c.object == 2) && decide ((L.length : Int) ≤ c.cap) && risesB L && L.all ordB
theorem ordIs_ok {c : Cfg} {L : List Rw} (hf : RwsFit L) (h : ordIs c L = true) : partOk c = true ∧ c.object = 2 ∧ (L.length : Int) ≤ c.cap ∧ Rises L ∧ ∀ x ∈ L, RowOk x := by
  simp only [ordIs, Bool.and_eq_true, decide_eq_true_eq, List.all_eq_true, beq_iff_eq, risesB_iff] at h
  obtain ⟨⟨⟨⟨h1, h2⟩, h3⟩, h4⟩, h5⟩ := h
  refine ⟨h1, h2, h3, h4, fun x hx => ?_⟩
  have h6 := h5 x hx
  have h7 := hf x hx
  simp [ordB] at h6
  exact ⟨⟨h7.k.1, h6.1⟩, h7.v.1, h6.2⟩
theorem ordIs_mk {c : Cfg} {L M : List Rw} (hf : RwsFit L) (h : ordIs c L = true) (h1 : (M.length : Int) ≤ c.cap) (h2 : Rises M) (h3 : ∀ x ∈ M, RowOk x) : ordIs c M = true := by
  obtain ⟨hp, ho, _, _, _⟩ := ordIs_ok hf h
  simp only [ordIs, Bool.and_eq_true, decide_eq_true_eq, List.all_eq_true, beq_iff_eq, risesB_iff]
  refine ⟨⟨⟨⟨hp, ho⟩, h1⟩, h2⟩, fun x hx => ?_⟩
  obtain ⟨⟨a, b⟩, d, e⟩ := h3 x hx
  simp [ordB, b, e]
/-- What comes of an operation: the rows, the code, the word, the rows that are answered, the error. -/
structure Outc where
  rows : List Rw
  code : Int
  word : Int
  res : List Rw
  err : Int
def ordScan (L : List Rw) (a b : Int) : List Rw := L.filter fun x => decide (a ≤ x.k) && decide (x.k ≤ b)
/-- The last row whose key is not greater. -/
def ordFloor (L : List Rw) (a : Int) : List Rw := L.foldl (fun r x => if x.k ≤ a then [x] else r) []
def ordRead (L : List Rw) (o : Opn) : Outc :=
  if o.kind == 6 then (match look L o.a with | some u => ⟨L, 0, u + 1, [], 0⟩ | none => ⟨L, 6, 0, [], 0⟩)
  else if o.kind == 8 then ⟨L, 0, 0, ordScan L o.a o.b, 0⟩
  else if (ordFloor L o.a).isEmpty then ⟨L, 6, 0, [], 0⟩ else ⟨L, 0, 0, ordFloor L o.a, 0⟩
def ordDone (c : Cfg) (L : List Rw) (o : Opn) : Outc :=
  if decide (6 ≤ o.kind) then ordRead L o
  else if o.kind == 4 then
    (match look L o.a with
     | some u => ⟨withK o.a o.b L, 0, u + 1, [], 0⟩
     | none => if c.cap ≤ (L.length : Int) then ⟨L, 9, 0, [], 0⟩ else ⟨withK o.a o.b L, 0, 0, [], 0⟩)
  else
    (match look L o.a with
     | some u => ⟨withoutK o.a L, 0, u + 1, [], 0⟩
     | none => ⟨L, 6, 0, [], 0⟩)
def ordDo (c : Cfg) (L : List Rw) (o : Opn) : Outc :=
  if partOk c && (c.object == 2) then
    (if ordIs c L then (if opErr c o == 0 then ordDone c L o else ⟨L, opErr c o, 0, [], 0⟩) else ⟨[], 0, 0, [], 2⟩)
  else ⟨[], 0, 0, [], 40⟩
theorem ordDo_conf {c : Cfg} (L : List Rw) (o : Opn) (h : (partOk c && (c.object == 2)) = false) : ordDo c L o = ⟨[], 0, 0, [], 40⟩ := by simp [ordDo, h]
theorem ordDo_arg {c : Cfg} {L : List Rw} (o : Opn) (h : (partOk c && (c.object == 2)) = true) (h2 : ordIs c L = false) : ordDo c L o = ⟨[], 0, 0, [], 2⟩ := by simp [ordDo, h, h2]
theorem ordDo_bad {c : Cfg} {L : List Rw} {o : Opn} (h : (partOk c && (c.object == 2)) = true) (h2 : ordIs c L = true) (h3 : (opErr c o == 0) = false) : ordDo c L o = ⟨L, opErr c o, 0, [], 0⟩ := by simp [ordDo, h, h2, h3]
theorem ordDo_ok {c : Cfg} {L : List Rw} {o : Opn} (h : (partOk c && (c.object == 2)) = true) (h2 : ordIs c L = true) (h3 : (opErr c o == 0) = true) : ordDo c L o = ordDone c L o := by simp [ordDo, h, h2, h3]
/-- The kinds of an operation on an index. -/
theorem ord_kind {c : Cfg} {o : Opn} (hc : c.object = 2) (h : (opErr c o == 0) = true) : partOk c = true ∧ (o.kind = 4 ∨ o.kind = 5 ∨ o.kind = 6 ∨ o.kind = 7 ∨ o.kind = 8) ∧ fitsB c o = true := by
  have h' : opErr c o = 0 := by simpa using h
  unfold opErr at h'
  split at h'
  · rename_i hp
    split at h'
    · rename_i hk
      split at h'
      · rename_i hf
        refine ⟨hp, ?_, hf⟩
        have hk' : objOf o.kind = c.object := by simpa using hk
        rw [hc] at hk'
        unfold objOf at hk'
        split at hk' <;> (try split at hk') <;> (try split at hk') <;> (try split at hk') <;> (try split at hk') <;> omega
      · omega
    · omega
  · omega
theorem ord_fits {c : Cfg} {o : Opn} (h : fitsB c o = true) (k : o.kind = 4 ∨ o.kind = 5 ∨ o.kind = 6 ∨ o.kind = 7 ∨ o.kind = 8) : o.a ≤ 2147483647 ∧ ((o.kind = 4 ∨ o.kind = 8) → o.b ≤ 2147483647) := by
  rcases k with k | k | k | k | k <;> simp [fitsB, k] at h <;> omega
theorem ordScan_take {L : List Rw} (a b : Int) (k : Nat) (h : k < L.length) : ordScan (L.take (k + 1)) a b = ordScan (L.take k) a b ++ (if decide (a ≤ (L.getD k zrw).k) && decide ((L.getD k zrw).k ≤ b) then [L.getD k zrw] else []) := by
  unfold ordScan
  rw [List.take_add_one, List.getElem?_eq_getElem h, getD_rw L k h, List.filter_append]
  simp only [Option.toList_some, List.filter_cons, List.filter_nil]
theorem ordFloor_take {L : List Rw} (a : Int) (k : Nat) (h : k < L.length) : ordFloor (L.take (k + 1)) a = if (L.getD k zrw).k ≤ a then [L.getD k zrw] else ordFloor (L.take k) a := by
  unfold ordFloor
  rw [List.take_add_one, List.getElem?_eq_getElem h, getD_rw L k h, List.foldl_append]
  rfl
theorem ordScan_len (L : List Rw) (a b : Int) : (ordScan L a b).length ≤ L.length := List.length_filter_le _ _
theorem ordFloor_len (L : List Rw) (a : Int) : (ordFloor L a).length ≤ 1 := by
  have key : ∀ r : List Rw, r.length ≤ 1 → (L.foldl (fun r x => if x.k ≤ a then [x] else r) r).length ≤ 1 := by
    induction L with
    | nil => exact fun r hr => hr
    | cons x l ih =>
      intro r hr
      rw [List.foldl_cons]
      refine ih _ ?_
      split
      · simp
      · exact hr
  exact key [] (by simp)
/-- The floor is the row ahead of the first greater key. -/
theorem ordFloor_at {L : List Rw} (a : Int) {i : Nat} (hi : i ≤ L.length) (h1 : ∀ j, j < i → (L.getD j zrw).k ≤ a) (h2 : ∀ j, i ≤ j → j < L.length → a < (L.getD j zrw).k) : ordFloor L a = if i = 0 then [] else [L.getD (i - 1) zrw] := by
  have key : ∀ k, k ≤ L.length → ordFloor (L.take k) a = if min k i = 0 then [] else [L.getD (min k i - 1) zrw] := by
    intro k
    induction k with
    | zero => intro _; simp [ordFloor]
    | succ k ih =>
      intro hk
      rw [ordFloor_take a k (by omega), ih (by omega)]
      by_cases h : k < i
      · rw [if_pos (h1 k h), if_neg (by omega), show min (k + 1) i - 1 = k by omega]
      · rw [if_neg (by have := h2 k (by omega) (by omega); omega), show min k i = min (k + 1) i by omega]
  have := key L.length (Nat.le_refl _)
  rw [List.take_length] at this
  rw [this, show min L.length i = i by omega]
theorem ordScan_mem (L : List Rw) (a b : Int) : ∀ x ∈ ordScan L a b, x ∈ L := fun _ hx => (List.mem_filter.1 hx).1
theorem ordScan_fit {L : List Rw} (hf : RwsFit L) (a b : Int) : RwsFit (ordScan L a b) := fun x hx => hf x (ordScan_mem L a b x hx)
end Go.Proofs.YthecacdofbhblaaDoor
