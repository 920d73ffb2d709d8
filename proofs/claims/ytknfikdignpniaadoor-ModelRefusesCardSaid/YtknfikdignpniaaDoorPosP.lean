/- Plain: where a key stands among rows whose keys rise; no program in sight. -/
import Derived.Test.YtknfikdignpniaaDoorRws
namespace Go.Proofs.YtknfikdignpniaaDoor
open Go Go.RowKit
set_option maxRecDepth 100000
set_option maxHeartbeats 8000000

/-- Where the first row stands of which something holds; -1: there is none. -/
def findP (p : Rw → Bool) (L : List Rw) : Int := match L.findIdx? p with | some i => (i : Int) | none => -1
theorem findP_hit {p : Rw → Bool} {L : List Rw} {k : Nat} (h : k < L.length) (h1 : p (L.getD k zrw) = true) (h2 : ∀ j, j < k → p (L.getD j zrw) = false) : findP p L = k := by
  have : L.findIdx? p = some k := by
    rw [List.findIdx?_eq_some_iff_getElem]
    refine ⟨h, by rwa [getD_rw L k h] at h1, fun j hj => ?_⟩
    have := h2 j hj
    rw [getD_rw L j (by omega)] at this
    rw [this]; simp
  unfold findP
  rw [this]
theorem findP_miss {p : Rw → Bool} {L : List Rw} (h2 : ∀ j, j < L.length → p (L.getD j zrw) = false) : findP p L = -1 := by
  have : L.findIdx? p = none := by
    rw [List.findIdx?_eq_none_iff]
    intro x hx
    obtain ⟨j, hj, rfl⟩ := List.getElem_of_mem hx
    have := h2 j hj
    rwa [getD_rw L j hj] at this
  unfold findP
  rw [this]

theorem ofInt_nat (a : Nat) (ha : a < 4611686018427387904) : (BitVec.ofInt 64 (a : Int)).toNat = a := by
  rw [BitVec.ofInt_natCast, BitVec.toNat_ofNat]; exact Nat.mod_eq_of_lt (by omega)
theorem findP_pos {L : List Rw} (q : Int) (hr : Rises L) : ∃ i, i ≤ L.length ∧ (∀ j, j < i → (L.getD j zrw).k < q) ∧ (∀ j, i ≤ j → j < L.length → q ≤ (L.getD j zrw).k) ∧ findP (fun x => decide (q ≤ x.k)) L = if i < L.length then (i : Int) else -1 := by
  induction L with
  | nil => exact ⟨0, Nat.le_refl _, fun j hj => absurd hj (Nat.not_lt_zero _), fun j _ hj => absurd hj (Nat.not_lt_zero _), rfl⟩
  | cons x l ih =>
    obtain ⟨hx, hl⟩ := List.pairwise_cons.1 hr
    by_cases h : q ≤ x.k
    · refine ⟨0, Nat.zero_le _, fun j hj => absurd hj (Nat.not_lt_zero _), fun j _ hj => ?_, ?_⟩
      · cases j with
        | zero => simpa using h
        | succ j =>
          have hj' : j < l.length := by simpa using hj
          have := hx _ (List.getElem_mem hj')
          rw [List.getD_cons_succ, getD_rw l j hj']
          omega
      · rw [if_pos (by simp)]
        exact findP_hit (k := 0) (by simp) (by simpa using h) (fun j hj => absurd hj (Nat.not_lt_zero _))
    · obtain ⟨i, h1, h2, h3, h4⟩ := ih hl
      have h2' : ∀ j, j < i + 1 → ((x :: l).getD j zrw).k < q := fun j hj => by
        cases j with
        | zero => simp; omega
        | succ j => rw [List.getD_cons_succ]; exact h2 j (by omega)
      refine ⟨i + 1, by simp; omega, h2', fun j hj hjl => ?_, ?_⟩
      · cases j with
        | zero => omega
        | succ j => rw [List.getD_cons_succ]; exact h3 j (by omega) (by simpa using hjl)
      · by_cases hi : i < l.length
        · rw [if_pos (by simpa using hi)]
          refine findP_hit (by simpa using hi) ?_ fun j hj => ?_
          · rw [List.getD_cons_succ]; simpa using h3 i (Nat.le_refl _) hi
          · have := h2' j hj
            simp only [decide_eq_false_iff_not]
            omega
        · rw [if_neg (by simpa using hi)]
          refine findP_miss fun j hj => ?_
          have := h2' j (by simp at hj; omega)
          simp only [decide_eq_false_iff_not]
          omega
theorem with_pos {L : List Rw} {q u : Int} {i : Nat} (hi : i ≤ L.length) (h1 : ∀ j, j < i → (L.getD j zrw).k < q) (h2 : ∀ j, i ≤ j → j < L.length → q < (L.getD j zrw).k) : withK q u L = L.take i ++ ⟨q, u⟩ :: L.drop i := by
  induction L generalizing i with
  | nil => obtain rfl : i = 0 := by simpa using hi
           rfl
  | cons x l ih =>
    cases i with
    | zero =>
      have := h2 0 (Nat.le_refl _) (by simp)
      simp only [List.getD_cons_zero] at this
      have a : ¬ x.k < q := by omega
      have b : ¬ x.k = q := by omega
      simp [withK, a, b]
    | succ i =>
      have := h1 0 (by omega)
      simp only [List.getD_cons_zero] at this
      simp only [withK, this, if_true]
      rw [ih (by simpa using hi) (fun j hj => by have := h1 (j + 1) (by omega); rwa [List.getD_cons_succ] at this) (fun j hj hjl => by have := h2 (j + 1) (by omega) (by simpa using hjl); rwa [List.getD_cons_succ] at this)]
      simp
theorem with_at {L : List Rw} {q u z : Int} {i : Nat} (hi : i < L.length) (h1 : ∀ j, j < i → (L.getD j zrw).k < q) (h2 : L.getD i zrw = ⟨q, z⟩) : withK q u L = L.set i ⟨q, u⟩ := by
  induction L generalizing i with
  | nil => simp at hi
  | cons x l ih =>
    cases i with
    | zero =>
      simp only [List.getD_cons_zero] at h2
      subst h2
      simp [withK]
    | succ i =>
      have := h1 0 (by omega)
      simp only [List.getD_cons_zero] at this
      simp only [withK, this, if_true]
      rw [ih (by simpa using hi) (fun j hj => by have := h1 (j + 1) (by omega); rwa [List.getD_cons_succ] at this) (by rwa [List.getD_cons_succ] at h2)]
      rfl
theorem without_at {L : List Rw} {q z : Int} {i : Nat} (hr : Rises L) (hi : i < L.length) (h2 : L.getD i zrw = ⟨q, z⟩) : withoutK q L = L.take i ++ L.drop (i + 1) := by
  induction L generalizing i with
  | nil => simp at hi
  | cons x l ih =>
    obtain ⟨hx, hl⟩ := List.pairwise_cons.1 hr
    rw [withoutK_cons]
    cases i with
    | zero =>
      simp only [List.getD_cons_zero] at h2
      subst h2
      simp only [beq_self_eq_true, if_true, List.nil_append, List.take_zero, List.drop_succ_cons, List.drop_zero]
      unfold withoutK
      rw [List.filter_eq_self]
      intro y hy
      have := hx y hy
      simp only at this
      simp; omega
    | succ i =>
      rw [List.getD_cons_succ] at h2
      have hi' : i < l.length := by simpa using hi
      have := hx _ (List.getElem_mem hi')
      rw [getD_rw l i hi'] at h2
      rw [h2] at this
      have hf : (x.k == q) = false := by simp; simp only at this; omega
      rw [hf, ih hl hi' (by rw [getD_rw l i hi']; exact h2)]
      simp
/-- A key that is there. -/
theorem pos_some {L : List Rw} {q u : Int} (hr : Rises L) (h : look L q = some u) : ∃ i, i < L.length ∧ findP (fun x => decide (q ≤ x.k)) L = i ∧ L.getD i zrw = ⟨q, u⟩ ∧ (∀ z, withK q z L = L.set i ⟨q, z⟩) ∧ withoutK q L = L.take i ++ L.drop (i + 1) := by
  obtain ⟨i, h1, h2, h3, h4⟩ := findP_pos q hr
  obtain ⟨j, hj, _, hg⟩ := findK_look h
  have hij : i ≤ j := by
    rcases Nat.lt_or_ge j i with h | h
    · have := h2 j h
      rw [hg] at this
      simp only at this
      omega
    · exact h
  have e : i = j := by
    rcases Nat.lt_or_ge i j with h | h
    · have a := h3 i (Nat.le_refl _) (by omega)
      have b := rises_at hr h hj
      rw [hg] at b
      simp only at b
      omega
    · omega
  subst e
  exact ⟨i, hj, by rw [h4, if_pos hj], hg, fun z => with_at hj h2 hg, without_at hr hj hg⟩
/-- A key that is not there. -/
theorem pos_none {L : List Rw} {q : Int} (hr : Rises L) (h : look L q = none) : ∃ i, i ≤ L.length ∧ findP (fun x => decide (q ≤ x.k)) L = (if i < L.length then (i : Int) else -1) ∧ (i < L.length → ¬ (L.getD i zrw).k = q) ∧ (∀ z, withK q z L = L.take i ++ ⟨q, z⟩ :: L.drop i) := by
  obtain ⟨i, h1, h2, h3, h4⟩ := findP_pos q hr
  have hne : ∀ j, j < L.length → ¬ (L.getD j zrw).k = q := fun j hj => by
    rw [getD_rw L j hj]
    exact look_none h _ (List.getElem_mem hj)
  exact ⟨i, h1, h4, fun hi => hne i hi, fun z => with_pos h1 h2 fun j hj hjl => by have a := h3 j hj hjl; have b := hne j hjl; omega⟩
/-- A key that is there, and all that is known of its place. -/
theorem at_some {L : List Rw} {q u : Int} (hr : Rises L) (h : look L q = some u) : ∃ i, i < L.length ∧ (∀ j, j < i → (L.getD j zrw).k < q) ∧ L.getD i zrw = ⟨q, u⟩ ∧ (∀ z, withK q z L = L.set i ⟨q, z⟩) ∧ withoutK q L = L.take i ++ L.drop (i + 1) := by
  obtain ⟨i, h1, _, h3, h4, h5⟩ := pos_some hr h
  refine ⟨i, h1, fun j hj => ?_, h3, h4, h5⟩
  have := rises_at hr hj h1
  rw [h3] at this
  exact this
/-- A key that is not there. -/
theorem at_none {L : List Rw} {q : Int} (hr : Rises L) (h : look L q = none) : ∃ i, i ≤ L.length ∧ (∀ j, j < i → (L.getD j zrw).k < q) ∧ (i < L.length → q < (L.getD i zrw).k) ∧ (∀ z, withK q z L = L.take i ++ ⟨q, z⟩ :: L.drop i) := by
  obtain ⟨i, h1, h2, h3, h4⟩ := findP_pos q hr
  have hne : ∀ j, j < L.length → ¬ (L.getD j zrw).k = q := fun j hj => by
    rw [getD_rw L j hj]
    exact look_none h _ (List.getElem_mem hj)
  exact ⟨i, h1, h2, fun hi => by have a := h3 i (Nat.le_refl _) hi; have b := hne i hi; omega, fun z => with_pos h1 h2 fun j hj hjl => by have a := h3 j hj hjl; have b := hne j hjl; omega⟩
/-- The place of the first key that is not less than one. -/
theorem at_any {L : List Rw} (q : Int) (hr : Rises L) : ∃ i, i ≤ L.length ∧ (∀ j, j < i → (L.getD j zrw).k < q) ∧ (∀ j, i ≤ j → j < L.length → q ≤ (L.getD j zrw).k) := by
  obtain ⟨i, h1, h2, h3, _⟩ := findP_pos q hr
  exact ⟨i, h1, h2, h3⟩
theorem look_hit {L : List Rw} {q : Int} {k : Nat} (h : k < L.length) (h1 : (L.getD k zrw).k = q) (h2 : ∀ j, j < k → ¬ (L.getD j zrw).k = q) : look L q = some (L.getD k zrw).v := by
  induction L generalizing k with
  | nil => simp at h
  | cons x l ih =>
    rw [look_cons]
    cases k with
    | zero => simp at h1; simp [h1]
    | succ k =>
      have a := h2 0 (by omega)
      have hf : (x.k == q) = false := by simpa using a
      rw [hf, List.getD_cons_succ]
      rw [List.getD_cons_succ] at h1
      exact ih (by simpa using h) h1 fun j hj => by have := h2 (j + 1) (by omega); rwa [List.getD_cons_succ] at this
theorem look_miss {L : List Rw} {q : Int} (h : ∀ j, j < L.length → ¬ (L.getD j zrw).k = q) : look L q = none := by
  induction L with
  | nil => rfl
  | cons x l ih =>
    have a := h 0 (by simp)
    have hf : (x.k == q) = false := by simpa using a
    rw [look_cons, hf]
    exact ih fun j hj => by have := h (j + 1) (by simpa using hj); rwa [List.getD_cons_succ] at this
end Go.Proofs.YtknfikdignpniaaDoor
