/- Plain: rows in the order of their keys; no program in sight. -/
import Derived.Test.YtknfikdignpniaaDoorPlain
namespace Go.Proofs.YtknfikdignpniaaDoor
open Go Go.RowKit
set_option maxRecDepth 100000
set_option maxHeartbeats 8000000

structure Rw where
  k : Int
  v : Int
  deriving DecidableEq

abbrev Rw.val (x : Rw) : Value := .agg #[.int .u64 x.k, .int .u64 x.v]
def Rw.cells (x : Rw) : List Value := [.int .u64 x.k, .int .u64 x.v]
def rwCells (L : List Rw) : List Value := L.flatMap Rw.cells

structure Rw.Fits (x : Rw) : Prop where
  k : 0 ≤ x.k ∧ x.k ≤ 18446744073709551615
  v : 0 ≤ x.v ∧ x.v ≤ 18446744073709551615
def RwsFit (L : List Rw) : Prop := ∀ x ∈ L, x.Fits

theorem rwCells_nil : rwCells [] = [] := rfl
theorem rwCells_cons (x : Rw) (L : List Rw) : rwCells (x :: L) = .int .u64 x.k :: .int .u64 x.v :: rwCells L := rfl
theorem rwCells_len (L : List Rw) : (rwCells L).length = L.length * 2 := by
  induction L with
  | nil => rfl
  | cons x L ih => rw [rwCells_cons]; simp [ih]; omega
theorem rwCells_app (L M : List Rw) : rwCells (L ++ M) = rwCells L ++ rwCells M := by simp [rwCells]
theorem rwCells_at (L : List Rw) (i : Nat) (h : i < L.length) : (rwCells L)[i * 2]? = some (.int .u64 L[i].k) ∧ (rwCells L)[i * 2 + 1]? = some (.int .u64 L[i].v) := by
  induction L generalizing i with
  | nil => simp at h
  | cons x L ih =>
    rw [rwCells_cons]
    cases i with
    | zero => exact ⟨rfl, rfl⟩
    | succ i =>
      have e : (i + 1) * 2 = i * 2 + 2 := by omega
      have := ih i (by simpa using h)
      simp only [e, List.getElem_cons_succ]
      exact this
theorem rwCells_one (L : List Rw) : ∀ u ∈ rwCells L, u.oneCell' = true := by
  intro u hu
  obtain ⟨x, _, hx⟩ := List.mem_flatMap.1 hu
  simp [Rw.cells] at hx
  rcases hx with rfl | rfl <;> rfl

/-- Do the keys rise? -/
def Rises (L : List Rw) : Prop := L.Pairwise fun x y => x.k < y.k
def risesB : List Rw → Bool
  | [] => true
  | x :: l => (match l with | [] => true | y :: _ => decide (x.k < y.k)) && risesB l
theorem risesB_iff (L : List Rw) : risesB L = true ↔ Rises L := by
  unfold Rises
  induction L with
  | nil => simp [risesB]
  | cons x l ih =>
    cases l with
    | nil => simp [risesB]
    | cons y l =>
      simp only [risesB, Bool.and_eq_true, decide_eq_true_eq, List.pairwise_cons] at ih ⊢
      constructor
      · rintro ⟨h1, h2⟩
        have h3 := ih.1 h2
        refine ⟨fun z hz => ?_, h3⟩
        rcases List.mem_cons.1 hz with rfl | hz
        · exact h1
        · exact Int.lt_trans h1 (h3.1 z hz)
      · rintro ⟨h1, h2⟩
        exact ⟨h1 y (by simp), ih.2 h2⟩

/-- The value of a key. -/
def look (L : List Rw) (k : Int) : Option Int := (L.find? fun x => x.k == k).map (·.v)
theorem look_nil (k : Int) : look [] k = none := rfl
theorem look_cons (x : Rw) (L : List Rw) (k : Int) : look (x :: L) k = if x.k == k then some x.v else look L k := by
  unfold look
  rw [List.find?_cons]
  split <;> simp_all
theorem look_of_lt {L : List Rw} {k : Int} (h : ∀ x ∈ L, k < x.k) : look L k = none := by
  induction L with
  | nil => rfl
  | cons x L ih =>
    rw [look_cons]
    have h1 := h x (by simp)
    have h2 : (x.k == k) = false := by simp; omega
    rw [h2]
    exact ih fun y hy => h y (by simp [hy])

/-- Rows whose keys rise are told by what they say of each key. -/
theorem rows_ext {L M : List Rw} (hL : Rises L) (hM : Rises M) (h : ∀ k, look L k = look M k) : L = M := by
  induction L generalizing M with
  | nil =>
    cases M with
    | nil => rfl
    | cons y M => have := h y.k; simp [look_nil, look_cons] at this
  | cons x L ih =>
    cases M with
    | nil => have := h x.k; simp [look_nil, look_cons] at this
    | cons y M =>
      obtain ⟨hx, hL2⟩ := List.pairwise_cons.1 hL
      obtain ⟨hy, hM2⟩ := List.pairwise_cons.1 hM
      have hk : x.k = y.k := by
        rcases Int.lt_trichotomy x.k y.k with hlt | he | hgt
        · have h1 := h x.k
          have h2 : look (y :: M) x.k = none := look_of_lt fun z hz => by
            rcases List.mem_cons.1 hz with rfl | hz
            · exact hlt
            · exact Int.lt_trans hlt (hy z hz)
          rw [h2, look_cons] at h1
          simp at h1
        · exact he
        · have h1 := h y.k
          have h2 : look (x :: L) y.k = none := look_of_lt fun z hz => by
            rcases List.mem_cons.1 hz with rfl | hz
            · exact hgt
            · exact Int.lt_trans hgt (hx z hz)
          rw [h2, look_cons] at h1
          simp at h1
      have hv : x.v = y.v := by
        have h1 := h x.k
        rw [look_cons, look_cons] at h1
        simpa [hk] using h1
      have e : x = y := by cases x; cases y; simp_all
      subst e
      congr 1
      refine ih hL2 hM2 fun k => ?_
      by_cases hkk : x.k = k
      · subst hkk
        rw [look_of_lt hx, look_of_lt hy]
      · have h1 := h k
        have hf : (x.k == k) = false := by simpa using hkk
        rw [look_cons, look_cons, hf] at h1
        simpa using h1

/-- Rows in which that of a key has a value. -/
def withK (k v : Int) : List Rw → List Rw
  | [] => [⟨k, v⟩]
  | x :: l => if x.k < k then x :: withK k v l else if x.k = k then ⟨k, v⟩ :: l else ⟨k, v⟩ :: x :: l
/-- Rows without that of a key. -/
def withoutK (k : Int) (L : List Rw) : List Rw := L.filter fun x => !(x.k == k)

theorem withK_mem {k v : Int} {L : List Rw} {x : Rw} (h : x ∈ withK k v L) : x = ⟨k, v⟩ ∨ x ∈ L := by
  induction L with
  | nil => simpa [withK] using h
  | cons y l ih =>
    simp only [withK] at h
    split at h
    · rcases List.mem_cons.1 h with h | h
      · exact Or.inr (by simp [h])
      · rcases ih h with h | h
        · exact Or.inl h
        · exact Or.inr (by simp [h])
    · split at h
      · rcases List.mem_cons.1 h with h | h
        · exact Or.inl h
        · exact Or.inr (by simp [h])
      · rcases List.mem_cons.1 h with h | h
        · exact Or.inl h
        · exact Or.inr h
theorem rises_withK (k v : Int) {L : List Rw} (h : Rises L) : Rises (withK k v L) := by
  induction L with
  | nil => simp [withK, Rises]
  | cons x l ih =>
    obtain ⟨hx, hl⟩ := List.pairwise_cons.1 h
    simp only [withK]
    split
    · rename_i hlt
      refine List.pairwise_cons.2 ⟨fun y hy => ?_, ih hl⟩
      rcases withK_mem hy with rfl | hy
      · exact hlt
      · exact hx y hy
    · split
      · rename_i he
        exact List.pairwise_cons.2 ⟨fun y hy => by have := hx y hy; dsimp only; omega, hl⟩
      · rename_i h1 h2
        refine List.pairwise_cons.2 ⟨fun y hy => ?_, h⟩
        rcases List.mem_cons.1 hy with rfl | hy
        · dsimp only; omega
        · have := hx y hy; dsimp only; omega
theorem look_withK (k v : Int) {L : List Rw} (h : Rises L) (j : Int) : look (withK k v L) j = if k = j then some v else look L j := by
  induction L with
  | nil => simp [withK, look_cons, look_nil]
  | cons x l ih =>
    obtain ⟨hx, hl⟩ := List.pairwise_cons.1 h
    simp only [withK]
    split
    · rename_i hlt
      rw [look_cons, look_cons, ih hl]
      by_cases h1 : x.k = j
      · subst h1
        simp
        intro h2
        omega
      · have hf : (x.k == j) = false := by simpa using h1
        simp [hf]
    · split
      · rename_i he
        rw [look_cons, look_cons]
        subst he
        simp only [beq_iff_eq]
        split <;> rfl
      · rename_i h1 h2
        rw [look_cons]
        simp
theorem rises_withoutK (k : Int) {L : List Rw} (h : Rises L) : Rises (withoutK k L) := List.Pairwise.filter _ h
theorem look_withoutK (k : Int) (L : List Rw) (j : Int) : look (withoutK k L) j = if k = j then none else look L j := by
  induction L with
  | nil => simp [withoutK, look_nil]
  | cons x l ih =>
    unfold withoutK at ih ⊢
    rw [List.filter_cons]
    by_cases hk : x.k = k
    · have : (!(x.k == k)) = false := by simp [hk]
      rw [this, if_neg (by simp), ih, look_cons]
      by_cases h1 : k = j
      · simp [h1]
      · rw [if_neg h1, if_neg h1]
        have hf : (x.k == j) = false := by simp; omega
        simp [hf]
    · have : (!(x.k == k)) = true := by simp [hk]
      rw [this, if_pos rfl, look_cons, look_cons, ih]
      by_cases h1 : x.k = j
      · subst h1
        have : ¬ k = x.k := by omega
        simp [this]
      · have hf : (x.k == j) = false := by simpa using h1
        simp [hf]

theorem withoutK_sub (k : Int) (L : List Rw) : ∀ x ∈ withoutK k L, x ∈ L := fun _ hx => (List.mem_filter.1 hx).1
theorem withK_len (k v : Int) {L : List Rw} (h : look L k = none) : (withK k v L).length = L.length + 1 := by
  induction L with
  | nil => rfl
  | cons x l ih =>
    rw [look_cons] at h
    have hk : ¬ x.k = k := by
      intro e
      simp [e] at h
    have hf : (x.k == k) = false := by simpa using hk
    rw [hf] at h
    by_cases h1 : x.k < k
    · simp [withK, h1, ih (by simpa using h)]
    · simp [withK, h1, hk]
theorem withK_len_le (k v : Int) (L : List Rw) : L.length ≤ (withK k v L).length ∧ (withK k v L).length ≤ L.length + 1 := by
  induction L with
  | nil => simp [withK]
  | cons x l ih =>
    simp only [withK]
    split
    · simp; exact ih
    · split <;> simp
theorem withK_len_some (k v : Int) {L : List Rw} (hr : Rises L) {u : Int} (h : look L k = some u) : (withK k v L).length = L.length := by
  induction L with
  | nil => simp [look_nil] at h
  | cons x l ih =>
    obtain ⟨hx, hl⟩ := List.pairwise_cons.1 hr
    rw [look_cons] at h
    simp only [withK]
    split
    · rename_i hlt
      have hf : (x.k == k) = false := by simp; omega
      rw [hf] at h
      simp [ih hl (by simpa using h)]
    · split
      · simp
      · rename_i h1 h2
        have hf : (x.k == k) = false := by simp; omega
        rw [hf] at h
        have := look_of_lt (L := l) (k := k) fun y hy => by have := hx y hy; omega
        simp [this] at h
theorem fits_withK {k v : Int} {L : List Rw} (h : RwsFit L) (hk : 0 ≤ k ∧ k ≤ 18446744073709551615) (hv : 0 ≤ v ∧ v ≤ 18446744073709551615) : RwsFit (withK k v L) := fun x hx => by
  rcases withK_mem hx with rfl | hx
  · exact ⟨hk, hv⟩
  · exact h x hx
theorem fits_withoutK {k : Int} {L : List Rw} (h : RwsFit L) : RwsFit (withoutK k L) := fun x hx => h x (withoutK_sub k L x hx)

/-- Where a key's row stands; -1: there is none. -/
def findK (L : List Rw) (k : Int) : Int := match L.findIdx? (fun x => x.k == k) with | some i => (i : Int) | none => -1
theorem look_mem {L : List Rw} {k v : Int} (h : look L k = some v) : ⟨k, v⟩ ∈ L := by
  unfold look at h
  obtain ⟨x, hx, hv⟩ := Option.map_eq_some_iff.1 h
  have h1 := List.mem_of_find?_eq_some hx
  have h2 := List.find?_some hx
  have : x = ⟨k, v⟩ := by cases x; simp_all
  exact this ▸ h1
theorem look_none {L : List Rw} {k : Int} (h : look L k = none) : ∀ x ∈ L, ¬ x.k = k := by
  intro x hx e
  unfold look at h
  have := List.find?_eq_none.1 (Option.map_eq_none_iff.1 h) x hx
  simp [e] at this
theorem look_of_mem {L : List Rw} (hr : Rises L) {x : Rw} (h : x ∈ L) : look L x.k = some x.v := by
  induction L with
  | nil => simp at h
  | cons y l ih =>
    obtain ⟨hy, hl⟩ := List.pairwise_cons.1 hr
    rw [look_cons]
    rcases List.mem_cons.1 h with rfl | h
    · simp
    · have h1 := hy x h
      have hf : (y.k == x.k) = false := by simp; omega
      rw [hf]
      exact ih hl h
end Go.Proofs.YtknfikdignpniaaDoor
