/- Plain: a table of routes, and what an operation does with it; no program in sight. -/
import Derived.Test.YtknfikdignpniaaDoorBin
namespace Go.Proofs.YtknfikdignpniaaDoor.table
open Go Go.RowKit
set_option maxRecDepth 100000
set_option maxHeartbeats 8000000

theorem bin_pos {L : List Rw} {q : Int} {i : Nat} (h : At L q i) : findP (fun x => decide (q ≤ x.k)) L = if i < L.length then (i : Int) else -1 := by
  by_cases hi : i < L.length
  · rw [if_pos hi]
    exact findP_hit hi (by simpa using h.hi i (Nat.le_refl _) hi) fun j hj => by
      have := h.lo j hj
      simp only [decide_eq_false_iff_not]
      omega
  · rw [if_neg hi]
    exact findP_miss fun j hj => by
      have := h.lo j (by omega)
      simp only [decide_eq_false_iff_not]
      omega
/-- A key that is there: where the search stands. -/
theorem bin_some {L : List Rw} {q u : Int} {i : Nat} (hr : Rises L) (h : At L q i) (hl : look L q = some u) : i < L.length ∧ L.getD i zrw = ⟨q, u⟩ ∧ (∀ z, withK q z L = L.set i ⟨q, z⟩) ∧ withoutK q L = L.take i ++ L.drop (i + 1) := by
  obtain ⟨j, h1, h2, h3, h4, h5⟩ := pos_some hr hl
  rw [bin_pos h] at h2
  split at h2
  · obtain rfl : i = j := by omega
    exact ⟨h1, h3, h4, h5⟩
  · omega
/-- A key that is not there: where its row would stand. -/
theorem bin_none {L : List Rw} {q : Int} {i : Nat} (hr : Rises L) (h : At L q i) (hl : look L q = none) : i ≤ L.length ∧ (i < L.length → ¬ (L.getD i zrw).k = q) ∧ (∀ z, withK q z L = L.take i ++ ⟨q, z⟩ :: L.drop i) := by
  obtain ⟨j, h1, h2, h3, h4⟩ := pos_none hr hl
  rw [bin_pos h] at h2
  have hi := h.le
  have e : i = j := by
    by_cases g1 : i < L.length
    · by_cases g2 : j < L.length
      · rw [if_pos g1, if_pos g2] at h2
        omega
      · rw [if_pos g1, if_neg g2] at h2
        omega
    · by_cases g2 : j < L.length
      · rw [if_neg g1, if_pos g2] at h2
        omega
      · omega
  subst e
  exact ⟨h1, h3, h4⟩
theorem bin_is {L : List Rw} {q : Int} {i : Nat} (hr : Rises L) (h : At L q i) : (decide (i < L.length) && decide ((L.getD i zrw).k = q)) = (look L q).isSome := by
  cases hl : look L q with
  | some u =>
    obtain ⟨h1, h2, _⟩ := bin_some hr h hl
    rw [h2]
    simp [h1]
  | none =>
    obtain ⟨_, h2, _⟩ := bin_none hr h hl
    by_cases hi : i < L.length
    · rw [decide_eq_false (h2 hi)]
      simp
    · simp [hi]
/-- May rows be a table's? -/
def tabB (c : Cfg) (x : Rw) : Bool := decide (1 ≤ x.k) && decide (x.k < ((2 * 2 ^ c.bits.toNat : Nat) : Int)) && decide (x.v ≤ 2147483647)
def tabIs (c : Cfg) (L : List Rw) : Bool := partOk c && (c.object == 1) && decide ((L.length : Int) ≤ c.cap) && risesB L && L.all (tabB c)
/-- From a leaf to the root: the value of the first row that is met. -/
def climb (L : List Rw) : Nat → Nat → Option Int
  | 0, _ => none
  | f + 1, n => if n = 0 then none else match look L n with | some u => some u | none => climb L f (n / 2)
end Go.Proofs.YtknfikdignpniaaDoor.table
