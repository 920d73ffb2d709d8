/- Plain: where the search stands; rows of the call's own, and other blocks. -/
import Derived.Test.YtmbodooikfmegaaDoorPatA
import Derived.Test.YtmbodooikfmegaaDoorPatL
import Derived.Test.YtmbodooikfmegaaDoorIx
import Derived.Test.YtmbodooikfmegaaDoorDel
import Derived.Test.YtmbodooikfmegaaDoorOwnP
namespace Go.Proofs.YtmbodooikfmegaaDoor.paths
open Go Go.RowKit
set_option maxRecDepth 100000
set_option maxHeartbeats 8000000

theorem bin_pos {L : List Rw} {q : Int} {i : Nat} (h : At L q i) : findP (fun x => decide (q ≤ x.k)) L = if i < L.length then (i : Int) else -1 := by
  by_cases hi : i < L.length
  · rw [if_pos hi]
    exact findP_hit hi (by simpa using h.hi i (Nat.le_refl _) hi) fun j hj => by
      have := h.lo j hj
      simp only [decide_eq_false_iff_not]
      omega
  · rw [if_neg hi]
    exact findP_miss fun j hj => by
      have := h.lo j (by omega)
      simp only [decide_eq_false_iff_not]
      omega
/-- A key that is there: where the search stands. -/
theorem bin_some {L : List Rw} {q u : Int} {i : Nat} (hr : Rises L) (h : At L q i) (hl : look L q = some u) : i < L.length ∧ L.getD i zrw = ⟨q, u⟩ ∧ (∀ z, withK q z L = L.set i ⟨q, z⟩) ∧ withoutK q L = L.take i ++ L.drop (i + 1) := by
  obtain ⟨j, h1, h2, h3, h4, h5⟩ := pos_some hr hl
  rw [bin_pos h] at h2
  split at h2
  · obtain rfl : i = j := by omega
    exact ⟨h1, h3, h4, h5⟩
  · omega
/-- A key that is not there: where its row would stand. -/
theorem bin_none {L : List Rw} {q : Int} {i : Nat} (hr : Rises L) (h : At L q i) (hl : look L q = none) : i ≤ L.length ∧ (i < L.length → ¬ (L.getD i zrw).k = q) ∧ (∀ z, withK q z L = L.take i ++ ⟨q, z⟩ :: L.drop i) := by
  obtain ⟨j, h1, h2, h3, h4⟩ := pos_none hr hl
  rw [bin_pos h] at h2
  have hi := h.le
  have e : i = j := by
    by_cases g1 : i < L.length
    · by_cases g2 : j < L.length
      · rw [if_pos g1, if_pos g2] at h2
        omega
      · rw [if_pos g1, if_neg g2] at h2
        omega
    · by_cases g2 : j < L.length
      · rw [if_neg g1, if_pos g2] at h2
        omega
      · omega
  subst e
  exact ⟨h1, h3, h4⟩
theorem bin_is {L : List Rw} {q : Int} {i : Nat} (hr : Rises L) (h : At L q i) : (decide (i < L.length) && decide ((L.getD i zrw).k = q)) = (look L q).isSome := by
  cases hl : look L q with
  | some u =>
    obtain ⟨h1, h2, _⟩ := bin_some hr h hl
    rw [h2]
    simp [h1]
  | none =>
    obtain ⟨_, h2, _⟩ := bin_none hr h hl
    by_cases hi : i < L.length
    · rw [decide_eq_false (h2 hi)]
      simp
    · simp [hi]
theorem at_ex {L : List Rw} (hr : Rises L) (q : Int) : ∃ i, At L q i := by
  obtain ⟨i, h1, h2, h3, _⟩ := findP_pos q hr
  exact ⟨i, h1, h2, h3⟩
theorem at_uniq {L : List Rw} {q : Int} {i j : Nat} (h1 : At L q i) (h2 : At L q j) : i = j := by
  by_cases h : i < j
  · have a := h2.lo i h
    have b := h1.hi i (Nat.le_refl _) (by have := h2.le; omega)
    omega
  · by_cases h' : j < i
    · have a := h1.lo j h'
      have b := h2.hi j (Nat.le_refl _) (by have := h1.le; omega)
      omega
    · omega
theorem tfind_as (v : Value) (L : List Rw) (q : Int) (hr : Rises L) (hn : L.length ≤ 1000000) (w : World) (hv : Sl w v L.length (rwCells L)) (i : Nat) (hi : At L q i) (b : Bool) (hb : (look L q).isSome = b) :
    Calls Tryd.prog 43 #[v, .int .u64 q] w fun e w' => e = .returned (.tuple #[.int .i64 i, .bool b]) ∧ Ext w w' := by
  refine (tfind_any v L q hr hn w hv).mono fun e w' h => ?_
  obtain ⟨⟨j, rfl, hj⟩, h2⟩ := h
  obtain rfl := at_uniq hj hi
  exact ⟨by rw [bin_is hr hj, hb], h2⟩
abbrev resV (code word : Int) : Value := .agg #[.int .i64 code, .int .u32 word, .slice none 0 0]
/-- A row of the call's own lies in no block of another kind. -/
theorem own_not {w : World} {base : Nat} {e : TypeId} {size n : Nat} {v : Value} {xs : List Value} (h : w.ownsRow base e size v n xs) {k : Nat} {o : Obj} (hk : w.heap[k]? = some o) (hne : ∀ cur fr, o ≠ .cells cur e fr) : ∀ g, v.ownBlock = some g → g ≠ k := by
  intro g hg e'
  subst e'
  obtain ⟨_, h2⟩ := h
  rcases h2 with ⟨rfl, _⟩ | ⟨g2, cap, cur, rfl, _, hc, _⟩
  · cases hg
  · cases hg
    rw [hk] at hc
    exact hne _ _ (Option.some.inj hc)
theorem grown_at {w w' : World} {r : Option Nat} (h : w.grownBy w' r) {k : Nat} {o : Obj} (hk : w.heap[k]? = some o) (hne : ∀ g, r = some g → g ≠ k) : w'.heap[k]? = some o := by
  rw [h.block k (Array.getElem?_eq_some_iff.1 hk).1 (fun e => hne k e.symm rfl)]
  exact hk
theorem own_grown {w w' : World} {r : Option Nat} (h : w.grownBy w' r) {base : Nat} {e : TypeId} {size n : Nat} {v : Value} {xs : List Value} (ho : w.ownsRow base e size v n xs) (hne : ∀ g, r = some g → v.ownBlock ≠ some g) : w'.ownsRow base e size v n xs := by
  obtain ⟨h1, h2⟩ := ho
  refine ⟨h1, ?_⟩
  rcases h2 with h2 | ⟨g, cap, cur, rfl, hg, hc, h3⟩
  · exact Or.inl h2
  · exact Or.inr ⟨g, cap, cur, rfl, hg, grown_at h hc (fun g' hg' e' => hne g' hg' (by rw [e']; rfl)), h3⟩
theorem Lack.grown {w w' : World} {r : Option Nat} (h : w.grownBy w' r) {b n : Nat} {S : List Int} (hl : Lack w b n S) (hne : ∀ g, r = some g → g ≠ b) : Lack w' b n S := by
  obtain ⟨D, ⟨es, clock, hb, r⟩, h2⟩ := hl
  exact ⟨D, ⟨es, clock, grown_at h hb hne, r⟩, h2⟩
theorem Lack.obj {w : World} {b n : Nat} {S : List Int} (hl : Lack w b n S) : ∃ es clock, w.heap[b]? = some (.map es clock) := by
  obtain ⟨D, ⟨es, clock, hb, _⟩, _⟩ := hl
  exact ⟨es, clock, hb⟩
theorem own_ne {w : World} {base base' : Nat} {e e' : TypeId} {size size' n n' : Nat} {v v' : Value} {xs xs' : List Value} (h : w.ownsRow base e size v n xs) (h' : w.ownsRow base' e' size' v' n' xs') (hee : e ≠ e') : ∀ g, v.ownBlock = some g → v'.ownBlock ≠ some g := by
  intro g hg hg'
  obtain ⟨_, h2⟩ := h'
  rcases h2 with ⟨rfl, _⟩ | ⟨g2, cap, cur, rfl, _, hc, _⟩
  · cases hg'
  · obtain rfl : g2 = g := by injection hg'
    exact own_not h hc (fun cur' fr e2 => hee (by cases e2; rfl)) g2 hg rfl
theorem fold_take {ps : List Int} {L : List Rw} {k : Nat} (hk : k < ps.length) : (ps.take (k + 1)).foldl ins0 L = ins0 ((ps.take k).foldl ins0 L) ps[k] := by
  rw [← List.take_append_getElem hk, List.foldl_append]
  rfl
theorem fold_len_le {ps : List Int} : ∀ {L : List Rw}, (ps.foldl ins0 L).length ≤ L.length + ps.length := by
  induction ps with
  | nil => intro L; simp
  | cons p ps ih =>
    intro L
    have h := ih (L := ins0 L p)
    rw [List.foldl_cons]
    have h2 := len_ins0 L p
    rw [List.length_cons]
    split at h2 <;> omega
end Go.Proofs.YtmbodooikfmegaaDoor.paths
