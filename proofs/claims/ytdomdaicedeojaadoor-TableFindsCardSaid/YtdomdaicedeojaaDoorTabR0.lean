/- Plain: the longest prefix that matches, by its definition and by climbing; no program in sight. -/
import Derived.Test.YtdomdaicedeojaaDoorTab2
namespace Go.Proofs.YtdomdaicedeojaaDoor
open Go Go.RowKit

/-- Does the prefix of a node match a leaf? -/
def mB (bits leaf node : Nat) : Bool := decide (leaf / 2 ^ (bits - Nat.log2 node) = node)
theorem log2_le {n b : Nat} (h0 : n ≠ 0) (h : n < 2 ^ (b + 1)) : Nat.log2 n ≤ b := by
  have := (Nat.log2_lt (k := b + 1) h0).2 h
  omega
theorem log2_leaf {b p : Nat} (hp : p < 2 ^ b) : Nat.log2 (2 ^ b + p) = b := by
  have h1 : 2 ^ b + p < 2 ^ (b + 1) := by rw [Nat.pow_succ]; omega
  have h2 := log2_le (n := 2 ^ b + p) (by have := Nat.one_le_two_pow (n := b); omega) h1
  have h3 : ¬ Nat.log2 (2 ^ b + p) < b := by
    intro h
    have := (Nat.log2_lt (k := b) (n := 2 ^ b + p) (by have := Nat.one_le_two_pow (n := b); omega)).1 h
    omega
  omega
theorem log2_half {n : Nat} (h : 2 ≤ n) : Nat.log2 n = Nat.log2 (n / 2) + 1 := by rw [Nat.log2_def]; simp [h]
theorem log2_one {n : Nat} (h : n < 2) : Nat.log2 n = 0 := by rw [Nat.log2_def]; simp; omega
/-- How deep a node above a leaf lies. -/
theorem log2_up {b leaf : Nat} (h : Nat.log2 leaf = b) (k : Nat) (h1 : 1 ≤ leaf / 2 ^ k) : k ≤ b ∧ Nat.log2 (leaf / 2 ^ k) = b - k := by
  induction k with
  | zero => simp [h]
  | succ k ih =>
    have e : leaf / 2 ^ (k + 1) = leaf / 2 ^ k / 2 := by rw [Nat.pow_succ, Nat.div_div_eq_div_mul]
    rw [e] at h1 ⊢
    have h2 : 2 ≤ leaf / 2 ^ k := by omega
    obtain ⟨h3, h4⟩ := ih (by omega)
    have h5 := log2_half h2
    omega
theorem match_up {b leaf : Nat} (h : Nat.log2 leaf = b) (k : Nat) (h1 : 1 ≤ leaf / 2 ^ k) : mB b leaf (leaf / 2 ^ k) = true := by
  obtain ⟨h2, h3⟩ := log2_up h k h1
  unfold mB
  rw [h3, show b - (b - k) = k by omega]
  simp
theorem match_is {b leaf node : Nat} (h : mB b leaf node = true) : leaf / 2 ^ (b - Nat.log2 node) = node := by simpa [mB] using h
theorem div_two (leaf j : Nat) : leaf / 2 ^ j / 2 = leaf / 2 ^ (j + 1) := by rw [Nat.pow_succ, Nat.div_div_eq_div_mul]
theorem climb_none {L : List Rw} (f leaf : Nat) (h : ∀ k, 1 ≤ leaf / 2 ^ k → look L ((leaf / 2 ^ k : Nat) : Int) = none) (j : Nat) : climb L f (leaf / 2 ^ j) = none := by
  induction f generalizing j with
  | zero => rfl
  | succ f ih =>
    simp only [climb]
    split
    · rfl
    · rename_i h0
      rw [h j (Nat.pos_of_ne_zero h0)]
      dsimp only
      rw [div_two]
      exact ih _
theorem climb_some {L : List Rw} (leaf k : Nat) (u : Int) (hk : 1 ≤ leaf / 2 ^ k) (hu : look L ((leaf / 2 ^ k : Nat) : Int) = some u) (h : ∀ j, j < k → look L ((leaf / 2 ^ j : Nat) : Int) = none) :
    ∀ (d j f : Nat), j + d = k → d < f → climb L f (leaf / 2 ^ j) = some u := by
  intro d
  induction d with
  | zero =>
    intro j f hj hf
    obtain rfl : j = k := by omega
    obtain ⟨f, rfl⟩ : ∃ g, f = g + 1 := ⟨f - 1, by omega⟩
    simp only [climb, hu]
    rw [if_neg (by omega)]
  | succ d ih =>
    intro j f hj hf
    obtain ⟨f, rfl⟩ : ∃ g, f = g + 1 := ⟨f - 1, by omega⟩
    have h1 : 1 ≤ leaf / 2 ^ j := by
      have : leaf / 2 ^ k ≤ leaf / 2 ^ j := Nat.div_le_div_left (Nat.pow_le_pow_right (by omega) (by omega)) (Nat.two_pow_pos j)
      omega
    simp only [climb, h j (by omega)]
    rw [if_neg (by omega), div_two]
    exact ih (j + 1) f (by omega) (by omega)
/-- Which row is best among the first: none of them matches, or it matches and none that does lies deeper. -/
def Best (b leaf : Nat) (L : List Rw) (k : Nat) (z : Int) : Prop :=
  (z = -1 ∧ ∀ j, j < k → mB b leaf (L.getD j zrw).k.toNat = false) ∨
  ∃ i : Nat, z = i ∧ i < k ∧ mB b leaf (L.getD i zrw).k.toNat = true ∧ ∀ j, j < k → mB b leaf (L.getD j zrw).k.toNat = true → Nat.log2 (L.getD j zrw).k.toNat ≤ Nat.log2 (L.getD i zrw).k.toNat
theorem Best.zero (b leaf : Nat) (L : List Rw) : Best b leaf L 0 (-1) := Or.inl ⟨rfl, fun _j hj => absurd hj (Nat.not_lt_zero _)⟩
/-- Is the next row better than the best so far? -/
def betterB (b leaf : Nat) (L : List Rw) (k : Nat) (z : Int) : Bool :=
  mB b leaf (L.getD k zrw).k.toNat && (decide (z < 0) || decide (Nat.log2 (L.getD z.toNat zrw).k.toNat < Nat.log2 (L.getD k zrw).k.toNat))
theorem Best.yes {b leaf : Nat} {L : List Rw} {k : Nat} {z : Int} (h : Best b leaf L k z) (hb : betterB b leaf L k z = true) : Best b leaf L (k + 1) k := by
  simp only [betterB, Bool.and_eq_true, Bool.or_eq_true, decide_eq_true_eq] at hb
  obtain ⟨h1, h2⟩ := hb
  refine Or.inr ⟨k, rfl, by omega, h1, fun j hj hm => ?_⟩
  by_cases e : j = k
  · rw [e]; exact Nat.le_refl _
  · rcases h with ⟨_, h⟩ | ⟨i, rfl, hi, _, h⟩
    · rw [h j (by omega)] at hm; cases hm
    · have := h j (by omega) hm
      rw [Int.toNat_natCast] at h2
      omega
theorem Best.no {b leaf : Nat} {L : List Rw} {k : Nat} {z : Int} (h : Best b leaf L k z) (hb : betterB b leaf L k z = false) : Best b leaf L (k + 1) z := by
  rcases h with ⟨rfl, h⟩ | ⟨i, rfl, hi, hm, h⟩
  · refine Or.inl ⟨rfl, fun j hj => ?_⟩
    by_cases e : j = k
    · rw [e]; simpa [betterB] using hb
    · exact h j (by omega)
  · refine Or.inr ⟨i, rfl, by omega, hm, fun j hj hmj => ?_⟩
    by_cases e : j = k
    · subst e
      have h0 : ¬ (i : Int) < 0 := by omega
      simp only [betterB, hmj, Bool.true_and, h0, decide_false, Bool.false_or, Int.toNat_natCast, decide_eq_false_iff_not] at hb
      omega
    · exact h j (by omega) hmj
theorem Best.lt {b leaf : Nat} {L : List Rw} {k : Nat} {z : Int} (h : Best b leaf L k z) : -1 ≤ z ∧ (0 ≤ z → z < k) := by
  rcases h with ⟨rfl, _⟩ | ⟨i, rfl, hi, _⟩ <;> omega
theorem row_mem {L : List Rw} {i : Nat} (hi : i < L.length) : L.getD i zrw ∈ L := by rw [getD_rw L i hi]; exact List.getElem_mem hi
theorem mem_row {L : List Rw} {x : Rw} (h : x ∈ L) : ∃ j, j < L.length ∧ L.getD j zrw = x := by
  obtain ⟨j, hj, e⟩ := List.getElem_of_mem h
  exact ⟨j, hj, by rw [getD_rw L j hj, e]⟩
/-- The best of all rows is what climbing meets first. -/
theorem best_all {c : Cfg} {L : List Rw} {a z : Int} (hr : Rises L) (hok : ∀ x ∈ L, RouteOk c x) (ha : a.toNat < 2 ^ c.bits.toNat) (hb : c.bits.toNat ≤ 6) (h : Best c.bits.toNat (2 ^ c.bits.toNat + a.toNat) L L.length z) :
    (z = -1 → tabLook c L a = none) ∧ (∀ i : Nat, z = i → i < L.length ∧ tabLook c L a = some (L.getD i zrw).v) := by
  obtain ⟨leaf, hleaf⟩ : ∃ leaf, 2 ^ c.bits.toNat + a.toNat = leaf := ⟨_, rfl⟩
  have hlog : Nat.log2 leaf = c.bits.toNat := by rw [← hleaf]; exact log2_leaf ha
  unfold tabLook
  rw [hleaf] at h ⊢
  obtain ⟨b, hbb⟩ : ∃ b, c.bits.toNat = b := ⟨_, rfl⟩
  rw [hbb] at hlog h hb
  -- a row of a node above the leaf
  have key : ∀ k, 1 ≤ leaf / 2 ^ k → (∀ j, j < L.length → mB b leaf (L.getD j zrw).k.toNat = true → ¬ (L.getD j zrw).k.toNat = leaf / 2 ^ k) → look L ((leaf / 2 ^ k : Nat) : Int) = none := by
    intro k hk hh
    cases hl : look L ((leaf / 2 ^ k : Nat) : Int) with
    | none => rfl
    | some u =>
      exfalso
      obtain ⟨j, hj, e⟩ := mem_row (look_mem hl)
      have e2 : (L.getD j zrw).k.toNat = leaf / 2 ^ k := by rw [e]; exact Int.toNat_natCast _
      refine hh j hj ?_ e2
      rw [e2]
      exact match_up hlog k hk
  rcases h with ⟨rfl, h⟩ | ⟨i, rfl, hi, hm, h⟩
  · refine ⟨fun _ => ?_, fun i hi => by omega⟩
    have := climb_none (L := L) 8 leaf (fun k hk => key k hk fun j hj hmj => by rw [h j hj] at hmj; cases hmj) 0
    simpa using this
  · refine ⟨fun hz => by omega, fun i' hi' => ?_⟩
    obtain rfl : i = i' := by omega
    refine ⟨hi, ?_⟩
    have hx := hok _ (row_mem hi)
    have hmi := match_is hm
    have hp : 1 ≤ (L.getD i zrw).k.toNat := by have := hx.1; omega
    have hlook := look_of_mem hr (row_mem hi)
    have hk1 : ((leaf / 2 ^ (b - Nat.log2 (L.getD i zrw).k.toNat) : Nat) : Int) = (L.getD i zrw).k := by rw [hmi]; have := hx.1; omega
    have hd := (log2_up hlog (b - Nat.log2 (L.getD i zrw).k.toNat) (by rw [hmi]; exact hp))
    have := climb_some (L := L) leaf (b - Nat.log2 (L.getD i zrw).k.toNat) (L.getD i zrw).v (by rw [hmi]; exact hp) (by rw [hk1]; exact hlook) (fun j hj => ?_) (b - Nat.log2 (L.getD i zrw).k.toNat) 0 8 (by omega) (by omega)
    · simpa using this
    · have hj1 : 1 ≤ leaf / 2 ^ j := by
        have : leaf / 2 ^ (b - Nat.log2 (L.getD i zrw).k.toNat) ≤ leaf / 2 ^ j := Nat.div_le_div_left (Nat.pow_le_pow_right (by omega) (by omega)) (Nat.two_pow_pos j)
        omega
      refine key j hj1 fun j' hj' hmj' e => ?_
      have h3 := h j' hj' hmj'
      rw [e, (log2_up hlog j hj1).2] at h3
      have h4 := log2_up hlog (b - Nat.log2 (L.getD i zrw).k.toNat) (by rw [hmi]; exact hp)
      rw [hmi] at h4
      have h5 := (log2_up hlog j hj1).1
      omega
/-- The document's test. -/
theorem match_plain {b p node : Nat} (hn : 1 ≤ node) (h2 : node < 2 * 2 ^ b) : decide (((node : Nat) : Int) - ((2 ^ Nat.log2 node : Nat) : Int) = ((p / 2 ^ (b - Nat.log2 node) : Nat) : Int)) = mB b (2 ^ b + p) node := by
  have hd : Nat.log2 node ≤ b := log2_le (by omega) (by rw [Nat.pow_succ]; omega)
  have hs : 2 ^ Nat.log2 node ≤ node := Nat.log2_self_le (by omega)
  obtain ⟨d, hdd⟩ : ∃ d, Nat.log2 node = d := ⟨_, rfl⟩
  have e : (2 ^ b + p) / 2 ^ (b - d) = 2 ^ d + p / 2 ^ (b - d) := by
    have : 2 ^ b = 2 ^ d * 2 ^ (b - d) := by rw [← Nat.pow_add]; congr 1; omega
    rw [this, Nat.add_comm, Nat.add_mul_div_right _ _ (Nat.two_pow_pos _), Nat.add_comm]
  unfold mB
  rw [hdd] at hd hs ⊢
  rw [e, decide_eq_decide]
  omega
end Go.Proofs.YtdomdaicedeojaaDoor
