/- Plain: a table of routes, and what an operation does with it; no program in sight. -/
import Derived.Test.YtpaplhkjaniafaaDoorBin
namespace Go.Proofs.YtpaplhkjaniafaaDoor
open Go Go.RowKit
set_option maxRecDepth 100000
set_option maxHeartbeats 8000000

theorem bin_pos {L : List Rw} {q : Int} {i : Nat} (h : At L q i) : findP (fun x => decide (q ≤ x.k)) L = if i < L.length then (i : Int) else -1 := by
  by_cases hi : i < L.length
  · rw [if_pos hi]
    exact findP_hit hi (by simpa using h.hi i (Nat.le_refl _) hi) fun j hj => by
      have := h.lo j hj
      simp only [decide_eq_false_iff_not]
      omega
  · rw [if_neg hi]
    exact findP_miss fun j hj => by
      have := h.lo j (by omega)
      simp only [decide_eq_false_iff_not]
      omega
/-- A key that is there: where the search stands. -/
theorem bin_some {L : List Rw} {q u : Int} {i : Nat} (hr : Rises L) (h : At L q i) (hl : look L q = some u) : i < L.length ∧ L.getD i zrw = ⟨q, u⟩ ∧ (∀ z, withK q z L = L.set i ⟨q, z⟩) ∧ withoutK q L = L.take i ++ L.drop (i + 1) := by
  obtain ⟨j, h1, h2, h3, h4, h5⟩ := pos_some hr hl
  rw [bin_pos h] at h2
  split at h2
  · obtain rfl : i = j := by omega
    exact ⟨h1, h3, h4, h5⟩
  · omega
/-- A key that is not there: where its row would stand. -/
theorem bin_none {L : List Rw} {q : Int} {i : Nat} (hr : Rises L) (h : At L q i) (hl : look L q = none) : i ≤ L.length ∧ (i < L.length → ¬ (L.getD i zrw).k = q) ∧ (∀ z, withK q z L = L.take i ++ ⟨q, z⟩ :: L.drop i) := by
  obtain ⟨j, h1, h2, h3, h4⟩ := pos_none hr hl
  rw [bin_pos h] at h2
  have hi := h.le
  have e : i = j := by
    by_cases g1 : i < L.length
    · by_cases g2 : j < L.length
      · rw [if_pos g1, if_pos g2] at h2
        omega
      · rw [if_pos g1, if_neg g2] at h2
        omega
    · by_cases g2 : j < L.length
      · rw [if_neg g1, if_pos g2] at h2
        omega
      · omega
  subst e
  exact ⟨h1, h3, h4⟩
theorem bin_is {L : List Rw} {q : Int} {i : Nat} (hr : Rises L) (h : At L q i) : (decide (i < L.length) && decide ((L.getD i zrw).k = q)) = (look L q).isSome := by
  cases hl : look L q with
  | some u =>
    obtain ⟨h1, h2, _⟩ := bin_some hr h hl
    rw [h2]
    simp [h1]
  | none =>
    obtain ⟨_, h2, _⟩ := bin_none hr h hl
    by_cases hi : i < L.length
    · rw [decide_eq_false (h2 hi)]
      simp
    · simp [hi]
/-- May rows be a table's? -/
def tabB (c : Cfg) (x : Rw) : Bool := decide (1 ≤ x.k) && decide (x.k < ((2 * 2 ^ c.bits.toNat : Nat) : Int)) && decide (x.v ≤ 2147483647)
def tabIs (c : Cfg) (L : List Rw) : Bool := partOk c && (c.object == 1) && decide ((L.length : Int) ≤ c.cap) && risesB L && L.all (tabB c)
/-- From a leaf to the root: the value of the first row that is met. -/
def climb (L : List Rw) : Nat → Nat → Option Int
  | 0, _ => none
  | f + 1, n => if n = 0 then none else match look L n with | some u => some u | none => climb L f (n / 2)
end Go.Proofs.YtpaplhkjaniafaaDoor
/- Plain: what an operation does with a table of routes; no program in sight. -/
namespace Go.Proofs.YtpaplhkjaniafaaDoor
open Go Go.RowKit
set_option maxRecDepth 100000
set_option maxHeartbeats 8000000

/-- What a row of a table may be. -/
def RouteOk (c : Cfg) (x : Rw) : Prop := (1 ≤ x.k ∧ x.k < ((2 * 2 ^ c.bits.toNat : Nat) : Int)) ∧ 0 ≤ x.v ∧ x.v ≤ 2147483647
theorem tabIs_ok {c : Cfg} {L : List Rw} (hf : RwsFit L) (h : tabIs c L = true) : partOk c = true ∧ c.object = 1 ∧ (L.length : Int) ≤ c.cap ∧ Rises L ∧ ∀ x ∈ L, RouteOk c x := by
  simp only [tabIs, Bool.and_eq_true, decide_eq_true_eq, List.all_eq_true, beq_iff_eq, risesB_iff] at h
  obtain ⟨⟨⟨⟨h1, h2⟩, h3⟩, h4⟩, h5⟩ := h
  refine ⟨h1, h2, h3, h4, fun x hx => ?_⟩
  have h6 := h5 x hx
  have h7 := hf x hx
  simp only [tabB, Bool.and_eq_true, decide_eq_true_eq] at h6
  exact ⟨⟨h6.1.1, h6.1.2⟩, h7.v.1, h6.2⟩
theorem tabIs_mk {c : Cfg} {L M : List Rw} (hf : RwsFit L) (h : tabIs c L = true) (h1 : (M.length : Int) ≤ c.cap) (h2 : Rises M) (h3 : ∀ x ∈ M, RouteOk c x) : tabIs c M = true := by
  obtain ⟨hp, ho, _, _, _⟩ := tabIs_ok hf h
  simp only [tabIs, Bool.and_eq_true, decide_eq_true_eq, List.all_eq_true, beq_iff_eq, risesB_iff]
  refine ⟨⟨⟨⟨hp, ho⟩, h1⟩, h2⟩, fun x hx => ?_⟩
  obtain ⟨⟨a, b⟩, d, e⟩ := h3 x hx
  simp only [tabB, Bool.and_eq_true, decide_eq_true_eq]
  exact ⟨⟨a, b⟩, e⟩
/-- What comes of an operation: the rows, the code, the word, the error. -/
structure Outc where
  rows : List Rw
  code : Int
  word : Int
  err : Int
/-- The node of a route's bits. -/
def tabKey (o : Opn) : Int := ((2 ^ o.b.toNat + o.a.toNat : Nat) : Int)
def tabLook (c : Cfg) (L : List Rw) (a : Int) : Option Int := climb L 8 (2 ^ c.bits.toNat + a.toNat)
def tabDone (c : Cfg) (L : List Rw) (o : Opn) : Outc :=
  if o.kind == 3 then (match tabLook c L o.a with | some u => ⟨L, 0, u + 1, 0⟩ | none => ⟨L, 6, 0, 0⟩)
  else if o.kind == 1 then
    (match look L (tabKey o) with
     | some u => ⟨withK (tabKey o) o.c L, 0, u + 1, 0⟩
     | none => if c.cap ≤ (L.length : Int) then ⟨L, 9, 0, 0⟩ else ⟨withK (tabKey o) o.c L, 0, 0, 0⟩)
  else
    (match look L (tabKey o) with
     | some u => ⟨withoutK (tabKey o) L, 0, u + 1, 0⟩
     | none => ⟨L, 6, 0, 0⟩)
def tabDo (c : Cfg) (L : List Rw) (o : Opn) : Outc :=
  if partOk c && (c.object == 1) then
    (if tabIs c L then (if opErr c o == 0 then tabDone c L o else ⟨L, opErr c o, 0, 0⟩) else ⟨[], 0, 0, 2⟩)
  else ⟨[], 0, 0, 40⟩
theorem tabDo_conf {c : Cfg} (L : List Rw) (o : Opn) (h : (partOk c && (c.object == 1)) = false) : tabDo c L o = ⟨[], 0, 0, 40⟩ := by simp [tabDo, h]
theorem tabDo_arg {c : Cfg} {L : List Rw} (o : Opn) (h : (partOk c && (c.object == 1)) = true) (h2 : tabIs c L = false) : tabDo c L o = ⟨[], 0, 0, 2⟩ := by simp [tabDo, h, h2]
theorem tabDo_bad {c : Cfg} {L : List Rw} {o : Opn} (h : (partOk c && (c.object == 1)) = true) (h2 : tabIs c L = true) (h3 : (opErr c o == 0) = false) : tabDo c L o = ⟨L, opErr c o, 0, 0⟩ := by simp [tabDo, h, h2, h3]
theorem tabDo_ok {c : Cfg} {L : List Rw} {o : Opn} (h : (partOk c && (c.object == 1)) = true) (h2 : tabIs c L = true) (h3 : (opErr c o == 0) = true) : tabDo c L o = tabDone c L o := by simp [tabDo, h, h2, h3]
theorem tab_kind {c : Cfg} {o : Opn} (hc : c.object = 1) (h : (opErr c o == 0) = true) : partOk c = true ∧ (o.kind = 1 ∨ o.kind = 2 ∨ o.kind = 3) ∧ fitsB c o = true := by
  have h' : opErr c o = 0 := by simpa using h
  unfold opErr at h'
  split at h'
  · rename_i hp
    split at h'
    · rename_i hk
      split at h'
      · rename_i hf
        refine ⟨hp, ?_, hf⟩
        have hk' : objOf o.kind = c.object := by simpa using hk
        rw [hc] at hk'
        unfold objOf at hk'
        split at hk' <;> (try split at hk') <;> (try split at hk') <;> (try split at hk') <;> (try split at hk') <;> omega
      · omega
    · omega
  · omega
/-- What a route's numbers are. -/
theorem tab_route {c : Cfg} {o : Opn} (h : fitsB c o = true) (k : o.kind = 1 ∨ o.kind = 2) : o.b ≤ c.bits ∧ o.a < 2 ^ o.b.toNat ∧ (o.kind = 1 → o.c ≤ 2147483647) ∧ (o.kind = 2 → o.c = 0) := by
  rcases k with k | k
  · simp [fitsB, prefixB, k] at h
    exact ⟨h.2.1, h.2.2, fun _ => h.1, fun e => by omega⟩
  · simp [fitsB, prefixB, k] at h
    exact ⟨h.2.1, h.2.2, fun e => by omega, fun _ => h.1⟩
theorem tab_leaf {c : Cfg} {o : Opn} (h : fitsB c o = true) (k : o.kind = 3) : o.a < 2 ^ c.bits.toNat ∧ o.b = 0 ∧ o.c = 0 := by
  simp [fitsB, k] at h
  exact ⟨h.2, h.1.2, h.1.1⟩
theorem pow_cast (n : Nat) : (2 : Int) ^ n = ((2 ^ n : Nat) : Int) := by simp
/-- The node's bounds. -/
theorem key_bd {c : Cfg} {o : Opn} (ho : o.Fits) (hb : c.bits ≤ 6) (h1 : o.b ≤ c.bits) (h2 : o.a < 2 ^ o.b.toNat) : 1 ≤ tabKey o ∧ tabKey o < ((2 * 2 ^ c.bits.toNat : Nat) : Int) ∧ tabKey o ≤ 127 ∧ o.a.toNat < 2 ^ o.b.toNat ∧ o.b.toNat ≤ 6 := by
  have ha := ho.a; have hbb := ho.b
  rw [pow_cast] at h2
  have h3 : o.a.toNat < 2 ^ o.b.toNat := by omega
  have h4 : o.b.toNat ≤ c.bits.toNat := by omega
  have h5 : 2 ^ o.b.toNat ≤ 2 ^ c.bits.toNat := Nat.pow_le_pow_right (by omega) h4
  have h6 : 2 ^ c.bits.toNat ≤ 2 ^ 6 := Nat.pow_le_pow_right (by omega) (by omega)
  have h7 : 1 ≤ 2 ^ o.b.toNat := Nat.one_le_two_pow
  unfold tabKey
  refine ⟨by omega, by omega, by omega, h3, by omega⟩
theorem leaf_bd {c : Cfg} {a : Int} (ha : 0 ≤ a) (hb : c.bits ≤ 6) (h2 : a < 2 ^ c.bits.toNat) : a.toNat < 2 ^ c.bits.toNat ∧ 2 ^ c.bits.toNat + a.toNat ≤ 127 ∧ c.bits.toNat ≤ 6 := by
  rw [pow_cast] at h2
  have h6 : 2 ^ c.bits.toNat ≤ 2 ^ 6 := Nat.pow_le_pow_right (by omega) (by omega)
  refine ⟨by omega, by omega, by omega⟩
theorem tab_err {c : Cfg} {L : List Rw} {o : Opn} {M : List Rw} {dc dw de : Int} (h : tabDo c L o = ⟨M, dc, dw, de⟩) (he : ¬ de = 0) : M = [] ∧ dc = 0 ∧ tabIs c L = false := by
  cases h1 : (partOk c && (c.object == 1))
  · rw [tabDo_conf L o h1] at h
    cases h
    exact ⟨rfl, rfl, by simp [tabIs, h1]⟩
  · cases h2 : tabIs c L
    · rw [tabDo_arg o h1 h2] at h
      cases h
      exact ⟨rfl, rfl, rfl⟩
    · exfalso
      cases h3 : (opErr c o == 0)
      · rw [tabDo_bad h1 h2 h3] at h
        cases h
        exact he rfl
      · rw [tabDo_ok h1 h2 h3] at h
        unfold tabDone at h
        split at h
        · split at h <;> (cases h; exact he rfl)
        · split at h
          · split at h
            · cases h; exact he rfl
            · split at h <;> (cases h; exact he rfl)
          · split at h <;> (cases h; exact he rfl)
/-- What an answer without an error is. -/
theorem tab_ways {c : Cfg} {L : List Rw} {o : Opn} {M : List Rw} {dc dw : Int} (hf : RwsFit L) (h : tabDo c L o = ⟨M, dc, dw, 0⟩) :
    tabIs c L = true ∧ ((M = L ∧ (¬ dc = 0 ∨ o.kind = 3)) ∨
      (dc = 0 ∧ o.kind = 1 ∧ M = withK (tabKey o) o.c L ∧ o.c ≤ 2147483647 ∧ o.b ≤ c.bits ∧ o.a < 2 ^ o.b.toNat ∧ (M.length : Int) ≤ c.cap ∧ ((look L (tabKey o) = none ∧ dw = 0) ∨ ∃ u, look L (tabKey o) = some u ∧ dw = u + 1)) ∨
      (dc = 0 ∧ o.kind = 2 ∧ M = withoutK (tabKey o) L ∧ o.b ≤ c.bits ∧ o.a < 2 ^ o.b.toNat ∧ ∃ u, look L (tabKey o) = some u ∧ dw = u + 1)) := by
  cases h1 : (partOk c && (c.object == 1))
  · rw [tabDo_conf L o h1] at h
    cases h
  · cases h2 : tabIs c L
    · rw [tabDo_arg o h1 h2] at h
      cases h
    · refine ⟨rfl, ?_⟩
      obtain ⟨_, hobj, hcap, hr, _⟩ := tabIs_ok hf h2
      cases h3 : (opErr c o == 0)
      · rw [tabDo_bad h1 h2 h3] at h
        cases h
        have h3' : ¬ opErr c o = 0 := by simpa using h3
        exact Or.inl ⟨rfl, Or.inl h3'⟩
      · rw [tabDo_ok h1 h2 h3] at h
        obtain ⟨_, hk, hft⟩ := tab_kind hobj h3
        unfold tabDone at h
        split at h
        · rename_i h11
          have h11' : o.kind = 3 := by simpa using h11
          split at h <;> cases h <;> exact Or.inl ⟨rfl, Or.inr h11'⟩
        · rename_i h11
          split at h
          · rename_i h9
            have h9' : o.kind = 1 := by simpa using h9
            obtain ⟨f1, f2, f3, _⟩ := tab_route hft (Or.inl h9')
            split at h
            · rename_i u hu
              cases h
              exact Or.inr (Or.inl ⟨rfl, h9', rfl, f3 h9', f1, f2, by rw [withK_len_some _ _ hr hu]; exact hcap, Or.inr ⟨u, hu, rfl⟩⟩)
            · rename_i hu
              split at h
              · cases h
                exact Or.inl ⟨rfl, Or.inl (by decide)⟩
              · rename_i hc
                cases h
                exact Or.inr (Or.inl ⟨rfl, h9', rfl, f3 h9', f1, f2, by rw [withK_len _ _ hu]; omega, Or.inl ⟨hu, rfl⟩⟩)
          · rename_i h9
            have h10 : o.kind = 2 := by simp at h9 h11; omega
            obtain ⟨f1, f2, _⟩ := tab_route hft (Or.inr h10)
            split at h
            · rename_i u hu
              cases h
              exact Or.inr (Or.inr ⟨rfl, h10, rfl, f1, f2, u, hu, rfl⟩)
            · cases h
              exact Or.inl ⟨rfl, Or.inl (by decide)⟩
theorem tab_is {c : Cfg} {L : List Rw} {o : Opn} {M : List Rw} {dc dw : Int} (hf : RwsFit L) (ho : o.Fits) (h : tabDo c L o = ⟨M, dc, dw, 0⟩) : tabIs c M = true := by
  obtain ⟨hi, hw⟩ := tab_ways hf h
  obtain ⟨hp, _, hcap, hr, hk⟩ := tabIs_ok hf hi
  have hb := (partOk_bits hp).2
  rcases hw with ⟨rfl, _⟩ | ⟨_, _, rfl, h1, h2, h3, h4, _⟩ | ⟨_, _, rfl, _⟩
  · exact hi
  · refine tabIs_mk hf hi h4 (rises_withK _ _ hr) fun x hx => ?_
    rcases withK_mem hx with rfl | hx
    · have := key_bd ho hb h2 h3
      exact ⟨⟨this.1, this.2.1⟩, ho.c.1, h1⟩
    · exact hk x hx
  · refine tabIs_mk hf hi ?_ (rises_withoutK _ hr) fun x hx => hk x (withoutK_sub _ _ x hx)
    have := withoutK_len (tabKey o) L
    omega
theorem tab_same {c : Cfg} {L : List Rw} {o : Opn} {M : List Rw} {dc dw : Int} (hf : RwsFit L) (h : tabDo c L o = ⟨M, dc, dw, 0⟩) (hs : ¬ dc = 0 ∨ o.kind = 3) : M = L := by
  obtain ⟨_, hw⟩ := tab_ways hf h
  rcases hw with ⟨h, _⟩ | ⟨h1, h2, _⟩ | ⟨h1, h2, _⟩
  · exact h
  · omega
  · omega
theorem tab_len {c : Cfg} {L : List Rw} {o : Opn} {M : List Rw} {dc dw de : Int} (hf : RwsFit L) (h : tabDo c L o = ⟨M, dc, dw, de⟩) : M.length ≤ L.length + 1 := by
  by_cases he : de = 0
  · subst he
    obtain ⟨_, hw⟩ := tab_ways hf h
    rcases hw with ⟨rfl, _⟩ | ⟨_, _, rfl, _⟩ | ⟨_, _, rfl, _⟩
    · omega
    · exact (withK_len_le _ _ _).2
    · have := withoutK_len (tabKey o) L; omega
  · rw [(tab_err h he).1]; simp
theorem tab_fit {c : Cfg} {L : List Rw} {o : Opn} {M : List Rw} {dc dw de : Int} (hf : RwsFit L) (ho : o.Fits) (h : tabDo c L o = ⟨M, dc, dw, de⟩) : RwsFit M := by
  by_cases he : de = 0
  · subst he
    obtain ⟨hi, hw⟩ := tab_ways hf h
    obtain ⟨hp, _⟩ := tabIs_ok hf hi
    have hb := (partOk_bits hp).2
    rcases hw with ⟨rfl, _⟩ | ⟨_, _, rfl, _, h2, h3, _⟩ | ⟨_, _, rfl, _⟩
    · exact hf
    · have := key_bd ho hb h2 h3
      have := ho.c
      exact fits_withK hf (by omega) (by omega)
    · exact fits_withoutK hf
  · rw [(tab_err h he).1]; exact fun x hx => by cases hx
end Go.Proofs.YtpaplhkjaniafaaDoor
/- Plain: the longest prefix that matches, by its definition and by climbing; no program in sight. -/
namespace Go.Proofs.YtpaplhkjaniafaaDoor
open Go Go.RowKit
set_option maxRecDepth 100000
set_option maxHeartbeats 8000000

/-- Does the prefix of a node match a leaf? -/
def mB (bits leaf node : Nat) : Bool := decide (leaf / 2 ^ (bits - Nat.log2 node) = node)
theorem log2_le {n b : Nat} (h0 : n ≠ 0) (h : n < 2 ^ (b + 1)) : Nat.log2 n ≤ b := by
  have := (Nat.log2_lt (k := b + 1) h0).2 h
  omega
theorem log2_leaf {b p : Nat} (hp : p < 2 ^ b) : Nat.log2 (2 ^ b + p) = b := by
  have h1 : 2 ^ b + p < 2 ^ (b + 1) := by rw [Nat.pow_succ]; omega
  have h2 := log2_le (n := 2 ^ b + p) (by have := Nat.one_le_two_pow (n := b); omega) h1
  have h3 : ¬ Nat.log2 (2 ^ b + p) < b := by
    intro h
    have := (Nat.log2_lt (k := b) (n := 2 ^ b + p) (by have := Nat.one_le_two_pow (n := b); omega)).1 h
    omega
  omega
theorem log2_half {n : Nat} (h : 2 ≤ n) : Nat.log2 n = Nat.log2 (n / 2) + 1 := by rw [Nat.log2_def]; simp [h]
theorem log2_one {n : Nat} (h : n < 2) : Nat.log2 n = 0 := by rw [Nat.log2_def]; simp; omega
/-- How deep a node above a leaf lies. -/
theorem log2_up {b leaf : Nat} (h : Nat.log2 leaf = b) (k : Nat) (h1 : 1 ≤ leaf / 2 ^ k) : k ≤ b ∧ Nat.log2 (leaf / 2 ^ k) = b - k := by
  induction k with
  | zero => simp [h]
  | succ k ih =>
    have e : leaf / 2 ^ (k + 1) = leaf / 2 ^ k / 2 := by rw [Nat.pow_succ, Nat.div_div_eq_div_mul]
    rw [e] at h1 ⊢
    have h2 : 2 ≤ leaf / 2 ^ k := by omega
    obtain ⟨h3, h4⟩ := ih (by omega)
    have h5 := log2_half h2
    omega
theorem match_up {b leaf : Nat} (h : Nat.log2 leaf = b) (k : Nat) (h1 : 1 ≤ leaf / 2 ^ k) : mB b leaf (leaf / 2 ^ k) = true := by
  obtain ⟨h2, h3⟩ := log2_up h k h1
  unfold mB
  rw [h3, show b - (b - k) = k by omega]
  simp
theorem match_is {b leaf node : Nat} (h : mB b leaf node = true) : leaf / 2 ^ (b - Nat.log2 node) = node := by simpa [mB] using h
theorem div_two (leaf j : Nat) : leaf / 2 ^ j / 2 = leaf / 2 ^ (j + 1) := by rw [Nat.pow_succ, Nat.div_div_eq_div_mul]
theorem climb_none {L : List Rw} (f leaf : Nat) (h : ∀ k, 1 ≤ leaf / 2 ^ k → look L ((leaf / 2 ^ k : Nat) : Int) = none) (j : Nat) : climb L f (leaf / 2 ^ j) = none := by
  induction f generalizing j with
  | zero => rfl
  | succ f ih =>
    simp only [climb]
    split
    · rfl
    · rename_i h0
      rw [h j (Nat.pos_of_ne_zero h0)]
      dsimp only
      rw [div_two]
      exact ih _
theorem climb_some {L : List Rw} (leaf k : Nat) (u : Int) (hk : 1 ≤ leaf / 2 ^ k) (hu : look L ((leaf / 2 ^ k : Nat) : Int) = some u) (h : ∀ j, j < k → look L ((leaf / 2 ^ j : Nat) : Int) = none) :
    ∀ (d j f : Nat), j + d = k → d < f → climb L f (leaf / 2 ^ j) = some u := by
  intro d
  induction d with
  | zero =>
    intro j f hj hf
    obtain rfl : j = k := by omega
    obtain ⟨f, rfl⟩ : ∃ g, f = g + 1 := ⟨f - 1, by omega⟩
    simp only [climb, hu]
    rw [if_neg (by omega)]
  | succ d ih =>
    intro j f hj hf
    obtain ⟨f, rfl⟩ : ∃ g, f = g + 1 := ⟨f - 1, by omega⟩
    have h1 : 1 ≤ leaf / 2 ^ j := by
      have : leaf / 2 ^ k ≤ leaf / 2 ^ j := Nat.div_le_div_left (Nat.pow_le_pow_right (by omega) (by omega)) (Nat.two_pow_pos j)
      omega
    simp only [climb, h j (by omega)]
    rw [if_neg (by omega), div_two]
    exact ih (j + 1) f (by omega) (by omega)
/-- Which row is best among the first: none of them matches, or it matches and none that does lies deeper. -/
def Best (b leaf : Nat) (L : List Rw) (k : Nat) (z : Int) : Prop :=
  (z = -1 ∧ ∀ j, j < k → mB b leaf (L.getD j zrw).k.toNat = false) ∨
  ∃ i : Nat, z = i ∧ i < k ∧ mB b leaf (L.getD i zrw).k.toNat = true ∧ ∀ j, j < k → mB b leaf (L.getD j zrw).k.toNat = true → Nat.log2 (L.getD j zrw).k.toNat ≤ Nat.log2 (L.getD i zrw).k.toNat
theorem Best.zero (b leaf : Nat) (L : List Rw) : Best b leaf L 0 (-1) := Or.inl ⟨rfl, fun _j hj => absurd hj (Nat.not_lt_zero _)⟩
/-- Is the next row better than the best so far? -/
def betterB (b leaf : Nat) (L : List Rw) (k : Nat) (z : Int) : Bool :=
  mB b leaf (L.getD k zrw).k.toNat && (decide (z < 0) || decide (Nat.log2 (L.getD z.toNat zrw).k.toNat < Nat.log2 (L.getD k zrw).k.toNat))
theorem Best.yes {b leaf : Nat} {L : List Rw} {k : Nat} {z : Int} (h : Best b leaf L k z) (hb : betterB b leaf L k z = true) : Best b leaf L (k + 1) k := by
  simp only [betterB, Bool.and_eq_true, Bool.or_eq_true, decide_eq_true_eq] at hb
  obtain ⟨h1, h2⟩ := hb
  refine Or.inr ⟨k, rfl, by omega, h1, fun j hj hm => ?_⟩
  by_cases e : j = k
  · rw [e]; exact Nat.le_refl _
  · rcases h with ⟨_, h⟩ | ⟨i, rfl, hi, _, h⟩
    · rw [h j (by omega)] at hm; cases hm
    · have := h j (by omega) hm
      rw [Int.toNat_natCast] at h2
      omega
theorem Best.no {b leaf : Nat} {L : List Rw} {k : Nat} {z : Int} (h : Best b leaf L k z) (hb : betterB b leaf L k z = false) : Best b leaf L (k + 1) z := by
  rcases h with ⟨rfl, h⟩ | ⟨i, rfl, hi, hm, h⟩
  · refine Or.inl ⟨rfl, fun j hj => ?_⟩
    by_cases e : j = k
    · rw [e]; simpa [betterB] using hb
    · exact h j (by omega)
  · refine Or.inr ⟨i, rfl, by omega, hm, fun j hj hmj => ?_⟩
    by_cases e : j = k
    · subst e
      have h0 : ¬ (i : Int) < 0 := by omega
      simp only [betterB, hmj, Bool.true_and, h0, decide_false, Bool.false_or, Int.toNat_natCast, decide_eq_false_iff_not] at hb
      omega
    · exact h j (by omega) hmj
theorem Best.lt {b leaf : Nat} {L : List Rw} {k : Nat} {z : Int} (h : Best b leaf L k z) : -1 ≤ z ∧ (0 ≤ z → z < k) := by
  rcases h with ⟨rfl, _⟩ | ⟨i, rfl, hi, _⟩ <;> omega
theorem row_mem {L : List Rw} {i : Nat} (hi : i < L.length) : L.getD i zrw ∈ L := by rw [getD_rw L i hi]; exact List.getElem_mem hi
theorem mem_row {L : List Rw} {x : Rw} (h : x ∈ L) : ∃ j, j < L.length ∧ L.getD j zrw = x := by
  obtain ⟨j, hj, e⟩ := List.getElem_of_mem h
  exact ⟨j, hj, by rw [getD_rw L j hj, e]⟩
/-- The best of all rows is what climbing meets first. -/
theorem best_all {c : Cfg} {L : List Rw} {a z : Int} (hr : Rises L) (hok : ∀ x ∈ L, RouteOk c x) (ha : a.toNat < 2 ^ c.bits.toNat) (hb : c.bits.toNat ≤ 6) (h : Best c.bits.toNat (2 ^ c.bits.toNat + a.toNat) L L.length z) :
    (z = -1 → tabLook c L a = none) ∧ (∀ i : Nat, z = i → i < L.length ∧ tabLook c L a = some (L.getD i zrw).v) := by
  obtain ⟨leaf, hleaf⟩ : ∃ leaf, 2 ^ c.bits.toNat + a.toNat = leaf := ⟨_, rfl⟩
  have hlog : Nat.log2 leaf = c.bits.toNat := by rw [← hleaf]; exact log2_leaf ha
  unfold tabLook
  rw [hleaf] at h ⊢
  obtain ⟨b, hbb⟩ : ∃ b, c.bits.toNat = b := ⟨_, rfl⟩
  rw [hbb] at hlog h hb
  -- a row of a node above the leaf
  have key : ∀ k, 1 ≤ leaf / 2 ^ k → (∀ j, j < L.length → mB b leaf (L.getD j zrw).k.toNat = true → ¬ (L.getD j zrw).k.toNat = leaf / 2 ^ k) → look L ((leaf / 2 ^ k : Nat) : Int) = none := by
    intro k hk hh
    cases hl : look L ((leaf / 2 ^ k : Nat) : Int) with
    | none => rfl
    | some u =>
      exfalso
      obtain ⟨j, hj, e⟩ := mem_row (look_mem hl)
      have e2 : (L.getD j zrw).k.toNat = leaf / 2 ^ k := by rw [e]; exact Int.toNat_natCast _
      refine hh j hj ?_ e2
      rw [e2]
      exact match_up hlog k hk
  rcases h with ⟨rfl, h⟩ | ⟨i, rfl, hi, hm, h⟩
  · refine ⟨fun _ => ?_, fun i hi => by omega⟩
    have := climb_none (L := L) 8 leaf (fun k hk => key k hk fun j hj hmj => by rw [h j hj] at hmj; cases hmj) 0
    simpa using this
  · refine ⟨fun hz => by omega, fun i' hi' => ?_⟩
    obtain rfl : i = i' := by omega
    refine ⟨hi, ?_⟩
    have hx := hok _ (row_mem hi)
    have hmi := match_is hm
    have hp : 1 ≤ (L.getD i zrw).k.toNat := by have := hx.1; omega
    have hlook := look_of_mem hr (row_mem hi)
    have hk1 : ((leaf / 2 ^ (b - Nat.log2 (L.getD i zrw).k.toNat) : Nat) : Int) = (L.getD i zrw).k := by rw [hmi]; have := hx.1; omega
    have hd := (log2_up hlog (b - Nat.log2 (L.getD i zrw).k.toNat) (by rw [hmi]; exact hp))
    have := climb_some (L := L) leaf (b - Nat.log2 (L.getD i zrw).k.toNat) (L.getD i zrw).v (by rw [hmi]; exact hp) (by rw [hk1]; exact hlook) (fun j hj => ?_) (b - Nat.log2 (L.getD i zrw).k.toNat) 0 8 (by omega) (by omega)
    · simpa using this
    · have hj1 : 1 ≤ leaf / 2 ^ j := by
        have : leaf / 2 ^ (b - Nat.log2 (L.getD i zrw).k.toNat) ≤ leaf / 2 ^ j := Nat.div_le_div_left (Nat.pow_le_pow_right (by omega) (by omega)) (Nat.two_pow_pos j)
        omega
      refine key j hj1 fun j' hj' hmj' e => ?_
      have h3 := h j' hj' hmj'
      rw [e, (log2_up hlog j hj1).2] at h3
      have h4 := log2_up hlog (b - Nat.log2 (L.getD i zrw).k.toNat) (by rw [hmi]; exact hp)
      rw [hmi] at h4
      have h5 := (log2_up hlog j hj1).1
      omega
/-- The document's test. -/
theorem match_plain {b p node : Nat} (hn : 1 ≤ node) (h2 : node < 2 * 2 ^ b) : decide (((node : Nat) : Int) - ((2 ^ Nat.log2 node : Nat) : Int) = ((p / 2 ^ (b - Nat.log2 node) : Nat) : Int)) = mB b (2 ^ b + p) node := by
  have hd : Nat.log2 node ≤ b := log2_le (by omega) (by rw [Nat.pow_succ]; omega)
  have hs : 2 ^ Nat.log2 node ≤ node := Nat.log2_self_le (by omega)
  obtain ⟨d, hdd⟩ : ∃ d, Nat.log2 node = d := ⟨_, rfl⟩
  have e : (2 ^ b + p) / 2 ^ (b - d) = 2 ^ d + p / 2 ^ (b - d) := by
    have : 2 ^ b = 2 ^ d * 2 ^ (b - d) := by rw [← Nat.pow_add]; congr 1; omega
    rw [this, Nat.add_comm, Nat.add_mul_div_right _ _ (Nat.two_pow_pos _), Nat.add_comm]
  unfold mB
  rw [hdd] at hd hs ⊢
  rw [e, decide_eq_decide]
  omega
end Go.Proofs.YtpaplhkjaniafaaDoor
