/- Plain: what an operation does with a table of routes; no program in sight. -/
import Derived.Test.YtknfikdignpniaaDoorTab0
namespace Go.Proofs.YtknfikdignpniaaDoor.table
open Go Go.RowKit
set_option maxRecDepth 100000
set_option maxHeartbeats 8000000

/-- What a row of a table may be. -/
def RouteOk (c : Cfg) (x : Rw) : Prop := (1 ≤ x.k ∧ x.k < ((2 * 2 ^ c.bits.toNat : Nat) : Int)) ∧ 0 ≤ x.v ∧ x.v ≤ 2147483647
theorem tabIs_ok {c : Cfg} {L : List Rw} (hf : RwsFit L) (h : tabIs c L = true) : partOk c = true ∧ c.object = 1 ∧ (L.length : Int) ≤ c.cap ∧ Rises L ∧ ∀ x ∈ L, RouteOk c x := by
  simp only [tabIs, Bool.and_eq_true, decide_eq_true_eq, List.all_eq_true, beq_iff_eq, risesB_iff] at h
  obtain ⟨⟨⟨⟨h1, h2⟩, h3⟩, h4⟩, h5⟩ := h
  refine ⟨h1, h2, h3, h4, fun x hx => ?_⟩
  have h6 := h5 x hx
  have h7 := hf x hx
  simp only [tabB, Bool.and_eq_true, decide_eq_true_eq] at h6
  exact ⟨⟨h6.1.1, h6.1.2⟩, h7.v.1, h6.2⟩
theorem tabIs_mk {c : Cfg} {L M : List Rw} (hf : RwsFit L) (h : tabIs c L = true) (h1 : (M.length : Int) ≤ c.cap) (h2 : Rises M) (h3 : ∀ x ∈ M, RouteOk c x) : tabIs c M = true := by
  obtain ⟨hp, ho, _, _, _⟩ := tabIs_ok hf h
  simp only [tabIs, Bool.and_eq_true, decide_eq_true_eq, List.all_eq_true, beq_iff_eq, risesB_iff]
  refine ⟨⟨⟨⟨hp, ho⟩, h1⟩, h2⟩, fun x hx => ?_⟩
  obtain ⟨⟨a, b⟩, d, e⟩ := h3 x hx
  simp only [tabB, Bool.and_eq_true, decide_eq_true_eq]
  exact ⟨⟨a, b⟩, e⟩
/-- What comes of an operation: the rows, the code, the word, the error. -/
structure Outc where
  rows : List Rw
  code : Int
  word : Int
  err : Int
/-- The node of a route's bits. -/
def tabKey (o : Opn) : Int := ((2 ^ o.b.toNat + o.a.toNat : Nat) : Int)
def tabLook (c : Cfg) (L : List Rw) (a : Int) : Option Int := climb L 8 (2 ^ c.bits.toNat + a.toNat)
def tabDone (c : Cfg) (L : List Rw) (o : Opn) : Outc :=
  if o.kind == 3 then (match tabLook c L o.a with | some u => ⟨L, 0, u + 1, 0⟩ | none => ⟨L, 6, 0, 0⟩)
  else if o.kind == 1 then
    (match look L (tabKey o) with
     | some u => ⟨withK (tabKey o) o.c L, 0, u + 1, 0⟩
     | none => if c.cap ≤ (L.length : Int) then ⟨L, 9, 0, 0⟩ else ⟨withK (tabKey o) o.c L, 0, 0, 0⟩)
  else
    (match look L (tabKey o) with
     | some u => ⟨withoutK (tabKey o) L, 0, u + 1, 0⟩
     | none => ⟨L, 6, 0, 0⟩)
def tabDo (c : Cfg) (L : List Rw) (o : Opn) : Outc :=
  if partOk c && (c.object == 1) then
    (if tabIs c L then (if opErr c o == 0 then tabDone c L o else ⟨L, opErr c o, 0, 0⟩) else ⟨[], 0, 0, 2⟩)
  else ⟨[], 0, 0, 40⟩
theorem tabDo_conf {c : Cfg} (L : List Rw) (o : Opn) (h : (partOk c && (c.object == 1)) = false) : tabDo c L o = ⟨[], 0, 0, 40⟩ := by simp [tabDo, h]
theorem tabDo_arg {c : Cfg} {L : List Rw} (o : Opn) (h : (partOk c && (c.object == 1)) = true) (h2 : tabIs c L = false) : tabDo c L o = ⟨[], 0, 0, 2⟩ := by simp [tabDo, h, h2]
theorem tabDo_bad {c : Cfg} {L : List Rw} {o : Opn} (h : (partOk c && (c.object == 1)) = true) (h2 : tabIs c L = true) (h3 : (opErr c o == 0) = false) : tabDo c L o = ⟨L, opErr c o, 0, 0⟩ := by simp [tabDo, h, h2, h3]
theorem tabDo_ok {c : Cfg} {L : List Rw} {o : Opn} (h : (partOk c && (c.object == 1)) = true) (h2 : tabIs c L = true) (h3 : (opErr c o == 0) = true) : tabDo c L o = tabDone c L o := by simp [tabDo, h, h2, h3]
theorem tab_kind {c : Cfg} {o : Opn} (hc : c.object = 1) (h : (opErr c o == 0) = true) : partOk c = true ∧ (o.kind = 1 ∨ o.kind = 2 ∨ o.kind = 3) ∧ fitsB c o = true := by
  have h' : opErr c o = 0 := by simpa using h
  unfold opErr at h'
  split at h'
  · rename_i hp
    split at h'
    · rename_i hk
      split at h'
      · rename_i hf
        refine ⟨hp, ?_, hf⟩
        have hk' : objOf o.kind = c.object := by simpa using hk
        rw [hc] at hk'
        unfold objOf at hk'
        split at hk' <;> (try split at hk') <;> (try split at hk') <;> (try split at hk') <;> (try split at hk') <;> omega
      · omega
    · omega
  · omega
/-- What a route's numbers are. -/
theorem tab_route {c : Cfg} {o : Opn} (h : fitsB c o = true) (k : o.kind = 1 ∨ o.kind = 2) : o.b ≤ c.bits ∧ o.a < 2 ^ o.b.toNat ∧ (o.kind = 1 → o.c ≤ 2147483647) ∧ (o.kind = 2 → o.c = 0) := by
  rcases k with k | k
  · simp [fitsB, prefixB, k] at h
    exact ⟨h.2.1, h.2.2, fun _ => h.1, fun e => by omega⟩
  · simp [fitsB, prefixB, k] at h
    exact ⟨h.2.1, h.2.2, fun e => by omega, fun _ => h.1⟩
theorem tab_leaf {c : Cfg} {o : Opn} (h : fitsB c o = true) (k : o.kind = 3) : o.a < 2 ^ c.bits.toNat ∧ o.b = 0 ∧ o.c = 0 := by
  simp [fitsB, k] at h
  exact ⟨h.2, h.1.2, h.1.1⟩
theorem pow_cast (n : Nat) : (2 : Int) ^ n = ((2 ^ n : Nat) : Int) := by simp
/-- The node's bounds. -/
theorem key_bd {c : Cfg} {o : Opn} (ho : o.Fits) (hb : c.bits ≤ 6) (h1 : o.b ≤ c.bits) (h2 : o.a < 2 ^ o.b.toNat) : 1 ≤ tabKey o ∧ tabKey o < ((2 * 2 ^ c.bits.toNat : Nat) : Int) ∧ tabKey o ≤ 127 ∧ o.a.toNat < 2 ^ o.b.toNat ∧ o.b.toNat ≤ 6 := by
  have ha := ho.a; have hbb := ho.b
  rw [pow_cast] at h2
  have h3 : o.a.toNat < 2 ^ o.b.toNat := by omega
  have h4 : o.b.toNat ≤ c.bits.toNat := by omega
  have h5 : 2 ^ o.b.toNat ≤ 2 ^ c.bits.toNat := Nat.pow_le_pow_right (by omega) h4
  have h6 : 2 ^ c.bits.toNat ≤ 2 ^ 6 := Nat.pow_le_pow_right (by omega) (by omega)
  have h7 : 1 ≤ 2 ^ o.b.toNat := Nat.one_le_two_pow
  unfold tabKey
  refine ⟨by omega, by omega, by omega, h3, by omega⟩
theorem leaf_bd {c : Cfg} {a : Int} (ha : 0 ≤ a) (hb : c.bits ≤ 6) (h2 : a < 2 ^ c.bits.toNat) : a.toNat < 2 ^ c.bits.toNat ∧ 2 ^ c.bits.toNat + a.toNat ≤ 127 ∧ c.bits.toNat ≤ 6 := by
  rw [pow_cast] at h2
  have h6 : 2 ^ c.bits.toNat ≤ 2 ^ 6 := Nat.pow_le_pow_right (by omega) (by omega)
  refine ⟨by omega, by omega, by omega⟩
theorem tab_err {c : Cfg} {L : List Rw} {o : Opn} {M : List Rw} {dc dw de : Int} (h : tabDo c L o = ⟨M, dc, dw, de⟩) (he : ¬ de = 0) : M = [] ∧ dc = 0 ∧ tabIs c L = false := by
  cases h1 : (partOk c && (c.object == 1))
  · rw [tabDo_conf L o h1] at h
    cases h
    exact ⟨rfl, rfl, by simp [tabIs, h1]⟩
  · cases h2 : tabIs c L
    · rw [tabDo_arg o h1 h2] at h
      cases h
      exact ⟨rfl, rfl, rfl⟩
    · exfalso
      cases h3 : (opErr c o == 0)
      · rw [tabDo_bad h1 h2 h3] at h
        cases h
        exact he rfl
      · rw [tabDo_ok h1 h2 h3] at h
        unfold tabDone at h
        split at h
        · split at h <;> (cases h; exact he rfl)
        · split at h
          · split at h
            · cases h; exact he rfl
            · split at h <;> (cases h; exact he rfl)
          · split at h <;> (cases h; exact he rfl)
/-- What an answer without an error is. -/
theorem tab_ways {c : Cfg} {L : List Rw} {o : Opn} {M : List Rw} {dc dw : Int} (hf : RwsFit L) (h : tabDo c L o = ⟨M, dc, dw, 0⟩) :
    tabIs c L = true ∧ ((M = L ∧ (¬ dc = 0 ∨ o.kind = 3)) ∨
      (dc = 0 ∧ o.kind = 1 ∧ M = withK (tabKey o) o.c L ∧ o.c ≤ 2147483647 ∧ o.b ≤ c.bits ∧ o.a < 2 ^ o.b.toNat ∧ (M.length : Int) ≤ c.cap ∧ ((look L (tabKey o) = none ∧ dw = 0) ∨ ∃ u, look L (tabKey o) = some u ∧ dw = u + 1)) ∨
      (dc = 0 ∧ o.kind = 2 ∧ M = withoutK (tabKey o) L ∧ o.b ≤ c.bits ∧ o.a < 2 ^ o.b.toNat ∧ ∃ u, look L (tabKey o) = some u ∧ dw = u + 1)) := by
  cases h1 : (partOk c && (c.object == 1))
  · rw [tabDo_conf L o h1] at h
    cases h
  · cases h2 : tabIs c L
    · rw [tabDo_arg o h1 h2] at h
      cases h
    · refine ⟨rfl, ?_⟩
      obtain ⟨_, hobj, hcap, hr, _⟩ := tabIs_ok hf h2
      cases h3 : (opErr c o == 0)
      · rw [tabDo_bad h1 h2 h3] at h
        cases h
        have h3' : ¬ opErr c o = 0 := by simpa using h3
        exact Or.inl ⟨rfl, Or.inl h3'⟩
      · rw [tabDo_ok h1 h2 h3] at h
        obtain ⟨_, hk, hft⟩ := tab_kind hobj h3
        unfold tabDone at h
        split at h
        · rename_i h11
          have h11' : o.kind = 3 := by simpa using h11
          split at h <;> cases h <;> exact Or.inl ⟨rfl, Or.inr h11'⟩
        · rename_i h11
          split at h
          · rename_i h9
            have h9' : o.kind = 1 := by simpa using h9
            obtain ⟨f1, f2, f3, _⟩ := tab_route hft (Or.inl h9')
            split at h
            · rename_i u hu
              cases h
              exact Or.inr (Or.inl ⟨rfl, h9', rfl, f3 h9', f1, f2, by rw [withK_len_some _ _ hr hu]; exact hcap, Or.inr ⟨u, hu, rfl⟩⟩)
            · rename_i hu
              split at h
              · cases h
                exact Or.inl ⟨rfl, Or.inl (by decide)⟩
              · rename_i hc
                cases h
                exact Or.inr (Or.inl ⟨rfl, h9', rfl, f3 h9', f1, f2, by rw [withK_len _ _ hu]; omega, Or.inl ⟨hu, rfl⟩⟩)
          · rename_i h9
            have h10 : o.kind = 2 := by simp at h9 h11; omega
            obtain ⟨f1, f2, _⟩ := tab_route hft (Or.inr h10)
            split at h
            · rename_i u hu
              cases h
              exact Or.inr (Or.inr ⟨rfl, h10, rfl, f1, f2, u, hu, rfl⟩)
            · cases h
              exact Or.inl ⟨rfl, Or.inl (by decide)⟩
theorem tab_is {c : Cfg} {L : List Rw} {o : Opn} {M : List Rw} {dc dw : Int} (hf : RwsFit L) (ho : o.Fits) (h : tabDo c L o = ⟨M, dc, dw, 0⟩) : tabIs c M = true := by
  obtain ⟨hi, hw⟩ := tab_ways hf h
  obtain ⟨hp, _, hcap, hr, hk⟩ := tabIs_ok hf hi
  have hb := (partOk_bits hp).2
  rcases hw with ⟨rfl, _⟩ | ⟨_, _, rfl, h1, h2, h3, h4, _⟩ | ⟨_, _, rfl, _⟩
  · exact hi
  · refine tabIs_mk hf hi h4 (rises_withK _ _ hr) fun x hx => ?_
    rcases withK_mem hx with rfl | hx
    · have := key_bd ho hb h2 h3
      exact ⟨⟨this.1, this.2.1⟩, ho.c.1, h1⟩
    · exact hk x hx
  · refine tabIs_mk hf hi ?_ (rises_withoutK _ hr) fun x hx => hk x (withoutK_sub _ _ x hx)
    have := withoutK_len (tabKey o) L
    omega
theorem tab_same {c : Cfg} {L : List Rw} {o : Opn} {M : List Rw} {dc dw : Int} (hf : RwsFit L) (h : tabDo c L o = ⟨M, dc, dw, 0⟩) (hs : ¬ dc = 0 ∨ o.kind = 3) : M = L := by
  obtain ⟨_, hw⟩ := tab_ways hf h
  rcases hw with ⟨h, _⟩ | ⟨h1, h2, _⟩ | ⟨h1, h2, _⟩
  · exact h
  · omega
  · omega
theorem tab_len {c : Cfg} {L : List Rw} {o : Opn} {M : List Rw} {dc dw de : Int} (hf : RwsFit L) (h : tabDo c L o = ⟨M, dc, dw, de⟩) : M.length ≤ L.length + 1 := by
  by_cases he : de = 0
  · subst he
    obtain ⟨_, hw⟩ := tab_ways hf h
    rcases hw with ⟨rfl, _⟩ | ⟨_, _, rfl, _⟩ | ⟨_, _, rfl, _⟩
    · omega
    · exact (withK_len_le _ _ _).2
    · have := withoutK_len (tabKey o) L; omega
  · rw [(tab_err h he).1]; simp
theorem tab_fit {c : Cfg} {L : List Rw} {o : Opn} {M : List Rw} {dc dw de : Int} (hf : RwsFit L) (ho : o.Fits) (h : tabDo c L o = ⟨M, dc, dw, de⟩) : RwsFit M := by
  by_cases he : de = 0
  · subst he
    obtain ⟨hi, hw⟩ := tab_ways hf h
    obtain ⟨hp, _⟩ := tabIs_ok hf hi
    have hb := (partOk_bits hp).2
    rcases hw with ⟨rfl, _⟩ | ⟨_, _, rfl, _, h2, h3, _⟩ | ⟨_, _, rfl, _⟩
    · exact hf
    · have := key_bd ho hb h2 h3
      have := ho.c
      exact fits_withK hf (by omega) (by omega)
    · exact fits_withoutK hf
  · rw [(tab_err h he).1]; exact fun x hx => by cases hx
end Go.Proofs.YtknfikdignpniaaDoor.table
