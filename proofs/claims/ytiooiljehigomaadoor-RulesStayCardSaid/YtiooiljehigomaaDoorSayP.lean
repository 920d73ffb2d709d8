/- Plain: what is yielded key by key says what all rules say. -/
import Derived.Test.YtiooiljehigomaaDoorSpk2
namespace Go.Proofs.YtiooiljehigomaaDoor
open Go Go.RowKit

theorem say_ge (who what : Int) (L : List Rw) (v : Int) : v ≤ L.foldl (sayStep who what) v ∧ (∀ x ∈ L, speaksB x.k who what = true → x.v ≤ L.foldl (sayStep who what) v) ∧ (L.foldl (sayStep who what) v = v ∨ ∃ x ∈ L, speaksB x.k who what = true ∧ x.v = L.foldl (sayStep who what) v) := by
  induction L generalizing v with
  | nil => exact ⟨Int.le_refl _, fun x hx => absurd hx List.not_mem_nil, Or.inl rfl⟩
  | cons x l ih =>
    obtain ⟨h1, h2, h3⟩ := ih (sayStep who what v x)
    have hs : v ≤ sayStep who what v x ∧ (speaksB x.k who what = true → x.v ≤ sayStep who what v x) ∧ (sayStep who what v x = v ∨ (speaksB x.k who what = true ∧ x.v = sayStep who what v x)) := by
      unfold sayStep
      cases hsp : speaksB x.k who what
      · simp
      · by_cases hv : v < x.v
        · simp [hv]; omega
        · simp [hv]; omega
    rw [List.foldl_cons]
    refine ⟨Int.le_trans hs.1 h1, fun y hy hsy => ?_, ?_⟩
    · rcases List.mem_cons.1 hy with rfl | hy
      · exact Int.le_trans (hs.2.1 hsy) h1
      · exact h2 y hy hsy
    · rcases h3 with h3 | ⟨y, hy, hsy, he⟩
      · rcases hs.2.2 with h4 | ⟨h4, h5⟩
        · exact Or.inl (h3.trans h4)
        · exact Or.inr ⟨x, by simp, h4, by rw [h3, ← h5]⟩
      · exact Or.inr ⟨y, by simp [hy], hsy, he⟩
theorem spk_key {k who what : Int} (_h0 : 0 ≤ k ∧ k < 4294967296) (h : speaksB k who what = true) : ∃ n, n < 4 ∧ k = keyA (n / 2) who * 65536 + keyA (n % 2) what := by
  simp [speaksB] at h
  have e : k = k / 65536 * 65536 + k % 65536 := by omega
  rcases h with ⟨h1 | h1, h2 | h2⟩
  · exact ⟨3, by omega, by rw [e, h2, h1]; simp [keyA]⟩
  · exact ⟨2, by omega, by rw [e, h2, h1]; simp [keyA]⟩
  · exact ⟨1, by omega, by rw [e, h2, h1]; simp [keyA]⟩
  · exact ⟨0, by omega, by rw [e, h2, h1]; simp [keyA]⟩
theorem key_spk {who what : Int} (hwho : 0 ≤ who ∧ who ≤ 65535) (hwhat : 0 ≤ what ∧ what ≤ 65535) (n : Nat) : speaksB (keyA (n / 2) who * 65536 + keyA (n % 2) what) who what = true := by
  unfold keyA speaksB
  split <;> split <;> simp <;> omega
theorem sp_mem {L : List Rw} (hr : Rises L) (hL : ∀ x ∈ L, RuleOk x) {who what : Int} (hwho : 0 ≤ who ∧ who ≤ 65535) (hwhat : 0 ≤ what ∧ what ≤ 65535) (y : Int) : y ∈ spL L who what 4 ↔ ∃ x ∈ L, speaksB x.k who what = true ∧ x.v = y := by
  unfold spL
  rw [List.mem_flatMap]
  constructor
  · rintro ⟨n, _, hy⟩
    unfold foundAt at hy
    split at hy
    · rename_i u hu
      simp at hy
      subst hy
      exact ⟨_, look_mem hu, key_spk hwho hwhat n, rfl⟩
    · cases hy
  · rintro ⟨x, hx, hs, rfl⟩
    obtain ⟨n, hn, hk⟩ := spk_key (hL x hx).1 hs
    refine ⟨n, by simpa using hn, ?_⟩
    have := look_of_mem hr hx
    unfold foundAt
    rw [← hk, this]
    simp
def lastW (pre : List Int) : Int := match pre.getLast? with | some x => IntKind.u32.wrap x | none => 0
theorem lastW_snoc (pre : List Int) (x : Int) : lastW (pre ++ [x]) = IntKind.u32.wrap x := by simp [lastW]
theorem wrap_small {y : Int} (h : 1 ≤ y ∧ y ≤ 2) : IntKind.u32.wrap y = y := by rw [IntKind.wrap_u32]; omega
theorem sp_bd {L : List Rw} (hr : Rises L) (hL : ∀ x ∈ L, RuleOk x) {who what : Int} (hwho : 0 ≤ who ∧ who ≤ 65535) (hwhat : 0 ≤ what ∧ what ≤ 65535) {y : Int} (h : y ∈ spL L who what 4) : 1 ≤ y ∧ y ≤ 2 := by
  obtain ⟨x, hx, _, rfl⟩ := (sp_mem hr hL hwho hwhat y).1 h
  exact (hL x hx).2
theorem say_two {L : List Rw} (hr : Rises L) (hL : ∀ x ∈ L, RuleOk x) {who what : Int} (hwho : 0 ≤ who ∧ who ≤ 65535) (hwhat : 0 ≤ what ∧ what ≤ 65535) {y : Int} (h : y ∈ spL L who what 4) (h2 : IntKind.u32.wrap y = 2) : rulesSay L who what = 2 := by
  rw [wrap_small (sp_bd hr hL hwho hwhat h)] at h2
  obtain ⟨x, hx, hs, hv⟩ := (sp_mem hr hL hwho hwhat y).1 h
  have h3 := (say_ge who what L 0).2.1 x hx hs
  have h4 := (say_bd hL who what 0 (by decide)).2
  unfold rulesSay
  omega
theorem say_not {L : List Rw} (hr : Rises L) (hL : ∀ x ∈ L, RuleOk x) {who what : Int} (hwho : 0 ≤ who ∧ who ≤ 65535) (hwhat : 0 ≤ what ∧ what ≤ 65535) (h : ∀ y ∈ spL L who what 4, ¬ IntKind.u32.wrap y = 2) : rulesSay L who what = lastW (spL L who what 4) := by
  have hone : ∀ y ∈ spL L who what 4, y = 1 := fun y hy => by
    have h1 := sp_bd hr hL hwho hwhat hy
    have h2 := h y hy
    rw [wrap_small h1] at h2
    omega
  have hmem := sp_mem hr hL hwho hwhat
  obtain ⟨h1, h2, h3⟩ := say_ge who what L 0
  unfold rulesSay lastW
  cases hl : (spL L who what 4).getLast? with
  | none =>
    have he : spL L who what 4 = [] := List.getLast?_eq_none_iff.1 hl
    rcases h3 with h3 | ⟨x, hx, hs, hv⟩
    · exact h3
    · have := (hmem x.v).2 ⟨x, hx, hs, rfl⟩
      rw [he] at this
      cases this
  | some y =>
    have hy : y ∈ spL L who what 4 := List.mem_of_getLast? hl
    have hy1 := hone y hy
    subst hy1
    obtain ⟨x, hx, hs, hv⟩ := (hmem 1).1 hy
    have h4 := h2 x hx hs
    rcases h3 with h3 | ⟨z, hz, hsz, hvz⟩
    · omega
    · have := hone z.v ((hmem z.v).2 ⟨z, hz, hsz, rfl⟩)
      have h5 : IntKind.u32.wrap 1 = 1 := wrap_small (by decide)
      show _ = IntKind.u32.wrap 1
      rw [h5]
      omega
end Go.Proofs.YtiooiljehigomaaDoor
