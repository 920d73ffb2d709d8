/- Plain: what a table's laws need; no program in sight. -/
import Derived.Test.YtdomdaicedeojaaDoorTab2
import Derived.Test.YtdomdaicedeojaaDoorLawP
namespace Go.Proofs.YtdomdaicedeojaaDoor
open Go Go.RowKit

theorem tab_del {c : Cfg} {L : List Rw} (hf : RwsFit L) (h : tabIs c L = true) {a b : Int} (h1 : b ≤ c.bits) (h2 : a < 2 ^ b.toNat) : tabDo c L ⟨2, a, b, 0⟩ = tabDone c L ⟨2, a, b, 0⟩ := by
  obtain ⟨hp, ho, _⟩ := tabIs_ok hf h
  have hp2 : (partOk c && (c.object == 1)) = true := by rw [hp, ho]; rfl
  have he : opErr c ⟨2, a, b, 0⟩ = 0 := by simp [opErr, hp, ho, objOf, fitsB, prefixB, h1, h2]
  exact tabDo_ok hp2 h (by rw [he]; rfl)
/-- What is put in is there, and, taken out, leaves the rows that were. -/
theorem undo_plain {c : Cfg} {L : List Rw} {o : Opn} {M : List Rw} {dw : Int} (hf : RwsFit L) (ho : o.Fits) (hk : o.kind = 1) (h : tabDo c L o = ⟨M, 0, dw, 0⟩) :
    o.c ≤ 2147483647 ∧ (0 ≤ o.b ∧ o.b ≤ 6) ∧ o.a.toNat < 2 ^ o.b.toNat ∧ (0 ≤ tabKey o ∧ tabKey o ≤ 127) ∧ (∃ i : Nat, i < M.length ∧ findK M (tabKey o) = (i : Int) ∧ M.getD i zrw = ⟨tabKey o, o.c⟩) ∧ withoutK (tabKey o) M = withoutK (tabKey o) L ∧
    tabDo c M ⟨2, o.a, o.b, 0⟩ = ⟨withoutK (tabKey o) L, 0, o.c + 1, 0⟩ ∧ (dw == 0) = decide (findK L (tabKey o) < 0) := by
  have hm := tab_is hf ho h
  have hfm := tab_fit hf ho h
  obtain ⟨hi, hw⟩ := tab_ways hf h
  obtain ⟨hp, _, _, hr, hok⟩ := tabIs_ok hf hi
  have hb := partOk_bits hp
  rcases hw with ⟨_, h1⟩ | ⟨_, _, rfl, h1, h2, h3, _, h4⟩ | ⟨_, h1, _⟩
  · omega
  · have hkey := key_bd ho hb.2 h2 h3
    have hob := ho.b
    have hl : look (withK (tabKey o) o.c L) (tabKey o) = some o.c := by rw [look_withK _ _ hr, if_pos rfl]
    have hwo := withoutK_withK (tabKey o) o.c hr
    obtain ⟨i, i1, i2, i3⟩ := findK_look hl
    have hd := tab_del hfm hm h2 h3
    have e : tabKey ⟨2, o.a, o.b, 0⟩ = tabKey o := rfl
    refine ⟨h1, ⟨hob.1, by omega⟩, hkey.2.2.2.1, ⟨by omega, hkey.2.2.1⟩, ⟨i, i1, i2, i3⟩, hwo, ?_, ?_⟩
    · rw [hd]
      simp [tabDone, e, hl, hwo]
    · rcases h4 with ⟨g1, rfl⟩ | ⟨u, g1, rfl⟩
      · rw [look_findK g1]; rfl
      · obtain ⟨j, _, j2, _⟩ := findK_look g1
        have hu := (hok _ (look_mem g1)).2
        dsimp only at hu
        rw [j2, decide_eq_false (by omega), Bool.eq_false_iff]
        simp only [ne_eq, beq_iff_eq]
        omega
  · omega
/-- What a look-up tells. -/
theorem finds_plain {c : Cfg} {L : List Rw} {key : Int} {M : List Rw} {dc dw : Int} (hf : RwsFit L) (h : tabDo c L ⟨3, key, 0, 0⟩ = ⟨M, dc, dw, 0⟩) :
    (0 ≤ c.bits ∧ c.bits ≤ 6) ∧ ((dc = 10 ∧ (2 : Int) ^ c.bits.toNat ≤ key) ∨ (key < 2 ^ c.bits.toNat ∧ (∀ x ∈ L, RouteOk c x) ∧ ((∃ u, tabLook c L key = some u ∧ dc = 0 ∧ dw = u + 1) ∨ (tabLook c L key = none ∧ dc = 6 ∧ dw = 0)))) := by
  obtain ⟨hi, _⟩ := tab_ways hf h
  obtain ⟨hp, ho, _, _, hok⟩ := tabIs_ok hf hi
  have hb := partOk_bits hp
  have hp2 : (partOk c && (c.object == 1)) = true := by rw [hp, ho]; rfl
  refine ⟨hb, ?_⟩
  by_cases hk : key < 2 ^ c.bits.toNat
  · refine Or.inr ⟨hk, hok, ?_⟩
    have he : opErr c ⟨3, key, 0, 0⟩ = 0 := by simp [opErr, hp, ho, objOf, fitsB, hk]
    rw [tabDo_ok hp2 hi (by rw [he]; rfl)] at h
    simp only [tabDone] at h
    cases hl : tabLook c L key with
    | some u => rw [hl] at h; simp at h; exact Or.inl ⟨u, rfl, h.2.1.symm, h.2.2.symm⟩
    | none => rw [hl] at h; simp at h; exact Or.inr ⟨rfl, h.2.1.symm, h.2.2.symm⟩
  · refine Or.inl ⟨?_, by omega⟩
    have he : opErr c ⟨3, key, 0, 0⟩ = 10 := by simp [opErr, hp, ho, objOf, fitsB, hk]
    rw [tabDo_bad hp2 hi (by rw [he]; rfl), he] at h
    cases h
    rfl
theorem climb_step {L : List Rw} {leaf k : Nat} {R : Option Int} (hk : k ≤ 6) (h1 : 1 ≤ leaf / 2 ^ k) (h : climb L (8 - k) (leaf / 2 ^ k) = R) : (∀ u, look L ((leaf / 2 ^ k : Nat) : Int) = some u → R = some u) ∧ (look L ((leaf / 2 ^ k : Nat) : Int) = none → climb L (8 - (k + 1)) (leaf / 2 ^ (k + 1)) = R) := by
  have e : 8 - k = (8 - (k + 1)) + 1 := by omega
  rw [e] at h
  unfold climb at h
  rw [if_neg (by omega)] at h
  constructor
  · intro u hu
    rw [hu] at h
    exact h.symm
  · intro hn
    rw [hn] at h
    rw [← h, Nat.pow_succ, Nat.div_div_eq_div_mul]
theorem climb_end {L : List Rw} {leaf b : Nat} {R : Option Int} (hb : b ≤ 6) (hl : leaf < 2 ^ (b + 1)) (h : climb L (8 - (b + 1)) (leaf / 2 ^ (b + 1)) = R) : R = none := by
  rw [Nat.div_eq_of_lt hl] at h
  have e : 8 - (b + 1) = (6 - b) + 1 := by omega
  rw [e] at h
  unfold climb at h
  rw [if_pos rfl] at h
  exact h.symm
end Go.Proofs.YtdomdaicedeojaaDoor
