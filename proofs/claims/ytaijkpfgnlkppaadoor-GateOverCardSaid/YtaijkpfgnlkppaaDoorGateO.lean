/- Plain: the first cell that denies ends a check; no program in sight. -/
import Derived.Test.YtaijkpfgnlkppaaDoorGateD
namespace Go.Proofs.YtaijkpfgnlkppaaDoor
open Go Go.RowKit

abbrev chk (who what k x : Int) : Frm := ⟨11, who, what, 0, k, 0, 0, 0, 0, x, 0⟩

/-- A check's frame may be, wherever it is. -/
theorem chk_err {c : Cfg} {who what : Int} (h : gateErr c (chk who what 0 0) = 0) {k x : Int} (hk : k < c.cap) : gateErr c (chk who what k x) = 0 := by
  have hok := gateErr_ok (c := c) (by rw [h]; rfl)
  have hf := gateMay_facts hok.2.2
  refine gateErr_yes hok.1 (by simp [hok.2.1]) ?_
  have ho : opErr c (gateOp (chk who what k x)) = 0 := hf.1
  simp [gateMay, ho, hk, gatePc]
  exact hf.2.2.1
theorem chk_err20 {c : Cfg} {who what : Int} (h : gateErr c (chk who what 0 0) = 0) {k x : Int} (hk : k < c.cap) : gateErr c { chk who what k x with pc := 20 } = 0 := by
  have hok := gateErr_ok (c := c) (by rw [h]; rfl)
  have hf := gateMay_facts hok.2.2
  refine gateErr_yes hok.1 (by simp [hok.2.1]) ?_
  have ho : opErr c (gateOp { chk who what k x with pc := 20 }) = 0 := hf.1
  simp [gateMay, ho, hk, gatePc]
  exact hf.2.2.1
theorem run_told {c : Cfg} {f : Frm} (h : gateErr c f = 0) (hp : f.pc = 20) (k : Nat) (L : List Cel) (r n : Int) : gateRun c (k + 1) f L r n = ⟨L, 0, f.x, r, n, true⟩ := by
  have h1 : gateStep f = ⟨4, 0, 0, 0, 0, 0, f.x⟩ := by simp [gateStep, hp]
  rw [gateRun_done k L r n h (by rw [h1]; rfl), h1]

theorem over_run {c : Cfg} {who what : Int} {L : List Cel} (h : gateErr c (chk who what 0 0) = 0) (hl : (L.length : Int) = c.cap) {at' : Nat} (hat : at' < L.length) (hd : L[at'] = ⟨0, 2, who, 0⟩) :
    ∀ (m k : Nat) (x r : Int) (fuel : Nat), k + m = at' → m + 2 ≤ fuel → ∃ q : Int, r + 1 ≤ q ∧ q ≤ r + m + 1 ∧ gateRun c fuel (chk who what k x) L r 0 = ⟨L, 0, 2, q, 0, true⟩ := by
  intro m
  induction m with
  | zero =>
    intro k x r fuel hk hf
    obtain ⟨fuel, rfl⟩ : ∃ g, fuel = g + 2 := ⟨fuel - 2, by omega⟩
    obtain rfl : k = at' := by omega
    have he := chk_err h (k := k) (x := x) (by omega)
    have hs : gateStep (chk who what k x) = ⟨1, k, 0, 0, 0, 0, 0⟩ := rfl
    refine ⟨r + 1, by omega, by omega, ?_⟩
    rw [gateRun_read (fuel + 1) L r 0 he (by rw [hs]; rfl) (by rw [hs]; exact Int.natCast_nonneg k) (by rw [hs]; show (k : Int) < _; omega) (by rw [hs]; rfl), hs, gateAfter_yes (by rw [he]; rfl)]
    have hg : L.getD (k : Int).toNat ⟨0, 0, 0, 0⟩ = ⟨0, 2, who, 0⟩ := by simp [hat, hd]
    rw [hg]
    have hb : gateBehind c (chk who what k x) ⟨0, 2, who, 0⟩ = { chk who what k 2 with pc := 20 } := by simp [gateBehind, gateSeek, gateSpeaks]
    rw [hb, run_told (chk_err20 h (by omega)) rfl]
  | succ m ih =>
    intro k x r fuel hk hf
    obtain ⟨fuel, rfl⟩ : ∃ g, fuel = g + 2 := ⟨fuel - 2, by omega⟩
    have he := chk_err h (k := k) (x := x) (by omega)
    have hs : gateStep (chk who what k x) = ⟨1, k, 0, 0, 0, 0, 0⟩ := rfl
    rw [gateRun_read (fuel + 1) L r 0 he (by rw [hs]; rfl) (by rw [hs]; exact Int.natCast_nonneg k) (by rw [hs]; show (k : Int) < _; omega) (by rw [hs]; rfl), hs, gateAfter_yes (by rw [he]; rfl)]
    generalize L.getD (k : Int).toNat ⟨0, 0, 0, 0⟩ = l
    have hne : ((k : Int) + 1 == c.cap) = false := by simp; omega
    have hcase : (∃ y, gateBehind c (chk who what k x) l = chk who what ((k + 1 : Nat) : Int) y) ∨ gateBehind c (chk who what k x) l = { chk who what k 2 with pc := 20 } := by
      simp only [gateBehind, gateSeek]
      by_cases h1 : gateSpeaks (chk who what k x) l = true
      · by_cases h2 : (l.a == 2) = true
        · right
          simp [h1]
          simp at h2
          simp [h2]
        · left
          refine ⟨1, ?_⟩
          simp at h2
          simp [h1, h2, gateMore, hne]
      · left
        refine ⟨x, ?_⟩
        simp [h1, gateMore, hne]
    rcases hcase with ⟨y, hy⟩ | hy
    · rw [hy]
      obtain ⟨q, q1, q2, hq⟩ := ih (k + 1) y (r + 1) (fuel + 1) (by omega) (by omega)
      exact ⟨q, by omega, by omega, hq⟩
    · rw [hy]
      exact ⟨r + 1, by omega, by omega, run_told (chk_err20 h (by omega)) rfl _ _ _ _⟩
end Go.Proofs.YtaijkpfgnlkppaaDoor
