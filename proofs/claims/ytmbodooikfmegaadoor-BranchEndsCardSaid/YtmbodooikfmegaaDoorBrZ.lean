/- Plain: a program of a tree of settings is done within so many acts, whatever it reads; no program in sight. -/
import Derived.Test.YtmbodooikfmegaaDoorBranchP
import Derived.Test.YtmbodooikfmegaaDoorStart
namespace Go.Proofs.YtmbodooikfmegaaDoor
open Go Go.RowKit

/-- What the steps leave alone. -/
structure SameS (f g : Frm) : Prop where
  kind : g.kind = f.kind
  a : g.a = f.a
  b : g.b = f.b
  y : g.y = f.y
theorem SameS.op {f g : Frm} (h : SameS f g) : brOp g = brOp f := by
  unfold brOp
  rw [h.kind, h.a, h.b, h.y]
theorem SameS.long {f g : Frm} (h : SameS f g) : brLong g = brLong f := by
  unfold brLong
  rw [h.a, h.b]
/-- How many acts there may be yet. -/
def brRem (c : Cfg) (f : Frm) : Int :=
  if f.pc = 0 then (brLong f - f.h) * c.cap - f.i + (if f.kind = 14 then 0 else if f.kind = 13 then c.cap + 1 else c.cap + 3)
  else if f.pc = 2 then c.cap - f.j - 1 + (brLong f - f.h) else if f.pc = 3 then c.cap - f.i + (brLong f - f.h)
  else if f.pc = 5 then c.cap - f.i + 1 else if f.pc = 4 ∨ f.pc = 6 then 1 else 0
/-- What is so of a frame that may be. -/
structure BrOk (c : Cfg) (f : Frm) : Prop where
  has : brHas f = true
  i : f.i ≤ c.cap
  j : f.j ≤ c.cap
  n : f.n ≤ c.cap
  p : f.p ≤ c.cap
  h : f.h ≤ brLong f
  h2 : (f.pc = 0 ∨ f.pc = 2) → f.h ≠ brLong f
  ni : f.pc = 0 → f.n ≤ f.i
  at0 : 0 ≤ brAt f
  at1 : brAt f < c.cap
theorem brMay_iff {c : Cfg} {f : Frm} : brMay c f = true ↔ opErr c (brOp f) = 0 ∧ BrOk c f := by
  constructor
  · intro h
    simp [brMay] at h
    obtain ⟨⟨⟨⟨⟨⟨⟨⟨⟨⟨h1, h2⟩, h3⟩, h4⟩, h5⟩, h6⟩, h7⟩, h8⟩, h9⟩, h10⟩, h11⟩ := h
    exact ⟨h1, h2, h3, h4, h5, h6, h7, fun hq => h8.elim (fun z => by omega) id, fun hq => h9.elim (fun z => absurd hq z) id, h10, h11⟩
  · rintro ⟨h1, h⟩
    simp [brMay, h1, h.has, h.i, h.j, h.n, h.p, h.h, h.at0, h.at1]
    have h8 := h.h2
    have h9 := h.ni
    constructor
    · by_cases q : f.pc = 0 ∨ f.pc = 2
      · exact .inr (h8 q)
      · exact .inl (by omega)
    · by_cases q : f.pc = 0
      · exact .inr (h9 q)
      · exact .inl q
theorem brErr_iff {c : Cfg} {f : Frm} : brErr c f = 0 ↔ partOk c = true ∧ c.object = 4 ∧ opErr c (brOp f) = 0 ∧ BrOk c f := by
  unfold brErr
  constructor
  · intro h
    split at h
    · rename_i h1
      simp at h1
      split at h
      · rename_i h2
        exact ⟨h1.1, h1.2, brMay_iff.1 h2⟩
      · cases h
    · cases h
  · rintro ⟨h1, h2, h3⟩
    have := brMay_iff.2 h3
    simp [h1, h2, this]
/-- A frame of an operation that goes on. -/
structure BrIn (c : Cfg) (o : Opn) (f : Frm) : Prop where
  err : brErr c f = 0
  kind : f.kind = o.kind
  one : f.pc = 0 → 1 ≤ f.n → f.j < c.cap
  p1 : f.pc = 5 → 1 ≤ f.p
  h3 : f.pc = 3 → f.h < brLong f
/-- What a step does to a frame. -/
structure BrBeh (c : Cfg) (f g : Frm) : Prop where
  same : SameS f g
  ok : BrOk c g
  one : g.pc = 0 → 1 ≤ g.n → g.j < c.cap
  p1 : g.pc = 5 → 1 ≤ g.p
  h3 : g.pc = 3 → g.h < brLong g
  rem : brRem c g + 1 ≤ brRem c f
theorem BrBeh.in {c : Cfg} {o : Opn} {f g : Frm} (h : BrIn c o f) (b : BrBeh c f g) : BrIn c o g := by
  obtain ⟨h1, h2, h3, _⟩ := brErr_iff.1 h.err
  exact ⟨brErr_iff.2 ⟨h1, h2, by rw [b.same.op]; exact h3, b.ok⟩, b.same.kind.trans h.kind, b.one, b.p1, b.h3⟩
theorem brLong_le (f : Frm) : 0 ≤ brLong f ∧ brLong f ≤ 3 := by
  unfold brLong
  split
  · omega
  · split
    · omega
    · split <;> omega
/-- The rows that are left of a level, and below it. -/
theorem levels {L h C : Int} (hC : 1 ≤ C) (hh : h < L) : C ≤ (L - h) * C ∧ (L - (h + 1)) * C = (L - h) * C - C := by
  have e : (L - (h + 1)) * C = (L - h) * C - C := by
    rw [show L - (h + 1) = (L - h) - 1 by omega, Int.sub_mul]
    omega
  have p : 0 ≤ (L - (h + 1)) * C := Int.mul_nonneg (by omega) (by omega)
  exact ⟨by omega, e⟩
theorem rem0 {c : Cfg} {g : Frm} (h : g.pc = 0) : brRem c g = (brLong g - g.h) * c.cap - g.i + (if g.kind = 14 then 0 else if g.kind = 13 then c.cap + 1 else c.cap + 3) := by simp only [brRem, h, if_true]
theorem rem2 {c : Cfg} {g : Frm} (h : g.pc = 2) : brRem c g = c.cap - g.j - 1 + (brLong g - g.h) := by simp [brRem, h]
theorem rem3 {c : Cfg} {g : Frm} (h : g.pc = 3) : brRem c g = c.cap - g.i + (brLong g - g.h) := by simp [brRem, h]
theorem rem5 {c : Cfg} {g : Frm} (h : g.pc = 5) : brRem c g = c.cap - g.i + 1 := by simp [brRem, h]
theorem rem1 {c : Cfg} {g : Frm} (h : g.pc = 4 ∨ g.pc = 6) : brRem c g = 1 := by rcases h with h | h <;> simp [brRem, h]
theorem rem20 {c : Cfg} {g : Frm} (h : 20 ≤ g.pc) : brRem c g = 0 := by
  unfold brRem
  rw [if_neg (by omega), if_neg (by omega), if_neg (by omega), if_neg (by omega), if_neg (by omega)]
theorem br_more {c : Cfg} {f g : Frm} (hs : SameS f g) (_hk : f.kind = 12 ∨ f.kind = 13 ∨ f.kind = 14) (hC : 1 ≤ c.cap) (hp0 : f.pc = 0) (hp : g.pc = 0) (hi : g.i = f.i) (hh : g.h = f.h) (hl : f.h < brLong f) (hh0 : 0 ≤ f.h) (hn : 0 ≤ g.n ∧ g.n ≤ f.i + 1) (hj : 0 ≤ g.j ∧ g.j ≤ c.cap) (hone : 1 ≤ g.n → g.j < c.cap) (hpp : g.p ≤ c.cap) (hi0 : 0 ≤ f.i) (hic : f.i < c.cap) :
    BrBeh c f (brMore c g) := by
  obtain ⟨l1, l2⟩ := levels hC hl
  have hL := hs.long
  have hL3 := brLong_le f
  have hkg := hs.kind
  obtain ⟨B, hB⟩ : ∃ B : Int, (if f.kind = 14 then 0 else if f.kind = 13 then c.cap + 1 else c.cap + 3) = B := ⟨_, rfl⟩
  have hB0 : 0 ≤ B := by rw [← hB]; split; omega; split <;> omega
  have hrf : brRem c f = (brLong f - f.h) * c.cap - f.i + B := by simp only [brRem, hp0, if_true, hB]
  unfold brMore
  split
  · rename_i hlt
    have e : brLong { g with i := g.i + 1 } = brLong f := hL
    refine ⟨⟨hs.kind, hs.a, hs.b, hs.y⟩, ⟨by simp [brHas, hp], by show g.i + 1 ≤ _; omega, hj.2, by show g.n ≤ _; omega, hpp, by rw [e]; show g.h ≤ _; omega, fun _ => by rw [e]; show g.h ≠ _; omega, fun _ => by show g.n ≤ g.i + 1; omega, by simp [brAt, hp]; omega, by simp [brAt, hp]; omega⟩, fun _ h1 => hone h1, fun h5 => by simp [hp] at h5, fun h => by simp [hp] at h, ?_⟩
    rw [hrf]
    have e2 : brRem c { g with i := g.i + 1 } = (brLong f - f.h) * c.cap - (f.i + 1) + B := by
      rw [rem0 (g := { g with i := g.i + 1 }) hp, e]
      show (brLong f - g.h) * c.cap - (g.i + 1) + (if g.kind = 14 then 0 else if g.kind = 13 then c.cap + 1 else c.cap + 3) = _
      rw [hh, hi, hkg, hB]
    omega
  · rename_i hge
    split
    · rename_i h12
      have h12' : g.kind = 12 := by simpa using h12
      have hf12 : f.kind = 12 := by omega
      have hBv : B = c.cap + 3 := by rw [← hB, if_neg (by omega), if_neg (by omega)]
      split
      · refine ⟨⟨hs.kind, hs.a, hs.b, hs.y⟩, ⟨by simp [brHas, h12'], by show g.i ≤ _; omega, hj.2, by show g.n ≤ _; omega, hpp, by show g.h ≤ brLong g; omega, fun h => by simp at h, fun h => by simp at h, by simp [brAt], by simp [brAt]; omega⟩, fun h => by simp at h, fun h => by simp at h, fun h => by simp at h, ?_⟩
        rw [hrf]
        simp [brRem]
        omega
      · rename_i hnl
        have hnl' : brLong g - g.h ≤ g.n := by omega
        have hjc := hone (by omega)
        refine ⟨⟨hs.kind, hs.a, hs.b, hs.y⟩, ⟨by simp [brHas, h12'], by show g.i ≤ _; omega, hj.2, by show g.n ≤ _; omega, hpp, by show g.h ≤ brLong g; omega, fun _ => by show g.h ≠ brLong g; omega, fun h => by simp at h, by simp [brAt]; omega, by simp [brAt]; omega⟩, fun h => by simp at h, fun h => by simp at h, fun h => by simp at h, ?_⟩
        rw [hrf]
        have e2 : brRem c { g with pc := 2 } = c.cap - g.j - 1 + (brLong f - f.h) := by
          have e : brLong { g with pc := 2 } = brLong f := hL
          rw [rem2 (g := { g with pc := 2 }) rfl, e]
          show c.cap - g.j - 1 + (brLong f - g.h) = _
          rw [hh]
        omega
    · rename_i h12
      have h12' : g.kind ≠ 12 := by simpa using h12
      refine ⟨⟨hs.kind, hs.a, hs.b, hs.y⟩, ⟨by simp [brHas, h12'], by show g.i ≤ _; omega, hj.2, by show g.n ≤ _; omega, hpp, by show g.h ≤ brLong g; omega, fun h => by simp at h, fun h => by simp at h, by simp [brAt], by simp [brAt]; omega⟩, fun h => by simp at h, fun h => by simp at h, fun h => by simp at h, ?_⟩
      rw [hrf]
      simp [brRem]
      omega
theorem br_found {c : Cfg} {f : Frm} (l : Cel) (hf : f.Fits) (_hk : f.kind = 12 ∨ f.kind = 13 ∨ f.kind = 14) (hC : 1 ≤ c.cap) (ok : BrOk c f) (hp0 : f.pc = 0) : BrBeh c f (brFound f l) := by
  have hl : f.h < brLong f := by have := ok.h; have := ok.h2 (.inl hp0); omega
  have hi1 : f.i < c.cap := by have := ok.at1; simp [brAt, hp0] at this; exact this
  have hi0 := hf.i
  have hh0 := hf.h
  have hpc := ok.p
  have hp1 := hf.p
  obtain ⟨l1, l2⟩ := levels hC hl
  have hL3 := brLong_le f
  obtain ⟨B, hB⟩ : ∃ B : Int, (if f.kind = 14 then 0 else if f.kind = 13 then c.cap + 1 else c.cap + 3) = B := ⟨_, rfl⟩
  have hB0 : 0 ≤ B := by rw [← hB]; split; omega; split <;> omega
  have hrf : brRem c f = (brLong f - f.h) * c.cap - f.i + B := by rw [rem0 hp0, hB]
  unfold brFound
  split
  · rename_i hlt
    refine ⟨⟨rfl, rfl, rfl, rfl⟩, ⟨by simp [brHas, hp0], by show (0 : Int) ≤ _; omega, hpc, by show (0 : Int) ≤ _; omega, by show f.i + 1 ≤ _; omega, by show f.h + 1 ≤ brLong f; omega, fun _ => by show f.h + 1 ≠ brLong f; omega, fun _ => by show (0 : Int) ≤ 0; omega, by simp [brAt, hp0], by simp [brAt, hp0]; omega⟩, fun _ h1 => by exact absurd h1 (by show ¬ (1 : Int) ≤ 0; omega), fun h5 => by simp [hp0] at h5, fun h => by simp [hp0] at h, ?_⟩
    have e : brRem c { f with x := l.c % 4294967296, j := f.p, p := f.i + 1, h := f.h + 1, i := 0, n := 0 } = (brLong f - (f.h + 1)) * c.cap - 0 + B := by
      rw [rem0 (g := { f with x := l.c % 4294967296, j := f.p, p := f.i + 1, h := f.h + 1, i := 0, n := 0 }) hp0]
      show (brLong f - (f.h + 1)) * c.cap - 0 + (if f.kind = 14 then 0 else if f.kind = 13 then c.cap + 1 else c.cap + 3) = _
      rw [hB]
    omega
  · rename_i hge
    have hge' : f.h + 1 = brLong f := by omega
    split
    · rename_i h12
      have h12' : f.kind = 12 := by simpa using h12
      have hBv : B = c.cap + 3 := by rw [← hB, if_neg (by omega), if_neg (by omega)]
      refine ⟨⟨rfl, rfl, rfl, rfl⟩, ⟨by simp [brHas, h12'], by show f.i ≤ _; omega, hpc, ok.n, by show f.i + 1 ≤ _; omega, by show f.h + 1 ≤ brLong f; omega, fun h => by simp at h, fun h => by simp at h, by simp [brAt]; omega, by simp [brAt]; omega⟩, fun h => by simp at h, fun h => by simp at h, fun h => by simp at h, ?_⟩
      rw [rem1 (.inl rfl)]
      omega
    · rename_i h12
      have h12' : f.kind ≠ 12 := by simpa using h12
      split
      · rename_i h13
        have h13' : f.kind = 13 := by simpa using h13
        have hBv : B = c.cap + 1 := by rw [← hB, if_neg (by omega), if_pos h13']
        refine ⟨⟨rfl, rfl, rfl, rfl⟩, ⟨by simp [brHas, h13'], by show (0 : Int) ≤ _; omega, hpc, ok.n, by show f.i + 1 ≤ _; omega, by show f.h + 1 ≤ brLong f; omega, fun h => by simp at h, fun h => by simp at h, by simp [brAt], by simp [brAt]; omega⟩, fun h => by simp at h, fun _ => by show 1 ≤ f.i + 1; omega, fun h => by simp at h, ?_⟩
        rw [rem5 rfl]
        show c.cap - 0 + 1 + 1 ≤ _
        omega
      · split
        · refine ⟨⟨rfl, rfl, rfl, rfl⟩, ⟨by simp [brHas, h12'], by show f.i ≤ _; omega, hpc, ok.n, by show f.i + 1 ≤ _; omega, by show f.h + 1 ≤ brLong f; omega, fun h => by simp at h, fun h => by simp at h, by simp [brAt], by simp [brAt]; omega⟩, fun h => by simp at h, fun h => by simp at h, fun h => by simp at h, ?_⟩
          rw [rem20 (by show (20 : Int) ≤ 21; decide)]
          omega
        · refine ⟨⟨rfl, rfl, rfl, rfl⟩, ⟨by simp [brHas], by show f.i ≤ _; omega, hpc, ok.n, by show f.i + 1 ≤ _; omega, by show f.h + 1 ≤ brLong f; omega, fun h => by simp at h, fun h => by simp at h, by simp [brAt], by simp [brAt]; omega⟩, fun h => by simp at h, fun h => by simp at h, fun h => by simp at h, ?_⟩
          rw [rem20 (by show (20 : Int) ≤ 20; decide)]
          omega
theorem br_other {c : Cfg} {f : Frm} (l : Cel) (hf : f.Fits) (hk : f.kind = 12 ∨ f.kind = 13 ∨ f.kind = 14) (hC : 1 ≤ c.cap) (ok : BrOk c f) (one : f.pc = 0 → 1 ≤ f.n → f.j < c.cap) (hp0 : f.pc = 0) : BrBeh c f (brOther c f l) := by
  have hl : f.h < brLong f := by have := ok.h; have := ok.h2 (.inl hp0); omega
  have hi1 : f.i < c.cap := by have := ok.at1; simp [brAt, hp0] at this; exact this
  have hi0 := hf.i
  have hh0 := hf.h
  have hn0 := hf.n
  have hj0 := hf.j
  have hni := ok.ni hp0
  have hjc := ok.j
  have one' := one hp0
  unfold brOther
  split
  · split
    · rename_i hn
      exact br_more (g := { f with j := f.i, n := f.n + 1 }) ⟨rfl, rfl, rfl, rfl⟩ hk hC hp0 hp0 rfl rfl hl hh0.1 ⟨by show 0 ≤ f.n + 1; omega, by show f.n + 1 ≤ _; omega⟩ ⟨hi0.1, by show f.i ≤ _; omega⟩ (fun _ => hi1) ok.p hi0.1 hi1
    · rename_i hn
      have hn' : f.n ≠ 0 := by simpa using hn
      exact br_more (g := { f with n := f.n + 1 }) ⟨rfl, rfl, rfl, rfl⟩ hk hC hp0 hp0 rfl rfl hl hh0.1 ⟨by show 0 ≤ f.n + 1; omega, by show f.n + 1 ≤ _; omega⟩ ⟨hj0.1, hjc⟩ (fun _ => one' (by omega)) ok.p hi0.1 hi1
  · exact br_more (g := f) ⟨rfl, rfl, rfl, rfl⟩ hk hC hp0 hp0 rfl rfl hl hh0.1 ⟨hn0.1, by omega⟩ ⟨hj0.1, hjc⟩ one' ok.p hi0.1 hi1
theorem br_made {c : Cfg} {f : Frm} (hf : f.Fits) (h12 : f.kind = 12) (ok : BrOk c f) (hp : f.pc = 2) : BrBeh c f (brMade c f) := by
  have hl : f.h < brLong f := by have := ok.h; have := ok.h2 (.inr hp); omega
  have hj1 : f.j < c.cap := by have := ok.at1; simp [brAt, hp] at this; exact this
  have hj0 := hf.j
  have hh0 := hf.h
  have hr := rem2 (c := c) hp
  have hi := ok.i
  unfold brMade
  split
  · rename_i he
    have he' : f.h + 1 = brLong f := by simpa using he
    refine ⟨⟨rfl, rfl, rfl, rfl⟩, ⟨by simp [brHas], hi, ok.j, ok.n, by show f.j + 1 ≤ _; omega, by show f.h + 1 ≤ brLong f; omega, fun h => by simp at h, fun h => by simp at h, by simp [brAt], by simp [brAt]; omega⟩, fun h => by simp at h, fun h => by simp at h, fun h => by simp at h, ?_⟩
    rw [rem20 (by show (20 : Int) ≤ 20; decide)]
    omega
  · rename_i he
    have he' : f.h + 1 ≠ brLong f := by simpa using he
    split
    · rename_i hlt
      refine ⟨⟨rfl, rfl, rfl, rfl⟩, ⟨by simp [brHas, h12], by show f.j + 1 ≤ _; omega, ok.j, ok.n, by show f.j + 1 ≤ _; omega, by show f.h + 1 ≤ brLong f; omega, fun h => by simp at h, fun h => by simp at h, by simp [brAt]; omega, by simp [brAt]; omega⟩, fun h => by simp at h, fun h => by simp at h, fun _ => by show f.h + 1 < brLong f; omega, ?_⟩
      rw [rem3 rfl]
      show c.cap - (f.j + 1) + (brLong f - (f.h + 1)) + 1 ≤ _
      omega
    · refine ⟨⟨rfl, rfl, rfl, rfl⟩, ⟨by simp [brHas, h12], hi, ok.j, ok.n, by show f.j + 1 ≤ _; omega, by show f.h + 1 ≤ brLong f; omega, fun h => by simp at h, fun h => by simp at h, by simp [brAt], by simp [brAt]; omega⟩, fun h => by simp at h, fun h => by simp at h, fun h => by simp at h, ?_⟩
      rw [rem20 (by show (20 : Int) ≤ 22; decide)]
      omega
theorem br_free {c : Cfg} {f : Frm} (l : Cel) (hf : f.Fits) (h12 : f.kind = 12) (ok : BrOk c f) (hl : f.h < brLong f) (hp : f.pc = 3) :
    BrBeh c f (if l.a == 0 then { f with j := f.i, pc := 2 } else if f.i + 1 < c.cap then { f with i := f.i + 1 } else { f with pc := 22 }) := by
  have hi1 : f.i < c.cap := by have := ok.at1; simp [brAt, hp] at this; exact this
  have hi0 := hf.i
  have hr := rem3 (c := c) hp
  have hh := ok.h
  split
  · refine ⟨⟨rfl, rfl, rfl, rfl⟩, ⟨by simp [brHas, h12], ok.i, by show f.i ≤ _; omega, ok.n, ok.p, hh, fun _ => by show f.h ≠ brLong f; omega, fun h => by simp at h, by simp [brAt]; omega, by simp [brAt]; omega⟩, fun h => by simp at h, fun h => by simp at h, fun h => by simp at h, ?_⟩
    rw [rem2 rfl]
    show c.cap - f.i - 1 + (brLong f - f.h) + 1 ≤ _
    omega
  · split
    · refine ⟨⟨rfl, rfl, rfl, rfl⟩, ⟨by simp [brHas, h12, hp], by show f.i + 1 ≤ _; omega, ok.j, ok.n, ok.p, hh, fun h => by simp [hp] at h, fun h => by simp [hp] at h, by simp [brAt, hp]; omega, by simp [brAt, hp]; omega⟩, fun h => by simp [hp] at h, fun h => by simp [hp] at h, fun _ => hl, ?_⟩
      rw [rem3 (g := { f with i := f.i + 1 }) hp]
      show c.cap - (f.i + 1) + (brLong f - f.h) + 1 ≤ _
      omega
    · refine ⟨⟨rfl, rfl, rfl, rfl⟩, ⟨by simp [brHas, h12], ok.i, ok.j, ok.n, ok.p, hh, fun h => by simp at h, fun h => by simp at h, by simp [brAt], by simp [brAt]; omega⟩, fun h => by simp at h, fun h => by simp at h, fun h => by simp at h, ?_⟩
      rw [rem20 (by show (20 : Int) ≤ 22; decide)]
      omega
theorem br_kids {c : Cfg} {f : Frm} (l : Cel) (hf : f.Fits) (h13 : f.kind = 13) (ok : BrOk c f) (p1 : f.pc = 5 → 1 ≤ f.p) (hp : f.pc = 5) :
    BrBeh c f (if l.a == f.p + 1 then { f with pc := 23 } else if f.i + 1 < c.cap then { f with i := f.i + 1 } else { f with pc := 6 }) := by
  have hi1 : f.i < c.cap := by have := ok.at1; simp [brAt, hp] at this; exact this
  have hi0 := hf.i
  have hr := rem5 (c := c) hp
  have hh := ok.h
  have hpp := p1 hp
  have hpc := ok.p
  split
  · refine ⟨⟨rfl, rfl, rfl, rfl⟩, ⟨by simp [brHas, h13], ok.i, ok.j, ok.n, ok.p, hh, fun h => by simp at h, fun h => by simp at h, by simp [brAt], by simp [brAt]; omega⟩, fun h => by simp at h, fun h => by simp at h, fun h => by simp at h, ?_⟩
    rw [rem20 (by show (20 : Int) ≤ 23; decide)]
    omega
  · split
    · refine ⟨⟨rfl, rfl, rfl, rfl⟩, ⟨by simp [brHas, h13, hp], by show f.i + 1 ≤ _; omega, ok.j, ok.n, ok.p, hh, fun h => by simp [hp] at h, fun h => by simp [hp] at h, by simp [brAt, hp]; omega, by simp [brAt, hp]; omega⟩, fun h => by simp [hp] at h, fun _ => hpp, fun h => by simp [hp] at h, ?_⟩
      rw [rem5 (g := { f with i := f.i + 1 }) hp]
      show c.cap - (f.i + 1) + 1 + 1 ≤ _
      omega
    · refine ⟨⟨rfl, rfl, rfl, rfl⟩, ⟨by simp [brHas, h13], ok.i, ok.j, ok.n, ok.p, hh, fun h => by simp at h, fun h => by simp at h, by simp [brAt]; omega, by simp [brAt]; omega⟩, fun h => by simp at h, fun h => by simp at h, fun h => by simp at h, ?_⟩
      rw [rem1 (.inr rfl)]
      omega
theorem br_last {c : Cfg} {f : Frm} (hC : 1 ≤ c.cap) (ok : BrOk c f) (hp : f.pc = 4 ∨ f.pc = 6) : BrBeh c f { f with pc := 20 } := by
  refine ⟨⟨rfl, rfl, rfl, rfl⟩, ⟨by simp [brHas], ok.i, ok.j, ok.n, ok.p, ok.h, fun h => by simp at h, fun h => by simp at h, by simp [brAt], by simp [brAt]; omega⟩, fun h => by simp at h, fun h => by simp at h, fun h => by simp at h, ?_⟩
  rw [rem1 hp, rem20 (by show (20 : Int) ≤ 20; decide)]
  omega
/-- What is so of a frame of an operation that goes on. -/
theorem BrIn.facts {c : Cfg} {o : Opn} {f : Frm} (h : BrIn c o f) : (f.kind = 12 ∨ f.kind = 13 ∨ f.kind = 14) ∧ (1 ≤ c.cap ∧ c.cap ≤ 32) ∧ BrOk c f := by
  obtain ⟨h1, h2, h3, h4⟩ := brErr_iff.1 h.err
  refine ⟨?_, ?_, h4⟩
  · unfold opErr at h3
    simp only [h1, if_true] at h3
    split at h3
    · rename_i h5
      have h6 : objOf f.kind = 4 := by have : objOf f.kind = c.object := by simpa [brOp] using h5
                                       omega
      unfold objOf at h6
      split at h6 <;> (try split at h6) <;> (try split at h6) <;> (try split at h6) <;> (try split at h6) <;> omega
    · omega
  · simp [partOk, within] at h1
    omega
theorem br_pcs {c : Cfg} {f : Frm} (_hk : f.kind = 12 ∨ f.kind = 13 ∨ f.kind = 14) (ok : BrOk c f) : f.pc = 0 ∨ (f.pc = 2 ∧ f.kind = 12) ∨ (f.pc = 3 ∧ f.kind = 12) ∨ (f.pc = 4 ∧ f.kind = 12) ∨ (f.pc = 5 ∧ f.kind = 13) ∨ (f.pc = 6 ∧ f.kind = 13) ∨ f.pc = 20 ∨ f.pc = 21 ∨ f.pc = 22 ∨ f.pc = 23 := by
  have h := ok.has
  simp [brHas] at h
  omega
/-- An act of a frame: it is the last, or touches what there is, and the frame behind it goes on, with fewer acts to come. -/
theorem br_goes {c : Cfg} {o : Opn} {f : Frm} (h : BrIn c o f) (hf : f.Fits) : (brStep f).kind = 4 ∨
    ((brStep f).kind ≠ 4 ∧ 0 ≤ (brStep f).at' ∧ (brStep f).at' < c.cap ∧ ((brStep f).kind = 1 ∨ ((brStep f).kind = 2 ∧ o.kind ≠ 14)) ∧
      ∀ l : Cel, BrIn c o (brBehind c f l) ∧ brRem c (brBehind c f l) + 1 ≤ brRem c f) := by
  obtain ⟨hk, hC, ok⟩ := h.facts
  have yes : ∀ g : Frm, BrBeh c f g → BrIn c o g ∧ brRem c g + 1 ≤ brRem c f := fun g b => ⟨b.in h, b.rem⟩
  have h0 := ok.at0
  have h1 := ok.at1
  have hok := h.kind
  rcases br_pcs hk ok with p | ⟨p, k⟩ | ⟨p, k⟩ | ⟨p, k⟩ | ⟨p, k⟩ | ⟨p, k⟩ | p | p | p | p
  · simp [brAt, p] at h0 h1
    refine .inr ⟨by simp [brStep, p], by simp [brStep, p]; exact h0, by simp [brStep, p]; exact h1, .inl (by simp [brStep, p]), fun l => yes _ ?_⟩
    have e : brBehind c f l = if l.a == f.p + 1 && l.b == brName f f.h then brFound f l else brOther c f l := by simp [brBehind, p]
    rw [e]
    split
    · exact br_found l hf hk hC.1 ok p
    · exact br_other l hf hk hC.1 ok h.one p
  · simp [brAt, p] at h0 h1
    refine .inr ⟨by simp [brStep, p], by simp [brStep, p]; exact h0, by simp [brStep, p]; exact h1, .inr ⟨by simp [brStep, p], by omega⟩, fun l => yes _ ?_⟩
    have e : brBehind c f l = brMade c f := by simp [brBehind, p]
    rw [e]
    exact br_made hf k ok p
  · simp [brAt, p] at h0 h1
    refine .inr ⟨by simp [brStep, p], by simp [brStep, p]; exact h0, by simp [brStep, p]; exact h1, .inl (by simp [brStep, p]), fun l => yes _ ?_⟩
    have e : brBehind c f l = if l.a == 0 then { f with j := f.i, pc := 2 } else if f.i + 1 < c.cap then { f with i := f.i + 1 } else { f with pc := 22 } := by simp [brBehind, p]
    rw [e]
    exact br_free l hf k ok (h.h3 p) p
  · simp [brAt, p] at h0 h1
    refine .inr ⟨by simp [brStep, p], by simp [brStep, p]; exact h0, by simp [brStep, p]; exact h1, .inr ⟨by simp [brStep, p], by omega⟩, fun l => yes _ ?_⟩
    have e : brBehind c f l = { f with pc := 20 } := by simp [brBehind, p]
    rw [e]
    exact br_last hC.1 ok (.inl p)
  · simp [brAt, p] at h0 h1
    refine .inr ⟨by simp [brStep, p], by simp [brStep, p]; exact h0, by simp [brStep, p]; exact h1, .inl (by simp [brStep, p]), fun l => yes _ ?_⟩
    have e : brBehind c f l = if l.a == f.p + 1 then { f with pc := 23 } else if f.i + 1 < c.cap then { f with i := f.i + 1 } else { f with pc := 6 } := by simp [brBehind, p]
    rw [e]
    exact br_kids l hf k ok h.p1 p
  · simp [brAt, p] at h0 h1
    refine .inr ⟨by simp [brStep, p], by simp [brStep, p]; exact h0, by simp [brStep, p]; exact h1, .inr ⟨by simp [brStep, p], by omega⟩, fun l => yes _ ?_⟩
    have e : brBehind c f l = { f with pc := 20 } := by simp [brBehind, p]
    rw [e]
    exact br_last hC.1 ok (.inr p)
  · exact .inl (by simp [brStep, p])
  · exact .inl (by simp [brStep, p])
  · exact .inl (by simp [brStep, p])
  · exact .inl (by simp [brStep, p])
theorem br_start {c : Cfg} {o : Opn} (he : brErr c (startF o) = 0) : BrIn c o (startF o) ∧ brRem c (startF o) ≤ (if o.kind = 14 then 3 * c.cap else 4 * c.cap + 3) := by
  have h : BrIn c o (startF o) := ⟨he, rfl, fun _ h => by simp [startF] at h, fun h => by simp [startF] at h, fun h => by simp [startF] at h⟩
  refine ⟨h, ?_⟩
  obtain ⟨hk, hC, ok⟩ := h.facts
  have hl := brLong_le (startF o)
  have e := rem0 (c := c) (g := startF o) rfl
  have m : brLong (startF o) * c.cap ≤ 3 * c.cap := Int.mul_le_mul_of_nonneg_right hl.2 (by omega)
  rw [e]
  show (brLong (startF o) - 0) * c.cap - 0 + (if o.kind = 14 then 0 else if o.kind = 13 then c.cap + 1 else c.cap + 3) ≤ _
  have e0 : (brLong (startF o) - 0) * c.cap = brLong (startF o) * c.cap := by rw [Int.sub_zero]
  split
  · omega
  · split <;> omega
theorem BrIn.small {c : Cfg} {o : Opn} {f : Frm} (h : BrIn c o f) : f.kind ≤ 15 ∧ f.pc ≤ 31 ∧ f.i ≤ 127 ∧ f.j ≤ 127 ∧ f.n ≤ 63 ∧ f.p ≤ 63 ∧ f.h ≤ 7 := by
  obtain ⟨hk, hC, ok⟩ := h.facts
  have hpc := br_pcs hk ok
  have hl := brLong_le f
  have h1 := ok.i
  have h2 := ok.j
  have h3 := ok.n
  have h4 := ok.p
  have h5 := ok.h
  refine ⟨by omega, by omega, by omega, by omega, by omega, by omega, by omega⟩
theorem br_rem {c : Cfg} {o : Opn} {f : Frm} (h : BrIn c o f) : 0 ≤ brRem c f := by
  obtain ⟨hk, hC, ok⟩ := h.facts
  have h1 := ok.i
  have h2 := ok.j
  have h5 := ok.h
  have h6 := ok.at1
  have m : 0 ≤ (brLong f - f.h) * c.cap := Int.mul_nonneg (by omega) (by omega)
  unfold brRem
  split
  · rename_i p
    have hl : f.h < brLong f := by have := ok.h2 (.inl p); omega
    have := (levels hC.1 hl).1
    split
    · omega
    · split <;> omega
  · split
    · rename_i p
      simp [brAt, p] at h6
      omega
    · split
      · omega
      · split
        · omega
        · split <;> omega
end Go.Proofs.YtmbodooikfmegaaDoor
