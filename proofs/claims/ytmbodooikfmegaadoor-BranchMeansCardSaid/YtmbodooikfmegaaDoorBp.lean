/- Plain: a program of a tree of settings is done within so many acts, whatever it reads; no program in sight. -/
import Derived.Test.YtmbodooikfmegaaDoorBranchP
import Derived.Test.YtmbodooikfmegaaDoorStart
import Derived.Test.YtmbodooikfmegaaDoorBrD
import Derived.Test.YtmbodooikfmegaaDoorPatP
namespace Go.Proofs.YtmbodooikfmegaaDoor
open Go Go.RowKit

/-- What the steps leave alone. -/
structure SameS (f g : Frm) : Prop where
  kind : g.kind = f.kind
  a : g.a = f.a
  b : g.b = f.b
  y : g.y = f.y
theorem SameS.op {f g : Frm} (h : SameS f g) : brOp g = brOp f := by
  unfold brOp
  rw [h.kind, h.a, h.b, h.y]
theorem SameS.long {f g : Frm} (h : SameS f g) : brLong g = brLong f := by
  unfold brLong
  rw [h.a, h.b]
/-- How many acts there may be yet. -/
def brRem (c : Cfg) (f : Frm) : Int :=
  if f.pc = 0 then (brLong f - f.h) * c.cap - f.i + (if f.kind = 14 then 0 else if f.kind = 13 then c.cap + 1 else c.cap + 3)
  else if f.pc = 2 then c.cap - f.j - 1 + (brLong f - f.h) else if f.pc = 3 then c.cap - f.i + (brLong f - f.h)
  else if f.pc = 5 then c.cap - f.i + 1 else if f.pc = 4 ∨ f.pc = 6 then 1 else 0
/-- What is so of a frame that may be. -/
structure BrOk (c : Cfg) (f : Frm) : Prop where
  has : brHas f = true
  i : f.i ≤ c.cap
  j : f.j ≤ c.cap
  n : f.n ≤ c.cap
  p : f.p ≤ c.cap
  h : f.h ≤ brLong f
  h2 : (f.pc = 0 ∨ f.pc = 2) → f.h ≠ brLong f
  ni : f.pc = 0 → f.n ≤ f.i
  at0 : 0 ≤ brAt f
  at1 : brAt f < c.cap
theorem brMay_iff {c : Cfg} {f : Frm} : brMay c f = true ↔ opErr c (brOp f) = 0 ∧ BrOk c f := by
  constructor
  · intro h
    simp [brMay] at h
    obtain ⟨⟨⟨⟨⟨⟨⟨⟨⟨⟨h1, h2⟩, h3⟩, h4⟩, h5⟩, h6⟩, h7⟩, h8⟩, h9⟩, h10⟩, h11⟩ := h
    exact ⟨h1, h2, h3, h4, h5, h6, h7, fun hq => h8.elim (fun z => by omega) id, fun hq => h9.elim (fun z => absurd hq z) id, h10, h11⟩
  · rintro ⟨h1, h⟩
    simp [brMay, h1, h.has, h.i, h.j, h.n, h.p, h.h, h.at0, h.at1]
    have h8 := h.h2
    have h9 := h.ni
    constructor
    · by_cases q : f.pc = 0 ∨ f.pc = 2
      · exact .inr (h8 q)
      · exact .inl (by omega)
    · by_cases q : f.pc = 0
      · exact .inr (h9 q)
      · exact .inl q
theorem brErr_iff {c : Cfg} {f : Frm} : brErr c f = 0 ↔ partOk c = true ∧ c.object = 4 ∧ opErr c (brOp f) = 0 ∧ BrOk c f := by
  unfold brErr
  constructor
  · intro h
    split at h
    · rename_i h1
      simp at h1
      split at h
      · rename_i h2
        exact ⟨h1.1, h1.2, brMay_iff.1 h2⟩
      · cases h
    · cases h
  · rintro ⟨h1, h2, h3⟩
    have := brMay_iff.2 h3
    simp [h1, h2, this]
/-- A frame of an operation that goes on. -/
structure BrIn (c : Cfg) (o : Opn) (f : Frm) : Prop where
  err : brErr c f = 0
  kind : f.kind = o.kind
  one : f.pc = 0 → 1 ≤ f.n → f.j < c.cap
  p1 : f.pc = 5 → 1 ≤ f.p
  h3 : f.pc = 3 → f.h < brLong f
/-- What a step does to a frame. -/
structure BrBeh (c : Cfg) (f g : Frm) : Prop where
  same : SameS f g
  ok : BrOk c g
  one : g.pc = 0 → 1 ≤ g.n → g.j < c.cap
  p1 : g.pc = 5 → 1 ≤ g.p
  h3 : g.pc = 3 → g.h < brLong g
  rem : brRem c g + 1 ≤ brRem c f
theorem BrBeh.in {c : Cfg} {o : Opn} {f g : Frm} (h : BrIn c o f) (b : BrBeh c f g) : BrIn c o g := by
  obtain ⟨h1, h2, h3, _⟩ := brErr_iff.1 h.err
  exact ⟨brErr_iff.2 ⟨h1, h2, by rw [b.same.op]; exact h3, b.ok⟩, b.same.kind.trans h.kind, b.one, b.p1, b.h3⟩
theorem brLongZ (f : Frm) : 0 ≤ brLong f ∧ brLong f ≤ 3 := by
  unfold brLong
  split
  · omega
  · split
    · omega
    · split <;> omega
/-- The rows that are left of a level, and below it. -/
theorem levels {L h C : Int} (hC : 1 ≤ C) (hh : h < L) : C ≤ (L - h) * C ∧ (L - (h + 1)) * C = (L - h) * C - C := by
  have e : (L - (h + 1)) * C = (L - h) * C - C := by
    rw [show L - (h + 1) = (L - h) - 1 by omega, Int.sub_mul]
    omega
  have p : 0 ≤ (L - (h + 1)) * C := Int.mul_nonneg (by omega) (by omega)
  exact ⟨by omega, e⟩
theorem rem0 {c : Cfg} {g : Frm} (h : g.pc = 0) : brRem c g = (brLong g - g.h) * c.cap - g.i + (if g.kind = 14 then 0 else if g.kind = 13 then c.cap + 1 else c.cap + 3) := by simp only [brRem, h, if_true]
theorem rem2 {c : Cfg} {g : Frm} (h : g.pc = 2) : brRem c g = c.cap - g.j - 1 + (brLong g - g.h) := by simp [brRem, h]
theorem rem3 {c : Cfg} {g : Frm} (h : g.pc = 3) : brRem c g = c.cap - g.i + (brLong g - g.h) := by simp [brRem, h]
theorem rem5 {c : Cfg} {g : Frm} (h : g.pc = 5) : brRem c g = c.cap - g.i + 1 := by simp [brRem, h]
theorem rem1 {c : Cfg} {g : Frm} (h : g.pc = 4 ∨ g.pc = 6) : brRem c g = 1 := by rcases h with h | h <;> simp [brRem, h]
theorem rem20 {c : Cfg} {g : Frm} (h : 20 ≤ g.pc) : brRem c g = 0 := by
  unfold brRem
  rw [if_neg (by omega), if_neg (by omega), if_neg (by omega), if_neg (by omega), if_neg (by omega)]
theorem br_more {c : Cfg} {f g : Frm} (hs : SameS f g) (_hk : f.kind = 12 ∨ f.kind = 13 ∨ f.kind = 14) (hC : 1 ≤ c.cap) (hp0 : f.pc = 0) (hp : g.pc = 0) (hi : g.i = f.i) (hh : g.h = f.h) (hl : f.h < brLong f) (hh0 : 0 ≤ f.h) (hn : 0 ≤ g.n ∧ g.n ≤ f.i + 1) (hj : 0 ≤ g.j ∧ g.j ≤ c.cap) (hone : 1 ≤ g.n → g.j < c.cap) (hpp : g.p ≤ c.cap) (hi0 : 0 ≤ f.i) (hic : f.i < c.cap) :
    BrBeh c f (brMore c g) := by
  obtain ⟨l1, l2⟩ := levels hC hl
  have hL := hs.long
  have hL3 := brLongZ f
  have hkg := hs.kind
  obtain ⟨B, hB⟩ : ∃ B : Int, (if f.kind = 14 then 0 else if f.kind = 13 then c.cap + 1 else c.cap + 3) = B := ⟨_, rfl⟩
  have hB0 : 0 ≤ B := by rw [← hB]; split; omega; split <;> omega
  have hrf : brRem c f = (brLong f - f.h) * c.cap - f.i + B := by simp only [brRem, hp0, if_true, hB]
  unfold brMore
  split
  · rename_i hlt
    have e : brLong { g with i := g.i + 1 } = brLong f := hL
    refine ⟨⟨hs.kind, hs.a, hs.b, hs.y⟩, ⟨by simp [brHas, hp], by show g.i + 1 ≤ _; omega, hj.2, by show g.n ≤ _; omega, hpp, by rw [e]; show g.h ≤ _; omega, fun _ => by rw [e]; show g.h ≠ _; omega, fun _ => by show g.n ≤ g.i + 1; omega, by simp [brAt, hp]; omega, by simp [brAt, hp]; omega⟩, fun _ h1 => hone h1, fun h5 => by simp [hp] at h5, fun h => by simp [hp] at h, ?_⟩
    rw [hrf]
    have e2 : brRem c { g with i := g.i + 1 } = (brLong f - f.h) * c.cap - (f.i + 1) + B := by
      rw [rem0 (g := { g with i := g.i + 1 }) hp, e]
      show (brLong f - g.h) * c.cap - (g.i + 1) + (if g.kind = 14 then 0 else if g.kind = 13 then c.cap + 1 else c.cap + 3) = _
      rw [hh, hi, hkg, hB]
    omega
  · rename_i hge
    split
    · rename_i h12
      have h12' : g.kind = 12 := by simpa using h12
      have hf12 : f.kind = 12 := by omega
      have hBv : B = c.cap + 3 := by rw [← hB, if_neg (by omega), if_neg (by omega)]
      split
      · refine ⟨⟨hs.kind, hs.a, hs.b, hs.y⟩, ⟨by simp [brHas, h12'], by show g.i ≤ _; omega, hj.2, by show g.n ≤ _; omega, hpp, by show g.h ≤ brLong g; omega, fun h => by simp at h, fun h => by simp at h, by simp [brAt], by simp [brAt]; omega⟩, fun h => by simp at h, fun h => by simp at h, fun h => by simp at h, ?_⟩
        rw [hrf]
        simp [brRem]
        omega
      · rename_i hnl
        have hnl' : brLong g - g.h ≤ g.n := by omega
        have hjc := hone (by omega)
        refine ⟨⟨hs.kind, hs.a, hs.b, hs.y⟩, ⟨by simp [brHas, h12'], by show g.i ≤ _; omega, hj.2, by show g.n ≤ _; omega, hpp, by show g.h ≤ brLong g; omega, fun _ => by show g.h ≠ brLong g; omega, fun h => by simp at h, by simp [brAt]; omega, by simp [brAt]; omega⟩, fun h => by simp at h, fun h => by simp at h, fun h => by simp at h, ?_⟩
        rw [hrf]
        have e2 : brRem c { g with pc := 2 } = c.cap - g.j - 1 + (brLong f - f.h) := by
          have e : brLong { g with pc := 2 } = brLong f := hL
          rw [rem2 (g := { g with pc := 2 }) rfl, e]
          show c.cap - g.j - 1 + (brLong f - g.h) = _
          rw [hh]
        omega
    · rename_i h12
      have h12' : g.kind ≠ 12 := by simpa using h12
      refine ⟨⟨hs.kind, hs.a, hs.b, hs.y⟩, ⟨by simp [brHas, h12'], by show g.i ≤ _; omega, hj.2, by show g.n ≤ _; omega, hpp, by show g.h ≤ brLong g; omega, fun h => by simp at h, fun h => by simp at h, by simp [brAt], by simp [brAt]; omega⟩, fun h => by simp at h, fun h => by simp at h, fun h => by simp at h, ?_⟩
      rw [hrf]
      simp [brRem]
      omega
theorem br_found {c : Cfg} {f : Frm} (l : Cel) (hf : f.Fits) (_hk : f.kind = 12 ∨ f.kind = 13 ∨ f.kind = 14) (hC : 1 ≤ c.cap) (ok : BrOk c f) (hp0 : f.pc = 0) : BrBeh c f (brFound f l) := by
  have hl : f.h < brLong f := by have := ok.h; have := ok.h2 (.inl hp0); omega
  have hi1 : f.i < c.cap := by have := ok.at1; simp [brAt, hp0] at this; exact this
  have hi0 := hf.i
  have hh0 := hf.h
  have hpc := ok.p
  have hp1 := hf.p
  obtain ⟨l1, l2⟩ := levels hC hl
  have hL3 := brLongZ f
  obtain ⟨B, hB⟩ : ∃ B : Int, (if f.kind = 14 then 0 else if f.kind = 13 then c.cap + 1 else c.cap + 3) = B := ⟨_, rfl⟩
  have hB0 : 0 ≤ B := by rw [← hB]; split; omega; split <;> omega
  have hrf : brRem c f = (brLong f - f.h) * c.cap - f.i + B := by rw [rem0 hp0, hB]
  unfold brFound
  split
  · rename_i hlt
    refine ⟨⟨rfl, rfl, rfl, rfl⟩, ⟨by simp [brHas, hp0], by show (0 : Int) ≤ _; omega, hpc, by show (0 : Int) ≤ _; omega, by show f.i + 1 ≤ _; omega, by show f.h + 1 ≤ brLong f; omega, fun _ => by show f.h + 1 ≠ brLong f; omega, fun _ => by show (0 : Int) ≤ 0; omega, by simp [brAt, hp0], by simp [brAt, hp0]; omega⟩, fun _ h1 => by exact absurd h1 (by show ¬ (1 : Int) ≤ 0; omega), fun h5 => by simp [hp0] at h5, fun h => by simp [hp0] at h, ?_⟩
    have e : brRem c { f with x := l.c % 4294967296, j := f.p, p := f.i + 1, h := f.h + 1, i := 0, n := 0 } = (brLong f - (f.h + 1)) * c.cap - 0 + B := by
      rw [rem0 (g := { f with x := l.c % 4294967296, j := f.p, p := f.i + 1, h := f.h + 1, i := 0, n := 0 }) hp0]
      show (brLong f - (f.h + 1)) * c.cap - 0 + (if f.kind = 14 then 0 else if f.kind = 13 then c.cap + 1 else c.cap + 3) = _
      rw [hB]
    omega
  · rename_i hge
    have hge' : f.h + 1 = brLong f := by omega
    split
    · rename_i h12
      have h12' : f.kind = 12 := by simpa using h12
      have hBv : B = c.cap + 3 := by rw [← hB, if_neg (by omega), if_neg (by omega)]
      refine ⟨⟨rfl, rfl, rfl, rfl⟩, ⟨by simp [brHas, h12'], by show f.i ≤ _; omega, hpc, ok.n, by show f.i + 1 ≤ _; omega, by show f.h + 1 ≤ brLong f; omega, fun h => by simp at h, fun h => by simp at h, by simp [brAt]; omega, by simp [brAt]; omega⟩, fun h => by simp at h, fun h => by simp at h, fun h => by simp at h, ?_⟩
      rw [rem1 (.inl rfl)]
      omega
    · rename_i h12
      have h12' : f.kind ≠ 12 := by simpa using h12
      split
      · rename_i h13
        have h13' : f.kind = 13 := by simpa using h13
        have hBv : B = c.cap + 1 := by rw [← hB, if_neg (by omega), if_pos h13']
        refine ⟨⟨rfl, rfl, rfl, rfl⟩, ⟨by simp [brHas, h13'], by show (0 : Int) ≤ _; omega, hpc, ok.n, by show f.i + 1 ≤ _; omega, by show f.h + 1 ≤ brLong f; omega, fun h => by simp at h, fun h => by simp at h, by simp [brAt], by simp [brAt]; omega⟩, fun h => by simp at h, fun _ => by show 1 ≤ f.i + 1; omega, fun h => by simp at h, ?_⟩
        rw [rem5 rfl]
        show c.cap - 0 + 1 + 1 ≤ _
        omega
      · split
        · refine ⟨⟨rfl, rfl, rfl, rfl⟩, ⟨by simp [brHas, h12'], by show f.i ≤ _; omega, hpc, ok.n, by show f.i + 1 ≤ _; omega, by show f.h + 1 ≤ brLong f; omega, fun h => by simp at h, fun h => by simp at h, by simp [brAt], by simp [brAt]; omega⟩, fun h => by simp at h, fun h => by simp at h, fun h => by simp at h, ?_⟩
          rw [rem20 (by show (20 : Int) ≤ 21; decide)]
          omega
        · refine ⟨⟨rfl, rfl, rfl, rfl⟩, ⟨by simp [brHas], by show f.i ≤ _; omega, hpc, ok.n, by show f.i + 1 ≤ _; omega, by show f.h + 1 ≤ brLong f; omega, fun h => by simp at h, fun h => by simp at h, by simp [brAt], by simp [brAt]; omega⟩, fun h => by simp at h, fun h => by simp at h, fun h => by simp at h, ?_⟩
          rw [rem20 (by show (20 : Int) ≤ 20; decide)]
          omega
theorem br_other {c : Cfg} {f : Frm} (l : Cel) (hf : f.Fits) (hk : f.kind = 12 ∨ f.kind = 13 ∨ f.kind = 14) (hC : 1 ≤ c.cap) (ok : BrOk c f) (one : f.pc = 0 → 1 ≤ f.n → f.j < c.cap) (hp0 : f.pc = 0) : BrBeh c f (brOther c f l) := by
  have hl : f.h < brLong f := by have := ok.h; have := ok.h2 (.inl hp0); omega
  have hi1 : f.i < c.cap := by have := ok.at1; simp [brAt, hp0] at this; exact this
  have hi0 := hf.i
  have hh0 := hf.h
  have hn0 := hf.n
  have hj0 := hf.j
  have hni := ok.ni hp0
  have hjc := ok.j
  have one' := one hp0
  unfold brOther
  split
  · split
    · rename_i hn
      exact br_more (g := { f with j := f.i, n := f.n + 1 }) ⟨rfl, rfl, rfl, rfl⟩ hk hC hp0 hp0 rfl rfl hl hh0.1 ⟨by show 0 ≤ f.n + 1; omega, by show f.n + 1 ≤ _; omega⟩ ⟨hi0.1, by show f.i ≤ _; omega⟩ (fun _ => hi1) ok.p hi0.1 hi1
    · rename_i hn
      have hn' : f.n ≠ 0 := by simpa using hn
      exact br_more (g := { f with n := f.n + 1 }) ⟨rfl, rfl, rfl, rfl⟩ hk hC hp0 hp0 rfl rfl hl hh0.1 ⟨by show 0 ≤ f.n + 1; omega, by show f.n + 1 ≤ _; omega⟩ ⟨hj0.1, hjc⟩ (fun _ => one' (by omega)) ok.p hi0.1 hi1
  · exact br_more (g := f) ⟨rfl, rfl, rfl, rfl⟩ hk hC hp0 hp0 rfl rfl hl hh0.1 ⟨hn0.1, by omega⟩ ⟨hj0.1, hjc⟩ one' ok.p hi0.1 hi1
theorem br_made {c : Cfg} {f : Frm} (hf : f.Fits) (h12 : f.kind = 12) (ok : BrOk c f) (hp : f.pc = 2) : BrBeh c f (brMade c f) := by
  have hl : f.h < brLong f := by have := ok.h; have := ok.h2 (.inr hp); omega
  have hj1 : f.j < c.cap := by have := ok.at1; simp [brAt, hp] at this; exact this
  have hj0 := hf.j
  have hh0 := hf.h
  have hr := rem2 (c := c) hp
  have hi := ok.i
  unfold brMade
  split
  · rename_i he
    have he' : f.h + 1 = brLong f := by simpa using he
    refine ⟨⟨rfl, rfl, rfl, rfl⟩, ⟨by simp [brHas], hi, ok.j, ok.n, by show f.j + 1 ≤ _; omega, by show f.h + 1 ≤ brLong f; omega, fun h => by simp at h, fun h => by simp at h, by simp [brAt], by simp [brAt]; omega⟩, fun h => by simp at h, fun h => by simp at h, fun h => by simp at h, ?_⟩
    rw [rem20 (by show (20 : Int) ≤ 20; decide)]
    omega
  · rename_i he
    have he' : f.h + 1 ≠ brLong f := by simpa using he
    split
    · rename_i hlt
      refine ⟨⟨rfl, rfl, rfl, rfl⟩, ⟨by simp [brHas, h12], by show f.j + 1 ≤ _; omega, ok.j, ok.n, by show f.j + 1 ≤ _; omega, by show f.h + 1 ≤ brLong f; omega, fun h => by simp at h, fun h => by simp at h, by simp [brAt]; omega, by simp [brAt]; omega⟩, fun h => by simp at h, fun h => by simp at h, fun _ => by show f.h + 1 < brLong f; omega, ?_⟩
      rw [rem3 rfl]
      show c.cap - (f.j + 1) + (brLong f - (f.h + 1)) + 1 ≤ _
      omega
    · refine ⟨⟨rfl, rfl, rfl, rfl⟩, ⟨by simp [brHas, h12], hi, ok.j, ok.n, by show f.j + 1 ≤ _; omega, by show f.h + 1 ≤ brLong f; omega, fun h => by simp at h, fun h => by simp at h, by simp [brAt], by simp [brAt]; omega⟩, fun h => by simp at h, fun h => by simp at h, fun h => by simp at h, ?_⟩
      rw [rem20 (by show (20 : Int) ≤ 22; decide)]
      omega
theorem br_free {c : Cfg} {f : Frm} (l : Cel) (hf : f.Fits) (h12 : f.kind = 12) (ok : BrOk c f) (hl : f.h < brLong f) (hp : f.pc = 3) :
    BrBeh c f (if l.a == 0 then { f with j := f.i, pc := 2 } else if f.i + 1 < c.cap then { f with i := f.i + 1 } else { f with pc := 22 }) := by
  have hi1 : f.i < c.cap := by have := ok.at1; simp [brAt, hp] at this; exact this
  have hi0 := hf.i
  have hr := rem3 (c := c) hp
  have hh := ok.h
  split
  · refine ⟨⟨rfl, rfl, rfl, rfl⟩, ⟨by simp [brHas, h12], ok.i, by show f.i ≤ _; omega, ok.n, ok.p, hh, fun _ => by show f.h ≠ brLong f; omega, fun h => by simp at h, by simp [brAt]; omega, by simp [brAt]; omega⟩, fun h => by simp at h, fun h => by simp at h, fun h => by simp at h, ?_⟩
    rw [rem2 rfl]
    show c.cap - f.i - 1 + (brLong f - f.h) + 1 ≤ _
    omega
  · split
    · refine ⟨⟨rfl, rfl, rfl, rfl⟩, ⟨by simp [brHas, h12, hp], by show f.i + 1 ≤ _; omega, ok.j, ok.n, ok.p, hh, fun h => by simp [hp] at h, fun h => by simp [hp] at h, by simp [brAt, hp]; omega, by simp [brAt, hp]; omega⟩, fun h => by simp [hp] at h, fun h => by simp [hp] at h, fun _ => hl, ?_⟩
      rw [rem3 (g := { f with i := f.i + 1 }) hp]
      show c.cap - (f.i + 1) + (brLong f - f.h) + 1 ≤ _
      omega
    · refine ⟨⟨rfl, rfl, rfl, rfl⟩, ⟨by simp [brHas, h12], ok.i, ok.j, ok.n, ok.p, hh, fun h => by simp at h, fun h => by simp at h, by simp [brAt], by simp [brAt]; omega⟩, fun h => by simp at h, fun h => by simp at h, fun h => by simp at h, ?_⟩
      rw [rem20 (by show (20 : Int) ≤ 22; decide)]
      omega
theorem br_kids {c : Cfg} {f : Frm} (l : Cel) (hf : f.Fits) (h13 : f.kind = 13) (ok : BrOk c f) (p1 : f.pc = 5 → 1 ≤ f.p) (hp : f.pc = 5) :
    BrBeh c f (if l.a == f.p + 1 then { f with pc := 23 } else if f.i + 1 < c.cap then { f with i := f.i + 1 } else { f with pc := 6 }) := by
  have hi1 : f.i < c.cap := by have := ok.at1; simp [brAt, hp] at this; exact this
  have hi0 := hf.i
  have hr := rem5 (c := c) hp
  have hh := ok.h
  have hpp := p1 hp
  have hpc := ok.p
  split
  · refine ⟨⟨rfl, rfl, rfl, rfl⟩, ⟨by simp [brHas, h13], ok.i, ok.j, ok.n, ok.p, hh, fun h => by simp at h, fun h => by simp at h, by simp [brAt], by simp [brAt]; omega⟩, fun h => by simp at h, fun h => by simp at h, fun h => by simp at h, ?_⟩
    rw [rem20 (by show (20 : Int) ≤ 23; decide)]
    omega
  · split
    · refine ⟨⟨rfl, rfl, rfl, rfl⟩, ⟨by simp [brHas, h13, hp], by show f.i + 1 ≤ _; omega, ok.j, ok.n, ok.p, hh, fun h => by simp [hp] at h, fun h => by simp [hp] at h, by simp [brAt, hp]; omega, by simp [brAt, hp]; omega⟩, fun h => by simp [hp] at h, fun _ => hpp, fun h => by simp [hp] at h, ?_⟩
      rw [rem5 (g := { f with i := f.i + 1 }) hp]
      show c.cap - (f.i + 1) + 1 + 1 ≤ _
      omega
    · refine ⟨⟨rfl, rfl, rfl, rfl⟩, ⟨by simp [brHas, h13], ok.i, ok.j, ok.n, ok.p, hh, fun h => by simp at h, fun h => by simp at h, by simp [brAt]; omega, by simp [brAt]; omega⟩, fun h => by simp at h, fun h => by simp at h, fun h => by simp at h, ?_⟩
      rw [rem1 (.inr rfl)]
      omega
theorem br_last {c : Cfg} {f : Frm} (hC : 1 ≤ c.cap) (ok : BrOk c f) (hp : f.pc = 4 ∨ f.pc = 6) : BrBeh c f { f with pc := 20 } := by
  refine ⟨⟨rfl, rfl, rfl, rfl⟩, ⟨by simp [brHas], ok.i, ok.j, ok.n, ok.p, ok.h, fun h => by simp at h, fun h => by simp at h, by simp [brAt], by simp [brAt]; omega⟩, fun h => by simp at h, fun h => by simp at h, fun h => by simp at h, ?_⟩
  rw [rem1 hp, rem20 (by show (20 : Int) ≤ 20; decide)]
  omega
/-- What is so of a frame of an operation that goes on. -/
theorem BrIn.facts {c : Cfg} {o : Opn} {f : Frm} (h : BrIn c o f) : (f.kind = 12 ∨ f.kind = 13 ∨ f.kind = 14) ∧ (1 ≤ c.cap ∧ c.cap ≤ 32) ∧ BrOk c f := by
  obtain ⟨h1, h2, h3, h4⟩ := brErr_iff.1 h.err
  refine ⟨?_, ?_, h4⟩
  · unfold opErr at h3
    simp only [h1, if_true] at h3
    split at h3
    · rename_i h5
      have h6 : objOf f.kind = 4 := by have : objOf f.kind = c.object := by simpa [brOp] using h5
                                       omega
      unfold objOf at h6
      split at h6 <;> (try split at h6) <;> (try split at h6) <;> (try split at h6) <;> (try split at h6) <;> omega
    · omega
  · simp [partOk, within] at h1
    omega
theorem br_pcs {c : Cfg} {f : Frm} (_hk : f.kind = 12 ∨ f.kind = 13 ∨ f.kind = 14) (ok : BrOk c f) : f.pc = 0 ∨ (f.pc = 2 ∧ f.kind = 12) ∨ (f.pc = 3 ∧ f.kind = 12) ∨ (f.pc = 4 ∧ f.kind = 12) ∨ (f.pc = 5 ∧ f.kind = 13) ∨ (f.pc = 6 ∧ f.kind = 13) ∨ f.pc = 20 ∨ f.pc = 21 ∨ f.pc = 22 ∨ f.pc = 23 := by
  have h := ok.has
  simp [brHas] at h
  omega
/-- An act of a frame: it is the last, or touches what there is, and the frame behind it goes on, with fewer acts to come. -/
theorem br_goes {c : Cfg} {o : Opn} {f : Frm} (h : BrIn c o f) (hf : f.Fits) : (brStep f).kind = 4 ∨
    ((brStep f).kind ≠ 4 ∧ 0 ≤ (brStep f).at' ∧ (brStep f).at' < c.cap ∧ ((brStep f).kind = 1 ∨ ((brStep f).kind = 2 ∧ o.kind ≠ 14)) ∧
      ∀ l : Cel, BrIn c o (brBehind c f l) ∧ brRem c (brBehind c f l) + 1 ≤ brRem c f) := by
  obtain ⟨hk, hC, ok⟩ := h.facts
  have yes : ∀ g : Frm, BrBeh c f g → BrIn c o g ∧ brRem c g + 1 ≤ brRem c f := fun g b => ⟨b.in h, b.rem⟩
  have h0 := ok.at0
  have h1 := ok.at1
  have hok := h.kind
  rcases br_pcs hk ok with p | ⟨p, k⟩ | ⟨p, k⟩ | ⟨p, k⟩ | ⟨p, k⟩ | ⟨p, k⟩ | p | p | p | p
  · simp [brAt, p] at h0 h1
    refine .inr ⟨by simp [brStep, p], by simp [brStep, p]; exact h0, by simp [brStep, p]; exact h1, .inl (by simp [brStep, p]), fun l => yes _ ?_⟩
    have e : brBehind c f l = if l.a == f.p + 1 && l.b == brName f f.h then brFound f l else brOther c f l := by simp [brBehind, p]
    rw [e]
    split
    · exact br_found l hf hk hC.1 ok p
    · exact br_other l hf hk hC.1 ok h.one p
  · simp [brAt, p] at h0 h1
    refine .inr ⟨by simp [brStep, p], by simp [brStep, p]; exact h0, by simp [brStep, p]; exact h1, .inr ⟨by simp [brStep, p], by omega⟩, fun l => yes _ ?_⟩
    have e : brBehind c f l = brMade c f := by simp [brBehind, p]
    rw [e]
    exact br_made hf k ok p
  · simp [brAt, p] at h0 h1
    refine .inr ⟨by simp [brStep, p], by simp [brStep, p]; exact h0, by simp [brStep, p]; exact h1, .inl (by simp [brStep, p]), fun l => yes _ ?_⟩
    have e : brBehind c f l = if l.a == 0 then { f with j := f.i, pc := 2 } else if f.i + 1 < c.cap then { f with i := f.i + 1 } else { f with pc := 22 } := by simp [brBehind, p]
    rw [e]
    exact br_free l hf k ok (h.h3 p) p
  · simp [brAt, p] at h0 h1
    refine .inr ⟨by simp [brStep, p], by simp [brStep, p]; exact h0, by simp [brStep, p]; exact h1, .inr ⟨by simp [brStep, p], by omega⟩, fun l => yes _ ?_⟩
    have e : brBehind c f l = { f with pc := 20 } := by simp [brBehind, p]
    rw [e]
    exact br_last hC.1 ok (.inl p)
  · simp [brAt, p] at h0 h1
    refine .inr ⟨by simp [brStep, p], by simp [brStep, p]; exact h0, by simp [brStep, p]; exact h1, .inl (by simp [brStep, p]), fun l => yes _ ?_⟩
    have e : brBehind c f l = if l.a == f.p + 1 then { f with pc := 23 } else if f.i + 1 < c.cap then { f with i := f.i + 1 } else { f with pc := 6 } := by simp [brBehind, p]
    rw [e]
    exact br_kids l hf k ok h.p1 p
  · simp [brAt, p] at h0 h1
    refine .inr ⟨by simp [brStep, p], by simp [brStep, p]; exact h0, by simp [brStep, p]; exact h1, .inr ⟨by simp [brStep, p], by omega⟩, fun l => yes _ ?_⟩
    have e : brBehind c f l = { f with pc := 20 } := by simp [brBehind, p]
    rw [e]
    exact br_last hC.1 ok (.inr p)
  · exact .inl (by simp [brStep, p])
  · exact .inl (by simp [brStep, p])
  · exact .inl (by simp [brStep, p])
  · exact .inl (by simp [brStep, p])
theorem br_start {c : Cfg} {o : Opn} (he : brErr c (startF o) = 0) : BrIn c o (startF o) ∧ brRem c (startF o) ≤ (if o.kind = 14 then 3 * c.cap else 4 * c.cap + 3) := by
  have h : BrIn c o (startF o) := ⟨he, rfl, fun _ h => by simp [startF] at h, fun h => by simp [startF] at h, fun h => by simp [startF] at h⟩
  refine ⟨h, ?_⟩
  obtain ⟨hk, hC, ok⟩ := h.facts
  have hl := brLongZ (startF o)
  have e := rem0 (c := c) (g := startF o) rfl
  have m : brLong (startF o) * c.cap ≤ 3 * c.cap := Int.mul_le_mul_of_nonneg_right hl.2 (by omega)
  rw [e]
  show (brLong (startF o) - 0) * c.cap - 0 + (if o.kind = 14 then 0 else if o.kind = 13 then c.cap + 1 else c.cap + 3) ≤ _
  have e0 : (brLong (startF o) - 0) * c.cap = brLong (startF o) * c.cap := by rw [Int.sub_zero]
  split
  · omega
  · split <;> omega
theorem BrIn.small {c : Cfg} {o : Opn} {f : Frm} (h : BrIn c o f) : f.kind ≤ 15 ∧ f.pc ≤ 31 ∧ f.i ≤ 127 ∧ f.j ≤ 127 ∧ f.n ≤ 63 ∧ f.p ≤ 63 ∧ f.h ≤ 7 := by
  obtain ⟨hk, hC, ok⟩ := h.facts
  have hpc := br_pcs hk ok
  have hl := brLongZ f
  have h1 := ok.i
  have h2 := ok.j
  have h3 := ok.n
  have h4 := ok.p
  have h5 := ok.h
  refine ⟨by omega, by omega, by omega, by omega, by omega, by omega, by omega⟩
theorem br_rem {c : Cfg} {o : Opn} {f : Frm} (h : BrIn c o f) : 0 ≤ brRem c f := by
  obtain ⟨hk, hC, ok⟩ := h.facts
  have h1 := ok.i
  have h2 := ok.j
  have h5 := ok.h
  have h6 := ok.at1
  have m : 0 ≤ (brLong f - f.h) * c.cap := Int.mul_nonneg (by omega) (by omega)
  unfold brRem
  split
  · rename_i p
    have hl : f.h < brLong f := by have := ok.h2 (.inl p); omega
    have := (levels hC.1 hl).1
    split
    · omega
    · split <;> omega
  · split
    · rename_i p
      simp [brAt, p] at h6
      omega
    · split
      · omega
      · split
        · omega
        · split <;> omega
end Go.Proofs.YtmbodooikfmegaaDoor
/- Plain: the cells of a tree of settings as a table of paths; no program in sight. -/
namespace Go.Proofs.YtmbodooikfmegaaDoor
open Go Go.RowKit paths

/-- A cell that is not there is nought. -/
def cl (L : List Cel) (i : Nat) : Cel := L.getD i zc
theorem cl_out {L : List Cel} {i : Nat} (h : L.length ≤ i) : cl L i = zc := by simp [cl, h]
theorem cl_lt {L : List Cel} {i : Nat} (h : (cl L i).a ≠ 0) : i < L.length := by
  by_cases hi : i < L.length
  · exact hi
  · exact absurd (by rw [cl_out (by omega)]) h
theorem cl_get {L : List Cel} {i : Nat} (h : i < L.length) : cl L i = L[i] := by simp [cl, h]
theorem cl_set {L : List Cel} {i : Nat} (x : Cel) (h : i < L.length) (j : Nat) : cl (L.set i x) j = if j = i then x else cl L j := by
  unfold cl
  rw [List.getD_eq_getElem?_getD, List.getD_eq_getElem?_getD, List.getElem?_set]
  by_cases e : i = j
  · subst e
    simp [h]
  · have e' : ¬ j = i := fun q => e q.symm
    simp [e, e']
/-- A key's last name. -/
def lastN (k : Int) : Int := if k % 65536 = 0 then (if k / 65536 % 65536 = 0 then k / 4294967296 else k / 65536 % 65536) else k % 65536
theorem last_inj {k k' : Int} (h : wholeK k = true) (h' : wholeK k' = true) (h1 : parK k = parK k') (h2 : lastN k = lastN k') : k = k' := by
  rw [whole_iff] at h h'
  unfold parK at h1
  unfold lastN at h2
  by_cases a1 : k % 65536 = 0 <;> by_cases a2 : k / 65536 % 65536 = 0 <;> by_cases b1 : k' % 65536 = 0 <;> by_cases b2 : k' / 65536 % 65536 = 0 <;> simp only [a1, a2, b1, b2, if_true, if_false] at h1 h2 <;> omega
/-- Cells that are a tree of settings, with a key for each node, and its rows. -/
structure BrTr (L : List Cel) (K : Nat → Int) (M : List Rw) : Prop where
  fit : CelsFit L
  whole : ∀ i, (cl L i).a ≠ 0 → wholeK (K i) = true
  last : ∀ i, (cl L i).a ≠ 0 → (cl L i).b = lastN (K i)
  top : ∀ i, (cl L i).a = 1 → parK (K i) = 0
  par : ∀ i, (cl L i).a ≠ 0 → (cl L i).a ≠ 1 → ∃ j : Nat, (cl L i).a = (j : Int) + 2 ∧ (cl L j).a ≠ 0 ∧ K j = parK (K i)
  inj : ∀ i j, (cl L i).a ≠ 0 → (cl L j).a ≠ 0 → K i = K j → i = j
  val : ∀ i, (cl L i).a ≠ 0 → (cl L i).c ≤ 2147483648
  rises : Rises M
  rows : ∀ k v, look M k = some v ↔ ∃ i, (cl L i).a ≠ 0 ∧ K i = k ∧ (cl L i).c = v
theorem BrTr.here {L : List Cel} {K : Nat → Int} {M : List Rw} (h : BrTr L K M) {i : Nat} (hi : (cl L i).a ≠ 0) : look M (K i) = some (cl L i).c := (h.rows _ _).2 ⟨i, hi, rfl, rfl⟩
theorem BrTr.lacks {L : List Cel} {K : Nat → Int} {M : List Rw} (h : BrTr L K M) {k : Int} (hk : look M k = none) : ∀ i, (cl L i).a ≠ 0 → K i ≠ k := fun i hi e => by
  rw [← e, h.here hi] at hk
  cases hk
/-- The number of a node by its pointer: 0 is above all. -/
def ptK (K : Nat → Int) (p : Nat) : Int := if p = 0 then 0 else K (p - 1)
/-- The cell that a seek of a name meets is the node of that key. -/
theorem BrTr.meets {L : List Cel} {K : Nat → Int} {M : List Rw} (h : BrTr L K M) {p : Nat} (hp : p = 0 ∨ (cl L (p - 1)).a ≠ 0) {k : Int} (hk : wholeK k = true) (hpar : parK k = ptK K p) (i : Nat) :
    ((cl L i).a == (p : Int) + 1 && (cl L i).b == lastN k) = true ↔ (cl L i).a ≠ 0 ∧ K i = k := by
  simp only [Bool.and_eq_true, beq_iff_eq]
  constructor
  · rintro ⟨h1, h2⟩
    have hu : (cl L i).a ≠ 0 := by omega
    refine ⟨hu, last_inj (h.whole i hu) hk ?_ ?_⟩
    · rw [hpar]
      unfold ptK
      by_cases e : p = 0
      · rw [if_pos e]
        exact h.top i (by omega)
      · rw [if_neg e]
        obtain ⟨j, j1, _, j3⟩ := h.par i hu (by omega)
        have : p - 1 = j := by omega
        rw [this, j3]
    · rw [← h.last i hu, h2]
  · rintro ⟨hu, rfl⟩
    refine ⟨?_, h.last i hu⟩
    unfold ptK at hpar
    by_cases e1 : (cl L i).a = 1
    · by_cases e : p = 0
      · omega
      · rw [if_neg e, h.top i e1] at hpar
        have := h.whole _ (hp.resolve_left e)
        rw [← hpar] at this
        simp [wholeK] at this
    · obtain ⟨j, j1, j2, j3⟩ := h.par i hu e1
      by_cases e : p = 0
      · rw [if_pos e, ← j3] at hpar
        have := h.whole j j2
        rw [hpar] at this
        simp [wholeK] at this
      · rw [if_neg e, ← j3] at hpar
        have := h.inj j (p - 1) j2 (hp.resolve_left e) hpar
        omega
/-- A node has a node below it just if a key lies below its own. -/
theorem BrTr.kids {L : List Cel} {K : Nat → Int} {M : List Rw} (h : BrTr L K M) {m : Nat} (hm : (cl L m).a ≠ 0) : usedB (K m) M = true ↔ ∃ i, (cl L i).a = (m : Int) + 2 := by
  unfold usedB
  rw [List.any_eq_true]
  constructor
  · rintro ⟨x, hx, he⟩
    have hl := look_of_mem h.rises hx
    obtain ⟨i, i1, i2, _⟩ := (h.rows _ _).1 hl
    have hp : parK (K i) = K m := by rw [i2]; simpa using he
    refine ⟨i, ?_⟩
    by_cases e1 : (cl L i).a = 1
    · rw [h.top i e1] at hp
      have := h.whole m hm
      rw [← hp] at this
      simp [wholeK] at this
    · obtain ⟨j, j1, j2, j3⟩ := h.par i i1 e1
      have := h.inj j m j2 hm (by rw [j3, hp])
      omega
  · rintro ⟨i, hi⟩
    have hu : (cl L i).a ≠ 0 := by omega
    obtain ⟨j, j1, j2, j3⟩ := h.par i hu (by omega)
    obtain rfl : j = m := by omega
    refine ⟨⟨K i, (cl L i).c⟩, look_mem (h.here hu), ?_⟩
    simp [j3]
/-- The rows of the first cells. -/
def rowsK (L : List Cel) (K : Nat → Int) : Nat → List Rw
  | 0 => []
  | i + 1 => if (cl L i).a = 0 then rowsK L K i else withK (K i) (cl L i).c (rowsK L K i)
theorem rises_rowsK (L : List Cel) (K : Nat → Int) : ∀ n, Rises (rowsK L K n) := by
  intro n
  induction n with
  | zero => exact List.Pairwise.nil
  | succ n ih =>
    unfold rowsK
    split
    · exact ih
    · exact rises_withK _ _ ih
theorem look_rowsK {L : List Cel} {K : Nat → Int} (hi : ∀ i j, (cl L i).a ≠ 0 → (cl L j).a ≠ 0 → K i = K j → i = j) (n : Nat) (k v : Int) : look (rowsK L K n) k = some v ↔ ∃ i, i < n ∧ (cl L i).a ≠ 0 ∧ K i = k ∧ (cl L i).c = v := by
  induction n with
  | zero =>
    constructor
    · intro h; cases h
    · rintro ⟨i, h, _⟩; omega
  | succ n ih =>
    unfold rowsK
    split
    · rename_i h0
      rw [ih]
      constructor
      · rintro ⟨i, h1, h2⟩
        exact ⟨i, by omega, h2⟩
      · rintro ⟨i, h1, h2, h3⟩
        have : i ≠ n := fun e => h2 (e ▸ h0)
        exact ⟨i, by omega, h2, h3⟩
    · rename_i h0
      rw [look_withK _ _ (rises_rowsK L K n)]
      split
      · rename_i e
        constructor
        · intro h
          exact ⟨n, by omega, h0, e, by simpa using h⟩
        · rintro ⟨i, h1, h2, h3, h4⟩
          have := hi i n h2 h0 (by rw [h3, e])
          rw [← h4, this]
      · rename_i e
        rw [ih]
        constructor
        · rintro ⟨i, h1, h2⟩
          exact ⟨i, by omega, h2⟩
        · rintro ⟨i, h1, h2, h3, h4⟩
          have : i ≠ n := fun q => e (q ▸ h3)
          exact ⟨i, by omega, h2, h3, h4⟩
theorem look_rowsK_none {L : List Cel} {K : Nat → Int} (hi : ∀ i j, (cl L i).a ≠ 0 → (cl L j).a ≠ 0 → K i = K j → i = j) {n : Nat} (h0 : (cl L n).a ≠ 0) : look (rowsK L K n) (K n) = none := by
  cases h : look (rowsK L K n) (K n) with
  | none => rfl
  | some v =>
    obtain ⟨i, h1, h2, h3, _⟩ := (look_rowsK hi n _ _).1 h
    have := hi i n h2 h0 h3
    omega
theorem BrTr.eq {L : List Cel} {K : Nat → Int} {M : List Rw} (h : BrTr L K M) : rowsK L K L.length = M := by
  refine rows_ext (rises_rowsK L K _) h.rises fun k => ?_
  have e : ∀ v, look (rowsK L K L.length) k = some v ↔ look M k = some v := fun v => by
    rw [look_rowsK h.inj, h.rows]
    constructor
    · rintro ⟨i, _, h2⟩
      exact ⟨i, h2⟩
    · rintro ⟨i, h2⟩
      exact ⟨i, cl_lt h2.1, h2⟩
  cases hm : look M k with
  | none =>
    cases hr : look (rowsK L K L.length) k with
    | none => rfl
    | some v => rw [(e v).1 hr] at hm; cases hm
  | some v => exact (e v).2 hm
/-- How many cells are free. -/
def freeC (L : List Cel) : Nat := L.countP fun x => x.a == 0
theorem rowsK_len {L : List Cel} {K : Nat → Int} (hi : ∀ i j, (cl L i).a ≠ 0 → (cl L j).a ≠ 0 → K i = K j → i = j) : ∀ n, n ≤ L.length → (rowsK L K n).length + (L.take n).countP (fun x => x.a == 0) = n := by
  intro n
  induction n with
  | zero => intro _; simp [rowsK]
  | succ n ih =>
    intro hn
    have := ih (by omega)
    have e : (L.take (n + 1)).countP (fun x => x.a == 0) = (L.take n).countP (fun x => x.a == 0) + (if (cl L n).a = 0 then 1 else 0) := by
      rw [List.take_add_one, List.getElem?_eq_getElem (by omega), List.countP_append, cl_get (by omega)]
      simp [List.countP_cons]
    rw [e]
    unfold rowsK
    split
    · omega
    · rename_i h0
      rw [withK_len _ _ (look_rowsK_none hi h0)]
      omega
theorem BrTr.len {L : List Cel} {K : Nat → Int} {M : List Rw} (h : BrTr L K M) : M.length + freeC L = L.length := by
  have := rowsK_len h.inj L.length (Nat.le_refl _)
  rw [h.eq, List.take_length] at this
  exact this
/-- A node that is made. -/
theorem BrTr.make {L : List Cel} {K : Nat → Int} {M : List Rw} (h : BrTr L K M) {J p : Nat} (hJ : J < L.length) (h0 : (cl L J).a = 0) (hp : p = 0 ∨ (cl L (p - 1)).a ≠ 0) {k : Int} (hk : wholeK k = true) (hpar : parK k = ptK K p) (hn : look M k = none) {v : Int} (hv : 0 ≤ v ∧ v ≤ 2147483648) (hlen : L.length ≤ 1000) :
    BrTr (L.set J ⟨0, (p : Int) + 1, lastN k, v⟩) (fun i => if i = J then k else K i) (withK k v M) := by
  have hc := cl_set (L := L) ⟨0, (p : Int) + 1, lastN k, v⟩ hJ
  have hno := h.lacks hn
  have hpl : p ≤ L.length := by
    rcases hp with hp | hp
    · omega
    · have := cl_lt hp; omega
  have hlast : 0 ≤ lastN k ∧ lastN k ≤ 65535 := by
    have := (whole_iff k).1 hk
    unfold lastN
    split
    · split <;> omega
    · omega
  refine ⟨?_, ?_, ?_, ?_, ?_, ?_, ?_, rises_withK _ _ h.rises, ?_⟩
  · exact h.fit.set J ⟨by dsimp only; omega, by dsimp only; omega, by dsimp only; omega, by dsimp only; omega⟩
  · intro i hi
    rw [hc] at hi
    split
    · exact hk
    · rename_i e
      rw [if_neg e] at hi
      exact h.whole i hi
  · intro i hi
    rw [hc] at hi ⊢
    split
    · rfl
    · rename_i e
      rw [if_neg e] at hi
      exact h.last i hi
  · intro i hi
    rw [hc] at hi
    split
    · rename_i e
      rw [if_pos e] at hi
      dsimp only at hi
      rw [hpar]
      unfold ptK
      rw [if_pos (by omega)]
    · rename_i e
      rw [if_neg e] at hi
      exact h.top i hi
  · intro i hi h1
    rw [hc] at hi h1 ⊢
    by_cases e : i = J
    · rw [if_pos e] at h1 ⊢
      dsimp only at h1 ⊢
      have hp0 : p ≠ 0 := by omega
      have hu := hp.resolve_left hp0
      have hne : p - 1 ≠ J := fun q => hu (q ▸ h0)
      refine ⟨p - 1, by omega, ?_, ?_⟩
      · rw [hc, if_neg hne]
        exact hu
      · rw [if_neg hne, if_pos e, hpar]
        unfold ptK
        rw [if_neg hp0]
    · rw [if_neg e] at hi h1 ⊢
      obtain ⟨j, j1, j2, j3⟩ := h.par i hi h1
      have hne : j ≠ J := fun q => j2 (q ▸ h0)
      refine ⟨j, j1, ?_, ?_⟩
      · rw [hc, if_neg hne]
        exact j2
      · rw [if_neg hne, if_neg e, j3]
  · intro i j hi hj he
    rw [hc] at hi hj
    by_cases e1 : i = J <;> by_cases e2 : j = J
    · omega
    · rw [if_neg e2] at hj
      rw [if_pos e1, if_neg e2] at he
      exact absurd he.symm (hno j hj)
    · rw [if_neg e1] at hi
      rw [if_neg e1, if_pos e2] at he
      exact absurd he (hno i hi)
    · rw [if_neg e1] at hi
      rw [if_neg e2] at hj
      rw [if_neg e1, if_neg e2] at he
      exact h.inj i j hi hj he
  · intro i hi
    rw [hc] at hi ⊢
    split
    · exact hv.2
    · rename_i e
      rw [if_neg e] at hi
      exact h.val i hi
  · intro j u
    rw [look_withK _ _ h.rises]
    constructor
    · intro hq
      split at hq
      · rename_i e
        refine ⟨J, ?_, ?_, ?_⟩
        · rw [hc, if_pos rfl]
          dsimp only
          omega
        · rw [if_pos rfl, e]
        · rw [hc, if_pos rfl]
          simpa using hq
      · rename_i e
        obtain ⟨i, i1, i2, i3⟩ := (h.rows _ _).1 hq
        have hne : i ≠ J := fun q => i1 (q ▸ h0)
        refine ⟨i, ?_, ?_, ?_⟩
        · rw [hc, if_neg hne]; exact i1
        · rw [if_neg hne]; exact i2
        · rw [hc, if_neg hne]; exact i3
    · rintro ⟨i, i1, i2, i3⟩
      rw [hc] at i1 i3
      by_cases e : i = J
      · rw [if_pos e] at i2 i3
        rw [if_pos i2, ← i3]
      · rw [if_neg e] at i1 i2 i3
        have hkj : ¬ k = j := fun q => hno i i1 (by rw [i2, q])
        rw [if_neg hkj]
        exact (h.rows _ _).2 ⟨i, i1, i2, i3⟩
/-- A node whose value is set. -/
theorem BrTr.turn {L : List Cel} {K : Nat → Int} {M : List Rw} (h : BrTr L K M) {m : Nat} (hm : (cl L m).a ≠ 0) {x : Cel} (hx : x.Fits) (ha : x.a = (cl L m).a) (hb : x.b = (cl L m).b) (hv : x.c ≤ 2147483648) : BrTr (L.set m x) K (withK (K m) x.c M) := by
  have hml := cl_lt hm
  have hc := cl_set (L := L) x hml
  have hu : ∀ i, (cl (L.set m x) i).a = (cl L i).a := fun i => by
    rw [hc]
    split
    · rename_i e
      rw [e, ha]
    · rfl
  have hbb : ∀ i, (cl (L.set m x) i).b = (cl L i).b := fun i => by
    rw [hc]
    split
    · rename_i e
      rw [e, hb]
    · rfl
  refine ⟨h.fit.set m hx, ?_, ?_, ?_, ?_, ?_, ?_, rises_withK _ _ h.rises, ?_⟩
  · intro i hi
    rw [hu] at hi
    exact h.whole i hi
  · intro i hi
    rw [hu] at hi
    rw [hbb]
    exact h.last i hi
  · intro i hi
    rw [hu] at hi
    exact h.top i hi
  · intro i hi h1
    rw [hu] at hi h1 ⊢
    obtain ⟨j, j1, j2, j3⟩ := h.par i hi h1
    exact ⟨j, j1, by rw [hu]; exact j2, j3⟩
  · intro i j hi hj
    rw [hu] at hi hj
    exact h.inj i j hi hj
  · intro i hi
    rw [hu] at hi
    rw [hc]
    split
    · exact hv
    · exact h.val i hi
  · intro j u
    rw [look_withK _ _ h.rises]
    constructor
    · intro hq
      split at hq
      · rename_i e
        refine ⟨m, by rw [hu]; exact hm, e, ?_⟩
        rw [hc, if_pos rfl]
        simpa using hq
      · rename_i e
        obtain ⟨i, i1, i2, i3⟩ := (h.rows _ _).1 hq
        have hne : i ≠ m := fun q => e (by rw [← q, i2])
        exact ⟨i, by rw [hu]; exact i1, i2, by rw [hc, if_neg hne]; exact i3⟩
    · rintro ⟨i, i1, i2, i3⟩
      rw [hu] at i1
      rw [hc] at i3
      by_cases e : i = m
      · rw [if_pos e] at i3
        rw [if_pos (by rw [← e, i2]), ← i3]
      · rw [if_neg e] at i3
        have hne : ¬ K m = j := fun q => e (h.inj i m i1 hm (by rw [i2, q]))
        rw [if_neg hne]
        exact (h.rows _ _).2 ⟨i, i1, i2, i3⟩
/-- A node that is taken. -/
theorem BrTr.take {L : List Cel} {K : Nat → Int} {M : List Rw} (h : BrTr L K M) {m : Nat} (hm : (cl L m).a ≠ 0) (hk : ∀ i, (cl L i).a ≠ (m : Int) + 2) : BrTr (L.set m zc) K (withoutK (K m) M) := by
  have hml := cl_lt hm
  have hc := cl_set (L := L) zc hml
  have hu : ∀ i, (cl (L.set m zc) i).a ≠ 0 → i ≠ m ∧ cl (L.set m zc) i = cl L i := fun i hi => by
    rw [hc] at hi ⊢
    by_cases e : i = m
    · rw [if_pos e] at hi
      exact absurd rfl hi
    · exact ⟨e, if_neg e⟩
  have hz : zc.Fits := ⟨by decide, by decide, by decide, by decide⟩
  refine ⟨h.fit.set m hz, ?_, ?_, ?_, ?_, ?_, ?_, rises_withoutK _ h.rises, ?_⟩
  · intro i hi
    obtain ⟨_, e⟩ := hu i hi
    exact h.whole i (e ▸ hi)
  · intro i hi
    obtain ⟨_, e⟩ := hu i hi
    rw [e] at hi ⊢
    exact h.last i hi
  · intro i hi
    obtain ⟨_, e⟩ := hu i (by omega)
    rw [e] at hi
    exact h.top i hi
  · intro i hi h1
    obtain ⟨_, e⟩ := hu i hi
    rw [e] at hi h1 ⊢
    obtain ⟨j, j1, j2, j3⟩ := h.par i hi h1
    have hne : j ≠ m := fun q => hk i (by rw [j1, q])
    exact ⟨j, j1, by rw [hc, if_neg hne]; exact j2, j3⟩
  · intro i j hi hj
    obtain ⟨_, e⟩ := hu i hi
    obtain ⟨_, e'⟩ := hu j hj
    exact h.inj i j (e ▸ hi) (e' ▸ hj)
  · intro i hi
    obtain ⟨_, e⟩ := hu i hi
    rw [e] at hi ⊢
    exact h.val i hi
  · intro j u
    rw [look_withoutK]
    constructor
    · intro hq
      split at hq
      · cases hq
      · rename_i e
        obtain ⟨i, i1, i2, i3⟩ := (h.rows _ _).1 hq
        have hne : i ≠ m := fun q => e (by rw [← q, i2])
        exact ⟨i, by rw [hc, if_neg hne]; exact i1, i2, by rw [hc, if_neg hne]; exact i3⟩
    · rintro ⟨i, i1, i2, i3⟩
      obtain ⟨hne, e⟩ := hu i i1
      rw [e] at i1 i3
      rw [if_neg fun q => hne (h.inj i m i1 hm (by rw [i2, q]))]
      exact (h.rows _ _).2 ⟨i, i1, i2, i3⟩
end Go.Proofs.YtmbodooikfmegaaDoor
/- Plain: an operation of a tree of settings, phase by phase; no program in sight. -/
namespace Go.Proofs.YtmbodooikfmegaaDoor
open Go Go.RowKit paths

/-- A frame of an operation. -/
def fr (o : Opn) (pc i j n p h x : Int) : Frm := ⟨o.kind, o.a, o.b, pc, i, j, n, p, h, x, o.c⟩
def lg (o : Opn) : Int := if o.a % 65536 == 0 then 0 else if o.a / 65536 == 0 then 1 else if o.b == 0 then 2 else 3
def nm (o : Opn) (n : Int) : Int := if n == 0 then o.a % 65536 else if n == 1 then o.a / 65536 else if n == 2 then o.b else 0
theorem fr_long (o : Opn) (pc i j n p h x : Int) : brLong (fr o pc i j n p h x) = lg o := rfl
theorem fr_name (o : Opn) (pc i j n p h x m : Int) : brName (fr o pc i j n p h x) m = nm o m := rfl
/-- The key of a path's first names. -/
def pkB (o : Opn) (h : Nat) : Int := if h = 0 then 0 else if h = 1 then o.a % 65536 * 4294967296 else if h = 2 then o.a % 65536 * 4294967296 + o.a / 65536 * 65536 else pathKey o
/-- A path that may be. -/
structure WayOk (o : Opn) : Prop where
  fit : o.Fits
  path : pathB o.a o.b = true
theorem WayOk.facts {o : Opn} (h : WayOk o) : 1 ≤ o.a % 65536 ∧ o.a % 65536 ≤ 65535 ∧ 0 ≤ o.a / 65536 ∧ o.a / 65536 ≤ 65535 ∧ 0 ≤ o.b ∧ o.b ≤ 65535 ∧ (o.a / 65536 = 0 → o.b = 0) := by
  have ha := h.fit.a
  have hb := h.fit.b
  have h1 := h.path
  simp only [pathB, Bool.and_eq_true, decide_eq_true_eq, Bool.or_eq_true, Bool.not_eq_true', beq_eq_false_iff_ne, ne_eq, beq_iff_eq] at h1
  obtain ⟨⟨h2, h3⟩, h4⟩ := h1
  refine ⟨by omega, by omega, by omega, by omega, by omega, by omega, fun e => ?_⟩
  rcases h3 with h3 | h3
  · exact absurd e h3
  · exact h3
theorem WayOk.long {o : Opn} (h : WayOk o) : (lg o = 1 ∧ o.a / 65536 = 0 ∧ o.b = 0) ∨ (lg o = 2 ∧ o.a / 65536 ≠ 0 ∧ o.b = 0) ∨ (lg o = 3 ∧ o.a / 65536 ≠ 0 ∧ o.b ≠ 0) := by
  obtain ⟨h1, _, _, _, _, _, h7⟩ := h.facts
  have n1 : ¬ o.a % 65536 = 0 := by omega
  by_cases e1 : o.a / 65536 = 0
  · exact .inl ⟨by simp [lg, n1, e1], e1, h7 e1⟩
  · by_cases e2 : o.b = 0
    · exact .inr (.inl ⟨by simp [lg, n1, e1, e2], e1, e2⟩)
    · exact .inr (.inr ⟨by simp [lg, n1, e1, e2], e1, e2⟩)
theorem WayOk.pk {o : Opn} (w : WayOk o) {h : Nat} (hh : (h : Int) < lg o) : wholeK (pkB o (h + 1)) = true ∧ parK (pkB o (h + 1)) = pkB o h ∧ lastN (pkB o (h + 1)) = nm o h := by
  obtain ⟨h1, h2, h3, h4, h5, h6, h7⟩ := w.facts
  have hl := w.long
  have hc : h = 0 ∨ h = 1 ∨ h = 2 := by omega
  rcases hc with rfl | rfl | rfl
  · have e1 : pkB o (0 + 1) = o.a % 65536 * 4294967296 := rfl
    have e0 : pkB o 0 = 0 := rfl
    have en : nm o ((0 : Nat) : Int) = o.a % 65536 := rfl
    rw [e1, e0, en]
    refine ⟨(whole_iff _).2 (by omega), ?_, ?_⟩
    · unfold parK
      rw [if_pos (by omega), if_pos (by omega)]
    · unfold lastN
      rw [if_pos (by omega), if_pos (by omega)]
      omega
  · have e1 : pkB o (1 + 1) = o.a % 65536 * 4294967296 + o.a / 65536 * 65536 := rfl
    have e0 : pkB o 1 = o.a % 65536 * 4294967296 := rfl
    have en : nm o ((1 : Nat) : Int) = o.a / 65536 := rfl
    rw [e1, e0, en]
    refine ⟨(whole_iff _).2 (by omega), ?_, ?_⟩
    · unfold parK
      rw [if_pos (by omega), if_neg (by omega)]
      omega
    · unfold lastN
      rw [if_pos (by omega), if_neg (by omega)]
      omega
  · have e1 : pkB o (2 + 1) = pathKey o := rfl
    have e0 : pkB o 2 = o.a % 65536 * 4294967296 + o.a / 65536 * 65536 := rfl
    have en : nm o ((2 : Nat) : Int) = o.b := rfl
    rw [e1, e0, en]
    unfold pathKey
    refine ⟨(whole_iff _).2 (by omega), ?_, ?_⟩
    · unfold parK
      rw [if_neg (by omega)]
      omega
    · unfold lastN
      rw [if_neg (by omega)]
      omega
theorem WayOk.key {o : Opn} (w : WayOk o) : pkB o (lg o).toNat = pathKey o := by
  rcases w.long with ⟨h1, h2, h3⟩ | ⟨h1, h2, h3⟩ | ⟨h1, h2, h3⟩
  · rw [h1]
    show o.a % 65536 * 4294967296 = o.a % 65536 * 4294967296 + o.a / 65536 * 65536 + o.b
    omega
  · rw [h1]
    show o.a % 65536 * 4294967296 + o.a / 65536 * 65536 = o.a % 65536 * 4294967296 + o.a / 65536 * 65536 + o.b
    omega
  · rw [h1]
    rfl
theorem WayOk.lt {o : Opn} (w : WayOk o) {s t : Nat} (hs : s < t) (ht : (t : Int) ≤ lg o) : pkB o s < pkB o t := by
  induction t with
  | zero => omega
  | succ t ih =>
    obtain ⟨q1, q2, _⟩ := w.pk (h := t) (by omega)
    have h1 := par_lt q1
    rw [q2] at h1
    by_cases e : s = t
    · subst e
      exact h1.2
    · have := ih (by omega) (by omega)
      omega
theorem WayOk.line {o : Opn} (w : WayOk o) (j : Int) : j ∈ lineK (pathKey o) ↔ ∃ t : Nat, 1 ≤ t ∧ (t : Int) ≤ lg o ∧ j = pkB o t := by
  have hk := w.key
  have e0 : pkB o 0 = 0 := rfl
  rw [line_mem, ← hk]
  rcases w.long with ⟨h1, _, _⟩ | ⟨h1, _, _⟩ | ⟨h1, _, _⟩
  · obtain ⟨_, q1, _⟩ := w.pk (h := 0) (by omega)
    have en : (lg o).toNat = 0 + 1 := by omega
    rw [en, q1, e0]
    constructor
    · rintro (h | ⟨h, _⟩)
      · exact ⟨1, by omega, by omega, h⟩
      · exact absurd rfl h
    · rintro ⟨t, t1, t2, t3⟩
      obtain rfl : t = 1 := by omega
      exact .inl t3
  · obtain ⟨_, q1, _⟩ := w.pk (h := 0) (by omega)
    obtain ⟨_, q2, _⟩ := w.pk (h := 1) (by omega)
    have p1 := w.lt (s := 0) (t := 1) (by omega) (by omega)
    have en : (lg o).toNat = 1 + 1 := by omega
    rw [en, q2, q1, e0]
    rw [e0] at p1
    constructor
    · rintro (h | ⟨_, h | ⟨h, _⟩⟩)
      · exact ⟨2, by omega, by omega, h⟩
      · exact ⟨1, by omega, by omega, h⟩
      · exact absurd rfl h
    · rintro ⟨t, t1, t2, t3⟩
      obtain rfl | rfl : t = 1 ∨ t = 2 := by omega
      · exact .inr ⟨by omega, .inl t3⟩
      · exact .inl t3
  · obtain ⟨_, q1, _⟩ := w.pk (h := 0) (by omega)
    obtain ⟨_, q2, _⟩ := w.pk (h := 1) (by omega)
    obtain ⟨_, q3, _⟩ := w.pk (h := 2) (by omega)
    have p1 := w.lt (s := 0) (t := 1) (by omega) (by omega)
    have p2 := w.lt (s := 0) (t := 2) (by omega) (by omega)
    have en : (lg o).toNat = 2 + 1 := by omega
    rw [en, q3, q2]
    rw [e0] at p1 p2
    constructor
    · rintro (h | ⟨_, h | ⟨_, h⟩⟩)
      · exact ⟨3, by omega, by omega, h⟩
      · exact ⟨2, by omega, by omega, h⟩
      · exact ⟨1, by omega, by omega, h⟩
    · rintro ⟨t, t1, t2, t3⟩
      obtain rfl | rfl | rfl : t = 1 ∨ t = 2 ∨ t = 3 := by omega
      · exact .inr ⟨by omega, .inr ⟨by omega, t3⟩⟩
      · exact .inr ⟨by omega, .inl t3⟩
      · exact .inl t3

/-- So many acts lead from one frame and its cells to others. -/
def reach (c : Cfg) : Nat → Frm → List Cel → Frm → List Cel → Prop
  | 0, f, L, g, M => f = g ∧ L = M
  | n + 1, f, L, g, M => (brStep f).kind ≠ 4 ∧ reach c n (brBehind c f ((brPut (brStep f) L).getD (brStep f).at'.toNat ⟨0, 0, 0, 0⟩)) (brPut (brStep f) L) g M
def Reach (c : Cfg) (f : Frm) (L : List Cel) (g : Frm) (M : List Cel) : Prop := ∃ n, reach c n f L g M
theorem Reach.refl (c : Cfg) (f : Frm) (L : List Cel) : Reach c f L f L := ⟨0, rfl, rfl⟩
theorem Reach.read {c : Cfg} {f g : Frm} {L M : List Cel} {i : Nat} (hp : f.pc = 0 ∨ f.pc = 3 ∨ f.pc = 5) (hi : f.i = (i : Int)) (h : Reach c (brBehind c f (cl L i)) L g M) : Reach c f L g M := by
  obtain ⟨n, h⟩ := h
  refine ⟨n + 1, ?_⟩
  have hs : brStep f = ⟨1, f.i, 0, 0, 0, 0, 0⟩ := by
    rcases hp with hp | hp | hp <;> simp [brStep, hp]
  unfold reach
  rw [hs, hi]
  refine ⟨?_, h⟩
  show (1 : Int) ≠ 4
  decide
theorem Reach.write {c : Cfg} {f g : Frm} {L M : List Cel} {m : Nat} {a b d : Int} (hs : brStep f = ⟨2, (m : Int), a, b, d, 0, 0⟩) (hm : m < L.length) (h : Reach c (brBehind c f ⟨0, a, b, d⟩) (L.set m ⟨0, a, b, d⟩) g M) : Reach c f L g M := by
  obtain ⟨n, h⟩ := h
  refine ⟨n + 1, ?_⟩
  unfold reach
  have e : (L.set m (⟨0, a, b, d⟩ : Cel)).getD m ⟨0, 0, 0, 0⟩ = ⟨0, a, b, d⟩ := by simp [hm]
  rw [hs]
  refine ⟨by show (2 : Int) ≠ 4; decide, ?_⟩
  show reach c n (brBehind c f ((L.set m (⟨0, a, b, d⟩ : Cel)).getD m ⟨0, 0, 0, 0⟩)) (L.set m ⟨0, a, b, d⟩) g M
  rw [e]
  exact h
theorem run_of {c : Cfg} {o : Opn} {g : Frm} {M : List Cel} (hg : (brStep g).kind = 4) : ∀ (n : Nat) (f : Frm) (L : List Cel), BrIn c o f → f.Fits → CelsFit L → (L.length : Int) = c.cap → reach c n f L g M → ∀ (fuel : Nat) (t : List Int), brRem c f < fuel →
    ∃ t', brRun c fuel f L t = ⟨M, (brStep g).code, (brStep g).v', t', true⟩ := by
  intro n
  induction n with
  | zero =>
    intro f L hin _ _ _ hr fuel t hfu
    obtain ⟨rfl, rfl⟩ := hr
    have := br_rem hin
    obtain ⟨k, rfl⟩ : ∃ k, fuel = k + 1 := ⟨fuel - 1, by omega⟩
    exact ⟨t, brRun_done k L t hin.err (by simp [hg])⟩
  | succ n ih =>
    intro f L hin hf hL hl hr fuel t hfu
    obtain ⟨h4, hr⟩ := hr
    obtain ⟨_, g1, g2, g3, g4⟩ := (br_goes hin hf).resolve_left h4
    have := br_rem hin
    obtain ⟨k, rfl⟩ : ∃ k, fuel = k + 1 := ⟨fuel - 1, by omega⟩
    have hb : ∀ l, brAfterA c f l = brBehind c f l := fun l => by simp [brAfterA, hin.err]
    have hfit : ∀ l, (brBehind c f l).Fits := fun l => by rw [← hb]; exact brAfter_fits hf hin.err
    rcases g3 with g3 | ⟨g3, _⟩
    · have e : brPut (brStep f) L = L := by simp [brPut, g3]
      rw [e] at hr
      obtain ⟨q1, q2⟩ := g4 (L.getD (brStep f).at'.toNat ⟨0, 0, 0, 0⟩)
      rw [brRun_read k L t hin.err (by simp [h4]) g1 (by omega) (by simp [g3]), hb]
      exact ih _ _ q1 (hfit _) hL hl hr k _ (by omega)
    · have e : brPut (brStep f) L = L.set (brStep f).at'.toNat ⟨0, (brStep f).a, (brStep f).b, (brStep f).c⟩ := by simp [brPut, g3]
      have hi : (brStep f).at'.toNat < L.length := by omega
      have e2 : (L.set (brStep f).at'.toNat (⟨0, (brStep f).a, (brStep f).b, (brStep f).c⟩ : Cel)).getD (brStep f).at'.toNat ⟨0, 0, 0, 0⟩ = ⟨0, (brStep f).a, (brStep f).b, (brStep f).c⟩ := by simp [hi]
      rw [e, e2] at hr
      obtain ⟨q1, q2⟩ := g4 ⟨0, (brStep f).a, (brStep f).b, (brStep f).c⟩
      rw [brRun_write k L t hin.err (by simp [h4]) g1 (by omega) (by simp [g3]), hb]
      exact ih _ _ q1 (hfit _) (hL.set _ (brStep_fits hf)) (by rw [List.length_set]; exact hl) hr k _ (by omega)

/-- The first free cell. -/
def First (L : List Cel) (J : Nat) : Prop := J < L.length ∧ (cl L J).a = 0 ∧ ∀ j, j < J → (cl L j).a ≠ 0
theorem least {p : Nat → Prop} [DecidablePred p] {n : Nat} (h : p n) : ∃ m, m ≤ n ∧ p m ∧ ∀ j, j < m → ¬ p j := by
  induction n with
  | zero => exact ⟨0, Nat.le_refl _, h, fun j hj => by omega⟩
  | succ n ih =>
    by_cases hq : ∃ m, m ≤ n ∧ p m
    · obtain ⟨m, m1, m2⟩ := hq
      have : ∀ k, k ≤ n → (∃ m, m ≤ k ∧ p m) → ∃ m, m ≤ k ∧ p m ∧ ∀ j, j < m → ¬ p j := by
        intro k
        induction k with
        | zero =>
          rintro _ ⟨m, m1, m2⟩
          obtain rfl : m = 0 := by omega
          exact ⟨0, Nat.le_refl _, m2, fun j hj => by omega⟩
        | succ k ihk =>
          rintro hk ⟨m, m1, m2⟩
          by_cases hs : ∃ m, m ≤ k ∧ p m
          · obtain ⟨m, m1, m2, m3⟩ := ihk (by omega) hs
            exact ⟨m, by omega, m2, m3⟩
          · have : m = k + 1 := by
              by_cases e : m ≤ k
              · exact absurd ⟨m, e, m2⟩ hs
              · omega
            subst this
            exact ⟨k + 1, Nat.le_refl _, m2, fun j hj hpj => hs ⟨j, by omega, hpj⟩⟩
      obtain ⟨m, m1, m2, m3⟩ := this n (Nat.le_refl _) ⟨m, m1, m2⟩
      exact ⟨m, by omega, m2, m3⟩
    · exact ⟨n + 1, Nat.le_refl _, h, fun j hj hpj => hq ⟨j, by omega, hpj⟩⟩
theorem free_first {L : List Cel} (h : 1 ≤ freeC L) : ∃ J, First L J := by
  obtain ⟨x, hx, h0⟩ := List.countP_pos_iff.1 (show 0 < List.countP (fun x : Cel => x.a == 0) L from h)
  obtain ⟨i, hi, rfl⟩ := List.mem_iff_getElem.1 hx
  obtain ⟨m, m1, ⟨m2, m3⟩, m4⟩ := least (p := fun i => i < L.length ∧ (cl L i).a = 0) (n := i) ⟨hi, by rw [cl_get hi]; simpa using h0⟩
  exact ⟨m, m2, m3, fun j hj h => m4 j hj ⟨by omega, h⟩⟩
theorem free_take {L : List Cel} {n : Nat} (hn : n < L.length) : (L.take (n + 1)).countP (fun x => x.a == 0) = (L.take n).countP (fun x => x.a == 0) + (if (cl L n).a = 0 then 1 else 0) := by
  rw [List.take_add_one, List.getElem?_eq_getElem hn, List.countP_append, cl_get hn]
  simp [List.countP_cons]
theorem free_none {L : List Cel} {n : Nat} (hn : n ≤ L.length) (h : (L.take n).countP (fun x => x.a == 0) = 0) : ∀ j, j < n → (cl L j).a ≠ 0 := by
  intro j hj
  have := (List.countP_eq_zero.1 h) (L[j]'(by omega)) (by rw [List.mem_take_iff_getElem]; exact ⟨j, by omega, rfl⟩)
  rw [cl_get (by omega)]
  simpa using this

def endF (c : Cfg) (f : Frm) : Frm := if f.kind == 12 then (if f.n < brLong f - f.h then { f with pc := 22 } else { f with pc := 2 }) else { f with pc := 21 }
def matB (L : List Cel) (o : Opn) (p h : Int) (t : Nat) : Bool := (cl L t).a == p + 1 && (cl L t).b == nm o h
theorem more_fr {c : Cfg} {o : Opn} {p h x j n : Int} {i : Nat} : brMore c (fr o 0 i j n p h x) = if (i : Int) + 1 < c.cap then fr o 0 ((i + 1 : Nat) : Int) j n p h x else endF c (fr o 0 i j n p h x) := by
  by_cases h3 : (i : Int) + 1 < c.cap
  · rw [if_pos h3]
    unfold brMore
    rw [if_pos (show (fr o 0 i j n p h x).i + 1 < c.cap from h3)]
    rfl
  · rw [if_neg h3]
    unfold brMore
    rw [if_neg (show ¬ (fr o 0 i j n p h x).i + 1 < c.cap from h3)]
    rfl
theorem other_fr {c : Cfg} {o : Opn} {p h x j n : Int} {i : Nat} (l : Cel) : brOther c (fr o 0 i j n p h x) l = brMore c (fr o 0 i (if l.a = 0 ∧ n = 0 then i else j) (if l.a = 0 then n + 1 else n) p h x) := by
  unfold brOther
  by_cases h1 : l.a = 0
  · rw [if_pos (show (l.a == 0) = true by simp [h1])]
    by_cases h2 : n = 0
    · rw [if_pos (show ((fr o 0 i j n p h x).n == 0) = true by show (n == 0) = true; simp [h2]), if_pos ⟨h1, h2⟩, if_pos h1]
      rfl
    · rw [if_neg (show ¬ ((fr o 0 i j n p h x).n == 0) = true by show ¬ (n == 0) = true; simp [h2]), if_neg (fun q => h2 q.2), if_pos h1]
      rfl
  · rw [if_neg (show ¬ (l.a == 0) = true by simp [h1]), if_neg (fun q => h1 q.1), if_neg h1]
theorem scan_step {c : Cfg} {o : Opn} {L : List Cel} {p h x j n : Int} {i : Nat} (hm : matB L o p h i = false) :
    brBehind c (fr o 0 i j n p h x) (cl L i) = if (i : Int) + 1 < c.cap then fr o 0 ((i + 1 : Nat) : Int) (if (cl L i).a = 0 ∧ n = 0 then i else j) (if (cl L i).a = 0 then n + 1 else n) p h x
      else endF c (fr o 0 i (if (cl L i).a = 0 ∧ n = 0 then i else j) (if (cl L i).a = 0 then n + 1 else n) p h x) := by
  have e : brBehind c (fr o 0 i j n p h x) (cl L i) = brOther c (fr o 0 i j n p h x) (cl L i) := by
    unfold brBehind
    rw [if_pos (show ((fr o 0 i j n p h x).pc == 0) = true from rfl), if_neg]
    unfold matB at hm
    rw [fr_name]
    show ¬ (((cl L i).a == p + 1 && (cl L i).b == nm o h) = true)
    rw [hm]
    decide
  rw [e, other_fr, more_fr]
theorem scan_hit {c : Cfg} {o : Opn} {L : List Cel} {p h x : Int} (hl : (L.length : Int) = c.cap) : ∀ (d i : Nat) (j n : Int), i + d < L.length → (∀ t, i ≤ t → t < i + d → matB L o p h t = false) → matB L o p h (i + d) = true →
    ∃ j' n', ∀ g M, Reach c (brFound (fr o 0 ((i + d : Nat) : Int) j' n' p h x) (cl L (i + d))) L g M → Reach c (fr o 0 i j n p h x) L g M := by
  intro d
  induction d with
  | zero =>
    intro i j n _ _ hm
    refine ⟨j, n, fun g M hr => ?_⟩
    refine Reach.read (i := i) (.inl rfl) rfl ?_
    have e : brBehind c (fr o 0 i j n p h x) (cl L i) = brFound (fr o 0 i j n p h x) (cl L i) := by
      unfold brBehind
      rw [if_pos (show ((fr o 0 i j n p h x).pc == 0) = true from rfl), if_pos]
      rw [fr_name]
      exact hm
    rw [e]
    exact hr
  | succ d ih =>
    intro i j n hi hn hm
    have e1 : i + (d + 1) = i + 1 + d := by omega
    rw [e1] at hm hi
    obtain ⟨j', n', hr⟩ := ih (i + 1) (if (cl L i).a = 0 ∧ n = 0 then i else j) (if (cl L i).a = 0 then n + 1 else n) hi (fun t t1 t2 => hn t (by omega) (by omega)) hm
    rw [e1]
    refine ⟨j', n', fun g M hg => ?_⟩
    refine Reach.read (i := i) (.inl rfl) rfl ?_
    rw [scan_step (hn i (Nat.le_refl _) (by omega)), if_pos (by omega)]
    exact hr g M hg
theorem scan_miss {c : Cfg} {o : Opn} {L : List Cel} {p h x : Int} (hl : (L.length : Int) = c.cap) : ∀ (d i : Nat) (j n : Int), 1 ≤ d → i + d = L.length → (∀ t, i ≤ t → t < L.length → matB L o p h t = false) → n = ((L.take i).countP (fun x => x.a == 0) : Nat) → (1 ≤ n → ∃ J : Nat, j = J ∧ First L J) →
    ∃ j' : Int, (1 ≤ freeC L → ∃ J : Nat, j' = J ∧ First L J) ∧ ∀ g M, Reach c (endF c (fr o 0 ((L.length - 1 : Nat) : Int) j' (freeC L) p h x)) L g M → Reach c (fr o 0 i j n p h x) L g M := by
  intro d
  induction d with
  | zero => intro _ _ _ h; omega
  | succ d ih =>
    intro i j n _ hi hno hn hj
    have hlt : i < L.length := by omega
    have hft := free_take hlt
    have hn' : (if (cl L i).a = 0 then n + 1 else n) = ((L.take (i + 1)).countP (fun x => x.a == 0) : Nat) := by
      rw [hft, hn]
      split <;> simp
    have hj' : 1 ≤ (if (cl L i).a = 0 then n + 1 else n) → ∃ J : Nat, (if (cl L i).a = 0 ∧ n = 0 then (i : Int) else j) = J ∧ First L J := by
      intro h1
      by_cases h2 : (cl L i).a = 0
      · by_cases h3 : n = 0
        · exact ⟨i, by simp [h2, h3], hlt, h2, free_none (by omega) (by omega)⟩
        · obtain ⟨J, J1, J2⟩ := hj (by omega)
          exact ⟨J, by simp [h3, J1], J2⟩
      · rw [if_neg h2] at h1
        obtain ⟨J, J1, J2⟩ := hj h1
        exact ⟨J, by simp [h2, J1], J2⟩
    by_cases hd : 1 ≤ d
    · obtain ⟨j', q1, q2⟩ := ih (i + 1) (if (cl L i).a = 0 ∧ n = 0 then i else j) (if (cl L i).a = 0 then n + 1 else n) hd (by omega) (fun t t1 t2 => hno t (by omega) t2) hn' hj'
      refine ⟨j', q1, fun g M hg => ?_⟩
      refine Reach.read (i := i) (.inl rfl) rfl ?_
      rw [scan_step (hno i (Nat.le_refl _) hlt), if_pos (by omega)]
      exact q2 g M hg
    · have e : i + 1 = L.length := by omega
      have e2 : L.length - 1 = i := by omega
      have e3 : (if (cl L i).a = 0 then n + 1 else n) = (freeC L : Int) := by
        rw [hn', e, List.take_length]
        rfl
      rw [e3] at hj'
      refine ⟨if (cl L i).a = 0 ∧ n = 0 then (i : Int) else j, fun h => hj' (by omega), fun g M hg => ?_⟩
      refine Reach.read (i := i) (.inl rfl) rfl ?_
      rw [scan_step (hno i (Nat.le_refl _) hlt), if_neg (by omega), e3]
      rw [e2] at hg
      exact hg
theorem room_hit {c : Cfg} {o : Opn} {L : List Cel} {p h x n : Int} (hl : (L.length : Int) = c.cap) : ∀ (d i : Nat) (j : Int), i + d < L.length → (∀ t, i ≤ t → t < i + d → (cl L t).a ≠ 0) → (cl L (i + d)).a = 0 →
    ∀ g M, Reach c (fr o 2 ((i + d : Nat) : Int) ((i + d : Nat) : Int) n p h x) L g M → Reach c (fr o 3 i j n p h x) L g M := by
  intro d
  induction d with
  | zero =>
    intro i j _ _ h0 g M hr
    refine Reach.read (i := i) (.inr (.inl rfl)) rfl ?_
    have h0' : (cl L i).a = 0 := h0
    have e : brBehind c (fr o 3 i j n p h x) (cl L i) = fr o 2 i i n p h x := by
      simp [brBehind, fr, h0']
    rw [e]
    exact hr
  | succ d ih =>
    intro i j hi hn h0 g M hr
    have e1 : i + (d + 1) = i + 1 + d := by omega
    rw [e1] at hi h0 hr
    refine Reach.read (i := i) (.inr (.inl rfl)) rfl ?_
    have h1 := hn i (Nat.le_refl _) (by omega)
    have h2 : (i : Int) + 1 < c.cap := by omega
    have e : brBehind c (fr o 3 i j n p h x) (cl L i) = fr o 3 ((i + 1 : Nat) : Int) j n p h x := by
      simp [brBehind, fr, h1, h2]
    rw [e]
    exact ih (i + 1) j hi (fun t t1 t2 => hn t (by omega) (by omega)) h0 g M hr
theorem kin_miss {c : Cfg} {o : Opn} {L : List Cel} {p h x n j : Int} (hl : (L.length : Int) = c.cap) : ∀ (d i : Nat), 1 ≤ d → i + d = L.length → (∀ t, i ≤ t → t < L.length → (cl L t).a ≠ p + 1) →
    ∀ g M, Reach c (fr o 6 ((L.length - 1 : Nat) : Int) j n p h x) L g M → Reach c (fr o 5 i j n p h x) L g M := by
  intro d
  induction d with
  | zero => intro _ h; omega
  | succ d ih =>
    intro i _ hi hn g M hr
    refine Reach.read (i := i) (.inr (.inr rfl)) rfl ?_
    have h1 := hn i (Nat.le_refl _) (by omega)
    by_cases hd : 1 ≤ d
    · have h2 : (i : Int) + 1 < c.cap := by omega
      have e : brBehind c (fr o 5 i j n p h x) (cl L i) = fr o 5 ((i + 1 : Nat) : Int) j n p h x := by
        simp [brBehind, fr, h1, h2]
      rw [e]
      exact ih (i + 1) hd (by omega) (fun t t1 t2 => hn t (by omega) t2) g M hr
    · have h2 : ¬ (i : Int) + 1 < c.cap := by omega
      have e2 : L.length - 1 = i := by omega
      have e : brBehind c (fr o 5 i j n p h x) (cl L i) = fr o 6 i j n p h x := by
        simp [brBehind, fr, h1, h2]
      rw [e]
      rw [e2] at hr
      exact hr
theorem kin_hit {c : Cfg} {o : Opn} {L : List Cel} {p h x n j : Int} (hl : (L.length : Int) = c.cap) : ∀ (d i : Nat), i + d = L.length → (∃ t, i ≤ t ∧ t < L.length ∧ (cl L t).a = p + 1) →
    ∃ t : Nat, ∀ g M, Reach c (fr o 23 t j n p h x) L g M → Reach c (fr o 5 i j n p h x) L g M := by
  intro d
  induction d with
  | zero => rintro i hi ⟨t, t1, t2, _⟩; omega
  | succ d ih =>
    rintro i hi ⟨t, t1, t2, t3⟩
    by_cases h1 : (cl L i).a = p + 1
    · refine ⟨i, fun g M hr => ?_⟩
      refine Reach.read (i := i) (.inr (.inr rfl)) rfl ?_
      have e : brBehind c (fr o 5 i j n p h x) (cl L i) = fr o 23 i j n p h x := by
        simp [brBehind, fr, h1]
      rw [e]
      exact hr
    · have hne : i ≠ t := fun e => h1 (e ▸ t3)
      obtain ⟨u, hu⟩ := ih (i + 1) (by omega) ⟨t, by omega, t2, t3⟩
      refine ⟨u, fun g M hr => ?_⟩
      refine Reach.read (i := i) (.inr (.inr rfl)) rfl ?_
      have h2 : (i : Int) + 1 < c.cap := by omega
      have e : brBehind c (fr o 5 i j n p h x) (cl L i) = fr o 5 ((i + 1 : Nat) : Int) j n p h x := by
        simp [brBehind, fr, h1, h2]
      rw [e]
      exact hu g M hr
end Go.Proofs.YtmbodooikfmegaaDoor
/- Plain: done alone, an operation of a tree of settings leaves, and answers, what the model says; no program in sight. -/
namespace Go.Proofs.YtmbodooikfmegaaDoor
open Go Go.RowKit paths

/-- A pointer to a node of a key, or to what is above all. -/
structure PtOk (L : List Cel) (K : Nat → Int) (p : Nat) (k : Int) : Prop where
  ok : p = 0 ∨ (cl L (p - 1)).a ≠ 0
  key : ptK K p = k
/-- Behind the last name was found. -/
def finF (o : Opn) (m : Nat) (p n x : Int) : Frm :=
  if o.kind == 12 then fr o 4 m p n (m + 1) (lg o) x else if o.kind == 13 then fr o 5 0 p n (m + 1) (lg o) x else if x == 0 then fr o 21 m p n (m + 1) (lg o) x else fr o 20 m p n (m + 1) (lg o) x
theorem found_more {o : Opn} {m h : Nat} {j n p x : Int} {l : Cel} (hh : (h : Int) + 1 < lg o) : brFound (fr o 0 m j n p h x) l = fr o 0 ((0 : Nat) : Int) p 0 ((m : Int) + 1) ((h + 1 : Nat) : Int) (l.c % 4294967296) := by
  unfold brFound
  rw [if_pos (show (fr o 0 m j n p h x).h + 1 < brLong (fr o 0 m j n p h x) from hh)]
  rfl
theorem found_last {o : Opn} {m h : Nat} {j n p x : Int} {l : Cel} (hh : (h : Int) + 1 = lg o) : brFound (fr o 0 m j n p h x) l = finF o m p n (l.c % 4294967296) := by
  unfold brFound
  rw [if_neg (show ¬ (fr o 0 m j n p h x).h + 1 < brLong (fr o 0 m j n p h x) from by show ¬ (h : Int) + 1 < lg o; omega)]
  unfold finF
  rw [← hh]
  rfl
/-- All of a path is there: what a seek ends with. -/
def SeekA (c : Cfg) (o : Opn) (L : List Cel) (K : Nat → Int) (M : List Rw) (f : Frm) : Prop :=
  ∃ (m : Nat) (p n : Int), (cl L m).a = p + 1 ∧ (cl L m).a ≠ 0 ∧ K m = pathKey o ∧ (∀ t : Nat, 1 ≤ t → (t : Int) ≤ lg o → (look M (pkB o t)).isSome = true) ∧
    ∀ g M', Reach c (finF o m p n (cl L m).c) L g M' → Reach c f L g M'
/-- A node of a path is not there. -/
def SeekB (c : Cfg) (o : Opn) (L : List Cel) (K : Nat → Int) (M : List Rw) (f : Frm) : Prop :=
  ∃ (h p : Nat) (j x : Int), (h : Int) < lg o ∧ look M (pkB o (h + 1)) = none ∧ PtOk L K p (pkB o h) ∧ (1 ≤ freeC L → ∃ J : Nat, j = J ∧ First L J) ∧ (∀ t : Nat, 1 ≤ t → t ≤ h → (look M (pkB o t)).isSome = true) ∧
    ∀ g M', Reach c (endF c (fr o 0 ((L.length - 1 : Nat) : Int) j (freeC L) p h x)) L g M' → Reach c f L g M'
theorem seek {c : Cfg} {o : Opn} {L : List Cel} {K : Nat → Int} {M : List Rw} (w : WayOk o) (hl : (L.length : Int) = c.cap) (hl1 : 1 ≤ L.length) (ht : BrTr L K M) : ∀ (m h p : Nat) (j x : Int), ((h + m : Nat) : Int) = lg o → 1 ≤ m → PtOk L K p (pkB o h) → (∀ t : Nat, 1 ≤ t → t ≤ h → (look M (pkB o t)).isSome = true) →
    SeekA c o L K M (fr o 0 ((0 : Nat) : Int) j 0 p h x) ∨ SeekB c o L K M (fr o 0 ((0 : Nat) : Int) j 0 p h x) := by
  intro m
  induction m with
  | zero => intro _ _ _ _ _ h; omega
  | succ m ih =>
    intro h p j x hm _ hp hthere
    obtain ⟨q1, q2, q3⟩ := w.pk (h := h) (by omega)
    have hmeet := ht.meets hp.ok q1 (by rw [q2, hp.key])
    rw [q3] at hmeet
    cases hlk : look M (pkB o (h + 1)) with
    | none =>
      right
      have hno : ∀ t, 0 ≤ t → t < L.length → matB L o p h t = false := fun t _ _ => by
        rw [Bool.eq_false_iff]
        intro hq
        obtain ⟨u1, u2⟩ := (hmeet t).1 hq
        exact ht.lacks hlk t u1 u2
      obtain ⟨j', r1, r2⟩ := scan_miss (c := c) (o := o) (p := p) (h := h) (x := x) hl L.length 0 j 0 hl1 (by omega) hno (by simp) (fun h => by omega)
      exact ⟨h, p, j', x, by omega, hlk, hp, r1, hthere, r2⟩
    | some v =>
      obtain ⟨i, i1, i2, i3⟩ := (ht.rows _ _).1 hlk
      have hil := cl_lt i1
      have hmi : matB L o p h i = true := (hmeet i).2 ⟨i1, i2⟩
      have hno : ∀ t, 0 ≤ t → t < 0 + i → matB L o p h t = false := fun t _ t2 => by
        rw [Bool.eq_false_iff]
        intro hq
        obtain ⟨u1, u2⟩ := (hmeet t).1 hq
        have := ht.inj t i u1 i1 (by rw [u2, i2])
        omega
      obtain ⟨j', n', hr⟩ := scan_hit (c := c) (o := o) (p := p) (h := h) (x := x) hl i 0 j 0 (by omega) hno (by rw [Nat.zero_add]; exact hmi)
      rw [Nat.zero_add] at hr
      have hthere' : ∀ t : Nat, 1 ≤ t → t ≤ h + 1 → (look M (pkB o t)).isSome = true := fun t t1 t2 => by
        by_cases e : t = h + 1
        · rw [e, hlk]
          rfl
        · exact hthere t t1 (by omega)
      have hv := ht.val i i1
      have hf := (ht.fit.get i).c
      have hcc : (cl L i).c % 4294967296 = (cl L i).c := by
        have : 0 ≤ (cl L i).c := hf.1
        omega
      by_cases hm1 : m = 0
      · left
        have hlast : (h : Int) + 1 = lg o := by omega
        have ha : (cl L i).a = (p : Int) + 1 := by
          unfold matB at hmi
          simp only [Bool.and_eq_true, beq_iff_eq] at hmi
          exact hmi.1
        have hkey := w.key
        rw [show (lg o).toNat = h + 1 by omega] at hkey
        refine ⟨i, p, n', ha, i1, by rw [i2, hkey], fun t t1 t2 => hthere' t t1 (by omega), fun g M' hg => hr g M' ?_⟩
        rw [found_last hlast, hcc]
        exact hg
      · have hp' : PtOk L K (i + 1) (pkB o (h + 1)) := ⟨.inr (by simpa using i1), by unfold ptK; rw [if_neg (by omega)]; exact i2⟩
        rcases ih (h + 1) (i + 1) p ((cl L i).c % 4294967296) (by omega) (by omega) hp' hthere' with ⟨m', p', n2, a1, a2, a3, a4, a5⟩ | ⟨h', p', j2, x', b1, b2, b3, b4, b5, b6⟩
        · left
          refine ⟨m', p', n2, a1, a2, a3, a4, fun g M' hg => hr g M' ?_⟩
          rw [found_more (by omega)]
          exact a5 g M' hg
        · right
          refine ⟨h', p', j2, x', b1, b2, b3, b4, b5, fun g M' hg => hr g M' ?_⟩
          rw [found_more (by omega)]
          exact b6 g M' hg

/-- The nodes of a path that are made: with noughts, the last with the value. -/
def addK (o : Opn) : Nat → Nat → List Rw → List Rw
  | 0, _, M => M
  | m + 1, h, M => addK o m (h + 1) (withK (pkB o (h + 1)) (if ((h + 1 : Nat) : Int) = lg o then o.c + 1 else 0) M)
theorem rises_addK {o : Opn} : ∀ (m h : Nat) {M : List Rw}, Rises M → Rises (addK o m h M) := by
  intro m
  induction m with
  | zero => exact fun _ _ h => h
  | succ m ih => exact fun h _ hr => ih (h + 1) (rises_withK _ _ hr)
theorem look_addK {o : Opn} (w : WayOk o) : ∀ (m h : Nat) {M : List Rw}, Rises M → ((h + m : Nat) : Int) = lg o →
    (∀ t : Nat, h < t → (t : Int) ≤ lg o → look (addK o m h M) (pkB o t) = some (if (t : Int) = lg o then o.c + 1 else 0)) ∧
    (∀ j, (∀ t : Nat, h < t → (t : Int) ≤ lg o → j ≠ pkB o t) → look (addK o m h M) j = look M j) := by
  intro m
  induction m with
  | zero => exact fun h M hr hm => ⟨fun t t1 t2 => by omega, fun j _ => rfl⟩
  | succ m ih =>
    intro h M hr hm
    obtain ⟨g1, g2⟩ := ih (h + 1) (M := withK (pkB o (h + 1)) (if ((h + 1 : Nat) : Int) = lg o then o.c + 1 else 0) M) (rises_withK _ _ hr) (by omega)
    refine ⟨fun t t1 t2 => ?_, fun j hj => ?_⟩
    · by_cases e : t = h + 1
      · subst e
        show look (addK o m (h + 1) _) _ = _
        rw [g2 _ (fun t' h1 h2 => by have := w.lt h1 h2; omega), look_withK _ _ hr, if_pos rfl]
      · exact g1 t (by omega) t2
    · show look (addK o m (h + 1) _) _ = _
      rw [g2 j (fun t t1 t2 => hj t (by omega) t2), look_withK _ _ hr, if_neg (fun q => hj (h + 1) (by omega) (by omega) q.symm)]
theorem addK_len {o : Opn} (w : WayOk o) : ∀ (m h : Nat) {M : List Rw}, Rises M → ((h + m : Nat) : Int) = lg o → (∀ t : Nat, h < t → (t : Int) ≤ lg o → look M (pkB o t) = none) → (addK o m h M).length = M.length + m := by
  intro m
  induction m with
  | zero => exact fun h M _ _ _ => rfl
  | succ m ih =>
    intro h M hr hm hn
    show (addK o m (h + 1) _).length = _
    rw [ih (h + 1) (rises_withK _ _ hr) (by omega) (fun t t1 t2 => by
      rw [look_withK _ _ hr, if_neg (by have := w.lt (s := h + 1) (t := t) t1 t2; omega)]
      exact hn t (by omega) t2), withK_len _ _ (hn (h + 1) (by omega) (by omega))]
    omega
/-- What the model makes of a path is the nodes that lack, made in turn. -/
theorem made_addK {o : Opn} (w : WayOk o) {M : List Rw} (hr : Rises M) {m h : Nat} (hm : ((h + m : Nat) : Int) = lg o) (hm1 : 1 ≤ m) (h1 : ∀ t : Nat, 1 ≤ t → t ≤ h → (look M (pkB o t)).isSome = true) (h2 : ∀ t : Nat, h < t → (t : Int) ≤ lg o → look M (pkB o t) = none) :
    withK (pathKey o) (o.c + 1) (madeK (pathKey o) M) = addK o m h M ∧ (madeK (pathKey o) M).length = M.length + m := by
  obtain ⟨g1, g2⟩ := look_addK w m h hr hm
  have hkey := w.key
  have e : withK (pathKey o) (o.c + 1) (madeK (pathKey o) M) = addK o m h M := by
    refine rows_ext (rises_withK _ _ (rises_made hr)) (rises_addK _ _ hr) fun j => ?_
    rw [set_look hr]
    by_cases hj : j ∈ lineK (pathKey o)
    · obtain ⟨t, t1, t2, rfl⟩ := (w.line j).1 hj
      by_cases ht : h < t
      · rw [g1 t ht t2]
        by_cases e : (t : Int) = lg o
        · rw [if_pos e, if_pos]
          rw [← hkey, ← e, Int.toNat_natCast]
        · rw [if_neg e, if_neg, if_pos hj, h2 t ht t2]
          · rfl
          · rw [← hkey]
            have := w.lt (s := t) (t := (lg o).toNat) (by omega) (by omega)
            omega
      · have hs := h1 t t1 (by omega)
        rw [g2 _ (fun t' q1 q2 => by have := w.lt (s := t) (t := t') (by omega) q2; omega), if_neg, if_pos hj]
        · cases hl : look M (pkB o t) with
          | none => rw [hl] at hs; cases hs
          | some u => rfl
        · rw [← hkey]
          have := w.lt (s := t) (t := (lg o).toNat) (by omega) (by omega)
          omega
    · rw [if_neg (fun q : pathKey o = j => hj (q ▸ line_self _)), if_neg hj, g2 j (fun t q1 q2 q3 => hj ((w.line j).2 ⟨t, by omega, q2, q3⟩))]
  refine ⟨e, ?_⟩
  have := set_len (k := pathKey o) (v := o.c + 1) hr
  rw [e, addK_len w m h hr hm h2] at this
  omega
theorem made_all {o : Opn} (w : WayOk o) {M : List Rw} (h : ∀ t : Nat, 1 ≤ t → (t : Int) ≤ lg o → (look M (pkB o t)).isSome = true) : madeK (pathKey o) M = M := by
  have key : ∀ (ps : List Int), (∀ p ∈ ps, (look M p).isSome = true) → ps.foldl ins0 M = M := by
    intro ps
    induction ps with
    | nil => intro _; rfl
    | cons p ps ih =>
      intro hp
      rw [List.foldl_cons]
      have : ins0 M p = M := by
        unfold ins0
        rw [if_pos (hp p (List.mem_cons_self ..))]
      rw [this]
      exact ih fun q hq => hp q (List.mem_cons_of_mem _ hq)
  refine key _ fun p hp => ?_
  obtain ⟨t, t1, t2, rfl⟩ := (w.line p).1 hp
  exact h t t1 t2
theorem First.next {L : List Cel} {J : Nat} {x : Cel} (h : First L J) (hx : x.a ≠ 0) {J2 : Nat} (h2 : First (L.set J x) J2) : J < J2 := by
  obtain ⟨h1, h3, h4⟩ := h
  obtain ⟨k1, k2, k3⟩ := h2
  rw [cl_set x h1] at k2
  by_cases e : J2 = J
  · rw [if_pos e] at k2
    exact absurd k2 hx
  · rw [if_neg e] at k2
    by_cases hq : J2 < J
    · exact absurd k2 (h4 J2 hq)
    · omega
/-- Nodes are made in the free cells, in turn. -/
theorem making {c : Cfg} {o : Opn} (w : WayOk o) (ho : o.c ≤ 2147483647) : ∀ (m h p J : Nat) (i n x : Int) (L : List Cel) (K : Nat → Int) (M : List Rw), (L.length : Int) = c.cap → L.length ≤ 1000 → ((h + m : Nat) : Int) = lg o → 1 ≤ m → m ≤ freeC L → First L J → BrTr L K M → PtOk L K p (pkB o h) →
    (∀ t : Nat, h < t → (t : Int) ≤ lg o → look M (pkB o t) = none) →
    ∃ (L' : List Cel) (K' : Nat → Int) (i' j' n' p' : Int), L'.length = L.length ∧ BrTr L' K' (addK o m h M) ∧ Reach c (fr o 2 i J n p h x) L (fr o 20 i' j' n' p' (lg o) 0) L' := by
  have hoc := w.fit.c
  intro m
  induction m with
  | zero => intro _ _ _ _ _ _ _ _ _ _ _ _ h; omega
  | succ m ih =>
    intro h p J i n x L K M hl hl3 hm _ hfr hF ht hp hn
    obtain ⟨q1, q2, q3⟩ := w.pk (h := h) (by omega)
    obtain ⟨f1, f2, f3⟩ := hF
    have hv : 0 ≤ (if ((h + 1 : Nat) : Int) = lg o then o.c + 1 else 0) ∧ (if ((h + 1 : Nat) : Int) = lg o then o.c + 1 else 0) ≤ 2147483648 := by
      split <;> omega
    have hmk := ht.make f1 f2 hp.ok q1 (by rw [q2, hp.key]) (hn (h + 1) (by omega) (by omega)) hv hl3
    obtain ⟨X, hX⟩ : ∃ X : Cel, (⟨0, (p : Int) + 1, lastN (pkB o (h + 1)), if ((h + 1 : Nat) : Int) = lg o then o.c + 1 else 0⟩ : Cel) = X := ⟨_, rfl⟩
    obtain ⟨M1, hM1⟩ : ∃ M1, withK (pkB o (h + 1)) (if ((h + 1 : Nat) : Int) = lg o then o.c + 1 else 0) M = M1 := ⟨_, rfl⟩
    have hXa : X.a ≠ 0 := by
      rw [← hX]
      dsimp only
      omega
    have hs : brStep (fr o 2 i J n p h x) = ⟨2, (J : Int), (p : Int) + 1, lastN (pkB o (h + 1)), if ((h + 1 : Nat) : Int) = lg o then o.c + 1 else 0, 0, 0⟩ := by
      rw [q3]
      by_cases e : (h : Int) + 1 = lg o
      · have e' : ((h + 1 : Nat) : Int) = lg o := by omega
        rw [if_pos e']
        have e2 : ((fr o 2 i J n p h x).h + 1 == brLong (fr o 2 i J n p h x)) = true := by
          show ((h : Int) + 1 == lg o) = true
          simp [e]
        unfold brStep
        rw [if_neg (by show ¬ ((2 : Int) == 0 || (2 : Int) == 3 || (2 : Int) == 5) = true; decide), if_pos (by show ((2 : Int) == 2) = true; decide), e2]
        rfl
      · have e' : ¬ ((h + 1 : Nat) : Int) = lg o := by omega
        rw [if_neg e']
        have e2 : ((fr o 2 i J n p h x).h + 1 == brLong (fr o 2 i J n p h x)) = false := by
          show ((h : Int) + 1 == lg o) = false
          simp [e]
        unfold brStep
        rw [if_neg (by show ¬ ((2 : Int) == 0 || (2 : Int) == 3 || (2 : Int) == 5) = true; decide), if_pos (by show ((2 : Int) == 2) = true; decide), e2]
        rfl
    have hb : brBehind c (fr o 2 i J n p h x) X = brMade c (fr o 2 i J n p h x) := by
      unfold brBehind
      rw [if_neg (by show ¬ ((2 : Int) == 0) = true; decide), if_pos (by show ((2 : Int) == 2) = true; decide)]
    rw [hX, hM1] at hmk
    by_cases hm0 : m = 0
    · subst hm0
      have e : (h : Int) + 1 = lg o := by omega
      have hmade : brMade c (fr o 2 i J n p h x) = fr o 20 i J n ((J : Int) + 1) (lg o) 0 := by
        unfold brMade
        rw [if_pos (by show ((h : Int) + 1 == lg o) = true; simp [e]), ← e]
        rfl
      refine ⟨L.set J X, _, i, J, n, (J : Int) + 1, by rw [List.length_set], by rw [← hM1] at hmk; exact hmk, ?_⟩
      refine Reach.write hs f1 ?_
      rw [hX, hb, hmade]
      exact Reach.refl _ _ _
    · have hlen := ht.len
      have hlen' := hmk.len
      rw [List.length_set, ← hM1, withK_len _ _ (hn (h + 1) (by omega) (by omega))] at hlen'
      obtain ⟨J2, hF2⟩ := free_first (L := L.set J X) (by omega)
      have hJ2 := First.next ⟨f1, f2, f3⟩ hXa hF2
      obtain ⟨k1, k2, k3⟩ := hF2
      rw [List.length_set] at k1
      have hp' : PtOk (L.set J X) (fun i => if i = J then pkB o (h + 1) else K i) (J + 1) (pkB o (h + 1)) := by
        refine ⟨.inr ?_, ?_⟩
        · rw [Nat.add_sub_cancel, cl_set X f1, if_pos rfl]
          exact hXa
        · unfold ptK
          rw [if_neg (by omega), Nat.add_sub_cancel]
          exact if_pos rfl
      have hn' : ∀ t : Nat, h + 1 < t → (t : Int) ≤ lg o → look M1 (pkB o t) = none := fun t t1 t2 => by
        rw [← hM1, look_withK _ _ ht.rises, if_neg (by have := w.lt (s := h + 1) (t := t) t1 t2; omega)]
        exact hn t (by omega) t2
      obtain ⟨L', K', i', j', n', p', r1, r2, r3⟩ := ih (h + 1) (J + 1) J2 J2 n x (L.set J X) _ M1 (by rw [List.length_set]; exact hl) (by rw [List.length_set]; exact hl3) (by omega) (by omega) (by omega) ⟨by rw [List.length_set]; exact k1, k2, k3⟩ hmk hp' hn'
      refine ⟨L', K', i', j', n', p', by rw [r1, List.length_set], by rw [← hM1] at r2; exact r2, ?_⟩
      refine Reach.write hs f1 ?_
      have hmade : brMade c (fr o 2 i J n p h x) = fr o 3 ((J + 1 : Nat) : Int) J n ((J + 1 : Nat) : Int) ((h + 1 : Nat) : Int) x := by
        unfold brMade
        rw [if_neg (by show ¬ ((h : Int) + 1 == lg o) = true; simp; omega), if_pos (by show (J : Int) + 1 < c.cap; omega)]
        rfl
      rw [hX, hb, hmade]
      refine room_hit (c := c) (by rw [List.length_set]; exact hl) (J2 - (J + 1)) (J + 1) J (by rw [List.length_set]; omega) (fun t t1 t2 => k3 t (by omega)) (by rw [show J + 1 + (J2 - (J + 1)) = J2 by omega]; exact k2) _ _ ?_
      rw [show J + 1 + (J2 - (J + 1)) = J2 by omega]
      exact r3

/-- THE STAGE'S THEOREM, of one operation. -/
theorem br_means {c : Cfg} {o : Opn} {L : List Cel} {K : Nat → Int} {M : List Rw} (ho : o.Fits) (hp : partOk c = true) (h4 : c.object = 4) (he : opErr c o = 0) (hl : (L.length : Int) = c.cap) (ht : BrTr L K M) :
    (brRun c 200 (startF o) L []).ok = true ∧ (brRun c 200 (startF o) L []).code = (pathDone c M o).code ∧ (brRun c 200 (startF o) L []).word = (pathDone c M o).word ∧
      (brRun c 200 (startF o) L []).cells.length = L.length ∧ ∃ K', BrTr (brRun c 200 (startF o) L []).cells K' (pathDone c M o).rows := by
  obtain ⟨_, hk, hft⟩ := path_kind (c := c) (o := o) h4 (by simp [he])
  obtain ⟨f1, f2, f3, f4, f5⟩ := path_fits ho hft hk
  have w : WayOk o := ⟨ho, f1⟩
  have hcap := partOk_cap hp
  have hlong := w.long
  have hop : brOp (startF o) = o := by
    unfold brOp
    show (⟨o.kind, o.a, o.b, if o.kind == 12 then o.c else 0⟩ : Opn) = o
    by_cases e : o.kind = 12
    · simp [e]
      rw [← e]
    · have := f4 e
      simp [e]
      rw [← this]
  have herr : brErr c (startF o) = 0 := by
    rw [brErr_iff, hop]
    refine ⟨hp, h4, he, ?_, ?_, ?_, ?_, ?_, ?_, ?_, ?_, ?_, ?_⟩
    · simp [brHas, startF]
    · show (0 : Int) ≤ c.cap; omega
    · show (0 : Int) ≤ c.cap; omega
    · show (0 : Int) ≤ c.cap; omega
    · show (0 : Int) ≤ c.cap; omega
    · show (0 : Int) ≤ lg o; omega
    · intro _
      show (0 : Int) ≠ lg o
      omega
    · intro _
      show (0 : Int) ≤ 0
      omega
    · show (0 : Int) ≤ brAt (startF o)
      simp [brAt, startF]
    · simp [brAt, startF]
      omega
  obtain ⟨hin, hrem⟩ := br_start herr
  have hrem2 : brRem c (startF o) < (200 : Nat) := by
    split at hrem <;> omega
  have hrun : ∀ (g : Frm) (L' : List Cel), (brStep g).kind = 4 → Reach c (startF o) L g L' → ∃ t', brRun c 200 (startF o) L [] = ⟨L', (brStep g).code, (brStep g).v', t', true⟩ := by
    rintro g L' hg ⟨n, hr⟩
    exact run_of hg n _ _ hin (startF_fits ho) ht.fit hl hr 200 [] hrem2
  have hsf : startF o = fr o 0 ((0 : Nat) : Int) 0 0 ((0 : Nat) : Int) ((0 : Nat) : Int) 0 := rfl
  have hp0 : PtOk L K 0 (pkB o 0) := ⟨.inl rfl, rfl⟩
  have e20 : ∀ i j n p h x, brStep (fr o 20 i j n p h x) = ⟨4, 0, 0, 0, 0, 0, x⟩ := fun i j n p h x => by simp [brStep, fr]
  have e21 : ∀ i j n p h x, brStep (fr o 21 i j n p h x) = ⟨4, 0, 0, 0, 0, 6, 0⟩ := fun i j n p h x => by simp [brStep, fr]
  have e22 : ∀ i j n p h x, brStep (fr o 22 i j n p h x) = ⟨4, 0, 0, 0, 0, 9, 0⟩ := fun i j n p h x => by simp [brStep, fr]
  have e23 : ∀ i j n p h x, brStep (fr o 23 i j n p h x) = ⟨4, 0, 0, 0, 0, 90, 0⟩ := fun i j n p h x => by simp [brStep, fr]
  have hfree := ht.len
  have hkey := w.key
  rcases seek (c := c) w hl (by omega) ht (lg o).toNat 0 0 0 0 (by omega) (by omega) hp0 (fun t t1 t2 => by omega) with ⟨m, p, n, a1, a2, a3, a4, a5⟩ | ⟨h, p, j, x, b1, b2, b3, b4, b5, b6⟩
  · have hlk : look M (pathKey o) = some (cl L m).c := by rw [← a3]; exact ht.here a2
    have hml := cl_lt a2
    rcases hk with k | k | k
    · have hmade := made_all w (M := M) a4
      have hd : pathDone c M o = ⟨withK (pathKey o) (o.c + 1) M, 0, (cl L m).c, 0⟩ := by
        unfold pathDone
        rw [if_pos (by simp [k]), hmade, if_neg (by omega), hlk]
        rfl
      have hfin : finF o m p n (cl L m).c = fr o 4 m p n (m + 1) (lg o) (cl L m).c := by simp [finF, k]
      have hs : brStep (fr o 4 m p n (m + 1) (lg o) (cl L m).c) = ⟨2, (m : Int), (cl L m).a, (cl L m).b, o.c + 1, 0, 0⟩ := by
        have hb := ht.last m a2
        rw [a3, ← hkey] at hb
        obtain ⟨l1, hl1⟩ : ∃ l1 : Nat, (lg o).toNat = l1 + 1 := ⟨(lg o).toNat - 1, by omega⟩
        rw [hl1] at hb
        obtain ⟨_, _, q3⟩ := w.pk (h := l1) (by omega)
        rw [q3] at hb
        have e1 : (l1 : Int) = lg o - 1 := by omega
        rw [e1] at hb
        have : brStep (fr o 4 m p n (m + 1) (lg o) (cl L m).c) = ⟨2, (m : Int) + 1 - 1, p + 1, nm o (lg o - 1), o.c + 1, 0, 0⟩ := by
          unfold brStep
          rw [if_neg (by show ¬ ((4 : Int) == 0 || (4 : Int) == 3 || (4 : Int) == 5) = true; decide), if_neg (by show ¬ ((4 : Int) == 2) = true; decide), if_pos (by show ((4 : Int) == 4) = true; decide)]
          rfl
        rw [this, a1, hb, show (m : Int) + 1 - 1 = m by omega]
      have hbeh : ∀ l, brBehind c (fr o 4 m p n (m + 1) (lg o) (cl L m).c) l = fr o 20 m p n (m + 1) (lg o) (cl L m).c := fun l => by simp [brBehind, fr]
      obtain ⟨t', hR⟩ := hrun (fr o 20 m p n (m + 1) (lg o) (cl L m).c) (L.set m ⟨0, (cl L m).a, (cl L m).b, o.c + 1⟩) (by rw [e20]) (by
        rw [hsf]
        refine a5 _ _ ?_
        rw [hfin]
        refine Reach.write hs hml ?_
        rw [hbeh]
        exact Reach.refl _ _ _)
      rw [hR, hd, e20]
      have hfm := ht.fit.get m
      have hoc := ho.c
      have hx : (⟨0, (cl L m).a, (cl L m).b, o.c + 1⟩ : Cel).Fits := ⟨by dsimp only; omega, hfm.a, hfm.b, by have := f3 k; dsimp only; omega⟩
      have htr := ht.turn a2 hx rfl rfl (by have := f3 k; dsimp only; omega)
      rw [a3] at htr
      exact ⟨rfl, rfl, rfl, by rw [List.length_set], K, htr⟩
    · have hfin : finF o m p n (cl L m).c = fr o 5 ((0 : Nat) : Int) p n (m + 1) (lg o) (cl L m).c := by simp [finF, k]
      have hku := ht.kids a2
      rw [a3] at hku
      by_cases hu : usedB (pathKey o) M = true
      · obtain ⟨i, hi⟩ := hku.1 hu
        have hd : pathDone c M o = ⟨M, 90, 0, 0⟩ := by
          unfold pathDone
          rw [if_neg (by simp [k]), hlk]
          dsimp only
          rw [if_neg (by simp [k]), if_pos hu]
        obtain ⟨t, hkt⟩ := kin_hit (c := c) (o := o) (L := L) (p := (m : Int) + 1) (h := lg o) (x := (cl L m).c) (n := n) (j := p) hl L.length 0 (by omega) ⟨i, by omega, cl_lt (by omega), by omega⟩
        obtain ⟨t', hR⟩ := hrun (fr o 23 t p n (m + 1) (lg o) (cl L m).c) L (by rw [e23]) (by
          rw [hsf]
          refine a5 _ _ ?_
          rw [hfin]
          exact hkt _ _ (Reach.refl _ _ _))
        rw [hR, hd, e23]
        exact ⟨rfl, rfl, rfl, rfl, K, ht⟩
      · have hno : ∀ i, (cl L i).a ≠ (m : Int) + 2 := fun i hi => hu (hku.2 ⟨i, hi⟩)
        have hd : pathDone c M o = ⟨withoutK (pathKey o) M, 0, (cl L m).c, 0⟩ := by
          unfold pathDone
          rw [if_neg (by simp [k]), hlk]
          dsimp only
          rw [if_neg (by simp [k]), if_neg hu]
        have hs : brStep (fr o 6 ((L.length - 1 : Nat) : Int) p n (m + 1) (lg o) (cl L m).c) = ⟨2, (m : Int), 0, 0, 0, 0, 0⟩ := by
          simp [brStep, fr]
        have hbeh : ∀ l, brBehind c (fr o 6 ((L.length - 1 : Nat) : Int) p n (m + 1) (lg o) (cl L m).c) l = fr o 20 ((L.length - 1 : Nat) : Int) p n (m + 1) (lg o) (cl L m).c := fun l => by simp [brBehind, fr]
        obtain ⟨t', hR⟩ := hrun (fr o 20 ((L.length - 1 : Nat) : Int) p n (m + 1) (lg o) (cl L m).c) (L.set m zc) (by rw [e20]) (by
          rw [hsf]
          refine a5 _ _ ?_
          rw [hfin]
          refine kin_miss (c := c) hl L.length 0 (by omega) (by omega) (fun t _ _ ht2 => hno t (by omega)) _ _ ?_
          refine Reach.write hs hml ?_
          rw [hbeh]
          exact Reach.refl _ _ _)
        rw [hR, hd, e20]
        have htr := ht.take a2 hno
        rw [a3] at htr
        exact ⟨rfl, rfl, rfl, by rw [List.length_set], K, htr⟩
    · by_cases hx : (cl L m).c = 0
      · have hd : pathDone c M o = ⟨M, 6, 0, 0⟩ := by
          unfold pathDone
          rw [if_neg (by simp [k]), hlk]
          dsimp only
          rw [if_pos (by simp [k]), if_pos (by simp [hx])]
        have hfin : finF o m p n (cl L m).c = fr o 21 m p n (m + 1) (lg o) (cl L m).c := by simp [finF, k, hx]
        obtain ⟨t', hR⟩ := hrun (fr o 21 m p n (m + 1) (lg o) (cl L m).c) L (by rw [e21]) (by
          rw [hsf]
          refine a5 _ _ ?_
          rw [hfin]
          exact Reach.refl _ _ _)
        rw [hR, hd, e21]
        exact ⟨rfl, rfl, rfl, rfl, K, ht⟩
      · have hd : pathDone c M o = ⟨M, 0, (cl L m).c, 0⟩ := by
          unfold pathDone
          rw [if_neg (by simp [k]), hlk]
          dsimp only
          rw [if_pos (by simp [k]), if_neg (by simp [hx])]
        have hfin : finF o m p n (cl L m).c = fr o 20 m p n (m + 1) (lg o) (cl L m).c := by simp [finF, k, hx]
        obtain ⟨t', hR⟩ := hrun (fr o 20 m p n (m + 1) (lg o) (cl L m).c) L (by rw [e20]) (by
          rw [hsf]
          refine a5 _ _ ?_
          rw [hfin]
          exact Reach.refl _ _ _)
        rw [hR, hd, e20]
        exact ⟨rfl, rfl, rfl, rfl, K, ht⟩
  · have hmiss : ∀ t : Nat, h < t → (t : Int) ≤ lg o → look M (pkB o t) = none := by
      intro t t1 t2
      cases hl2 : look M (pkB o t) with
      | none => rfl
      | some v =>
        have : ∀ s : Nat, h + 1 ≤ s → (s : Int) ≤ lg o → (look M (pkB o s)).isSome = true → False := by
          intro s
          induction s with
          | zero => intro h0; omega
          | succ s ihs =>
            intro s1 s2 s3
            by_cases e : s = h
            · rw [e, b2] at s3
              cases s3
            · refine ihs (by omega) (by omega) ?_
              obtain ⟨q1, q2, _⟩ := w.pk (h := s) (by omega)
              obtain ⟨u, hu, _⟩ := look_some_mem s3
              obtain ⟨i, i1, i2, _⟩ := (ht.rows _ _).1 hu
              have hpk := w.lt (s := 0) (t := s) (by omega) (by omega)
              have h00 : pkB o 0 = 0 := rfl
              by_cases ea : (cl L i).a = 1
              · have := ht.top i ea
                rw [i2, q2] at this
                omega
              · obtain ⟨j, j1, j2, j3⟩ := ht.par i i1 ea
                rw [i2, q2] at j3
                have := ht.here j2
                rw [j3] at this
                rw [this]
                rfl
        exact absurd (this t (by omega) t2 (by rw [hl2]; rfl)) id
    obtain ⟨mm, hmm⟩ : ∃ mm : Nat, ((h + mm : Nat) : Int) = lg o := ⟨(lg o).toNat - h, by omega⟩
    have hnone : look M (pathKey o) = none := by
      rw [← hkey]
      exact hmiss _ (by omega) (by omega)
    rcases hk with k | k | k
    · obtain ⟨g1, g2⟩ := made_addK w ht.rises hmm (by omega) b5 hmiss
      by_cases hfull : (freeC L : Int) < lg o - h
      · have hd : pathDone c M o = ⟨M, 9, 0, 0⟩ := by
          unfold pathDone
          rw [if_pos (by simp [k]), if_pos (by omega)]
        have hend : endF c (fr o 0 ((L.length - 1 : Nat) : Int) j (freeC L) p h x) = fr o 22 ((L.length - 1 : Nat) : Int) j (freeC L) p h x := by
          unfold endF
          rw [if_pos (by show (o.kind == 12) = true; simp [k]), if_pos (by show (freeC L : Int) < lg o - h; exact hfull)]
          rfl
        obtain ⟨t', hR⟩ := hrun (fr o 22 ((L.length - 1 : Nat) : Int) j (freeC L) p h x) L (by rw [e22]) (by
          rw [hsf]
          refine b6 _ _ ?_
          rw [hend]
          exact Reach.refl _ _ _)
        rw [hR, hd, e22]
        exact ⟨rfl, rfl, rfl, rfl, K, ht⟩
      · have hd : pathDone c M o = ⟨addK o mm h M, 0, 0, 0⟩ := by
          unfold pathDone
          rw [if_pos (by simp [k]), if_neg (by omega), g1, hnone]
          rfl
        have hend : endF c (fr o 0 ((L.length - 1 : Nat) : Int) j (freeC L) p h x) = fr o 2 ((L.length - 1 : Nat) : Int) j (freeC L) p h x := by
          unfold endF
          rw [if_pos (by show (o.kind == 12) = true; simp [k]), if_neg (by show ¬ (freeC L : Int) < lg o - h; exact hfull)]
          rfl
        obtain ⟨J, rfl, hF⟩ := b4 (by omega)
        obtain ⟨L', K', i', j', n', p', r1, r2, r3⟩ := making (c := c) w (f3 k) mm h p J ((L.length - 1 : Nat) : Int) (freeC L) x L K M hl (by omega) hmm (by omega) (by omega) hF ht b3 hmiss
        obtain ⟨t', hR⟩ := hrun (fr o 20 i' j' n' p' (lg o) 0) L' (by rw [e20]) (by
          rw [hsf]
          refine b6 _ _ ?_
          rw [hend]
          exact r3)
        rw [hR, hd, e20]
        exact ⟨rfl, rfl, rfl, r1, K', r2⟩
    · have hd : pathDone c M o = ⟨M, 6, 0, 0⟩ := by
        unfold pathDone
        rw [if_neg (by simp [k]), hnone]
      have hend : endF c (fr o 0 ((L.length - 1 : Nat) : Int) j (freeC L) p h x) = fr o 21 ((L.length - 1 : Nat) : Int) j (freeC L) p h x := by
        unfold endF
        rw [if_neg (by show ¬ (o.kind == 12) = true; simp [k])]
        rfl
      obtain ⟨t', hR⟩ := hrun (fr o 21 ((L.length - 1 : Nat) : Int) j (freeC L) p h x) L (by rw [e21]) (by
        rw [hsf]
        refine b6 _ _ ?_
        rw [hend]
        exact Reach.refl _ _ _)
      rw [hR, hd, e21]
      exact ⟨rfl, rfl, rfl, rfl, K, ht⟩
    · have hd : pathDone c M o = ⟨M, 6, 0, 0⟩ := by
        unfold pathDone
        rw [if_neg (by simp [k]), hnone]
      have hend : endF c (fr o 0 ((L.length - 1 : Nat) : Int) j (freeC L) p h x) = fr o 21 ((L.length - 1 : Nat) : Int) j (freeC L) p h x := by
        unfold endF
        rw [if_neg (by show ¬ (o.kind == 12) = true; simp [k])]
        rfl
      obtain ⟨t', hR⟩ := hrun (fr o 21 ((L.length - 1 : Nat) : Int) j (freeC L) p h x) L (by rw [e21]) (by
        rw [hsf]
        refine b6 _ _ ?_
        rw [hend]
        exact Reach.refl _ _ _)
      rw [hR, hd, e21]
      exact ⟨rfl, rfl, rfl, rfl, K, ht⟩
end Go.Proofs.YtmbodooikfmegaaDoor
