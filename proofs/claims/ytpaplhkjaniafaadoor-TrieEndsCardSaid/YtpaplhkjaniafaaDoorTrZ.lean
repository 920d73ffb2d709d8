/- Plain: a program of a table of routes is done within so many acts, whatever it reads; no program in sight. -/
import Derived.Test.YtpaplhkjaniafaaDoorTrD
namespace Go.Proofs.YtpaplhkjaniafaaDoor
open Go Go.RowKit

/-- What the steps leave alone. -/
structure SameT (f g : Frm) : Prop where
  kind : g.kind = f.kind
  a : g.a = f.a
  b : g.b = f.b
  y : g.y = f.y
  i : g.i = f.i
  j : g.j = f.j
  p : g.p = f.p
theorem SameT.op {f g : Frm} (h : SameT f g) : trOp g = trOp f := by
  unfold trOp
  rw [h.kind, h.a, h.b, h.y]
theorem SameT.most {f g : Frm} (h : SameT f g) (c : Cfg) : trMost c g = trMost c f := by
  unfold trMost
  rw [h.kind, h.b]
/-- A frame of an operation that goes on. -/
structure TrIn (c : Cfg) (o : Opn) (f : Frm) : Prop where
  err : trErr c f = 0
  fits : f.Fits
  kind : f.kind = o.kind
  i : f.i = 0
  j : f.j = 0
  p : f.p = 0
  n : f.n ≤ 63
/-- How many acts there may be yet. -/
def trRem (c : Cfg) (f : Frm) : Int :=
  if f.kind = 3 then (if f.pc = 0 then c.bits - f.h + 1 else 0)
  else if f.pc = 0 then 2 * f.b + 4 else if f.pc = 1 then 2 * f.b + 3 else if f.pc = 2 then 2 * (f.b - f.h) + 2 else if f.pc = 3 then 2 * (f.b - f.h) + 1 else if f.pc = 5 then 1 else 0
theorem TrIn.facts {c : Cfg} {o : Opn} {f : Frm} (h : TrIn c o f) : partOk c = true ∧ c.object = 1 ∧ trMay c f = true ∧ TrFacts c f := by
  obtain ⟨h1, h2, h3⟩ := trErr_ok h.err
  exact ⟨h1, h2, h3, trMay_facts h.fits h2 h3⟩
theorem tr_pcs {c : Cfg} {f : Frm} (hf : f.Fits) (h : TrFacts c f) : (f.kind = 3 ∧ (f.pc = 0 ∨ f.pc = 6 ∨ f.pc = 8)) ∨ (f.kind = 1 ∧ (f.pc = 0 ∨ f.pc = 1 ∨ f.pc = 2 ∨ f.pc = 3 ∨ f.pc = 5 ∨ f.pc = 6 ∨ f.pc = 7)) ∨ (f.kind = 2 ∧ (f.pc = 0 ∨ f.pc = 2 ∨ f.pc = 3 ∨ f.pc = 6 ∨ f.pc = 8)) := by
  have ht := h.there
  have hp := hf.pc
  rcases h.kind with k | k | k
  · simp [trThere, k] at ht
    omega
  · simp [trThere, k] at ht
    omega
  · simp [trThere, k] at ht
    omega
theorem tr_new {c : Cfg} {o : Opn} {f g : Frm} (h : TrIn c o f) (hs : SameT f g) (hp : trThere f.kind g.pc = true) (hh : g.h ≤ trMost c f) (hn : g.n ≤ 63) (hg : g.Fits) : TrIn c o g := by
  obtain ⟨h1, h2, h3, h4⟩ := h.facts
  refine ⟨trErr_yes h1 (by simp [h2]) ?_, hg, hs.kind.trans h.kind, hs.i.trans h.i, hs.j.trans h.j, hs.p.trans h.p, hn⟩
  simp [trMay] at h3
  simp [trMay, hs.op, hs.most c, hs.kind, h3.1.1, hp, hh]
/-- What a step does to a frame. -/
def TrBeh (c : Cfg) (f g : Frm) : Prop := SameT f g ∧ trThere f.kind g.pc = true ∧ g.h ≤ trMost c f ∧ g.n ≤ 63 ∧ trRem c g + 1 ≤ trRem c f
theorem tr_looked {c : Cfg} {f g : Frm} (own : Int) (l : Cel) (hs : SameT f g) (k : f.kind = 3) (h0 : f.pc = 0) (hp : g.pc = 0) (hgh : g.h = f.h) (hgn : g.n ≤ 63) (hh : f.h ≤ c.bits) : TrBeh c f (trLooked c g own l) := by
  have hm : trMost c f = c.bits := by simp [trMost, k]
  have hr : trRem c f = c.bits - f.h + 1 := by simp [trRem, k, h0]
  have hk := hs.kind
  unfold trLooked
  split
  · rename_i hlt
    refine ⟨⟨hs.kind, hs.a, hs.b, hs.y, hs.i, hs.j, hs.p⟩, by simp [trThere, k, hp], by show g.h + 1 ≤ _; omega, hgn, ?_⟩
    rw [hr]
    simp [trRem, hk, k, hp]
    omega
  · split
    · refine ⟨⟨hs.kind, hs.a, hs.b, hs.y, hs.i, hs.j, hs.p⟩, by simp [trThere, k], by show g.h ≤ _; omega, hgn, ?_⟩
      rw [hr]
      simp [trRem, hk, k]
      omega
    · refine ⟨⟨hs.kind, hs.a, hs.b, hs.y, hs.i, hs.j, hs.p⟩, by simp [trThere, k], by show g.h ≤ _; omega, hgn, ?_⟩
      rw [hr]
      simp [trRem, hk, k]
      omega
theorem tr_behind3 {c : Cfg} {f : Frm} (l : Cel) (k : f.kind = 3) (h0 : f.pc = 0) (hn : f.n ≤ 63) (hh : f.h ≤ c.bits) : TrBeh c f (trBehind c f l) := by
  have e3 : (f.kind == 3) = true := by simp [k]
  have e0 : (f.pc == 0) = true := by simp [h0]
  unfold trBehind trLook
  simp only [e3, e0, if_true]
  split
  · exact tr_looked 0 l ⟨rfl, rfl, rfl, rfl, rfl, rfl, rfl⟩ k h0 h0 rfl hn hh
  · exact tr_looked 1 l ⟨rfl, rfl, rfl, rfl, rfl, rfl, rfl⟩ k h0 h0 rfl hn hh
theorem tr_behind12 {c : Cfg} {f : Frm} (l : Cel) (k : f.kind = 1 ∨ f.kind = 2) (hp : f.pc = 0 ∨ (f.pc = 1 ∧ f.kind = 1) ∨ f.pc = 2 ∨ f.pc = 3 ∨ (f.pc = 5 ∧ f.kind = 1)) (hf : f.Fits) (hn : f.n ≤ 63) (hh : f.h ≤ f.b) : TrBeh c f (trBehind c f l) := by
  have e3 : (f.kind == 3) = false := by simp; omega
  have k3 : ¬ f.kind = 3 := by omega
  have hm : trMost c f = f.b := by simp [trMost, k3]
  have hb := hf.b
  have hn2 : l.b % 64 ≤ 63 := by omega
  have hh0 := hf.h
  unfold trBehind TrBeh
  simp only [e3, Bool.false_eq_true, if_false, hm]
  rcases hp with p | ⟨p, q⟩ | p | p | ⟨p, q⟩
  · have e : (f.pc == 0) = true := by simp [p]
    simp only [e, if_true]
    rcases k with k | k
    · have e1 : (f.kind == 1) = true := by simp [k]
      simp only [e1, if_true]
      split
      · refine ⟨⟨rfl, rfl, rfl, rfl, rfl, rfl, rfl⟩, by simp [trThere, k], hh, hn2, ?_⟩
        simp [trRem, k3, p]
        omega
      · refine ⟨⟨rfl, rfl, rfl, rfl, rfl, rfl, rfl⟩, by simp [trThere, k], hh, hn2, ?_⟩
        simp [trRem, k3, p]
        omega
    · have e1 : (f.kind == 1) = false := by simp [k]
      simp only [e1, Bool.false_eq_true, if_false]
      split
      · refine ⟨⟨rfl, rfl, rfl, rfl, rfl, rfl, rfl⟩, by simp [trThere, k], hh, hn2, ?_⟩
        simp [trRem, k3, p]
        omega
      · refine ⟨⟨rfl, rfl, rfl, rfl, rfl, rfl, rfl⟩, by simp [trThere, k], hb.1, hn2, ?_⟩
        simp [trRem, k3, p]
        omega
  · simp only [p]
    simp only [show ((1 : Int) == 0) = false from rfl, show ((1 : Int) == 1) = true from rfl, Bool.false_eq_true, if_false, if_true]
    split
    · refine ⟨⟨rfl, rfl, rfl, rfl, rfl, rfl, rfl⟩, by simp [trThere, q], hb.1, hn, ?_⟩
      simp [trRem, k3, p]
      omega
    · refine ⟨⟨rfl, rfl, rfl, rfl, rfl, rfl, rfl⟩, by simp [trThere, q], hh, hn, ?_⟩
      simp [trRem, k3, p]
      omega
  · simp only [p]
    simp only [show ((2 : Int) == 0) = false from rfl, show ((2 : Int) == 1) = false from rfl, show ((2 : Int) == 2) = true from rfl, Bool.false_eq_true, if_false, if_true]
    refine ⟨⟨rfl, rfl, rfl, rfl, rfl, rfl, rfl⟩, by rcases k with k | k <;> simp [trThere, k], hh, hn2, ?_⟩
    simp [trRem, k3, p]
    omega
  · simp only [p]
    simp only [show ((3 : Int) == 0) = false from rfl, show ((3 : Int) == 1) = false from rfl, show ((3 : Int) == 2) = false from rfl, show ((3 : Int) == 3) = true from rfl, Bool.false_eq_true, if_false, if_true]
    split
    · refine ⟨⟨rfl, rfl, rfl, rfl, rfl, rfl, rfl⟩, by rcases k with k | k <;> simp [trThere, k], hh, hn, ?_⟩
      simp [trRem, k3, p]
      omega
    · rename_i hne
      have hne' : f.h ≠ f.b := by simpa using hne
      refine ⟨⟨rfl, rfl, rfl, rfl, rfl, rfl, rfl⟩, by rcases k with k | k <;> simp [trThere, k], by show f.h + 1 ≤ f.b; omega, hn, ?_⟩
      simp [trRem, k3, p]
      omega
  · simp only [p]
    simp only [show ((5 : Int) == 0) = false from rfl, show ((5 : Int) == 1) = false from rfl, show ((5 : Int) == 2) = false from rfl, show ((5 : Int) == 3) = false from rfl, show ((5 : Int) == 5) = true from rfl, Bool.false_eq_true, if_false, if_true]
    refine ⟨⟨rfl, rfl, rfl, rfl, rfl, rfl, rfl⟩, by simp [trThere, q], hh, hn, ?_⟩
    simp [trRem, k3, p]
theorem trM_bounds {c : Cfg} {f : Frm} (hf : f.Fits) (h : TrFacts c f) : 1 ≤ trM c f ∧ trM c f < 2 ^ (trMost c f).toNat * 2 := by
  have h1 := hf.a
  have h2 := h.a
  have hp : (0 : Int) < 2 ^ (trMost c f).toNat := Int.pow_pos (by decide)
  unfold trM
  omega
theorem trD_bounds {c : Cfg} {f : Frm} (hf : f.Fits) (h : TrFacts c f) : 1 ≤ trD c f ∧ trD c f < 2 ^ (trMost c f).toNat * 2 := by
  obtain ⟨h1, h2⟩ := trM_bounds hf h
  have hh := h.h
  have h0 := hf.h
  have ha := hf.a
  have hp : (0 : Int) < 2 ^ (trMost c f - f.h).toNat := Int.pow_pos (by decide)
  have hle : (2 : Int) ^ (trMost c f - f.h).toNat ≤ 2 ^ (trMost c f).toNat := by
    have : (2 : Nat) ^ (trMost c f - f.h).toNat ≤ 2 ^ (trMost c f).toNat := Nat.pow_le_pow_right (by decide) (by omega)
    exact_mod_cast this
  unfold trD
  constructor
  · have : 1 * 2 ^ (trMost c f - f.h).toNat ≤ trM c f := by unfold trM; omega
    exact (Int.le_ediv_iff_mul_le hp).2 this
  · refine Int.lt_of_le_of_lt (Int.ediv_le_self _ (by omega)) h2
theorem most_bits {c : Cfg} {o : Opn} {f : Frm} (h : TrIn c o f) : trMost c f ≤ c.bits := by
  obtain ⟨h1, h2, h3, h4⟩ := h.facts
  simp [trMay] at h3
  have hft := opErr_fits h3.1.1
  simp only [trOp] at hft
  rcases h4.kind with k | k | k <;> simp [fitsB, k, prefixB, trMost] at hft ⊢
  · exact hft.2.1
  · exact hft.1
theorem great_le {c : Cfg} {o : Opn} {f : Frm} (h : TrIn c o f) {x : Int} (hx : x < 2 ^ (trMost c f).toNat * 2) : x < 2 ^ c.bits.toNat * 2 := by
  have hm := most_bits h
  have : (2 : Nat) ^ (trMost c f).toNat ≤ 2 ^ c.bits.toNat := Nat.pow_le_pow_right (by decide) (by omega)
  have : (2 : Int) ^ (trMost c f).toNat ≤ 2 ^ c.bits.toNat := by exact_mod_cast this
  omega
/-- An act of a frame: it is the last, or touches what there is, and the frame behind it goes on, with fewer acts to come. -/
theorem tr_goes {c : Cfg} {o : Opn} {f : Frm} (h : TrIn c o f) : (trStep c f).kind = 4 ∨
    ((trStep c f).kind ≠ 4 ∧ 1 ≤ (trStep c f).at' ∧ (trStep c f).at' < 2 ^ c.bits.toNat * 2 ∧ ((trStep c f).kind = 1 ∨ ((trStep c f).kind = 2 ∧ o.kind ≠ 3)) ∧
      ∀ l : Cel, l.Fits → TrIn c o (trBehind c f l) ∧ trRem c (trBehind c f l) + 1 ≤ trRem c f) := by
  obtain ⟨h1, h2, h3, h4⟩ := h.facts
  have bM := trM_bounds h.fits h4
  have bD := trD_bounds h.fits h4
  have gM := great_le h bM.2
  have gD := great_le h bD.2
  have g1 : (1 : Int) < 2 ^ c.bits.toNat * 2 := by have : (0 : Int) < 2 ^ c.bits.toNat := Int.pow_pos (by decide); omega
  have yes : ∀ l : Cel, TrBeh c f (trBehind c f l) → TrIn c o (trBehind c f l) ∧ trRem c (trBehind c f l) + 1 ≤ trRem c f := fun l hb =>
    ⟨tr_new h hb.1 hb.2.1 hb.2.2.1 hb.2.2.2.1 (by have := trAfter_fits (l := l) h.fits h.err; simpa [trAfterA, h.err] using this), hb.2.2.2.2⟩
  have hh := h4.h
  rcases tr_pcs h.fits h4 with ⟨k, p | p | p⟩ | ⟨k, p | p | p | p | p | p | p⟩ | ⟨k, p | p | p | p | p⟩
  · refine .inr ⟨by simp [trStep, p], by simp [trStep, p, k]; exact bD.1, by simp [trStep, p, k]; exact gD, .inl (by simp [trStep, p]), fun l _ => yes l (tr_behind3 l k p h.n (by simp [trMost, k] at hh; exact hh))⟩
  · exact .inl (by simp [trStep, p])
  · exact .inl (by simp [trStep, p])
  · refine .inr ⟨by simp [trStep, p], by simp [trStep, p, k]; exact bM.1, by simp [trStep, p, k]; exact gM, .inl (by simp [trStep, p]), fun l _ => yes l (tr_behind12 l (.inl k) (.inl p) h.fits h.n (by simp [trMost, k] at hh; exact hh))⟩
  · refine .inr ⟨by simp [trStep, p], by simp [trStep, p], by simp [trStep, p]; exact g1, .inl (by simp [trStep, p]), fun l _ => yes l (tr_behind12 l (.inl k) (.inr (.inl ⟨p, k⟩)) h.fits h.n (by simp [trMost, k] at hh; exact hh))⟩
  · refine .inr ⟨by simp [trStep, p], by simp [trStep, p]; exact bD.1, by simp [trStep, p]; exact gD, .inl (by simp [trStep, p]), fun l _ => yes l (tr_behind12 l (.inl k) (.inr (.inr (.inl p))) h.fits h.n (by simp [trMost, k] at hh; exact hh))⟩
  · refine .inr ⟨by simp [trStep, p], by simp [trStep, p]; exact bD.1, by simp [trStep, p]; exact gD, .inr ⟨by simp [trStep, p], by rw [← h.kind, k]; decide⟩, fun l _ => yes l (tr_behind12 l (.inl k) (.inr (.inr (.inr (.inl p)))) h.fits h.n (by simp [trMost, k] at hh; exact hh))⟩
  · refine .inr ⟨by simp [trStep, p], by simp [trStep, p]; exact bM.1, by simp [trStep, p]; exact gM, .inr ⟨by simp [trStep, p], by rw [← h.kind, k]; decide⟩, fun l _ => yes l (tr_behind12 l (.inl k) (.inr (.inr (.inr (.inr ⟨p, k⟩)))) h.fits h.n (by simp [trMost, k] at hh; exact hh))⟩
  · exact .inl (by simp [trStep, p])
  · exact .inl (by simp [trStep, p])
  · refine .inr ⟨by simp [trStep, p], by simp [trStep, p, k]; exact bM.1, by simp [trStep, p, k]; exact gM, .inl (by simp [trStep, p]), fun l _ => yes l (tr_behind12 l (.inr k) (.inl p) h.fits h.n (by simp [trMost, k] at hh; exact hh))⟩
  · refine .inr ⟨by simp [trStep, p], by simp [trStep, p]; exact bD.1, by simp [trStep, p]; exact gD, .inl (by simp [trStep, p]), fun l _ => yes l (tr_behind12 l (.inr k) (.inr (.inr (.inl p))) h.fits h.n (by simp [trMost, k] at hh; exact hh))⟩
  · refine .inr ⟨by simp [trStep, p], by simp [trStep, p]; exact bD.1, by simp [trStep, p]; exact gD, .inr ⟨by simp [trStep, p], by rw [← h.kind, k]; decide⟩, fun l _ => yes l (tr_behind12 l (.inr k) (.inr (.inr (.inr (.inl p)))) h.fits h.n (by simp [trMost, k] at hh; exact hh))⟩
  · exact .inl (by simp [trStep, p])
  · exact .inl (by simp [trStep, p])
theorem tr_start {c : Cfg} {o : Opn} (ho : o.Fits) (he : trErr c (startF o) = 0) : TrIn c o (startF o) ∧ trRem c (startF o) ≤ (if o.kind = 3 then c.bits + 1 else 2 * (c.bits + 1) + 2) := by
  have h : TrIn c o (startF o) := ⟨he, startF_fits ho, rfl, rfl, rfl, rfl, by simp [startF]⟩
  refine ⟨h, ?_⟩
  have hm := most_bits h
  by_cases k : o.kind = 3
  · simp [trRem, startF, k]
  · have : trMost c (startF o) = o.b := by simp [trMost, startF, k]
    simp [trRem, startF, k]
    omega
theorem TrIn.small {c : Cfg} {o : Opn} {f : Frm} (h : TrIn c o f) : f.kind ≤ 15 ∧ f.pc ≤ 31 ∧ f.i ≤ 127 ∧ f.j ≤ 127 ∧ f.n ≤ 63 ∧ f.p ≤ 63 ∧ f.h ≤ 7 := by
  obtain ⟨h1, h2, h3, h4⟩ := h.facts
  have hk := h4.kind
  have hm := h4.most
  have hh := h4.h
  have hi := h.i
  have hj := h.j
  have hp := h.p
  have hn := h.n
  have hpc := tr_pcs h.fits h4
  refine ⟨by omega, by omega, by omega, by omega, by omega, by omega, by omega⟩
theorem tr_rem {c : Cfg} {o : Opn} {f : Frm} (h : TrIn c o f) : 0 ≤ trRem c f := by
  obtain ⟨h1, h2, h3, h4⟩ := h.facts
  have hm := most_bits h
  have hh := h4.h
  have hb := h.fits.b
  unfold trRem
  split
  · rename_i k
    have : trMost c f = c.bits := by simp [trMost, k]
    split <;> omega
  · rename_i k
    have : trMost c f = f.b := by simp [trMost, k]
    repeat' split
    all_goals omega
end Go.Proofs.YtpaplhkjaniafaaDoor
