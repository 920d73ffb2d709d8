/- Plain: a program of a table of routes is done within so many acts, whatever it reads; no program in sight. -/
import Derived.Test.YtpaplhkjaniafaaDoorTrD
import Derived.Test.YtpaplhkjaniafaaDoorA5
import Derived.Test.YtpaplhkjaniafaaDoorT0
namespace Go.Proofs.YtpaplhkjaniafaaDoor
open Go Go.RowKit
set_option maxRecDepth 100000
set_option maxHeartbeats 8000000

/-- What the steps leave alone. -/
structure SameT (f g : Frm) : Prop where
  kind : g.kind = f.kind
  a : g.a = f.a
  b : g.b = f.b
  y : g.y = f.y
  i : g.i = f.i
  j : g.j = f.j
  p : g.p = f.p
theorem SameT.op {f g : Frm} (h : SameT f g) : trOp g = trOp f := by
  unfold trOp
  rw [h.kind, h.a, h.b, h.y]
theorem SameT.most {f g : Frm} (h : SameT f g) (c : Cfg) : trMost c g = trMost c f := by
  unfold trMost
  rw [h.kind, h.b]
/-- A frame of an operation that goes on. -/
structure TrIn (c : Cfg) (o : Opn) (f : Frm) : Prop where
  err : trErr c f = 0
  fits : f.Fits
  kind : f.kind = o.kind
  i : f.i = 0
  j : f.j = 0
  p : f.p = 0
  n : f.n ≤ 63
/-- How many acts there may be yet. -/
def trRem (c : Cfg) (f : Frm) : Int :=
  if f.kind = 3 then (if f.pc = 0 then c.bits - f.h + 1 else 0)
  else if f.pc = 0 then 2 * f.b + 4 else if f.pc = 1 then 2 * f.b + 3 else if f.pc = 2 then 2 * (f.b - f.h) + 2 else if f.pc = 3 then 2 * (f.b - f.h) + 1 else if f.pc = 5 then 1 else 0
theorem TrIn.facts {c : Cfg} {o : Opn} {f : Frm} (h : TrIn c o f) : partOk c = true ∧ c.object = 1 ∧ trMay c f = true ∧ TrFacts c f := by
  obtain ⟨h1, h2, h3⟩ := trErr_ok h.err
  exact ⟨h1, h2, h3, trMay_facts h.fits h2 h3⟩
theorem tr_pcs {c : Cfg} {f : Frm} (hf : f.Fits) (h : TrFacts c f) : (f.kind = 3 ∧ (f.pc = 0 ∨ f.pc = 6 ∨ f.pc = 8)) ∨ (f.kind = 1 ∧ (f.pc = 0 ∨ f.pc = 1 ∨ f.pc = 2 ∨ f.pc = 3 ∨ f.pc = 5 ∨ f.pc = 6 ∨ f.pc = 7)) ∨ (f.kind = 2 ∧ (f.pc = 0 ∨ f.pc = 2 ∨ f.pc = 3 ∨ f.pc = 6 ∨ f.pc = 8)) := by
  have ht := h.there
  have hp := hf.pc
  rcases h.kind with k | k | k
  · simp [trThere, k] at ht
    omega
  · simp [trThere, k] at ht
    omega
  · simp [trThere, k] at ht
    omega
theorem tr_new {c : Cfg} {o : Opn} {f g : Frm} (h : TrIn c o f) (hs : SameT f g) (hp : trThere f.kind g.pc = true) (hh : g.h ≤ trMost c f) (hn : g.n ≤ 63) (hg : g.Fits) : TrIn c o g := by
  obtain ⟨h1, h2, h3, h4⟩ := h.facts
  refine ⟨trErr_yes h1 (by simp [h2]) ?_, hg, hs.kind.trans h.kind, hs.i.trans h.i, hs.j.trans h.j, hs.p.trans h.p, hn⟩
  simp [trMay] at h3
  simp [trMay, hs.op, hs.most c, hs.kind, h3.1.1, hp, hh]
/-- What a step does to a frame. -/
def TrBeh (c : Cfg) (f g : Frm) : Prop := SameT f g ∧ trThere f.kind g.pc = true ∧ g.h ≤ trMost c f ∧ g.n ≤ 63 ∧ trRem c g + 1 ≤ trRem c f
theorem tr_looked {c : Cfg} {f g : Frm} (own : Int) (l : Cel) (hs : SameT f g) (k : f.kind = 3) (h0 : f.pc = 0) (hp : g.pc = 0) (hgh : g.h = f.h) (hgn : g.n ≤ 63) (hh : f.h ≤ c.bits) : TrBeh c f (trLooked c g own l) := by
  have hm : trMost c f = c.bits := by simp [trMost, k]
  have hr : trRem c f = c.bits - f.h + 1 := by simp [trRem, k, h0]
  have hk := hs.kind
  unfold trLooked
  split
  · rename_i hlt
    refine ⟨⟨hs.kind, hs.a, hs.b, hs.y, hs.i, hs.j, hs.p⟩, by simp [trThere, k, hp], by show g.h + 1 ≤ _; omega, hgn, ?_⟩
    rw [hr]
    simp [trRem, hk, k, hp]
    omega
  · split
    · refine ⟨⟨hs.kind, hs.a, hs.b, hs.y, hs.i, hs.j, hs.p⟩, by simp [trThere, k], by show g.h ≤ _; omega, hgn, ?_⟩
      rw [hr]
      simp [trRem, hk, k]
      omega
    · refine ⟨⟨hs.kind, hs.a, hs.b, hs.y, hs.i, hs.j, hs.p⟩, by simp [trThere, k], by show g.h ≤ _; omega, hgn, ?_⟩
      rw [hr]
      simp [trRem, hk, k]
      omega
theorem tr_behind3 {c : Cfg} {f : Frm} (l : Cel) (k : f.kind = 3) (h0 : f.pc = 0) (hn : f.n ≤ 63) (hh : f.h ≤ c.bits) : TrBeh c f (trBehind c f l) := by
  have e3 : (f.kind == 3) = true := by simp [k]
  have e0 : (f.pc == 0) = true := by simp [h0]
  unfold trBehind trLook
  simp only [e3, e0, if_true]
  split
  · exact tr_looked 0 l ⟨rfl, rfl, rfl, rfl, rfl, rfl, rfl⟩ k h0 h0 rfl hn hh
  · exact tr_looked 1 l ⟨rfl, rfl, rfl, rfl, rfl, rfl, rfl⟩ k h0 h0 rfl hn hh
theorem tr_behind12 {c : Cfg} {f : Frm} (l : Cel) (k : f.kind = 1 ∨ f.kind = 2) (hp : f.pc = 0 ∨ (f.pc = 1 ∧ f.kind = 1) ∨ f.pc = 2 ∨ f.pc = 3 ∨ (f.pc = 5 ∧ f.kind = 1)) (hf : f.Fits) (hn : f.n ≤ 63) (hh : f.h ≤ f.b) : TrBeh c f (trBehind c f l) := by
  have e3 : (f.kind == 3) = false := by simp; omega
  have k3 : ¬ f.kind = 3 := by omega
  have hm : trMost c f = f.b := by simp [trMost, k3]
  have hb := hf.b
  have hn2 : l.b % 64 ≤ 63 := by omega
  have hh0 := hf.h
  unfold trBehind TrBeh
  simp only [e3, Bool.false_eq_true, if_false, hm]
  rcases hp with p | ⟨p, q⟩ | p | p | ⟨p, q⟩
  · have e : (f.pc == 0) = true := by simp [p]
    simp only [e, if_true]
    rcases k with k | k
    · have e1 : (f.kind == 1) = true := by simp [k]
      simp only [e1, if_true]
      split
      · refine ⟨⟨rfl, rfl, rfl, rfl, rfl, rfl, rfl⟩, by simp [trThere, k], hh, hn2, ?_⟩
        simp [trRem, k3, p]
        omega
      · refine ⟨⟨rfl, rfl, rfl, rfl, rfl, rfl, rfl⟩, by simp [trThere, k], hh, hn2, ?_⟩
        simp [trRem, k3, p]
        omega
    · have e1 : (f.kind == 1) = false := by simp [k]
      simp only [e1, Bool.false_eq_true, if_false]
      split
      · refine ⟨⟨rfl, rfl, rfl, rfl, rfl, rfl, rfl⟩, by simp [trThere, k], hh, hn2, ?_⟩
        simp [trRem, k3, p]
        omega
      · refine ⟨⟨rfl, rfl, rfl, rfl, rfl, rfl, rfl⟩, by simp [trThere, k], hb.1, hn2, ?_⟩
        simp [trRem, k3, p]
        omega
  · simp only [p]
    simp only [show ((1 : Int) == 0) = false from rfl, show ((1 : Int) == 1) = true from rfl, Bool.false_eq_true, if_false, if_true]
    split
    · refine ⟨⟨rfl, rfl, rfl, rfl, rfl, rfl, rfl⟩, by simp [trThere, q], hb.1, hn, ?_⟩
      simp [trRem, k3, p]
      omega
    · refine ⟨⟨rfl, rfl, rfl, rfl, rfl, rfl, rfl⟩, by simp [trThere, q], hh, hn, ?_⟩
      simp [trRem, k3, p]
      omega
  · simp only [p]
    simp only [show ((2 : Int) == 0) = false from rfl, show ((2 : Int) == 1) = false from rfl, show ((2 : Int) == 2) = true from rfl, Bool.false_eq_true, if_false, if_true]
    refine ⟨⟨rfl, rfl, rfl, rfl, rfl, rfl, rfl⟩, by rcases k with k | k <;> simp [trThere, k], hh, hn2, ?_⟩
    simp [trRem, k3, p]
    omega
  · simp only [p]
    simp only [show ((3 : Int) == 0) = false from rfl, show ((3 : Int) == 1) = false from rfl, show ((3 : Int) == 2) = false from rfl, show ((3 : Int) == 3) = true from rfl, Bool.false_eq_true, if_false, if_true]
    split
    · refine ⟨⟨rfl, rfl, rfl, rfl, rfl, rfl, rfl⟩, by rcases k with k | k <;> simp [trThere, k], hh, hn, ?_⟩
      simp [trRem, k3, p]
      omega
    · rename_i hne
      have hne' : f.h ≠ f.b := by simpa using hne
      refine ⟨⟨rfl, rfl, rfl, rfl, rfl, rfl, rfl⟩, by rcases k with k | k <;> simp [trThere, k], by show f.h + 1 ≤ f.b; omega, hn, ?_⟩
      simp [trRem, k3, p]
      omega
  · simp only [p]
    simp only [show ((5 : Int) == 0) = false from rfl, show ((5 : Int) == 1) = false from rfl, show ((5 : Int) == 2) = false from rfl, show ((5 : Int) == 3) = false from rfl, show ((5 : Int) == 5) = true from rfl, Bool.false_eq_true, if_false, if_true]
    refine ⟨⟨rfl, rfl, rfl, rfl, rfl, rfl, rfl⟩, by simp [trThere, q], hh, hn, ?_⟩
    simp [trRem, k3, p]
theorem trM_bounds {c : Cfg} {f : Frm} (hf : f.Fits) (h : TrFacts c f) : 1 ≤ trM c f ∧ trM c f < 2 ^ (trMost c f).toNat * 2 := by
  have h1 := hf.a
  have h2 := h.a
  have hp : (0 : Int) < 2 ^ (trMost c f).toNat := Int.pow_pos (by decide)
  unfold trM
  omega
theorem trD_bounds {c : Cfg} {f : Frm} (hf : f.Fits) (h : TrFacts c f) : 1 ≤ trD c f ∧ trD c f < 2 ^ (trMost c f).toNat * 2 := by
  obtain ⟨h1, h2⟩ := trM_bounds hf h
  have hh := h.h
  have h0 := hf.h
  have ha := hf.a
  have hp : (0 : Int) < 2 ^ (trMost c f - f.h).toNat := Int.pow_pos (by decide)
  have hle : (2 : Int) ^ (trMost c f - f.h).toNat ≤ 2 ^ (trMost c f).toNat := by
    have : (2 : Nat) ^ (trMost c f - f.h).toNat ≤ 2 ^ (trMost c f).toNat := Nat.pow_le_pow_right (by decide) (by omega)
    exact_mod_cast this
  unfold trD
  constructor
  · have : 1 * 2 ^ (trMost c f - f.h).toNat ≤ trM c f := by unfold trM; omega
    exact (Int.le_ediv_iff_mul_le hp).2 this
  · refine Int.lt_of_le_of_lt (Int.ediv_le_self _ (by omega)) h2
theorem most_bits {c : Cfg} {o : Opn} {f : Frm} (h : TrIn c o f) : trMost c f ≤ c.bits := by
  obtain ⟨h1, h2, h3, h4⟩ := h.facts
  simp [trMay] at h3
  have hft := opErr_fits h3.1.1
  simp only [trOp] at hft
  rcases h4.kind with k | k | k <;> simp [fitsB, k, prefixB, trMost] at hft ⊢
  · exact hft.2.1
  · exact hft.1
theorem great_le {c : Cfg} {o : Opn} {f : Frm} (h : TrIn c o f) {x : Int} (hx : x < 2 ^ (trMost c f).toNat * 2) : x < 2 ^ c.bits.toNat * 2 := by
  have hm := most_bits h
  have : (2 : Nat) ^ (trMost c f).toNat ≤ 2 ^ c.bits.toNat := Nat.pow_le_pow_right (by decide) (by omega)
  have : (2 : Int) ^ (trMost c f).toNat ≤ 2 ^ c.bits.toNat := by exact_mod_cast this
  omega
/-- An act of a frame: it is the last, or touches what there is, and the frame behind it goes on, with fewer acts to come. -/
theorem tr_goes {c : Cfg} {o : Opn} {f : Frm} (h : TrIn c o f) : (trStep c f).kind = 4 ∨
    ((trStep c f).kind ≠ 4 ∧ 1 ≤ (trStep c f).at' ∧ (trStep c f).at' < 2 ^ c.bits.toNat * 2 ∧ ((trStep c f).kind = 1 ∨ ((trStep c f).kind = 2 ∧ o.kind ≠ 3)) ∧
      ∀ l : Cel, l.Fits → TrIn c o (trBehind c f l) ∧ trRem c (trBehind c f l) + 1 ≤ trRem c f) := by
  obtain ⟨h1, h2, h3, h4⟩ := h.facts
  have bM := trM_bounds h.fits h4
  have bD := trD_bounds h.fits h4
  have gM := great_le h bM.2
  have gD := great_le h bD.2
  have g1 : (1 : Int) < 2 ^ c.bits.toNat * 2 := by have : (0 : Int) < 2 ^ c.bits.toNat := Int.pow_pos (by decide); omega
  have yes : ∀ l : Cel, TrBeh c f (trBehind c f l) → TrIn c o (trBehind c f l) ∧ trRem c (trBehind c f l) + 1 ≤ trRem c f := fun l hb =>
    ⟨tr_new h hb.1 hb.2.1 hb.2.2.1 hb.2.2.2.1 (by have := trAfter_fits (l := l) h.fits h.err; simpa [trAfterA, h.err] using this), hb.2.2.2.2⟩
  have hh := h4.h
  rcases tr_pcs h.fits h4 with ⟨k, p | p | p⟩ | ⟨k, p | p | p | p | p | p | p⟩ | ⟨k, p | p | p | p | p⟩
  · refine .inr ⟨by simp [trStep, p], by simp [trStep, p, k]; exact bD.1, by simp [trStep, p, k]; exact gD, .inl (by simp [trStep, p]), fun l _ => yes l (tr_behind3 l k p h.n (by simp [trMost, k] at hh; exact hh))⟩
  · exact .inl (by simp [trStep, p])
  · exact .inl (by simp [trStep, p])
  · refine .inr ⟨by simp [trStep, p], by simp [trStep, p, k]; exact bM.1, by simp [trStep, p, k]; exact gM, .inl (by simp [trStep, p]), fun l _ => yes l (tr_behind12 l (.inl k) (.inl p) h.fits h.n (by simp [trMost, k] at hh; exact hh))⟩
  · refine .inr ⟨by simp [trStep, p], by simp [trStep, p], by simp [trStep, p]; exact g1, .inl (by simp [trStep, p]), fun l _ => yes l (tr_behind12 l (.inl k) (.inr (.inl ⟨p, k⟩)) h.fits h.n (by simp [trMost, k] at hh; exact hh))⟩
  · refine .inr ⟨by simp [trStep, p], by simp [trStep, p]; exact bD.1, by simp [trStep, p]; exact gD, .inl (by simp [trStep, p]), fun l _ => yes l (tr_behind12 l (.inl k) (.inr (.inr (.inl p))) h.fits h.n (by simp [trMost, k] at hh; exact hh))⟩
  · refine .inr ⟨by simp [trStep, p], by simp [trStep, p]; exact bD.1, by simp [trStep, p]; exact gD, .inr ⟨by simp [trStep, p], by rw [← h.kind, k]; decide⟩, fun l _ => yes l (tr_behind12 l (.inl k) (.inr (.inr (.inr (.inl p)))) h.fits h.n (by simp [trMost, k] at hh; exact hh))⟩
  · refine .inr ⟨by simp [trStep, p], by simp [trStep, p]; exact bM.1, by simp [trStep, p]; exact gM, .inr ⟨by simp [trStep, p], by rw [← h.kind, k]; decide⟩, fun l _ => yes l (tr_behind12 l (.inl k) (.inr (.inr (.inr (.inr ⟨p, k⟩)))) h.fits h.n (by simp [trMost, k] at hh; exact hh))⟩
  · exact .inl (by simp [trStep, p])
  · exact .inl (by simp [trStep, p])
  · refine .inr ⟨by simp [trStep, p], by simp [trStep, p, k]; exact bM.1, by simp [trStep, p, k]; exact gM, .inl (by simp [trStep, p]), fun l _ => yes l (tr_behind12 l (.inr k) (.inl p) h.fits h.n (by simp [trMost, k] at hh; exact hh))⟩
  · refine .inr ⟨by simp [trStep, p], by simp [trStep, p]; exact bD.1, by simp [trStep, p]; exact gD, .inl (by simp [trStep, p]), fun l _ => yes l (tr_behind12 l (.inr k) (.inr (.inr (.inl p))) h.fits h.n (by simp [trMost, k] at hh; exact hh))⟩
  · refine .inr ⟨by simp [trStep, p], by simp [trStep, p]; exact bD.1, by simp [trStep, p]; exact gD, .inr ⟨by simp [trStep, p], by rw [← h.kind, k]; decide⟩, fun l _ => yes l (tr_behind12 l (.inr k) (.inr (.inr (.inr (.inl p)))) h.fits h.n (by simp [trMost, k] at hh; exact hh))⟩
  · exact .inl (by simp [trStep, p])
  · exact .inl (by simp [trStep, p])
theorem tr_start {c : Cfg} {o : Opn} (ho : o.Fits) (he : trErr c (startF o) = 0) : TrIn c o (startF o) ∧ trRem c (startF o) ≤ (if o.kind = 3 then c.bits + 1 else 2 * (c.bits + 1) + 2) := by
  have h : TrIn c o (startF o) := ⟨he, startF_fits ho, rfl, rfl, rfl, rfl, by simp [startF]⟩
  refine ⟨h, ?_⟩
  have hm := most_bits h
  by_cases k : o.kind = 3
  · simp [trRem, startF, k]
  · have : trMost c (startF o) = o.b := by simp [trMost, startF, k]
    simp [trRem, startF, k]
    omega
theorem TrIn.small {c : Cfg} {o : Opn} {f : Frm} (h : TrIn c o f) : f.kind ≤ 15 ∧ f.pc ≤ 31 ∧ f.i ≤ 127 ∧ f.j ≤ 127 ∧ f.n ≤ 63 ∧ f.p ≤ 63 ∧ f.h ≤ 7 := by
  obtain ⟨h1, h2, h3, h4⟩ := h.facts
  have hk := h4.kind
  have hm := h4.most
  have hh := h4.h
  have hi := h.i
  have hj := h.j
  have hp := h.p
  have hn := h.n
  have hpc := tr_pcs h.fits h4
  refine ⟨by omega, by omega, by omega, by omega, by omega, by omega, by omega⟩
theorem tr_rem {c : Cfg} {o : Opn} {f : Frm} (h : TrIn c o f) : 0 ≤ trRem c f := by
  obtain ⟨h1, h2, h3, h4⟩ := h.facts
  have hm := most_bits h
  have hh := h4.h
  have hb := h.fits.b
  unfold trRem
  split
  · rename_i k
    have : trMost c f = c.bits := by simp [trMost, k]
    split <;> omega
  · rename_i k
    have : trMost c f = f.b := by simp [trMost, k]
    repeat' split
    all_goals omega
end Go.Proofs.YtpaplhkjaniafaaDoor
/- Plain: the nodes of a table of routes as rows, and how many there are below each; no program in sight. -/
namespace Go.Proofs.YtpaplhkjaniafaaDoor
open Go Go.RowKit
set_option maxRecDepth 100000
set_option maxHeartbeats 8000000

abbrev zcl : Cel := ⟨0, 0, 0, 0⟩
/-- The value that a cell holds. -/
def fC (x : Option Cel) : Option Int := match x with | some x => if x.a == 0 then none else some (x.a - 1) | none => none
def rowsT : List Cel → Nat → List Rw
  | [], _ => []
  | x :: L, i => if x.a == 0 then rowsT L (i + 1) else ⟨i, x.a - 1⟩ :: rowsT L (i + 1)
def rowsN (L : List Cel) : List Rw := rowsT (L.drop 1) 1
theorem rowsT_lo {L : List Cel} : ∀ {i : Nat} {x : Rw}, x ∈ rowsT L i → (i : Int) ≤ x.k := by
  induction L with
  | nil => intro i x h; cases h
  | cons y L ih =>
    intro i x h
    unfold rowsT at h
    split at h
    · have := ih h
      omega
    · rcases List.mem_cons.1 h with rfl | h
      · exact Int.le_refl _
      · have := ih h
        omega
theorem rises_rowsT (L : List Cel) : ∀ i : Nat, Rises (rowsT L i) := by
  induction L with
  | nil => intro i; exact List.Pairwise.nil
  | cons y L ih =>
    intro i
    unfold rowsT
    split
    · exact ih (i + 1)
    · refine List.pairwise_cons.2 ⟨fun x hx => ?_, ih (i + 1)⟩
      have := rowsT_lo hx
      show (i : Int) < x.k
      omega
theorem look_rowsT (L : List Cel) : ∀ (i k : Nat), look (rowsT L i) (k : Int) = if i ≤ k then fC L[k - i]? else none := by
  induction L with
  | nil => intro i k; split <;> rfl
  | cons y L ih =>
    intro i k
    have hi := ih (i + 1) k
    unfold rowsT
    by_cases ha : (y.a == 0) = true
    · rw [if_pos ha, hi]
      by_cases h : i = k
      · subst h
        rw [if_neg (by omega), if_pos (Nat.le_refl _)]
        simp [fC, ha]
      · by_cases h2 : i ≤ k
        · have e : k - i = (k - (i + 1)) + 1 := by omega
          rw [if_pos h2, if_pos (by omega), e, List.getElem?_cons_succ]
        · rw [if_neg h2, if_neg (by omega)]
    · rw [if_neg ha, look_cons]
      by_cases h : i = k
      · subst h
        simp [fC, ha]
      · have hf : ((i : Int) == (k : Int)) = false := by simp; omega
        simp only [hf, Bool.false_eq_true, if_false]
        rw [hi]
        by_cases h2 : i ≤ k
        · have e : k - i = (k - (i + 1)) + 1 := by omega
          rw [if_pos h2, if_pos (by omega), e, List.getElem?_cons_succ]
        · rw [if_neg h2, if_neg (by omega)]
theorem look_rowsN (L : List Cel) (k : Nat) : look (rowsN L) (k : Int) = if 1 ≤ k then fC L[k]? else none := by
  unfold rowsN
  rw [look_rowsT]
  by_cases h : 1 ≤ k
  · rw [if_pos h, if_pos h, List.getElem?_drop, show 1 + (k - 1) = k by omega]
  · rw [if_neg h, if_neg h]
theorem look_neg (L : List Cel) {k : Int} (h : k < 1) : look (rowsN L) k = none := look_of_lt fun x hx => by
  have := rowsT_lo hx
  omega
theorem rises_rowsN (L : List Cel) : Rises (rowsN L) := rises_rowsT _ _
theorem rowsN_with {L L' : List Cel} {n : Nat} {v : Int} (hn : 1 ≤ n) (h : ∀ k : Nat, 1 ≤ k → fC L'[k]? = if k = n then some v else fC L[k]?) : rowsN L' = withK n v (rowsN L) := by
  refine rows_ext (rises_rowsN _) (rises_withK _ _ (rises_rowsN _)) fun k => ?_
  rw [look_withK _ _ (rises_rowsN _)]
  by_cases hk : k < 1
  · rw [look_neg _ hk, look_neg _ hk, if_neg (by omega)]
  · obtain ⟨m, rfl⟩ := Int.eq_ofNat_of_zero_le (by omega : 0 ≤ k)
    have hm : 1 ≤ m := by omega
    rw [look_rowsN, look_rowsN, if_pos hm, if_pos hm, h m hm]
    by_cases e : m = n
    · subst e
      simp
    · rw [if_neg e, if_neg (by omega)]
theorem rowsN_without {L L' : List Cel} {n : Nat} (hn : 1 ≤ n) (h : ∀ k : Nat, 1 ≤ k → fC L'[k]? = if k = n then none else fC L[k]?) : rowsN L' = withoutK n (rowsN L) := by
  refine rows_ext (rises_rowsN _) (rises_withoutK _ (rises_rowsN _)) fun k => ?_
  rw [look_withoutK]
  by_cases hk : k < 1
  · rw [look_neg _ hk, look_neg _ hk]
    simp
  · obtain ⟨m, rfl⟩ := Int.eq_ofNat_of_zero_le (by omega : 0 ≤ k)
    have hm : 1 ≤ m := by omega
    rw [look_rowsN, look_rowsN, if_pos hm, if_pos hm, h m hm]
    by_cases e : m = n
    · subst e
      simp
    · rw [if_neg e, if_neg (by omega)]
theorem len_rowsT (L : List Cel) : ∀ i : Nat, (rowsT L i).length = L.countP (fun x => !(x.a == 0)) := by
  induction L with
  | nil => intro i; rfl
  | cons y L ih =>
    intro i
    unfold rowsT
    rw [List.countP_cons]
    by_cases ha : (y.a == 0) = true
    · rw [if_pos ha, ih]
      simp [ha]
    · rw [if_neg ha, List.length_cons, ih]
      simp [ha]

/-- Up from a node, as long as it is above another in number. -/
def upTo (n : Nat) : Nat → Nat → Nat
  | 0, k => k
  | f + 1, k => if n < k then upTo n f (k / 2) else k
theorem upTo_some (n f : Nat) : ∀ k, ∃ i, upTo n f k = k / 2 ^ i := by
  induction f with
  | zero => intro k; exact ⟨0, by simp [upTo]⟩
  | succ f ih =>
    intro k
    unfold upTo
    split
    · obtain ⟨i, hi⟩ := ih (k / 2)
      exact ⟨i + 1, by rw [hi, Nat.div_div_eq_div_mul, Nat.pow_succ, Nat.mul_comm]⟩
    · exact ⟨0, by simp⟩
theorem upTo_eq (n f : Nat) : ∀ k j, j ≤ f → k / 2 ^ j = n → upTo n f k = n := by
  induction f with
  | zero =>
    intro k j hj h
    obtain rfl : j = 0 := by omega
    simpa [upTo] using h
  | succ f ih =>
    intro k j hj h
    unfold upTo
    split
    · rename_i hlt
      cases j with
      | zero => simp at h; omega
      | succ j => exact ih (k / 2) j (by omega) (by rw [Nat.div_div_eq_div_mul, Nat.mul_comm, ← Nat.pow_succ]; exact h)
    · rename_i hge
      have : k / 2 ^ j ≤ k := Nat.div_le_self _ _
      omega
/-- Does a node lie below another, or is it that? -/
def underB (n k : Nat) : Bool := upTo n 8 k == n
theorem under_iff {n k : Nat} (hn : 1 ≤ n) (hk : k < 256) : underB n k = true ↔ ∃ j, k / 2 ^ j = n := by
  unfold underB
  rw [beq_iff_eq]
  constructor
  · intro h
    obtain ⟨i, hi⟩ := upTo_some n 8 k
    exact ⟨i, hi.symm.trans h⟩
  · rintro ⟨j, hj⟩
    refine upTo_eq n 8 k j ?_ hj
    rcases Nat.lt_or_ge 8 j with h | h
    · have h1 : 2 ^ 8 ≤ 2 ^ j := Nat.pow_le_pow_right (by decide) (by omega)
      have : k / 2 ^ j = 0 := Nat.div_eq_of_lt (by omega)
      omega
    · exact h
def hasN (L : List Cel) (k : Nat) : Bool := !((L.getD k zcl).a == 0)
/-- How many routes there are at a node, and below it. -/
def cntN (L : List Cel) (n : Nat) : Nat := (List.range L.length).countP fun k => decide (1 ≤ k) && (underB n k && hasN L k)
theorem countP_flip {p q : Nat → Bool} {M : Nat} (h : ∀ k, k ≠ M → q k = p k) : ∀ N : Nat, (List.range N).countP q + (if M < N ∧ p M = true then 1 else 0) = (List.range N).countP p + (if M < N ∧ q M = true then 1 else 0) := by
  intro N
  induction N with
  | zero => simp
  | succ N ih =>
    rw [List.range_succ, List.countP_append, List.countP_append, List.countP_singleton, List.countP_singleton]
    by_cases e : N = M
    · subst e
      have i1 : ¬ (N < N) := by omega
      simp only [i1, false_and, if_false, Nat.add_zero] at ih
      have i2 : N < N + 1 := by omega
      simp only [i2, true_and]
      omega
    · have i3 : (M < N + 1) = (M < N) := by rw [eq_iff_iff]; omega
      simp only [i3, h N e]
      omega
theorem countP_range (p : Cel → Bool) (L : List Cel) : (List.range L.length).countP (fun k => p (L.getD k zcl)) = L.countP p := by
  induction L with
  | nil => rfl
  | cons x L ih =>
    rw [List.length_cons, List.range_succ_eq_map, List.countP_cons, List.countP_map, List.countP_cons, ← ih]
    congr 1
theorem root_under {k : Nat} (h : 1 ≤ k) (hk : k < 256) : underB 1 k = true := by
  rw [under_iff (Nat.le_refl _) hk]
  exact ⟨Nat.log2 k, by
    have h1 := Nat.log2_self_le (n := k) (by omega)
    have h2 := Nat.lt_log2_self (n := k)
    have h3 : 2 ^ (Nat.log2 k + 1) = 2 ^ Nat.log2 k * 2 := Nat.pow_succ ..
    have hp : 0 < 2 ^ Nat.log2 k := Nat.pow_pos (by decide)
    rw [Nat.div_eq_iff hp]
    omega⟩
theorem root_count {L : List Cel} (h : L.length ≤ 256) : cntN L 1 = (rowsN L).length := by
  unfold rowsN cntN
  rw [len_rowsT, ← countP_range]
  cases L with
  | nil => rfl
  | cons x L =>
    rw [List.drop_succ_cons, List.drop_zero, List.length_cons, List.range_succ_eq_map, List.countP_cons, List.countP_map]
    simp only [Nat.le_zero_eq, Nat.reduceEqDiff, decide_false, Bool.false_and, Bool.false_eq_true, if_false, Nat.add_zero]
    refine List.countP_congr fun k hk => ?_
    have hk2 : k < L.length := List.mem_range.1 hk
    simp only [List.length_cons] at h
    have hu := root_under (k := k + 1) (by omega) (by omega)
    simp [hasN, hu]
end Go.Proofs.YtpaplhkjaniafaaDoor
/- Plain: the way down to a node of a table of routes, cell by cell; no program in sight. -/
namespace Go.Proofs.YtpaplhkjaniafaaDoor
open Go Go.RowKit
set_option maxRecDepth 100000
set_option maxHeartbeats 8000000

/-- Cells that are turned one behind the other. -/
def pathUpd (g : Nat → Cel → Cel) (D : Nat → Nat) : Nat → Nat → List Cel → List Cel
  | 0, h, L => L.set (D h) (g h (L.getD (D h) zcl))
  | m + 1, h, L => pathUpd g D m (h + 1) (L.set (D h) (g h (L.getD (D h) zcl)))
theorem pathUpd_len (g : Nat → Cel → Cel) (D : Nat → Nat) (m : Nat) : ∀ h L, (pathUpd g D m h L).length = L.length := by
  induction m with
  | zero => intro h L; simp [pathUpd]
  | succ m ih => intro h L; simp [pathUpd, ih]
theorem set_get {L : List Cel} {d : Nat} {x : Cel} (k : Nat) (hd : d < L.length) : (L.set d x)[k]? = if k = d then some x else L[k]? := by
  by_cases e : k = d
  · subst e
    rw [if_pos rfl, List.getElem?_set_self hd]
  · rw [if_neg e, List.getElem?_set_ne (fun h => e h.symm)]
theorem pathUpd_other (g : Nat → Cel → Cel) (D : Nat → Nat) (m : Nat) : ∀ (h : Nat) (L : List Cel) (k : Nat), (∀ j, h ≤ j → j ≤ h + m → D j < L.length) → (∀ j, h ≤ j → j ≤ h + m → k ≠ D j) → (pathUpd g D m h L)[k]? = L[k]? := by
  induction m with
  | zero =>
    intro h L k hd hk
    rw [pathUpd, set_get k (hd h (Nat.le_refl _) (Nat.le_refl _)), if_neg (hk h (Nat.le_refl _) (Nat.le_refl _))]
  | succ m ih =>
    intro h L k hd hk
    rw [pathUpd, ih (h + 1) _ k (fun j h1 h2 => by rw [List.length_set]; exact hd j (by omega) (by omega)) (fun j h1 h2 => hk j (by omega) (by omega)),
      set_get k (hd h (Nat.le_refl _) (by omega)), if_neg (hk h (Nat.le_refl _) (by omega))]
theorem pathUpd_at (g : Nat → Cel → Cel) (D : Nat → Nat) (m : Nat) : ∀ (h : Nat) (L : List Cel) (j : Nat), (∀ j, h ≤ j → j ≤ h + m → D j < L.length) → (∀ i j, h ≤ i → i < j → j ≤ h + m → D i ≠ D j) → h ≤ j → j ≤ h + m →
    (pathUpd g D m h L)[D j]? = some (g j (L.getD (D j) zcl)) := by
  induction m with
  | zero =>
    intro h L j hd _ h1 h2
    obtain rfl : j = h := by omega
    rw [pathUpd, set_get _ (hd j (Nat.le_refl _) (Nat.le_refl _)), if_pos rfl]
  | succ m ih =>
    intro h L j hd hi h1 h2
    rw [pathUpd]
    by_cases e : j = h
    · subst e
      rw [pathUpd_other g D m (j + 1) _ (D j) (fun i h3 h4 => by rw [List.length_set]; exact hd i (by omega) (by omega)) (fun i h3 h4 => hi j i (Nat.le_refl _) (by omega) (by omega)),
        set_get _ (hd j (Nat.le_refl _) (by omega)), if_pos rfl]
    · rw [ih (h + 1) _ j (fun i h3 h4 => by rw [List.length_set]; exact hd i (by omega) (by omega)) (fun i k h3 h4 h5 => hi i k (by omega) h4 (by omega)) (by omega) (by omega)]
      have hne : D j ≠ D h := fun q => hi h j (Nat.le_refl _) (by omega) (by omega) q.symm
      rw [List.getD_eq_getElem?_getD, set_get _ (hd h (Nat.le_refl _) (by omega)), if_neg hne, ← List.getD_eq_getElem?_getD]

theorem pow_two_lt {i j : Nat} (h : i < j) : 2 ^ i * 2 ≤ 2 ^ j := by
  rw [← Nat.pow_succ]
  exact Nat.pow_le_pow_right (by decide) h
/-- The nodes on the way to a node. -/
theorem way_bd {M B h : Nat} (h1 : 2 ^ B ≤ M) (h2 : M < 2 ^ (B + 1)) (hh : h ≤ B) : 2 ^ h ≤ M / 2 ^ (B - h) ∧ M / 2 ^ (B - h) < 2 ^ (h + 1) := by
  have hp : 0 < 2 ^ (B - h) := Nat.pow_pos (by decide)
  constructor
  · rw [Nat.le_div_iff_mul_le hp, ← Nat.pow_add, show h + (B - h) = B by omega]
    exact h1
  · rw [Nat.div_lt_iff_lt_mul hp, ← Nat.pow_add, show h + 1 + (B - h) = B + 1 by omega]
    exact h2
theorem way_ne {M B i j : Nat} (h1 : 2 ^ B ≤ M) (h2 : M < 2 ^ (B + 1)) (hij : i < j) (hj : j ≤ B) : M / 2 ^ (B - i) ≠ M / 2 ^ (B - j) := by
  have a := (way_bd h1 h2 (h := i) (by omega)).2
  have b := (way_bd h1 h2 hj).1
  have c : 2 ^ (i + 1) ≤ 2 ^ j := Nat.pow_le_pow_right (by decide) hij
  omega
theorem under_way {M B n : Nat} (_h1 : 2 ^ B ≤ M) (h2 : M < 2 ^ (B + 1)) (hB : B ≤ 6) (hn : 1 ≤ n) : underB n M = true ↔ ∃ h, h ≤ B ∧ n = M / 2 ^ (B - h) := by
  have hM : M < 256 := by
    have : 2 ^ (B + 1) ≤ 2 ^ 7 := Nat.pow_le_pow_right (by decide) (by omega)
    omega
  rw [under_iff hn hM]
  constructor
  · rintro ⟨j, hj⟩
    rcases Nat.lt_or_ge B j with q | q
    · have : 2 ^ (B + 1) ≤ 2 ^ j := Nat.pow_le_pow_right (by decide) q
      have : M / 2 ^ j = 0 := Nat.div_eq_of_lt (by omega)
      omega
    · exact ⟨B - j, by omega, by rw [show B - (B - j) = j by omega]; exact hj.symm⟩
  · rintro ⟨h, _, e⟩
    exact ⟨B - h, e.symm⟩
end Go.Proofs.YtpaplhkjaniafaaDoor
/- Plain: what an operation that writes leaves of a table of routes, act by act; no program in sight. -/
namespace Go.Proofs.YtpaplhkjaniafaaDoor
open Go Go.RowKit
set_option maxRecDepth 100000
set_option maxHeartbeats 8000000

theorem inT_next {c : Cfg} {o : Opn} {f : Frm} (h : TrIn c o f) (hk : (trStep c f).kind ≠ 4) {l : Cel} (hl : l.Fits) : TrIn c o (trBehind c f l) :=
  (((tr_goes h).resolve_left hk).2.2.2.2 l hl).1
theorem readT {c : Cfg} {o : Opn} {f : Frm} {L : List Cel} (h : TrIn c o f) (hk : (trStep c f).kind = 1) (hl : (L.length : Int) = 2 ^ c.bits.toNat * 2) (k : Nat) (t : List Int) :
    trRun c (k + 1) f L t = trRun c k (trBehind c f (L.getD (trStep c f).at'.toNat zcl)) L (t ++ [(trStep c f).at']) := by
  obtain ⟨_, g1, g2, _⟩ := (tr_goes h).resolve_left (by omega)
  rw [trRun_read k L t h.err (by simp [hk]) g1 (by omega) (by simp [hk])]
  simp [trAfterA, h.err]
theorem writeT {c : Cfg} {o : Opn} {f : Frm} {L : List Cel} (h : TrIn c o f) (hk : (trStep c f).kind = 2) (hl : (L.length : Int) = 2 ^ c.bits.toNat * 2) (k : Nat) (t : List Int) :
    trRun c (k + 1) f L t = trRun c k (trBehind c f ⟨0, (trStep c f).a, (trStep c f).b, (trStep c f).c⟩) (L.set (trStep c f).at'.toNat ⟨0, (trStep c f).a, (trStep c f).b, (trStep c f).c⟩) (t ++ [(trStep c f).at']) := by
  obtain ⟨_, g1, g2, _⟩ := (tr_goes h).resolve_left (by omega)
  rw [trRun_write k L t h.err (by simp [hk]) g1 (by omega) (by simp [hk])]
  simp [trAfterA, h.err]
theorem endT {c : Cfg} {o : Opn} {f : Frm} (h : TrIn c o f) (k : Nat) (L : List Cel) (t : List Int) (p : f.pc = 6 ∨ f.pc = 7 ∨ f.pc = 8) :
    trRun c (k + 1) f L t = ⟨L, if f.pc = 6 then 0 else if f.pc = 7 then 9 else 6, if f.pc = 6 then f.x else 0, t, true⟩ := by
  rcases p with p | p | p
  all_goals
    have hs : (trStep c f).kind = 4 := by simp [trStep, p]
    rw [trRun_done k L t h.err (by simp [hs])]
    simp [trStep, p]
/-- The nodes on a frame's way. -/
def wayN (f : Frm) (j : Nat) : Nat := (2 ^ f.b.toNat + f.a.toNat) / 2 ^ (f.b.toNat - j)
theorem trD_nat {c : Cfg} {f : Frm} (hf : f.Fits) (hk : f.kind ≠ 3) (hh : f.h ≤ f.b) : trD c f = (wayN f f.h.toNat : Nat) ∧ trM c f = ((2 ^ f.b.toNat + f.a.toNat : Nat) : Int) := by
  have hm : trMost c f = f.b := by simp [trMost, hk]
  have h0 := hf.h.1
  have a0 := hf.a.1
  have e : (f.b - f.h).toNat = f.b.toNat - f.h.toNat := by omega
  have e2 : ((2 ^ f.b.toNat + f.a.toNat : Nat) : Int) = 2 ^ f.b.toNat + f.a := by
    push_cast
    omega
  refine ⟨?_, ?_⟩
  · unfold trD trM wayN
    rw [hm, e, Int.natCast_ediv, e2]
    push_cast
    rfl
  · unfold trM
    rw [hm, e2]
/-- A node on the way, turned. -/
def gT (f : Frm) (j : Nat) (l : Cel) : Cel :=
  ⟨0, if j = f.b.toNat then (if f.kind == 2 then 0 else f.y + 1) else l.a % 4294967296, if f.kind == 2 then (l.b % 64 + 63) % 64 else (l.b % 64 + 1) % 64, 0⟩
theorem wayT {c : Cfg} {o : Opn} (m : Nat) : ∀ (f : Frm) (h : Nat) (L : List Cel) (t : List Int) (fuel : Nat), TrIn c o f → f.pc = 2 → f.kind ≠ 3 → f.h = h → h + m = f.b.toNat → (∀ j, j ≤ f.b.toNat → wayN f j < L.length) → (∀ i j, i < j → j ≤ f.b.toNat → wayN f i ≠ wayN f j) → (L.length : Int) = 2 ^ c.bits.toNat * 2 → CelsFit L → 2 * m + 3 ≤ fuel →
    ∃ t', trRun c fuel f L t = ⟨pathUpd (gT f) (wayN f) m h L, 0, (L.getD (wayN f f.b.toNat) zcl).a % 4294967296, t', true⟩ := by
  induction m with
  | zero =>
    intro f h L t fuel hin p hk hh hm hd hi hl hf hfu
    obtain ⟨k, rfl⟩ : ∃ k, fuel = k + 3 := ⟨fuel - 3, by omega⟩
    have b0 := hin.fits.b.1
    have hhb : f.h = f.b := by omega
    obtain ⟨hD, _⟩ := trD_nat (c := c) hin.fits hk (by omega)
    have s1 : trStep c f = ⟨1, trD c f, 0, 0, 0, 0, 0⟩ := by simp [trStep, p]
    have hat : (trStep c f).at'.toNat = wayN f h := by rw [s1]; show (trD c f).toNat = _; rw [hD, hh, Int.toNat_natCast, Int.toNat_natCast]
    rw [readT hin (by rw [s1]) hl (k + 2) t, hat]
    obtain ⟨l, hl2⟩ : ∃ l, L.getD (wayN f h) zcl = l := ⟨_, rfl⟩
    rw [hl2]
    have hlf : l.Fits := by rw [← hl2]; exact hf.get _
    have n1 := inT_next hin (by rw [s1]; exact (by decide : (1 : Int) ≠ 4)) hlf
    have e1 : trBehind c f l = { f with x := l.a % 4294967296, n := l.b % 64, pc := 3 } := by simp [trBehind, p, hk]
    rw [e1] at n1 ⊢
    have s2 : trStep c { f with x := l.a % 4294967296, n := l.b % 64, pc := 3 } = ⟨2, trD c f, (gT f h l).a, (gT f h l).b, 0, 0, 0⟩ := by
      have e : f.b.toNat = h := by omega
      simp [trStep, gT, hhb, e]
      simp [trD, trM, trMost, hhb]
    have hat2 : (trStep c { f with x := l.a % 4294967296, n := l.b % 64, pc := 3 }).at'.toNat = wayN f h := by rw [s2, ← hat, s1]
    have hcel : Cel.mk 0 (trStep c { f with x := l.a % 4294967296, n := l.b % 64, pc := 3 }).a (trStep c { f with x := l.a % 4294967296, n := l.b % 64, pc := 3 }).b (trStep c { f with x := l.a % 4294967296, n := l.b % 64, pc := 3 }).c = gT f h l := by rw [s2]; rfl
    rw [writeT n1 (by rw [s2]) hl (k + 1), hcel, hat2]
    have n2 := inT_next n1 (by rw [s2]; exact (by decide : (2 : Int) ≠ 4)) (trStep_fits (c := c) n1.fits)
    rw [hcel] at n2
    have e2 : trBehind c { f with x := l.a % 4294967296, n := l.b % 64, pc := 3 } (gT f h l) = { f with x := l.a % 4294967296, n := l.b % 64, pc := 6 } := by simp [trBehind, hk, hhb]
    rw [e2] at n2 ⊢
    rw [endT n2 k _ _ (.inl rfl)]
    have e3 : f.b.toNat = h := by omega
    have e4 : pathUpd (gT f) (wayN f) 0 h L = L.set (wayN f h) (gT f h l) := by simp only [pathUpd, hl2]
    rw [e4, e3, hl2]
    exact ⟨_, rfl⟩
  | succ m ih =>
    intro f h L t fuel hin p hk hh hm hd hi hl hf hfu
    obtain ⟨k, rfl⟩ : ∃ k, fuel = k + 2 := ⟨fuel - 2, by omega⟩
    have b0 := hin.fits.b.1
    have hhb : f.h ≠ f.b := by omega
    obtain ⟨hD, _⟩ := trD_nat (c := c) hin.fits hk (by omega)
    have s1 : trStep c f = ⟨1, trD c f, 0, 0, 0, 0, 0⟩ := by simp [trStep, p]
    have hat : (trStep c f).at'.toNat = wayN f h := by rw [s1]; show (trD c f).toNat = _; rw [hD, hh, Int.toNat_natCast, Int.toNat_natCast]
    rw [readT hin (by rw [s1]) hl (k + 1) t, hat]
    obtain ⟨l, hl2⟩ : ∃ l, L.getD (wayN f h) zcl = l := ⟨_, rfl⟩
    rw [hl2]
    have hlf : l.Fits := by rw [← hl2]; exact hf.get _
    have n1 := inT_next hin (by rw [s1]; exact (by decide : (1 : Int) ≠ 4)) hlf
    have e1 : trBehind c f l = { f with x := l.a % 4294967296, n := l.b % 64, pc := 3 } := by simp [trBehind, p, hk]
    rw [e1] at n1 ⊢
    have s2 : trStep c { f with x := l.a % 4294967296, n := l.b % 64, pc := 3 } = ⟨2, trD c f, (gT f h l).a, (gT f h l).b, 0, 0, 0⟩ := by
      have e : ¬ h = f.b.toNat := by omega
      simp [trStep, gT, hhb, e]
      rfl
    have hat2 : (trStep c { f with x := l.a % 4294967296, n := l.b % 64, pc := 3 }).at'.toNat = wayN f h := by rw [s2, ← hat, s1]
    have hcel : Cel.mk 0 (trStep c { f with x := l.a % 4294967296, n := l.b % 64, pc := 3 }).a (trStep c { f with x := l.a % 4294967296, n := l.b % 64, pc := 3 }).b (trStep c { f with x := l.a % 4294967296, n := l.b % 64, pc := 3 }).c = gT f h l := by rw [s2]; rfl
    rw [writeT n1 (by rw [s2]) hl k, hcel, hat2]
    have hgf : (gT f h l).Fits := by rw [← hcel]; exact trStep_fits (c := c) n1.fits
    have n2 := inT_next n1 (by rw [s2]; exact (by decide : (2 : Int) ≠ 4)) hgf
    have e2 : trBehind c { f with x := l.a % 4294967296, n := l.b % 64, pc := 3 } (gT f h l) = { f with x := l.a % 4294967296, n := l.b % 64, pc := 2, h := f.h + 1 } := by simp [trBehind, hk, hhb]
    rw [e2] at n2 ⊢
    obtain ⟨t', ht⟩ := ih _ (h + 1) (L.set (wayN f h) (gT f h l)) _ k n2 rfl hk (by dsimp only; omega) (by dsimp only; omega) (fun j hj => by rw [List.length_set]; exact hd j hj) hi (by rw [List.length_set]; exact hl) (hf.set _ hgf) (by omega)
    refine ⟨t', ?_⟩
    rw [ht]
    have hne : wayN f f.b.toNat ≠ wayN f h := fun q => hi h f.b.toNat (by omega) (Nat.le_refl _) q.symm
    have e4 : (L.set (wayN f h) (gT f h l)).getD (wayN f f.b.toNat) zcl = L.getD (wayN f f.b.toNat) zcl := by
      rw [List.getD_eq_getElem?_getD, set_get _ (hd h (by omega)), if_neg hne, ← List.getD_eq_getElem?_getD]
    show OutB.mk _ _ _ _ _ = _
    have e5 : pathUpd (gT f) (wayN f) (m + 1) h L = pathUpd (gT f) (wayN f) m (h + 1) (L.set (wayN f h) (gT f h l)) := by rw [pathUpd, hl2]
    rw [e5, ← e4]
    rfl
end Go.Proofs.YtpaplhkjaniafaaDoor
/- Plain: done alone, an operation that writes leaves of a table of routes, and answers, what the model says; no program in sight. -/
namespace Go.Proofs.YtpaplhkjaniafaaDoor
open Go Go.RowKit
set_option maxRecDepth 100000
set_option maxHeartbeats 8000000

/-- Cells of a table of routes. -/
structure TrOk (c : Cfg) (L : List Cel) : Prop where
  len : (L.length : Int) = 2 ^ c.bits.toNat * 2
  fit : CelsFit L
  val : ∀ x ∈ L, x.a ≤ 2147483648
  cc : ∀ n (h : n < L.length), 1 ≤ n → L[n].c = 0
  cnt : ∀ n (h : n < L.length), 1 ≤ n → L[n].b = cntN L n
theorem cnt_le {L : List Cel} (hl : L.length ≤ 256) (n : Nat) : cntN L n ≤ (rowsN L).length := by
  rw [← root_count hl]
  unfold cntN
  refine List.countP_mono_left fun k hk h => ?_
  simp only [Bool.and_eq_true, decide_eq_true_eq] at h ⊢
  exact ⟨h.1, root_under h.1 (by have := List.mem_range.1 hk; omega), h.2.2⟩
theorem bits_len {c : Cfg} {L : List Cel} (hb : 1 ≤ c.bits ∧ c.bits ≤ 6) (h : (L.length : Int) = 2 ^ c.bits.toNat * 2) : L.length = 2 ^ (c.bits.toNat + 1) ∧ L.length ≤ 128 := by
  have e : L.length = 2 ^ (c.bits.toNat + 1) := by
    have : ((2 ^ (c.bits.toNat + 1) : Nat) : Int) = 2 ^ c.bits.toNat * 2 := by push_cast; rw [Int.pow_succ]
    omega
  refine ⟨e, ?_⟩
  rw [e]
  have : 2 ^ (c.bits.toNat + 1) ≤ 2 ^ 7 := Nat.pow_le_pow_right (by decide) (by omega)
  omega
theorem get_of {L : List Cel} {k : Nat} (h : k < L.length) : L[k]? = some L[k] ∧ L.getD k zcl = L[k] := by simp [h]
/-- Where only the cells on the way to a node are turned, and its own route is put in, or out. -/
theorem cnt_flip {L L' : List Cel} {M : Nat} (hl : L'.length = L.length) (hM : 1 ≤ M ∧ M < L.length) (hh : ∀ k, k ≠ M → hasN L' k = hasN L k) (n : Nat) :
    cntN L' n + (if underB n M && hasN L M then 1 else 0) = cntN L n + (if underB n M && hasN L' M then 1 else 0) := by
  have := countP_flip (p := fun k => decide (1 ≤ k) && (underB n k && hasN L k)) (q := fun k => decide (1 ≤ k) && (underB n k && hasN L' k)) (M := M) (fun k hk => by rw [hh k hk]) L.length
  have h1 : decide (1 ≤ M) = true := decide_eq_true hM.1
  simp only [hM.2, true_and, h1, Bool.true_and] at this
  unfold cntN
  rw [hl]
  exact this
/-- The cells behind the way down. -/
theorem way_ok {c : Cfg} {f : Frm} {L : List Cel} (hL : TrOk c L) (hb : 1 ≤ c.bits ∧ c.bits ≤ 6) (hf : f.Fits) (hk : f.kind = 1 ∨ f.kind = 2) (hB : f.b ≤ c.bits) (ha : f.a < 2 ^ f.b.toNat) (hy : f.y ≤ 2147483647) (hcap : (rowsN L).length ≤ 32)
    (hM : hasN L (2 ^ f.b.toNat + f.a.toNat) = (f.kind == 2)) (hfull : f.kind = 1 → (rowsN L).length ≤ 31) :
    TrOk c (pathUpd (gT f) (wayN f) f.b.toNat 0 L) ∧ (f.kind = 1 → rowsN (pathUpd (gT f) (wayN f) f.b.toNat 0 L) = withK ((2 ^ f.b.toNat + f.a.toNat : Nat) : Int) f.y (rowsN L)) ∧ (f.kind = 2 → rowsN (pathUpd (gT f) (wayN f) f.b.toNat 0 L) = withoutK ((2 ^ f.b.toNat + f.a.toNat : Nat) : Int) (rowsN L)) ∧
      (∀ j, j ≤ f.b.toNat → wayN f j < L.length) ∧ (∀ i j, i < j → j ≤ f.b.toNat → wayN f i ≠ wayN f j) := by
  obtain ⟨hl, hl2⟩ := bits_len hb hL.len
  have b0 := hf.b.1
  have a0 := hf.a.1
  have y0 := hf.y.1
  obtain ⟨B, hBe⟩ : ∃ B, f.b.toNat = B := ⟨_, rfl⟩
  obtain ⟨M, hMe⟩ : ∃ M, 2 ^ B + f.a.toNat = M := ⟨_, rfl⟩
  have hB6 : B ≤ c.bits.toNat := by omega
  have hA : f.a.toNat < 2 ^ B := by
    have : ((2 ^ B : Nat) : Int) = 2 ^ B := by push_cast; rfl
    rw [hBe] at ha
    omega
  have hM1 : 2 ^ B ≤ M := by omega
  have hM2 : M < 2 ^ (B + 1) := by rw [Nat.pow_succ]; omega
  have hML : M < L.length := by
    have : 2 ^ (B + 1) ≤ 2 ^ (c.bits.toNat + 1) := Nat.pow_le_pow_right (by decide) (by omega)
    omega
  have hp : 0 < 2 ^ B := Nat.pow_pos (by decide)
  have hway : ∀ j, wayN f j = M / 2 ^ (B - j) := fun j => by unfold wayN; rw [hBe, hMe]
  have hd : ∀ j, j ≤ B → wayN f j < L.length := fun j hj => by
    rw [hway]
    exact Nat.lt_of_le_of_lt (Nat.div_le_self _ _) hML
  have hne : ∀ i j, i < j → j ≤ B → wayN f i ≠ wayN f j := fun i j hij hj => by rw [hway, hway]; exact way_ne hM1 hM2 hij hj
  have hwB : wayN f B = M := by rw [hway, Nat.sub_self, Nat.pow_zero, Nat.div_one]
  have hw1 : ∀ j, j ≤ B → 1 ≤ wayN f j := fun j hj => by
    rw [hway]
    have := (way_bd hM1 hM2 hj).1
    have : 0 < 2 ^ j := Nat.pow_pos (by decide)
    omega
  rw [hBe] at hM ⊢
  rw [hMe] at hM ⊢
  obtain ⟨L', hL'⟩ : ∃ L', pathUpd (gT f) (wayN f) B 0 L = L' := ⟨_, rfl⟩
  have hlen : L'.length = L.length := by rw [← hL', pathUpd_len]
  have hat : ∀ j, j ≤ B → L'[wayN f j]? = some (gT f j (L.getD (wayN f j) zcl)) := fun j hj => by
    rw [← hL']
    exact pathUpd_at _ _ B 0 L j (fun i _ h => hd i (by omega)) (fun i k _ h1 h2 => hne i k h1 (by omega)) (Nat.zero_le _) (by omega)
  have hoth : ∀ k, (∀ j, j ≤ B → k ≠ wayN f j) → L'[k]? = L[k]? := fun k hk => by
    rw [← hL']
    exact pathUpd_other _ _ B 0 L k (fun i _ h => hd i (by omega)) (fun i _ h => hk i (by omega))
  rw [hL']
  have vA : ∀ k (h : k < L.length), 0 ≤ L[k].a ∧ L[k].a % 4294967296 = L[k].a := fun k h => by
    have h1 := hL.val L[k] (List.getElem_mem h)
    have h2 := (hL.fit L[k] (List.getElem_mem h)).a.1
    omega
  have cN : ∀ n, cntN L n ≤ 32 := fun n => Nat.le_trans (cnt_le (by omega) n) hcap
  have hpw : ∀ j, j ≤ B → underB (wayN f j) M = true := fun j hj => (under_way hM1 hM2 (by omega) (hw1 j hj)).2 ⟨j, hj, hway j⟩
  have hun : ∀ n, 1 ≤ n → underB n M = true → ∃ j, j ≤ B ∧ n = wayN f j := fun n hn h => by
    obtain ⟨j, hj, e⟩ := (under_way hM1 hM2 (by omega) hn).1 h
    exact ⟨j, hj, by rw [hway]; exact e⟩
  -- what stands at each cell
  have hhas : ∀ k, k ≠ M → hasN L' k = hasN L k := fun k hkM => by
    by_cases e : ∃ j, j ≤ B ∧ k = wayN f j
    · obtain ⟨j, hj, rfl⟩ := e
      have hjB : j ≠ B := fun q => hkM (by rw [q]; exact hwB)
      have h1 := hat j hj
      have h2 := get_of (hd j hj)
      unfold hasN
      rw [List.getD_eq_getElem?_getD, h1, h2.2]
      simp only [Option.getD_some, gT, hBe, if_neg hjB]
      rw [(vA _ (hd j hj)).2]
    · unfold hasN
      rw [List.getD_eq_getElem?_getD, List.getD_eq_getElem?_getD, hoth k (fun j hj q => e ⟨j, hj, q⟩)]
  have hM' : hasN L' M = (f.kind == 1) := by
    have h1 := hat B (Nat.le_refl _)
    rw [hwB] at h1
    unfold hasN
    rw [List.getD_eq_getElem?_getD, h1]
    rcases hk with q | q
    · simp [gT, hBe, q]
      omega
    · simp [gT, hBe, q]
  have hcnt : ∀ n, cntN L' n + (if underB n M && (f.kind == 2) then 1 else 0) = cntN L n + (if underB n M && (f.kind == 1) then 1 else 0) := fun n => by
    have := cnt_flip hlen ⟨by omega, hML⟩ hhas n
    rw [hM, hM'] at this
    exact this
  have hfC : ∀ k : Nat, 1 ≤ k → k ≠ M → fC L'[k]? = fC L[k]? := fun k hk1 hkM => by
    by_cases e : ∃ j, j ≤ B ∧ k = wayN f j
    · obtain ⟨j, hj, rfl⟩ := e
      have hjB : j ≠ B := fun q => hkM (by rw [q]; exact hwB)
      have h2 := get_of (hd j hj)
      rw [hat j hj, h2.1, h2.2]
      simp only [fC, gT, hBe, if_neg hjB]
      rw [(vA _ (hd j hj)).2]
    · rw [hoth k (fun j hj q => e ⟨j, hj, q⟩)]
  have hMat := hat B (Nat.le_refl _)
  rw [hwB] at hMat
  refine ⟨⟨by rw [hlen]; exact hL.len, ?_, ?_, ?_, ?_⟩, fun q => ?_, fun q => ?_, hd, hne⟩
  · intro x hx
    obtain ⟨k, hkl, rfl⟩ := List.mem_iff_getElem.1 hx
    by_cases e : ∃ j, j ≤ B ∧ k = wayN f j
    · obtain ⟨j, hj, rfl⟩ := e
      have h1 := hat j hj
      rw [(get_of hkl).1] at h1
      have h3 : L'[wayN f j] = gT f j (L.getD (wayN f j) zcl) := by simpa using h1
      rw [h3]
      have h2 := (hL.fit.get (wayN f j))
      unfold gT
      refine ⟨by simp, ?_, ?_, by simp⟩
      · dsimp only
        split
        · split <;> omega
        · omega
      · dsimp only
        split <;> omega
    · have h1 := hoth k (fun j hj q => e ⟨j, hj, q⟩)
      rw [(get_of hkl).1, (get_of (by omega : k < L.length)).1] at h1
      have h3 : L'[k] = L[k] := by simpa using h1
      rw [h3]
      exact hL.fit _ (List.getElem_mem _)
  · intro x hx
    obtain ⟨k, hkl, rfl⟩ := List.mem_iff_getElem.1 hx
    by_cases e : ∃ j, j ≤ B ∧ k = wayN f j
    · obtain ⟨j, hj, rfl⟩ := e
      have h1 := hat j hj
      rw [(get_of hkl).1] at h1
      have h3 : L'[wayN f j] = gT f j (L.getD (wayN f j) zcl) := by simpa using h1
      rw [h3, (get_of (hd j hj)).2]
      have h4 := (vA _ (hd j hj)).2
      have h5 := hL.val _ (List.getElem_mem (hd j hj))
      unfold gT
      dsimp only
      split
      · split <;> omega
      · omega
    · have h1 := hoth k (fun j hj q => e ⟨j, hj, q⟩)
      rw [(get_of hkl).1, (get_of (by omega : k < L.length)).1] at h1
      have h3 : L'[k] = L[k] := by simpa using h1
      rw [h3]
      exact hL.val _ (List.getElem_mem _)
  · intro k hkl hk1
    by_cases e : ∃ j, j ≤ B ∧ k = wayN f j
    · obtain ⟨j, hj, rfl⟩ := e
      have h1 := hat j hj
      rw [(get_of hkl).1] at h1
      have h3 : L'[wayN f j] = gT f j (L.getD (wayN f j) zcl) := by simpa using h1
      rw [h3]
      rfl
    · have h1 := hoth k (fun j hj q => e ⟨j, hj, q⟩)
      rw [(get_of hkl).1, (get_of (by omega : k < L.length)).1] at h1
      have h3 : L'[k] = L[k] := by simpa using h1
      rw [h3]
      exact hL.cc k (by omega) hk1
  · intro k hkl hk1
    have hc := hcnt k
    have hc0 := cN k
    have hkL : k < L.length := by omega
    have hb0 := hL.cnt k hkL hk1
    by_cases e : ∃ j, j ≤ B ∧ k = wayN f j
    · obtain ⟨j, hj, rfl⟩ := e
      have h1 := hat j hj
      rw [(get_of hkl).1] at h1
      have h3 : L'[wayN f j] = gT f j (L.getD (wayN f j) zcl) := by simpa using h1
      rw [h3, (get_of (hd j hj)).2]
      rw [hpw j hj] at hc
      unfold gT
      dsimp only
      rcases hk with q | q
      · have hfl := hfull q
        have hc1 := Nat.le_trans (cnt_le (by omega : L.length ≤ 256) (wayN f j)) hfl
        simp only [q, Int.reduceBEq, Bool.and_false, Bool.and_true, Bool.false_eq_true, if_false, if_true, Nat.add_zero] at hc ⊢
        omega
      · simp only [q, Int.reduceBEq, Bool.and_false, Bool.and_true, Bool.false_eq_true, if_false, if_true, Nat.add_zero] at hc ⊢
        omega
    · have hu : underB k M = false := by
        cases u : underB k M
        · rfl
        · exact absurd (hun k hk1 u) e
      rw [hu] at hc
      simp only [Bool.false_and, Bool.false_eq_true, if_false, Nat.add_zero] at hc
      have h1 := hoth k (fun j hj q => e ⟨j, hj, q⟩)
      rw [(get_of hkl).1, (get_of hkL).1] at h1
      have h3 : L'[k] = L[k] := by simpa using h1
      rw [h3, hb0, hc]
  · refine rowsN_with (by omega) fun k hk1 => ?_
    by_cases e : k = M
    · subst e
      rw [if_pos rfl, hMat]
      have : ¬ f.y + 1 = 0 := by omega
      simp [fC, gT, hBe, q, this]
    · rw [if_neg e]
      exact hfC k hk1 e
  · refine rowsN_without (by omega) fun k hk1 => ?_
    by_cases e : k = M
    · subst e
      rw [if_pos rfl, hMat]
      simp [fC, gT, hBe, q]
    · rw [if_neg e]
      exact hfC k hk1 e
end Go.Proofs.YtpaplhkjaniafaaDoor
/- Plain: a look-up of a table of routes, node by node; no program in sight. -/
namespace Go.Proofs.YtpaplhkjaniafaaDoor
open Go Go.RowKit
set_option maxRecDepth 100000
set_option maxHeartbeats 8000000

/-- What a look-up answers: so many levels are left. -/
def lookR (L : List Cel) (D : Nat → Nat) : Nat → Nat → Int → Int
  | 0, h, x => if (L.getD (D h) zcl).a = 0 then x else (L.getD (D h) zcl).a
  | m + 1, h, x =>
    if (if (L.getD (D h) zcl).a = 0 then (0 : Int) else 1) < (L.getD (D h) zcl).b then lookR L D m (h + 1) (if (L.getD (D h) zcl).a = 0 then x else (L.getD (D h) zcl).a)
    else (if (L.getD (D h) zcl).a = 0 then x else (L.getD (D h) zcl).a)
/-- The nodes on a look-up's way. -/
def wayL (c : Cfg) (f : Frm) (j : Nat) : Nat := (2 ^ c.bits.toNat + f.a.toNat) / 2 ^ (c.bits.toNat - j)
theorem trD_look {c : Cfg} {f : Frm} (hf : f.Fits) (hk : f.kind = 3) (hb : 0 ≤ c.bits) (hh : f.h ≤ c.bits) : trD c f = (wayL c f f.h.toNat : Nat) := by
  have hm : trMost c f = c.bits := by simp [trMost, hk]
  have h0 := hf.h.1
  have a0 := hf.a.1
  have e : (c.bits - f.h).toNat = c.bits.toNat - f.h.toNat := by omega
  have e2 : ((2 ^ c.bits.toNat + f.a.toNat : Nat) : Int) = 2 ^ c.bits.toNat + f.a := by
    push_cast
    omega
  unfold trD trM wayL
  rw [hm, e, Int.natCast_ediv, e2]
  push_cast
  rfl
theorem scanT {c : Cfg} {o : Opn} {L : List Cel} (hL : TrOk c L) (hb : 1 ≤ c.bits ∧ c.bits ≤ 6) (m : Nat) : ∀ (f : Frm) (h : Nat) (t : List Int) (fuel : Nat), TrIn c o f → f.pc = 0 → f.kind = 3 → f.h = h → h + m = c.bits.toNat → (∀ j, j ≤ c.bits.toNat → wayL c f j < L.length) → m + 2 ≤ fuel →
    ∃ t', trRun c fuel f L t = ⟨L, if lookR L (wayL c f) m h f.x = 0 then 6 else 0, lookR L (wayL c f) m h f.x, t', true⟩ := by
  induction m with
  | zero =>
    intro f h t fuel hin p hk hh hm hd hfu
    obtain ⟨k, rfl⟩ : ∃ k, fuel = k + 2 := ⟨fuel - 2, by omega⟩
    have hD := trD_look (c := c) hin.fits hk (by omega) (by omega)
    have s1 : trStep c f = ⟨1, trD c f, 0, 0, 0, 0, 0⟩ := by simp [trStep, p, hk]
    have hat : (trStep c f).at'.toNat = wayL c f h := by rw [s1]; show (trD c f).toNat = _; rw [hD, hh, Int.toNat_natCast, Int.toNat_natCast]
    rw [readT hin (by rw [s1]) hL.len (k + 1) t, hat]
    have hl2 := (get_of (hd h (by omega))).2
    have hlm := List.getElem_mem (hd h (by omega))
    have hv := hL.val _ hlm
    have hv0 := (hL.fit _ hlm).a.1
    obtain ⟨l, hl⟩ : ∃ l, L.getD (wayL c f h) zcl = l := ⟨_, rfl⟩
    rw [hl] at hl2
    rw [← hl2] at hv hv0 hlm
    rw [hl]
    have n1 := inT_next hin (by rw [s1]; exact (by decide : (1 : Int) ≠ 4)) (hL.fit _ hlm)
    have hmod : l.a % 4294967296 = l.a := by omega
    have hnb : ¬ (f.h < c.bits) := by omega
    unfold lookR
    rw [hl]
    by_cases ha : l.a = 0
    · by_cases hx : f.x = 0
      · have e1 : trBehind c f l = { f with pc := 8 } := by simp [trBehind, trLook, trLooked, p, hk, ha, hnb, hx]
        rw [e1] at n1 ⊢
        rw [endT n1 k _ _ (.inr (.inr rfl))]
        exact ⟨t ++ [(trStep c f).at'], by simp [ha, hx]⟩
      · have e1 : trBehind c f l = { f with pc := 6 } := by simp [trBehind, trLook, trLooked, p, hk, ha, hnb, hx]
        rw [e1] at n1 ⊢
        rw [endT n1 k _ _ (.inl rfl)]
        exact ⟨t ++ [(trStep c f).at'], by simp [ha, hx]⟩
    · have e1 : trBehind c f l = { f with x := l.a, pc := 6 } := by simp [trBehind, trLook, trLooked, p, hk, hmod, ha, hnb]
      rw [e1] at n1 ⊢
      rw [endT n1 k _ _ (.inl rfl)]
      exact ⟨t ++ [(trStep c f).at'], by simp [ha]⟩
  | succ m ih =>
    intro f h t fuel hin p hk hh hm hd hfu
    obtain ⟨k, rfl⟩ : ∃ k, fuel = k + 2 := ⟨fuel - 2, by omega⟩
    have hD := trD_look (c := c) hin.fits hk (by omega) (by omega)
    have s1 : trStep c f = ⟨1, trD c f, 0, 0, 0, 0, 0⟩ := by simp [trStep, p, hk]
    have hat : (trStep c f).at'.toNat = wayL c f h := by rw [s1]; show (trD c f).toNat = _; rw [hD, hh, Int.toNat_natCast, Int.toNat_natCast]
    rw [readT hin (by rw [s1]) hL.len (k + 1) t, hat]
    have hl2 := (get_of (hd h (by omega))).2
    have hlm := List.getElem_mem (hd h (by omega))
    have hv := hL.val _ hlm
    have hv0 := (hL.fit _ hlm).a.1
    obtain ⟨l, hl⟩ : ∃ l, L.getD (wayL c f h) zcl = l := ⟨_, rfl⟩
    rw [hl] at hl2
    rw [← hl2] at hv hv0 hlm
    rw [hl]
    have n1 := inT_next hin (by rw [s1]; exact (by decide : (1 : Int) ≠ 4)) (hL.fit _ hlm)
    have hmod : l.a % 4294967296 = l.a := by omega
    have hnb : f.h < c.bits := by omega
    unfold lookR
    rw [hl]
    by_cases ha : l.a = 0
    · by_cases hb0 : (0 : Int) < l.b
      · have e1 : trBehind c f l = { f with h := f.h + 1 } := by simp [trBehind, trLook, trLooked, p, hk, ha, hnb, hb0]
        rw [e1] at n1 ⊢
        obtain ⟨t', ht⟩ := ih _ (h + 1) _ (k + 1) n1 p hk (by dsimp only; omega) (by omega) hd (by omega)
        refine ⟨t', ?_⟩
        rw [ht]
        simp only [ha, if_true, hb0]
        rfl
      · by_cases hx : f.x = 0
        · have e1 : trBehind c f l = { f with pc := 8 } := by simp [trBehind, trLook, trLooked, p, hk, ha, hb0, hx]
          rw [e1] at n1 ⊢
          rw [endT n1 k _ _ (.inr (.inr rfl))]
          exact ⟨t ++ [(trStep c f).at'], by simp [ha, hx, hb0]⟩
        · have e1 : trBehind c f l = { f with pc := 6 } := by simp [trBehind, trLook, trLooked, p, hk, ha, hb0, hx]
          rw [e1] at n1 ⊢
          rw [endT n1 k _ _ (.inl rfl)]
          exact ⟨t ++ [(trStep c f).at'], by simp [ha, hx, hb0]⟩
    · by_cases hb1 : (1 : Int) < l.b
      · have e1 : trBehind c f l = { f with x := l.a, h := f.h + 1 } := by simp [trBehind, trLook, trLooked, p, hk, hmod, ha, hnb, hb1]
        rw [e1] at n1 ⊢
        obtain ⟨t', ht⟩ := ih _ (h + 1) _ (k + 1) n1 p hk (by dsimp only; omega) (by omega) hd (by omega)
        refine ⟨t', ?_⟩
        rw [ht]
        simp only [ha, if_false, hb1, if_true]
        rfl
      · have e1 : trBehind c f l = { f with x := l.a, pc := 6 } := by simp [trBehind, trLook, trLooked, p, hk, hmod, ha, hb1]
        rw [e1] at n1 ⊢
        rw [endT n1 k _ _ (.inl rfl)]
        exact ⟨t ++ [(trStep c f).at'], by simp [ha, hb1]⟩
/-- Where a node counts no more than itself, none lies below it. -/
theorem none_below {L : List Cel} {n k : Nat} (_hn : 1 ≤ n ∧ n < L.length) (hk : 1 ≤ k ∧ k < L.length) (hu : underB n k = true) (hself : underB n n = true) (hne : k ≠ n) (hh : hasN L k = true) : (if hasN L n then 1 else 0) < cntN L n := by
  have h1 := countP_flip (p := fun j => decide (1 ≤ j) && (underB n j && hasN L j)) (q := fun j => decide (j ≠ k) && (decide (1 ≤ j) && (underB n j && hasN L j))) (M := k) (fun j hj => by simp [hj]) L.length
  have e1 : (decide (1 ≤ k) && (underB n k && hasN L k)) = true := by simp [hk.1, hu, hh]
  simp only [hk.2, true_and, e1, if_true, ne_eq, not_true_eq_false, decide_false, Bool.false_and, Bool.false_eq_true, if_false, Nat.add_zero] at h1
  unfold cntN
  split
  · rename_i hs
    have h2 : 0 < (List.range L.length).countP (fun j => decide (j ≠ k) && (decide (1 ≤ j) && (underB n j && hasN L j))) := List.countP_pos_iff.2 ⟨n, List.mem_range.2 _hn.2, by simp [hne.symm, _hn.1, hself, hs]⟩
    simp only [ne_eq] at h2
    omega
  · omega
end Go.Proofs.YtpaplhkjaniafaaDoor
/- Plain: a look-up of a table of routes answers what the model's climbing does; no program in sight. -/
namespace Go.Proofs.YtpaplhkjaniafaaDoor
open Go Go.RowKit
set_option maxRecDepth 100000
set_option maxHeartbeats 8000000

theorem hasN_of {L : List Cel} {k : Nat} (q : ¬ (L.getD k zcl).a = 0) : hasN L k = true := by
  unfold hasN
  rw [beq_false_of_ne q]
  rfl
theorem lookR_is {c : Cfg} {L : List Cel} (hL : TrOk c L) {D : Nat → Nat} {B : Nat} (hd : ∀ j, j ≤ B → 1 ≤ D j ∧ D j < L.length) (hu : ∀ i j, i < j → j ≤ B → underB (D i) (D j) = true ∧ D j ≠ D i) (hs : ∀ j, j ≤ B → underB (D j) (D j) = true) (m : Nat) : ∀ (h : Nat) (x : Int), h + m = B →
    (∃ j, h ≤ j ∧ j ≤ B ∧ (L.getD (D j) zcl).a ≠ 0 ∧ (∀ i, j < i → i ≤ B → (L.getD (D i) zcl).a = 0) ∧ lookR L D m h x = (L.getD (D j) zcl).a) ∨ ((∀ i, h ≤ i → i ≤ B → (L.getD (D i) zcl).a = 0) ∧ lookR L D m h x = x) := by
  induction m with
  | zero =>
    intro h x hm
    by_cases ha : (L.getD (D h) zcl).a = 0
    · refine .inr ⟨fun i h1 h2 => ?_, by rw [lookR, if_pos ha]⟩
      obtain rfl : i = h := by omega
      exact ha
    · exact .inl ⟨h, Nat.le_refl _, by omega, ha, fun i h1 h2 => absurd h2 (by omega), by rw [lookR, if_neg ha]⟩
  | succ m ih =>
    intro h x hm
    have hdh := hd h (by omega)
    by_cases hgo : (if (L.getD (D h) zcl).a = 0 then (0 : Int) else 1) < (L.getD (D h) zcl).b
    · have e : lookR L D (m + 1) h x = lookR L D m (h + 1) (if (L.getD (D h) zcl).a = 0 then x else (L.getD (D h) zcl).a) := by rw [lookR, if_pos hgo]
      rw [e]
      rcases ih (h + 1) (if (L.getD (D h) zcl).a = 0 then x else (L.getD (D h) zcl).a) (by omega) with ⟨j, a1, a2, a3, a4, a5⟩ | ⟨a1, a2⟩
      · exact .inl ⟨j, by omega, a2, a3, a4, a5⟩
      · rw [a2]
        by_cases ha : (L.getD (D h) zcl).a = 0
        · rw [if_pos ha]
          refine .inr ⟨fun i h1 h2 => ?_, rfl⟩
          by_cases q : i = h
          · rw [q]
            exact ha
          · exact a1 i (by omega) h2
        · rw [if_neg ha]
          exact .inl ⟨h, Nat.le_refl _, by omega, ha, fun i h1 h2 => a1 i (by omega) h2, rfl⟩
    · have e : lookR L D (m + 1) h x = if (L.getD (D h) zcl).a = 0 then x else (L.getD (D h) zcl).a := by rw [lookR, if_neg hgo]
      rw [e]
      have hz : ∀ i, h < i → i ≤ B → (L.getD (D i) zcl).a = 0 := by
        intro i h1 h2
        by_cases q : (L.getD (D i) zcl).a = 0
        · exact q
        · exfalso
          obtain ⟨u1, u2⟩ := hu h i h1 h2
          have hb := none_below hdh (hd i h2) u1 (hs h (by omega)) u2 (hasN_of q)
          have hc := hL.cnt _ hdh.2 hdh.1
          rw [← (get_of hdh.2).2] at hc
          rw [hc] at hgo
          by_cases ha : (L.getD (D h) zcl).a = 0
          · rw [if_pos ha] at hgo
            omega
          · rw [if_neg ha] at hgo
            have : hasN L (D h) = true := hasN_of ha
            rw [if_pos this] at hb
            omega
      by_cases ha : (L.getD (D h) zcl).a = 0
      · rw [if_pos ha]
        refine .inr ⟨fun i h1 h2 => ?_, rfl⟩
        by_cases q : i = h
        · rw [q]
          exact ha
        · exact hz i (by omega) h2
      · rw [if_neg ha]
        exact .inl ⟨h, Nat.le_refl _, by omega, ha, hz, rfl⟩
theorem look_node {L : List Cel} {n : Nat} (h : 1 ≤ n) (hn : n < L.length) : look (rowsN L) (n : Int) = if (L.getD n zcl).a = 0 then none else some ((L.getD n zcl).a - 1) := by
  rw [look_rowsN, if_pos h, (get_of hn).1, (get_of hn).2]
  simp [fC]
theorem tr_look {c : Cfg} {L : List Cel} (hL : TrOk c L) (hb : 1 ≤ c.bits ∧ c.bits ≤ 6) {a : Int} (ha : 0 ≤ a) (ha2 : a < 2 ^ c.bits.toNat) {D : Nat → Nat} (hD : ∀ j, D j = (2 ^ c.bits.toNat + a.toNat) / 2 ^ (c.bits.toNat - j)) :
    (∀ j, j ≤ c.bits.toNat → D j < L.length) ∧ ((∃ u, tabLook c (rowsN L) a = some u ∧ lookR L D c.bits.toNat 0 0 = u + 1 ∧ u + 1 ≠ 0) ∨ (tabLook c (rowsN L) a = none ∧ lookR L D c.bits.toNat 0 0 = 0)) := by
  obtain ⟨hl, hl2⟩ := bits_len hb hL.len
  obtain ⟨B, hB⟩ : ∃ B, c.bits.toNat = B := ⟨_, rfl⟩
  have hA : a.toNat < 2 ^ B := by
    have : ((2 ^ B : Nat) : Int) = 2 ^ B := by push_cast; rfl
    rw [hB, ← this] at ha2
    omega
  rw [hB] at hl hD ⊢
  obtain ⟨M, hM⟩ : ∃ M, 2 ^ B + a.toNat = M := ⟨_, rfl⟩
  rw [hM] at hD
  have hM1 : 2 ^ B ≤ M := by omega
  have hM2 : M < 2 ^ (B + 1) := by rw [Nat.pow_succ]; omega
  have hM3 : M < 256 := by omega
  have hd : ∀ j, j ≤ B → 1 ≤ D j ∧ D j < L.length := by
    intro j hj
    rw [hD]
    have h1 := way_bd hM1 hM2 hj
    have h2 : 0 < 2 ^ j := Nat.pow_pos (by decide)
    have h3 : 2 ^ (j + 1) ≤ 2 ^ (B + 1) := Nat.pow_le_pow_right (by decide) (by omega)
    omega
  have hup : ∀ i j, i ≤ j → j ≤ B → underB (D i) (D j) = true := by
    intro i j hij hj
    rw [under_iff (hd i (by omega)).1 (by have := (hd j hj).2; omega)]
    refine ⟨j - i, ?_⟩
    rw [hD, hD, Nat.div_div_eq_div_mul, ← Nat.pow_add]
    congr 2
    omega
  have hu : ∀ i j, i < j → j ≤ B → underB (D i) (D j) = true ∧ D j ≠ D i := by
    intro i j hij hj
    refine ⟨hup i j (by omega) hj, ?_⟩
    rw [hD, hD]
    exact (way_ne hM1 hM2 hij hj).symm
  have hleaf : tabLook c (rowsN L) a = climb (rowsN L) 8 (M / 2 ^ 0) := by
    unfold tabLook
    rw [hB, hM]
    simp
  have hB6 : B ≤ 6 := by omega
  refine ⟨fun j hj => (hd j hj).2, ?_⟩
  rcases lookR_is hL hd hu (fun j hj => hup j j (Nat.le_refl _) hj) B 0 0 (by omega) with ⟨j, _, a2, a3, a4, a5⟩ | ⟨a1, a2⟩
  · left
    have hj := hd j a2
    refine ⟨(L.getD (D j) zcl).a - 1, ?_, by rw [a5]; omega, by omega⟩
    rw [hleaf]
    have e : M / 2 ^ (B - j) = D j := (hD j).symm
    refine climb_some M (B - j) _ (by rw [e]; exact hj.1) (by rw [e, look_node hj.1 hj.2, if_neg a3]) (fun i hi => ?_) (B - j) 0 8 (by omega) (by omega)
    have e2 : M / 2 ^ i = D (B - i) := by rw [hD]; congr 2; omega
    have hi2 := hd (B - i) (by omega)
    rw [e2, look_node hi2.1 hi2.2, if_pos (a4 (B - i) (by omega) (by omega))]
  · right
    refine ⟨?_, a2⟩
    rw [hleaf]
    refine climb_none 8 M (fun k hk => ?_) 0
    have hkB : k ≤ B := by
      rcases Nat.lt_or_ge B k with h | h
      · have : 2 ^ (B + 1) ≤ 2 ^ k := Nat.pow_le_pow_right (by decide) (by omega)
        have : M / 2 ^ k = 0 := Nat.div_eq_of_lt (by omega)
        omega
      · exact h
    have e2 : M / 2 ^ k = D (B - k) := by rw [hD]; congr 2; omega
    have hi2 := hd (B - k) (by omega)
    rw [e2, look_node hi2.1 hi2.2, if_pos (a1 (B - k) (by omega) (by omega))]
end Go.Proofs.YtpaplhkjaniafaaDoor
/- Plain: done alone, an operation of a table of routes leaves, and answers, what the model says; no program in sight. -/
namespace Go.Proofs.YtpaplhkjaniafaaDoor
open Go Go.RowKit
set_option maxRecDepth 100000
set_option maxHeartbeats 8000000

theorem set_getD {L : List Cel} {d : Nat} {x : Cel} (k : Nat) (hd : d < L.length) : (L.set d x).getD k zcl = if k = d then x else L.getD k zcl := by
  rw [List.getD_eq_getElem?_getD, set_get k hd]
  split
  · rfl
  · rw [List.getD_eq_getElem?_getD]
theorem turn_ok {c : Cfg} {L : List Cel} (hL : TrOk c L) (hb : 1 ≤ c.bits ∧ c.bits ≤ 6) {M : Nat} (hM : 1 ≤ M ∧ M < L.length) {v : Int} (hv : 0 ≤ v ∧ v ≤ 2147483647) (hcap : (rowsN L).length ≤ 32) (ha : ¬ (L.getD M zcl).a = 0) {x : Cel} (hx : x = ⟨0, v + 1, (L.getD M zcl).b % 64 % 64, 0⟩) :
    TrOk c (L.set M x) ∧ rowsN (L.set M x) = withK (M : Int) v (rowsN L) := by
  obtain ⟨_, hl2⟩ := bits_len hb hL.len
  have hc := hL.cnt M hM.2 hM.1
  have hle := cnt_le (L := L) (by omega) M
  have hxb : x.b = cntN L M := by
    rw [hx, (get_of hM.2).2]
    dsimp only
    omega
  have hxa : ¬ x.a = 0 := by
    rw [hx]
    dsimp only
    omega
  have hh : ∀ k, hasN (L.set M x) k = hasN L k := by
    intro k
    by_cases e : k = M
    · rw [e, hasN_of ha, hasN_of (by rw [set_getD M hM.2, if_pos rfl]; exact hxa)]
    · unfold hasN
      rw [set_getD k hM.2, if_neg e]
  have hcn : ∀ n, cntN (L.set M x) n = cntN L n := by
    intro n
    unfold cntN
    rw [List.length_set]
    congr 1
    funext k
    rw [hh k]
  have hfit : x.Fits := by
    rw [hx]
    exact ⟨by simp, by dsimp only; omega, by dsimp only; omega, by simp⟩
  refine ⟨⟨by rw [List.length_set]; exact hL.len, hL.fit.set M hfit, fun y hy => ?_, fun n h hn => ?_, fun n h hn => ?_⟩, ?_⟩
  · rcases List.mem_or_eq_of_mem_set hy with hy | rfl
    · exact hL.val y hy
    · rw [hx]
      dsimp only
      omega
  · rw [List.getElem_set]
    split
    · rw [hx]
    · exact hL.cc n (by simpa using h) hn
  · rw [hcn, List.getElem_set]
    split
    · rename_i e
      rw [← e, hxb]
    · exact hL.cnt n (by simpa using h) hn
  · refine rowsN_with hM.1 fun k hk => ?_
    rw [set_get k hM.2]
    by_cases e : k = M
    · rw [if_pos e, if_pos e, hx]
      have : ¬ v + 1 = 0 := by omega
      simp [fC, this]
    · rw [if_neg e, if_neg e]
theorem tr_in {c : Cfg} {o : Opn} (ho : o.Fits) (hp : partOk c = true) (h1 : c.object = 1) (he : opErr c o = 0) :
    TrIn c o (startF o) ∧ (o.kind = 1 ∨ o.kind = 2 ∨ o.kind = 3) ∧ fitsB c o = true ∧ (1 ≤ c.cap ∧ c.cap ≤ 32) ∧ 1 ≤ c.bits ∧ c.bits ≤ 6 := by
  obtain ⟨_, hk, hft⟩ := tab_kind (c := c) (o := o) h1 (by simp [he])
  have hc0 : o.kind ≠ 1 → o.c = 0 := by
    intro q
    rcases hk with k | k | k
    · exact absurd k q
    · exact (tab_route hft (.inr k)).2.2.2 k
    · exact (tab_leaf hft k).2.2
  have e : trOp (startF o) = o := by
    show Opn.mk o.kind o.a o.b (if o.kind == 1 then o.c else 0) = o
    have : (if o.kind == 1 then o.c else 0) = o.c := by
      split
      · rfl
      · rename_i q
        exact (hc0 (by simpa using q)).symm
    rw [this]
  obtain ⟨_, hmost, _, hcap, hb⟩ := opErr_facts (startF_fits ho) h1 (by rw [e]; exact he)
  have hth : trThere (startF o).kind (startF o).pc = true := by
    show trThere o.kind 0 = true
    rcases hk with q | q | q <;> rw [q] <;> rfl
  have hh : decide ((startF o).h ≤ trMost c (startF o)) = true := decide_eq_true hmost.1
  refine ⟨(tr_start ho (trErr_yes hp (by simp [h1]) ?_)).1, hk, hft, hcap, hb⟩
  unfold trMay
  rw [e, he, hth, hh]
  rfl
/-- THE STAGE'S THEOREM, of one operation. -/
theorem tr_means {c : Cfg} {o : Opn} {L : List Cel} (ho : o.Fits) (hp : partOk c = true) (h1 : c.object = 1) (he : opErr c o = 0) (hL : TrOk c L) (hcp : ((rowsN L).length : Int) ≤ c.cap) :
    (trRun c 40 (startF o) L []).ok = true ∧ (trRun c 40 (startF o) L []).code = (tabDone c (rowsN L) o).code ∧ (trRun c 40 (startF o) L []).word = (tabDone c (rowsN L) o).word ∧
      rowsN (trRun c 40 (startF o) L []).cells = (tabDone c (rowsN L) o).rows ∧ TrOk c (trRun c 40 (startF o) L []).cells := by
  obtain ⟨hin, hk, hft, hcap, hb⟩ := tr_in ho hp h1 he
  by_cases k3 : o.kind = 3
  · have lf := (tab_leaf hft k3).1
    obtain ⟨hd, hl⟩ := tr_look hL hb ho.a.1 lf (D := wayL c (startF o)) (fun _ => rfl)
    obtain ⟨t', hr⟩ := scanT (o := o) hL hb c.bits.toNat (startF o) 0 [] 40 hin rfl k3 rfl (by omega) hd (by omega)
    have x0 : (startF o).x = 0 := rfl
    rw [x0] at hr
    rw [hr]
    rcases hl with ⟨u, g1, g2, g3⟩ | ⟨g1, g2⟩
    · have hd : tabDone c (rowsN L) o = ⟨rowsN L, 0, u + 1, 0⟩ := by simp [tabDone, k3, g1]
      rw [hd, g2]
      exact ⟨rfl, if_neg g3, rfl, rfl, hL⟩
    · have hd : tabDone c (rowsN L) o = ⟨rowsN L, 6, 0, 0⟩ := by simp [tabDone, k3, g1]
      rw [hd, g2]
      exact ⟨rfl, rfl, rfl, rfl, hL⟩
  have hk2 : o.kind = 1 ∨ o.kind = 2 := by omega
  obtain ⟨rb, ra, rc, _⟩ := tab_route hft hk2
  obtain ⟨kb1, kb2, _, _, _⟩ := key_bd ho hb.2 rb ra
  obtain ⟨hl, hl2⟩ := bits_len hb hL.len
  obtain ⟨M, hMe⟩ : ∃ M, 2 ^ o.b.toNat + o.a.toNat = M := ⟨_, rfl⟩
  have hkey : tabKey o = (M : Int) := by
    unfold tabKey
    rw [hMe]
  rw [hkey] at kb1 kb2
  have hM : 1 ≤ M ∧ M < L.length := by
    rw [Nat.pow_succ] at hl
    omega
  obtain ⟨l, hle⟩ : ∃ l, L.getD M zcl = l := ⟨_, rfl⟩
  have hlm := List.getElem_mem hM.2
  rw [← (get_of hM.2).2, hle] at hlm
  have hlf := hL.fit _ hlm
  have hlv := hL.val _ hlm
  have hl0 := hlf.a.1
  have hmod : l.a % 4294967296 = l.a := by omega
  have hlook := look_node hM.1 hM.2
  rw [hle, ← hkey] at hlook
  have p0 : (startF o).pc = 0 := rfl
  have hk3 : (startF o).kind ≠ 3 := k3
  have s1 : trStep c (startF o) = ⟨1, trM c (startF o), 0, 0, 0, 0, 0⟩ := by simp [trStep, p0, hk3]
  have hMM : ∀ f : Frm, f.Fits → f.kind ≠ 3 → f.h ≤ f.b → f.b = o.b → f.a = o.a → (trM c f).toNat = M := by
    intro f hf q1 q2 q3 q4
    rw [(trD_nat (c := c) hf q1 q2).2, q3, q4, hMe, Int.toNat_natCast]
  have hat : (trStep c (startF o)).at'.toNat = M := by
    rw [s1]
    exact hMM _ hin.fits hk3 ho.b.1 rfl rfl
  have run1 : trRun c 40 (startF o) L [] = trRun c 39 (trBehind c (startF o) l) L ([] ++ [(trStep c (startF o)).at']) := by
    have := readT hin (by rw [s1]) hL.len 39 []
    rw [hat, hle] at this
    exact this
  have n1 := inT_next hin (by rw [s1]; exact (by decide : (1 : Int) ≠ 4)) hlf
  rw [run1]
  obtain ⟨t1, ht1⟩ : ∃ t1, [] ++ [(trStep c (startF o)).at'] = t1 := ⟨_, rfl⟩
  rw [ht1]
  have hway : ∀ f : Frm, TrIn c o f → f.pc = 2 → f.kind = o.kind → f.h = 0 → f.b = o.b → f.a = o.a → f.y = o.c → hasN L M = (o.kind == 2) → (o.kind = 1 → (rowsN L).length ≤ 31) → ∀ fuel t, 15 ≤ fuel → ∃ t' L', trRun c fuel f L t = ⟨L', 0, l.a, t', true⟩ ∧ TrOk c L' ∧ (o.kind = 1 → rowsN L' = withK (M : Int) o.c (rowsN L)) ∧ (o.kind = 2 → rowsN L' = withoutK (M : Int) (rowsN L)) := by
    intro f hf q1 q2 q3 q4 q5 q6 q7 q8 fuel t hfu
    have hfb : f.b ≤ c.bits := by rw [q4]; exact rb
    have hb0 := ho.b.1
    obtain ⟨w1, w2, w3, w4, w5⟩ := way_ok hL hb hf.fits (by rw [q2]; exact hk2) hfb (by rw [q4, q5]; exact ra) (by rw [q6]; rcases hk2 with q | q; exact rc q; rw [(tab_route hft (.inr q)).2.2.2 q]; decide) (by omega) (by rw [q4, q5, hMe, q2]; exact q7) (by rw [q2]; exact q8)
    have hft' : 2 * f.b.toNat + 3 ≤ fuel := by omega
    obtain ⟨t', hr⟩ := wayT (o := o) f.b.toNat f 0 L t fuel hf q1 (by rw [q2]; exact k3) q3 (by omega) w4 w5 hL.len hL.fit hft'
    have hwm : wayN f f.b.toNat = M := by
      unfold wayN
      rw [Nat.sub_self, Nat.pow_zero, Nat.div_one, q4, q5, hMe]
    rw [hwm, hle, hmod] at hr
    rw [q4, q5, hMe, q2, q6] at w2
    rw [q4, q5, hMe, q2] at w3
    refine ⟨t', _, hr, w1, fun q => ?_, fun q => ?_⟩
    · rw [q4]
      exact w2 q
    · rw [q4]
      exact w3 q
  rcases hk2 with q | q
  · have hkk : (startF o).kind = 1 := q
    by_cases ha : l.a = 0
    · rw [if_pos ha] at hlook
      have hno : hasN L M = (o.kind == 2) := by
        have h2 : (o.kind == 2) = false := by simp [q]
        rw [h2]
        unfold hasN
        rw [hle, ha]
        rfl
      have e1 : trBehind c (startF o) l = { startF o with x := l.a, n := l.b % 64, pc := 1 } := by simp [trBehind, p0, hkk, ha]
      rw [e1] at n1 ⊢
      have s2 : trStep c { startF o with x := l.a, n := l.b % 64, pc := 1 } = ⟨1, 1, 0, 0, 0, 0, 0⟩ := by simp [trStep]
      have hl1 : 1 < L.length := by omega
      obtain ⟨l1, hl1e⟩ : ∃ l1, L.getD 1 zcl = l1 := ⟨_, rfl⟩
      have hl1m := List.getElem_mem hl1
      have hl1c := hL.cnt 1 hl1 (Nat.le_refl _)
      rw [← (get_of hl1).2, hl1e] at hl1m hl1c
      rw [root_count (by omega)] at hl1c
      have hat2 : (trStep c { startF o with x := l.a, n := l.b % 64, pc := 1 }).at'.toNat = 1 := by rw [s2]; rfl
      rw [readT n1 (by rw [s2]) hL.len 38 t1, hat2, hl1e]
      have n2 := inT_next n1 (by rw [s2]; exact (by decide : (1 : Int) ≠ 4)) (hL.fit _ hl1m)
      by_cases hfull : c.cap ≤ ((rowsN L).length : Int)
      · have e2 : trBehind c { startF o with x := l.a, n := l.b % 64, pc := 1 } l1 = { startF o with x := l.a, n := l.b % 64, pc := 7 } := by
          have : ¬ l1.b < c.cap := by omega
          simp [trBehind, hk3, this]
        rw [e2] at n2 ⊢
        rw [endT n2 37 _ _ (.inr (.inl rfl))]
        have hd : tabDone c (rowsN L) o = ⟨rowsN L, 9, 0, 0⟩ := by simp [tabDone, q, hlook, hfull]
        rw [hd]
        exact ⟨rfl, rfl, rfl, rfl, hL⟩
      · have e2 : trBehind c { startF o with x := l.a, n := l.b % 64, pc := 1 } l1 = { startF o with x := l.a, n := l.b % 64, pc := 2, h := 0 } := by
          have : l1.b < c.cap := by omega
          simp [trBehind, hk3, this]
        rw [e2] at n2 ⊢
        obtain ⟨t', L', hr, r1, r2, _⟩ := hway _ n2 rfl rfl rfl rfl rfl rfl hno (fun _ => by omega) 38 (t1 ++ [(trStep c { startF o with x := l.a, n := l.b % 64, pc := 1 }).at']) (by omega)
        rw [hr]
        have hd : tabDone c (rowsN L) o = ⟨withK (tabKey o) o.c (rowsN L), 0, 0, 0⟩ := by simp [tabDone, q, hlook, hfull]
        rw [hd, hkey]
        exact ⟨rfl, rfl, ha, r2 q, r1⟩
    · rw [if_neg ha] at hlook
      have e1 : trBehind c (startF o) l = { startF o with x := l.a, n := l.b % 64, pc := 5 } := by simp [trBehind, p0, hkk, hmod, ha]
      rw [e1] at n1 ⊢
      obtain ⟨g, hg⟩ : ∃ g, ({ startF o with x := l.a, n := l.b % 64, pc := 5 } : Frm) = g := ⟨_, rfl⟩
      have s2 : trStep c g = ⟨2, trM c g, o.c + 1, l.b % 64 % 64, 0, 0, 0⟩ := by rw [← hg]; simp [trStep, startF]
      rw [hg] at n1 ⊢
      have hgk : g.kind = 1 := by rw [← hg]; exact q
      have hgp : g.pc = 5 := by rw [← hg]
      have hat2 : (trStep c g).at'.toNat = M := by
        rw [s2]
        exact hMM g n1.fits (by omega) (by rw [← hg]; exact ho.b.1) (by rw [← hg]; rfl) (by rw [← hg]; rfl)
      have hcel : Cel.mk 0 (trStep c g).a (trStep c g).b (trStep c g).c = ⟨0, o.c + 1, (L.getD M zcl).b % 64 % 64, 0⟩ := by rw [s2, hle]
      rw [writeT n1 (by rw [s2]) hL.len 38 t1, hat2]
      have n2 := inT_next n1 (by rw [s2]; exact (by decide : (2 : Int) ≠ 4)) (trStep_fits (c := c) n1.fits)
      rw [hcel] at n2 ⊢
      have e2 : trBehind c g ⟨0, o.c + 1, (L.getD M zcl).b % 64 % 64, 0⟩ = { g with pc := 6 } := by simp [trBehind, hgk, hgp]
      rw [e2] at n2 ⊢
      rw [endT n2 37 _ _ (.inl rfl)]
      obtain ⟨r1, r2⟩ := turn_ok hL hb hM ⟨ho.c.1, rc q⟩ (by omega) (by rw [hle]; exact ha) rfl
      have hd : tabDone c (rowsN L) o = ⟨withK (tabKey o) o.c (rowsN L), 0, l.a - 1 + 1, 0⟩ := by simp [tabDone, q, hlook]
      rw [hd, hkey]
      refine ⟨rfl, rfl, ?_, r2, r1⟩
      have : g.x = l.a := by rw [← hg]
      show g.x = l.a - 1 + 1
      omega
  · have hkk : (startF o).kind = 2 := q
    by_cases ha : l.a = 0
    · rw [if_pos ha] at hlook
      have e1 : trBehind c (startF o) l = { startF o with x := l.a, n := l.b % 64, pc := 8 } := by simp [trBehind, p0, hkk, ha]
      rw [e1] at n1 ⊢
      rw [endT n1 38 _ _ (.inr (.inr rfl))]
      have hd : tabDone c (rowsN L) o = ⟨rowsN L, 6, 0, 0⟩ := by simp [tabDone, q, hlook]
      rw [hd]
      exact ⟨rfl, rfl, rfl, rfl, hL⟩
    · rw [if_neg ha] at hlook
      have hyes : hasN L M = (o.kind == 2) := by
        have h2 : (o.kind == 2) = true := by simp [q]
        rw [h2]
        exact hasN_of (by rw [hle]; exact ha)
      have e1 : trBehind c (startF o) l = { startF o with x := l.a, n := l.b % 64, pc := 2, h := 0 } := by simp [trBehind, p0, hkk, hmod, ha]
      rw [e1] at n1 ⊢
      obtain ⟨t', L', hr, r1, _, r3⟩ := hway _ n1 rfl rfl rfl rfl rfl rfl hyes (fun h => by omega) 39 t1 (by omega)
      rw [hr]
      have hd : tabDone c (rowsN L) o = ⟨withoutK (tabKey o) (rowsN L), 0, l.a - 1 + 1, 0⟩ := by simp [tabDone, q, hlook]
      rw [hd, hkey]
      refine ⟨rfl, rfl, ?_, r3 q, r1⟩
      show l.a = l.a - 1 + 1
      omega
end Go.Proofs.YtpaplhkjaniafaaDoor
