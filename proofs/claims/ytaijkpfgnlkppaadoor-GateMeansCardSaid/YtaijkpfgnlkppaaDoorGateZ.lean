/- Plain: a program of a set of access rules is done within so many acts, whatever it reads; no program in sight. -/
import Derived.Test.YtaijkpfgnlkppaaDoorGateD
import Derived.Test.YtaijkpfgnlkppaaDoorStart
namespace Go.Proofs.YtaijkpfgnlkppaaDoor
open Go Go.RowKit

/-- A frame of an operation that goes on. -/
structure GateIn (c : Cfg) (o : Opn) (f : Frm) : Prop where
  err : gateErr c f = 0
  fits : f.Fits
  kind : f.kind = o.kind
  n : f.n = 0
  p : f.p = 0
/-- How many acts there may be yet. -/
def gateRem (c : Cfg) (f : Frm) : Int := if f.pc = 0 then c.cap - f.i + (if f.kind = 11 then 0 else 1) else if f.pc = 2 then 1 else 0
theorem cap_of_part {c : Cfg} (h : partOk c = true) : 1 ≤ c.cap ∧ c.cap ≤ 32 := by
  simp [partOk, within] at h
  omega
theorem GateIn.facts {c : Cfg} {o : Opn} {f : Frm} (h : GateIn c o f) : partOk c = true ∧ (c.object == 3) = true ∧ gateMay c f = true ∧ (f.kind = 9 ∨ f.kind = 10 ∨ f.kind = 11) ∧ f.i < c.cap ∧ f.j < c.cap ∧ f.h ≤ 1 ∧ opErr c (gateOp f) = 0 := by
  have e : (gateErr c f == 0) = true := by simp [h.err]
  obtain ⟨h1, h2, h3⟩ := gateErr_ok e
  have h4 : (c.object == 3) = true := by simp [h2]
  have h5 := gateMay_facts h3
  exact ⟨h1, h4, h3, gateMay_kind h3 h1 h4, h5.2.1, h5.2.2.1, h5.2.2.2, h5.1⟩
theorem gateMay_mk {c : Cfg} {f g : Frm} (h : opErr c (gateOp f) = 0) (hg : gateOp g = gateOp f) (hi : g.i < c.cap) (hj : g.j < c.cap) (hh : g.h ≤ 1) (hp : gatePc g = true) : gateMay c g = true := by
  simp [gateMay, hg, h, hi, hj, hh, hp]
/-- What the steps leave alone. -/
structure Same (f g : Frm) : Prop where
  kind : g.kind = f.kind
  a : g.a = f.a
  b : g.b = f.b
  y : g.y = f.y
  n : g.n = f.n
  p : g.p = f.p
theorem Same.op {f g : Frm} (h : Same f g) : gateOp g = gateOp f := by
  unfold gateOp
  rw [h.kind, h.a, h.b, h.y]
theorem gateOver_same (f : Frm) : Same f (gateOver f) ∧ (gateOver f).i = f.i ∧ (gateOver f).j = f.j ∧ (gateOver f).h = f.h := by
  unfold gateOver
  split
  · exact ⟨⟨rfl, rfl, rfl, rfl, rfl, rfl⟩, rfl, rfl, rfl⟩
  · split <;> exact ⟨⟨rfl, rfl, rfl, rfl, rfl, rfl⟩, rfl, rfl, rfl⟩
theorem gateOver_pc {f : Frm} (hk : f.kind = 9 ∨ f.kind = 10 ∨ f.kind = 11) : gatePc (gateOver f) = true ∧ ((gateOver f).pc = 20 ∨ (gateOver f).pc = 21 ∨ (gateOver f).pc = 22 ∨ ((gateOver f).pc = 2 ∧ f.kind ≠ 11)) := by
  rcases hk with h | h | h
  · by_cases h1 : f.h = 1
    · simp [gateOver, gatePc, h, h1]
    · simp [gateOver, gatePc, h, h1]
  · simp [gateOver, gatePc, h]
  · simp [gateOver, gatePc, h]
/-- Behind a read: on to the next cell, or over. -/
theorem gateMore_in {c : Cfg} {f : Frm} (hk : f.kind = 9 ∨ f.kind = 10 ∨ f.kind = 11) (h0 : f.pc = 0) (hi : f.i < c.cap) (hj : f.j < c.cap) (hh : f.h ≤ 1) :
    Same f (gateMore c f) ∧ gatePc (gateMore c f) = true ∧ (gateMore c f).i < c.cap ∧ (gateMore c f).j < c.cap ∧ (gateMore c f).h ≤ 1 ∧ gateRem c (gateMore c f) + 1 ≤ c.cap - f.i + (if f.kind = 11 then 0 else 1) := by
  unfold gateMore
  split
  · rename_i he
    have he' : f.i + 1 = c.cap := by simpa using he
    obtain ⟨hs, h1, h2, h3⟩ := gateOver_same f
    obtain ⟨p1, p2⟩ := gateOver_pc hk
    refine ⟨hs, p1, by omega, by omega, by omega, ?_⟩
    unfold gateRem
    rcases p2 with p | p | p | ⟨p, q⟩
    · simp [p]; split <;> omega
    · simp [p]; split <;> omega
    · simp [p]; split <;> omega
    · simp [p, q]; omega
  · rename_i he
    have he' : f.i + 1 ≠ c.cap := by simpa using he
    refine ⟨⟨rfl, rfl, rfl, rfl, rfl, rfl⟩, by simp [gatePc, h0], by dsimp only; omega, hj, hh, ?_⟩
    simp [gateRem, h0]
    omega
theorem gateSeek_in {c : Cfg} {f : Frm} {l : Cel} (hk : f.kind = 9 ∨ f.kind = 10 ∨ f.kind = 11) (h0 : f.pc = 0) (hi : f.i < c.cap) (hj : f.j < c.cap) (hh : f.h ≤ 1) :
    Same f (gateSeek c f l) ∧ gatePc (gateSeek c f l) = true ∧ (gateSeek c f l).i < c.cap ∧ (gateSeek c f l).j < c.cap ∧ (gateSeek c f l).h ≤ 1 ∧ gateRem c (gateSeek c f l) + 1 ≤ c.cap - f.i + (if f.kind = 11 then 0 else 1) := by
  have tr : ∀ g : Frm, Same f g → g.pc = 0 → g.i = f.i → g.j < c.cap → g.h ≤ 1 →
      Same f (gateMore c g) ∧ gatePc (gateMore c g) = true ∧ (gateMore c g).i < c.cap ∧ (gateMore c g).j < c.cap ∧ (gateMore c g).h ≤ 1 ∧ gateRem c (gateMore c g) + 1 ≤ c.cap - f.i + (if f.kind = 11 then 0 else 1) := by
    intro g hs hp hi' hj' hh'
    obtain ⟨s1, s2⟩ := gateMore_in (c := c) (f := g) (by rw [hs.kind]; exact hk) hp (by omega) hj' hh'
    rw [hi', hs.kind] at s2
    exact ⟨⟨s1.kind.trans hs.kind, s1.a.trans hs.a, s1.b.trans hs.b, s1.y.trans hs.y, s1.n.trans hs.n, s1.p.trans hs.p⟩, s2⟩
  obtain ⟨B, hB⟩ : ∃ B : Int, (if f.kind = 11 then (0 : Int) else 1) = B := ⟨_, rfl⟩
  have hB0 : 0 ≤ B := by rw [← hB]; split <;> omega
  rw [hB] at tr ⊢
  unfold gateSeek
  by_cases h11 : f.kind = 11
  · have h13 : (f.kind == 11) = true := by simp [h11]
    simp only [h13, if_true]
    split
    · split
      · refine ⟨⟨rfl, rfl, rfl, rfl, rfl, rfl⟩, by simp [gatePc], hi, hj, hh, ?_⟩
        simp [gateRem]
        omega
      · exact tr { f with x := 1 } ⟨rfl, rfl, rfl, rfl, rfl, rfl⟩ h0 rfl hj hh
    · exact tr f ⟨rfl, rfl, rfl, rfl, rfl, rfl⟩ h0 rfl hj hh
  · have h12 : (f.kind == 11) = false := by simpa using h11
    rw [if_neg h11] at hB
    simp only [h12, Bool.false_eq_true, if_false]
    split
    · refine ⟨⟨rfl, rfl, rfl, rfl, rfl, rfl⟩, by simp [gatePc, h11], hi, hi, hh, ?_⟩
      simp [gateRem]
      omega
    · split
      · exact tr { f with j := f.i, h := 1 } ⟨rfl, rfl, rfl, rfl, rfl, rfl⟩ h0 rfl hi (by show (1 : Int) ≤ 1; decide)
      · exact tr f ⟨rfl, rfl, rfl, rfl, rfl, rfl⟩ h0 rfl hj hh
/-- An act of a frame: it is the last, or touches what there is, and the frame behind it goes on, with fewer acts to come. -/
theorem gate_goes {c : Cfg} {o : Opn} {f : Frm} (h : GateIn c o f) : (gateStep f).kind = 4 ∨
    ((gateStep f).kind ≠ 4 ∧ 0 ≤ (gateStep f).at' ∧ (gateStep f).at' < c.cap ∧ ((gateStep f).kind = 1 ∨ ((gateStep f).kind = 2 ∧ o.kind ≠ 11)) ∧
      ∀ l : Cel, l.Fits → GateIn c o (gateBehind c f l) ∧ gateRem c (gateBehind c f l) + 1 ≤ gateRem c f) := by
  obtain ⟨h1, h2, h3, hk, hi, hj, hh, ho⟩ := h.facts
  have hb : ∀ l : Cel, gateBehind c f l = gateAfterA c f l := fun l => (gateAfter_yes (by simp [h.err])).symm
  have yes : ∀ l : Cel, l.Fits → Same f (gateBehind c f l) → gatePc (gateBehind c f l) = true → (gateBehind c f l).i < c.cap → (gateBehind c f l).j < c.cap → (gateBehind c f l).h ≤ 1 → GateIn c o (gateBehind c f l) := fun l hl hs hp hi' hj' hh' =>
    ⟨gateErr_yes h1 h2 (gateMay_mk ho hs.op hi' hj' hh' hp), by rw [hb]; exact gateAfter_fits h.fits hl h.err, hs.kind.trans h.kind, hs.n.trans h.n, hs.p.trans h.p⟩
  rcases gateMay_pc h3 with p | p | ⟨p, q⟩ | ⟨p, q⟩ | ⟨p, q⟩
  · refine .inr ⟨by simp [gateStep, p], by have := h.fits.i; simp [gateStep, p]; omega, by simp [gateStep, p]; exact hi, .inl (by simp [gateStep, p]), fun l hl => ?_⟩
    have e : gateBehind c f l = gateSeek c f l := by simp [gateBehind, p]
    obtain ⟨s1, s2, s3, s4, s5, s6⟩ := gateSeek_in (c := c) (l := l) hk p hi hj hh
    refine ⟨yes l hl (by rw [e]; exact s1) (by rw [e]; exact s2) (by rw [e]; exact s3) (by rw [e]; exact s4) (by rw [e]; exact s5), ?_⟩
    rw [e]
    have : gateRem c f = c.cap - f.i + (if f.kind = 11 then 0 else 1) := by simp [gateRem, p]
    omega
  · exact .inl (by simp [gateStep, p])
  · have hq : f.kind ≠ 11 := q
    refine .inr ⟨?_, ?_, ?_, .inr ⟨?_, by rw [← h.kind]; exact hq⟩, fun l hl => ?_⟩
    · simp [gateStep, p]; split <;> simp
    · have := h.fits.j; simp [gateStep, p]; split <;> simp <;> omega
    · simp [gateStep, p]; split <;> simp <;> exact hj
    · simp [gateStep, p]; split <;> simp
    · have e : gateBehind c f l = { f with pc := 20 } := by simp [gateBehind, p]
      refine ⟨yes l hl (by rw [e]; exact ⟨rfl, rfl, rfl, rfl, rfl, rfl⟩) (by rw [e]; simp [gatePc]) (by rw [e]; exact hi) (by rw [e]; exact hj) (by rw [e]; exact hh), ?_⟩
      rw [e]
      simp [gateRem, p]
  · exact .inl (by simp [gateStep, p])
  · exact .inl (by simp [gateStep, p])
theorem gate_rem {c : Cfg} {o : Opn} {f : Frm} (h : GateIn c o f) : 0 ≤ gateRem c f ∧ ((gateStep f).kind ≠ 4 → 1 ≤ gateRem c f) := by
  obtain ⟨h1, h2, h3, hk, hi, hj, hh, ho⟩ := h.facts
  constructor
  · unfold gateRem
    split
    · split <;> omega
    · split <;> omega
  · intro hn
    rcases gateMay_pc h3 with p | p | ⟨p, q⟩ | ⟨p, q⟩ | ⟨p, q⟩
    · simp [gateRem, p]
      split <;> omega
    · exact absurd (by simp [gateStep, p]) hn
    · simp [gateRem, p]
    · exact absurd (by simp [gateStep, p]) hn
    · exact absurd (by simp [gateStep, p]) hn
theorem gate_start {c : Cfg} {o : Opn} (ho : o.Fits) (he : gateErr c (startF o) = 0) : GateIn c o (startF o) ∧ gateRem c (startF o) = c.cap + (if o.kind = 11 then 0 else 1) :=
  ⟨⟨he, startF_fits ho, rfl, rfl, rfl⟩, by by_cases k : o.kind = 11 <;> simp [gateRem, startF, k]⟩
theorem GateIn.small {c : Cfg} {o : Opn} {f : Frm} (h : GateIn c o f) : f.kind ≤ 15 ∧ f.pc ≤ 31 ∧ f.i ≤ 127 ∧ f.j ≤ 127 ∧ f.n ≤ 63 ∧ f.p ≤ 63 ∧ f.h ≤ 7 := by
  obtain ⟨h1, h2, h3, hk, hi, hj, hh, ho⟩ := h.facts
  have hc := cap_of_part h1
  have hn := h.n
  have hp := h.p
  have hpc := gateMay_pc h3
  refine ⟨by omega, by omega, by omega, by omega, by omega, by omega, by omega⟩
end Go.Proofs.YtaijkpfgnlkppaaDoor
