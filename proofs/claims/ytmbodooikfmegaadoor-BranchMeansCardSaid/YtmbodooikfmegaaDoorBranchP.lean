/- Plain: the program of a tree of settings, as the document has it; no program in sight. -/
import Derived.Test.YtmbodooikfmegaaDoorA0
namespace Go.Proofs.YtmbodooikfmegaaDoor
open Go Go.RowKit
set_option maxRecDepth 100000
set_option maxHeartbeats 8000000

/-- The operation of a frame. -/
def brOp (f : Frm) : Opn := ⟨f.kind, f.a, f.b, if f.kind == 12 then f.y else 0⟩
theorem brOp_fits {f : Frm} (h : f.Fits) : (brOp f).Fits := ⟨h.kind, h.a, h.b, by unfold brOp; have := h.y; dsimp only; split <;> omega⟩

/-- A path's names, and how many there are. -/
def brName (f : Frm) (n : Int) : Int := if n == 0 then f.a % 65536 else if n == 1 then f.a / 65536 else if n == 2 then f.b else 0
def brLong (f : Frm) : Int := if f.a % 65536 == 0 then 0 else if f.a / 65536 == 0 then 1 else if f.b == 0 then 2 else 3
def brMany (f : Frm) : Int := (if f.a % 65536 == 0 then 0 else 1) + (if f.a / 65536 == 0 then 0 else 1) + (if f.b == 0 then 0 else 1)

/-- Has the table the Pc for the kind? -/
def brHas (f : Frm) : Bool :=
  f.pc == 0 || f.pc == 20 || ((f.pc == 2 || f.pc == 3 || f.pc == 4 || f.pc == 22) && f.kind == 12) || ((f.pc == 5 || f.pc == 6 || f.pc == 23) && f.kind == 13) ||
  (f.pc == 21 && !(f.kind == 12))

/-- Where the cell stands that the act names. -/
def brAt (f : Frm) : Int :=
  if f.pc == 0 || f.pc == 3 || f.pc == 5 then f.i else if f.pc == 2 then f.j else if f.pc == 4 || f.pc == 6 then f.p - 1 else 0

/-- May a frame be? -/
def brMay (c : Cfg) (f : Frm) : Bool :=
  opErr c (brOp f) == 0 && brHas f && decide (f.i ≤ c.cap) && decide (f.j ≤ c.cap) && decide (f.n ≤ c.cap) && decide (f.p ≤ c.cap) && decide (f.h ≤ brLong f) &&
  !((f.pc == 0 || f.pc == 2) && f.h == brLong f) && !(f.pc == 0 && decide (f.i < f.n)) && decide (0 ≤ brAt f) && decide (brAt f < c.cap)

def brErr (c : Cfg) (f : Frm) : Int := if partOk c && c.object == 4 then (if brMay c f then 0 else 2) else 40

def brStep (f : Frm) : Actn :=
  if f.pc == 0 || f.pc == 3 || f.pc == 5 then ⟨1, f.i, 0, 0, 0, 0, 0⟩
  else if f.pc == 2 then ⟨2, f.j, f.p + 1, brName f f.h, if f.h + 1 == brLong f then f.y + 1 else 0, 0, 0⟩
  else if f.pc == 4 then ⟨2, f.p - 1, f.j + 1, brName f (brLong f - 1), f.y + 1, 0, 0⟩
  else if f.pc == 6 then ⟨2, f.p - 1, 0, 0, 0, 0, 0⟩
  else if f.pc == 20 then ⟨4, 0, 0, 0, 0, 0, f.x⟩
  else if f.pc == 21 then ⟨4, 0, 0, 0, 0, 6, 0⟩
  else if f.pc == 22 then ⟨4, 0, 0, 0, 0, 9, 0⟩
  else ⟨4, 0, 0, 0, 0, 90, 0⟩

def brNextA (c : Cfg) (f : Frm) : Actn := if brErr c f == 0 then brStep f else zeroAct

/-- On a path the two counts are one. -/
theorem brMany_long {f : Frm} (h : pathB f.a f.b = true) : brMany f = brLong f := by
  simp [pathB] at h
  unfold brMany brLong
  by_cases h1 : f.a % 65536 = 0 <;> by_cases h2 : f.a / 65536 = 0 <;> by_cases h3 : f.b = 0 <;> simp_all
theorem fits_path {c : Cfg} {o : Opn} (h : fitsB c o = true) (hk : 12 ≤ o.kind) : pathB o.a o.b = true := by
  unfold fitsB at h
  have : ¬ o.kind = 1 ∧ ¬ o.kind = 2 ∧ ¬ o.kind = 3 ∧ ¬ o.kind = 4 ∧ ¬ o.kind = 8 ∧ ¬ o.kind = 5 ∧ ¬ o.kind = 6 ∧ ¬ o.kind = 7 ∧ ¬ o.kind = 9 ∧ ¬ o.kind = 10 ∧ ¬ o.kind = 11 := by omega
  simp [this] at h
  by_cases h12 : o.kind = 12 <;> simp [h12] at h <;> exact h.2

/-- Behind it read the next node. -/
def brFound (f : Frm) (l : Cel) : Frm :=
  if f.h + 1 < brLong f then { f with x := l.c % 4294967296, j := f.p, p := f.i + 1, h := f.h + 1, i := 0, n := 0 }
  else if f.kind == 12 then { f with x := l.c % 4294967296, j := f.p, p := f.i + 1, h := f.h + 1, pc := 4 }
  else if f.kind == 13 then { f with x := l.c % 4294967296, j := f.p, p := f.i + 1, h := f.h + 1, pc := 5, i := 0 }
  else if l.c % 4294967296 == 0 then { f with x := l.c % 4294967296, j := f.p, p := f.i + 1, h := f.h + 1, pc := 21 }
  else { f with x := l.c % 4294967296, j := f.p, p := f.i + 1, h := f.h + 1, pc := 20 }

/-- Behind the last cell, or on to the next one. -/
def brMore (c : Cfg) (f : Frm) : Frm :=
  if f.i + 1 < c.cap then { f with i := f.i + 1 }
  else if f.kind == 12 then (if f.n < brLong f - f.h then { f with pc := 22 } else { f with pc := 2 }) else { f with pc := 21 }

/-- Behind it read another cell than the next node's. -/
def brOther (c : Cfg) (f : Frm) (l : Cel) : Frm :=
  if l.a == 0 then (if f.n == 0 then brMore c { f with j := f.i, n := f.n + 1 } else brMore c { f with n := f.n + 1 }) else brMore c f

/-- Behind it made a node. -/
def brMade (c : Cfg) (f : Frm) : Frm :=
  if f.h + 1 == brLong f then { f with p := f.j + 1, h := f.h + 1, x := 0, pc := 20 }
  else if f.j + 1 < c.cap then { f with p := f.j + 1, h := f.h + 1, pc := 3, i := f.j + 1 } else { f with p := f.j + 1, h := f.h + 1, pc := 22 }

def brBehind (c : Cfg) (f : Frm) (l : Cel) : Frm :=
  if f.pc == 0 then (if l.a == f.p + 1 && l.b == brName f f.h then brFound f l else brOther c f l)
  else if f.pc == 2 then brMade c f
  else if f.pc == 3 then (if l.a == 0 then { f with j := f.i, pc := 2 } else if f.i + 1 < c.cap then { f with i := f.i + 1 } else { f with pc := 22 })
  else if f.pc == 5 then (if l.a == f.p + 1 then { f with pc := 23 } else if f.i + 1 < c.cap then { f with i := f.i + 1 } else { f with pc := 6 })
  else if f.pc == 4 || f.pc == 6 then { f with pc := 20 } else f

def brAfterA (c : Cfg) (f : Frm) (l : Cel) : Frm := if brErr c f == 0 then brBehind c f l else zeroFrm
end Go.Proofs.YtmbodooikfmegaaDoor
