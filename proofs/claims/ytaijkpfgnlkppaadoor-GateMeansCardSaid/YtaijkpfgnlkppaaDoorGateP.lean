/- Plain: the program of a set of access rules, as the document has it; no program in sight. -/
import Derived.Test.YtaijkpfgnlkppaaDoorFrame
namespace Go.Proofs.YtaijkpfgnlkppaaDoor
open Go Go.RowKit

/-- The operation of a frame. -/
def gateOp (f : Frm) : Opn := ⟨f.kind, f.a, f.b, if f.kind == 9 then f.y else 0⟩
theorem gateOp_fits {f : Frm} (h : f.Fits) : (gateOp f).Fits := ⟨h.kind, h.a, h.b, by unfold gateOp; have := h.y; dsimp only; split <;> omega⟩

/-- Has the table the Pc for the kind? -/
def gatePc (f : Frm) : Bool := f.pc == 0 || f.pc == 20 || (f.pc == 2 && !(f.kind == 11)) || (f.pc == 21 && f.kind == 10) || (f.pc == 22 && f.kind == 9)

/-- May a frame be? -/
def gateMay (c : Cfg) (f : Frm) : Bool := opErr c (gateOp f) == 0 && decide (f.i < c.cap) && decide (f.j < c.cap) && decide (f.h ≤ 1) && gatePc f

def gateErr (c : Cfg) (f : Frm) : Int := if partOk c && c.object == 3 then (if gateMay c f then 0 else 2) else 40

def gateStep (f : Frm) : Actn :=
  if f.pc == 0 then ⟨1, f.i, 0, 0, 0, 0, 0⟩
  else if f.pc == 2 then (if f.kind == 9 then ⟨2, f.j, f.y, f.a, f.b, 0, 0⟩ else ⟨2, f.j, 0, 0, 0, 0, 0⟩)
  else if f.pc == 20 then ⟨4, 0, 0, 0, 0, 0, f.x⟩
  else if f.pc == 21 then ⟨4, 0, 0, 0, 0, 6, 0⟩
  else ⟨4, 0, 0, 0, 0, 9, 0⟩

def gateNextA (c : Cfg) (f : Frm) : Actn := if gateErr c f == 0 then gateStep f else zeroAct

theorem gateErr_ok {c : Cfg} {f : Frm} (h : (gateErr c f == 0) = true) : partOk c = true ∧ c.object = 3 ∧ gateMay c f = true := by
  unfold gateErr at h
  split at h
  · rename_i h1
    split at h
    · rename_i h2
      simp at h1
      exact ⟨h1.1, h1.2, h2⟩
    · simp at h
  · simp at h
theorem gateMay_pc {c : Cfg} {f : Frm} (h : gateMay c f = true) : f.pc = 0 ∨ f.pc = 20 ∨ (f.pc = 2 ∧ f.kind ≠ 11) ∨ (f.pc = 21 ∧ f.kind = 10) ∨ (f.pc = 22 ∧ f.kind = 9) := by
  simp [gateMay, gatePc] at h
  omega

theorem gateErr_conf {c : Cfg} {f : Frm} (h : partOk c = false) : gateErr c f = 40 := by simp [gateErr, h]
theorem gateErr_obj {c : Cfg} {f : Frm} (h : (c.object == 3) = false) : gateErr c f = 40 := by simp [gateErr, h]
theorem gateErr_arg {c : Cfg} {f : Frm} (h : partOk c = true) (h1 : (c.object == 3) = true) (h2 : gateMay c f = false) : gateErr c f = 2 := by simp [gateErr, h, h1, h2]
theorem gateErr_yes {c : Cfg} {f : Frm} (h : partOk c = true) (h1 : (c.object == 3) = true) (h2 : gateMay c f = true) : gateErr c f = 0 := by simp [gateErr, h, h1, h2]

theorem gateNext_no {c : Cfg} {f : Frm} (h : (gateErr c f == 0) = false) : gateNextA c f = zeroAct := by simp [gateNextA, h]
theorem gateNext_yes {c : Cfg} {f : Frm} (h : (gateErr c f == 0) = true) : gateNextA c f = gateStep f := by simp [gateNextA, h]

end Go.Proofs.YtaijkpfgnlkppaaDoor
