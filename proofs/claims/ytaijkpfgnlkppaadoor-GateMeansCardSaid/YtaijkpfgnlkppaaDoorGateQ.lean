/- Plain: the frame behind an act, of the program of a set of access rules; no program in sight. -/
import Derived.Test.YtaijkpfgnlkppaaDoorGateP
namespace Go.Proofs.YtaijkpfgnlkppaaDoor
open Go Go.RowKit

/-- A frame that has read all there is. -/
def gateOver (f : Frm) : Frm :=
  if f.kind == 9 then { f with x := 0, pc := if f.h == 1 then 2 else 22 }
  else if f.kind == 10 then { f with pc := 21 } else { f with pc := 20 }

/-- On to the next cell. -/
def gateMore (c : Cfg) (f : Frm) : Frm := if f.i + 1 == c.cap then gateOver f else { f with i := f.i + 1 }

def gateThere (f : Frm) (l : Cel) : Bool := !(l.a == 0) && l.b == f.a && l.c == f.b
def gateSpeaks (f : Frm) (l : Cel) : Bool := !(l.a == 0) && (l.b == 0 || l.b == f.a) && (l.c == 0 || l.c == f.b)

def gateSeek (c : Cfg) (f : Frm) (l : Cel) : Frm :=
  if f.kind == 11 then
    (if gateSpeaks f l then (if l.a == 2 then { f with x := 2, pc := 20 } else gateMore c { f with x := 1 }) else gateMore c f)
  else if gateThere f l then { f with x := l.a % 4294967296, j := f.i, pc := 2 }
  else if f.kind == 9 && l.a == 0 && f.h == 0 then gateMore c { f with j := f.i, h := 1 }
  else gateMore c f

def gateBehind (c : Cfg) (f : Frm) (l : Cel) : Frm := if f.pc == 0 then gateSeek c f l else if f.pc == 2 then { f with pc := 20 } else f

def gateAfterA (c : Cfg) (f : Frm) (l : Cel) : Frm := if gateErr c f == 0 then gateBehind c f l else zeroFrm

theorem ret_frm {k a b p i j n q h x y : Int} {g : Frm} (e : Frm.mk k a b p i j n q h x y = g) :
    Ending.returned (.agg #[.int .u8 k, .int .u32 a, .int .u32 b, .int .u8 p, .int .u8 i, .int .u8 j, .int .u8 n, .int .u8 q, .int .u8 h, .int .u32 x, .int .u32 y]) = .returned g.v := by
  subst e; rfl
theorem gateMay_facts {c : Cfg} {f : Frm} (h : gateMay c f = true) : opErr c (gateOp f) = 0 ∧ f.i < c.cap ∧ f.j < c.cap ∧ f.h ≤ 1 := by
  simp [gateMay] at h
  omega
theorem gateMay_kind {c : Cfg} {f : Frm} (h : gateMay c f = true) (hp : partOk c = true) (ho : (c.object == 3) = true) : f.kind = 9 ∨ f.kind = 10 ∨ f.kind = 11 := by
  have h1 := (gateMay_facts h).1
  unfold opErr at h1
  simp only [hp, if_true] at h1
  split at h1
  · rename_i h2
    have h3 : objOf f.kind = 3 := by have : objOf f.kind = c.object := by simpa [gateOp] using h2
                                     have h4 : c.object = 3 := by simpa using ho
                                     omega
    unfold objOf at h3
    split at h3 <;> (try split at h3) <;> (try split at h3) <;> (try split at h3) <;> (try split at h3) <;> omega
  · omega

theorem gateAfter_no {c : Cfg} {f : Frm} {l : Cel} (h : (gateErr c f == 0) = false) : gateAfterA c f l = zeroFrm := by simp [gateAfterA, h]
theorem gateAfter_yes {c : Cfg} {f : Frm} {l : Cel} (h : (gateErr c f == 0) = true) : gateAfterA c f l = gateBehind c f l := by simp [gateAfterA, h]
end Go.Proofs.YtaijkpfgnlkppaaDoor
