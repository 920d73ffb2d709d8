/- Plain: the program of an index, as the document has it; no program in sight. -/
import Derived.Test.YtkklhhdkokncnaaDoorA0
namespace Go.Proofs.YtkklhhdkokncnaaDoor
open Go Go.RowKit
set_option maxRecDepth 100000
set_option maxHeartbeats 8000000

/-- How many items there are so many levels above so many. -/
def itN (w : Nat) : Nat → Nat → Nat
  | 0, m => m
  | h + 1, m => itN w h ((m + w - 1) / w)
def upI (n w h : Int) : Int := ((itN w.toNat h.toNat n.toNat : Nat) : Int)
/-- The top level of a row of many. -/
def topI (n w : Int) : Int := if upI n w 0 ≤ w then 0 else if upI n w 1 ≤ w then 1 else if upI n w 2 ≤ w then 2 else if upI n w 3 ≤ w then 3 else 4
/-- How many items there are below a level. -/
def sumI (n w : Int) : Nat → Int
  | 0 => 0
  | k + 1 => sumI n w k + upI n w k
def offI (n w h i : Int) : Int := if 0 ≤ h ∧ h ≤ topI n w ∧ 0 ≤ i ∧ i < upI n w h then 1 + sumI n w h.toNat + i else -1
/-- The place, on the level below, of the last item that an item is for. -/
def endI (n w h i : Int) : Int := if (i + 1) * w ≤ upI n w (h - 1) then (i + 1) * w - 1 else upI n w (h - 1) - 1

def treTop (c : Cfg) : Int := topI c.cap c.node
def treOff (c : Cfg) (h i : Int) : Int := offI c.cap c.node h i
def treUp (c : Cfg) (n h : Int) : Int := upI n c.node h
def treOp (f : Frm) : Opn := ⟨f.kind, f.a, if f.kind == 5 then 0 else f.b, 0⟩

/-- Has the table such a Pc for a kind? -/
def treHas (f : Frm) : Bool :=
  f.pc == 0 || f.pc == 1 || (f.pc == 3 && f.kind == 7) || ((f.pc == 4 || f.pc == 5 || f.pc == 6 || f.pc == 7 || f.pc == 22 || f.pc == 24) && f.kind == 4) ||
  ((f.pc == 8 || f.pc == 9 || f.pc == 11) && (f.kind == 4 || f.kind == 5)) || ((f.pc == 12 || f.pc == 13 || f.pc == 14 || f.pc == 15 || f.pc == 25) && f.kind == 5) ||
  ((f.pc == 16 || f.pc == 17) && f.kind == 8) || (f.pc == 20 && (f.kind == 7 || f.kind == 8)) || (f.pc == 21 && (f.kind == 6 || f.kind == 7 || f.kind == 5)) ||
  (f.pc == 23 && (f.kind == 6 || f.kind == 4))

/-- Are a frame's numbers as they should be? -/
def treNum (c : Cfg) (f : Frm) : Bool :=
  decide (f.n ≤ c.cap) && decide (f.p ≤ c.cap) && decide (f.j ≤ c.chunk) && decide (f.h ≤ treTop c) && !(!(f.pc == 16) && f.j == c.chunk) &&
  (if f.pc == 6 then decide (1 ≤ f.i) else if f.pc == 9 || f.pc == 11 then decide (1 ≤ f.h) && decide (f.i < treUp c f.n f.h) else if f.pc == 12 then decide (1 ≤ f.h) else true)

def treStep (c : Cfg) (f : Frm) : Actn :=
  if f.pc == 0 then ⟨1, 0, 0, 0, 0, 0, 0⟩
  else if f.pc == 1 then ⟨1, treOff c f.h f.i, 0, 0, 0, 0, 0⟩
  else if f.pc == 3 then ⟨1, treOff c 0 (f.p - 1), 0, 0, 0, 0, 0⟩
  else if f.pc == 4 || f.pc == 7 then ⟨2, treOff c 0 f.p, f.a, f.b, 0, 0, 0⟩
  else if f.pc == 5 then ⟨1, treOff c 0 (f.i - 1), 0, 0, 0, 0, 0⟩
  else if f.pc == 6 then ⟨2, treOff c 0 f.i, f.x, f.y, 0, 0, 0⟩
  else if f.pc == 8 then ⟨2, 0, f.n, 0, 0, 0, 0⟩
  else if f.pc == 9 then ⟨1, treOff c (f.h - 1) (endI f.n c.node f.h f.i), 0, 0, 0, 0, 0⟩
  else if f.pc == 11 then ⟨2, treOff c f.h f.i, f.x, 0, 0, 0, 0⟩
  else if f.pc == 12 then ⟨2, treOff c f.h (treUp c f.n f.h), 0, 0, 0, 0, 0⟩
  else if f.pc == 13 then ⟨1, treOff c 0 f.i, 0, 0, 0, 0, 0⟩
  else if f.pc == 14 then ⟨2, treOff c 0 (f.i - 1), f.x, f.y, 0, 0, 0⟩
  else if f.pc == 15 then ⟨2, treOff c 0 (f.n - 1), 0, 0, 0, 0, 0⟩
  else if f.pc == 16 then ⟨3, 0, 0, 0, 0, 0, 0⟩
  else if f.pc == 17 then ⟨1, treOff c 0 f.p, 0, 0, 0, 0, 0⟩
  else if f.pc == 21 then ⟨4, 0, 0, 0, 0, 6, 0⟩
  else if f.pc == 22 then ⟨4, 0, 0, 0, 0, 9, 0⟩
  else if f.pc == 23 then ⟨4, 0, 0, 0, 0, 0, (f.y + 1) % 4294967296⟩
  else if f.pc == 25 then ⟨4, 0, 0, 0, 0, 0, f.b⟩
  else ⟨4, 0, 0, 0, 0, 0, 0⟩

def treMay (c : Cfg) (f : Frm) : Bool := opErr c (treOp f) == 0 && treHas f && treNum c f && decide (0 ≤ (treStep c f).at')
def treErr (c : Cfg) (f : Frm) : Int := if partOk c && c.object == 2 then (if treMay c f then 0 else 2) else 40
def treNextA (c : Cfg) (f : Frm) : Actn := if treErr c f == 0 then treStep c f else zeroAct

/-- A cell is taken over. -/
def treOver (f : Frm) (l : Cel) : Frm := { f with x := l.a % 4294967296, y := l.b % 4294967296 }
def treFresh (c : Cfg) (f : Frm) : Frm := if c.cap ≤ f.n then { f with pc := 22 } else if f.n ≤ f.p then { f with pc := 7 } else { f with pc := 5, i := f.n }
def treGo (f : Frm) : Frm := if f.n ≤ f.p + 1 then { f with pc := 20 } else { f with pc := 17, p := f.p + 1 }
/-- A scan's frame behind it took a cell over, and whether a row is told. -/
def treOn (c : Cfg) (f : Frm) : Frm × Bool :=
  if f.b < f.x then ({ f with pc := 20 }, false)
  else if c.chunk ≤ f.j + 1 then ({ f with j := f.j + 1, pc := 16 }, true) else (treGo { f with j := f.j + 1 }, true)
def treFound (c : Cfg) (f : Frm) : Frm × Bool :=
  if f.kind == 6 then (if f.x == f.a then ({ f with pc := 23 }, false) else ({ f with pc := 21 }, false))
  else if f.kind == 7 then (if f.x == f.a then ({ f with pc := 20 }, true) else if f.p == 0 then ({ f with pc := 21 }, false) else ({ f with pc := 3 }, false))
  else if f.kind == 8 then treOn c f
  else if f.kind == 4 then (if f.x == f.a then ({ f with pc := 4 }, false) else (treFresh c f, false))
  else (if f.x == f.a then (if f.n ≤ f.p + 1 then ({ f with b := (f.y + 1) % 4294967296, pc := 15 }, false) else ({ f with b := (f.y + 1) % 4294967296, pc := 13, i := f.p + 1 }, false)) else ({ f with pc := 21 }, false))
def treNone (c : Cfg) (f : Frm) : Frm :=
  if f.kind == 4 then treFresh c { f with p := f.n } else if f.kind == 8 then { f with p := f.n, pc := 20 }
  else if f.kind == 7 then (if f.n == 0 then { f with p := f.n, pc := 21 } else { f with p := f.n, pc := 3 }) else { f with p := f.n, pc := 21 }
def treClears (c : Cfg) (f : Frm) : Bool := f.kind == 5 && decide (treUp c f.n f.h < treUp c (if f.n < c.cap then f.n + 1 else f.n) f.h)
/-- Where an item of a level stands on the one above, so many times. -/
def divI (w : Int) : Nat → Int → Int
  | 0, p => p
  | k + 1, p => divI w k (p / w)
/-- 'up': so many levels are left. -/
def treClimb (c : Cfg) : Nat → Frm → Frm
  | 0, f => if f.kind == 4 then { f with pc := 24 } else { f with pc := 25 }
  | k + 1, f =>
    if divI c.node (f.h + 1).toNat f.p < treUp c f.n (f.h + 1) then { f with h := f.h + 1, i := divI c.node (f.h + 1).toNat f.p, pc := 9 }
    else if treClears c { f with h := f.h + 1 } then { f with h := f.h + 1, i := divI c.node (f.h + 1).toNat f.p, pc := 12 }
    else treClimb c k { f with h := f.h + 1, i := divI c.node (f.h + 1).toNat f.p }
def treUpw (c : Cfg) (f : Frm) : Frm := treClimb c (treTop c - f.h).toNat f
def treItem (c : Cfg) (f : Frm) (l : Cel) : Frm × Bool :=
  if f.a ≤ l.a then (if f.h == 0 then treFound c (treOver { f with p := f.i } l) else ({ f with h := f.h - 1, i := f.i * c.node % 256 }, false))
  else if (f.i + 1) % c.node == 0 || decide (treUp c f.n f.h ≤ f.i + 1) then (treNone c f, false) else ({ f with i := f.i + 1 }, false)

/-- The frame behind the act of one that may be, where it read a cell, and whether a row is told. -/
def treBehind (c : Cfg) (f : Frm) (l : Cel) : Frm × Bool :=
  if f.pc == 0 then
    (if (if l.a < c.cap then l.a else c.cap) == 0 then (treNone c { f with n := 0 }, false)
     else ({ f with n := (if l.a < c.cap then l.a else c.cap), h := treTop c, i := 0, pc := 1 }, false))
  else if f.pc == 1 then treItem c f l
  else if f.pc == 3 then ({ treOver f l with pc := 20 }, true)
  else if f.pc == 4 then ({ f with pc := 23 }, false)
  else if f.pc == 5 then ({ treOver f l with pc := 6 }, false)
  else if f.pc == 6 then (if f.i - 1 ≤ f.p then ({ f with i := f.i - 1, pc := 7 }, false) else ({ f with i := f.i - 1, pc := 5 }, false))
  else if f.pc == 7 then ({ f with n := f.n + 1, pc := 8 }, false)
  else if f.pc == 8 then (treUpw c { f with h := 0 }, false)
  else if f.pc == 9 then ({ treOver f l with pc := 11 }, false)
  else if f.pc == 11 then
    (if f.i + 1 < treUp c f.n f.h then ({ f with i := f.i + 1, pc := 9 }, false)
     else if treClears c f then ({ f with i := f.i + 1, pc := 12 }, false) else (treUpw c { f with i := f.i + 1, pc := 9 }, false))
  else if f.pc == 12 then (treUpw c f, false)
  else if f.pc == 13 then ({ treOver f l with pc := 14 }, false)
  else if f.pc == 14 then (if f.n ≤ f.i + 1 then ({ f with i := f.i + 1, pc := 15 }, false) else ({ f with i := f.i + 1, pc := 13 }, false))
  else if f.pc == 15 then ({ f with n := f.n - 1, pc := 8 }, false)
  else if f.pc == 16 then (treGo { f with j := 0 }, false)
  else if f.pc == 17 then treOn c (treOver f l)
  else (f, false)
def treAfterA (c : Cfg) (f : Frm) (l : Cel) : Frm × Bool := if treErr c f == 0 then treBehind c f l else (zeroFrm, false)
end Go.Proofs.YtkklhhdkokncnaaDoor
/- Plain: a frame's error, layer 'tree'. -/
namespace Go.Proofs.YtkklhhdkokncnaaDoor
open Go Go.RowKit
set_option maxRecDepth 100000
set_option maxHeartbeats 8000000

theorem treErr_conf {c : Cfg} {f : Frm} (h : partOk c = false) : treErr c f = 40 := by simp [treErr, h]
theorem treErr_obj {c : Cfg} {f : Frm} (h : (c.object == 2) = false) : treErr c f = 40 := by simp [treErr, h]
theorem treErr_arg {c : Cfg} {f : Frm} (h : partOk c = true) (h1 : (c.object == 2) = true) (h2 : treMay c f = false) : treErr c f = 2 := by simp [treErr, h, h1, h2]
theorem treErr_yes {c : Cfg} {f : Frm} (h : partOk c = true) (h1 : (c.object == 2) = true) (h2 : treMay c f = true) : treErr c f = 0 := by simp [treErr, h, h1, h2]
theorem treErr_ok {c : Cfg} {f : Frm} (h : treErr c f = 0) : partOk c = true ∧ c.object = 2 ∧ treMay c f = true := by
  unfold treErr at h
  split at h
  · rename_i h1
    simp at h1
    split at h
    · rename_i h2
      exact ⟨h1.1, h1.2, h2⟩
    · cases h
  · cases h
theorem treMay_facts {c : Cfg} {f : Frm} (h : treMay c f = true) : opErr c (treOp f) = 0 ∧ treHas f = true ∧ treNum c f = true ∧ 0 ≤ (treStep c f).at' := by
  simp only [treMay, Bool.and_eq_true, beq_iff_eq, decide_eq_true_eq] at h
  exact ⟨h.1.1.1, h.1.1.2, h.1.2, h.2⟩
end Go.Proofs.YtkklhhdkokncnaaDoor
