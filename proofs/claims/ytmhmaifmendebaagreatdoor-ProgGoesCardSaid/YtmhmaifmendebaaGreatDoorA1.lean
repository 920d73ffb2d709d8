/- Plain: the program of a table of routes, as the document has it; no program in sight. -/
import Derived.Test.YtmhmaifmendebaaGreatDoorA0
import Derived.Laws.BitsAllLaws
import Derived.Laws.ShiftsVarLaws
namespace Go.Proofs.YtmhmaifmendebaaGreatDoor.trie
open Go Go.RowKit
set_option maxRecDepth 100000
set_option maxHeartbeats 8000000

/-- The operation of a frame. -/
def trOp (f : Frm) : Opn := ⟨f.kind, f.a, f.b, if f.kind == 1 then f.y else 0⟩
theorem trOp_fits {f : Frm} (h : f.Fits) : (trOp f).Fits := ⟨h.kind, h.a, h.b, by unfold trOp; have := h.y; dsimp only; split <;> omega⟩
/-- How many bits a frame's path has. -/
def trMost (c : Cfg) (f : Frm) : Int := if f.kind == 3 then c.bits else f.b
/-- Has the table the Pc for the kind? -/
def trThere (k p : Int) : Bool :=
  if k == 1 then decide (p ≤ 3) || (decide (5 ≤ p) && decide (p ≤ 7)) else if k == 2 then p == 0 || p == 2 || p == 3 || p == 6 || p == 8 else p == 0 || p == 6 || p == 8
def trMay (c : Cfg) (f : Frm) : Bool := opErr c (trOp f) == 0 && trThere f.kind f.pc && decide (f.h ≤ trMost c f)
def trErr (c : Cfg) (f : Frm) : Int := if partOk c && c.object == 1 then (if trMay c f then 0 else 2) else 40
/-- The node of a path's bits, all of them, and as many as the frame has come down. -/
def trM (c : Cfg) (f : Frm) : Int := 2 ^ (trMost c f).toNat + f.a
def trD (c : Cfg) (f : Frm) : Int := trM c f / 2 ^ (trMost c f - f.h).toNat
def trStep (c : Cfg) (f : Frm) : Actn :=
  if f.pc == 0 then ⟨1, if f.kind == 3 then trD c f else trM c f, 0, 0, 0, 0, 0⟩
  else if f.pc == 1 then ⟨1, 1, 0, 0, 0, 0, 0⟩
  else if f.pc == 2 then ⟨1, trD c f, 0, 0, 0, 0, 0⟩
  else if f.pc == 3 then ⟨2, trD c f, if f.h == f.b then (if f.kind == 2 then 0 else f.y + 1) else f.x, if f.kind == 2 then (f.n + 63) % 64 else (f.n + 1) % 64, 0, 0, 0⟩
  else if f.pc == 5 then ⟨2, trM c f, f.y + 1, f.n % 64, 0, 0, 0⟩
  else if f.pc == 6 then ⟨4, 0, 0, 0, 0, 0, f.x⟩
  else if f.pc == 7 then ⟨4, 0, 0, 0, 0, 9, 0⟩
  else ⟨4, 0, 0, 0, 0, 6, 0⟩
def trNextA (c : Cfg) (f : Frm) : Actn := if trErr c f == 0 then trStep c f else zeroAct
/-- A look-up's frame behind it read a cell. -/
def trLooked (c : Cfg) (f : Frm) (own : Int) (l : Cel) : Frm :=
  if f.h < c.bits ∧ own < l.b then { f with h := f.h + 1 } else if f.x == 0 then { f with pc := 8 } else { f with pc := 6 }
def trLook (c : Cfg) (f : Frm) (l : Cel) : Frm :=
  if l.a % 4294967296 == 0 then trLooked c f 0 l else trLooked c { f with x := l.a % 4294967296 } 1 l
def trBehind (c : Cfg) (f : Frm) (l : Cel) : Frm :=
  if f.kind == 3 then (if f.pc == 0 then trLook c f l else f)
  else if f.pc == 0 then
    (if f.kind == 1 then (if l.a % 4294967296 == 0 then { f with x := l.a % 4294967296, n := l.b % 64, pc := 1 } else { f with x := l.a % 4294967296, n := l.b % 64, pc := 5 })
     else (if l.a % 4294967296 == 0 then { f with x := l.a % 4294967296, n := l.b % 64, pc := 8 } else { f with x := l.a % 4294967296, n := l.b % 64, pc := 2, h := 0 }))
  else if f.pc == 1 then (if l.b < c.cap then { f with pc := 2, h := 0 } else { f with pc := 7 })
  else if f.pc == 2 then { f with x := l.a % 4294967296, n := l.b % 64, pc := 3 }
  else if f.pc == 3 then (if f.h == f.b then { f with pc := 6 } else { f with pc := 2, h := f.h + 1 })
  else if f.pc == 5 then { f with pc := 6 } else f
def trAfterA (c : Cfg) (f : Frm) (l : Cel) : Frm := if trErr c f == 0 then trBehind c f l else zeroFrm

theorem trErr_conf {c : Cfg} {f : Frm} (h : partOk c = false) : trErr c f = 40 := by simp [trErr, h]
theorem trErr_obj {c : Cfg} {f : Frm} (h : (c.object == 1) = false) : trErr c f = 40 := by simp [trErr, h]
theorem trErr_arg {c : Cfg} {f : Frm} (h : partOk c = true) (h1 : (c.object == 1) = true) (h2 : trMay c f = false) : trErr c f = 2 := by simp [trErr, h, h1, h2]
theorem trErr_yes {c : Cfg} {f : Frm} (h : partOk c = true) (h1 : (c.object == 1) = true) (h2 : trMay c f = true) : trErr c f = 0 := by simp [trErr, h, h1, h2]
theorem trErr_ok {c : Cfg} {f : Frm} (h : trErr c f = 0) : partOk c = true ∧ c.object = 1 ∧ trMay c f = true := by
  unfold trErr at h
  split at h
  · rename_i h1
    simp at h1
    split at h
    · rename_i h2
      exact ⟨h1.1, h1.2, h2⟩
    · cases h
  · cases h

theorem opErr_part {c : Cfg} {o : Opn} (h : opErr c o = 0) : partOk c = true := by
  unfold opErr at h
  split at h
  · assumption
  · cases h
theorem opErr_kind {c : Cfg} {o : Opn} (h : opErr c o = 0) : objOf o.kind = c.object := by
  unfold opErr at h
  split at h
  · split at h
    · rename_i h2
      simpa using h2
    · cases h
  · cases h
theorem opErr_fits {c : Cfg} {o : Opn} (h : opErr c o = 0) : fitsB c o = true := by
  unfold opErr at h
  split at h
  · split at h
    · split at h
      · assumption
      · cases h
    · cases h
  · cases h
theorem objOf_one {k : Int} (h : objOf k = 1) : k = 1 ∨ k = 2 ∨ k = 3 := by
  unfold objOf at h
  split at h
  · cases h
  · split at h
    · omega
    · split at h
      · cases h
      · split at h
        · cases h
        · split at h <;> cases h
/-- What a frame that may be has. -/
structure TrFacts (c : Cfg) (f : Frm) : Prop where
  kind : f.kind = 1 ∨ f.kind = 2 ∨ f.kind = 3
  there : trThere f.kind f.pc = true
  h : f.h ≤ trMost c f
  most : 0 ≤ trMost c f ∧ trMost c f ≤ 6
  a : f.a < 2 ^ (trMost c f).toNat
  cap : 1 ≤ c.cap ∧ c.cap ≤ 32
  bits : 1 ≤ c.bits ∧ c.bits ≤ 6
theorem opErr_facts {c : Cfg} {f : Frm} (hf : f.Fits) (ho : c.object = 1) (h : opErr c (trOp f) = 0) : (f.kind = 1 ∨ f.kind = 2 ∨ f.kind = 3) ∧ (0 ≤ trMost c f ∧ trMost c f ≤ 6) ∧ f.a < 2 ^ (trMost c f).toNat ∧ (1 ≤ c.cap ∧ c.cap ≤ 32) ∧ 1 ≤ c.bits ∧ c.bits ≤ 6 := by
  have hp := opErr_part h
  have hk := opErr_kind h
  rw [ho] at hk
  have hk' := objOf_one hk
  have hft := opErr_fits h
  have hc := partOk_cap hp
  have hb : 1 ≤ c.bits ∧ c.bits ≤ 6 := by
    simp [partOk, within, ho] at hp
    omega
  have hfb := hf.b
  simp only [trOp] at hk' hft
  refine ⟨hk', ?_, ?_, hc, hb⟩
  · rcases hk' with hk | hk | hk <;> simp [fitsB, hk, prefixB, trMost] at hft ⊢ <;> omega
  · rcases hk' with hk | hk | hk <;> simp [fitsB, hk, prefixB, trMost] at hft ⊢
    all_goals first | exact hft.2.2 | exact hft.2 | exact hft
theorem trMay_facts {c : Cfg} {f : Frm} (hf : f.Fits) (ho : c.object = 1) (h : trMay c f = true) : TrFacts c f := by
  simp [trMay] at h
  obtain ⟨h1, h2, h3, h4, h5, h6⟩ := opErr_facts hf ho h.1.1
  exact ⟨h1, h.1.2, h.2, h2, h3, h4, ⟨h5, h6⟩⟩

theorem ofInt_i64 (a : Nat) (ha : a < 4611686018427387904) : (BitVec.ofInt 64 (a : Int)).toNat = a := by
  rw [BitVec.ofInt_natCast, BitVec.toNat_ofNat]; exact Nat.mod_eq_of_lt (by omega)
/-- A power of two, or'd with a number below it. -/
theorem or_pow (k : Nat) (hk : k ≤ 6) (a : Int) (h0 : 0 ≤ a) (h1 : a < 2 ^ k) : bits .or .i64 (2 ^ k) a = 2 ^ k + a := by
  obtain ⟨A, rfl⟩ := Int.eq_ofNat_of_zero_le h0
  have hA : A < 2 ^ k := by exact_mod_cast h1
  have hp : 2 ^ k ≤ 2 ^ 6 := Nat.pow_le_pow_right (by omega) hk
  have e : ((2 : Int) ^ k) = ((2 ^ k : Nat) : Int) := by simp
  have ho : 2 ^ k ||| A = 2 ^ k + A := by
    have := (Nat.two_pow_add_eq_or_of_lt hA 1).symm
    simpa using this
  rw [e]
  show IntKind.i64.wrap ((BitVec.ofInt 64 ((2 ^ k : Nat) : Int) ||| BitVec.ofInt 64 (A : Int)).toNat : Int) = _
  rw [BitVec.toNat_or, ofInt_i64 _ (by omega), ofInt_i64 _ (by omega), ho, IntKind.wrap_i64]
  omega
theorem or_pow' (b : Int) (hb : 0 ≤ b ∧ b ≤ 6) (a : Int) (h0 : 0 ≤ a) (h1 : a < 2 ^ b.toNat) : bits .or .i64 (2 ^ b.toNat) a = 2 ^ b.toNat + a := or_pow b.toNat (by omega) a h0 h1
end Go.Proofs.YtmhmaifmendebaaGreatDoor.trie
/- Plain: the program of a tree of settings, as the document has it; no program in sight. -/
namespace Go.Proofs.YtmhmaifmendebaaGreatDoor.branch
open Go Go.RowKit
set_option maxRecDepth 100000
set_option maxHeartbeats 8000000

/-- The operation of a frame. -/
def brOp (f : Frm) : Opn := ⟨f.kind, f.a, f.b, if f.kind == 12 then f.y else 0⟩
theorem brOp_fits {f : Frm} (h : f.Fits) : (brOp f).Fits := ⟨h.kind, h.a, h.b, by unfold brOp; have := h.y; dsimp only; split <;> omega⟩

/-- A path's names, and how many there are. -/
def brName (f : Frm) (n : Int) : Int := if n == 0 then f.a % 65536 else if n == 1 then f.a / 65536 else if n == 2 then f.b else 0
def brLong (f : Frm) : Int := if f.a % 65536 == 0 then 0 else if f.a / 65536 == 0 then 1 else if f.b == 0 then 2 else 3
def brMany (f : Frm) : Int := (if f.a % 65536 == 0 then 0 else 1) + (if f.a / 65536 == 0 then 0 else 1) + (if f.b == 0 then 0 else 1)

/-- Has the table the Pc for the kind? -/
def brHas (f : Frm) : Bool :=
  f.pc == 0 || f.pc == 20 || ((f.pc == 2 || f.pc == 3 || f.pc == 4 || f.pc == 22) && f.kind == 12) || ((f.pc == 5 || f.pc == 6 || f.pc == 23) && f.kind == 13) ||
  (f.pc == 21 && !(f.kind == 12))

/-- Where the cell stands that the act names. -/
def brAt (f : Frm) : Int :=
  if f.pc == 0 || f.pc == 3 || f.pc == 5 then f.i else if f.pc == 2 then f.j else if f.pc == 4 || f.pc == 6 then f.p - 1 else 0

/-- May a frame be? -/
def brMay (c : Cfg) (f : Frm) : Bool :=
  opErr c (brOp f) == 0 && brHas f && decide (f.i ≤ c.cap) && decide (f.j ≤ c.cap) && decide (f.n ≤ c.cap) && decide (f.p ≤ c.cap) && decide (f.h ≤ brLong f) &&
  !((f.pc == 0 || f.pc == 2) && f.h == brLong f) && !(f.pc == 0 && decide (f.i < f.n)) && decide (0 ≤ brAt f) && decide (brAt f < c.cap)

def brErr (c : Cfg) (f : Frm) : Int := if partOk c && c.object == 4 then (if brMay c f then 0 else 2) else 40

def brStep (f : Frm) : Actn :=
  if f.pc == 0 || f.pc == 3 || f.pc == 5 then ⟨1, f.i, 0, 0, 0, 0, 0⟩
  else if f.pc == 2 then ⟨2, f.j, f.p + 1, brName f f.h, if f.h + 1 == brLong f then f.y + 1 else 0, 0, 0⟩
  else if f.pc == 4 then ⟨2, f.p - 1, f.j + 1, brName f (brLong f - 1), f.y + 1, 0, 0⟩
  else if f.pc == 6 then ⟨2, f.p - 1, 0, 0, 0, 0, 0⟩
  else if f.pc == 20 then ⟨4, 0, 0, 0, 0, 0, f.x⟩
  else if f.pc == 21 then ⟨4, 0, 0, 0, 0, 6, 0⟩
  else if f.pc == 22 then ⟨4, 0, 0, 0, 0, 9, 0⟩
  else ⟨4, 0, 0, 0, 0, 90, 0⟩

def brNextA (c : Cfg) (f : Frm) : Actn := if brErr c f == 0 then brStep f else zeroAct

/-- On a path the two counts are one. -/
theorem brMany_long {f : Frm} (h : pathB f.a f.b = true) : brMany f = brLong f := by
  simp [pathB] at h
  unfold brMany brLong
  by_cases h1 : f.a % 65536 = 0 <;> by_cases h2 : f.a / 65536 = 0 <;> by_cases h3 : f.b = 0 <;> simp_all
theorem fits_path {c : Cfg} {o : Opn} (h : fitsB c o = true) (hk : 12 ≤ o.kind) : pathB o.a o.b = true := by
  unfold fitsB at h
  have : ¬ o.kind = 1 ∧ ¬ o.kind = 2 ∧ ¬ o.kind = 3 ∧ ¬ o.kind = 4 ∧ ¬ o.kind = 8 ∧ ¬ o.kind = 5 ∧ ¬ o.kind = 6 ∧ ¬ o.kind = 7 ∧ ¬ o.kind = 9 ∧ ¬ o.kind = 10 ∧ ¬ o.kind = 11 := by omega
  simp [this] at h
  by_cases h12 : o.kind = 12 <;> simp [h12] at h <;> exact h.2

/-- Behind it read the next node. -/
def brFound (f : Frm) (l : Cel) : Frm :=
  if f.h + 1 < brLong f then { f with x := l.c % 4294967296, j := f.p, p := f.i + 1, h := f.h + 1, i := 0, n := 0 }
  else if f.kind == 12 then { f with x := l.c % 4294967296, j := f.p, p := f.i + 1, h := f.h + 1, pc := 4 }
  else if f.kind == 13 then { f with x := l.c % 4294967296, j := f.p, p := f.i + 1, h := f.h + 1, pc := 5, i := 0 }
  else if l.c % 4294967296 == 0 then { f with x := l.c % 4294967296, j := f.p, p := f.i + 1, h := f.h + 1, pc := 21 }
  else { f with x := l.c % 4294967296, j := f.p, p := f.i + 1, h := f.h + 1, pc := 20 }

/-- Behind the last cell, or on to the next one. -/
def brMore (c : Cfg) (f : Frm) : Frm :=
  if f.i + 1 < c.cap then { f with i := f.i + 1 }
  else if f.kind == 12 then (if f.n < brLong f - f.h then { f with pc := 22 } else { f with pc := 2 }) else { f with pc := 21 }

/-- Behind it read another cell than the next node's. -/
def brOther (c : Cfg) (f : Frm) (l : Cel) : Frm :=
  if l.a == 0 then (if f.n == 0 then brMore c { f with j := f.i, n := f.n + 1 } else brMore c { f with n := f.n + 1 }) else brMore c f

/-- Behind it made a node. -/
def brMade (c : Cfg) (f : Frm) : Frm :=
  if f.h + 1 == brLong f then { f with p := f.j + 1, h := f.h + 1, x := 0, pc := 20 }
  else if f.j + 1 < c.cap then { f with p := f.j + 1, h := f.h + 1, pc := 3, i := f.j + 1 } else { f with p := f.j + 1, h := f.h + 1, pc := 22 }

def brBehind (c : Cfg) (f : Frm) (l : Cel) : Frm :=
  if f.pc == 0 then (if l.a == f.p + 1 && l.b == brName f f.h then brFound f l else brOther c f l)
  else if f.pc == 2 then brMade c f
  else if f.pc == 3 then (if l.a == 0 then { f with j := f.i, pc := 2 } else if f.i + 1 < c.cap then { f with i := f.i + 1 } else { f with pc := 22 })
  else if f.pc == 5 then (if l.a == f.p + 1 then { f with pc := 23 } else if f.i + 1 < c.cap then { f with i := f.i + 1 } else { f with pc := 6 })
  else if f.pc == 4 || f.pc == 6 then { f with pc := 20 } else f

def brAfterA (c : Cfg) (f : Frm) (l : Cel) : Frm := if brErr c f == 0 then brBehind c f l else zeroFrm
end Go.Proofs.YtmhmaifmendebaaGreatDoor.branch
/- Plain: the program of a set of access rules, as the document has it; no program in sight. -/
namespace Go.Proofs.YtmhmaifmendebaaGreatDoor.gate
open Go Go.RowKit
set_option maxRecDepth 100000
set_option maxHeartbeats 8000000

/-- The operation of a frame. -/
def gateOp (f : Frm) : Opn := ⟨f.kind, f.a, f.b, if f.kind == 9 then f.y else 0⟩
theorem gateOp_fits {f : Frm} (h : f.Fits) : (gateOp f).Fits := ⟨h.kind, h.a, h.b, by unfold gateOp; have := h.y; dsimp only; split <;> omega⟩

/-- Has the table the Pc for the kind? -/
def gatePc (f : Frm) : Bool := f.pc == 0 || f.pc == 20 || (f.pc == 2 && !(f.kind == 11)) || (f.pc == 21 && f.kind == 10) || (f.pc == 22 && f.kind == 9)

/-- May a frame be? -/
def gateMay (c : Cfg) (f : Frm) : Bool := opErr c (gateOp f) == 0 && decide (f.i < c.cap) && decide (f.j < c.cap) && decide (f.h ≤ 1) && gatePc f

def gateErr (c : Cfg) (f : Frm) : Int := if partOk c && c.object == 3 then (if gateMay c f then 0 else 2) else 40

def gateStep (f : Frm) : Actn :=
  if f.pc == 0 then ⟨1, f.i, 0, 0, 0, 0, 0⟩
  else if f.pc == 2 then (if f.kind == 9 then ⟨2, f.j, f.y, f.a, f.b, 0, 0⟩ else ⟨2, f.j, 0, 0, 0, 0, 0⟩)
  else if f.pc == 20 then ⟨4, 0, 0, 0, 0, 0, f.x⟩
  else if f.pc == 21 then ⟨4, 0, 0, 0, 0, 6, 0⟩
  else ⟨4, 0, 0, 0, 0, 9, 0⟩

def gateNextA (c : Cfg) (f : Frm) : Actn := if gateErr c f == 0 then gateStep f else zeroAct

theorem gateErr_ok {c : Cfg} {f : Frm} (h : (gateErr c f == 0) = true) : partOk c = true ∧ c.object = 3 ∧ gateMay c f = true := by
  unfold gateErr at h
  split at h
  · rename_i h1
    split at h
    · rename_i h2
      simp at h1
      exact ⟨h1.1, h1.2, h2⟩
    · simp at h
  · simp at h
theorem gateMay_pc {c : Cfg} {f : Frm} (h : gateMay c f = true) : f.pc = 0 ∨ f.pc = 20 ∨ (f.pc = 2 ∧ f.kind ≠ 11) ∨ (f.pc = 21 ∧ f.kind = 10) ∨ (f.pc = 22 ∧ f.kind = 9) := by
  simp [gateMay, gatePc] at h
  omega

theorem gateErr_conf {c : Cfg} {f : Frm} (h : partOk c = false) : gateErr c f = 40 := by simp [gateErr, h]
theorem gateErr_obj {c : Cfg} {f : Frm} (h : (c.object == 3) = false) : gateErr c f = 40 := by simp [gateErr, h]
theorem gateErr_arg {c : Cfg} {f : Frm} (h : partOk c = true) (h1 : (c.object == 3) = true) (h2 : gateMay c f = false) : gateErr c f = 2 := by simp [gateErr, h, h1, h2]
theorem gateErr_yes {c : Cfg} {f : Frm} (h : partOk c = true) (h1 : (c.object == 3) = true) (h2 : gateMay c f = true) : gateErr c f = 0 := by simp [gateErr, h, h1, h2]

theorem gateNext_no {c : Cfg} {f : Frm} (h : (gateErr c f == 0) = false) : gateNextA c f = zeroAct := by simp [gateNextA, h]
theorem gateNext_yes {c : Cfg} {f : Frm} (h : (gateErr c f == 0) = true) : gateNextA c f = gateStep f := by simp [gateNextA, h]

end Go.Proofs.YtmhmaifmendebaaGreatDoor.gate
/- Plain: the frame behind an act, of the program of a set of access rules; no program in sight. -/
namespace Go.Proofs.YtmhmaifmendebaaGreatDoor.gate
open Go Go.RowKit
set_option maxRecDepth 100000
set_option maxHeartbeats 8000000

/-- A frame that has read all there is. -/
def gateOver (f : Frm) : Frm :=
  if f.kind == 9 then { f with x := 0, pc := if f.h == 1 then 2 else 22 }
  else if f.kind == 10 then { f with pc := 21 } else { f with pc := 20 }

/-- On to the next cell. -/
def gateMore (c : Cfg) (f : Frm) : Frm := if f.i + 1 == c.cap then gateOver f else { f with i := f.i + 1 }

def gateThere (f : Frm) (l : Cel) : Bool := !(l.a == 0) && l.b == f.a && l.c == f.b
def gateSpeaks (f : Frm) (l : Cel) : Bool := !(l.a == 0) && (l.b == 0 || l.b == f.a) && (l.c == 0 || l.c == f.b)

def gateSeek (c : Cfg) (f : Frm) (l : Cel) : Frm :=
  if f.kind == 11 then
    (if gateSpeaks f l then (if l.a == 2 then { f with x := 2, pc := 20 } else gateMore c { f with x := 1 }) else gateMore c f)
  else if gateThere f l then { f with x := l.a % 4294967296, j := f.i, pc := 2 }
  else if f.kind == 9 && l.a == 0 && f.h == 0 then gateMore c { f with j := f.i, h := 1 }
  else gateMore c f

def gateBehind (c : Cfg) (f : Frm) (l : Cel) : Frm := if f.pc == 0 then gateSeek c f l else if f.pc == 2 then { f with pc := 20 } else f

def gateAfterA (c : Cfg) (f : Frm) (l : Cel) : Frm := if gateErr c f == 0 then gateBehind c f l else zeroFrm

theorem ret_frm {k a b p i j n q h x y : Int} {g : Frm} (e : Frm.mk k a b p i j n q h x y = g) :
    Ending.returned (.agg #[.int .u8 k, .int .u32 a, .int .u32 b, .int .u8 p, .int .u8 i, .int .u8 j, .int .u8 n, .int .u8 q, .int .u8 h, .int .u32 x, .int .u32 y]) = .returned g.v := by
  subst e; rfl
theorem gateMay_facts {c : Cfg} {f : Frm} (h : gateMay c f = true) : opErr c (gateOp f) = 0 ∧ f.i < c.cap ∧ f.j < c.cap ∧ f.h ≤ 1 := by
  simp [gateMay] at h
  omega
theorem gateMay_kind {c : Cfg} {f : Frm} (h : gateMay c f = true) (hp : partOk c = true) (ho : (c.object == 3) = true) : f.kind = 9 ∨ f.kind = 10 ∨ f.kind = 11 := by
  have h1 := (gateMay_facts h).1
  unfold opErr at h1
  simp only [hp, if_true] at h1
  split at h1
  · rename_i h2
    have h3 : objOf f.kind = 3 := by have : objOf f.kind = c.object := by simpa [gateOp] using h2
                                     have h4 : c.object = 3 := by simpa using ho
                                     omega
    unfold objOf at h3
    split at h3 <;> (try split at h3) <;> (try split at h3) <;> (try split at h3) <;> (try split at h3) <;> omega
  · omega

theorem gateAfter_no {c : Cfg} {f : Frm} {l : Cel} (h : (gateErr c f == 0) = false) : gateAfterA c f l = zeroFrm := by simp [gateAfterA, h]
theorem gateAfter_yes {c : Cfg} {f : Frm} {l : Cel} (h : (gateErr c f == 0) = true) : gateAfterA c f l = gateBehind c f l := by simp [gateAfterA, h]
end Go.Proofs.YtmhmaifmendebaaGreatDoor.gate
/- Plain: the program of an index, as the document has it; no program in sight. -/
namespace Go.Proofs.YtmhmaifmendebaaGreatDoor.tree
open Go Go.RowKit
set_option maxRecDepth 100000
set_option maxHeartbeats 8000000

/-- How many items there are so many levels above so many. -/
def itN (w : Nat) : Nat → Nat → Nat
  | 0, m => m
  | h + 1, m => itN w h ((m + w - 1) / w)
def upI (n w h : Int) : Int := ((itN w.toNat h.toNat n.toNat : Nat) : Int)
/-- The top level of a row of many. -/
def topI (n w : Int) : Int := if upI n w 0 ≤ w then 0 else if upI n w 1 ≤ w then 1 else if upI n w 2 ≤ w then 2 else if upI n w 3 ≤ w then 3 else 4
/-- How many items there are below a level. -/
def sumI (n w : Int) : Nat → Int
  | 0 => 0
  | k + 1 => sumI n w k + upI n w k
def offI (n w h i : Int) : Int := if 0 ≤ h ∧ h ≤ topI n w ∧ 0 ≤ i ∧ i < upI n w h then 1 + sumI n w h.toNat + i else -1
/-- The place, on the level below, of the last item that an item is for. -/
def endI (n w h i : Int) : Int := if (i + 1) * w ≤ upI n w (h - 1) then (i + 1) * w - 1 else upI n w (h - 1) - 1

def treTop (c : Cfg) : Int := topI c.cap c.node
def treOff (c : Cfg) (h i : Int) : Int := offI c.cap c.node h i
def treUp (c : Cfg) (n h : Int) : Int := upI n c.node h
def treOp (f : Frm) : Opn := ⟨f.kind, f.a, if f.kind == 5 then 0 else f.b, 0⟩

/-- Has the table such a Pc for a kind? -/
def treHas (f : Frm) : Bool :=
  f.pc == 0 || f.pc == 1 || (f.pc == 3 && f.kind == 7) || ((f.pc == 4 || f.pc == 5 || f.pc == 6 || f.pc == 7 || f.pc == 22 || f.pc == 24) && f.kind == 4) ||
  ((f.pc == 8 || f.pc == 9 || f.pc == 11) && (f.kind == 4 || f.kind == 5)) || ((f.pc == 12 || f.pc == 13 || f.pc == 14 || f.pc == 15 || f.pc == 25) && f.kind == 5) ||
  ((f.pc == 16 || f.pc == 17) && f.kind == 8) || (f.pc == 20 && (f.kind == 7 || f.kind == 8)) || (f.pc == 21 && (f.kind == 6 || f.kind == 7 || f.kind == 5)) ||
  (f.pc == 23 && (f.kind == 6 || f.kind == 4))

/-- Are a frame's numbers as they should be? -/
def treNum (c : Cfg) (f : Frm) : Bool :=
  decide (f.n ≤ c.cap) && decide (f.p ≤ c.cap) && decide (f.j ≤ c.chunk) && decide (f.h ≤ treTop c) && !(!(f.pc == 16) && f.j == c.chunk) &&
  (if f.pc == 6 then decide (1 ≤ f.i) else if f.pc == 9 || f.pc == 11 then decide (1 ≤ f.h) && decide (f.i < treUp c f.n f.h) else if f.pc == 12 then decide (1 ≤ f.h) else true)

def treStep (c : Cfg) (f : Frm) : Actn :=
  if f.pc == 0 then ⟨1, 0, 0, 0, 0, 0, 0⟩
  else if f.pc == 1 then ⟨1, treOff c f.h f.i, 0, 0, 0, 0, 0⟩
  else if f.pc == 3 then ⟨1, treOff c 0 (f.p - 1), 0, 0, 0, 0, 0⟩
  else if f.pc == 4 || f.pc == 7 then ⟨2, treOff c 0 f.p, f.a, f.b, 0, 0, 0⟩
  else if f.pc == 5 then ⟨1, treOff c 0 (f.i - 1), 0, 0, 0, 0, 0⟩
  else if f.pc == 6 then ⟨2, treOff c 0 f.i, f.x, f.y, 0, 0, 0⟩
  else if f.pc == 8 then ⟨2, 0, f.n, 0, 0, 0, 0⟩
  else if f.pc == 9 then ⟨1, treOff c (f.h - 1) (endI f.n c.node f.h f.i), 0, 0, 0, 0, 0⟩
  else if f.pc == 11 then ⟨2, treOff c f.h f.i, f.x, 0, 0, 0, 0⟩
  else if f.pc == 12 then ⟨2, treOff c f.h (treUp c f.n f.h), 0, 0, 0, 0, 0⟩
  else if f.pc == 13 then ⟨1, treOff c 0 f.i, 0, 0, 0, 0, 0⟩
  else if f.pc == 14 then ⟨2, treOff c 0 (f.i - 1), f.x, f.y, 0, 0, 0⟩
  else if f.pc == 15 then ⟨2, treOff c 0 (f.n - 1), 0, 0, 0, 0, 0⟩
  else if f.pc == 16 then ⟨3, 0, 0, 0, 0, 0, 0⟩
  else if f.pc == 17 then ⟨1, treOff c 0 f.p, 0, 0, 0, 0, 0⟩
  else if f.pc == 21 then ⟨4, 0, 0, 0, 0, 6, 0⟩
  else if f.pc == 22 then ⟨4, 0, 0, 0, 0, 9, 0⟩
  else if f.pc == 23 then ⟨4, 0, 0, 0, 0, 0, (f.y + 1) % 4294967296⟩
  else if f.pc == 25 then ⟨4, 0, 0, 0, 0, 0, f.b⟩
  else ⟨4, 0, 0, 0, 0, 0, 0⟩

def treMay (c : Cfg) (f : Frm) : Bool := opErr c (treOp f) == 0 && treHas f && treNum c f && decide (0 ≤ (treStep c f).at')
def treErr (c : Cfg) (f : Frm) : Int := if partOk c && c.object == 2 then (if treMay c f then 0 else 2) else 40
def treNextA (c : Cfg) (f : Frm) : Actn := if treErr c f == 0 then treStep c f else zeroAct

/-- A cell is taken over. -/
def treOver (f : Frm) (l : Cel) : Frm := { f with x := l.a % 4294967296, y := l.b % 4294967296 }
def treFresh (c : Cfg) (f : Frm) : Frm := if c.cap ≤ f.n then { f with pc := 22 } else if f.n ≤ f.p then { f with pc := 7 } else { f with pc := 5, i := f.n }
def treGo (f : Frm) : Frm := if f.n ≤ f.p + 1 then { f with pc := 20 } else { f with pc := 17, p := f.p + 1 }
/-- A scan's frame behind it took a cell over, and whether a row is told. -/
def treOn (c : Cfg) (f : Frm) : Frm × Bool :=
  if f.b < f.x then ({ f with pc := 20 }, false)
  else if c.chunk ≤ f.j + 1 then ({ f with j := f.j + 1, pc := 16 }, true) else (treGo { f with j := f.j + 1 }, true)
def treFound (c : Cfg) (f : Frm) : Frm × Bool :=
  if f.kind == 6 then (if f.x == f.a then ({ f with pc := 23 }, false) else ({ f with pc := 21 }, false))
  else if f.kind == 7 then (if f.x == f.a then ({ f with pc := 20 }, true) else if f.p == 0 then ({ f with pc := 21 }, false) else ({ f with pc := 3 }, false))
  else if f.kind == 8 then treOn c f
  else if f.kind == 4 then (if f.x == f.a then ({ f with pc := 4 }, false) else (treFresh c f, false))
  else (if f.x == f.a then (if f.n ≤ f.p + 1 then ({ f with b := (f.y + 1) % 4294967296, pc := 15 }, false) else ({ f with b := (f.y + 1) % 4294967296, pc := 13, i := f.p + 1 }, false)) else ({ f with pc := 21 }, false))
def treNone (c : Cfg) (f : Frm) : Frm :=
  if f.kind == 4 then treFresh c { f with p := f.n } else if f.kind == 8 then { f with p := f.n, pc := 20 }
  else if f.kind == 7 then (if f.n == 0 then { f with p := f.n, pc := 21 } else { f with p := f.n, pc := 3 }) else { f with p := f.n, pc := 21 }
def treClears (c : Cfg) (f : Frm) : Bool := f.kind == 5 && decide (treUp c f.n f.h < treUp c (if f.n < c.cap then f.n + 1 else f.n) f.h)
/-- Where an item of a level stands on the one above, so many times. -/
def divI (w : Int) : Nat → Int → Int
  | 0, p => p
  | k + 1, p => divI w k (p / w)
/-- 'up': so many levels are left. -/
def treClimb (c : Cfg) : Nat → Frm → Frm
  | 0, f => if f.kind == 4 then { f with pc := 24 } else { f with pc := 25 }
  | k + 1, f =>
    if divI c.node (f.h + 1).toNat f.p < treUp c f.n (f.h + 1) then { f with h := f.h + 1, i := divI c.node (f.h + 1).toNat f.p, pc := 9 }
    else if treClears c { f with h := f.h + 1 } then { f with h := f.h + 1, i := divI c.node (f.h + 1).toNat f.p, pc := 12 }
    else treClimb c k { f with h := f.h + 1, i := divI c.node (f.h + 1).toNat f.p }
def treUpw (c : Cfg) (f : Frm) : Frm := treClimb c (treTop c - f.h).toNat f
def treItem (c : Cfg) (f : Frm) (l : Cel) : Frm × Bool :=
  if f.a ≤ l.a then (if f.h == 0 then treFound c (treOver { f with p := f.i } l) else ({ f with h := f.h - 1, i := f.i * c.node % 256 }, false))
  else if (f.i + 1) % c.node == 0 || decide (treUp c f.n f.h ≤ f.i + 1) then (treNone c f, false) else ({ f with i := f.i + 1 }, false)

/-- The frame behind the act of one that may be, where it read a cell, and whether a row is told. -/
def treBehind (c : Cfg) (f : Frm) (l : Cel) : Frm × Bool :=
  if f.pc == 0 then
    (if (if l.a < c.cap then l.a else c.cap) == 0 then (treNone c { f with n := 0 }, false)
     else ({ f with n := (if l.a < c.cap then l.a else c.cap), h := treTop c, i := 0, pc := 1 }, false))
  else if f.pc == 1 then treItem c f l
  else if f.pc == 3 then ({ treOver f l with pc := 20 }, true)
  else if f.pc == 4 then ({ f with pc := 23 }, false)
  else if f.pc == 5 then ({ treOver f l with pc := 6 }, false)
  else if f.pc == 6 then (if f.i - 1 ≤ f.p then ({ f with i := f.i - 1, pc := 7 }, false) else ({ f with i := f.i - 1, pc := 5 }, false))
  else if f.pc == 7 then ({ f with n := f.n + 1, pc := 8 }, false)
  else if f.pc == 8 then (treUpw c { f with h := 0 }, false)
  else if f.pc == 9 then ({ treOver f l with pc := 11 }, false)
  else if f.pc == 11 then
    (if f.i + 1 < treUp c f.n f.h then ({ f with i := f.i + 1, pc := 9 }, false)
     else if treClears c f then ({ f with i := f.i + 1, pc := 12 }, false) else (treUpw c { f with i := f.i + 1, pc := 9 }, false))
  else if f.pc == 12 then (treUpw c f, false)
  else if f.pc == 13 then ({ treOver f l with pc := 14 }, false)
  else if f.pc == 14 then (if f.n ≤ f.i + 1 then ({ f with i := f.i + 1, pc := 15 }, false) else ({ f with i := f.i + 1, pc := 13 }, false))
  else if f.pc == 15 then ({ f with n := f.n - 1, pc := 8 }, false)
  else if f.pc == 16 then (treGo { f with j := 0 }, false)
  else if f.pc == 17 then treOn c (treOver f l)
  else (f, false)
def treAfterA (c : Cfg) (f : Frm) (l : Cel) : Frm × Bool := if treErr c f == 0 then treBehind c f l else (zeroFrm, false)
end Go.Proofs.YtmhmaifmendebaaGreatDoor.tree
/- Plain: a frame's error, layer 'tree'. -/
namespace Go.Proofs.YtmhmaifmendebaaGreatDoor.tree
open Go Go.RowKit
set_option maxRecDepth 100000
set_option maxHeartbeats 8000000

theorem treErr_conf {c : Cfg} {f : Frm} (h : partOk c = false) : treErr c f = 40 := by simp [treErr, h]
theorem treErr_obj {c : Cfg} {f : Frm} (h : (c.object == 2) = false) : treErr c f = 40 := by simp [treErr, h]
theorem treErr_arg {c : Cfg} {f : Frm} (h : partOk c = true) (h1 : (c.object == 2) = true) (h2 : treMay c f = false) : treErr c f = 2 := by simp [treErr, h, h1, h2]
theorem treErr_yes {c : Cfg} {f : Frm} (h : partOk c = true) (h1 : (c.object == 2) = true) (h2 : treMay c f = true) : treErr c f = 0 := by simp [treErr, h, h1, h2]
theorem treErr_ok {c : Cfg} {f : Frm} (h : treErr c f = 0) : partOk c = true ∧ c.object = 2 ∧ treMay c f = true := by
  unfold treErr at h
  split at h
  · rename_i h1
    simp at h1
    split at h
    · rename_i h2
      exact ⟨h1.1, h1.2, h2⟩
    · cases h
  · cases h
theorem treMay_facts {c : Cfg} {f : Frm} (h : treMay c f = true) : opErr c (treOp f) = 0 ∧ treHas f = true ∧ treNum c f = true ∧ 0 ≤ (treStep c f).at' := by
  simp only [treMay, Bool.and_eq_true, beq_iff_eq, decide_eq_true_eq] at h
  exact ⟨h.1.1.1, h.1.1.2, h.1.2, h.2⟩
end Go.Proofs.YtmhmaifmendebaaGreatDoor.tree
/- Plain: what the programs of all four objects do. -/
namespace Go.Proofs.YtmhmaifmendebaaGreatDoor
open Go Go.RowKit
set_option maxRecDepth 100000
set_option maxHeartbeats 8000000

def pgErr (c : Cfg) (f : Frm) : Int :=
  if partOk c then (if c.object == 1 then trie.trErr c f else if c.object == 2 then tree.treErr c f else if c.object == 3 then gate.gateErr c f else branch.brErr c f) else 40
def pgNextA (c : Cfg) (f : Frm) : Actn :=
  if partOk c then (if c.object == 1 then trie.trNextA c f else if c.object == 2 then tree.treNextA c f else if c.object == 3 then gate.gateNextA c f else branch.brNextA c f) else zeroAct
def pgAfterA (c : Cfg) (f : Frm) (l : Cel) : Frm × Bool :=
  if partOk c then (if c.object == 1 then (trie.trAfterA c f l, false) else if c.object == 2 then tree.treAfterA c f l else if c.object == 3 then (gate.gateAfterA c f l, false) else (branch.brAfterA c f l, false)) else (zeroFrm, false)
theorem pg_obj {c : Cfg} (h : partOk c = true) : (c.object == 1) = true ∨ ((c.object == 1) = false ∧ (c.object == 2) = true) ∨ ((c.object == 1) = false ∧ (c.object == 2) = false ∧ (c.object == 3) = true) ∨
    ((c.object == 1) = false ∧ (c.object == 2) = false ∧ (c.object == 3) = false ∧ (c.object == 4) = true) := by
  simp only [partOk, Bool.and_eq_true, decide_eq_true_eq] at h
  simp only [beq_iff_eq, beq_eq_false_iff_ne, ne_eq]
  omega
end Go.Proofs.YtmhmaifmendebaaGreatDoor
