/- Plain: the program of a table of routes, as the document has it; no program in sight. -/
import Derived.Test.YtpaplhkjaniafaaDoorA0
import Derived.Laws.BitsAllLaws
import Derived.Laws.ShiftsVarLaws
namespace Go.Proofs.YtpaplhkjaniafaaDoor
open Go Go.RowKit
set_option maxRecDepth 100000
set_option maxHeartbeats 8000000

/-- The operation of a frame. -/
def trOp (f : Frm) : Opn := ⟨f.kind, f.a, f.b, if f.kind == 1 then f.y else 0⟩
theorem trOp_fits {f : Frm} (h : f.Fits) : (trOp f).Fits := ⟨h.kind, h.a, h.b, by unfold trOp; have := h.y; dsimp only; split <;> omega⟩
/-- How many bits a frame's path has. -/
def trMost (c : Cfg) (f : Frm) : Int := if f.kind == 3 then c.bits else f.b
/-- Has the table the Pc for the kind? -/
def trThere (k p : Int) : Bool :=
  if k == 1 then decide (p ≤ 3) || (decide (5 ≤ p) && decide (p ≤ 7)) else if k == 2 then p == 0 || p == 2 || p == 3 || p == 6 || p == 8 else p == 0 || p == 6 || p == 8
def trMay (c : Cfg) (f : Frm) : Bool := opErr c (trOp f) == 0 && trThere f.kind f.pc && decide (f.h ≤ trMost c f)
def trErr (c : Cfg) (f : Frm) : Int := if partOk c && c.object == 1 then (if trMay c f then 0 else 2) else 40
/-- The node of a path's bits, all of them, and as many as the frame has come down. -/
def trM (c : Cfg) (f : Frm) : Int := 2 ^ (trMost c f).toNat + f.a
def trD (c : Cfg) (f : Frm) : Int := trM c f / 2 ^ (trMost c f - f.h).toNat
def trStep (c : Cfg) (f : Frm) : Actn :=
  if f.pc == 0 then ⟨1, if f.kind == 3 then trD c f else trM c f, 0, 0, 0, 0, 0⟩
  else if f.pc == 1 then ⟨1, 1, 0, 0, 0, 0, 0⟩
  else if f.pc == 2 then ⟨1, trD c f, 0, 0, 0, 0, 0⟩
  else if f.pc == 3 then ⟨2, trD c f, if f.h == f.b then (if f.kind == 2 then 0 else f.y + 1) else f.x, if f.kind == 2 then (f.n + 63) % 64 else (f.n + 1) % 64, 0, 0, 0⟩
  else if f.pc == 5 then ⟨2, trM c f, f.y + 1, f.n % 64, 0, 0, 0⟩
  else if f.pc == 6 then ⟨4, 0, 0, 0, 0, 0, f.x⟩
  else if f.pc == 7 then ⟨4, 0, 0, 0, 0, 9, 0⟩
  else ⟨4, 0, 0, 0, 0, 6, 0⟩
def trNextA (c : Cfg) (f : Frm) : Actn := if trErr c f == 0 then trStep c f else zeroAct
/-- A look-up's frame behind it read a cell. -/
def trLooked (c : Cfg) (f : Frm) (own : Int) (l : Cel) : Frm :=
  if f.h < c.bits ∧ own < l.b then { f with h := f.h + 1 } else if f.x == 0 then { f with pc := 8 } else { f with pc := 6 }
def trLook (c : Cfg) (f : Frm) (l : Cel) : Frm :=
  if l.a % 4294967296 == 0 then trLooked c f 0 l else trLooked c { f with x := l.a % 4294967296 } 1 l
def trBehind (c : Cfg) (f : Frm) (l : Cel) : Frm :=
  if f.kind == 3 then (if f.pc == 0 then trLook c f l else f)
  else if f.pc == 0 then
    (if f.kind == 1 then (if l.a % 4294967296 == 0 then { f with x := l.a % 4294967296, n := l.b % 64, pc := 1 } else { f with x := l.a % 4294967296, n := l.b % 64, pc := 5 })
     else (if l.a % 4294967296 == 0 then { f with x := l.a % 4294967296, n := l.b % 64, pc := 8 } else { f with x := l.a % 4294967296, n := l.b % 64, pc := 2, h := 0 }))
  else if f.pc == 1 then (if l.b < c.cap then { f with pc := 2, h := 0 } else { f with pc := 7 })
  else if f.pc == 2 then { f with x := l.a % 4294967296, n := l.b % 64, pc := 3 }
  else if f.pc == 3 then (if f.h == f.b then { f with pc := 6 } else { f with pc := 2, h := f.h + 1 })
  else if f.pc == 5 then { f with pc := 6 } else f
def trAfterA (c : Cfg) (f : Frm) (l : Cel) : Frm := if trErr c f == 0 then trBehind c f l else zeroFrm

theorem trErr_conf {c : Cfg} {f : Frm} (h : partOk c = false) : trErr c f = 40 := by simp [trErr, h]
theorem trErr_obj {c : Cfg} {f : Frm} (h : (c.object == 1) = false) : trErr c f = 40 := by simp [trErr, h]
theorem trErr_arg {c : Cfg} {f : Frm} (h : partOk c = true) (h1 : (c.object == 1) = true) (h2 : trMay c f = false) : trErr c f = 2 := by simp [trErr, h, h1, h2]
theorem trErr_yes {c : Cfg} {f : Frm} (h : partOk c = true) (h1 : (c.object == 1) = true) (h2 : trMay c f = true) : trErr c f = 0 := by simp [trErr, h, h1, h2]
theorem trErr_ok {c : Cfg} {f : Frm} (h : trErr c f = 0) : partOk c = true ∧ c.object = 1 ∧ trMay c f = true := by
  unfold trErr at h
  split at h
  · rename_i h1
    simp at h1
    split at h
    · rename_i h2
      exact ⟨h1.1, h1.2, h2⟩
    · cases h
  · cases h

theorem opErr_part {c : Cfg} {o : Opn} (h : opErr c o = 0) : partOk c = true := by
  unfold opErr at h
  split at h
  · assumption
  · cases h
theorem opErr_kind {c : Cfg} {o : Opn} (h : opErr c o = 0) : objOf o.kind = c.object := by
  unfold opErr at h
  split at h
  · split at h
    · rename_i h2
      simpa using h2
    · cases h
  · cases h
theorem opErr_fits {c : Cfg} {o : Opn} (h : opErr c o = 0) : fitsB c o = true := by
  unfold opErr at h
  split at h
  · split at h
    · split at h
      · assumption
      · cases h
    · cases h
  · cases h
theorem objOf_one {k : Int} (h : objOf k = 1) : k = 1 ∨ k = 2 ∨ k = 3 := by
  unfold objOf at h
  split at h
  · cases h
  · split at h
    · omega
    · split at h
      · cases h
      · split at h
        · cases h
        · split at h <;> cases h
/-- What a frame that may be has. -/
structure TrFacts (c : Cfg) (f : Frm) : Prop where
  kind : f.kind = 1 ∨ f.kind = 2 ∨ f.kind = 3
  there : trThere f.kind f.pc = true
  h : f.h ≤ trMost c f
  most : 0 ≤ trMost c f ∧ trMost c f ≤ 6
  a : f.a < 2 ^ (trMost c f).toNat
  cap : 1 ≤ c.cap ∧ c.cap ≤ 32
  bits : 1 ≤ c.bits ∧ c.bits ≤ 6
theorem opErr_facts {c : Cfg} {f : Frm} (hf : f.Fits) (ho : c.object = 1) (h : opErr c (trOp f) = 0) : (f.kind = 1 ∨ f.kind = 2 ∨ f.kind = 3) ∧ (0 ≤ trMost c f ∧ trMost c f ≤ 6) ∧ f.a < 2 ^ (trMost c f).toNat ∧ (1 ≤ c.cap ∧ c.cap ≤ 32) ∧ 1 ≤ c.bits ∧ c.bits ≤ 6 := by
  have hp := opErr_part h
  have hk := opErr_kind h
  rw [ho] at hk
  have hk' := objOf_one hk
  have hft := opErr_fits h
  have hc := partOk_cap hp
  have hb : 1 ≤ c.bits ∧ c.bits ≤ 6 := by
    simp [partOk, within, ho] at hp
    omega
  have hfb := hf.b
  simp only [trOp] at hk' hft
  refine ⟨hk', ?_, ?_, hc, hb⟩
  · rcases hk' with hk | hk | hk <;> simp [fitsB, hk, prefixB, trMost] at hft ⊢ <;> omega
  · rcases hk' with hk | hk | hk <;> simp [fitsB, hk, prefixB, trMost] at hft ⊢
    all_goals first | exact hft.2.2 | exact hft.2 | exact hft
theorem trMay_facts {c : Cfg} {f : Frm} (hf : f.Fits) (ho : c.object = 1) (h : trMay c f = true) : TrFacts c f := by
  simp [trMay] at h
  obtain ⟨h1, h2, h3, h4, h5, h6⟩ := opErr_facts hf ho h.1.1
  exact ⟨h1, h.1.2, h.2, h2, h3, h4, ⟨h5, h6⟩⟩

theorem ofInt_i64 (a : Nat) (ha : a < 4611686018427387904) : (BitVec.ofInt 64 (a : Int)).toNat = a := by
  rw [BitVec.ofInt_natCast, BitVec.toNat_ofNat]; exact Nat.mod_eq_of_lt (by omega)
/-- A power of two, or'd with a number below it. -/
theorem or_pow (k : Nat) (hk : k ≤ 6) (a : Int) (h0 : 0 ≤ a) (h1 : a < 2 ^ k) : bits .or .i64 (2 ^ k) a = 2 ^ k + a := by
  obtain ⟨A, rfl⟩ := Int.eq_ofNat_of_zero_le h0
  have hA : A < 2 ^ k := by exact_mod_cast h1
  have hp : 2 ^ k ≤ 2 ^ 6 := Nat.pow_le_pow_right (by omega) hk
  have e : ((2 : Int) ^ k) = ((2 ^ k : Nat) : Int) := by simp
  have ho : 2 ^ k ||| A = 2 ^ k + A := by
    have := (Nat.two_pow_add_eq_or_of_lt hA 1).symm
    simpa using this
  rw [e]
  show IntKind.i64.wrap ((BitVec.ofInt 64 ((2 ^ k : Nat) : Int) ||| BitVec.ofInt 64 (A : Int)).toNat : Int) = _
  rw [BitVec.toNat_or, ofInt_i64 _ (by omega), ofInt_i64 _ (by omega), ho, IntKind.wrap_i64]
  omega
theorem or_pow' (b : Int) (hb : 0 ≤ b ∧ b ≤ 6) (a : Int) (h0 : 0 ≤ a) (h1 : a < 2 ^ b.toNat) : bits .or .i64 (2 ^ b.toNat) a = 2 ^ b.toNat + a := or_pow b.toNat (by omega) a h0 h1
end Go.Proofs.YtpaplhkjaniafaaDoor
