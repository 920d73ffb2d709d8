/- Plain: an operation of the table of routes that is done alone: act by act, with the offsets that it touches. -/
import Derived.Test.YtpaplhkjaniafaaDoorTrieP
import Derived.Test.YtpaplhkjaniafaaDoorA5
import Derived.Test.YtpaplhkjaniafaaDoorStart
namespace Go.Proofs.YtpaplhkjaniafaaDoor
open Go Go.RowKit
set_option maxRecDepth 100000
set_option maxHeartbeats 8000000

/-- What comes of an operation: the cells, the code, the word, the offsets, whether it is done. -/
structure OutB where
  cells : List Cel
  code : Int
  word : Int
  offs : List Int
  ok : Bool
def trPut (A : Actn) (L : List Cel) : List Cel := if A.kind == 2 then L.set A.at'.toNat ⟨0, A.a, A.b, A.c⟩ else L
def trRun (c : Cfg) : Nat → Frm → List Cel → List Int → OutB
  | 0, _, L, t => ⟨L, 0, 0, t, false⟩
  | k + 1, f, L, t =>
    if trErr c f == 0 then
      (if (trStep c f).kind == 4 then ⟨L, (trStep c f).code, (trStep c f).v', t, true⟩
       else if 1 ≤ (trStep c f).at' ∧ (trStep c f).at' < L.length then
        trRun c k (trBehind c f ((trPut (trStep c f) L).getD (trStep c f).at'.toNat ⟨0, 0, 0, 0⟩)) (trPut (trStep c f) L) (t ++ [(trStep c f).at'])
       else ⟨L, 0, 0, t, false⟩)
    else ⟨L, 0, 0, t, false⟩
theorem trRun_zero (c : Cfg) (f : Frm) (L : List Cel) (t : List Int) : trRun c 0 f L t = ⟨L, 0, 0, t, false⟩ := rfl
theorem trRun_bad {c : Cfg} {f : Frm} (k : Nat) (L : List Cel) (t : List Int) (h : (trErr c f == 0) = false) : trRun c (k + 1) f L t = ⟨L, 0, 0, t, false⟩ := by
  simp [trRun, h]
theorem trRun_done {c : Cfg} {f : Frm} (k : Nat) (L : List Cel) (t : List Int) (h : trErr c f = 0) (h4 : ((trStep c f).kind == 4) = true) : trRun c (k + 1) f L t = ⟨L, (trStep c f).code, (trStep c f).v', t, true⟩ := by
  simp [trRun, h, h4]
theorem trRun_out {c : Cfg} {f : Frm} (k : Nat) (L : List Cel) (t : List Int) (h : trErr c f = 0) (h4 : ((trStep c f).kind == 4) = false) (ha : ¬ (1 ≤ (trStep c f).at' ∧ (trStep c f).at' < L.length)) :
    trRun c (k + 1) f L t = ⟨L, 0, 0, t, false⟩ := by
  simp [trRun, h, h4, ha]
theorem trRun_read {c : Cfg} {f : Frm} (k : Nat) (L : List Cel) (t : List Int) (h : trErr c f = 0) (h4 : ((trStep c f).kind == 4) = false) (h0 : 1 ≤ (trStep c f).at') (h1 : (trStep c f).at' < L.length) (h2 : ((trStep c f).kind == 2) = false) :
    trRun c (k + 1) f L t = trRun c k (trAfterA c f (L.getD (trStep c f).at'.toNat ⟨0, 0, 0, 0⟩)) L (t ++ [(trStep c f).at']) := by
  simp [trRun, trAfterA, trPut, h, h4, h0, h1, h2]
theorem trRun_write {c : Cfg} {f : Frm} (k : Nat) (L : List Cel) (t : List Int) (h : trErr c f = 0) (h4 : ((trStep c f).kind == 4) = false) (h0 : 1 ≤ (trStep c f).at') (h1 : (trStep c f).at' < L.length) (h2 : ((trStep c f).kind == 2) = true) :
    trRun c (k + 1) f L t = trRun c k (trAfterA c f ⟨0, (trStep c f).a, (trStep c f).b, (trStep c f).c⟩) (L.set (trStep c f).at'.toNat ⟨0, (trStep c f).a, (trStep c f).b, (trStep c f).c⟩) (t ++ [(trStep c f).at']) := by
  have hi : (trStep c f).at'.toNat < L.length := by omega
  simp [trRun, trAfterA, trPut, h, h4, h0, h1, h2, hi]
theorem trStep_kind (c : Cfg) (f : Frm) : (trStep c f).kind = 1 ∨ (trStep c f).kind = 2 ∨ (trStep c f).kind = 4 := by
  unfold trStep
  repeat' split
  all_goals simp

theorem trAfter_fits {c : Cfg} {f : Frm} {l : Cel} (h : f.Fits) (he : trErr c f = 0) : (trAfterA c f l).Fits := by
  obtain ⟨hp, ho, h4⟩ := trErr_ok he
  have hft := trMay_facts h ho h4
  have hm := hft.h
  have hm2 := hft.most
  have hx : 0 ≤ l.a % 4294967296 ∧ l.a % 4294967296 ≤ 4294967295 := by omega
  have hn : 0 ≤ l.b % 64 ∧ l.b % 64 ≤ 255 := by omega
  have hh : 0 ≤ f.h + 1 ∧ f.h + 1 ≤ 255 := by have := h.h; omega
  have p : ∀ q : Int, 0 ≤ q → q ≤ 255 → 0 ≤ q ∧ q ≤ 255 := fun q a b => ⟨a, b⟩
  have hb : trAfterA c f l = trBehind c f l := by simp [trAfterA, he]
  rw [hb]
  unfold trBehind trLook trLooked
  (repeat' split) <;> first
    | exact h
    | exact ⟨h.kind, h.a, h.b, by dsimp only; first | exact h.pc | decide, by dsimp only; exact h.i, by dsimp only; exact h.j, by dsimp only; first | exact h.n | exact hn, by dsimp only; exact h.p, by dsimp only; first | exact h.h | exact hh | decide, by dsimp only; first | exact h.x | exact hx, by dsimp only; exact h.y⟩
theorem trStep_fits {c : Cfg} {f : Frm} (h : f.Fits) : (Cel.mk 0 (trStep c f).a (trStep c f).b (trStep c f).c).Fits := by
  obtain ⟨h1, h2, h3, h4, h5, h6, h7, h8, h9, h10, h11⟩ := h
  unfold trStep
  refine ⟨by dsimp only; omega, ?_, ?_, ?_⟩ <;> (repeat' split) <;> dsimp only <;> omega

abbrev confC : Cfg := ⟨1, 2, 1, 1, 0, 3, 2, 0, 1, 0, 131072, 0⟩
abbrev zc : Cel := ⟨0, 0, 0, 0⟩
abbrev noughts : List Cel := [zc, zc, zc, zc, zc, zc, zc, zc, zc, zc, zc, zc, zc, zc, zc, zc]
abbrev mid : List Cel := [zc, ⟨0, 0, 1, 0⟩, zc, ⟨0, 0, 1, 0⟩, zc, zc, ⟨0, 0, 1, 0⟩, zc, zc, zc, zc, zc, zc, ⟨0, 8, 1, 0⟩, zc, zc]
theorem run1 : trRun confC 40 (startF ⟨1, 5, 3, 7⟩) noughts [] = ⟨mid, 0, 0, [13, 1, 1, 1, 3, 3, 6, 6, 13, 13], true⟩ := by kernel_rfl
theorem run2 : trRun confC 40 (startF ⟨3, 5, 0, 0⟩) mid [] = ⟨mid, 0, 8, [1, 3, 6, 13], true⟩ := by kernel_rfl
end Go.Proofs.YtpaplhkjaniafaaDoor
