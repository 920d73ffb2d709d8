/- Plain: an operation of an index that is done alone: act by act, with the offsets that it touches, and the rows that it tells. -/
import Derived.Test.YtkklhhdkokncnaaDoorGk
import Derived.Test.YtkklhhdkokncnaaDoorA5
import Derived.Test.YtkklhhdkokncnaaDoorStart
namespace Go.Proofs.YtkklhhdkokncnaaDoor
open Go Go.RowKit
set_option maxRecDepth 100000
set_option maxHeartbeats 8000000

/-- What comes of an operation: the cells, the code, the word, the rows, the offsets, whether it is done. -/
structure OutT where
  cells : List Cel
  code : Int
  word : Int
  rows : List Rw
  offs : List Int
  ok : Bool
def trePut (A : Actn) (L : List Cel) : List Cel := if A.kind == 2 then L.set A.at'.toNat ⟨0, A.a, A.b, A.c⟩ else L
def treOffs (A : Actn) (t : List Int) : List Int := if A.kind == 3 then t else t ++ [A.at']
def treRows (x : Frm × Bool) (R : List Rw) : List Rw := if x.2 then R ++ [⟨x.1.x, x.1.y⟩] else R
def treRun (c : Cfg) : Nat → Frm → List Cel → List Int → List Rw → OutT
  | 0, _, L, t, _ => ⟨L, 0, 0, [], t, false⟩
  | k + 1, f, L, t, R =>
    if treErr c f == 0 then
      (if (treStep c f).kind == 4 then ⟨L, (treStep c f).code, (treStep c f).v', R, t, true⟩
       else if 0 ≤ (treStep c f).at' ∧ (treStep c f).at' < L.length then
        treRun c k (treBehind c f ((trePut (treStep c f) L).getD (treStep c f).at'.toNat ⟨0, 0, 0, 0⟩)).1 (trePut (treStep c f) L) (treOffs (treStep c f) t) (treRows (treBehind c f ((trePut (treStep c f) L).getD (treStep c f).at'.toNat ⟨0, 0, 0, 0⟩)) R)
       else ⟨L, 0, 0, [], t, false⟩)
    else ⟨L, 0, 0, [], t, false⟩
theorem treRun_zero (c : Cfg) (f : Frm) (L : List Cel) (t : List Int) (R : List Rw) : treRun c 0 f L t R = ⟨L, 0, 0, [], t, false⟩ := rfl
theorem treRun_bad {c : Cfg} {f : Frm} (k : Nat) (L : List Cel) (t : List Int) (R : List Rw) (h : (treErr c f == 0) = false) : treRun c (k + 1) f L t R = ⟨L, 0, 0, [], t, false⟩ := by
  simp [treRun, h]
theorem treRun_done {c : Cfg} {f : Frm} (k : Nat) (L : List Cel) (t : List Int) (R : List Rw) (h : treErr c f = 0) (h4 : ((treStep c f).kind == 4) = true) : treRun c (k + 1) f L t R = ⟨L, (treStep c f).code, (treStep c f).v', R, t, true⟩ := by
  simp [treRun, h, h4]
theorem treRun_out {c : Cfg} {f : Frm} (k : Nat) (L : List Cel) (t : List Int) (R : List Rw) (h : treErr c f = 0) (h4 : ((treStep c f).kind == 4) = false) (ha : ¬ (0 ≤ (treStep c f).at' ∧ (treStep c f).at' < L.length)) :
    treRun c (k + 1) f L t R = ⟨L, 0, 0, [], t, false⟩ := by
  simp [treRun, h, h4, ha]
theorem treRun_step {c : Cfg} {f : Frm} (k : Nat) (L : List Cel) (t : List Int) (R : List Rw) (h : treErr c f = 0) (h4 : ((treStep c f).kind == 4) = false) (h0 : 0 ≤ (treStep c f).at') (h1 : (treStep c f).at' < L.length) :
    treRun c (k + 1) f L t R = treRun c k (treAfterA c f ((trePut (treStep c f) L).getD (treStep c f).at'.toNat ⟨0, 0, 0, 0⟩)).1 (trePut (treStep c f) L) (treOffs (treStep c f) t) (treRows (treAfterA c f ((trePut (treStep c f) L).getD (treStep c f).at'.toNat ⟨0, 0, 0, 0⟩)) R) := by
  simp [treRun, treAfterA, h, h4, h0, h1]
theorem trePut_len (A : Actn) (L : List Cel) : (trePut A L).length = L.length := by
  unfold trePut
  split <;> simp
theorem treAfter_fits {c : Cfg} {f : Frm} {l : Cel} (hf : f.Fits) (hl : l.Fits) (he : treErr c f = 0) : (treAfterA c f l).1.Fits := by
  obtain ⟨hp, ho, hm⟩ := treErr_ok he
  have hc := treOk_of hp ho
  have hb := treBound hc hf hm
  have e : treAfterA c f l = treBehind c f l := by simp [treAfterA, he]
  rw [e]
  exact behind_fits hc hf hl (treMay_facts hm).2.2.1 hb.1 hb.2
theorem treStep_fits {c : Cfg} {f : Frm} (h : f.Fits) : (Cel.mk 0 (treStep c f).a (treStep c f).b (treStep c f).c).Fits := by
  obtain ⟨h1, h2, h3, h4, h5, h6, h7, h8, h9, h10, h11⟩ := h
  have key : ∀ A : Actn, (0 ≤ A.a ∧ A.a ≤ 4294967295 ∧ 0 ≤ A.b ∧ A.b ≤ 4294967295 ∧ A.c = 0) → (Cel.mk 0 A.a A.b A.c).Fits := fun A ⟨a1, a2, a3, a4, a5⟩ => ⟨by dsimp only; omega, by dsimp only; omega, by dsimp only; omega, by dsimp only; omega⟩
  refine key _ ?_
  unfold treStep
  by_cases hq : (f.pc == 0) = true
  · rw [if_pos hq]
    dsimp only
    omega
  rw [if_neg hq]
  clear hq
  by_cases hq : (f.pc == 1) = true
  · rw [if_pos hq]
    dsimp only
    omega
  rw [if_neg hq]
  clear hq
  by_cases hq : (f.pc == 3) = true
  · rw [if_pos hq]
    dsimp only
    omega
  rw [if_neg hq]
  clear hq
  by_cases hq : (f.pc == 4 || f.pc == 7) = true
  · rw [if_pos hq]
    dsimp only
    omega
  rw [if_neg hq]
  clear hq
  by_cases hq : (f.pc == 5) = true
  · rw [if_pos hq]
    dsimp only
    omega
  rw [if_neg hq]
  clear hq
  by_cases hq : (f.pc == 6) = true
  · rw [if_pos hq]
    dsimp only
    omega
  rw [if_neg hq]
  clear hq
  by_cases hq : (f.pc == 8) = true
  · rw [if_pos hq]
    dsimp only
    omega
  rw [if_neg hq]
  clear hq
  by_cases hq : (f.pc == 9) = true
  · rw [if_pos hq]
    dsimp only
    omega
  rw [if_neg hq]
  clear hq
  by_cases hq : (f.pc == 11) = true
  · rw [if_pos hq]
    dsimp only
    omega
  rw [if_neg hq]
  clear hq
  by_cases hq : (f.pc == 12) = true
  · rw [if_pos hq]
    dsimp only
    omega
  rw [if_neg hq]
  clear hq
  by_cases hq : (f.pc == 13) = true
  · rw [if_pos hq]
    dsimp only
    omega
  rw [if_neg hq]
  clear hq
  by_cases hq : (f.pc == 14) = true
  · rw [if_pos hq]
    dsimp only
    omega
  rw [if_neg hq]
  clear hq
  by_cases hq : (f.pc == 15) = true
  · rw [if_pos hq]
    dsimp only
    omega
  rw [if_neg hq]
  clear hq
  by_cases hq : (f.pc == 16) = true
  · rw [if_pos hq]
    dsimp only
    omega
  rw [if_neg hq]
  clear hq
  by_cases hq : (f.pc == 17) = true
  · rw [if_pos hq]
    dsimp only
    omega
  rw [if_neg hq]
  clear hq
  by_cases hq : (f.pc == 21) = true
  · rw [if_pos hq]
    dsimp only
    omega
  rw [if_neg hq]
  clear hq
  by_cases hq : (f.pc == 22) = true
  · rw [if_pos hq]
    dsimp only
    omega
  rw [if_neg hq]
  clear hq
  by_cases hq : (f.pc == 23) = true
  · rw [if_pos hq]
    dsimp only
    omega
  rw [if_neg hq]
  clear hq
  by_cases hq : (f.pc == 25) = true
  · rw [if_pos hq]
    dsimp only
    omega
  rw [if_neg hq]
  clear hq
  dsimp only
  omega
theorem trePut_fits {c : Cfg} {f : Frm} {L : List Cel} (h : f.Fits) (hL : CelsFit L) : CelsFit (trePut (treStep c f) L) := by
  unfold trePut
  split
  · exact hL.set _ (treStep_fits h)
  · exact hL

abbrev confI : Cfg := ⟨2, 2, 1, 1, 0, 0, 3, 2, 1, 1, 131072, 0⟩
abbrev zc : Cel := ⟨0, 0, 0, 0⟩
abbrev cells0 : List Cel := [⟨0, 3, 0, 0⟩, ⟨0, 2, 20, 0⟩, ⟨0, 5, 50, 0⟩, ⟨0, 9, 90, 0⟩, ⟨0, 5, 0, 0⟩, ⟨0, 9, 0, 0⟩]
abbrev cells1 : List Cel := [⟨0, 2, 0, 0⟩, ⟨0, 5, 50, 0⟩, ⟨0, 9, 90, 0⟩, zc, ⟨0, 9, 0, 0⟩, zc]
theorem runI1 : treRun confI 400 (startF ⟨6, 5, 0, 0⟩) cells0 [] [] = ⟨cells0, 0, 51, [], [0, 4, 1, 2], true⟩ := by kernel_rfl
theorem runI2 : treRun confI 400 (startF ⟨7, 6, 0, 0⟩) cells0 [] [] = ⟨cells0, 0, 0, [⟨5, 50⟩], [0, 4, 5, 3, 2], true⟩ := by kernel_rfl
theorem runI3 : treRun confI 400 (startF ⟨5, 2, 0, 0⟩) cells0 [] [] = ⟨cells1, 0, 21, [], [0, 4, 1, 2, 1, 3, 2, 3, 0, 2, 4, 5], true⟩ := by kernel_rfl
theorem runI4 : treRun confI 400 (startF ⟨8, 3, 9, 0⟩) cells0 [] [] = ⟨cells0, 0, 0, [⟨5, 50⟩, ⟨9, 90⟩], [0, 4, 1, 2, 3], true⟩ := by kernel_rfl
end Go.Proofs.YtkklhhdkokncnaaDoor
