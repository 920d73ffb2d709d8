/- Plain: an operation of the tree of settings that is done alone: act by act, with the offsets that it touches. -/
import Derived.Test.YtmbodooikfmegaaDoorBranchP
import Derived.Test.YtmbodooikfmegaaDoorBr3
import Derived.Test.YtmbodooikfmegaaDoorA5
namespace Go.Proofs.YtmbodooikfmegaaDoor
open Go Go.RowKit
set_option maxRecDepth 100000
set_option maxHeartbeats 8000000

/-- What comes of an operation: the cells, the code, the word, the offsets, whether it is done. -/
structure OutB where
  cells : List Cel
  code : Int
  word : Int
  offs : List Int
  ok : Bool
def brPut (A : Actn) (L : List Cel) : List Cel := if A.kind == 2 then L.set A.at'.toNat ⟨0, A.a, A.b, A.c⟩ else L
def brRun (c : Cfg) : Nat → Frm → List Cel → List Int → OutB
  | 0, _, L, t => ⟨L, 0, 0, t, false⟩
  | k + 1, f, L, t =>
    if brErr c f == 0 then
      (if (brStep f).kind == 4 then ⟨L, (brStep f).code, (brStep f).v', t, true⟩
       else if 0 ≤ (brStep f).at' ∧ (brStep f).at' < L.length then
        brRun c k (brBehind c f ((brPut (brStep f) L).getD (brStep f).at'.toNat ⟨0, 0, 0, 0⟩)) (brPut (brStep f) L) (t ++ [(brStep f).at'])
       else ⟨L, 0, 0, t, false⟩)
    else ⟨L, 0, 0, t, false⟩
theorem brRun_zero (c : Cfg) (f : Frm) (L : List Cel) (t : List Int) : brRun c 0 f L t = ⟨L, 0, 0, t, false⟩ := rfl
theorem brRun_bad {c : Cfg} {f : Frm} (k : Nat) (L : List Cel) (t : List Int) (h : (brErr c f == 0) = false) : brRun c (k + 1) f L t = ⟨L, 0, 0, t, false⟩ := by
  simp [brRun, h]
theorem brRun_done {c : Cfg} {f : Frm} (k : Nat) (L : List Cel) (t : List Int) (h : brErr c f = 0) (h4 : ((brStep f).kind == 4) = true) : brRun c (k + 1) f L t = ⟨L, (brStep f).code, (brStep f).v', t, true⟩ := by
  simp [brRun, h, h4]
theorem brRun_out {c : Cfg} {f : Frm} (k : Nat) (L : List Cel) (t : List Int) (h : brErr c f = 0) (h4 : ((brStep f).kind == 4) = false) (ha : ¬ (0 ≤ (brStep f).at' ∧ (brStep f).at' < L.length)) :
    brRun c (k + 1) f L t = ⟨L, 0, 0, t, false⟩ := by
  simp [brRun, h, h4, ha]
theorem brRun_read {c : Cfg} {f : Frm} (k : Nat) (L : List Cel) (t : List Int) (h : brErr c f = 0) (h4 : ((brStep f).kind == 4) = false) (h0 : 0 ≤ (brStep f).at') (h1 : (brStep f).at' < L.length) (h2 : ((brStep f).kind == 2) = false) :
    brRun c (k + 1) f L t = brRun c k (brAfterA c f (L.getD (brStep f).at'.toNat ⟨0, 0, 0, 0⟩)) L (t ++ [(brStep f).at']) := by
  simp [brRun, brAfterA, brPut, h, h4, h0, h1, h2]
theorem brRun_write {c : Cfg} {f : Frm} (k : Nat) (L : List Cel) (t : List Int) (h : brErr c f = 0) (h4 : ((brStep f).kind == 4) = false) (h0 : 0 ≤ (brStep f).at') (h1 : (brStep f).at' < L.length) (h2 : ((brStep f).kind == 2) = true) :
    brRun c (k + 1) f L t = brRun c k (brAfterA c f ⟨0, (brStep f).a, (brStep f).b, (brStep f).c⟩) (L.set (brStep f).at'.toNat ⟨0, (brStep f).a, (brStep f).b, (brStep f).c⟩) (t ++ [(brStep f).at']) := by
  have hi : (brStep f).at'.toNat < L.length := by omega
  simp [brRun, brAfterA, brPut, h, h4, h0, h1, h2, hi]

theorem brFits_set {f : Frm} (h : f.Fits) (pc i j n p hh x : Int) (h1 : 0 ≤ pc ∧ pc ≤ 255) (h2 : 0 ≤ i ∧ i ≤ 255) (h3 : 0 ≤ j ∧ j ≤ 255) (h4 : 0 ≤ n ∧ n ≤ 255) (h5 : 0 ≤ p ∧ p ≤ 255) (h6 : 0 ≤ hh ∧ hh ≤ 255) (h7 : 0 ≤ x ∧ x ≤ 4294967295) :
    (Frm.mk f.kind f.a f.b pc i j n p hh x f.y).Fits := ⟨h.kind, h.a, h.b, h1, h2, h3, h4, h5, h6, h7, h.y⟩
theorem brAfter_fits {c : Cfg} {f : Frm} {l : Cel} (h : f.Fits) (he : brErr c f = 0) : (brAfterA c f l).Fits := by
  obtain ⟨hp, ho, h4⟩ := brErr_ok he
  obtain ⟨m1, m2, m3, m4, m5, m6, m7, m8, m9, m10, m11⟩ := brMay_facts h4
  have hc := partOk_cap hp
  have hl3 := brLong_le f
  have hx : 0 ≤ l.c % 4294967296 ∧ l.c % 4294967296 ≤ 4294967295 := by omega
  obtain ⟨g1, g2, g3, g4, g5, g6, g7, g8, g9, g10, g11⟩ := id h
  have hb : brAfterA c f l = brBehind c f l := by simp [brAfterA, he]
  rw [hb]
  unfold brBehind
  split
  · split
    · unfold brFound
      split
      · exact brFits_set h _ _ _ _ _ _ _ (by omega) (by omega) (by omega) (by omega) (by omega) (by omega) (by omega)
      · split
        · exact brFits_set h _ _ _ _ _ _ _ (by omega) (by omega) (by omega) (by omega) (by omega) (by omega) (by omega)
        · split
          · exact brFits_set h _ _ _ _ _ _ _ (by omega) (by omega) (by omega) (by omega) (by omega) (by omega) (by omega)
          · split <;> exact brFits_set h _ _ _ _ _ _ _ (by omega) (by omega) (by omega) (by omega) (by omega) (by omega) (by omega)
    · unfold brOther brMore
      dsimp only
      repeat' split
      all_goals exact brFits_set h _ _ _ _ _ _ _ (by omega) (by omega) (by omega) (by omega) (by omega) (by omega) (by omega)
  · split
    · unfold brMade
      repeat' split
      all_goals exact brFits_set h _ _ _ _ _ _ _ (by omega) (by omega) (by omega) (by omega) (by omega) (by omega) (by omega)
    · repeat' split
      all_goals first | exact h | exact brFits_set h _ _ _ _ _ _ _ (by omega) (by omega) (by omega) (by omega) (by omega) (by omega) (by omega)
theorem brName_bd' {f : Frm} (hf : f.Fits) (n : Int) : 0 ≤ brName f n ∧ brName f n ≤ 4294967295 := by
  obtain ⟨_, ⟨a0, a1⟩, ⟨b0, b1⟩, _, _, _, _, _, _, _, _⟩ := hf
  unfold brName
  split
  · omega
  · split
    · omega
    · split <;> omega
theorem brStep_fits {f : Frm} (h : f.Fits) : (Cel.mk 0 (brStep f).a (brStep f).b (brStep f).c).Fits := by
  have n1 := brName_bd' h f.h
  have n2 := brName_bd' h (brLong f - 1)
  obtain ⟨h1, h2, h3, h4, h5, h6, h7, h8, h9, h10, h11⟩ := h
  unfold brStep
  refine ⟨by dsimp only; omega, ?_, ?_, ?_⟩ <;> (repeat' split) <;> dsimp only <;> omega

abbrev confC : Cfg := ⟨4, 2, 1, 1, 0, 0, 3, 0, 1, 0, 131072, 0⟩
abbrev zc : Cel := ⟨0, 0, 0, 0⟩
def startB (o : Opn) : Frm := ⟨o.kind, o.a, o.b, 0, 0, 0, 0, 0, 0, 0, o.c⟩
theorem run1 : brRun confC 200 (startB ⟨12, 131073, 0, 7⟩) [zc, zc, zc] [] = ⟨[⟨0, 1, 1, 0⟩, ⟨0, 2, 2, 8⟩, zc], 0, 0, [0, 1, 2, 0, 1, 1], true⟩ := by kernel_rfl
theorem run2 : brRun confC 200 (startB ⟨14, 131073, 0, 0⟩) [⟨0, 1, 1, 0⟩, ⟨0, 2, 2, 8⟩, zc] [] = ⟨[⟨0, 1, 1, 0⟩, ⟨0, 2, 2, 8⟩, zc], 0, 8, [0, 0, 1], true⟩ := by kernel_rfl
theorem run3 : brRun confC 200 (startB ⟨12, 262147, 0, 0⟩) [⟨0, 1, 1, 0⟩, ⟨0, 2, 2, 8⟩, zc] [] = ⟨[⟨0, 1, 1, 0⟩, ⟨0, 2, 2, 8⟩, zc], 9, 0, [0, 1, 2], true⟩ := by kernel_rfl
theorem run4 : brRun confC 200 (startB ⟨13, 1, 0, 0⟩) [⟨0, 1, 1, 0⟩, ⟨0, 2, 2, 8⟩, zc] [] = ⟨[⟨0, 1, 1, 0⟩, ⟨0, 2, 2, 8⟩, zc], 90, 0, [0, 0, 1], true⟩ := by kernel_rfl
theorem run5 : brRun confC 200 (startB ⟨13, 131073, 0, 0⟩) [⟨0, 1, 1, 0⟩, ⟨0, 2, 2, 8⟩, zc] [] = ⟨[⟨0, 1, 1, 0⟩, zc, zc], 0, 8, [0, 0, 1, 0, 1, 2, 1], true⟩ := by kernel_rfl
end Go.Proofs.YtmbodooikfmegaaDoor
