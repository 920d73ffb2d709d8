/- Plain: an operation of the set of access rules that is done alone: act by act. -/
import Derived.Test.YtaijkpfgnlkppaaDoorGateQ
import Derived.Test.YtaijkpfgnlkppaaDoorCells
namespace Go.Proofs.YtaijkpfgnlkppaaDoor
open Go Go.RowKit

/-- What comes of an operation: the cells, the code, the word, how many were read and written, whether it is done. -/
structure Outc where
  cells : List Cel
  code : Int
  word : Int
  reads : Int
  writes : Int
  ok : Bool

def gateRun (c : Cfg) : Nat → Frm → List Cel → Int → Int → Outc
  | 0, _, L, r, n => ⟨L, 0, 0, r, n, false⟩
  | k + 1, f, L, r, n =>
    if gateErr c f == 0 then
      (if (gateStep f).kind == 4 then ⟨L, (gateStep f).code, (gateStep f).v', r, n, true⟩
       else if 0 ≤ (gateStep f).at' ∧ (gateStep f).at' < L.length then
        (if (gateStep f).kind == 2 then
          gateRun c k (gateBehind c f ⟨0, (gateStep f).a, (gateStep f).b, (gateStep f).c⟩) (L.set (gateStep f).at'.toNat ⟨0, (gateStep f).a, (gateStep f).b, (gateStep f).c⟩) r (n + 1)
        else gateRun c k (gateBehind c f (L.getD (gateStep f).at'.toNat ⟨0, 0, 0, 0⟩)) L (r + 1) n)
       else ⟨L, 0, 0, r, n, false⟩)
    else ⟨L, 0, 0, r, n, false⟩

theorem gateRun_zero (c : Cfg) (f : Frm) (L : List Cel) (r n : Int) : gateRun c 0 f L r n = ⟨L, 0, 0, r, n, false⟩ := rfl
theorem gateRun_bad {c : Cfg} {f : Frm} (k : Nat) (L : List Cel) (r n : Int) (h : (gateErr c f == 0) = false) : gateRun c (k + 1) f L r n = ⟨L, 0, 0, r, n, false⟩ := by
  simp [gateRun, h]
theorem gateRun_done {c : Cfg} {f : Frm} (k : Nat) (L : List Cel) (r n : Int) (h : gateErr c f = 0) (h4 : ((gateStep f).kind == 4) = true) : gateRun c (k + 1) f L r n = ⟨L, (gateStep f).code, (gateStep f).v', r, n, true⟩ := by
  simp [gateRun, h, h4]
theorem gateRun_out {c : Cfg} {f : Frm} (k : Nat) (L : List Cel) (r n : Int) (h : gateErr c f = 0) (h4 : ((gateStep f).kind == 4) = false) (ha : ¬ (0 ≤ (gateStep f).at' ∧ (gateStep f).at' < L.length)) :
    gateRun c (k + 1) f L r n = ⟨L, 0, 0, r, n, false⟩ := by
  simp [gateRun, h, h4, ha]
theorem gateRun_read {c : Cfg} {f : Frm} (k : Nat) (L : List Cel) (r n : Int) (h : gateErr c f = 0) (h4 : ((gateStep f).kind == 4) = false) (h0 : 0 ≤ (gateStep f).at') (h1 : (gateStep f).at' < L.length) (h2 : ((gateStep f).kind == 2) = false) :
    gateRun c (k + 1) f L r n = gateRun c k (gateAfterA c f (L.getD (gateStep f).at'.toNat ⟨0, 0, 0, 0⟩)) L (r + 1) n := by
  rw [gateAfter_yes (by rw [h]; rfl)]; simp [gateRun, h, h4, h0, h1, h2]
theorem gateRun_write {c : Cfg} {f : Frm} (k : Nat) (L : List Cel) (r n : Int) (h : gateErr c f = 0) (h4 : ((gateStep f).kind == 4) = false) (h0 : 0 ≤ (gateStep f).at') (h1 : (gateStep f).at' < L.length) (h2 : ((gateStep f).kind == 2) = true) :
    gateRun c (k + 1) f L r n = gateRun c k (gateAfterA c f ⟨0, (gateStep f).a, (gateStep f).b, (gateStep f).c⟩) (L.set (gateStep f).at'.toNat ⟨0, (gateStep f).a, (gateStep f).b, (gateStep f).c⟩) r (n + 1) := by
  rw [gateAfter_yes (by rw [h]; rfl)]; simp [gateRun, h, h4, h0, h1, h2]

theorem gateOver_fits {f : Frm} (h : f.Fits) : (gateOver f).Fits := by
  obtain ⟨h1, h2, h3, h4, h5, h6, h7, h8, h9, h10, h11⟩ := h
  unfold gateOver
  split
  · exact ⟨h1, h2, h3, by dsimp only; split <;> omega, h5, h6, h7, h8, h9, by dsimp only; omega, h11⟩
  · split
    · exact ⟨h1, h2, h3, by dsimp only; omega, h5, h6, h7, h8, h9, h10, h11⟩
    · exact ⟨h1, h2, h3, by dsimp only; omega, h5, h6, h7, h8, h9, h10, h11⟩
theorem gateMore_fits {c : Cfg} {f : Frm} (h : f.Fits) (hi : f.i < c.cap) (hc : c.cap ≤ 32) : (gateMore c f).Fits := by
  unfold gateMore
  split
  · exact gateOver_fits h
  · obtain ⟨h1, h2, h3, h4, h5, h6, h7, h8, h9, h10, h11⟩ := h
    exact ⟨h1, h2, h3, h4, by dsimp only; omega, h6, h7, h8, h9, h10, h11⟩
theorem gateAfter_fits {c : Cfg} {f : Frm} {l : Cel} (h : f.Fits) (hl : l.Fits) (he : gateErr c f = 0) : (gateAfterA c f l).Fits := by
  have hok := gateErr_ok (c := c) (f := f) (by rw [he]; rfl)
  have hi := (gateMay_facts hok.2.2).2.1
  have hc := (partOk_cap hok.1).2
  rw [gateAfter_yes (by rw [he]; rfl)]
  obtain ⟨h1, h2, h3, h4, h5, h6, h7, h8, h9, h10, h11⟩ := h
  have hla := hl.a
  unfold gateBehind
  split
  · unfold gateSeek
    split
    · split
      · split
        · exact ⟨h1, h2, h3, by dsimp only; omega, h5, h6, h7, h8, h9, by dsimp only; omega, h11⟩
        · exact gateMore_fits ⟨h1, h2, h3, h4, h5, h6, h7, h8, h9, by dsimp only; omega, h11⟩ hi hc
      · exact gateMore_fits ⟨h1, h2, h3, h4, h5, h6, h7, h8, h9, h10, h11⟩ hi hc
    · split
      · exact ⟨h1, h2, h3, by dsimp only; omega, h5, h5, h7, h8, h9, by dsimp only; omega, h11⟩
      · split
        · exact gateMore_fits ⟨h1, h2, h3, h4, h5, h5, h7, h8, by dsimp only; omega, h10, h11⟩ hi hc
        · exact gateMore_fits ⟨h1, h2, h3, h4, h5, h6, h7, h8, h9, h10, h11⟩ hi hc
  · split
    · exact ⟨h1, h2, h3, by dsimp only; omega, h5, h6, h7, h8, h9, h10, h11⟩
    · exact ⟨h1, h2, h3, h4, h5, h6, h7, h8, h9, h10, h11⟩
theorem gateStep_fits {f : Frm} (h : f.Fits) : (Cel.mk 0 (gateStep f).a (gateStep f).b (gateStep f).c).Fits := by
  obtain ⟨h1, h2, h3, h4, h5, h6, h7, h8, h9, h10, h11⟩ := h
  unfold gateStep
  refine ⟨by dsimp only; omega, ?_, ?_, ?_⟩ <;> (split <;> (try split) <;> (try split) <;> (try split) <;> (try split) <;> dsimp only <;> omega)
end Go.Proofs.YtaijkpfgnlkppaaDoor
