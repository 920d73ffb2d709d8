/- The walk of 'act', the layer 'tree'. -/
import Derived.Test.YtkklhhdkokncnaaDoorTre2
namespace Go.Proofs.YtkklhhdkokncnaaDoor
open Go Go.RowKit

/-- What 'treNum' says. -/
theorem treNum_facts {c : Cfg} {f : Frm} (h : treNum c f = true) : f.n ≤ c.cap ∧ f.p ≤ c.cap ∧ f.j ≤ c.chunk ∧ f.h ≤ treTop c ∧ (f.pc = 6 → 1 ≤ f.i) ∧ (f.pc = 9 ∨ f.pc = 11 → 1 ≤ f.h ∧ f.i < treUp c f.n f.h) ∧ (f.pc = 12 → 1 ≤ f.h) ∧ (f.pc = 16 ∨ f.j ≠ c.chunk) := by
  simp only [treNum, Bool.and_eq_true, decide_eq_true_eq] at h
  obtain ⟨⟨⟨⟨⟨h1, h2⟩, h3⟩, h4⟩, h5⟩, h6⟩ := h
  refine ⟨h1, h2, h3, h4, fun e => ?_, fun e => ?_, fun e => ?_, ?_⟩
  · simpa [e] using h6
  · rcases e with e | e <;> simpa [e] using h6
  · simpa [e] using h6
  · simpa using h5
theorem treUp_pos {c : Cfg} (hc : TreOk c) {n h i : Int} (hn : 0 ≤ n) (hh : 0 ≤ h ∧ h ≤ 4) (h0 : 0 ≤ i) (hi : i < treUp c n h) : 1 ≤ n := by
  have := upI_le hn hc.node (h := h) (by omega)
  change i < upI n c.node h at hi
  omega
theorem treUp_le {c : Cfg} (hc : TreOk c) {n h : Int} (hn : 0 ≤ n) (hh : 0 ≤ h ∧ h ≤ 4) : 0 ≤ treUp c n h ∧ treUp c n h ≤ n := ⟨upI_nonneg _ _ _, upI_le hn hc.node (by omega)⟩
theorem endI_bd {n w h i : Int} (hn : 0 ≤ n ∧ n ≤ 32) (hw : w = 2 ∨ w = 3 ∨ w = 4) (hh : 1 ≤ h ∧ h ≤ 4) (hi : 0 ≤ i) : -1000 ≤ endI n w h i ∧ endI n w h i ≤ 1000 := by
  have h1 := upI_le hn.1 hw (h := h - 1) (by omega)
  have h2 := upI_nonneg n w (h - 1)
  have h3 : 0 ≤ (i + 1) * w := by rcases hw with rfl | rfl | rfl <;> omega
  unfold endI
  split <;> omega
end Go.Proofs.YtkklhhdkokncnaaDoor
