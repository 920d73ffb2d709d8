/- Plain: a frame's error, layer 'tree'. -/
import Derived.Test.YtkklhhdkokncnaaDoorTreP
namespace Go.Proofs.YtkklhhdkokncnaaDoor
open Go Go.RowKit

theorem treErr_conf {c : Cfg} {f : Frm} (h : partOk c = false) : treErr c f = 40 := by simp [treErr, h]
theorem treErr_obj {c : Cfg} {f : Frm} (h : (c.object == 2) = false) : treErr c f = 40 := by simp [treErr, h]
theorem treErr_arg {c : Cfg} {f : Frm} (h : partOk c = true) (h1 : (c.object == 2) = true) (h2 : treMay c f = false) : treErr c f = 2 := by simp [treErr, h, h1, h2]
theorem treErr_yes {c : Cfg} {f : Frm} (h : partOk c = true) (h1 : (c.object == 2) = true) (h2 : treMay c f = true) : treErr c f = 0 := by simp [treErr, h, h1, h2]
theorem treErr_ok {c : Cfg} {f : Frm} (h : treErr c f = 0) : partOk c = true ∧ c.object = 2 ∧ treMay c f = true := by
  unfold treErr at h
  split at h
  · rename_i h1
    simp at h1
    split at h
    · rename_i h2
      exact ⟨h1.1, h1.2, h2⟩
    · cases h
  · cases h
theorem treMay_facts {c : Cfg} {f : Frm} (h : treMay c f = true) : opErr c (treOp f) = 0 ∧ treHas f = true ∧ treNum c f = true ∧ 0 ≤ (treStep c f).at' := by
  simp only [treMay, Bool.and_eq_true, beq_iff_eq, decide_eq_true_eq] at h
  exact ⟨h.1.1.1, h.1.1.2, h.1.2, h.2⟩
end Go.Proofs.YtkklhhdkokncnaaDoor
