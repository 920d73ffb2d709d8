/- The walk of 'may', the layer 'tree'. -/
import Derived.Test.YtkklhhdkokncnaaDoorCheck
import Derived.Test.YtkklhhdkokncnaaDoorTre4
namespace Go.Proofs.YtkklhhdkokncnaaDoor
open Go Go.RowKit

theorem opErr_part {c : Cfg} {o : Opn} (h : opErr c o = 0) : partOk c = true := by
  unfold opErr at h
  split at h
  · assumption
  · cases h
theorem opErr_kind {c : Cfg} {o : Opn} (h : opErr c o = 0) : objOf o.kind = c.object := by
  unfold opErr at h
  split at h
  · split at h
    · rename_i h2
      simpa using h2
    · cases h
  · cases h
theorem treOk_of {c : Cfg} (h : partOk c = true) (ho : c.object = 2) : TreOk c := by
  simp [partOk, within, ho] at h
  exact ⟨by omega, by omega, by omega⟩
theorem treOp_fits {f : Frm} (h : f.Fits) : (treOp f).Fits := ⟨h.kind, h.a, by unfold treOp; have := h.b; dsimp only; split <;> omega, by simp [treOp]⟩
theorem treNum_of {c : Cfg} {f : Frm} (m1 : f.n ≤ c.cap) (m2 : f.p ≤ c.cap) (m3 : f.j ≤ c.chunk) (m4 : f.h ≤ treTop c) (m5 : f.pc = 16 ∨ f.j ≠ c.chunk) (m6 : f.pc = 6 → 1 ≤ f.i) (m7 : f.pc = 9 ∨ f.pc = 11 → 1 ≤ f.h ∧ f.i < treUp c f.n f.h) (m8 : f.pc = 12 → 1 ≤ f.h) : treNum c f = true := by
  simp only [treNum, Bool.and_eq_true, decide_eq_true_eq]
  refine ⟨⟨⟨⟨⟨m1, m2⟩, m3⟩, m4⟩, ?_⟩, ?_⟩
  · simpa using m5
  · by_cases h6 : f.pc = 6
    · simpa [h6] using m6 h6
    · by_cases h9 : f.pc = 9 ∨ f.pc = 11
      · have := m7 h9
        rcases h9 with h | h <;> simpa [h] using this
      · by_cases h12 : f.pc = 12
        · simpa [h12] using m8 h12
        · simp only [not_or] at h9
          simp [h6, h9.1, h9.2, h12]
theorem treNum_no {c : Cfg} {f : Frm} (h : c.cap < f.n ∨ c.cap < f.p ∨ c.chunk < f.j ∨ treTop c < f.h ∨ (f.pc ≠ 16 ∧ f.j = c.chunk) ∨ (f.pc = 6 ∧ f.i < 1) ∨ ((f.pc = 9 ∨ f.pc = 11) ∧ (f.h < 1 ∨ treUp c f.n f.h ≤ f.i)) ∨ (f.pc = 12 ∧ f.h < 1)) : treNum c f = false := by
  cases hn : treNum c f
  · rfl
  · exfalso
    obtain ⟨m1, m2, m3, m4, m5, m6, m7, m8⟩ := treNum_facts hn
    rcases h with h | h | h | h | h | h | h | h
    · omega
    · omega
    · omega
    · omega
    · rcases m8 with m | m
      · exact h.1 m
      · exact m h.2
    · have := m5 h.1
      omega
    · have := m6 h.1
      omega
    · have := m7 h.1
      omega
end Go.Proofs.YtkklhhdkokncnaaDoor
