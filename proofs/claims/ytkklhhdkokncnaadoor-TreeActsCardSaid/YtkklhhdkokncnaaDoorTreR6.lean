/- The walks of the reference's 'Step', 'May', 'Next', layer 'tree'. -/
import Derived.Test.YtkklhhdkokncnaaDoorCheckR
import Derived.Test.YtkklhhdkokncnaaDoorTreR5
import Derived.Test.YtkklhhdkokncnaaDoorTreR5b
namespace Go.Proofs.YtkklhhdkokncnaaDoor
open Go Go.RowKit

theorem stepR_any (c : Cfg) (f : Frm) (hc : TreOk c) (hf : f.Fits) (hhas : treHas f = true) (hnum : treNum c f = true) (w : World) : Calls Tryd.prog 33 #[c.v, f.v] w
    fun e w' => e = .returned (treStep c f).v ∧ Ext w w' := by
  have hpc : f.pc = 0 ∨ f.pc = 1 ∨ f.pc = 3 ∨ f.pc = 4 ∨ f.pc = 5 ∨ f.pc = 6 ∨ f.pc = 7 ∨ f.pc = 8 ∨ f.pc = 9 ∨ f.pc = 11 ∨ f.pc = 12 ∨ f.pc = 13 ∨ f.pc = 14 ∨ f.pc = 15 ∨ f.pc = 16 ∨ f.pc = 17 ∨ f.pc = 20 ∨ f.pc = 21 ∨ f.pc = 22 ∨ f.pc = 23 ∨ f.pc = 24 ∨ f.pc = 25 := by
    simp only [treHas, Bool.or_eq_true, Bool.and_eq_true, beq_iff_eq] at hhas
    omega
  rcases hpc with h | h | h | h | h | h | h | h | h | h | h | h | h | h | h | h | h | h | h | h | h | h
  · exact stepR_0 c f hc hf hnum h w
  · exact stepR_1 c f hc hf hnum h w
  · exact stepR_3 c f hc hf hnum h w
  · exact stepR_4 c f hc hf hnum h w
  · exact stepR_5 c f hc hf hnum h w
  · exact stepR_6 c f hc hf hnum h w
  · exact stepR_7 c f hc hf hnum h w
  · exact stepR_8 c f hc hf hnum h w
  · exact stepR_9 c f hc hf hnum h w
  · exact stepR_11 c f hc hf hnum h w
  · exact stepR_12 c f hc hf hnum h w
  · exact stepR_13 c f hc hf hnum h w
  · exact stepR_14 c f hc hf hnum h w
  · exact stepR_15 c f hc hf hnum h w
  · exact stepR_16 c f hc hf hnum h w
  · exact stepR_17 c f hc hf hnum h w
  · exact stepR_20 c f hc hf hnum h w
  · exact stepR_21 c f hc hf hnum h w
  · exact stepR_22 c f hc hf hnum h w
  · exact stepR_23 c f hc hf hnum h w
  · exact stepR_24 c f hc hf hnum h w
  · exact stepR_25 c f hc hf hnum h w
end Go.Proofs.YtkklhhdkokncnaaDoor
