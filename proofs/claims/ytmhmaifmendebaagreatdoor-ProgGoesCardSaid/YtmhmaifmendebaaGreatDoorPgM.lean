/- The walk of the law 'ProgGoes'. -/
import Derived.Test.YtmhmaifmendebaaGreatDoorPA
namespace Go.Proofs.YtmhmaifmendebaaGreatDoor
open Go Go.RowKit
set_option maxRecDepth 100000
set_option maxHeartbeats 8000000

theorem progGoes_walk (c : Cfg) (f : Frm) (l : Cel) (hf : f.Fits) (hl : l.Fits) (w : World) (ht : Tab w) : Calls Tryz.prog 4 #[c.v, f.v, l.v] w
    fun e w' => e = .returned (.bool true) ∧ Ext w w' := by
  have HF := Lib.hid hf
  have HL := Lib.hid hl
  clear hf hl
  obtain ⟨Z, hZ⟩ : ∃ Z, pgOutV (pgAfterA c f l) (pgErr c f) = Z := ⟨_, rfl⟩
  obtain ⟨G, K, U, T, E, rfl⟩ : ∃ (G : Frm) (K U : Int) (T : Bool) (E : Int), Z = .tuple #[G.v, .agg #[.int .u64 K, .int .u64 U], .bool T, .int .i64 E] := ⟨_, _, _, _, _, hZ.symm⟩
  have HZ := Lib.hid hZ
  clear hZ
  go_enter Tryz.func4, Tryz.ntmps4
  go_wp2_with (first | (go_at_call 7; refine (pgAfter_any c f l HF.out HL.out _ (Tab.ext ht EX)).mono ?_; rintro e w1 ⟨rfl, os1, n1, rfl⟩; rw [HZ.out]) | (go_at_call 8; refine (pgAfterR_any c f l HF.out HL.out _).mono ?_; rintro e w2 ⟨rfl, os2, n2, rfl⟩; rw [HZ.out]))
  go_ret
  exact ⟨rfl, EX⟩
end Go.Proofs.YtmhmaifmendebaaGreatDoor
