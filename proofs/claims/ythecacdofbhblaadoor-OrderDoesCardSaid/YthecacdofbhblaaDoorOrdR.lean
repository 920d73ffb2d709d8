/- The walks of the document's answer for an index in order (layer 7): 'Is', 'reads'. -/
import Derived.Test.YthecacdofbhblaaDoorRef6b
import Derived.Test.YthecacdofbhblaaDoorOrd0
import Derived.Test.YthecacdofbhblaaDoorOwnP
import Derived.Test.YthecacdofbhblaaDoorLawP
import Derived.Test.YthecacdofbhblaaDoorCheckR
import Derived.Deep.QuietTactic
import Derived.BigQuiet
import Derived.Deep.RegionHeld3
import Derived.Outline
namespace Go.Proofs.YthecacdofbhblaaDoor
open Go Go.RowKit

set_option maxRecDepth 100000 in
set_option maxHeartbeats 4000000 in
theorem isR_any (c : Cfg) (v : Value) (L : List Rw) (hf : RwsFit L) (w : World) (hv : Sl w v L.length (rwCells L)) : Calls Tryd.prog 17 #[c.v, v] w
    fun e w' => e = .returned (.bool (ordIs c L)) ∧ Ext w w' := by
  have HV := Lib.hid hv
  have HF := Lib.hid hf
  clear hf
  obtain ⟨ad, cap, rfl, hs⟩ := hv
  have hm := hs.len
  have HS := Lib.hid hs
  clear hs
  obtain ⟨R, hR⟩ : ∃ R, ordIs c L = R := ⟨_, rfl⟩
  rw [hR]
  unfold ordIs at hR
  cases hp : partOk c
  · have HC := Lib.hid hp
    have HR : Hid (false = R) := Lib.hid (by rw [← hR, hp]; rfl)
    clear hp hR
    go_enter Tryd.func17, Tryd.ntmps17
    go_wp2_with (go_at_call 30; refine (mayBe_any c _).mono ?_; rintro e w1 ⟨rfl, os1, n1, rfl⟩; rw [HC.out])
    go_ret
    exact ⟨by rw [← HR.out] <;> rfl, (by repeat (first | with_reducible exact Ext.refl _ | with_reducible assumption | with_reducible refine Ext.alloc ?_ _ | with_reducible refine Ext.gr ?_ _ | with_reducible refine Ext.drewN ?_ _ | with_reducible refine Ext.drew ?_ | with_reducible refine Ext.setCell ?_ ?_ _ | with_reducible refine Ext.more ?_ _ _ | (show _ ≤ _; dsimp only; omega)))⟩
  · have HC := Lib.hid hp
    rw [hp] at hR
    clear hp
    cases h1 : (c.object == 2)
    · have h1' : (c.object != 2) = true := by simpa [bne] using h1
      have HR : Hid (false = R) := Lib.hid (by rw [← hR, h1]; rfl)
      clear hR
      go_enter Tryd.func17, Tryd.ntmps17
      go_wp2_with (go_at_call 30; refine (mayBe_any c _).mono ?_; rintro e w1 ⟨rfl, os1, n1, rfl⟩; rw [HC.out])
      go_ret
      exact ⟨by rw [← HR.out] <;> rfl, (by repeat (first | with_reducible exact Ext.refl _ | with_reducible assumption | with_reducible refine Ext.alloc ?_ _ | with_reducible refine Ext.gr ?_ _ | with_reducible refine Ext.drewN ?_ _ | with_reducible refine Ext.drew ?_ | with_reducible refine Ext.setCell ?_ ?_ _ | with_reducible refine Ext.more ?_ _ _ | (show _ ≤ _; dsimp only; omega)))⟩
    · have h1' : (c.object != 2) = false := by simpa [bne] using h1
      rw [h1] at hR
      by_cases h2 : (L.length : Int) ≤ c.cap
      · have h2' : ¬ c.cap < (L.length : Int) := by omega
        simp only [h2, decide_true, Bool.and_true, Bool.true_and] at hR
        cases h3 : risesB L
        · have HI := Lib.hid h3
          have HR : Hid (false = R) := Lib.hid (by rw [← hR, h3]; rfl)
          clear hR h3
          go_enter Tryd.func17, Tryd.ntmps17
          go_wp2_with (first | (go_at_call 30; refine (mayBe_any c _).mono ?_; rintro e w1 ⟨rfl, os1, n1, rfl⟩; rw [HC.out]) | (go_at_call 34; refine (rise_any _ L _ (HV.out.ext (by first | ((repeat (first | with_reducible exact Ext.refl _ | with_reducible assumption | with_reducible refine Ext.alloc ?_ _ | with_reducible refine Ext.gr ?_ _ | with_reducible refine Ext.drewN ?_ _ | with_reducible refine Ext.drew ?_ | with_reducible refine Ext.setCell ?_ ?_ _ | with_reducible refine Ext.more ?_ _ _ | (show _ ≤ _; dsimp only; omega))); done) | ((repeat (first | with_reducible exact Ext.refl _ | with_reducible assumption | with_reducible apply Ext.bothR | with_reducible refine Ext.alloc ?_ _ | with_reducible refine Ext.gr ?_ _ | with_reducible refine Ext.drewN ?_ _ | with_reducible refine Ext.drew ?_ | with_reducible refine Ext.setCell ?_ ?_ _ | with_reducible refine Ext.more ?_ _ _ | (show _ ≤ _; dsimp only; omega))); done)))).mono ?_; rintro e w2 ⟨rfl, os2, n2, rfl⟩; rw [HI.out]))
          go_ret
          exact ⟨by rw [← HR.out] <;> rfl, (by repeat (first | with_reducible exact Ext.refl _ | with_reducible assumption | with_reducible refine Ext.alloc ?_ _ | with_reducible refine Ext.gr ?_ _ | with_reducible refine Ext.drewN ?_ _ | with_reducible refine Ext.drew ?_ | with_reducible refine Ext.setCell ?_ ?_ _ | with_reducible refine Ext.more ?_ _ _ | (show _ ≤ _; dsimp only; omega)))⟩
        · have HI := Lib.hid h3
          have HR : Hid (L.all ordB = R) := Lib.hid (by rw [← hR, h3]; rfl)
          clear hR h3
          go_enter Tryd.func17, Tryd.ntmps17
          go_wp2_with (first | (go_at_call 30; refine (mayBe_any c _).mono ?_; rintro e w1 ⟨rfl, os1, n1, rfl⟩; rw [HC.out]) | (go_at_call 34; refine (rise_any _ L _ (HV.out.ext (by first | ((repeat (first | with_reducible exact Ext.refl _ | with_reducible assumption | with_reducible refine Ext.alloc ?_ _ | with_reducible refine Ext.gr ?_ _ | with_reducible refine Ext.drewN ?_ _ | with_reducible refine Ext.drew ?_ | with_reducible refine Ext.setCell ?_ ?_ _ | with_reducible refine Ext.more ?_ _ _ | (show _ ≤ _; dsimp only; omega))); done) | ((repeat (first | with_reducible exact Ext.refl _ | with_reducible assumption | with_reducible apply Ext.bothR | with_reducible refine Ext.alloc ?_ _ | with_reducible refine Ext.gr ?_ _ | with_reducible refine Ext.drewN ?_ _ | with_reducible refine Ext.drew ?_ | with_reducible refine Ext.setCell ?_ ?_ _ | with_reducible refine Ext.more ?_ _ _ | (show _ ≤ _; dsimp only; omega))); done)))).mono ?_; rintro e w2 ⟨rfl, os2, n2, rfl⟩; rw [HI.out]))
          go_loopw [5] (fun i wr => ∃ k : Nat, k ≤ L.length ∧ i = .int .i64 k ∧ Ext w wr ∧ Hid (∀ j, j < k → ordB (L.getD j zrw) = true)) (fun i _ => L.length - (intOf i).toNat)
          case atStart => exact ⟨0, Nat.zero_le _, rfl, (by repeat (first | with_reducible exact Ext.refl _ | with_reducible assumption | with_reducible refine Ext.alloc ?_ _ | with_reducible refine Ext.gr ?_ _ | with_reducible refine Ext.drewN ?_ _ | with_reducible refine Ext.drew ?_ | with_reducible refine Ext.setCell ?_ ?_ _ | with_reducible refine Ext.more ?_ _ _ | (show _ ≤ _; dsimp only; omega))), Lib.hid fun j hj => absurd hj (Nat.not_lt_zero _)⟩
          case round =>
            obtain ⟨k, hk, rfl, he, HT⟩ := hrel
            have HE := Lib.hid he
            clear he
            by_cases hlt : k < L.length
            · obtain ⟨b, o, rfl, _, r1, r2⟩ := (HS.out.ext HE.out).rw hlt
              obtain ⟨x, hx⟩ : ∃ x, L.getD k zrw = x := ⟨_, rfl⟩
              rw [hx] at r1 r2
              have HX := Lib.hid hx
              have i0 : (0 : Int) ≤ (k : Int) := by omega
              have i1 : (k : Int) < (L.length : Int) := by omega
              clear hx
              by_cases h5 : x.k ≤ 2147483647
              · have h5' : ¬ 2147483647 < x.k := by omega
                by_cases h6 : x.v ≤ 2147483647
                · have h6' : ¬ 2147483647 < x.v := by omega
                  have HT2 : Hid (∀ j, j < k + 1 → ordB (L.getD j zrw) = true) := Lib.hid (by
                    intro j hj
                    by_cases e : j = k
                    · subst e; rw [HX.out]; simp [ordB, h5, h6]
                    · exact HT.out j (by omega))
                  go_wp2
                  go_roundw
                  case rel => exact ⟨k + 1, by omega, by go_num, HE.out.trans (by repeat (first | with_reducible exact Ext.refl _ | with_reducible assumption | with_reducible refine Ext.alloc ?_ _ | with_reducible refine Ext.gr ?_ _ | with_reducible refine Ext.drewN ?_ _ | with_reducible refine Ext.drew ?_ | with_reducible refine Ext.setCell ?_ ?_ _ | with_reducible refine Ext.more ?_ _ _ | (show _ ≤ _; dsimp only; omega))), HT2⟩
                  case measure => simp [intOf]; omega
                · have h6' : 2147483647 < x.v := by omega
                  have HR2 : Hid (false = R) := Lib.hid (by rw [← HR.out]; exact (all_not hlt (by rw [HX.out]; simp [ordB, h6])).symm)
                  go_wp2
                  go_ret
                  exact ⟨by rw [← HR2.out] <;> rfl, HE.out.trans (by repeat (first | with_reducible exact Ext.refl _ | with_reducible assumption | with_reducible refine Ext.alloc ?_ _ | with_reducible refine Ext.gr ?_ _ | with_reducible refine Ext.drewN ?_ _ | with_reducible refine Ext.drew ?_ | with_reducible refine Ext.setCell ?_ ?_ _ | with_reducible refine Ext.more ?_ _ _ | (show _ ≤ _; dsimp only; omega)))⟩
              · have h5' : 2147483647 < x.k := by omega
                have HR2 : Hid (false = R) := Lib.hid (by rw [← HR.out]; exact (all_not hlt (by rw [HX.out]; simp [ordB, h5])).symm)
                go_wp2
                go_ret
                exact ⟨by rw [← HR2.out] <;> rfl, HE.out.trans (by repeat (first | with_reducible exact Ext.refl _ | with_reducible assumption | with_reducible refine Ext.alloc ?_ _ | with_reducible refine Ext.gr ?_ _ | with_reducible refine Ext.drewN ?_ _ | with_reducible refine Ext.drew ?_ | with_reducible refine Ext.setCell ?_ ?_ _ | with_reducible refine Ext.more ?_ _ _ | (show _ ≤ _; dsimp only; omega)))⟩
            · obtain rfl : k = L.length := by omega
              have HR2 : Hid (true = R) := Lib.hid (by rw [← HR.out]; exact (all_of HT.out).symm)
              go_wp2
              go_ret
              exact ⟨by rw [← HR2.out] <;> rfl, HE.out⟩
      · have h2' : c.cap < (L.length : Int) := by omega
        have HR : Hid (false = R) := Lib.hid (by rw [← hR]; simp [h2])
        clear hR
        go_enter Tryd.func17, Tryd.ntmps17
        go_wp2_with (go_at_call 30; refine (mayBe_any c _).mono ?_; rintro e w1 ⟨rfl, os1, n1, rfl⟩; rw [HC.out])
        go_ret
        exact ⟨by rw [← HR.out] <;> rfl, (by repeat (first | with_reducible exact Ext.refl _ | with_reducible assumption | with_reducible refine Ext.alloc ?_ _ | with_reducible refine Ext.gr ?_ _ | with_reducible refine Ext.drewN ?_ _ | with_reducible refine Ext.drew ?_ | with_reducible refine Ext.setCell ?_ ?_ _ | with_reducible refine Ext.more ?_ _ _ | (show _ ≤ _; dsimp only; omega)))⟩

theorem word_any (u : Int) (hu : 0 ≤ u ∧ u ≤ 2147483647) (w : World) : Calls Tryd.prog 48 #[.int .u64 u] w fun e w' => e = .returned (.int .u32 (u + 1)) ∧ w = w' := by
  go_enter Tryd.func48, Tryd.ntmps48
  go_wp2
  go_ret
  exact ⟨rfl, rfl⟩
end Go.Proofs.YthecacdofbhblaaDoor
