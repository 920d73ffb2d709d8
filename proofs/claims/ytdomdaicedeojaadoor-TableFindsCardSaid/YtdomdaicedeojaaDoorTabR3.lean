/- The walk of the document's answer for a table (layer 6): 'Is'. -/
import Derived.Test.YtdomdaicedeojaaDoorTabR2
import Derived.Test.YtdomdaicedeojaaDoorRef6b
import Derived.Test.YtdomdaicedeojaaDoorOwnP
namespace Go.Proofs.YtdomdaicedeojaaDoor
open Go Go.RowKit

theorem great_i (c : Cfg) (h1 : (c.object == 1) = true) (hb : 0 ≤ c.bits ∧ c.bits ≤ 6) (w : World) (G : Nat) (hG : 2 * 2 ^ c.bits.toNat = G) : Calls Tryd.prog 35 #[c.v] w fun e w' => e = .returned (.int .i64 (G : Int)) ∧ Ext w w' := by
  subst hG
  exact great_any c h1 hb w
set_option maxRecDepth 100000 in
set_option maxHeartbeats 4000000 in
theorem isR_any (c : Cfg) (v : Value) (L : List Rw) (hf : RwsFit L) (w : World) (hv : Sl w v L.length (rwCells L)) : Calls Tryd.prog 15 #[c.v, v] w
    fun e w' => e = .returned (.bool (tabIs c L)) ∧ Ext w w' := by
  have HV := Lib.hid hv
  have HF := Lib.hid hf
  clear hf
  obtain ⟨ad, cap, rfl, hs⟩ := hv
  have hm := hs.len
  have HS := Lib.hid hs
  clear hs
  obtain ⟨R, hR⟩ : ∃ R, tabIs c L = R := ⟨_, rfl⟩
  rw [hR]
  unfold tabIs at hR
  cases hp : partOk c
  · have HC := Lib.hid hp
    have HR : Hid (false = R) := Lib.hid (by rw [← hR, hp]; rfl)
    clear hp hR
    go_enter Tryd.func15, Tryd.ntmps15
    go_wp2_with (go_at_call 30; (with_reducible refine (mayBe_any c _).mono ?_); rintro e w1 ⟨rfl, os1, n1, rfl⟩; rw [HC.out])
    go_ret
    exact ⟨by rw [← HR.out] <;> rfl, (by repeat (first | with_reducible exact Ext.refl _ | with_reducible assumption | with_reducible refine Ext.alloc ?_ _ | with_reducible refine Ext.gr ?_ _ | with_reducible refine Ext.drewN ?_ _ | with_reducible refine Ext.drew ?_ | with_reducible refine Ext.setCell ?_ ?_ _ | with_reducible refine Ext.more ?_ _ _ | (show _ ≤ _; dsimp only; omega)))⟩
  · have HC := Lib.hid hp
    have HBB := Lib.hid (partOk_bits hp)
    rw [hp] at hR
    clear hp
    cases h1 : (c.object == 1)
    · have h1' : (c.object != 1) = true := by simpa [bne] using h1
      have HR : Hid (false = R) := Lib.hid (by rw [← hR, h1]; rfl)
      clear hR
      go_enter Tryd.func15, Tryd.ntmps15
      go_wp2_with (go_at_call 30; (with_reducible refine (mayBe_any c _).mono ?_); rintro e w1 ⟨rfl, os1, n1, rfl⟩; rw [HC.out])
      go_ret
      exact ⟨by rw [← HR.out] <;> rfl, (by repeat (first | with_reducible exact Ext.refl _ | with_reducible assumption | with_reducible refine Ext.alloc ?_ _ | with_reducible refine Ext.gr ?_ _ | with_reducible refine Ext.drewN ?_ _ | with_reducible refine Ext.drew ?_ | with_reducible refine Ext.setCell ?_ ?_ _ | with_reducible refine Ext.more ?_ _ _ | (show _ ≤ _; dsimp only; omega)))⟩
    · have h1' : (c.object != 1) = false := by simpa [bne] using h1
      have HOBJ := Lib.hid h1
      rw [h1] at hR
      by_cases h2 : (L.length : Int) ≤ c.cap
      · have h2' : ¬ c.cap < (L.length : Int) := by omega
        simp only [h2, decide_true, Bool.and_true, Bool.true_and] at hR
        cases h3 : risesB L
        · have HI := Lib.hid h3
          have HR : Hid (false = R) := Lib.hid (by rw [← hR, h3]; rfl)
          clear hR h3
          go_enter Tryd.func15, Tryd.ntmps15
          go_wp2_with (first | (go_at_call 30; (with_reducible refine (mayBe_any c _).mono ?_); rintro e w1 ⟨rfl, os1, n1, rfl⟩; rw [HC.out]) | (go_at_call 34; (with_reducible refine (rise_any _ L _ (HV.out.ext (by first | ((repeat (first | with_reducible exact Ext.refl _ | with_reducible assumption | with_reducible refine Ext.alloc ?_ _ | with_reducible refine Ext.gr ?_ _ | with_reducible refine Ext.drewN ?_ _ | with_reducible refine Ext.drew ?_ | with_reducible refine Ext.setCell ?_ ?_ _ | with_reducible refine Ext.more ?_ _ _ | (show _ ≤ _; dsimp only; omega))); done) | ((repeat (first | with_reducible exact Ext.refl _ | with_reducible assumption | with_reducible apply Ext.bothR | with_reducible refine Ext.alloc ?_ _ | with_reducible refine Ext.gr ?_ _ | with_reducible refine Ext.drewN ?_ _ | with_reducible refine Ext.drew ?_ | with_reducible refine Ext.setCell ?_ ?_ _ | with_reducible refine Ext.more ?_ _ _ | (show _ ≤ _; dsimp only; omega))); done)))).mono ?_); rintro e w2 ⟨rfl, os2, n2, rfl⟩; rw [HI.out]))
          go_ret
          exact ⟨by rw [← HR.out] <;> rfl, (by repeat (first | with_reducible exact Ext.refl _ | with_reducible assumption | with_reducible refine Ext.alloc ?_ _ | with_reducible refine Ext.gr ?_ _ | with_reducible refine Ext.drewN ?_ _ | with_reducible refine Ext.drew ?_ | with_reducible refine Ext.setCell ?_ ?_ _ | with_reducible refine Ext.more ?_ _ _ | (show _ ≤ _; dsimp only; omega)))⟩
        · have HI := Lib.hid h3
          have HR : Hid (L.all (tabB c) = R) := Lib.hid (by rw [← hR, h3]; rfl)
          obtain ⟨G, hG⟩ : ∃ G, 2 * 2 ^ c.bits.toNat = G := ⟨_, rfl⟩
          have hG2 : G ≤ 128 := by have := two_le (Nat.le_refl c.bits.toNat) (by have := HBB.out; omega); omega
          have HG := Lib.hid hG
          have qG : IntKind.u64.wrap (G : Int) = (G : Int) := by rw [IntKind.wrap_u64]; omega
          clear hR h3 hG
          go_enter Tryd.func15, Tryd.ntmps15
          go_wp2_with (first | (go_at_call 30; (with_reducible refine (mayBe_any c _).mono ?_); rintro e w1 ⟨rfl, os1, n1, rfl⟩; rw [HC.out]) | (go_at_call 34; (with_reducible refine (rise_any _ L _ (HV.out.ext (by first | ((repeat (first | with_reducible exact Ext.refl _ | with_reducible assumption | with_reducible refine Ext.alloc ?_ _ | with_reducible refine Ext.gr ?_ _ | with_reducible refine Ext.drewN ?_ _ | with_reducible refine Ext.drew ?_ | with_reducible refine Ext.setCell ?_ ?_ _ | with_reducible refine Ext.more ?_ _ _ | (show _ ≤ _; dsimp only; omega))); done) | ((repeat (first | with_reducible exact Ext.refl _ | with_reducible assumption | with_reducible apply Ext.bothR | with_reducible refine Ext.alloc ?_ _ | with_reducible refine Ext.gr ?_ _ | with_reducible refine Ext.drewN ?_ _ | with_reducible refine Ext.drew ?_ | with_reducible refine Ext.setCell ?_ ?_ _ | with_reducible refine Ext.more ?_ _ _ | (show _ ≤ _; dsimp only; omega))); done)))).mono ?_); rintro e w2 ⟨rfl, os2, n2, rfl⟩; rw [HI.out]))
          go_loopw [5] (fun i wr => ∃ k : Nat, k ≤ L.length ∧ i = .int .i64 k ∧ Hid (Ext (w.alloc (.cells #[.int .u8 c.object, .int .i64 c.instances, .int .i64 c.threads, .int .u8 c.kind, .int .i64 c.stripes, .int .i64 c.bits, .int .i64 c.cap, .int .i64 c.node, .int .i64 c.batch, .int .i64 c.chunk, .int .u64 c.limit, .int .u64 c.most] 33)) wr) ∧ Hid (∀ j, j < k → tabB c (L.getD j zrw) = true)) (fun i _ => L.length - (intOf i).toNat)
          case atStart => exact ⟨0, Nat.zero_le _, rfl, Lib.hid (by repeat (first | with_reducible exact Ext.refl _ | with_reducible assumption | with_reducible refine Ext.alloc ?_ _ | with_reducible refine Ext.gr ?_ _ | with_reducible refine Ext.drewN ?_ _ | with_reducible refine Ext.drew ?_ | with_reducible refine Ext.setCell ?_ ?_ _ | with_reducible refine Ext.more ?_ _ _ | (show _ ≤ _; dsimp only; omega))), Lib.hid fun j hj => absurd hj (Nat.not_lt_zero _)⟩
          case round =>
            obtain ⟨k, hk, rfl, HE, HT⟩ := hrel
            obtain ⟨os, d, rfl⟩ := HE.out
            have hE : Ext w (grew (w.alloc (.cells #[.int .u8 c.object, .int .i64 c.instances, .int .i64 c.threads, .int .u8 c.kind, .int .i64 c.stripes, .int .i64 c.bits, .int .i64 c.cap, .int .i64 c.node, .int .i64 c.batch, .int .i64 c.chunk, .int .u64 c.limit, .int .u64 c.most] 33)) os d) := (by repeat (first | with_reducible exact Ext.refl _ | with_reducible assumption | with_reducible refine Ext.alloc ?_ _ | with_reducible refine Ext.gr ?_ _ | with_reducible refine Ext.drewN ?_ _ | with_reducible refine Ext.drew ?_ | with_reducible refine Ext.setCell ?_ ?_ _ | with_reducible refine Ext.more ?_ _ _ | (show _ ≤ _; dsimp only; omega)))
            clear HE
            by_cases hlt : k < L.length
            · obtain ⟨b, o, rfl, hbl, r1, r2⟩ := HS.out.rw hlt
              have hb1 : b < w.heap.size + 1 := by omega
              have hb2 : b < w.heap.size + 1 + cnt os := by omega
              obtain ⟨x, hx⟩ : ∃ x, L.getD k zrw = x := ⟨_, rfl⟩
              rw [hx] at r1 r2
              have HX := Lib.hid hx
              have i0 : (0 : Int) ≤ (k : Int) := by omega
              have i1 : (k : Int) < (L.length : Int) := by omega
              clear hx
              by_cases h5 : x.k < 1
              · have d5 : decide (x.k < 1) = true := decide_eq_true h5
                have HR2 : Hid (false = R) := Lib.hid (by rw [← HR.out]; exact (all_not hlt (by rw [HX.out]; simp [tabB]; omega)).symm)
                go_wp2
                (refine wp_region_ext_lit (by kernel_rfl) (by kernel_rfl) ?_); (repeat (go_big_quiet_step (first | (go_at_call 35; exact quiet_ext ((great_i c HOBJ.out HBB.out _ G HG.out).mono fun e w' h => h))))); (refine wpQuiet_nil ?_; intro _ hw'; obtain ⟨⟨osq, nq⟩, hw''⟩ := hw'; replace hw'' : _ = grew _ osq nq := hw''; subst hw'')
                go_wp2
                go_ret
                exact ⟨by rw [← HR2.out] <;> rfl, (by repeat (first | with_reducible exact Ext.refl _ | with_reducible assumption | with_reducible refine Ext.alloc ?_ _ | with_reducible refine Ext.gr ?_ _ | with_reducible refine Ext.drewN ?_ _ | with_reducible refine Ext.drew ?_ | with_reducible refine Ext.setCell ?_ ?_ _ | with_reducible refine Ext.more ?_ _ _ | (show _ ≤ _; dsimp only; omega)))⟩
              · have d5 : decide (x.k < 1) = false := decide_eq_false h5
                by_cases h6 : (G : Int) ≤ x.k
                · have d6 : decide ((G : Int) ≤ x.k) = true := decide_eq_true h6
                  have HR2 : Hid (false = R) := Lib.hid (by rw [← HR.out]; exact (all_not hlt (by rw [HX.out]; unfold tabB; rw [HG.out, decide_eq_false (show ¬ x.k < (G : Int) by omega)]; simp)).symm)
                  go_wp2
                  (refine wp_region_ext_lit (by kernel_rfl) (by kernel_rfl) ?_); (repeat (go_big_quiet_step (first | (go_at_call 35; exact quiet_ext ((great_i c HOBJ.out HBB.out _ G HG.out).mono fun e w' h => h))))); (refine wpQuiet_nil ?_; intro _ hw'; obtain ⟨⟨osq, nq⟩, hw''⟩ := hw'; replace hw'' : _ = grew _ osq nq := hw''; subst hw'')
                  go_wp2
                  go_ret
                  exact ⟨by rw [← HR2.out] <;> rfl, (by repeat (first | with_reducible exact Ext.refl _ | with_reducible assumption | with_reducible refine Ext.alloc ?_ _ | with_reducible refine Ext.gr ?_ _ | with_reducible refine Ext.drewN ?_ _ | with_reducible refine Ext.drew ?_ | with_reducible refine Ext.setCell ?_ ?_ _ | with_reducible refine Ext.more ?_ _ _ | (show _ ≤ _; dsimp only; omega)))⟩
                · have d6 : decide ((G : Int) ≤ x.k) = false := decide_eq_false h6
                  by_cases h7 : 2147483647 < x.v
                  · have d7 : decide (2147483647 < x.v) = true := decide_eq_true h7
                    have HR2 : Hid (false = R) := Lib.hid (by rw [← HR.out]; exact (all_not hlt (by rw [HX.out]; unfold tabB; rw [decide_eq_false (show ¬ x.v ≤ 2147483647 by omega)]; simp)).symm)
                    go_wp2
                    (refine wp_region_ext_lit (by kernel_rfl) (by kernel_rfl) ?_); (repeat (go_big_quiet_step (first | (go_at_call 35; exact quiet_ext ((great_i c HOBJ.out HBB.out _ G HG.out).mono fun e w' h => h))))); (refine wpQuiet_nil ?_; intro _ hw'; obtain ⟨⟨osq, nq⟩, hw''⟩ := hw'; replace hw'' : _ = grew _ osq nq := hw''; subst hw'')
                    go_wp2
                    go_ret
                    exact ⟨by rw [← HR2.out] <;> rfl, (by repeat (first | with_reducible exact Ext.refl _ | with_reducible assumption | with_reducible refine Ext.alloc ?_ _ | with_reducible refine Ext.gr ?_ _ | with_reducible refine Ext.drewN ?_ _ | with_reducible refine Ext.drew ?_ | with_reducible refine Ext.setCell ?_ ?_ _ | with_reducible refine Ext.more ?_ _ _ | (show _ ≤ _; dsimp only; omega)))⟩
                  · have d7 : decide (2147483647 < x.v) = false := decide_eq_false h7
                    have HT2 : Hid (∀ j, j < k + 1 → tabB c (L.getD j zrw) = true) := Lib.hid (by
                      intro j hj
                      by_cases e : j = k
                      · subst e; rw [HX.out]; unfold tabB; rw [HG.out, decide_eq_true (show x.k < (G : Int) by omega), decide_eq_true (show 1 ≤ x.k by omega), decide_eq_true (show x.v ≤ 2147483647 by omega)]; rfl
                      · exact HT.out j (by omega))
                    go_wp2
                    (refine wp_region_ext_lit (by kernel_rfl) (by kernel_rfl) ?_); (repeat (go_big_quiet_step (first | (go_at_call 35; exact quiet_ext ((great_i c HOBJ.out HBB.out _ G HG.out).mono fun e w' h => h))))); (refine wpQuiet_nil ?_; intro _ hw'; obtain ⟨⟨osq, nq⟩, hw''⟩ := hw'; replace hw'' : _ = grew _ osq nq := hw''; subst hw'')
                    go_wp2
                    go_roundw
                    case rel => exact ⟨k + 1, by omega, by go_num, Lib.hid (by repeat (first | with_reducible exact Ext.refl _ | with_reducible assumption | with_reducible refine Ext.alloc ?_ _ | with_reducible refine Ext.gr ?_ _ | with_reducible refine Ext.drewN ?_ _ | with_reducible refine Ext.drew ?_ | with_reducible refine Ext.setCell ?_ ?_ _ | with_reducible refine Ext.more ?_ _ _ | (show _ ≤ _; dsimp only; omega))), HT2⟩
                    case measure => simp [intOf]; omega
            · obtain rfl : k = L.length := by omega
              have HR2 : Hid (true = R) := Lib.hid (by rw [← HR.out]; exact (all_of HT.out).symm)
              go_wp2
              go_ret
              exact ⟨by rw [← HR2.out] <;> rfl, hE⟩
      · have h2' : c.cap < (L.length : Int) := by omega
        have HR : Hid (false = R) := Lib.hid (by rw [← hR]; simp [h2])
        clear hR
        go_enter Tryd.func15, Tryd.ntmps15
        go_wp2_with (go_at_call 30; (with_reducible refine (mayBe_any c _).mono ?_); rintro e w1 ⟨rfl, os1, n1, rfl⟩; rw [HC.out])
        go_ret
        exact ⟨by rw [← HR.out] <;> rfl, (by repeat (first | with_reducible exact Ext.refl _ | with_reducible assumption | with_reducible refine Ext.alloc ?_ _ | with_reducible refine Ext.gr ?_ _ | with_reducible refine Ext.drewN ?_ _ | with_reducible refine Ext.drew ?_ | with_reducible refine Ext.setCell ?_ ?_ _ | with_reducible refine Ext.more ?_ _ _ | (show _ ≤ _; dsimp only; omega)))⟩
end Go.Proofs.YtdomdaicedeojaaDoor
