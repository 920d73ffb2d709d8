/- The walks of the document's answer for paths (layer 9): 'Is'. -/
import Derived.Test.YtbfccbaplmjkhaaDoorPatRB
import Derived.Test.YtbfccbaplmjkhaaDoorPatD
namespace Go.Proofs.YtbfccbaplmjkhaaDoor
open Go Go.RowKit

set_option maxRecDepth 100000 in
set_option maxHeartbeats 4000000 in
theorem isR_any (c : Cfg) (v : Value) (L : List Rw) (hf : RwsFit L) (w : World) (hv : Rws w v L) : Calls Tryd.prog 15 #[c.v, v] w
    fun e w' => e = .returned (.bool (pathIs c L)) ∧ Ext w w' := by
  have HV := Lib.hid hv
  have HF := Lib.hid hf
  clear hf
  obtain ⟨ad, cap, rfl, hs, _⟩ := hv
  have hm := hs.len
  have HS := Lib.hid hs
  clear hs
  obtain ⟨R, hR⟩ : ∃ R, pathIs c L = R := ⟨_, rfl⟩
  rw [hR]
  unfold pathIs at hR
  cases hp : partOk c
  · have HC := Lib.hid hp
    have HR : Hid (false = R) := Lib.hid (by rw [← hR, hp]; rfl)
    clear hp hR
    go_enter Tryd.func15, Tryd.ntmps15
    go_wp2_with (go_at_call 31; (with_reducible refine (mayBe_any c _).mono ?_); rintro e w1 ⟨rfl, os1, n1, rfl⟩; rw [HC.out])
    go_ret
    exact ⟨by rw [← HR.out] <;> rfl, (by repeat (first | with_reducible exact Ext.refl _ | with_reducible assumption | with_reducible refine Ext.alloc ?_ _ | with_reducible refine Ext.gr ?_ _ | with_reducible refine Ext.drewN ?_ _ | with_reducible refine Ext.drew ?_ | with_reducible refine Ext.setCell ?_ ?_ _ | with_reducible refine Ext.more ?_ _ _ | (show _ ≤ _; dsimp only; omega)))⟩
  · have HC := Lib.hid hp
    rw [hp] at hR
    clear hp
    cases h1 : (c.object == 4)
    · have h1' : (c.object != 4) = true := by simpa [bne] using h1
      have HR : Hid (false = R) := Lib.hid (by rw [← hR, h1]; rfl)
      clear hR
      go_enter Tryd.func15, Tryd.ntmps15
      go_wp2_with (go_at_call 31; (with_reducible refine (mayBe_any c _).mono ?_); rintro e w1 ⟨rfl, os1, n1, rfl⟩; rw [HC.out])
      go_ret
      exact ⟨by rw [← HR.out] <;> rfl, (by repeat (first | with_reducible exact Ext.refl _ | with_reducible assumption | with_reducible refine Ext.alloc ?_ _ | with_reducible refine Ext.gr ?_ _ | with_reducible refine Ext.drewN ?_ _ | with_reducible refine Ext.drew ?_ | with_reducible refine Ext.setCell ?_ ?_ _ | with_reducible refine Ext.more ?_ _ _ | (show _ ≤ _; dsimp only; omega)))⟩
    · have h1' : (c.object != 4) = false := by simpa [bne] using h1
      rw [h1] at hR
      by_cases h2 : (L.length : Int) ≤ c.cap
      · have h2' : ¬ c.cap < (L.length : Int) := by omega
        simp only [h2, decide_true, Bool.and_true, Bool.true_and] at hR
        cases h3 : risesB L
        · have HI := Lib.hid h3
          have HR : Hid (false = R) := Lib.hid (by rw [← hR, h3]; rfl)
          clear hR h3
          go_enter Tryd.func15, Tryd.ntmps15
          go_wp2_with (first | (go_at_call 31; (with_reducible refine (mayBe_any c _).mono ?_); rintro e w1 ⟨rfl, os1, n1, rfl⟩; rw [HC.out]) | (go_at_call 35; (with_reducible refine (rise_any _ L _ (HV.out.sl.ext (by first | ((repeat (first | with_reducible exact Ext.refl _ | with_reducible assumption | with_reducible refine Ext.alloc ?_ _ | with_reducible refine Ext.gr ?_ _ | with_reducible refine Ext.drewN ?_ _ | with_reducible refine Ext.drew ?_ | with_reducible refine Ext.setCell ?_ ?_ _ | with_reducible refine Ext.more ?_ _ _ | (show _ ≤ _; dsimp only; omega))); done) | ((repeat (first | with_reducible exact Ext.refl _ | with_reducible assumption | with_reducible apply Ext.bothR | with_reducible refine Ext.alloc ?_ _ | with_reducible refine Ext.gr ?_ _ | with_reducible refine Ext.drewN ?_ _ | with_reducible refine Ext.drew ?_ | with_reducible refine Ext.setCell ?_ ?_ _ | with_reducible refine Ext.more ?_ _ _ | (show _ ≤ _; dsimp only; omega))); done) | ((repeat (first | with_reducible exact Ext.refl _ | with_reducible exact Ext.sameG _ _ _ _ | with_reducible assumption | with_reducible refine Ext.bothR (n := 0) ?_ | with_reducible refine Ext.alloc ?_ _ | with_reducible refine Ext.gr ?_ _ | with_reducible refine Ext.drewN ?_ _ | with_reducible refine Ext.drew ?_ | with_reducible refine Ext.setCell ?_ ?_ _ | with_reducible refine Ext.more ?_ _ _ | (show _ ≤ _; dsimp only; omega))); done)))).mono ?_); rintro e w2 ⟨rfl, os2, n2, rfl⟩; rw [HI.out]))
          go_ret
          exact ⟨by rw [← HR.out] <;> rfl, (by repeat (first | with_reducible exact Ext.refl _ | with_reducible assumption | with_reducible refine Ext.alloc ?_ _ | with_reducible refine Ext.gr ?_ _ | with_reducible refine Ext.drewN ?_ _ | with_reducible refine Ext.drew ?_ | with_reducible refine Ext.setCell ?_ ?_ _ | with_reducible refine Ext.more ?_ _ _ | (show _ ≤ _; dsimp only; omega)))⟩
        · have HI := Lib.hid h3
          have HR : Hid (L.all (nodeB L) = R) := Lib.hid (by rw [← hR, h3]; rfl)
          clear hR h3
          go_enter Tryd.func15, Tryd.ntmps15
          go_wp2_with (first | (go_at_call 31; (with_reducible refine (mayBe_any c _).mono ?_); rintro e w1 ⟨rfl, os1, n1, rfl⟩; rw [HC.out]) | (go_at_call 35; (with_reducible refine (rise_any _ L _ (HV.out.sl.ext (by first | ((repeat (first | with_reducible exact Ext.refl _ | with_reducible assumption | with_reducible refine Ext.alloc ?_ _ | with_reducible refine Ext.gr ?_ _ | with_reducible refine Ext.drewN ?_ _ | with_reducible refine Ext.drew ?_ | with_reducible refine Ext.setCell ?_ ?_ _ | with_reducible refine Ext.more ?_ _ _ | (show _ ≤ _; dsimp only; omega))); done) | ((repeat (first | with_reducible exact Ext.refl _ | with_reducible assumption | with_reducible apply Ext.bothR | with_reducible refine Ext.alloc ?_ _ | with_reducible refine Ext.gr ?_ _ | with_reducible refine Ext.drewN ?_ _ | with_reducible refine Ext.drew ?_ | with_reducible refine Ext.setCell ?_ ?_ _ | with_reducible refine Ext.more ?_ _ _ | (show _ ≤ _; dsimp only; omega))); done) | ((repeat (first | with_reducible exact Ext.refl _ | with_reducible exact Ext.sameG _ _ _ _ | with_reducible assumption | with_reducible refine Ext.bothR (n := 0) ?_ | with_reducible refine Ext.alloc ?_ _ | with_reducible refine Ext.gr ?_ _ | with_reducible refine Ext.drewN ?_ _ | with_reducible refine Ext.drew ?_ | with_reducible refine Ext.setCell ?_ ?_ _ | with_reducible refine Ext.more ?_ _ _ | (show _ ≤ _; dsimp only; omega))); done)))).mono ?_); rintro e w2 ⟨rfl, os2, n2, rfl⟩; rw [HI.out]))
          go_loopw [5] (fun i wr => ∃ k : Nat, k ≤ L.length ∧ i = .int .i64 k ∧ Hid (Ext (w.alloc (.cells #[.int .u8 c.object, .int .i64 c.instances, .int .i64 c.threads, .int .u8 c.kind, .int .i64 c.stripes, .int .i64 c.bits, .int .i64 c.cap, .int .i64 c.node, .int .i64 c.batch, .int .i64 c.chunk, .int .u64 c.limit, .int .u64 c.most] 33)) wr) ∧ Hid (∀ j, j < k → nodeB L (L.getD j zrw) = true)) (fun i _ => L.length - (intOf i).toNat)
          case atStart => exact ⟨0, Nat.zero_le _, rfl, Lib.hid (by repeat (first | with_reducible exact Ext.refl _ | with_reducible assumption | with_reducible refine Ext.alloc ?_ _ | with_reducible refine Ext.gr ?_ _ | with_reducible refine Ext.drewN ?_ _ | with_reducible refine Ext.drew ?_ | with_reducible refine Ext.setCell ?_ ?_ _ | with_reducible refine Ext.more ?_ _ _ | (show _ ≤ _; dsimp only; omega))), Lib.hid fun j hj => absurd hj (Nat.not_lt_zero _)⟩
          case round =>
            obtain ⟨k, hk, rfl, HE, HT⟩ := hrel
            obtain ⟨os, d, rfl⟩ := HE.out
            have hE : Ext w (grew (w.alloc (.cells #[.int .u8 c.object, .int .i64 c.instances, .int .i64 c.threads, .int .u8 c.kind, .int .i64 c.stripes, .int .i64 c.bits, .int .i64 c.cap, .int .i64 c.node, .int .i64 c.batch, .int .i64 c.chunk, .int .u64 c.limit, .int .u64 c.most] 33)) os d) := (by repeat (first | with_reducible exact Ext.refl _ | with_reducible assumption | with_reducible refine Ext.alloc ?_ _ | with_reducible refine Ext.gr ?_ _ | with_reducible refine Ext.drewN ?_ _ | with_reducible refine Ext.drew ?_ | with_reducible refine Ext.setCell ?_ ?_ _ | with_reducible refine Ext.more ?_ _ _ | (show _ ≤ _; dsimp only; omega)))
            clear HE
            by_cases hlt : k < L.length
            · obtain ⟨b, o, rfl, hbl, r1, r2⟩ := HS.out.rw hlt
              have hb1 : b < w.heap.size + 1 := by omega
              obtain ⟨x, hx⟩ : ∃ x, L.getD k zrw = x := ⟨_, rfl⟩
              rw [hx] at r1 r2
              have HX := Lib.hid hx
              have HXB : Hid (0 ≤ x.k ∧ x.k ≤ 18446744073709551615) := Lib.hid (by rw [← hx]; exact (HF.out.get k).k)
              have i0 : (0 : Int) ≤ (k : Int) := by omega
              have i1 : (k : Int) < (L.length : Int) := by omega
              have hbad : nodeB L x = false → Hid (false = R) := fun hb => Lib.hid (by rw [← HR.out]; exact (all_not hlt (by rw [HX.out]; exact hb)).symm)
              have HBAD := Lib.hid hbad
              have hgood : nodeB L x = true → Hid (∀ j, j < k + 1 → nodeB L (L.getD j zrw) = true) := fun hb => Lib.hid fun j hj => by
                by_cases e : j = k
                · subst e; rw [HX.out]; exact hb
                · exact HT.out j (by omega)
              have HGOOD := Lib.hid hgood
              clear hx hbad hgood
              cases hw : wholeK x.k
              · have HW := Lib.hid hw
                have HR2 := HBAD.out (by unfold nodeB; rw [hw]; rfl)
                clear hw
                go_wp2_with (go_at_call 36; (with_reducible refine (isPathR_any x.k HXB.out _).mono ?_); rintro e w3 ⟨rfl, os3, n3, rfl⟩; rw [HW.out])
                go_ret
                exact ⟨by rw [← HR2.out] <;> rfl, (by first | ((repeat (first | with_reducible exact Ext.refl _ | with_reducible assumption | with_reducible refine Ext.alloc ?_ _ | with_reducible refine Ext.gr ?_ _ | with_reducible refine Ext.drewN ?_ _ | with_reducible refine Ext.drew ?_ | with_reducible refine Ext.setCell ?_ ?_ _ | with_reducible refine Ext.more ?_ _ _ | (show _ ≤ _; dsimp only; omega))); done) | ((repeat (first | with_reducible exact Ext.refl _ | with_reducible assumption | with_reducible apply Ext.bothR | with_reducible refine Ext.alloc ?_ _ | with_reducible refine Ext.gr ?_ _ | with_reducible refine Ext.drewN ?_ _ | with_reducible refine Ext.drew ?_ | with_reducible refine Ext.setCell ?_ ?_ _ | with_reducible refine Ext.more ?_ _ _ | (show _ ≤ _; dsimp only; omega))); done) | ((repeat (first | with_reducible exact Ext.refl _ | with_reducible exact Ext.sameG _ _ _ _ | with_reducible assumption | with_reducible refine Ext.bothR (n := 0) ?_ | with_reducible refine Ext.alloc ?_ _ | with_reducible refine Ext.gr ?_ _ | with_reducible refine Ext.drewN ?_ _ | with_reducible refine Ext.drew ?_ | with_reducible refine Ext.setCell ?_ ?_ _ | with_reducible refine Ext.more ?_ _ _ | (show _ ≤ _; dsimp only; omega))); done))⟩
              · have HW := Lib.hid hw
                by_cases h7 : 2147483648 < x.v
                · have HR2 := HBAD.out (by unfold nodeB; rw [decide_eq_false (show ¬ x.v ≤ 2147483648 by omega)]; simp)
                  clear hw
                  go_wp2_with (go_at_call 36; (with_reducible refine (isPathR_any x.k HXB.out _).mono ?_); rintro e w3 ⟨rfl, os3, n3, rfl⟩; rw [HW.out])
                  go_ret
                  exact ⟨by rw [← HR2.out] <;> rfl, (by first | ((repeat (first | with_reducible exact Ext.refl _ | with_reducible assumption | with_reducible refine Ext.alloc ?_ _ | with_reducible refine Ext.gr ?_ _ | with_reducible refine Ext.drewN ?_ _ | with_reducible refine Ext.drew ?_ | with_reducible refine Ext.setCell ?_ ?_ _ | with_reducible refine Ext.more ?_ _ _ | (show _ ≤ _; dsimp only; omega))); done) | ((repeat (first | with_reducible exact Ext.refl _ | with_reducible assumption | with_reducible apply Ext.bothR | with_reducible refine Ext.alloc ?_ _ | with_reducible refine Ext.gr ?_ _ | with_reducible refine Ext.drewN ?_ _ | with_reducible refine Ext.drew ?_ | with_reducible refine Ext.setCell ?_ ?_ _ | with_reducible refine Ext.more ?_ _ _ | (show _ ≤ _; dsimp only; omega))); done) | ((repeat (first | with_reducible exact Ext.refl _ | with_reducible exact Ext.sameG _ _ _ _ | with_reducible assumption | with_reducible refine Ext.bothR (n := 0) ?_ | with_reducible refine Ext.alloc ?_ _ | with_reducible refine Ext.gr ?_ _ | with_reducible refine Ext.drewN ?_ _ | with_reducible refine Ext.drew ?_ | with_reducible refine Ext.setCell ?_ ?_ _ | with_reducible refine Ext.more ?_ _ _ | (show _ ≤ _; dsimp only; omega))); done))⟩
                · obtain ⟨p, hp⟩ : ∃ p, parK x.k = p := ⟨_, rfl⟩
                  have hnb : nodeB L x = (p == 0 || (look L p).isSome) := by unfold nodeB; rw [hw, hp, decide_eq_true (show x.v ≤ 2147483648 by omega)]; rfl
                  have HPK := Lib.hid hp
                  clear hw hp
                  by_cases hp0 : p = 0
                  · have g0 : (p != 0) = false := by simp [hp0]
                    have HT2 := HGOOD.out (by rw [hnb, hp0]; rfl)
                    clear hnb hp0
                    go_wp2_with (first | (go_at_call 36; (with_reducible refine (isPathR_any x.k HXB.out _).mono ?_); rintro e w3 ⟨rfl, os3, n3, rfl⟩; rw [HW.out]) | (go_at_call 19; (with_reducible refine (parentR_any x.k HXB.out _).mono ?_); rintro e w3 ⟨rfl, os4, n4, rfl⟩; rw [HPK.out]))
                    go_roundw
                    case rel => exact ⟨k + 1, by omega, by go_num, Lib.hid (by first | ((repeat (first | with_reducible exact Ext.refl _ | with_reducible assumption | with_reducible refine Ext.alloc ?_ _ | with_reducible refine Ext.gr ?_ _ | with_reducible refine Ext.drewN ?_ _ | with_reducible refine Ext.drew ?_ | with_reducible refine Ext.setCell ?_ ?_ _ | with_reducible refine Ext.more ?_ _ _ | (show _ ≤ _; dsimp only; omega))); done) | ((repeat (first | with_reducible exact Ext.refl _ | with_reducible assumption | with_reducible apply Ext.bothR | with_reducible refine Ext.alloc ?_ _ | with_reducible refine Ext.gr ?_ _ | with_reducible refine Ext.drewN ?_ _ | with_reducible refine Ext.drew ?_ | with_reducible refine Ext.setCell ?_ ?_ _ | with_reducible refine Ext.more ?_ _ _ | (show _ ≤ _; dsimp only; omega))); done) | ((repeat (first | with_reducible exact Ext.refl _ | with_reducible exact Ext.sameG _ _ _ _ | with_reducible assumption | with_reducible refine Ext.bothR (n := 0) ?_ | with_reducible refine Ext.alloc ?_ _ | with_reducible refine Ext.gr ?_ _ | with_reducible refine Ext.drewN ?_ _ | with_reducible refine Ext.drew ?_ | with_reducible refine Ext.setCell ?_ ?_ _ | with_reducible refine Ext.more ?_ _ _ | (show _ ≤ _; dsimp only; omega))); done)), HT2⟩
                    case measure => simp [intOf]; omega
                  · have g0 : (p != 0) = true := by simpa using hp0
                    have g1 : (p == 0) = false := by simpa using hp0
                    rw [g1, Bool.false_or] at hnb
                    cases hl : look L p with
                    | none =>
                      rw [hl] at hnb
                      have HD := Lib.hid (look_findK hl)
                      have HR2 := HBAD.out hnb
                      clear hnb hl hp0
                      go_wp2_with (first | (go_at_call 36; (with_reducible refine (isPathR_any x.k HXB.out _).mono ?_); rintro e w3 ⟨rfl, os3, n3, rfl⟩; rw [HW.out]) | (go_at_call 19; (with_reducible refine (parentR_any x.k HXB.out _).mono ?_); rintro e w3 ⟨rfl, os4, n4, rfl⟩; rw [HPK.out]) | (go_at_call 17; (with_reducible refine (find_any _ L _ _ (HV.out.sl.ext (by first | ((repeat (first | with_reducible exact Ext.refl _ | with_reducible assumption | with_reducible refine Ext.alloc ?_ _ | with_reducible refine Ext.gr ?_ _ | with_reducible refine Ext.drewN ?_ _ | with_reducible refine Ext.drew ?_ | with_reducible refine Ext.setCell ?_ ?_ _ | with_reducible refine Ext.more ?_ _ _ | (show _ ≤ _; dsimp only; omega))); done) | ((repeat (first | with_reducible exact Ext.refl _ | with_reducible assumption | with_reducible apply Ext.bothR | with_reducible refine Ext.alloc ?_ _ | with_reducible refine Ext.gr ?_ _ | with_reducible refine Ext.drewN ?_ _ | with_reducible refine Ext.drew ?_ | with_reducible refine Ext.setCell ?_ ?_ _ | with_reducible refine Ext.more ?_ _ _ | (show _ ≤ _; dsimp only; omega))); done) | ((repeat (first | with_reducible exact Ext.refl _ | with_reducible exact Ext.sameG _ _ _ _ | with_reducible assumption | with_reducible refine Ext.bothR (n := 0) ?_ | with_reducible refine Ext.alloc ?_ _ | with_reducible refine Ext.gr ?_ _ | with_reducible refine Ext.drewN ?_ _ | with_reducible refine Ext.drew ?_ | with_reducible refine Ext.setCell ?_ ?_ _ | with_reducible refine Ext.more ?_ _ _ | (show _ ≤ _; dsimp only; omega))); done)))).mono ?_); rintro e w1 ⟨rfl, os5, n5, rfl⟩; rw [HD.out]))
                      go_ret
                      exact ⟨by rw [← HR2.out] <;> rfl, (by first | ((repeat (first | with_reducible exact Ext.refl _ | with_reducible assumption | with_reducible refine Ext.alloc ?_ _ | with_reducible refine Ext.gr ?_ _ | with_reducible refine Ext.drewN ?_ _ | with_reducible refine Ext.drew ?_ | with_reducible refine Ext.setCell ?_ ?_ _ | with_reducible refine Ext.more ?_ _ _ | (show _ ≤ _; dsimp only; omega))); done) | ((repeat (first | with_reducible exact Ext.refl _ | with_reducible assumption | with_reducible apply Ext.bothR | with_reducible refine Ext.alloc ?_ _ | with_reducible refine Ext.gr ?_ _ | with_reducible refine Ext.drewN ?_ _ | with_reducible refine Ext.drew ?_ | with_reducible refine Ext.setCell ?_ ?_ _ | with_reducible refine Ext.more ?_ _ _ | (show _ ≤ _; dsimp only; omega))); done) | ((repeat (first | with_reducible exact Ext.refl _ | with_reducible exact Ext.sameG _ _ _ _ | with_reducible assumption | with_reducible refine Ext.bothR (n := 0) ?_ | with_reducible refine Ext.alloc ?_ _ | with_reducible refine Ext.gr ?_ _ | with_reducible refine Ext.drewN ?_ _ | with_reducible refine Ext.drew ?_ | with_reducible refine Ext.setCell ?_ ?_ _ | with_reducible refine Ext.more ?_ _ _ | (show _ ≤ _; dsimp only; omega))); done))⟩
                    | some u =>
                      rw [hl] at hnb
                      obtain ⟨i, hi, hfi, _⟩ := findK_look hl
                      have HD := Lib.hid hfi
                      have HT2 := HGOOD.out hnb
                      clear hnb hl hp0 hfi
                      go_wp2_with (first | (go_at_call 36; (with_reducible refine (isPathR_any x.k HXB.out _).mono ?_); rintro e w3 ⟨rfl, os3, n3, rfl⟩; rw [HW.out]) | (go_at_call 19; (with_reducible refine (parentR_any x.k HXB.out _).mono ?_); rintro e w3 ⟨rfl, os4, n4, rfl⟩; rw [HPK.out]) | (go_at_call 17; (with_reducible refine (find_any _ L _ _ (HV.out.sl.ext (by first | ((repeat (first | with_reducible exact Ext.refl _ | with_reducible assumption | with_reducible refine Ext.alloc ?_ _ | with_reducible refine Ext.gr ?_ _ | with_reducible refine Ext.drewN ?_ _ | with_reducible refine Ext.drew ?_ | with_reducible refine Ext.setCell ?_ ?_ _ | with_reducible refine Ext.more ?_ _ _ | (show _ ≤ _; dsimp only; omega))); done) | ((repeat (first | with_reducible exact Ext.refl _ | with_reducible assumption | with_reducible apply Ext.bothR | with_reducible refine Ext.alloc ?_ _ | with_reducible refine Ext.gr ?_ _ | with_reducible refine Ext.drewN ?_ _ | with_reducible refine Ext.drew ?_ | with_reducible refine Ext.setCell ?_ ?_ _ | with_reducible refine Ext.more ?_ _ _ | (show _ ≤ _; dsimp only; omega))); done) | ((repeat (first | with_reducible exact Ext.refl _ | with_reducible exact Ext.sameG _ _ _ _ | with_reducible assumption | with_reducible refine Ext.bothR (n := 0) ?_ | with_reducible refine Ext.alloc ?_ _ | with_reducible refine Ext.gr ?_ _ | with_reducible refine Ext.drewN ?_ _ | with_reducible refine Ext.drew ?_ | with_reducible refine Ext.setCell ?_ ?_ _ | with_reducible refine Ext.more ?_ _ _ | (show _ ≤ _; dsimp only; omega))); done)))).mono ?_); rintro e w1 ⟨rfl, os5, n5, rfl⟩; rw [HD.out]))
                      go_roundw
                      case rel => exact ⟨k + 1, by omega, by go_num, Lib.hid (by first | ((repeat (first | with_reducible exact Ext.refl _ | with_reducible assumption | with_reducible refine Ext.alloc ?_ _ | with_reducible refine Ext.gr ?_ _ | with_reducible refine Ext.drewN ?_ _ | with_reducible refine Ext.drew ?_ | with_reducible refine Ext.setCell ?_ ?_ _ | with_reducible refine Ext.more ?_ _ _ | (show _ ≤ _; dsimp only; omega))); done) | ((repeat (first | with_reducible exact Ext.refl _ | with_reducible assumption | with_reducible apply Ext.bothR | with_reducible refine Ext.alloc ?_ _ | with_reducible refine Ext.gr ?_ _ | with_reducible refine Ext.drewN ?_ _ | with_reducible refine Ext.drew ?_ | with_reducible refine Ext.setCell ?_ ?_ _ | with_reducible refine Ext.more ?_ _ _ | (show _ ≤ _; dsimp only; omega))); done) | ((repeat (first | with_reducible exact Ext.refl _ | with_reducible exact Ext.sameG _ _ _ _ | with_reducible assumption | with_reducible refine Ext.bothR (n := 0) ?_ | with_reducible refine Ext.alloc ?_ _ | with_reducible refine Ext.gr ?_ _ | with_reducible refine Ext.drewN ?_ _ | with_reducible refine Ext.drew ?_ | with_reducible refine Ext.setCell ?_ ?_ _ | with_reducible refine Ext.more ?_ _ _ | (show _ ≤ _; dsimp only; omega))); done)), HT2⟩
                      case measure => simp [intOf]; omega
            · obtain rfl : k = L.length := by omega
              have HR2 : Hid (true = R) := Lib.hid (by rw [← HR.out, all_of HT.out])
              go_wp2
              go_ret
              exact ⟨by rw [← HR2.out] <;> rfl, (by first | ((repeat (first | with_reducible exact Ext.refl _ | with_reducible assumption | with_reducible refine Ext.alloc ?_ _ | with_reducible refine Ext.gr ?_ _ | with_reducible refine Ext.drewN ?_ _ | with_reducible refine Ext.drew ?_ | with_reducible refine Ext.setCell ?_ ?_ _ | with_reducible refine Ext.more ?_ _ _ | (show _ ≤ _; dsimp only; omega))); done) | ((repeat (first | with_reducible exact Ext.refl _ | with_reducible assumption | with_reducible apply Ext.bothR | with_reducible refine Ext.alloc ?_ _ | with_reducible refine Ext.gr ?_ _ | with_reducible refine Ext.drewN ?_ _ | with_reducible refine Ext.drew ?_ | with_reducible refine Ext.setCell ?_ ?_ _ | with_reducible refine Ext.more ?_ _ _ | (show _ ≤ _; dsimp only; omega))); done) | ((repeat (first | with_reducible exact Ext.refl _ | with_reducible exact Ext.sameG _ _ _ _ | with_reducible assumption | with_reducible refine Ext.bothR (n := 0) ?_ | with_reducible refine Ext.alloc ?_ _ | with_reducible refine Ext.gr ?_ _ | with_reducible refine Ext.drewN ?_ _ | with_reducible refine Ext.drew ?_ | with_reducible refine Ext.setCell ?_ ?_ _ | with_reducible refine Ext.more ?_ _ _ | (show _ ≤ _; dsimp only; omega))); done))⟩
      · have h2' : c.cap < (L.length : Int) := by omega
        have HR : Hid (false = R) := Lib.hid (by rw [← hR, decide_eq_false h2]; rfl)
        clear hR h2
        go_enter Tryd.func15, Tryd.ntmps15
        go_wp2_with (go_at_call 31; (with_reducible refine (mayBe_any c _).mono ?_); rintro e w1 ⟨rfl, os1, n1, rfl⟩; rw [HC.out])
        go_ret
        exact ⟨by rw [← HR.out] <;> rfl, (by repeat (first | with_reducible exact Ext.refl _ | with_reducible assumption | with_reducible refine Ext.alloc ?_ _ | with_reducible refine Ext.gr ?_ _ | with_reducible refine Ext.drewN ?_ _ | with_reducible refine Ext.drew ?_ | with_reducible refine Ext.setCell ?_ ?_ _ | with_reducible refine Ext.more ?_ _ _ | (show _ ≤ _; dsimp only; omega)))⟩
end Go.Proofs.YtbfccbaplmjkhaaDoor
