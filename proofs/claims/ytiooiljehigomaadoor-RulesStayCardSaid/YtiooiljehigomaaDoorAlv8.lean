/- The examples of chapter 8: 'conf', 'says', 'alive'. -/
import Derived.Test.YtiooiljehigomaaDoorDoA
import Derived.Test.YtiooiljehigomaaDoorRulS
namespace Go.Proofs.YtiooiljehigomaaDoor
open Go Go.RowKit

theorem do_hid (c : Cfg) (v : Value) (L : List Rw) (hf : RwsFit L) (o : Opn) (ho : o.Fits) (w : World) (ht : Tab w) (hv : Rws w v L) (hn : L.length ≤ 1000) {M : List Rw} {dc dw de : Int} (hz : rulesDo c L o = ⟨M, dc, dw, de⟩) :
    Calls Tryd.prog 9 #[c.v, v, o.v] w fun e w' => ∃ r, e = .returned (.tuple #[r, resV dc dw, .int .i64 de]) ∧ Hid (Rws w' r M) ∧ Ext w w' := by
  refine (do_any c v L hf o ho w ht hv hn).mono fun e w' h => ?_
  rw [hz] at h
  obtain ⟨r, rfl, h1, h2⟩ := h
  exact ⟨r, rfl, Lib.hid (own_rws h1), h2⟩
theorem is_as (c : Cfg) (v : Value) (L : List Rw) (hf : RwsFit L) (w : World) (hv : Rws w v L) (R : Bool) (hR : rulesIs c L = R) : Calls Tryd.prog 13 #[c.v, v] w fun e w' => e = .returned (.bool R) ∧ Ext w w' := by
  subst hR
  exact is_any c v L hf w hv.sl

theorem or16 {a b : Int} (ha : 0 ≤ a ∧ a ≤ 65535) (hb : 0 ≤ b ∧ b ≤ 65535) : bits .or .u64 (a * 65536) b = a * 65536 + b := by
  obtain ⟨m, rfl⟩ := Int.eq_ofNat_of_zero_le ha.1
  obtain ⟨n, rfl⟩ := Int.eq_ofNat_of_zero_le hb.1
  have h1 : (m : Int) * 65536 = ((65536 * m : Nat) : Int) := by omega
  have ho : 65536 * m ||| n = 65536 * m + n := (Nat.two_pow_add_eq_or_of_lt (i := 16) (b := n) (by omega) m).symm
  rw [h1]
  show IntKind.u64.wrap ((BitVec.ofInt 64 ((65536 * m : Nat) : Int) ||| BitVec.ofInt 64 (n : Int)).toNat : Int) = _
  rw [BitVec.toNat_or, ofInt_nat _ (by omega), ofInt_nat _ (by omega), ho, IntKind.wrap_u64]
  omega
theorem and16 {a : Int} (ha : 0 ≤ a ∧ a < 4294967296) : bits .and .u64 a 65535 = a % 65536 := by
  obtain ⟨m, rfl⟩ := Int.eq_ofNat_of_zero_le ha.1
  show IntKind.u64.wrap ((BitVec.ofInt 64 (m : Int) &&& BitVec.ofInt 64 ((65535 : Nat) : Int)).toNat : Int) = _
  rw [BitVec.toNat_and, ofInt_nat _ (by omega), ofInt_nat _ (by omega), IntKind.wrap_u64]
  have h2 : m &&& 65535 = m % 65536 := Nat.and_two_pow_sub_one_eq_mod m 16
  rw [h2]
  omega
set_option maxRecDepth 100000 in
set_option maxHeartbeats 4000000 in
theorem says_any (c : Cfg) (v : Value) (L : List Rw) (hf : RwsFit L) (who what : Int) (hwho : 0 ≤ who ∧ who ≤ 4294967295) (hwhat : 0 ≤ what ∧ what ≤ 4294967295) (w : World) (ht : Tab w) (hv : Rws w v L) (hn : L.length ≤ 1000) (R : Int) (hR : saysOf c L who what = R) :
    Calls Tryd.prog 19 #[c.v, v, .int .u32 who, .int .u32 what] w fun e w' => e = .returned (.int .u32 R) ∧ Ext w w' := by
  obtain ⟨M, dc, dw, de, hZ⟩ : ∃ M dc dw de, rulesDo c L ⟨11, who, what, 0⟩ = ⟨M, dc, dw, de⟩ := ⟨_, _, _, _, rfl⟩
  unfold saysOf at hR
  rw [hZ] at hR
  have HZ := Lib.hid hZ
  have HV := Lib.hid hv
  have HF := Lib.hid hf
  have HT := Lib.hid ht
  have HO : Hid (Opn.Fits ⟨11, who, what, 0⟩) := Lib.hid ⟨⟨by simp, by simp⟩, hwho, hwhat, ⟨by simp, by simp⟩⟩
  clear hZ hv hf ht hwho hwhat
  cases g1 : (de == 0)
  · rw [g1] at hR
    have g1' : (de != 0) = true := by simp [bne, g1]
    have HR : Hid (9 = R) := Lib.hid hR
    clear hR
    go_enter Tryd.func19, Tryd.ntmps19
    go_wp2_with (go_at_call 9; refine (do_hid c _ L HF.out ⟨11, who, what, 0⟩ HO.out _ (Tab.ext HT.out (by first | ((repeat (first | with_reducible exact Ext.refl _ | with_reducible assumption | with_reducible refine Ext.alloc ?_ _ | with_reducible refine Ext.gr ?_ _ | with_reducible refine Ext.drewN ?_ _ | with_reducible refine Ext.drew ?_ | with_reducible refine Ext.setCell ?_ ?_ _ | with_reducible refine Ext.more ?_ _ _ | (show _ ≤ _; dsimp only; omega))); done) | ((repeat (first | with_reducible exact Ext.refl _ | with_reducible assumption | with_reducible apply Ext.bothR | with_reducible refine Ext.alloc ?_ _ | with_reducible refine Ext.gr ?_ _ | with_reducible refine Ext.drewN ?_ _ | with_reducible refine Ext.drew ?_ | with_reducible refine Ext.setCell ?_ ?_ _ | with_reducible refine Ext.more ?_ _ _ | (show _ ≤ _; dsimp only; omega))); done))) (HV.out.ext (by first | ((repeat (first | with_reducible exact Ext.refl _ | with_reducible assumption | with_reducible refine Ext.alloc ?_ _ | with_reducible refine Ext.gr ?_ _ | with_reducible refine Ext.drewN ?_ _ | with_reducible refine Ext.drew ?_ | with_reducible refine Ext.setCell ?_ ?_ _ | with_reducible refine Ext.more ?_ _ _ | (show _ ≤ _; dsimp only; omega))); done) | ((repeat (first | with_reducible exact Ext.refl _ | with_reducible assumption | with_reducible apply Ext.bothR | with_reducible refine Ext.alloc ?_ _ | with_reducible refine Ext.gr ?_ _ | with_reducible refine Ext.drewN ?_ _ | with_reducible refine Ext.drew ?_ | with_reducible refine Ext.setCell ?_ ?_ _ | with_reducible refine Ext.more ?_ _ _ | (show _ ≤ _; dsimp only; omega))); done))) (by omega) HZ.out).mono ?_; rintro e w4 ⟨a, rfl, HA, os4, n4, rfl⟩)
    go_ret
    exact ⟨by rw [HR.out] <;> rfl, (by repeat (first | with_reducible exact Ext.refl _ | with_reducible assumption | with_reducible refine Ext.alloc ?_ _ | with_reducible refine Ext.gr ?_ _ | with_reducible refine Ext.drewN ?_ _ | with_reducible refine Ext.drew ?_ | with_reducible refine Ext.setCell ?_ ?_ _ | with_reducible refine Ext.more ?_ _ _ | (show _ ≤ _; dsimp only; omega)))⟩
  · have g1' : (de != 0) = false := by simp [bne, g1]
    cases g2 : (dc == 0)
    · rw [g1, g2] at hR
      have g2' : (dc != 0) = true := by simp [bne, g2]
      have HR : Hid (9 = R) := Lib.hid hR
      clear hR
      go_enter Tryd.func19, Tryd.ntmps19
      go_wp2_with (go_at_call 9; refine (do_hid c _ L HF.out ⟨11, who, what, 0⟩ HO.out _ (Tab.ext HT.out (by first | ((repeat (first | with_reducible exact Ext.refl _ | with_reducible assumption | with_reducible refine Ext.alloc ?_ _ | with_reducible refine Ext.gr ?_ _ | with_reducible refine Ext.drewN ?_ _ | with_reducible refine Ext.drew ?_ | with_reducible refine Ext.setCell ?_ ?_ _ | with_reducible refine Ext.more ?_ _ _ | (show _ ≤ _; dsimp only; omega))); done) | ((repeat (first | with_reducible exact Ext.refl _ | with_reducible assumption | with_reducible apply Ext.bothR | with_reducible refine Ext.alloc ?_ _ | with_reducible refine Ext.gr ?_ _ | with_reducible refine Ext.drewN ?_ _ | with_reducible refine Ext.drew ?_ | with_reducible refine Ext.setCell ?_ ?_ _ | with_reducible refine Ext.more ?_ _ _ | (show _ ≤ _; dsimp only; omega))); done))) (HV.out.ext (by first | ((repeat (first | with_reducible exact Ext.refl _ | with_reducible assumption | with_reducible refine Ext.alloc ?_ _ | with_reducible refine Ext.gr ?_ _ | with_reducible refine Ext.drewN ?_ _ | with_reducible refine Ext.drew ?_ | with_reducible refine Ext.setCell ?_ ?_ _ | with_reducible refine Ext.more ?_ _ _ | (show _ ≤ _; dsimp only; omega))); done) | ((repeat (first | with_reducible exact Ext.refl _ | with_reducible assumption | with_reducible apply Ext.bothR | with_reducible refine Ext.alloc ?_ _ | with_reducible refine Ext.gr ?_ _ | with_reducible refine Ext.drewN ?_ _ | with_reducible refine Ext.drew ?_ | with_reducible refine Ext.setCell ?_ ?_ _ | with_reducible refine Ext.more ?_ _ _ | (show _ ≤ _; dsimp only; omega))); done))) (by omega) HZ.out).mono ?_; rintro e w4 ⟨a, rfl, HA, os4, n4, rfl⟩)
      go_ret
      exact ⟨by rw [HR.out] <;> rfl, (by repeat (first | with_reducible exact Ext.refl _ | with_reducible assumption | with_reducible refine Ext.alloc ?_ _ | with_reducible refine Ext.gr ?_ _ | with_reducible refine Ext.drewN ?_ _ | with_reducible refine Ext.drew ?_ | with_reducible refine Ext.setCell ?_ ?_ _ | with_reducible refine Ext.more ?_ _ _ | (show _ ≤ _; dsimp only; omega)))⟩
    · rw [g1, g2] at hR
      have g2' : (dc != 0) = false := by simp [bne, g2]
      have HR : Hid (dw = R) := Lib.hid hR
      clear hR
      go_enter Tryd.func19, Tryd.ntmps19
      go_wp2_with (go_at_call 9; refine (do_hid c _ L HF.out ⟨11, who, what, 0⟩ HO.out _ (Tab.ext HT.out (by first | ((repeat (first | with_reducible exact Ext.refl _ | with_reducible assumption | with_reducible refine Ext.alloc ?_ _ | with_reducible refine Ext.gr ?_ _ | with_reducible refine Ext.drewN ?_ _ | with_reducible refine Ext.drew ?_ | with_reducible refine Ext.setCell ?_ ?_ _ | with_reducible refine Ext.more ?_ _ _ | (show _ ≤ _; dsimp only; omega))); done) | ((repeat (first | with_reducible exact Ext.refl _ | with_reducible assumption | with_reducible apply Ext.bothR | with_reducible refine Ext.alloc ?_ _ | with_reducible refine Ext.gr ?_ _ | with_reducible refine Ext.drewN ?_ _ | with_reducible refine Ext.drew ?_ | with_reducible refine Ext.setCell ?_ ?_ _ | with_reducible refine Ext.more ?_ _ _ | (show _ ≤ _; dsimp only; omega))); done))) (HV.out.ext (by first | ((repeat (first | with_reducible exact Ext.refl _ | with_reducible assumption | with_reducible refine Ext.alloc ?_ _ | with_reducible refine Ext.gr ?_ _ | with_reducible refine Ext.drewN ?_ _ | with_reducible refine Ext.drew ?_ | with_reducible refine Ext.setCell ?_ ?_ _ | with_reducible refine Ext.more ?_ _ _ | (show _ ≤ _; dsimp only; omega))); done) | ((repeat (first | with_reducible exact Ext.refl _ | with_reducible assumption | with_reducible apply Ext.bothR | with_reducible refine Ext.alloc ?_ _ | with_reducible refine Ext.gr ?_ _ | with_reducible refine Ext.drewN ?_ _ | with_reducible refine Ext.drew ?_ | with_reducible refine Ext.setCell ?_ ?_ _ | with_reducible refine Ext.more ?_ _ _ | (show _ ≤ _; dsimp only; omega))); done))) (by omega) HZ.out).mono ?_; rintro e w4 ⟨a, rfl, HA, os4, n4, rfl⟩)
      go_ret
      exact ⟨by rw [HR.out] <;> rfl, (by repeat (first | with_reducible exact Ext.refl _ | with_reducible assumption | with_reducible refine Ext.alloc ?_ _ | with_reducible refine Ext.gr ?_ _ | with_reducible refine Ext.drewN ?_ _ | with_reducible refine Ext.drew ?_ | with_reducible refine Ext.setCell ?_ ?_ _ | with_reducible refine Ext.more ?_ _ _ | (show _ ≤ _; dsimp only; omega)))⟩

theorem conf_any (w : World) : Calls Tryd.prog 10 #[] w fun e w' => e = .returned ((Cfg.mk 3 2 1 1 0 0 3 0 1 0 131072 0)).v ∧ Ext w w' := by
  go_enter Tryd.func10, Tryd.ntmps10
  go_wp2
  refine bodyPost_ret (v := ((Cfg.mk 3 2 1 1 0 0 3 0 1 0 131072 0)).v) (by simp [results, Tryd.results10, go_sem]) rfl ⟨rfl, (by repeat (first | with_reducible exact Ext.refl _ | with_reducible assumption | with_reducible refine Ext.alloc ?_ _ | with_reducible refine Ext.gr ?_ _ | with_reducible refine Ext.drewN ?_ _ | with_reducible refine Ext.drew ?_ | with_reducible refine Ext.setCell ?_ ?_ _ | with_reducible refine Ext.more ?_ _ _ | (show _ ≤ _; dsimp only; omega)))⟩
theorem fit_opn {o : Opn} (h : (0 ≤ o.kind ∧ o.kind ≤ 255) ∧ (0 ≤ o.a ∧ o.a ≤ 4294967295) ∧ (0 ≤ o.b ∧ o.b ≤ 4294967295) ∧ (0 ≤ o.c ∧ o.c ≤ 4294967295)) : o.Fits := ⟨h.1, h.2.1, h.2.2.1, h.2.2.2⟩
theorem fit_rws {L : List Rw} (h : (L.all fun x => decide (0 ≤ x.k) && decide (x.k ≤ 18446744073709551615) && decide (0 ≤ x.v) && decide (x.v ≤ 18446744073709551615)) = true) : RwsFit L := fun x hx => by
  have := List.all_eq_true.1 h x hx
  simp only [Bool.and_eq_true, decide_eq_true_eq] at this
  exact ⟨⟨this.1.1.1, this.1.1.2⟩, this.1.2, this.2⟩
theorem do_lit (c : Cfg) (L : List Rw) (o : Opn) (M : List Rw) (dc dw de : Int) (v : Value) (w : World) (hl : (L.all fun x => decide (0 ≤ x.k) && decide (x.k ≤ 18446744073709551615) && decide (0 ≤ x.v) && decide (x.v ≤ 18446744073709551615)) = true)
    (hop : (0 ≤ o.kind ∧ o.kind ≤ 255) ∧ (0 ≤ o.a ∧ o.a ≤ 4294967295) ∧ (0 ≤ o.b ∧ o.b ≤ 4294967295) ∧ (0 ≤ o.c ∧ o.c ≤ 4294967295)) (ht : Tab w) (hv : Rws w v L) (hn : L.length ≤ 1000) (hz : rulesDo c L o = ⟨M, dc, dw, de⟩) :
    Calls Tryd.prog 9 #[c.v, v, o.v] w fun e w' => ∃ r, e = .returned (.tuple #[r, resV dc dw, .int .i64 de]) ∧ Hid (Rws w' r M) ∧ Ext w w' := do_hid c v L (fit_rws hl) o (fit_opn hop) w ht hv hn hz
theorem says_lit (c : Cfg) (L : List Rw) (who what : Int) (R : Int) (v : Value) (w : World) (hl : (L.all fun x => decide (0 ≤ x.k) && decide (x.k ≤ 18446744073709551615) && decide (0 ≤ x.v) && decide (x.v ≤ 18446744073709551615)) = true)
    (hwho : 0 ≤ who ∧ who ≤ 4294967295) (hwhat : 0 ≤ what ∧ what ≤ 4294967295) (ht : Tab w) (hv : Rws w v L) (hn : L.length ≤ 1000) (hR : saysOf c L who what = R) :
    Calls Tryd.prog 19 #[c.v, v, .int .u32 who, .int .u32 what] w fun e w' => e = .returned (.int .u32 R) ∧ Ext w w' := says_any c v L (fit_rws hl) who what hwho hwhat w ht hv hn R hR
end Go.Proofs.YtiooiljehigomaaDoor
