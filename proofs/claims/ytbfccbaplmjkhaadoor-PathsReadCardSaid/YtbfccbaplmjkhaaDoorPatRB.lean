/- The walks of the document's answer for paths (layer 9): 'Is', 'made', 'used'. -/
import Derived.Test.YtbfccbaplmjkhaaDoorPatRA
namespace Go.Proofs.YtbfccbaplmjkhaaDoor
open Go Go.RowKit

set_option maxRecDepth 100000 in
set_option maxHeartbeats 4000000 in
theorem usedR_any (v : Value) (L : List Rw) (k : Int) (hf : RwsFit L) (w : World) (hv : Rws w v L) (R : Bool) (hR : usedB k L = R) : Calls Tryd.prog 54 #[v, .int .u64 k] w fun e w' => e = .returned (.bool R) ∧ Ext w w' := by
  have HF := Lib.hid hf
  have HR := Lib.hid hR
  obtain ⟨ad, cap, rfl, hs, _⟩ := hv
  have hln := hs.len
  have HS := Lib.hid hs
  clear hf hR hs
  go_enter Tryd.func54, Tryd.ntmps54
  go_wp2
  go_loopw [5] (fun i wr => ∃ j : Nat, j ≤ L.length ∧ i = .int .i64 j ∧ Hid (∀ q, q < j → (parK (L.getD q zrw).k == k) = false) ∧ Hid (Ext w wr)) (fun i _ => L.length - (intOf i).toNat)
  case atStart => exact ⟨0, Nat.zero_le _, rfl, Lib.hid fun q hq => absurd hq (Nat.not_lt_zero _), Lib.hid (Ext.refl _)⟩
  case round =>
    obtain ⟨j, hj, rfl, HT, HE⟩ := hrel
    obtain ⟨os', d', rfl⟩ := HE.out
    clear HE
    by_cases hlt : j < L.length
    · obtain ⟨x, hx⟩ : ∃ x, L.getD j zrw = x := ⟨_, rfl⟩
      have HXB : Hid (0 ≤ x.k ∧ x.k ≤ 18446744073709551615) := Lib.hid (by rw [← hx]; exact (HF.out.get j).k)
      obtain ⟨b, f, rfl, hbl, r1, r2⟩ := HS.out.rw hlt
      rw [hx] at r1 r2
      obtain ⟨p, hp⟩ : ∃ p, parK x.k = p := ⟨_, rfl⟩
      have HPK := Lib.hid hp
      have HX := Lib.hid hx
      have i1 : (j : Int) < (L.length : Int) := by omega
      have i2 : (0 : Int) ≤ (j : Int) := by omega
      clear hx hp
      cases g : (p == k)
      · have HT2 : Hid (∀ q, q < j + 1 → (parK (L.getD q zrw).k == k) = false) := Lib.hid fun q hq => by
          by_cases e : q = j
          · subst e; rw [HX.out, HPK.out]; exact g
          · exact HT.out q (by omega)
        go_wp2_with (go_at_call 19; (with_reducible refine (parentR_any x.k HXB.out _).mono ?_); rintro e w3 ⟨rfl, os3, n3, rfl⟩; rw [HPK.out])
        go_roundw
        case rel => exact ⟨j + 1, by omega, by go_num, HT2, Lib.hid (by first | ((repeat (first | with_reducible exact Ext.refl _ | with_reducible assumption | with_reducible refine Ext.alloc ?_ _ | with_reducible refine Ext.gr ?_ _ | with_reducible refine Ext.drewN ?_ _ | with_reducible refine Ext.drew ?_ | with_reducible refine Ext.setCell ?_ ?_ _ | with_reducible refine Ext.more ?_ _ _ | (show _ ≤ _; dsimp only; omega))); done) | ((repeat (first | with_reducible exact Ext.refl _ | with_reducible assumption | with_reducible apply Ext.bothR | with_reducible refine Ext.alloc ?_ _ | with_reducible refine Ext.gr ?_ _ | with_reducible refine Ext.drewN ?_ _ | with_reducible refine Ext.drew ?_ | with_reducible refine Ext.setCell ?_ ?_ _ | with_reducible refine Ext.more ?_ _ _ | (show _ ≤ _; dsimp only; omega))); done) | ((repeat (first | with_reducible exact Ext.refl _ | with_reducible exact Ext.sameG _ _ _ _ | with_reducible assumption | with_reducible refine Ext.bothR (n := 0) ?_ | with_reducible refine Ext.alloc ?_ _ | with_reducible refine Ext.gr ?_ _ | with_reducible refine Ext.drewN ?_ _ | with_reducible refine Ext.drew ?_ | with_reducible refine Ext.setCell ?_ ?_ _ | with_reducible refine Ext.more ?_ _ _ | (show _ ≤ _; dsimp only; omega))); done))⟩
        case measure => simp [intOf]; omega
      · have HR2 : Hid (true = R) := Lib.hid (by rw [← HR.out]; exact (List.any_eq_true.2 ⟨L[j], List.getElem_mem _, by rw [← getD_rw L j hlt, HX.out, HPK.out]; exact g⟩).symm)
        go_wp2_with (go_at_call 19; (with_reducible refine (parentR_any x.k HXB.out _).mono ?_); rintro e w3 ⟨rfl, os3, n3, rfl⟩; rw [HPK.out])
        go_ret
        exact ⟨by rw [← HR2.out] <;> rfl, (by first | ((repeat (first | with_reducible exact Ext.refl _ | with_reducible assumption | with_reducible refine Ext.alloc ?_ _ | with_reducible refine Ext.gr ?_ _ | with_reducible refine Ext.drewN ?_ _ | with_reducible refine Ext.drew ?_ | with_reducible refine Ext.setCell ?_ ?_ _ | with_reducible refine Ext.more ?_ _ _ | (show _ ≤ _; dsimp only; omega))); done) | ((repeat (first | with_reducible exact Ext.refl _ | with_reducible assumption | with_reducible apply Ext.bothR | with_reducible refine Ext.alloc ?_ _ | with_reducible refine Ext.gr ?_ _ | with_reducible refine Ext.drewN ?_ _ | with_reducible refine Ext.drew ?_ | with_reducible refine Ext.setCell ?_ ?_ _ | with_reducible refine Ext.more ?_ _ _ | (show _ ≤ _; dsimp only; omega))); done) | ((repeat (first | with_reducible exact Ext.refl _ | with_reducible exact Ext.sameG _ _ _ _ | with_reducible assumption | with_reducible refine Ext.bothR (n := 0) ?_ | with_reducible refine Ext.alloc ?_ _ | with_reducible refine Ext.gr ?_ _ | with_reducible refine Ext.drewN ?_ _ | with_reducible refine Ext.drew ?_ | with_reducible refine Ext.setCell ?_ ?_ _ | with_reducible refine Ext.more ?_ _ _ | (show _ ≤ _; dsimp only; omega))); done))⟩
    · obtain rfl : j = L.length := by omega
      have HR2 : Hid (false = R) := Lib.hid (by
        rw [← HR.out, eq_comm, Bool.eq_false_iff]
        intro h2
        obtain ⟨x, hx, hb⟩ := List.any_eq_true.1 h2
        obtain ⟨j, hj, e⟩ := List.mem_iff_getElem.1 hx
        have h3 := HT.out j hj
        rw [getD_rw L j hj, e, hb] at h3
        cases h3)
      go_wp2
      go_ret
      exact ⟨by rw [← HR2.out] <;> rfl, (by first | ((repeat (first | with_reducible exact Ext.refl _ | with_reducible assumption | with_reducible refine Ext.alloc ?_ _ | with_reducible refine Ext.gr ?_ _ | with_reducible refine Ext.drewN ?_ _ | with_reducible refine Ext.drew ?_ | with_reducible refine Ext.setCell ?_ ?_ _ | with_reducible refine Ext.more ?_ _ _ | (show _ ≤ _; dsimp only; omega))); done) | ((repeat (first | with_reducible exact Ext.refl _ | with_reducible assumption | with_reducible apply Ext.bothR | with_reducible refine Ext.alloc ?_ _ | with_reducible refine Ext.gr ?_ _ | with_reducible refine Ext.drewN ?_ _ | with_reducible refine Ext.drew ?_ | with_reducible refine Ext.setCell ?_ ?_ _ | with_reducible refine Ext.more ?_ _ _ | (show _ ≤ _; dsimp only; omega))); done) | ((repeat (first | with_reducible exact Ext.refl _ | with_reducible exact Ext.sameG _ _ _ _ | with_reducible assumption | with_reducible refine Ext.bothR (n := 0) ?_ | with_reducible refine Ext.alloc ?_ _ | with_reducible refine Ext.gr ?_ _ | with_reducible refine Ext.drewN ?_ _ | with_reducible refine Ext.drew ?_ | with_reducible refine Ext.setCell ?_ ?_ _ | with_reducible refine Ext.more ?_ _ _ | (show _ ≤ _; dsimp only; omega))); done))⟩
/-- What is made on the way up. -/
def upK (q : Int) (M : List Rw) : List Rw := if q = 0 then M else (lineK q).reverse.foldl ins0 M
theorem upK_step {q : Int} {M : List Rw} (h0 : ¬ q = 0) (hw : wholeK q = true) : upK q M = upK (parK q) (ins0 M q) := by
  unfold upK
  rw [if_neg h0]
  by_cases hp : parK q = 0
  · rw [if_pos hp]
    have e : lineK q = [q] := by unfold lineK; rw [if_pos hp]
    rw [e]
    rfl
  · rw [if_neg hp, line_par hp hw, List.reverse_append, List.foldl_append]
    rfl
set_option maxRecDepth 100000 in
set_option maxHeartbeats 4000000 in
theorem madeR_any (v : Value) (L : List Rw) (k : Int) (hk : wholeK k = true) (hr : Rises L) (hn : L.length ≤ 900) (w : World) (hv : Rws w v L) (N : List Rw) (hN : madeK k L = N) : Calls Tryd.prog 52 #[v, .int .u64 k] w fun e w' => ∃ r, e = .returned r ∧ Hid (Rws w' r N) ∧ Ext w w' := by
  have HV := Lib.hid hv
  have HRL := Lib.hid hr
  have hkb := whole_bd hk
  have HN : Hid (upK k L = N) := Lib.hid (by unfold upK; rw [if_neg (by omega), made_rev hr, hN])
  have HWK := Lib.hid hk
  clear hv hr hN hk
  go_enter Tryd.func52, Tryd.ntmps52
  go_wp2
  go_loopw [0, 1] (fun va qa wr => ∃ (M : List Rw) (q : Int) (f : Nat), qa = .int .u64 q ∧ (q = 0 ∨ (wholeK q = true ∧ 1 ≤ f)) ∧ (2 ≤ f ∨ parK q = 0) ∧ (3 ≤ f ∨ parK (parK q) = 0) ∧ Hid (Rises M) ∧ M.length + f ≤ 910 ∧ Hid (Rws wr va M) ∧ Hid (upK q M = N) ∧ Hid (Ext w wr)) (fun _ qa _ => (intOf qa).toNat)
  case atStart => exact ⟨L, k, 3, rfl, Or.inr ⟨HWK.out, by omega⟩, Or.inl (by omega), Or.inl (by omega), HRL, by omega, HV, HN, Lib.hid (Ext.refl _)⟩
  case round =>
    obtain ⟨M, q, f, rfl, hq, hf2, hf3, HRM, hml, HM, HU, HE⟩ := hrel
    obtain ⟨os', d', rfl⟩ := HE.out
    clear HE
    by_cases h0 : q = 0
    · subst h0
      have HE2 : Hid (M = N) := Lib.hid (by rw [← HU.out]; rfl)
      go_wp2
      go_ret
      exact ⟨_, rfl, Lib.hid (by rw [← HE2.out]; exact HM.out), (by first | ((repeat (first | with_reducible exact Ext.refl _ | with_reducible assumption | with_reducible refine Ext.alloc ?_ _ | with_reducible refine Ext.gr ?_ _ | with_reducible refine Ext.drewN ?_ _ | with_reducible refine Ext.drew ?_ | with_reducible refine Ext.setCell ?_ ?_ _ | with_reducible refine Ext.more ?_ _ _ | (show _ ≤ _; dsimp only; omega))); done) | ((repeat (first | with_reducible exact Ext.refl _ | with_reducible assumption | with_reducible apply Ext.bothR | with_reducible refine Ext.alloc ?_ _ | with_reducible refine Ext.gr ?_ _ | with_reducible refine Ext.drewN ?_ _ | with_reducible refine Ext.drew ?_ | with_reducible refine Ext.setCell ?_ ?_ _ | with_reducible refine Ext.more ?_ _ _ | (show _ ≤ _; dsimp only; omega))); done) | ((repeat (first | with_reducible exact Ext.refl _ | with_reducible exact Ext.sameG _ _ _ _ | with_reducible assumption | with_reducible refine Ext.bothR (n := 0) ?_ | with_reducible refine Ext.alloc ?_ _ | with_reducible refine Ext.gr ?_ _ | with_reducible refine Ext.drewN ?_ _ | with_reducible refine Ext.drew ?_ | with_reducible refine Ext.setCell ?_ ?_ _ | with_reducible refine Ext.more ?_ _ _ | (show _ ≤ _; dsimp only; omega))); done))⟩
    · have hw := (hq.resolve_left h0).1
      have hf1 := (hq.resolve_left h0).2
      have hqb := whole_bd hw
      have HQB : Hid (0 ≤ q ∧ q ≤ 18446744073709551615) := Lib.hid (by omega)
      have h0' : (q != 0) = true := by simpa using h0
      have HU2 := HU.out
      rw [upK_step h0 hw] at HU2
      have hlt := par_lt hw
      have hpp := par_par hw
      have hpw : parK q = 0 ∨ wholeK (parK q) = true := by by_cases h : parK q = 0; exact Or.inl h; exact Or.inr (par_whole hw h)
      obtain ⟨p, hp⟩ : ∃ p, parK q = p := ⟨_, rfl⟩
      rw [hp] at HU2 hlt hpp hpw hf2 hf3
      have HPK := Lib.hid hp
      have HRI : Hid (Rises (ins0 M q)) := Lib.hid (rises_ins0 HRM.out q)
      have hli := len_ins0 M q
      have HU3 := Lib.hid HU2
      obtain ⟨ad, cap, rfl, _, _⟩ := HM.out
      have HFF : Hid ((p = 0 ∨ (wholeK p = true ∧ 1 ≤ f - 1)) ∧ (2 ≤ f - 1 ∨ parK p = 0) ∧ (3 ≤ f - 1 ∨ parK (parK p) = 0)) := Lib.hid (by
        refine ⟨?_, ?_, Or.inr hpp⟩
        · rcases hpw with h | h
          · exact Or.inl h
          · by_cases hp0 : p = 0
            · exact Or.inl hp0
            · exact Or.inr ⟨h, by have := hf2.resolve_right hp0; omega⟩
        · rcases hf3 with h | h
          · exact Or.inl (by omega)
          · exact Or.inr h)
      cases hl : look M q with
      | some u =>
        obtain ⟨i, hi, hfi, _⟩ := findK_look hl
        have HD := Lib.hid hfi
        have HI : Hid (ins0 M q = M) := Lib.hid (by unfold ins0; rw [hl]; rfl)
        clear hq hf2 hf3 hw hp hpw hl hli hfi hpp HU2
        go_wp2_with (first | (go_at_call 17; (with_reducible refine (find_any _ M _ _ (HM.out.sl.ext (by first | ((repeat (first | with_reducible exact Ext.refl _ | with_reducible assumption | with_reducible refine Ext.alloc ?_ _ | with_reducible refine Ext.gr ?_ _ | with_reducible refine Ext.drewN ?_ _ | with_reducible refine Ext.drew ?_ | with_reducible refine Ext.setCell ?_ ?_ _ | with_reducible refine Ext.more ?_ _ _ | (show _ ≤ _; dsimp only; omega))); done) | ((repeat (first | with_reducible exact Ext.refl _ | with_reducible assumption | with_reducible apply Ext.bothR | with_reducible refine Ext.alloc ?_ _ | with_reducible refine Ext.gr ?_ _ | with_reducible refine Ext.drewN ?_ _ | with_reducible refine Ext.drew ?_ | with_reducible refine Ext.setCell ?_ ?_ _ | with_reducible refine Ext.more ?_ _ _ | (show _ ≤ _; dsimp only; omega))); done) | ((repeat (first | with_reducible exact Ext.refl _ | with_reducible exact Ext.sameG _ _ _ _ | with_reducible assumption | with_reducible refine Ext.bothR (n := 0) ?_ | with_reducible refine Ext.alloc ?_ _ | with_reducible refine Ext.gr ?_ _ | with_reducible refine Ext.drewN ?_ _ | with_reducible refine Ext.drew ?_ | with_reducible refine Ext.setCell ?_ ?_ _ | with_reducible refine Ext.more ?_ _ _ | (show _ ≤ _; dsimp only; omega))); done)))).mono ?_); rintro e w1 ⟨rfl, os1, n1, rfl⟩; rw [HD.out]) | (go_at_call 19; (with_reducible refine (parentR_any q HQB.out _).mono ?_); rintro e w3 ⟨rfl, os3, n3, rfl⟩; rw [HPK.out]))
        go_roundw
        case rel => exact ⟨M, p, f - 1, rfl, HFF.out.1, HFF.out.2.1, HFF.out.2.2, HRM, by omega, Lib.hid (HM.out.ext (by first | ((repeat (first | with_reducible exact Ext.refl _ | with_reducible assumption | with_reducible refine Ext.alloc ?_ _ | with_reducible refine Ext.gr ?_ _ | with_reducible refine Ext.drewN ?_ _ | with_reducible refine Ext.drew ?_ | with_reducible refine Ext.setCell ?_ ?_ _ | with_reducible refine Ext.more ?_ _ _ | (show _ ≤ _; dsimp only; omega))); done) | ((repeat (first | with_reducible exact Ext.refl _ | with_reducible assumption | with_reducible apply Ext.bothR | with_reducible refine Ext.alloc ?_ _ | with_reducible refine Ext.gr ?_ _ | with_reducible refine Ext.drewN ?_ _ | with_reducible refine Ext.drew ?_ | with_reducible refine Ext.setCell ?_ ?_ _ | with_reducible refine Ext.more ?_ _ _ | (show _ ≤ _; dsimp only; omega))); done) | ((repeat (first | with_reducible exact Ext.refl _ | with_reducible exact Ext.sameG _ _ _ _ | with_reducible assumption | with_reducible refine Ext.bothR (n := 0) ?_ | with_reducible refine Ext.alloc ?_ _ | with_reducible refine Ext.gr ?_ _ | with_reducible refine Ext.drewN ?_ _ | with_reducible refine Ext.drew ?_ | with_reducible refine Ext.setCell ?_ ?_ _ | with_reducible refine Ext.more ?_ _ _ | (show _ ≤ _; dsimp only; omega))); done))), Lib.hid (by rw [← HU3.out, HI.out]), Lib.hid (by first | ((repeat (first | with_reducible exact Ext.refl _ | with_reducible assumption | with_reducible refine Ext.alloc ?_ _ | with_reducible refine Ext.gr ?_ _ | with_reducible refine Ext.drewN ?_ _ | with_reducible refine Ext.drew ?_ | with_reducible refine Ext.setCell ?_ ?_ _ | with_reducible refine Ext.more ?_ _ _ | (show _ ≤ _; dsimp only; omega))); done) | ((repeat (first | with_reducible exact Ext.refl _ | with_reducible assumption | with_reducible apply Ext.bothR | with_reducible refine Ext.alloc ?_ _ | with_reducible refine Ext.gr ?_ _ | with_reducible refine Ext.drewN ?_ _ | with_reducible refine Ext.drew ?_ | with_reducible refine Ext.setCell ?_ ?_ _ | with_reducible refine Ext.more ?_ _ _ | (show _ ≤ _; dsimp only; omega))); done) | ((repeat (first | with_reducible exact Ext.refl _ | with_reducible exact Ext.sameG _ _ _ _ | with_reducible assumption | with_reducible refine Ext.bothR (n := 0) ?_ | with_reducible refine Ext.alloc ?_ _ | with_reducible refine Ext.gr ?_ _ | with_reducible refine Ext.drewN ?_ _ | with_reducible refine Ext.drew ?_ | with_reducible refine Ext.setCell ?_ ?_ _ | with_reducible refine Ext.more ?_ _ _ | (show _ ≤ _; dsimp only; omega))); done))⟩
        case measure => simp [intOf]; omega
      | none =>
        have HD := Lib.hid (look_findK hl)
        have HI : Hid (withF q 0 false M = ins0 M q) := Lib.hid (by rw [withF_eq q 0 HRM.out]; unfold ins0; rw [hl]; rfl)
        have HW := HI
        rw [hl] at hli
        simp at hli
        clear hq hf2 hf3 hw hp hpw hl hpp HU2
        go_wp2_with (first | (go_at_call 17; (with_reducible refine (find_any _ M _ _ (HM.out.sl.ext (by first | ((repeat (first | with_reducible exact Ext.refl _ | with_reducible assumption | with_reducible refine Ext.alloc ?_ _ | with_reducible refine Ext.gr ?_ _ | with_reducible refine Ext.drewN ?_ _ | with_reducible refine Ext.drew ?_ | with_reducible refine Ext.setCell ?_ ?_ _ | with_reducible refine Ext.more ?_ _ _ | (show _ ≤ _; dsimp only; omega))); done) | ((repeat (first | with_reducible exact Ext.refl _ | with_reducible assumption | with_reducible apply Ext.bothR | with_reducible refine Ext.alloc ?_ _ | with_reducible refine Ext.gr ?_ _ | with_reducible refine Ext.drewN ?_ _ | with_reducible refine Ext.drew ?_ | with_reducible refine Ext.setCell ?_ ?_ _ | with_reducible refine Ext.more ?_ _ _ | (show _ ≤ _; dsimp only; omega))); done) | ((repeat (first | with_reducible exact Ext.refl _ | with_reducible exact Ext.sameG _ _ _ _ | with_reducible assumption | with_reducible refine Ext.bothR (n := 0) ?_ | with_reducible refine Ext.alloc ?_ _ | with_reducible refine Ext.gr ?_ _ | with_reducible refine Ext.drewN ?_ _ | with_reducible refine Ext.drew ?_ | with_reducible refine Ext.setCell ?_ ?_ _ | with_reducible refine Ext.more ?_ _ _ | (show _ ≤ _; dsimp only; omega))); done)))).mono ?_); rintro e w1 ⟨rfl, os1, n1, rfl⟩; rw [HD.out]) | (go_at_call 53; (with_reducible refine (with_any _ M (by omega) _ _ _ (HM.out.ext (by first | ((repeat (first | with_reducible exact Ext.refl _ | with_reducible assumption | with_reducible refine Ext.alloc ?_ _ | with_reducible refine Ext.gr ?_ _ | with_reducible refine Ext.drewN ?_ _ | with_reducible refine Ext.drew ?_ | with_reducible refine Ext.setCell ?_ ?_ _ | with_reducible refine Ext.more ?_ _ _ | (show _ ≤ _; dsimp only; omega))); done) | ((repeat (first | with_reducible exact Ext.refl _ | with_reducible assumption | with_reducible apply Ext.bothR | with_reducible refine Ext.alloc ?_ _ | with_reducible refine Ext.gr ?_ _ | with_reducible refine Ext.drewN ?_ _ | with_reducible refine Ext.drew ?_ | with_reducible refine Ext.setCell ?_ ?_ _ | with_reducible refine Ext.more ?_ _ _ | (show _ ≤ _; dsimp only; omega))); done) | ((repeat (first | with_reducible exact Ext.refl _ | with_reducible exact Ext.sameG _ _ _ _ | with_reducible assumption | with_reducible refine Ext.bothR (n := 0) ?_ | with_reducible refine Ext.alloc ?_ _ | with_reducible refine Ext.gr ?_ _ | with_reducible refine Ext.drewN ?_ _ | with_reducible refine Ext.drew ?_ | with_reducible refine Ext.setCell ?_ ?_ _ | with_reducible refine Ext.more ?_ _ _ | (show _ ≤ _; dsimp only; omega))); done)))).mono ?_); rintro e w2 ⟨r, rfl, HO2, os2, n2, rfl⟩; rw [HW.out] at HO2; (try simp only [grew_grew] at HO2); have HOW := Lib.hid HO2; clear HO2) | (go_at_call 19; (with_reducible refine (parentR_any q HQB.out _).mono ?_); rintro e w3 ⟨rfl, os3, n3, rfl⟩; rw [HPK.out]))
        go_roundw
        case rel => exact ⟨ins0 M q, p, f - 1, rfl, HFF.out.1, HFF.out.2.1, HFF.out.2.2, HRI, by omega, Lib.hid ((own_rws HOW.out).ext (by first | ((repeat (first | with_reducible exact Ext.refl _ | with_reducible assumption | with_reducible refine Ext.alloc ?_ _ | with_reducible refine Ext.gr ?_ _ | with_reducible refine Ext.drewN ?_ _ | with_reducible refine Ext.drew ?_ | with_reducible refine Ext.setCell ?_ ?_ _ | with_reducible refine Ext.more ?_ _ _ | (show _ ≤ _; dsimp only; omega))); done) | ((repeat (first | with_reducible exact Ext.refl _ | with_reducible assumption | with_reducible apply Ext.bothR | with_reducible refine Ext.alloc ?_ _ | with_reducible refine Ext.gr ?_ _ | with_reducible refine Ext.drewN ?_ _ | with_reducible refine Ext.drew ?_ | with_reducible refine Ext.setCell ?_ ?_ _ | with_reducible refine Ext.more ?_ _ _ | (show _ ≤ _; dsimp only; omega))); done) | ((repeat (first | with_reducible exact Ext.refl _ | with_reducible exact Ext.sameG _ _ _ _ | with_reducible assumption | with_reducible refine Ext.bothR (n := 0) ?_ | with_reducible refine Ext.alloc ?_ _ | with_reducible refine Ext.gr ?_ _ | with_reducible refine Ext.drewN ?_ _ | with_reducible refine Ext.drew ?_ | with_reducible refine Ext.setCell ?_ ?_ _ | with_reducible refine Ext.more ?_ _ _ | (show _ ≤ _; dsimp only; omega))); done))), HU3, Lib.hid (by first | ((repeat (first | with_reducible exact Ext.refl _ | with_reducible assumption | with_reducible refine Ext.alloc ?_ _ | with_reducible refine Ext.gr ?_ _ | with_reducible refine Ext.drewN ?_ _ | with_reducible refine Ext.drew ?_ | with_reducible refine Ext.setCell ?_ ?_ _ | with_reducible refine Ext.more ?_ _ _ | (show _ ≤ _; dsimp only; omega))); done) | ((repeat (first | with_reducible exact Ext.refl _ | with_reducible assumption | with_reducible apply Ext.bothR | with_reducible refine Ext.alloc ?_ _ | with_reducible refine Ext.gr ?_ _ | with_reducible refine Ext.drewN ?_ _ | with_reducible refine Ext.drew ?_ | with_reducible refine Ext.setCell ?_ ?_ _ | with_reducible refine Ext.more ?_ _ _ | (show _ ≤ _; dsimp only; omega))); done) | ((repeat (first | with_reducible exact Ext.refl _ | with_reducible exact Ext.sameG _ _ _ _ | with_reducible assumption | with_reducible refine Ext.bothR (n := 0) ?_ | with_reducible refine Ext.alloc ?_ _ | with_reducible refine Ext.gr ?_ _ | with_reducible refine Ext.drewN ?_ _ | with_reducible refine Ext.drew ?_ | with_reducible refine Ext.setCell ?_ ?_ _ | with_reducible refine Ext.more ?_ _ _ | (show _ ≤ _; dsimp only; omega))); done))⟩
        case measure => simp [intOf]; omega
end Go.Proofs.YtbfccbaplmjkhaaDoor
