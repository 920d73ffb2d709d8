/- The walk of 'RulesTell'. -/
import Derived.Test.YtiooiljehigomaaDoorAlv8b
namespace Go.Proofs.YtiooiljehigomaaDoor
open Go Go.RowKit

def tellB (L : List Rw) (who what v : Int) : Bool := L.any fun x => speaksB x.k who what && x.v == v
theorem tellB_iff (L : List Rw) (who what v : Int) : tellB L who what v = true ↔ Tells L who what v := by simp [tellB, Tells]
theorem tellB_take (L : List Rw) (who what v : Int) (k : Nat) (h : k < L.length) : tellB (L.take (k + 1)) who what v = (tellB (L.take k) who what v || (speaksB (L.getD k zrw).k who what && (L.getD k zrw).v == v)) := by
  unfold tellB
  rw [List.take_add_one, List.getElem?_eq_getElem h, getD_rw L k h, List.any_append]
  simp
/-- What a check says, of the loop's two words. -/
theorem tell_plain {c : Cfg} {L : List Rw} (hf : RwsFit L) {who what : Int} (hi : rulesIs c L = true) (hw : okWho who what = true) {s : Int} (hs : saysOf c L who what = s) :
    (tellB L who what 2 = true ∧ s = 2) ∨ (tellB L who what 2 = false ∧ tellB L who what 1 = true ∧ s = 1) ∨ (tellB L who what 2 = false ∧ tellB L who what 1 = false ∧ s = 0) := by
  rw [saysOf_eq hf, hi, hw] at hs
  simp only [Bool.and_true, if_true] at hs
  obtain ⟨_, _, _, _, hL⟩ := rulesIs_ok hf hi
  obtain ⟨a1, a2, a3⟩ := say_of hL who what
  rw [← tellB_iff, ← tellB_iff] at a2 a3
  rw [← tellB_iff] at a1
  subst hs
  cases h2 : tellB L who what 2
  · rw [h2] at a2 a3
    cases h1 : tellB L who what 1
    · rw [h1] at a3
      exact Or.inr (Or.inr ⟨rfl, rfl, a3 (by simp) (by simp)⟩)
    · exact Or.inr (Or.inl ⟨rfl, rfl, a2 (by simp) h1⟩)
  · exact Or.inl ⟨rfl, a1 h2⟩
set_option maxRecDepth 100000 in
set_option maxHeartbeats 1500000 in
theorem rulesTell_true (c : Cfg) (L : List Rw) (who what : Int) (hf : RwsFit L) (hwho : 0 ≤ who ∧ who ≤ 4294967295) (hwhat : 0 ≤ what ∧ what ≤ 4294967295) (v : Value) (w : World) (ht : Tab w) (hv : Rws w v L) : Calls Tryd.prog 7 #[c.v, v, .int .u32 who, .int .u32 what] w
    fun e w' => e = .returned (.bool true) ∧ Ext w w' := by
  have HV := Lib.hid hv
  have HF := Lib.hid hf
  have HT := Lib.hid ht
  have HW1 := Lib.hid hwho
  have HW2 := Lib.hid hwhat
  obtain ⟨ad, cap, hvv, hs, _⟩ := hv
  have hln := hs.len
  have HSL := Lib.hid hs
  clear hf ht hs
  by_cases hn : L.length ≤ 100
  · have hn2 : ¬ (100 : Int) < (L.length : Int) := by omega
    obtain ⟨s, hS⟩ : ∃ s, saysOf c L who what = s := ⟨_, rfl⟩
    have HS := Lib.hid hS
    cases hi : rulesIs c L
    · have HI := Lib.hid hi
      clear hi hS hwho hwhat
      go_enter Tryd.func7, Tryd.ntmps7
      subst hvv
      go_wp2_with (first | (go_at_call 11; (with_reducible refine (alive_any _ (Tab.ext HT.out (by first | ((repeat (first | with_reducible exact Ext.refl _ | with_reducible assumption | with_reducible refine Ext.alloc ?_ _ | with_reducible refine Ext.gr ?_ _ | with_reducible refine Ext.drewN ?_ _ | with_reducible refine Ext.drew ?_ | with_reducible refine Ext.setCell ?_ ?_ _ | with_reducible refine Ext.more ?_ _ _ | (show _ ≤ _; dsimp only; omega))); done) | ((repeat (first | with_reducible exact Ext.refl _ | with_reducible assumption | with_reducible apply Ext.bothR | with_reducible refine Ext.alloc ?_ _ | with_reducible refine Ext.gr ?_ _ | with_reducible refine Ext.drewN ?_ _ | with_reducible refine Ext.drew ?_ | with_reducible refine Ext.setCell ?_ ?_ _ | with_reducible refine Ext.more ?_ _ _ | (show _ ≤ _; dsimp only; omega))); done)))).mono ?_); rintro e w1 ⟨rfl, os1, n1, rfl⟩) | (go_at_call 13; (with_reducible refine (is_as c _ L HF.out _ (HV.out.ext (by first | ((repeat (first | with_reducible exact Ext.refl _ | with_reducible assumption | with_reducible refine Ext.alloc ?_ _ | with_reducible refine Ext.gr ?_ _ | with_reducible refine Ext.drewN ?_ _ | with_reducible refine Ext.drew ?_ | with_reducible refine Ext.setCell ?_ ?_ _ | with_reducible refine Ext.more ?_ _ _ | (show _ ≤ _; dsimp only; omega))); done) | ((repeat (first | with_reducible exact Ext.refl _ | with_reducible assumption | with_reducible apply Ext.bothR | with_reducible refine Ext.alloc ?_ _ | with_reducible refine Ext.gr ?_ _ | with_reducible refine Ext.drewN ?_ _ | with_reducible refine Ext.drew ?_ | with_reducible refine Ext.setCell ?_ ?_ _ | with_reducible refine Ext.more ?_ _ _ | (show _ ≤ _; dsimp only; omega))); done))) _ HI.out).mono ?_); rintro e w3 ⟨rfl, os3, n3, rfl⟩))
      go_ret
      exact ⟨rfl, (by repeat (first | with_reducible exact Ext.refl _ | with_reducible assumption | with_reducible refine Ext.alloc ?_ _ | with_reducible refine Ext.gr ?_ _ | with_reducible refine Ext.drewN ?_ _ | with_reducible refine Ext.drew ?_ | with_reducible refine Ext.setCell ?_ ?_ _ | with_reducible refine Ext.more ?_ _ _ | (show _ ≤ _; dsimp only; omega)))⟩
    · have HI := Lib.hid hi
      by_cases hw : 1 ≤ who ∧ who ≤ 65535 ∧ 1 ≤ what ∧ what ≤ 65535
      · obtain ⟨b1, b2, b3, b4⟩ := hw
        have b1' : ¬ who < 1 := by omega
        have b2' : ¬ 65535 < who := by omega
        have b3' : ¬ what < 1 := by omega
        have b4' : ¬ 65535 < what := by omega
        have HP := Lib.hid (tell_plain HF.out hi (by simp [okWho, b1, b2, b3, b4]) hS)
        have HLK := Lib.hid (rulesIs_ok HF.out hi).2.2.2.2
        clear hi hS
        go_enter Tryd.func7, Tryd.ntmps7
        subst hvv
        go_wp2_with (first | (go_at_call 11; (with_reducible refine (alive_any _ (Tab.ext HT.out (by first | ((repeat (first | with_reducible exact Ext.refl _ | with_reducible assumption | with_reducible refine Ext.alloc ?_ _ | with_reducible refine Ext.gr ?_ _ | with_reducible refine Ext.drewN ?_ _ | with_reducible refine Ext.drew ?_ | with_reducible refine Ext.setCell ?_ ?_ _ | with_reducible refine Ext.more ?_ _ _ | (show _ ≤ _; dsimp only; omega))); done) | ((repeat (first | with_reducible exact Ext.refl _ | with_reducible assumption | with_reducible apply Ext.bothR | with_reducible refine Ext.alloc ?_ _ | with_reducible refine Ext.gr ?_ _ | with_reducible refine Ext.drewN ?_ _ | with_reducible refine Ext.drew ?_ | with_reducible refine Ext.setCell ?_ ?_ _ | with_reducible refine Ext.more ?_ _ _ | (show _ ≤ _; dsimp only; omega))); done)))).mono ?_); rintro e w1 ⟨rfl, os1, n1, rfl⟩) | (go_at_call 13; (with_reducible refine (is_as c _ L HF.out _ (HV.out.ext (by first | ((repeat (first | with_reducible exact Ext.refl _ | with_reducible assumption | with_reducible refine Ext.alloc ?_ _ | with_reducible refine Ext.gr ?_ _ | with_reducible refine Ext.drewN ?_ _ | with_reducible refine Ext.drew ?_ | with_reducible refine Ext.setCell ?_ ?_ _ | with_reducible refine Ext.more ?_ _ _ | (show _ ≤ _; dsimp only; omega))); done) | ((repeat (first | with_reducible exact Ext.refl _ | with_reducible assumption | with_reducible apply Ext.bothR | with_reducible refine Ext.alloc ?_ _ | with_reducible refine Ext.gr ?_ _ | with_reducible refine Ext.drewN ?_ _ | with_reducible refine Ext.drew ?_ | with_reducible refine Ext.setCell ?_ ?_ _ | with_reducible refine Ext.more ?_ _ _ | (show _ ≤ _; dsimp only; omega))); done))) _ HI.out).mono ?_); rintro e w3 ⟨rfl, os3, n3, rfl⟩))
        go_loopw [10, 11, 12] (fun d a i wr => ∃ (k : Nat) (dB aB : Bool), k ≤ L.length ∧ d = .bool dB ∧ a = .bool aB ∧ i = .int .i64 k ∧ Hid (Ext (w.alloc (.cells #[.int .u8 c.object, .int .i64 c.instances, .int .i64 c.threads, .int .u8 c.kind, .int .i64 c.stripes, .int .i64 c.bits, .int .i64 c.cap, .int .i64 c.node, .int .i64 c.batch, .int .i64 c.chunk, .int .u64 c.limit, .int .u64 c.most] 33)) wr) ∧ Hid (tellB (L.take k) who what 2 = dB) ∧ Hid (tellB (L.take k) who what 1 = aB)) (fun _ _ i _ => L.length - (intOf i).toNat)
        case atStart => exact ⟨0, false, false, Nat.zero_le _, rfl, rfl, rfl, Lib.hid (by first | ((repeat (first | with_reducible exact Ext.refl _ | with_reducible assumption | with_reducible refine Ext.alloc ?_ _ | with_reducible refine Ext.gr ?_ _ | with_reducible refine Ext.drewN ?_ _ | with_reducible refine Ext.drew ?_ | with_reducible refine Ext.setCell ?_ ?_ _ | with_reducible refine Ext.more ?_ _ _ | (show _ ≤ _; dsimp only; omega))); done) | ((repeat (first | with_reducible exact Ext.refl _ | with_reducible assumption | with_reducible apply Ext.bothR | with_reducible refine Ext.alloc ?_ _ | with_reducible refine Ext.gr ?_ _ | with_reducible refine Ext.drewN ?_ _ | with_reducible refine Ext.drew ?_ | with_reducible refine Ext.setCell ?_ ?_ _ | with_reducible refine Ext.more ?_ _ _ | (show _ ≤ _; dsimp only; omega))); done)), Lib.hid rfl, Lib.hid rfl⟩
        case round =>
          obtain ⟨k, dB, aB, hk, rfl, rfl, rfl, HE, HD, HA⟩ := hrel
          have HX : Hid (Ext w wr) := Lib.hid (Ext.trans (by repeat (first | with_reducible exact Ext.refl _ | with_reducible assumption | with_reducible refine Ext.alloc ?_ _ | with_reducible refine Ext.gr ?_ _ | with_reducible refine Ext.drewN ?_ _ | with_reducible refine Ext.drew ?_ | with_reducible refine Ext.setCell ?_ ?_ _ | with_reducible refine Ext.more ?_ _ _ | (show _ ≤ _; dsimp only; omega))) HE.out)
          by_cases hlt : k < L.length
          · obtain ⟨b, f, rfl, hb, r1, r2⟩ := (HSL.out.ext HX.out).rw hlt
            have hd := tellB_take L who what 2 k hlt
            have ha := tellB_take L who what 1 k hlt
            have hxo := HLK.out (L.getD k zrw) (by rw [getD_rw L k hlt]; exact List.getElem_mem hlt)
            rw [HD.out] at hd
            rw [HA.out] at ha
            obtain ⟨x, hx⟩ : ∃ x, L.getD k zrw = x := ⟨_, rfl⟩
            rw [hx] at r1 r2 hd ha hxo
            clear hx
            obtain ⟨⟨x0, x1⟩, x2, x3⟩ := hxo
            have hand := and16 ⟨x0, x1⟩
            have i0 : (0 : Int) ≤ (k : Int) := by omega
            have i1 : (k : Int) < (L.length : Int) := by omega
            unfold speaksB at hd ha
            obtain ⟨p, hp⟩ : ∃ p, x.k / 65536 = p := ⟨_, rfl⟩
            obtain ⟨q, hq⟩ : ∃ q, x.k % 65536 = q := ⟨_, rfl⟩
            rw [hq] at hand
            rw [hp, hq] at hd ha
            have HDD := Lib.hid hd
            have HAA := Lib.hid ha
            clear hd ha hq
            go_wp2
            all_goals go_roundw
            all_goals
              first
                | (case rel =>
                     refine ⟨k + 1, _, _, by omega, rfl, rfl, by go_num, Lib.hid (HE.out.trans (by first | ((repeat (first | with_reducible exact Ext.refl _ | with_reducible assumption | with_reducible refine Ext.alloc ?_ _ | with_reducible refine Ext.gr ?_ _ | with_reducible refine Ext.drewN ?_ _ | with_reducible refine Ext.drew ?_ | with_reducible refine Ext.setCell ?_ ?_ _ | with_reducible refine Ext.more ?_ _ _ | (show _ ≤ _; dsimp only; omega))); done) | ((repeat (first | with_reducible exact Ext.refl _ | with_reducible assumption | with_reducible apply Ext.bothR | with_reducible refine Ext.alloc ?_ _ | with_reducible refine Ext.gr ?_ _ | with_reducible refine Ext.drewN ?_ _ | with_reducible refine Ext.drew ?_ | with_reducible refine Ext.setCell ?_ ?_ _ | with_reducible refine Ext.more ?_ _ _ | (show _ ≤ _; dsimp only; omega))); done) | ((repeat (first | with_reducible exact Ext.refl _ | with_reducible exact Ext.sameG _ _ _ _ | with_reducible assumption | with_reducible refine Ext.bothR (n := 0) ?_ | with_reducible refine Ext.alloc ?_ _ | with_reducible refine Ext.gr ?_ _ | with_reducible refine Ext.drewN ?_ _ | with_reducible refine Ext.drew ?_ | with_reducible refine Ext.setCell ?_ ?_ _ | with_reducible refine Ext.more ?_ _ _ | (show _ ≤ _; dsimp only; omega))); done))), Lib.hid (HDD.out.trans ?_), Lib.hid (HAA.out.trans ?_)⟩
                     all_goals first | (simp [*]; done) | simp_all)
                | (case measure => simp [intOf]; omega)
          · obtain rfl : k = L.length := by omega
            have hd := HD.out
            have ha := HA.out
            obtain ⟨os, d, rfl⟩ := HE.out
            rw [List.take_length] at hd ha
            have hp := HP.out
            rw [hd, ha] at hp
            clear HD HA HP hd ha
            rcases hp with ⟨rfl, rfl⟩ | ⟨rfl, rfl, rfl⟩ | ⟨rfl, rfl, rfl⟩
            all_goals
              go_wp2_with (go_at_call 19; (with_reducible refine (says_any c _ L HF.out who what HW1.out HW2.out _ (Tab.ext (Tab.ext HT.out HX.out) (by first | ((repeat (first | with_reducible exact Ext.refl _ | with_reducible assumption | with_reducible refine Ext.alloc ?_ _ | with_reducible refine Ext.gr ?_ _ | with_reducible refine Ext.drewN ?_ _ | with_reducible refine Ext.drew ?_ | with_reducible refine Ext.setCell ?_ ?_ _ | with_reducible refine Ext.more ?_ _ _ | (show _ ≤ _; dsimp only; omega))); done) | ((repeat (first | with_reducible exact Ext.refl _ | with_reducible assumption | with_reducible apply Ext.bothR | with_reducible refine Ext.alloc ?_ _ | with_reducible refine Ext.gr ?_ _ | with_reducible refine Ext.drewN ?_ _ | with_reducible refine Ext.drew ?_ | with_reducible refine Ext.setCell ?_ ?_ _ | with_reducible refine Ext.more ?_ _ _ | (show _ ≤ _; dsimp only; omega))); done))) ((HV.out.ext HX.out).ext (by first | ((repeat (first | with_reducible exact Ext.refl _ | with_reducible assumption | with_reducible refine Ext.alloc ?_ _ | with_reducible refine Ext.gr ?_ _ | with_reducible refine Ext.drewN ?_ _ | with_reducible refine Ext.drew ?_ | with_reducible refine Ext.setCell ?_ ?_ _ | with_reducible refine Ext.more ?_ _ _ | (show _ ≤ _; dsimp only; omega))); done) | ((repeat (first | with_reducible exact Ext.refl _ | with_reducible assumption | with_reducible apply Ext.bothR | with_reducible refine Ext.alloc ?_ _ | with_reducible refine Ext.gr ?_ _ | with_reducible refine Ext.drewN ?_ _ | with_reducible refine Ext.drew ?_ | with_reducible refine Ext.setCell ?_ ?_ _ | with_reducible refine Ext.more ?_ _ _ | (show _ ≤ _; dsimp only; omega))); done))) (by omega) _ HS.out).mono ?_); rintro e w4 ⟨rfl, os4, n4, rfl⟩)
              go_ret
              exact ⟨rfl, HX.out.trans (by first | ((repeat (first | with_reducible exact Ext.refl _ | with_reducible assumption | with_reducible refine Ext.alloc ?_ _ | with_reducible refine Ext.gr ?_ _ | with_reducible refine Ext.drewN ?_ _ | with_reducible refine Ext.drew ?_ | with_reducible refine Ext.setCell ?_ ?_ _ | with_reducible refine Ext.more ?_ _ _ | (show _ ≤ _; dsimp only; omega))); done) | ((repeat (first | with_reducible exact Ext.refl _ | with_reducible assumption | with_reducible apply Ext.bothR | with_reducible refine Ext.alloc ?_ _ | with_reducible refine Ext.gr ?_ _ | with_reducible refine Ext.drewN ?_ _ | with_reducible refine Ext.drew ?_ | with_reducible refine Ext.setCell ?_ ?_ _ | with_reducible refine Ext.more ?_ _ _ | (show _ ≤ _; dsimp only; omega))); done))⟩
      · clear hS hi
        have hw' : who < 1 ∨ (¬ who < 1 ∧ 65535 < who) ∨ (¬ who < 1 ∧ ¬ 65535 < who ∧ what < 1) ∨ (¬ who < 1 ∧ ¬ 65535 < who ∧ ¬ what < 1 ∧ 65535 < what) := by omega
        clear hw
        go_enter Tryd.func7, Tryd.ntmps7
        subst hvv
        go_upto_region 2 with (first | (go_at_call 11; (with_reducible refine (alive_any _ (Tab.ext HT.out (by first | ((repeat (first | with_reducible exact Ext.refl _ | with_reducible assumption | with_reducible refine Ext.alloc ?_ _ | with_reducible refine Ext.gr ?_ _ | with_reducible refine Ext.drewN ?_ _ | with_reducible refine Ext.drew ?_ | with_reducible refine Ext.setCell ?_ ?_ _ | with_reducible refine Ext.more ?_ _ _ | (show _ ≤ _; dsimp only; omega))); done) | ((repeat (first | with_reducible exact Ext.refl _ | with_reducible assumption | with_reducible apply Ext.bothR | with_reducible refine Ext.alloc ?_ _ | with_reducible refine Ext.gr ?_ _ | with_reducible refine Ext.drewN ?_ _ | with_reducible refine Ext.drew ?_ | with_reducible refine Ext.setCell ?_ ?_ _ | with_reducible refine Ext.more ?_ _ _ | (show _ ≤ _; dsimp only; omega))); done)))).mono ?_); rintro e w1 ⟨rfl, os1, n1, rfl⟩) | (go_at_call 13; (with_reducible refine (is_as c _ L HF.out _ (HV.out.ext (by first | ((repeat (first | with_reducible exact Ext.refl _ | with_reducible assumption | with_reducible refine Ext.alloc ?_ _ | with_reducible refine Ext.gr ?_ _ | with_reducible refine Ext.drewN ?_ _ | with_reducible refine Ext.drew ?_ | with_reducible refine Ext.setCell ?_ ?_ _ | with_reducible refine Ext.more ?_ _ _ | (show _ ≤ _; dsimp only; omega))); done) | ((repeat (first | with_reducible exact Ext.refl _ | with_reducible assumption | with_reducible apply Ext.bothR | with_reducible refine Ext.alloc ?_ _ | with_reducible refine Ext.gr ?_ _ | with_reducible refine Ext.drewN ?_ _ | with_reducible refine Ext.drew ?_ | with_reducible refine Ext.setCell ?_ ?_ _ | with_reducible refine Ext.more ?_ _ _ | (show _ ≤ _; dsimp only; omega))); done))) _ HI.out).mono ?_); rintro e w3 ⟨rfl, os3, n3, rfl⟩))
        rcases hw' with h1 | ⟨h1, h2⟩ | ⟨h1, h2, h3⟩ | ⟨h1, h2, h3, h4⟩
        all_goals
          go_wp2_with (first | (go_at_call 11; (with_reducible refine (alive_any _ (Tab.ext HT.out (by first | ((repeat (first | with_reducible exact Ext.refl _ | with_reducible assumption | with_reducible refine Ext.alloc ?_ _ | with_reducible refine Ext.gr ?_ _ | with_reducible refine Ext.drewN ?_ _ | with_reducible refine Ext.drew ?_ | with_reducible refine Ext.setCell ?_ ?_ _ | with_reducible refine Ext.more ?_ _ _ | (show _ ≤ _; dsimp only; omega))); done) | ((repeat (first | with_reducible exact Ext.refl _ | with_reducible assumption | with_reducible apply Ext.bothR | with_reducible refine Ext.alloc ?_ _ | with_reducible refine Ext.gr ?_ _ | with_reducible refine Ext.drewN ?_ _ | with_reducible refine Ext.drew ?_ | with_reducible refine Ext.setCell ?_ ?_ _ | with_reducible refine Ext.more ?_ _ _ | (show _ ≤ _; dsimp only; omega))); done)))).mono ?_); rintro e w1 ⟨rfl, os1, n1, rfl⟩) | (go_at_call 13; (with_reducible refine (is_as c _ L HF.out _ (HV.out.ext (by first | ((repeat (first | with_reducible exact Ext.refl _ | with_reducible assumption | with_reducible refine Ext.alloc ?_ _ | with_reducible refine Ext.gr ?_ _ | with_reducible refine Ext.drewN ?_ _ | with_reducible refine Ext.drew ?_ | with_reducible refine Ext.setCell ?_ ?_ _ | with_reducible refine Ext.more ?_ _ _ | (show _ ≤ _; dsimp only; omega))); done) | ((repeat (first | with_reducible exact Ext.refl _ | with_reducible assumption | with_reducible apply Ext.bothR | with_reducible refine Ext.alloc ?_ _ | with_reducible refine Ext.gr ?_ _ | with_reducible refine Ext.drewN ?_ _ | with_reducible refine Ext.drew ?_ | with_reducible refine Ext.setCell ?_ ?_ _ | with_reducible refine Ext.more ?_ _ _ | (show _ ≤ _; dsimp only; omega))); done))) _ HI.out).mono ?_); rintro e w3 ⟨rfl, os3, n3, rfl⟩))
          go_ret
          exact ⟨rfl, (by repeat (first | with_reducible exact Ext.refl _ | with_reducible assumption | with_reducible refine Ext.alloc ?_ _ | with_reducible refine Ext.gr ?_ _ | with_reducible refine Ext.drewN ?_ _ | with_reducible refine Ext.drew ?_ | with_reducible refine Ext.setCell ?_ ?_ _ | with_reducible refine Ext.more ?_ _ _ | (show _ ≤ _; dsimp only; omega)))⟩
  · have hn2 : (100 : Int) < (L.length : Int) := by omega
    subst hvv
    go_enter Tryd.func7, Tryd.ntmps7
    go_wp2_with (go_at_call 11; (with_reducible refine (alive_any _ (Tab.ext HT.out (by first | ((repeat (first | with_reducible exact Ext.refl _ | with_reducible assumption | with_reducible refine Ext.alloc ?_ _ | with_reducible refine Ext.gr ?_ _ | with_reducible refine Ext.drewN ?_ _ | with_reducible refine Ext.drew ?_ | with_reducible refine Ext.setCell ?_ ?_ _ | with_reducible refine Ext.more ?_ _ _ | (show _ ≤ _; dsimp only; omega))); done) | ((repeat (first | with_reducible exact Ext.refl _ | with_reducible assumption | with_reducible apply Ext.bothR | with_reducible refine Ext.alloc ?_ _ | with_reducible refine Ext.gr ?_ _ | with_reducible refine Ext.drewN ?_ _ | with_reducible refine Ext.drew ?_ | with_reducible refine Ext.setCell ?_ ?_ _ | with_reducible refine Ext.more ?_ _ _ | (show _ ≤ _; dsimp only; omega))); done)))).mono ?_); rintro e w1 ⟨rfl, os1, n1, rfl⟩)
    go_ret
    exact ⟨rfl, (by repeat (first | with_reducible exact Ext.refl _ | with_reducible assumption | with_reducible refine Ext.alloc ?_ _ | with_reducible refine Ext.gr ?_ _ | with_reducible refine Ext.drewN ?_ _ | with_reducible refine Ext.drew ?_ | with_reducible refine Ext.setCell ?_ ?_ _ | with_reducible refine Ext.more ?_ _ _ | (show _ ≤ _; dsimp only; omega)))⟩
end Go.Proofs.YtiooiljehigomaaDoor
