/- The walks of 'order.of', 'order.Is', 'first', 'has', and of 'op.Writes'. -/
import Derived.Test.YthecacdofbhblaaDoorRef6b
import Derived.Test.YthecacdofbhblaaDoorOrd0
import Derived.Test.YthecacdofbhblaaDoorLawP
import Derived.Test.YthecacdofbhblaaDoorCheck
import Derived.Deep.QuietTactic
import Derived.BigQuiet
namespace Go.Proofs.YthecacdofbhblaaDoor
open Go Go.RowKit

theorem of_any (c : Cfg) (w : World) : Calls Tryd.prog 21 #[c.v] w fun e w' => e = .returned (.bool (partOk c && (c.object == 2))) ∧ Ext w w' := by
  cases hp : partOk c
  · have HC := Lib.hid (conf_no hp)
    go_enter Tryd.func21, Tryd.ntmps21
    go_wp2_with (go_at_call 35; refine (partCheck_any c _).mono ?_; rintro e w1 ⟨rfl, os1, n1, rfl⟩; rw [HC.out])
    go_ret
    exact ⟨rfl, (by repeat (first | with_reducible exact Ext.refl _ | with_reducible assumption | with_reducible refine Ext.alloc ?_ _ | with_reducible refine Ext.gr ?_ _ | with_reducible refine Ext.drewN ?_ _ | with_reducible refine Ext.drew ?_ | with_reducible refine Ext.setCell ?_ ?_ _ | with_reducible refine Ext.more ?_ _ _ | (show _ ≤ _; dsimp only; omega)))⟩
  · have HC := Lib.hid (conf_ok hp)
    cases h1 : (c.object == 2)
    all_goals
      go_enter Tryd.func21, Tryd.ntmps21
      go_wp2_with (go_at_call 35; refine (partCheck_any c _).mono ?_; rintro e w1 ⟨rfl, os1, n1, rfl⟩; rw [HC.out])
      go_ret
      exact ⟨rfl, (by repeat (first | with_reducible exact Ext.refl _ | with_reducible assumption | with_reducible refine Ext.alloc ?_ _ | with_reducible refine Ext.gr ?_ _ | with_reducible refine Ext.drewN ?_ _ | with_reducible refine Ext.drew ?_ | with_reducible refine Ext.setCell ?_ ?_ _ | with_reducible refine Ext.more ?_ _ _ | (show _ ≤ _; dsimp only; omega)))⟩
theorem writes_any (k : Int) (hk : 1 ≤ k ∧ k ≤ 14) (w : World) (ht : Tab w) : Calls Tryd.prog 24 #[.int .u8 k] w fun e w' => e = .returned (.bool (writesB k)) ∧ Ext w w' := by
  have h1 := ht.wr (k := k) (by omega) (by omega)
  have h2 : k < 15 := by omega
  have h3 : 0 ≤ k := by omega
  clear ht
  go_enter Tryd.func24, Tryd.ntmps24
  go_wp2
  go_ret
  exact ⟨rfl, (by repeat (first | with_reducible exact Ext.refl _ | with_reducible assumption | with_reducible refine Ext.alloc ?_ _ | with_reducible refine Ext.gr ?_ _ | with_reducible refine Ext.drewN ?_ _ | with_reducible refine Ext.drew ?_ | with_reducible refine Ext.setCell ?_ ?_ _ | with_reducible refine Ext.more ?_ _ _ | (show _ ≤ _; dsimp only; omega)))⟩
def okAt (L : List Rw) (j : Nat) : Prop := ordB (L.getD j zrw) = true ∧ (0 < j → (L.getD (j - 1) zrw).k < (L.getD j zrw).k)
theorem ok_all {L : List Rw} (h : ∀ j, j < L.length → okAt L j) : (risesB L && L.all ordB) = true := by
  rw [Bool.and_eq_true]
  refine ⟨(risesB_iff L).2 (rises_of fun i hi => ?_), all_of fun j hj => (h j hj).1⟩
  have := (h (i + 1) hi).2 (by omega)
  simpa using this
theorem ok_not {L : List Rw} {j : Nat} (hj : j < L.length) (h : ¬ okAt L j) : (risesB L && L.all ordB) = false := by
  rw [← Bool.not_eq_true, Bool.and_eq_true]
  rintro ⟨h1, h2⟩
  refine h ⟨?_, fun h0 => rises_at ((risesB_iff L).1 h1) (by omega) hj⟩
  rw [getD_rw L j hj]
  exact List.all_eq_true.1 h2 _ (List.getElem_mem hj)
theorem ok_step {L : List Rw} {k : Nat} (h : ∀ j, j < k → okAt L j) (hk : okAt L k) : ∀ j, j < k + 1 → okAt L j := fun j hj => by
  by_cases e : j = k
  · subst e; exact hk
  · exact h j (by omega)
set_option maxRecDepth 100000 in
set_option maxHeartbeats 8000000 in
theorem is_any (c : Cfg) (v : Value) (L : List Rw) (hf : RwsFit L) (w : World) (hv : Sl w v L.length (rwCells L)) : Calls Tryd.prog 15 #[c.v, v] w
    fun e w' => e = .returned (.bool (ordIs c L)) ∧ Ext w w' := by
  have HF := Lib.hid hf
  clear hf
  obtain ⟨ad, cap, rfl, hs⟩ := hv
  have hm := hs.len
  have HS := Lib.hid hs
  clear hs
  obtain ⟨R, hR⟩ : ∃ R, ordIs c L = R := ⟨_, rfl⟩
  rw [hR]
  unfold ordIs at hR
  cases hp : (partOk c && (c.object == 2))
  · have HC := Lib.hid hp
    have HR : Hid (false = R) := Lib.hid (by rw [← hR, hp]; rfl)
    clear hp hR
    go_enter Tryd.func15, Tryd.ntmps15
    go_wp2_with (go_at_call 21; refine (of_any c _).mono ?_; rintro e w1 ⟨rfl, os1, n1, rfl⟩; rw [HC.out])
    go_ret
    exact ⟨by rw [← HR.out] <;> rfl, (by repeat (first | with_reducible exact Ext.refl _ | with_reducible assumption | with_reducible refine Ext.alloc ?_ _ | with_reducible refine Ext.gr ?_ _ | with_reducible refine Ext.drewN ?_ _ | with_reducible refine Ext.drew ?_ | with_reducible refine Ext.setCell ?_ ?_ _ | with_reducible refine Ext.more ?_ _ _ | (show _ ≤ _; dsimp only; omega)))⟩
  · have HC := Lib.hid hp
    rw [hp] at hR
    clear hp
    by_cases h2 : (L.length : Int) ≤ c.cap
    · have h2' : ¬ c.cap < (L.length : Int) := by omega
      simp only [h2, decide_true, Bool.and_true, Bool.true_and] at hR
      have HR : Hid ((risesB L && L.all ordB) = R) := Lib.hid hR
      clear hR
      go_enter Tryd.func15, Tryd.ntmps15
      go_wp2_with (go_at_call 21; refine (of_any c _).mono ?_; rintro e w1 ⟨rfl, os1, n1, rfl⟩; rw [HC.out])
      go_loopw [5, 6, 19] (fun _ _ i wr => ∃ k : Nat, k ≤ L.length ∧ i = .int .i64 k ∧ Ext w wr ∧ Hid (∀ j, j < k → okAt L j)) (fun _ _ i _ => L.length - (intOf i).toNat)
      case atStart => exact ⟨0, Nat.zero_le _, rfl, (by repeat (first | with_reducible exact Ext.refl _ | with_reducible assumption | with_reducible refine Ext.alloc ?_ _ | with_reducible refine Ext.gr ?_ _ | with_reducible refine Ext.drewN ?_ _ | with_reducible refine Ext.drew ?_ | with_reducible refine Ext.setCell ?_ ?_ _ | with_reducible refine Ext.more ?_ _ _ | (show _ ≤ _; dsimp only; omega))), Lib.hid fun j hj => absurd hj (Nat.not_lt_zero _)⟩
      case round =>
        obtain ⟨k, hk, rfl, he, HT⟩ := hrel
        have HE := Lib.hid he
        clear he
        by_cases hlt : k < L.length
        · obtain ⟨b, o, rfl, hbl, r1, r2⟩ := (HS.out.ext HE.out).rw hlt
          obtain ⟨x, hx⟩ : ∃ x, L.getD k zrw = x := ⟨_, rfl⟩
          rw [hx] at r1 r2
          have HX := Lib.hid hx
          have i0 : (0 : Int) ≤ (k : Int) := by omega
          have i1 : (k : Int) < (L.length : Int) := by omega
          clear hx
          have hbad : (¬ (x.k ≤ 2147483647 ∧ x.v ≤ 2147483647)) → Hid (false = R) := fun hb => Lib.hid (by
            rw [← HR.out]
            refine (ok_not hlt fun h => hb ?_).symm
            have := h.1
            rw [HX.out] at this
            simp [ordB] at this
            omega)
          have HBAD := Lib.hid hbad
          clear hbad
          by_cases h5 : 2147483647 < x.k
          · have HR2 := HBAD.out (by omega)
            have g5 : decide (2147483647 < x.k) = true := by simpa using h5
            go_wp2
            (refine wp_region_ext_lit (by kernel_rfl) (by kernel_rfl) ?_); (repeat (go_big_quiet_step (fail))); (refine wpQuiet_nil ?_; intro _ hw'; obtain ⟨⟨osq, nq⟩, hw''⟩ := hw'; replace hw'' : _ = grew _ osq nq := hw''; subst hw'')
            go_wp2
            go_ret
            exact ⟨by rw [← HR2.out] <;> rfl, HE.out.trans (by repeat (first | with_reducible exact Ext.refl _ | with_reducible assumption | with_reducible refine Ext.alloc ?_ _ | with_reducible refine Ext.gr ?_ _ | with_reducible refine Ext.drewN ?_ _ | with_reducible refine Ext.drew ?_ | with_reducible refine Ext.setCell ?_ ?_ _ | with_reducible refine Ext.more ?_ _ _ | (show _ ≤ _; dsimp only; omega)))⟩
          · have g5 : decide (2147483647 < x.k) = false := by simp; omega
            by_cases h6 : 2147483647 < x.v
            · have HR2 := HBAD.out (by omega)
              have g6 : decide (2147483647 < x.v) = true := by simpa using h6
              go_wp2
              (refine wp_region_ext_lit (by kernel_rfl) (by kernel_rfl) ?_); (repeat (go_big_quiet_step (fail))); (refine wpQuiet_nil ?_; intro _ hw'; obtain ⟨⟨osq, nq⟩, hw''⟩ := hw'; replace hw'' : _ = grew _ osq nq := hw''; subst hw'')
              go_wp2
              go_ret
              exact ⟨by rw [← HR2.out] <;> rfl, HE.out.trans (by repeat (first | with_reducible exact Ext.refl _ | with_reducible assumption | with_reducible refine Ext.alloc ?_ _ | with_reducible refine Ext.gr ?_ _ | with_reducible refine Ext.drewN ?_ _ | with_reducible refine Ext.drew ?_ | with_reducible refine Ext.setCell ?_ ?_ _ | with_reducible refine Ext.more ?_ _ _ | (show _ ≤ _; dsimp only; omega)))⟩
            · have g6 : decide (2147483647 < x.v) = false := by simp; omega
              have hrb : ordB x = true := by simp [ordB]; omega
              by_cases h8 : k = 0
              · have HT2 : Hid (∀ j, j < k + 1 → okAt L j) := Lib.hid (ok_step HT.out ⟨by rw [HX.out]; exact hrb, fun h => by omega⟩)
                have g8 : decide ((0 : Int) < (k : Int)) = false := by simp; omega
                have g8n : decide (0 < k) = false := by simp; omega
                clear hrb h8
                go_wp2
                (refine wp_region_ext_lit (by kernel_rfl) (by kernel_rfl) ?_); (repeat (go_big_quiet_step (fail))); (refine wpQuiet_nil ?_; intro _ hw'; obtain ⟨⟨osq, nq⟩, hw''⟩ := hw'; replace hw'' : _ = grew _ osq nq := hw''; subst hw'')
                go_wp2
                go_roundw
                case rel => exact ⟨k + 1, by omega, by go_num, HE.out.trans (by repeat (first | with_reducible exact Ext.refl _ | with_reducible assumption | with_reducible refine Ext.alloc ?_ _ | with_reducible refine Ext.gr ?_ _ | with_reducible refine Ext.drewN ?_ _ | with_reducible refine Ext.drew ?_ | with_reducible refine Ext.setCell ?_ ?_ _ | with_reducible refine Ext.more ?_ _ _ | (show _ ≤ _; dsimp only; omega))), HT2⟩
                case measure => simp [intOf]; omega
              · obtain ⟨j, rfl⟩ : ∃ j, k = j + 1 := ⟨k - 1, by omega⟩
                obtain ⟨b', o', e2, _, s1, s2⟩ := (HS.out.ext HE.out).rw (i := j) (by omega)
                cases e2
                obtain ⟨y, hy⟩ : ∃ y, L.getD j zrw = y := ⟨_, rfl⟩
                rw [hy] at s1 s2
                have HY := Lib.hid hy
                have i3 : (0 : Int) ≤ (j : Int) := by omega
                have i4 : (j : Int) < (L.length : Int) := by omega
                have i2 : IntKind.i64.wrap (((j + 1 : Nat) : Int) - 1) = (j : Int) := by rw [IntKind.wrap_i64]; omega
                have i5 : (0 : Int) < ((j + 1 : Nat) : Int) := by omega
                have g8 : decide ((0 : Int) < ((j + 1 : Nat) : Int)) = true := decide_eq_true i5
                clear hy s2
                by_cases h9 : x.k ≤ y.k
                · have HR2 : Hid (false = R) := Lib.hid (by
                    rw [← HR.out]
                    refine (ok_not hlt fun h => ?_).symm
                    have := h.2 (by omega)
                    rw [Nat.add_sub_cancel, HX.out, HY.out] at this
                    omega)
                  clear hrb
                  go_wp2
                  (refine wp_region_ext_lit (by kernel_rfl) (by kernel_rfl) ?_); (repeat (go_big_quiet_step (fail))); (refine wpQuiet_nil ?_; intro _ hw'; obtain ⟨⟨osq, nq⟩, hw''⟩ := hw'; replace hw'' : _ = grew _ osq nq := hw''; subst hw'')
                  go_wp2
                  go_ret
                  exact ⟨by rw [← HR2.out] <;> rfl, HE.out.trans (by repeat (first | with_reducible exact Ext.refl _ | with_reducible assumption | with_reducible refine Ext.alloc ?_ _ | with_reducible refine Ext.gr ?_ _ | with_reducible refine Ext.drewN ?_ _ | with_reducible refine Ext.drew ?_ | with_reducible refine Ext.setCell ?_ ?_ _ | with_reducible refine Ext.more ?_ _ _ | (show _ ≤ _; dsimp only; omega)))⟩
                · have g9 : decide (x.k ≤ y.k) = false := by simp; omega
                  have HT2 : Hid (∀ i, i < j + 1 + 1 → okAt L i) := Lib.hid (ok_step HT.out ⟨by rw [HX.out]; exact hrb, fun _ => by rw [Nat.add_sub_cancel, HX.out, HY.out]; omega⟩)
                  clear hrb
                  go_wp2
                  (refine wp_region_ext_lit (by kernel_rfl) (by kernel_rfl) ?_); (repeat (go_big_quiet_step (fail))); (refine wpQuiet_nil ?_; intro _ hw'; obtain ⟨⟨osq, nq⟩, hw''⟩ := hw'; replace hw'' : _ = grew _ osq nq := hw''; subst hw'')
                  go_wp2
                  go_roundw
                  case rel => exact ⟨j + 1 + 1, by omega, by go_num, HE.out.trans (by repeat (first | with_reducible exact Ext.refl _ | with_reducible assumption | with_reducible refine Ext.alloc ?_ _ | with_reducible refine Ext.gr ?_ _ | with_reducible refine Ext.drewN ?_ _ | with_reducible refine Ext.drew ?_ | with_reducible refine Ext.setCell ?_ ?_ _ | with_reducible refine Ext.more ?_ _ _ | (show _ ≤ _; dsimp only; omega))), HT2⟩
                  case measure => simp [intOf]; omega
        · obtain rfl : k = L.length := by omega
          have HR2 : Hid (true = R) := Lib.hid (by rw [← HR.out]; exact (ok_all HT.out).symm)
          go_wp2
          go_ret
          exact ⟨by rw [← HR2.out] <;> rfl, HE.out⟩
    · have h2' : c.cap < (L.length : Int) := by omega
      have HR : Hid (false = R) := Lib.hid (by rw [← hR]; simp [h2])
      clear hR
      go_enter Tryd.func15, Tryd.ntmps15
      go_wp2_with (go_at_call 21; refine (of_any c _).mono ?_; rintro e w1 ⟨rfl, os1, n1, rfl⟩; rw [HC.out])
      go_ret
      exact ⟨by rw [← HR.out] <;> rfl, (by repeat (first | with_reducible exact Ext.refl _ | with_reducible assumption | with_reducible refine Ext.alloc ?_ _ | with_reducible refine Ext.gr ?_ _ | with_reducible refine Ext.drewN ?_ _ | with_reducible refine Ext.drew ?_ | with_reducible refine Ext.setCell ?_ ?_ _ | with_reducible refine Ext.more ?_ _ _ | (show _ ≤ _; dsimp only; omega)))⟩

set_option maxRecDepth 100000 in
set_option maxHeartbeats 2000000 in
theorem first_any (v : Value) (L : List Rw) (q : Int) (hq : 0 ≤ q ∧ q ≤ 4294967295) (w : World) (hv : Sl w v L.length (rwCells L)) (n : Nat) (hn : n ≤ L.length) (h1 : ∀ j, j < n → (L.getD j zrw).k < q) (h2 : n < L.length → q ≤ (L.getD n zrw).k) : Calls Tryd.prog 26 #[v, .int .u32 q] w
    fun e w' => e = .returned (.int .i64 n) ∧ Ext w w' := by
  obtain ⟨ad, cap, rfl, hs⟩ := hv
  have hm := hs.len
  have HS := Lib.hid hs
  have H1 := Lib.hid h1
  have H2 := Lib.hid h2
  clear hs h1 h2
  go_enter Tryd.func26, Tryd.ntmps26
  go_wp2
  go_loopw [9] (fun i wr => ∃ k : Nat, k ≤ n ∧ i = .int .i64 k ∧ Hid (Ext w wr)) (fun i _ => L.length - (intOf i).toNat)
  case atStart => exact ⟨0, Nat.zero_le _, rfl, Lib.hid (Ext.refl _)⟩
  case round =>
    obtain ⟨k, hk, rfl, HE⟩ := hrel
    by_cases hlt : k < L.length
    · obtain ⟨b, o, rfl, hbl, r1, r2⟩ := (HS.out.ext HE.out).rw hlt
      have hlo := H1.out k
      have hhi : k = n → q ≤ (L.getD k zrw).k := fun e => by subst e; exact H2.out hlt
      obtain ⟨x, hx⟩ : ∃ x, L.getD k zrw = x := ⟨_, rfl⟩
      rw [hx] at r1 r2 hlo hhi
      have i0 : (0 : Int) ≤ (k : Int) := by omega
      have i1 : (k : Int) < (L.length : Int) := by omega
      clear hx
      by_cases h : k < n
      · have g : ¬ q ≤ x.k := by have := hlo h; omega
        clear hlo hhi
        go_wp2
        go_roundw
        case rel => exact ⟨k + 1, by omega, by go_num, Lib.hid (HE.out.trans (by repeat (first | with_reducible exact Ext.refl _ | with_reducible assumption | with_reducible refine Ext.alloc ?_ _ | with_reducible refine Ext.gr ?_ _ | with_reducible refine Ext.drewN ?_ _ | with_reducible refine Ext.drew ?_ | with_reducible refine Ext.setCell ?_ ?_ _ | with_reducible refine Ext.more ?_ _ _ | (show _ ≤ _; dsimp only; omega))))⟩
        case measure => simp [intOf]; omega
      · obtain rfl : k = n := by omega
        have g : q ≤ x.k := hhi rfl
        clear hlo hhi
        go_wp2
        go_ret
        exact ⟨rfl, HE.out.trans (by repeat (first | with_reducible exact Ext.refl _ | with_reducible assumption | with_reducible refine Ext.alloc ?_ _ | with_reducible refine Ext.gr ?_ _ | with_reducible refine Ext.drewN ?_ _ | with_reducible refine Ext.drew ?_ | with_reducible refine Ext.setCell ?_ ?_ _ | with_reducible refine Ext.more ?_ _ _ | (show _ ≤ _; dsimp only; omega)))⟩
    · obtain rfl : k = L.length := by omega
      obtain rfl : n = L.length := by omega
      go_wp2
      go_ret
      exact ⟨rfl, HE.out⟩
set_option maxRecDepth 100000 in
set_option maxHeartbeats 2000000 in
theorem has_any (v : Value) (L : List Rw) (q : Int) (hq : 0 ≤ q ∧ q ≤ 4294967295) (w : World) (hv : Sl w v L.length (rwCells L)) (n : Nat) (hn : n ≤ L.length) (R : Bool) (hR : (decide (n < L.length) && ((L.getD n zrw).k == q)) = R) : Calls Tryd.prog 27 #[v, .int .i64 n, .int .u32 q] w
    fun e w' => e = .returned (.bool R) ∧ Ext w w' := by
  obtain ⟨ad, cap, rfl, hs⟩ := hv
  have hm := hs.len
  by_cases hlt : n < L.length
  · obtain ⟨b, o, rfl, hbl, r1, r2⟩ := hs.rw hlt
    obtain ⟨x, hx⟩ : ∃ x, L.getD n zrw = x := ⟨_, rfl⟩
    rw [hx] at r1 r2 hR
    simp only [hlt, decide_true, Bool.true_and] at hR
    have i0 : (0 : Int) ≤ (n : Int) := by omega
    have i1 : (n : Int) < (L.length : Int) := by omega
    clear hx hs
    go_enter Tryd.func27, Tryd.ntmps27
    go_wp2
    go_ret
    exact ⟨by rw [← hR] <;> rfl, (by repeat (first | with_reducible exact Ext.refl _ | with_reducible assumption | with_reducible refine Ext.alloc ?_ _ | with_reducible refine Ext.gr ?_ _ | with_reducible refine Ext.drewN ?_ _ | with_reducible refine Ext.drew ?_ | with_reducible refine Ext.setCell ?_ ?_ _ | with_reducible refine Ext.more ?_ _ _ | (show _ ≤ _; dsimp only; omega)))⟩
  · obtain rfl : R = false := by rw [← hR]; simp [hlt]
    have i1 : ¬ (n : Int) < (L.length : Int) := by omega
    clear hR hs hlt
    go_enter Tryd.func27, Tryd.ntmps27
    go_wp2
    go_ret
    exact ⟨rfl, (by repeat (first | with_reducible exact Ext.refl _ | with_reducible assumption | with_reducible refine Ext.alloc ?_ _ | with_reducible refine Ext.gr ?_ _ | with_reducible refine Ext.drewN ?_ _ | with_reducible refine Ext.drew ?_ | with_reducible refine Ext.setCell ?_ ?_ _ | with_reducible refine Ext.more ?_ _ _ | (show _ ≤ _; dsimp only; omega)))⟩
end Go.Proofs.YthecacdofbhblaaDoor
