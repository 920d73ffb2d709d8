/- The walk of 'rules.Is'. -/
import Derived.Test.YtaijkpfgnlkppaaDoorIdx
namespace Go.Proofs.YtaijkpfgnlkppaaDoor.rules
open Go Go.RowKit

def okAt (L : List Rw) (j : Nat) : Prop := ruleB (L.getD j zrw) = true ∧ (0 < j → (L.getD (j - 1) zrw).k < (L.getD j zrw).k)
theorem ok_all {L : List Rw} (h : ∀ j, j < L.length → okAt L j) : (risesB L && L.all ruleB) = true := by
  rw [Bool.and_eq_true]
  refine ⟨(risesB_iff L).2 (rises_of fun i hi => ?_), all_of fun j hj => (h j hj).1⟩
  have := (h (i + 1) hi).2 (by omega)
  simpa using this
theorem ok_not {L : List Rw} {j : Nat} (hj : j < L.length) (h : ¬ okAt L j) : (risesB L && L.all ruleB) = false := by
  rw [← Bool.not_eq_true, Bool.and_eq_true]
  rintro ⟨h1, h2⟩
  refine h ⟨?_, fun h0 => rises_at ((risesB_iff L).1 h1) (by omega) hj⟩
  rw [getD_rw L j hj]
  exact List.all_eq_true.1 h2 _ (List.getElem_mem hj)
theorem ok_step {L : List Rw} {k : Nat} (h : ∀ j, j < k → okAt L j) (hk : okAt L k) : ∀ j, j < k + 1 → okAt L j := fun j hj => by
  by_cases e : j = k
  · subst e; exact hk
  · exact h j (by omega)
set_option maxRecDepth 100000 in
set_option maxHeartbeats 8000000 in
theorem is_any (c : Cfg) (v : Value) (L : List Rw) (hf : RwsFit L) (w : World) (hv : Sl w v L.length (rwCells L)) : Calls Tryd.prog 18 #[c.v, v] w
    fun e w' => e = .returned (.bool (rulesIs c L)) ∧ Ext w w' := by
  have HF := Lib.hid hf
  clear hf
  obtain ⟨ad, cap, rfl, hs⟩ := hv
  have hm := hs.len
  have HS := Lib.hid hs
  clear hs
  obtain ⟨R, hR⟩ : ∃ R, rulesIs c L = R := ⟨_, rfl⟩
  rw [hR]
  unfold rulesIs at hR
  cases hp : (partOk c && (c.object == 3))
  · have HC := Lib.hid hp
    have HR : Hid (false = R) := Lib.hid (by rw [← hR, hp]; rfl)
    clear hp hR
    go_enter Tryd.func18, Tryd.ntmps18
    go_wp2_with (go_at_call 32; refine (of_any c _).mono ?_; rintro e w1 ⟨rfl, os1, n1, rfl⟩; rw [HC.out])
    go_ret
    exact ⟨by rw [← HR.out] <;> rfl, (by repeat (first | with_reducible exact Ext.refl _ | with_reducible assumption | with_reducible refine Ext.alloc ?_ _ | with_reducible refine Ext.gr ?_ _ | with_reducible refine Ext.drewN ?_ _ | with_reducible refine Ext.drew ?_ | with_reducible refine Ext.setCell ?_ ?_ _ | with_reducible refine Ext.more ?_ _ _ | (show _ ≤ _; dsimp only; omega)))⟩
  · have HC := Lib.hid hp
    rw [hp] at hR
    clear hp
    by_cases h2 : (L.length : Int) ≤ c.cap
    · have h2' : ¬ c.cap < (L.length : Int) := by omega
      simp only [h2, decide_true, Bool.and_true, Bool.true_and] at hR
      have HR : Hid ((risesB L && L.all ruleB) = R) := Lib.hid hR
      clear hR
      go_enter Tryd.func18, Tryd.ntmps18
      go_wp2_with (go_at_call 32; refine (of_any c _).mono ?_; rintro e w1 ⟨rfl, os1, n1, rfl⟩; rw [HC.out])
      go_loopw [5, 6, 19] (fun _ _ i wr => ∃ k : Nat, k ≤ L.length ∧ i = .int .i64 k ∧ Ext w wr ∧ Hid (∀ j, j < k → okAt L j)) (fun _ _ i _ => L.length - (intOf i).toNat)
      case atStart => exact ⟨0, Nat.zero_le _, rfl, (by repeat (first | with_reducible exact Ext.refl _ | with_reducible assumption | with_reducible refine Ext.alloc ?_ _ | with_reducible refine Ext.gr ?_ _ | with_reducible refine Ext.drewN ?_ _ | with_reducible refine Ext.drew ?_ | with_reducible refine Ext.setCell ?_ ?_ _ | with_reducible refine Ext.more ?_ _ _ | (show _ ≤ _; dsimp only; omega))), Lib.hid fun j hj => absurd hj (Nat.not_lt_zero _)⟩
      case round =>
        obtain ⟨k, hk, rfl, he, HT⟩ := hrel
        have HE := Lib.hid he
        clear he
        by_cases hlt : k < L.length
        · obtain ⟨b, o, rfl, hbl, r1, r2⟩ := (HS.out.ext HE.out).rw hlt
          obtain ⟨x, hx⟩ : ∃ x, L.getD k zrw = x := ⟨_, rfl⟩
          rw [hx] at r1 r2
          have hk0 := (HF.out.get k).k
          rw [hx] at hk0
          have HX := Lib.hid hx
          have i0 : (0 : Int) ≤ (k : Int) := by omega
          have i1 : (k : Int) < (L.length : Int) := by omega
          clear hx
          have hbad : (¬ (x.k < 4294967296 ∧ 1 ≤ x.v ∧ x.v ≤ 2)) → Hid (false = R) := fun hb => Lib.hid (by
            rw [← HR.out]
            refine (ok_not hlt fun h => hb ?_).symm
            have := h.1
            rw [HX.out] at this
            simp [ruleB] at this
            omega)
          have HBAD := Lib.hid hbad
          clear hbad
          by_cases h5 : 4294967296 ≤ x.k
          · have HR2 := HBAD.out (by omega)
            go_wp2
            (refine wp_region_ext_lit (by kernel_rfl) (by kernel_rfl) ?_); (repeat (go_big_quiet_step (fail))); (refine wpQuiet_nil ?_; intro _ hw'; obtain ⟨⟨osq, nq⟩, hw''⟩ := hw'; replace hw'' : _ = grew _ osq nq := hw''; subst hw'')
            go_wp2
            go_ret
            exact ⟨by rw [← HR2.out] <;> rfl, HE.out.trans (by repeat (first | with_reducible exact Ext.refl _ | with_reducible assumption | with_reducible refine Ext.alloc ?_ _ | with_reducible refine Ext.gr ?_ _ | with_reducible refine Ext.drewN ?_ _ | with_reducible refine Ext.drew ?_ | with_reducible refine Ext.setCell ?_ ?_ _ | with_reducible refine Ext.more ?_ _ _ | (show _ ≤ _; dsimp only; omega)))⟩
          · have g5 : decide (4294967296 ≤ x.k) = false := by simp; omega
            by_cases h6 : x.v < 1
            · have HR2 := HBAD.out (by omega)
              go_wp2
              (refine wp_region_ext_lit (by kernel_rfl) (by kernel_rfl) ?_); (repeat (go_big_quiet_step (fail))); (refine wpQuiet_nil ?_; intro _ hw'; obtain ⟨⟨osq, nq⟩, hw''⟩ := hw'; replace hw'' : _ = grew _ osq nq := hw''; subst hw'')
              go_wp2
              go_ret
              exact ⟨by rw [← HR2.out] <;> rfl, HE.out.trans (by repeat (first | with_reducible exact Ext.refl _ | with_reducible assumption | with_reducible refine Ext.alloc ?_ _ | with_reducible refine Ext.gr ?_ _ | with_reducible refine Ext.drewN ?_ _ | with_reducible refine Ext.drew ?_ | with_reducible refine Ext.setCell ?_ ?_ _ | with_reducible refine Ext.more ?_ _ _ | (show _ ≤ _; dsimp only; omega)))⟩
            · have g6 : decide (x.v < 1) = false := by simp; omega
              by_cases h7 : 2 < x.v
              · have HR2 := HBAD.out (by omega)
                go_wp2
                (refine wp_region_ext_lit (by kernel_rfl) (by kernel_rfl) ?_); (repeat (go_big_quiet_step (fail))); (refine wpQuiet_nil ?_; intro _ hw'; obtain ⟨⟨osq, nq⟩, hw''⟩ := hw'; replace hw'' : _ = grew _ osq nq := hw''; subst hw'')
                go_wp2
                go_ret
                exact ⟨by rw [← HR2.out] <;> rfl, HE.out.trans (by repeat (first | with_reducible exact Ext.refl _ | with_reducible assumption | with_reducible refine Ext.alloc ?_ _ | with_reducible refine Ext.gr ?_ _ | with_reducible refine Ext.drewN ?_ _ | with_reducible refine Ext.drew ?_ | with_reducible refine Ext.setCell ?_ ?_ _ | with_reducible refine Ext.more ?_ _ _ | (show _ ≤ _; dsimp only; omega)))⟩
              · have g7 : decide (2 < x.v) = false := by simp; omega
                have hrb : ruleB x = true := by simp [ruleB]; omega
                by_cases h8 : k = 0
                · have HT2 : Hid (∀ j, j < k + 1 → okAt L j) := Lib.hid (ok_step HT.out ⟨by rw [HX.out]; exact hrb, fun h => by omega⟩)
                  have g8 : decide ((0 : Int) < (k : Int)) = false := by simp; omega
                  have g8n : decide (0 < k) = false := by simp; omega
                  clear hrb h8
                  go_wp2
                  (refine wp_region_ext_lit (by kernel_rfl) (by kernel_rfl) ?_); (repeat (go_big_quiet_step (fail))); (refine wpQuiet_nil ?_; intro _ hw'; obtain ⟨⟨osq, nq⟩, hw''⟩ := hw'; replace hw'' : _ = grew _ osq nq := hw''; subst hw'')
                  go_wp2
                  go_roundw
                  case rel => exact ⟨k + 1, by omega, by go_num, HE.out.trans (by repeat (first | with_reducible exact Ext.refl _ | with_reducible assumption | with_reducible refine Ext.alloc ?_ _ | with_reducible refine Ext.gr ?_ _ | with_reducible refine Ext.drewN ?_ _ | with_reducible refine Ext.drew ?_ | with_reducible refine Ext.setCell ?_ ?_ _ | with_reducible refine Ext.more ?_ _ _ | (show _ ≤ _; dsimp only; omega))), HT2⟩
                  case measure => simp [intOf]; omega
                · obtain ⟨j, rfl⟩ : ∃ j, k = j + 1 := ⟨k - 1, by omega⟩
                  obtain ⟨b', o', e2, _, s1, s2⟩ := (HS.out.ext HE.out).rw (i := j) (by omega)
                  cases e2
                  obtain ⟨y, hy⟩ : ∃ y, L.getD j zrw = y := ⟨_, rfl⟩
                  rw [hy] at s1 s2
                  have HY := Lib.hid hy
                  have i3 : (0 : Int) ≤ (j : Int) := by omega
                  have i4 : (j : Int) < (L.length : Int) := by omega
                  have i2 : IntKind.i64.wrap (((j + 1 : Nat) : Int) - 1) = (j : Int) := by rw [IntKind.wrap_i64]; omega
                  have i5 : (0 : Int) < ((j + 1 : Nat) : Int) := by omega
                  have g8 : decide ((0 : Int) < ((j + 1 : Nat) : Int)) = true := decide_eq_true i5
                  clear hy s2
                  by_cases h9 : x.k ≤ y.k
                  · have HR2 : Hid (false = R) := Lib.hid (by
                      rw [← HR.out]
                      refine (ok_not hlt fun h => ?_).symm
                      have := h.2 (by omega)
                      rw [Nat.add_sub_cancel, HX.out, HY.out] at this
                      omega)
                    clear hrb
                    go_wp2
                    (refine wp_region_ext_lit (by kernel_rfl) (by kernel_rfl) ?_); (repeat (go_big_quiet_step (fail))); (refine wpQuiet_nil ?_; intro _ hw'; obtain ⟨⟨osq, nq⟩, hw''⟩ := hw'; replace hw'' : _ = grew _ osq nq := hw''; subst hw'')
                    go_wp2
                    go_ret
                    exact ⟨by rw [← HR2.out] <;> rfl, HE.out.trans (by repeat (first | with_reducible exact Ext.refl _ | with_reducible assumption | with_reducible refine Ext.alloc ?_ _ | with_reducible refine Ext.gr ?_ _ | with_reducible refine Ext.drewN ?_ _ | with_reducible refine Ext.drew ?_ | with_reducible refine Ext.setCell ?_ ?_ _ | with_reducible refine Ext.more ?_ _ _ | (show _ ≤ _; dsimp only; omega)))⟩
                  · have g9 : decide (x.k ≤ y.k) = false := by simp; omega
                    have HT2 : Hid (∀ i, i < j + 1 + 1 → okAt L i) := Lib.hid (ok_step HT.out ⟨by rw [HX.out]; exact hrb, fun _ => by rw [Nat.add_sub_cancel, HX.out, HY.out]; omega⟩)
                    clear hrb
                    go_wp2
                    (refine wp_region_ext_lit (by kernel_rfl) (by kernel_rfl) ?_); (repeat (go_big_quiet_step (fail))); (refine wpQuiet_nil ?_; intro _ hw'; obtain ⟨⟨osq, nq⟩, hw''⟩ := hw'; replace hw'' : _ = grew _ osq nq := hw''; subst hw'')
                    go_wp2
                    go_roundw
                    case rel => exact ⟨j + 1 + 1, by omega, by go_num, HE.out.trans (by repeat (first | with_reducible exact Ext.refl _ | with_reducible assumption | with_reducible refine Ext.alloc ?_ _ | with_reducible refine Ext.gr ?_ _ | with_reducible refine Ext.drewN ?_ _ | with_reducible refine Ext.drew ?_ | with_reducible refine Ext.setCell ?_ ?_ _ | with_reducible refine Ext.more ?_ _ _ | (show _ ≤ _; dsimp only; omega))), HT2⟩
                    case measure => simp [intOf]; omega
        · obtain rfl : k = L.length := by omega
          have HR2 : Hid (true = R) := Lib.hid (by rw [← HR.out]; exact (ok_all HT.out).symm)
          go_wp2
          go_ret
          exact ⟨by rw [← HR2.out] <;> rfl, HE.out⟩
    · have h2' : c.cap < (L.length : Int) := by omega
      have HR : Hid (false = R) := Lib.hid (by rw [← hR]; simp [h2])
      clear hR
      go_enter Tryd.func18, Tryd.ntmps18
      go_wp2_with (go_at_call 32; refine (of_any c _).mono ?_; rintro e w1 ⟨rfl, os1, n1, rfl⟩; rw [HC.out])
      go_ret
      exact ⟨by rw [← HR.out] <;> rfl, (by repeat (first | with_reducible exact Ext.refl _ | with_reducible assumption | with_reducible refine Ext.alloc ?_ _ | with_reducible refine Ext.gr ?_ _ | with_reducible refine Ext.drewN ?_ _ | with_reducible refine Ext.drew ?_ | with_reducible refine Ext.setCell ?_ ?_ _ | with_reducible refine Ext.more ?_ _ _ | (show _ ≤ _; dsimp only; omega)))⟩
end Go.Proofs.YtaijkpfgnlkppaaDoor.rules
