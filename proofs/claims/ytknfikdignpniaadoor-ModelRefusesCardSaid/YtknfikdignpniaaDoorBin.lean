/- 'slices.BinarySearchFunc' at rows by key, as 'table.find' calls it. -/
import Derived.Test.YtknfikdignpniaaDoorRws
import Derived.Test.YtknfikdignpniaaDoorPosP
import Derived.Test.YtknfikdignpniaaDoorRef6
import Derived.Deep.LoopGhost
import Derived.Deep.QuietTactic
import Derived.BigQuiet
namespace Go.Proofs.YtknfikdignpniaaDoor
open Go Go.RowKit
set_option maxRecDepth 100000
set_option maxHeartbeats 8000000

def cmpI (x y : Int) : Int := if x < y then -1 else if y < x then 1 else 0
theorem cmpI_ge {x q : Int} (h : ¬ x < q) : ¬ cmpI x q < 0 := by
  unfold cmpI
  rw [if_neg h]
  split <;> omega
theorem cmp_any (x y : Int) (w : World) : Calls Tryd.prog 48 #[.int .u64 x, .int .u64 y] w fun e w' => e = .returned (.int .i64 (cmpI x y)) ∧ Ext w w' := by
  unfold cmpI
  by_cases h1 : x < y
  · have h2 : ¬ y < x := by omega
    go_enter Tryd.func48, Tryd.ntmps48
    go_wp2_with go_in
    go_ret
    exact ⟨by simp, EX⟩
  · by_cases h2 : y < x
    · go_enter Tryd.func48, Tryd.ntmps48
      go_wp2_with go_in
      go_ret
      exact ⟨by simp, EX⟩
    · go_enter Tryd.func48, Tryd.ntmps48
      go_wp2_with go_in
      go_ret
      exact ⟨by simp, EX⟩
theorem cl34_any (x : Rw) (q : Int) (w : World) : Calls Tryd.prog 47 #[x.val, .int .u64 q] w fun e w' => e = .returned (.int .i64 (cmpI x.k q)) ∧ Ext w w' := by
  go_enter Tryd.func47, Tryd.ntmps47
  go_wp2_with (go_at_call 48; refine (cmp_any _ _ _).mono ?_; rintro e w1 ⟨rfl, os1, n1, rfl⟩)
  go_ret
  exact ⟨rfl, EX⟩
/-- Where a key stands among rows whose keys rise, or would. -/
structure At (L : List Rw) (q : Int) (i : Nat) : Prop where
  le : i ≤ L.length
  lo : ∀ j, j < i → (L.getD j zrw).k < q
  hi : ∀ j, i ≤ j → j < L.length → q ≤ (L.getD j zrw).k
theorem rises_lt {L : List Rw} (hr : Rises L) {i j : Nat} (h : i < j) (hj : j < L.length) : (L.getD i zrw).k < (L.getD j zrw).k := by
  rw [getD_rw L i (by omega), getD_rw L j hj]
  exact List.pairwise_iff_getElem.1 hr i j (by omega) hj h
theorem bin_any (v : Value) (L : List Rw) (q : Int) (hr : Rises L) (hn : L.length ≤ 1000000) (w : World) (hv : Sl w v L.length (rwCells L)) :
    Calls Tryd.prog 46 #[v, .int .u64 q, .func (.func 47) #[] #[]] w
    fun e w' => (∃ i : Nat, e = .returned (.tuple #[.int .i64 i, .bool (decide (i < L.length) && decide ((L.getD i zrw).k = q))]) ∧ At L q i) ∧ Ext w w' := by
  obtain ⟨ad, cap, rfl, hv⟩ := hv
  have hm := hv.len
  have HV := Lib.hid hv
  have HR := Lib.hid hr
  clear hv hr
  go_enter Tryd.func46, Tryd.ntmps46
  go_wp2
  go_loopw [9, 10] (fun a b wr => ∃ lo hi : Nat, lo ≤ hi ∧ hi ≤ L.length ∧ a = .int .i64 lo ∧ b = .int .i64 hi ∧ Hid (Ext w wr) ∧ Hid (∀ j, j < lo → (L.getD j zrw).k < q) ∧ Hid (∀ j, hi ≤ j → j < L.length → q ≤ (L.getD j zrw).k)) (fun a b _ => (intOf b).toNat - (intOf a).toNat)
  case atStart => exact ⟨0, L.length, Nat.zero_le _, Nat.le_refl _, rfl, rfl, Lib.hid (Ext.refl _), Lib.hid fun j hj => absurd hj (Nat.not_lt_zero _), Lib.hid fun j hj hj2 => absurd hj2 (Nat.not_lt.2 hj)⟩
  case round =>
    obtain ⟨lo, hi, h1, h2, rfl, rfl, HE, HA, HB⟩ := hrel
    by_cases hlt : lo < hi
    · have hm2 : lo ≤ (lo + hi) / 2 := by omega
      have hm3 : (lo + hi) / 2 < hi := by omega
      obtain ⟨b, o, rfl, _, r1, r2⟩ := (HV.out.ext HE.out).rw (show (lo + hi) / 2 < L.length by omega)
      obtain ⟨x, hx⟩ : ∃ x, L.getD ((lo + hi) / 2) zrw = x := ⟨_, rfl⟩
      rw [hx] at r1 r2
      have HX := Lib.hid hx
      have i0 : (0 : Int) ≤ ((lo : Int) + (hi : Int)) / 2 := by omega
      have i1 : ((lo : Int) + (hi : Int)) / 2 < (L.length : Int) := by omega
      have i2 : (lo : Int) < (hi : Int) := by omega
      clear hx
      by_cases hc : x.k < q
      · have hq : cmpI x.k q = -1 := by simp [cmpI, hc]
        have HQ := Lib.hid hq
        have HA2 : Hid (∀ j, j < (lo + hi) / 2 + 1 → (L.getD j zrw).k < q) := Lib.hid fun j hj => by
          by_cases e : j = (lo + hi) / 2
          · rw [e, HX.out]
            exact hc
          · have h5 := rises_lt HR.out (i := j) (j := (lo + hi) / 2) (by omega) (by omega)
            rw [HX.out] at h5
            omega
        clear hq hc
        go_wp2_with (go_at_call 47; refine (cl34_any x q _).mono ?_; rintro e w1 ⟨rfl, os1, n1, rfl⟩; rw [HQ.out])
        go_roundw
        case rel => exact ⟨(lo + hi) / 2 + 1, hi, by omega, h2, by first | go_num | (congr 1; omega), rfl, Lib.hid (HE.out.trans EX), HA2, HB⟩
        case measure => simp [intOf]; omega
      · obtain ⟨Q, hq, h0⟩ : ∃ Q, cmpI x.k q = Q ∧ ¬ Q < 0 := ⟨_, rfl, cmpI_ge hc⟩
        have HQ := Lib.hid hq
        have HB2 : Hid (∀ j, (lo + hi) / 2 ≤ j → j < L.length → q ≤ (L.getD j zrw).k) := Lib.hid fun j hj hj2 => by
          by_cases e : j = (lo + hi) / 2
          · rw [e, HX.out]
            omega
          · have h5 := rises_lt HR.out (i := (lo + hi) / 2) (j := j) (by omega) hj2
            rw [HX.out] at h5
            omega
        clear hq hc
        go_wp2_with (go_at_call 47; refine (cl34_any x q _).mono ?_; rintro e w1 ⟨rfl, os1, n1, rfl⟩; rw [HQ.out])
        go_roundw
        case rel => exact ⟨lo, (lo + hi) / 2, by omega, by omega, rfl, by first | go_num | (congr 1; omega), Lib.hid (HE.out.trans EX), HA, HB2⟩
        case measure => simp [intOf]; omega
    · obtain rfl : lo = hi := by omega
      have HP : Hid (At L q lo) := Lib.hid ⟨h2, HA.out, HB.out⟩
      have i2 : ¬ (lo : Int) < (lo : Int) := by omega
      by_cases hn2 : lo < L.length
      · obtain ⟨b, o, rfl, _, r1, r2⟩ := (HV.out.ext HE.out).rw hn2
        obtain ⟨x, hx⟩ : ∃ x, L.getD lo zrw = x := ⟨_, rfl⟩
        rw [hx] at r1 r2
        have HX := Lib.hid hx
        have i0 : (0 : Int) ≤ (lo : Int) := by omega
        have i1 : (lo : Int) < (L.length : Int) := by omega
        by_cases hc : x.k = q
        · have HQ : Hid (cmpI x.k q = 0) := Lib.hid (by simp [cmpI, hc])
          have HC := Lib.hid hc
          clear hx hc
          go_wp2_with (go_at_call 47; refine (cl34_any x q _).mono ?_; rintro e w1 ⟨rfl, os1, n1, rfl⟩; rw [HQ.out])
          refine bodyPost_ret (v := (.tuple #[.int .i64 lo, .bool true])) (by simp [results, Tryd.results46, go_sem]) rfl ?_
          exact ⟨⟨lo, by rw [HX.out, HC.out]; simp [hn2], HP.out⟩, HE.out.trans EX⟩
        · have h5 := HB.out lo (Nat.le_refl _) hn2
          rw [HX.out] at h5
          have HQ : Hid (cmpI x.k q = 1) := Lib.hid (by unfold cmpI; rw [if_neg (by omega), if_pos (by omega)])
          have HC := Lib.hid hc
          clear hx hc h5
          go_wp2_with (go_at_call 47; refine (cl34_any x q _).mono ?_; rintro e w1 ⟨rfl, os1, n1, rfl⟩; rw [HQ.out])
          refine bodyPost_ret (v := (.tuple #[.int .i64 lo, .bool false])) (by simp [results, Tryd.results46, go_sem]) rfl ?_
          exact ⟨⟨lo, by rw [HX.out]; simp [HC.out], HP.out⟩, HE.out.trans EX⟩
      · obtain rfl : lo = L.length := by omega
        go_wp2
        refine bodyPost_ret (v := (.tuple #[.int .i64 L.length, .bool false])) (by simp [results, Tryd.results46, go_sem]) rfl ?_
        exact ⟨⟨L.length, by simp, HP.out⟩, HE.out.trans EX⟩
end Go.Proofs.YtknfikdignpniaaDoor
