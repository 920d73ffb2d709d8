/- The walks of the document's functions on rows (layer 6): 'SameRows', 'Rise', 'Find', 'Copy', 'With', 'Without'. -/
import Derived.Test.YtknfikdignpniaaDoorProg
import Derived.Test.YtknfikdignpniaaDoorRws
import Derived.Lib.Hide
import Derived.Deep.Light
import Derived.LoopTactic
namespace Go.Proofs.YtknfikdignpniaaDoor
open Go Go.RowKit
set_option maxRecDepth 100000
set_option maxHeartbeats 8000000

/-- A row's two words, as facts for a walk. -/
theorem take_succ_eq {A B : List Rw} {k : Nat} (h1 : k < A.length) (h2 : k < B.length) (h : A.take k = B.take k) (hk : A.getD k zrw = B.getD k zrw) : A.take (k + 1) = B.take (k + 1) := by
  rw [List.take_add_one, List.take_add_one, h, List.getElem?_eq_getElem h1, List.getElem?_eq_getElem h2]
  rw [getD_rw A k h1, getD_rw B k h2] at hk
  rw [hk]

theorem sameRows_any (v u : Value) (A B : List Rw) (w : World) (hv : Sl w v A.length (rwCells A)) (hu : Sl w u B.length (rwCells B)) : Calls Tryd.prog 8 #[v, u] w
    fun e w' => e = .returned (.bool (decide (A = B))) ∧ Ext w w' := by
  obtain ⟨ad, cap, rfl, hv⟩ := hv
  obtain ⟨ad2, cap2, rfl, hu⟩ := hu
  have hm := hv.len
  have hm2 := hu.len
  have HV := Lib.hid hv
  have HU := Lib.hid hu
  clear hv hu
  obtain ⟨R, hR⟩ : ∃ R, decide (A = B) = R := ⟨_, rfl⟩
  rw [hR]
  have HR := Lib.hid hR
  clear hR
  go_enter Tryd.func8, Tryd.ntmps8
  by_cases hl : A.length = B.length
  · have hl2 : (A.length : Int) = (B.length : Int) := by omega
    go_wp2
    go_loopw [5] (fun i wr => ∃ k : Nat, k ≤ A.length ∧ i = .int .i64 k ∧ Ext w wr ∧ Hid (A.take k = B.take k)) (fun i _ => A.length - (intOf i).toNat)
    case atStart => exact ⟨0, Nat.zero_le _, rfl, Ext.refl _, Lib.hid rfl⟩
    case round =>
      obtain ⟨k, hk, rfl, he, HT⟩ := hrel
      have HE := Lib.hid he
      clear he
      by_cases hlt : k < A.length
      · obtain ⟨b, o, rfl, _, r1, r2⟩ := (HV.out.ext HE.out).rw hlt
        obtain ⟨b2, o2, rfl, _, s1, s2⟩ := (HU.out.ext HE.out).rw (i := k) (by omega)
        obtain ⟨x, hx⟩ : ∃ x, A.getD k zrw = x := ⟨_, rfl⟩
        obtain ⟨y, hy⟩ : ∃ y, B.getD k zrw = y := ⟨_, rfl⟩
        rw [hx] at r1 r2
        rw [hy] at s1 s2
        have HX := Lib.hid hx
        have HY := Lib.hid hy
        have i0 : (0 : Int) ≤ (k : Int) := by omega
        have i1 : (k : Int) < (A.length : Int) := by omega
        have i2 : (k : Int) < (B.length : Int) := by omega
        clear hx hy
        cases h1 : (x.k == y.k)
        · have h1' : (x.k != y.k) = true := by simpa [bne] using h1
          have HR2 : Hid (R = false) := Lib.hid (by
            rw [← HR.out]
            simp
            intro e
            subst e
            rw [HX.out] at HY
            have := HY.out
            subst this
            simp at h1)
          go_wp2
          (refine wp_region_ext_lit (by kernel_rfl) (by kernel_rfl) ?_); (repeat (go_big_quiet_step (fail))); (refine wpQuiet_nil ?_; intro _ hw'; obtain ⟨⟨osq, nq⟩, hw''⟩ := hw'; replace hw'' : _ = grew _ osq nq := hw''; subst hw'')
          go_wp2
          go_ret
          exact ⟨by rw [HR2.out] <;> rfl, HE.out.trans EX⟩
        · have h1' : (x.k != y.k) = false := by simpa [bne] using h1
          cases h2 : (x.v == y.v)
          · have h2' : (x.v != y.v) = true := by simpa [bne] using h2
            have HR2 : Hid (R = false) := Lib.hid (by
              rw [← HR.out]
              simp
              intro e
              subst e
              rw [HX.out] at HY
              have := HY.out
              subst this
              simp at h2)
            go_wp2
            (refine wp_region_ext_lit (by kernel_rfl) (by kernel_rfl) ?_); (repeat (go_big_quiet_step (fail))); (refine wpQuiet_nil ?_; intro _ hw'; obtain ⟨⟨osq, nq⟩, hw''⟩ := hw'; replace hw'' : _ = grew _ osq nq := hw''; subst hw'')
            go_wp2
            go_ret
            exact ⟨by rw [HR2.out] <;> rfl, HE.out.trans EX⟩
          · have h2' : (x.v != y.v) = false := by simpa [bne] using h2
            have HXY : Hid (x = y) := Lib.hid (by cases x; cases y; simp at h1 h2; rw [h1, h2])
            go_wp2
            (refine wp_region_ext_lit (by kernel_rfl) (by kernel_rfl) ?_); (repeat (go_big_quiet_step (fail))); (refine wpQuiet_nil ?_; intro _ hw'; obtain ⟨⟨osq, nq⟩, hw''⟩ := hw'; replace hw'' : _ = grew _ osq nq := hw''; subst hw'')
            go_wp2
            go_roundw
            case rel => exact ⟨k + 1, by omega, by go_num, HE.out.trans EX, Lib.hid (take_succ_eq hlt (by omega) HT.out (by rw [HX.out, HY.out, HXY.out]))⟩
            case measure => simp [intOf]; omega
      · obtain rfl : k = A.length := by omega
        have HR2 : Hid (R = true) := Lib.hid (by
          rw [← HR.out]
          simp
          have := HT.out
          rwa [List.take_length, hl, List.take_length] at this)
        go_wp2
        go_ret
        exact ⟨by rw [HR2.out] <;> rfl, HE.out⟩
  · have hl2 : ¬ (A.length : Int) = (B.length : Int) := by omega
    have HR2 : Hid (R = false) := Lib.hid (by
      rw [← HR.out]
      simp
      intro e
      rw [e] at hl
      exact hl rfl)
    go_wp2
    go_ret
    exact ⟨by rw [HR2.out] <;> rfl, Ext.refl _⟩

end Go.Proofs.YtknfikdignpniaaDoor
