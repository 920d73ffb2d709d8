/- The walks of the document's functions on rows (layer 6): 'SameRows', 'Rise', 'Find', 'Copy', 'With', 'Without'. -/
import Derived.Test.YtkklhhdkokncnaaDoorProg
import Derived.Test.YtkklhhdkokncnaaDoorA5
import Derived.Lib.Hide
import Derived.Deep.Light
import Derived.LoopTactic
namespace Go.Proofs.YtkklhhdkokncnaaDoor
open Go Go.RowKit
set_option maxRecDepth 100000
set_option maxHeartbeats 8000000

/-- A row's two words, as facts for a walk. -/
theorem take_succ_eq {A B : List Rw} {k : Nat} (h1 : k < A.length) (h2 : k < B.length) (h : A.take k = B.take k) (hk : A.getD k zrw = B.getD k zrw) : A.take (k + 1) = B.take (k + 1) := by
  rw [List.take_add_one, List.take_add_one, h, List.getElem?_eq_getElem h1, List.getElem?_eq_getElem h2]
  rw [getD_rw A k h1, getD_rw B k h2] at hk
  rw [hk]

theorem sameRows_any (v u : Value) (A B : List Rw) (w : World) (hv : Sl w v A.length (rwCells A)) (hu : Sl w u B.length (rwCells B)) : Calls Tryd.prog 37 #[v, u] w
    fun e w' => e = .returned (.bool (decide (A = B))) ∧ Ext w w' := by
  obtain ⟨ad, cap, rfl, hv⟩ := hv
  obtain ⟨ad2, cap2, rfl, hu⟩ := hu
  have hm := hv.len
  have hm2 := hu.len
  have HV := Lib.hid hv
  have HU := Lib.hid hu
  clear hv hu
  obtain ⟨R, hR⟩ : ∃ R, decide (A = B) = R := ⟨_, rfl⟩
  rw [hR]
  have HR := Lib.hid hR
  clear hR
  go_enter Tryd.func37, Tryd.ntmps37
  by_cases hl : A.length = B.length
  · have hl2 : (A.length : Int) = (B.length : Int) := by omega
    go_wp2
    go_loopw [5] (fun i wr => ∃ k : Nat, k ≤ A.length ∧ i = .int .i64 k ∧ Ext w wr ∧ Hid (A.take k = B.take k)) (fun i _ => A.length - (intOf i).toNat)
    case atStart => exact ⟨0, Nat.zero_le _, rfl, Ext.refl _, Lib.hid rfl⟩
    case round =>
      obtain ⟨k, hk, rfl, he, HT⟩ := hrel
      have HE := Lib.hid he
      clear he
      by_cases hlt : k < A.length
      · obtain ⟨b, o, rfl, _, r1, r2⟩ := (HV.out.ext HE.out).rw hlt
        obtain ⟨b2, o2, rfl, _, s1, s2⟩ := (HU.out.ext HE.out).rw (i := k) (by omega)
        obtain ⟨x, hx⟩ : ∃ x, A.getD k zrw = x := ⟨_, rfl⟩
        obtain ⟨y, hy⟩ : ∃ y, B.getD k zrw = y := ⟨_, rfl⟩
        rw [hx] at r1 r2
        rw [hy] at s1 s2
        have HX := Lib.hid hx
        have HY := Lib.hid hy
        have i0 : (0 : Int) ≤ (k : Int) := by omega
        have i1 : (k : Int) < (A.length : Int) := by omega
        have i2 : (k : Int) < (B.length : Int) := by omega
        clear hx hy
        cases h1 : (x.k == y.k)
        · have h1' : (x.k != y.k) = true := by simpa [bne] using h1
          have HR2 : Hid (R = false) := Lib.hid (by
            rw [← HR.out]
            simp
            intro e
            subst e
            rw [HX.out] at HY
            have := HY.out
            subst this
            simp at h1)
          go_wp2
          (refine wp_region_ext_lit (by kernel_rfl) (by kernel_rfl) ?_); (repeat (go_big_quiet_step (fail))); (refine wpQuiet_nil ?_; intro _ hw'; obtain ⟨⟨osq, nq⟩, hw''⟩ := hw'; replace hw'' : _ = grew _ osq nq := hw''; subst hw'')
          go_wp2
          go_ret
          exact ⟨by rw [HR2.out] <;> rfl, HE.out.trans EX⟩
        · have h1' : (x.k != y.k) = false := by simpa [bne] using h1
          cases h2 : (x.v == y.v)
          · have h2' : (x.v != y.v) = true := by simpa [bne] using h2
            have HR2 : Hid (R = false) := Lib.hid (by
              rw [← HR.out]
              simp
              intro e
              subst e
              rw [HX.out] at HY
              have := HY.out
              subst this
              simp at h2)
            go_wp2
            (refine wp_region_ext_lit (by kernel_rfl) (by kernel_rfl) ?_); (repeat (go_big_quiet_step (fail))); (refine wpQuiet_nil ?_; intro _ hw'; obtain ⟨⟨osq, nq⟩, hw''⟩ := hw'; replace hw'' : _ = grew _ osq nq := hw''; subst hw'')
            go_wp2
            go_ret
            exact ⟨by rw [HR2.out] <;> rfl, HE.out.trans EX⟩
          · have h2' : (x.v != y.v) = false := by simpa [bne] using h2
            have HXY : Hid (x = y) := Lib.hid (by cases x; cases y; simp at h1 h2; rw [h1, h2])
            go_wp2
            (refine wp_region_ext_lit (by kernel_rfl) (by kernel_rfl) ?_); (repeat (go_big_quiet_step (fail))); (refine wpQuiet_nil ?_; intro _ hw'; obtain ⟨⟨osq, nq⟩, hw''⟩ := hw'; replace hw'' : _ = grew _ osq nq := hw''; subst hw'')
            go_wp2
            go_roundw
            case rel => exact ⟨k + 1, by omega, by go_num, HE.out.trans EX, Lib.hid (take_succ_eq hlt (by omega) HT.out (by rw [HX.out, HY.out, HXY.out]))⟩
            case measure => simp [intOf]; omega
      · obtain rfl : k = A.length := by omega
        have HR2 : Hid (R = true) := Lib.hid (by
          rw [← HR.out]
          simp
          have := HT.out
          rwa [List.take_length, hl, List.take_length] at this)
        go_wp2
        go_ret
        exact ⟨by rw [HR2.out] <;> rfl, HE.out⟩
  · have hl2 : ¬ (A.length : Int) = (B.length : Int) := by omega
    have HR2 : Hid (R = false) := Lib.hid (by
      rw [← HR.out]
      simp
      intro e
      rw [e] at hl
      exact hl rfl)
    go_wp2
    go_ret
    exact ⟨by rw [HR2.out] <;> rfl, Ext.refl _⟩

theorem find_any (v : Value) (A : List Rw) (q : Int) (w : World) (hv : Sl w v A.length (rwCells A)) : Calls Tryd.prog 19 #[v, .int .u64 q] w
    fun e w' => e = .returned (.int .i64 (findK A q)) ∧ Ext w w' := by
  obtain ⟨ad, cap, rfl, hv⟩ := hv
  have hm := hv.len
  have HV := Lib.hid hv
  clear hv
  obtain ⟨R, hR⟩ : ∃ R, findK A q = R := ⟨_, rfl⟩
  rw [hR]
  have HR := Lib.hid hR
  clear hR
  go_enter Tryd.func19, Tryd.ntmps19
  go_wp2
  go_loopw [5] (fun i wr => ∃ k : Nat, k ≤ A.length ∧ i = .int .i64 k ∧ Ext w wr ∧ Hid (∀ j, j < k → ¬ (A.getD j zrw).k = q)) (fun i _ => A.length - (intOf i).toNat)
  case atStart => exact ⟨0, Nat.zero_le _, rfl, Ext.refl _, Lib.hid fun j hj => absurd hj (Nat.not_lt_zero _)⟩
  case round =>
    obtain ⟨k, hk, rfl, he, HT⟩ := hrel
    have HE := Lib.hid he
    clear he
    by_cases hlt : k < A.length
    · obtain ⟨b, o, rfl, _, r1, r2⟩ := (HV.out.ext HE.out).rw hlt
      obtain ⟨x, hx⟩ : ∃ x, A.getD k zrw = x := ⟨_, rfl⟩
      rw [hx] at r1 r2
      have HX := Lib.hid hx
      have i0 : (0 : Int) ≤ (k : Int) := by omega
      have i1 : (k : Int) < (A.length : Int) := by omega
      clear hx
      cases h1 : (x.k == q)
      · have HT2 : Hid (∀ j, j < k + 1 → ¬ (A.getD j zrw).k = q) := Lib.hid (by
          intro j hj
          by_cases e : j = k
          · subst e; rw [HX.out]; simpa using h1
          · exact HT.out j (by omega))
        go_wp2
        go_roundw
        case rel => exact ⟨k + 1, by omega, by go_num, HE.out.trans EX, HT2⟩
        case measure => simp [intOf]; omega
      · have HR2 : Hid ((k : Int) = R) := Lib.hid (by
          rw [← HR.out]
          exact (findK_hit hlt (by rw [HX.out]; simpa using h1) HT.out).symm)
        go_wp2
        go_ret
        exact ⟨by rw [HR2.out] <;> rfl, HE.out.trans EX⟩
    · obtain rfl : k = A.length := by omega
      have HR2 : Hid (-1 = R) := Lib.hid (by
        rw [← HR.out]
        exact (findK_miss HT.out).symm)
      go_wp2
      go_ret
      exact ⟨by rw [HR2.out] <;> rfl, HE.out⟩

end Go.Proofs.YtkklhhdkokncnaaDoor
/- The walks of the document's functions that make rows (layer 6): 'Copy', 'Without', 'With'; and of 'slices.Clone'. -/
namespace Go.Proofs.YtkklhhdkokncnaaDoor
open Go Go.RowKit
set_option maxRecDepth 100000
set_option maxHeartbeats 8000000

theorem info_row : (Tryd.prog.info? 39).map (fun i => (i.zero, i.size, i.bytes)) = some (some (.agg #[.int .u64 0, .int .u64 0]), 2, 16) := by kernel_rfl

theorem clone_any (v : Value) (L : List Rw) (hl : L.length ≤ 10000) (w : World) (hv : Rws w v L) : Calls Tryd.prog 45 #[v] w
    fun e w' => ∃ r, e = .returned r ∧ w'.ownsRow w.heap.size 39 2 r (L).length (rwCells (L)) ∧ Ext w w' := by
  obtain ⟨ad, cap, rfl, hs, hn⟩ := hv
  have q25 : ∀ (w : World) (a : Option Addr) (n c n' c' : Nat), (binOp .eql 47 (.slice a n c) (.slice none n' c')).run Tryd.prog w = .ok (.bool a.isNone) w := fun w a n c n' c' => Lib.run_eql_slice_nil w _ _ a n c n' c' Tryd.underlying47
  cases ad with
  | none =>
    obtain rfl := hn rfl
    obtain rfl : L = [] := by
      rcases hs.2.2 with ⟨h1, _⟩ | ⟨b, o, h1, _⟩
      · exact List.length_eq_zero_iff.1 h1
      · cases h1
    go_enter Tryd.func45, Tryd.ntmps45
    go_wp2
    go_ret
    exact ⟨_, rfl, World.ownsRow_nil _ _ _ _, Ext.refl _⟩
  | some ad =>
    have HV := Lib.hid (show Rws w (.slice (some ad) L.length cap) L from ⟨_, _, rfl, hs, hn⟩)
    clear hs hn
    obtain ⟨v, hv⟩ : ∃ v, v = Value.slice (some ad) L.length cap := ⟨_, rfl⟩
    rw [← hv] at HV
    obtain ⟨ti, HI1, HI2, HI3, HI4⟩ := info_parts info_row; have HI := Lib.hid (And.intro HI1 (And.intro HI2 (And.intro HI3 HI4))); clear HI1 HI2 HI3 HI4
    go_enter Tryd.func45, Tryd.ntmps45
    subst hv
    go_wp2_with (at_builtin; refine wpList_append_rws rfl _ _ 47 rfl w.heap.size 39 ti Tryd.underlying47 HI.out.1 HI.out.2.1 HI.out.2.2.1 HI.out.2.2.2 _ 0 [] rfl (World.ownsRow_made w #[] 0 (Nat.le_refl _) (by decide) rfl) _ L (HV.out.ext EX) rfl (by omega) (by simp [go_sem]) ?_; intro v2 w2 hown2 hgrow2 hat2; have HO := Lib.hid hown2; have HG := Lib.hid hgrow2; clear hown2 hgrow2 hat2)
    go_wp2
    go_ret
    exact ⟨_, rfl, by simpa using HO.out, ext_grown EX HG.out (by intro k hk; cases hk; exact Nat.le_refl _)⟩

theorem rows_one {w : World} {b : Nat} {x : Rw} (h : RwAt w b 0 x) : ∀ (j : Nat) (u : Value), (rwCells [x])[j]? = some u → w.cell? ((⟨b, 0, none⟩ : Addr).add j) = some u := by
  intro j u hu
  match j, hu with
  | 0, hu => simp [rwCells, Rw.cells] at hu; subst hu; exact h.1
  | 1, hu => simp [rwCells, Rw.cells] at hu; subst hu; exact h.2
  | j + 2, hu => simp [rwCells, Rw.cells] at hu

end Go.Proofs.YtkklhhdkokncnaaDoor
