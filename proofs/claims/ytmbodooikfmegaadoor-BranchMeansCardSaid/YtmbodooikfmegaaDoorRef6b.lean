/- The walks of the document's functions that make rows (layer 6): 'Copy', 'Without', 'With'; and of 'slices.Clone'. -/
import Derived.Test.YtmbodooikfmegaaDoorRef6
namespace Go.Proofs.YtmbodooikfmegaaDoor
open Go Go.RowKit
set_option maxRecDepth 100000
set_option maxHeartbeats 8000000

theorem info_row : (Tryd.prog.info? 88).map (fun i => (i.zero, i.size, i.bytes)) = some (some (.agg #[.int .u64 0, .int .u64 0]), 2, 16) := by kernel_rfl

theorem clone_any (v : Value) (L : List Rw) (hl : L.length ≤ 10000) (w : World) (hv : Rws w v L) : Calls Tryd.prog 38 #[v] w
    fun e w' => ∃ r, e = .returned r ∧ w'.ownsRow w.heap.size 88 2 r (L).length (rwCells (L)) ∧ Ext w w' := by
  obtain ⟨ad, cap, rfl, hs, hn⟩ := hv
  have q25 : ∀ (w : World) (a : Option Addr) (n c n' c' : Nat), (binOp .eql 49 (.slice a n c) (.slice none n' c')).run Tryd.prog w = .ok (.bool a.isNone) w := fun w a n c n' c' => Lib.run_eql_slice_nil w _ _ a n c n' c' Tryd.underlying49
  cases ad with
  | none =>
    obtain rfl := hn rfl
    obtain rfl : L = [] := by
      rcases hs.2.2 with ⟨h1, _⟩ | ⟨b, o, h1, _⟩
      · exact List.length_eq_zero_iff.1 h1
      · cases h1
    go_enter Tryd.func38, Tryd.ntmps38
    go_wp2
    go_ret
    exact ⟨_, rfl, World.ownsRow_nil _ _ _ _, Ext.refl _⟩
  | some ad =>
    have HV := Lib.hid (show Rws w (.slice (some ad) L.length cap) L from ⟨_, _, rfl, hs, hn⟩)
    clear hs hn
    obtain ⟨v, hv⟩ : ∃ v, v = Value.slice (some ad) L.length cap := ⟨_, rfl⟩
    rw [← hv] at HV
    obtain ⟨ti, HI1, HI2, HI3, HI4⟩ := info_parts info_row; have HI := Lib.hid (And.intro HI1 (And.intro HI2 (And.intro HI3 HI4))); clear HI1 HI2 HI3 HI4
    go_enter Tryd.func38, Tryd.ntmps38
    subst hv
    go_wp2_with (at_builtin; refine wpList_append_rws rfl _ _ 49 rfl w.heap.size 88 ti Tryd.underlying49 HI.out.1 HI.out.2.1 HI.out.2.2.1 HI.out.2.2.2 _ 0 [] rfl (World.ownsRow_made w #[] 0 (Nat.le_refl _) (by decide) rfl) _ L (HV.out.ext EX) rfl (by omega) (by simp [go_sem]) ?_; intro v2 w2 hown2 hgrow2 hat2; have HO := Lib.hid hown2; have HG := Lib.hid hgrow2; clear hown2 hgrow2 hat2)
    go_wp2
    go_ret
    exact ⟨_, rfl, by simpa using HO.out, ext_grown EX HG.out (by intro k hk; cases hk; exact Nat.le_refl _)⟩

theorem rows_one {w : World} {b : Nat} {x : Rw} (h : RwAt w b 0 x) : ∀ (j : Nat) (u : Value), (rwCells [x])[j]? = some u → w.cell? ((⟨b, 0, none⟩ : Addr).add j) = some u := by
  intro j u hu
  match j, hu with
  | 0, hu => simp [rwCells, Rw.cells] at hu; subst hu; exact h.1
  | 1, hu => simp [rwCells, Rw.cells] at hu; subst hu; exact h.2
  | j + 2, hu => simp [rwCells, Rw.cells] at hu

theorem with_any (v : Value) (A : List Rw) (hl : A.length ≤ 10000) (q u : Int) (w : World) (hv : Rws w v A) : Calls Tryd.prog 46 #[v, .int .u64 q, .int .u64 u] w
    fun e w' => ∃ r, e = .returned r ∧ w'.ownsRow w.heap.size 88 2 r (withF q u false A).length (rwCells (withF q u false A)) ∧ Ext w w' := by
  obtain ⟨ad, cap, rfl, hv, _⟩ := hv
  have hm := hv.len
  have HV := Lib.hid hv
  clear hv
  obtain ⟨ti, HI1, HI2, HI3, HI4⟩ := info_parts info_row; have HI := Lib.hid (And.intro HI1 (And.intro HI2 (And.intro HI3 HI4))); clear HI1 HI2 HI3 HI4
  obtain ⟨R, hR⟩ : ∃ R, withF q u false A = R := ⟨_, rfl⟩
  rw [hR]
  have HR := Lib.hid hR
  clear hR
  go_enter Tryd.func46, Tryd.ntmps46
  go_wp2
  go_loopw [7, 8, 9] (fun t p i wr => ∃ (k : Nat) (M : List Rw) (put : Bool), k ≤ A.length ∧ i = .int .i64 k ∧ p = .bool put ∧ M.length ≤ 2 * k ∧ Hid (Ext w wr) ∧ Hid (M ++ withF q u put (A.drop k) = R) ∧ Hid (wr.ownsRow w.heap.size 88 2 t M.length (rwCells M))) (fun _ _ i _ => A.length - (intOf i).toNat)
  case atStart => exact ⟨0, [], false, Nat.zero_le _, rfl, rfl, Nat.le_refl _, Lib.hid (Ext.refl _), HR, Lib.hid (own_nil _ _ _ _)⟩
  case round =>
    obtain ⟨k, M, put, hk, rfl, rfl, hM, HE, HT, HO⟩ := hrel
    have hw := HE.out.size
    by_cases hlt : k < A.length
    · obtain ⟨b, o, rfl, hb, hr⟩ := HV.out.rw hlt
      have HD := HT.out
      rw [drop_cons A k hlt, withF] at HD
      obtain ⟨y, hy⟩ : ∃ y, A.getD k zrw = y := ⟨_, rfl⟩
      rw [hy] at hr HD
      have HRW0 := Lib.hid hr
      obtain ⟨r1, r2⟩ := hr.ext HE.out
      have i0 : (0 : Int) ≤ (k : Int) := by omega
      have i1 : (k : Int) < (A.length : Int) := by omega
      clear hy HT hr
      cases hp : (!put && decide (q ≤ y.k))
      · -- nothing is put in here
        have hp2 : (put || decide (q ≤ y.k)) = put := by revert hp; cases put <;> simp
        rw [hp, hp2] at HD
        have hg : put = false → decide (q ≤ y.k) = false := by intro e; subst e; simpa using hp
        cases h1 : (y.k == q)
        · have h1' : (y.k != q) = true := by simpa [bne] using h1
          rw [h1] at HD
          have HT2 : Hid ((M ++ [y]) ++ withF q u put (A.drop (k + 1)) = R) := Lib.hid (by simpa using HD)
          clear HD
          cases put
          all_goals
            first | have hg' := hg rfl | skip
            clear hg hp
            go_wp2_with (at_builtin; (refine wpList_append_own_at _ rfl _ _ 49 rfl w.heap.size 88 ti _ 2 16 Tryd.underlying49 HI.out.1 HI.out.2.1 HI.out.2.2.1 HI.out.2.2.2 rfl (by decide) u7 M.length (rwCells M) (by rfl) (by exact own_ext HO.out EXX) _ 1 1 (rwCells [y]) (by rfl) (by rfl) (by exact rows_one ⟨by simp [go_sem], by simp [go_sem]⟩) (rwCells_one _) (by unfold maxLen; omega) (by omega) (by simp [go_sem]; omega) ?_); intro v2 w2 hown2 hgrow2 _ hat2; have HO2 := Lib.hid hown2; have HG2 := Lib.hid hgrow2; clear hown2 hgrow2 hat2)
            go_wp2
            go_roundw
            case rel => exact ⟨k + 1, M ++ [y], _, by omega, by go_num, rfl, by simp; omega, Lib.hid (ext_grown (HE.out.trans EXX) HG2.out (fun j hj => (own_block HO.out hj).1)), HT2, Lib.hid (by rw [rwCells_app]; simpa using HO2.out)⟩
            case measure => simp [intOf]; omega
        · have h1' : (y.k != q) = false := by simpa [bne] using h1
          rw [h1] at HD
          have HT2 : Hid (M ++ withF q u put (A.drop (k + 1)) = R) := Lib.hid (by simpa using HD)
          clear HD
          cases put
          all_goals
            first | have hg' := hg rfl | skip
            clear hg hp
            go_wp2
            go_roundw
            case rel => exact ⟨k + 1, M, _, by omega, by go_num, rfl, by omega, Lib.hid (HE.out.trans EXX), HT2, Lib.hid (own_ext HO.out EXX)⟩
            case measure => simp [intOf]; omega
      · obtain ⟨rfl, hg'⟩ : put = false ∧ decide (q ≤ y.k) = true := by revert hp; cases put <;> simp
        obtain ⟨x, hx⟩ : ∃ x, x = Rw.mk q u := ⟨_, rfl⟩
        obtain ⟨xk, hxk⟩ : ∃ xk, xk = q := ⟨_, rfl⟩
        have HX : Hid (Rw.mk q u = x) := Lib.hid hx.symm
        have hN : ∃ N, N = M ++ [x] := ⟨_, rfl⟩
        obtain ⟨N, hN⟩ := hN
        have HRW : Hid (RwAt w b (o + k * 2) y) := HRW0
        have HN := Lib.hid hN
        have hNl : N.length = M.length + 1 := by rw [hN]; simp
        rw [hp] at HD
        simp only [hg', Bool.or_true, if_true] at HD
        clear hN hx hp hxk
        cases h1 : (y.k == q)
        · have h1' : (y.k != q) = true := by simpa [bne] using h1
          rw [h1] at HD
          have HT2 : Hid ((N ++ [y]) ++ withF q u true (A.drop (k + 1)) = R) := Lib.hid (by rw [HN.out, ← HX.out]; simpa using HD)
          clear HD
          go_wp2_with (first | ((at_builtin; (refine wpList_append_own_at _ rfl _ _ 49 rfl w.heap.size 88 ti _ 2 16 Tryd.underlying49 HI.out.1 HI.out.2.1 HI.out.2.2.1 HI.out.2.2.2 rfl (by decide) u7 M.length (rwCells M) (by rfl) (by exact own_ext HO.out EXX) _ 1 1 (rwCells [⟨q, u⟩]) (by rfl) (by rfl) (by exact rows_one ⟨by simp [go_sem], by simp [go_sem]⟩) (rwCells_one _) (by unfold maxLen; omega) (by omega) (by simp [go_sem]; omega) ?_); intro v2 w2 hown2 hgrow2 _ hat2; have HO2 := Lib.hid hown2; have HG2 := Lib.hid hgrow2; clear hown2 hgrow2 hat2); have E2 := ext_grown (HE.out.trans EXX) HG2.out (fun j hj => (own_block HO.out hj).1); obtain ⟨p1, p2⟩ := HRW.out.ext E2; have hsz2 := E2.size; have HE2 := Lib.hid E2; clear E2; replace HO2 : Hid (w2.ownsRow w.heap.size 88 2 v2 N.length (rwCells N)) := Lib.hid (by rw [hNl, HN.out, ← HX.out, rwCells_app]; exact HO2.out)) | (at_builtin; (refine wpList_append_own_at _ rfl _ _ 49 rfl w.heap.size 88 ti _ 2 16 Tryd.underlying49 HI.out.1 HI.out.2.1 HI.out.2.2.1 HI.out.2.2.2 rfl (by decide) v2 N.length (rwCells N) (by rfl) (by exact own_ext HO2.out EXX) _ 1 1 (rwCells [y]) (by rfl) (by rfl) (by exact rows_one ⟨by simp [go_sem], by simp [go_sem]⟩) (rwCells_one _) (by unfold maxLen; omega) (by omega) (by simp [go_sem]; omega) ?_); intro v3 w3 hown3 hgrow3 _ hat3; have HO3 := Lib.hid hown3; have HG3 := Lib.hid hgrow3; clear hown3 hgrow3 hat3))
          go_wp2
          go_roundw
          case rel => exact ⟨k + 1, N ++ [y], _, by omega, by go_num, rfl, by simp; omega, Lib.hid (ext_grown (HE2.out.trans EXX) HG3.out (fun j hj => (own_block HO2.out hj).1)), HT2, Lib.hid (by rw [rwCells_app]; simpa using HO3.out)⟩
          case measure => simp [intOf]; omega
        · have h1' : (y.k != q) = false := by simpa [bne] using h1
          rw [h1] at HD
          have HT2 : Hid (N ++ withF q u true (A.drop (k + 1)) = R) := Lib.hid (by rw [HN.out, ← HX.out]; simpa using HD)
          clear HD
          go_wp2_with ((at_builtin; (refine wpList_append_own_at _ rfl _ _ 49 rfl w.heap.size 88 ti _ 2 16 Tryd.underlying49 HI.out.1 HI.out.2.1 HI.out.2.2.1 HI.out.2.2.2 rfl (by decide) u7 M.length (rwCells M) (by rfl) (by exact own_ext HO.out EXX) _ 1 1 (rwCells [⟨q, u⟩]) (by rfl) (by rfl) (by exact rows_one ⟨by simp [go_sem], by simp [go_sem]⟩) (rwCells_one _) (by unfold maxLen; omega) (by omega) (by simp [go_sem]; omega) ?_); intro v2 w2 hown2 hgrow2 _ hat2; have HO2 := Lib.hid hown2; have HG2 := Lib.hid hgrow2; clear hown2 hgrow2 hat2); have E2 := ext_grown (HE.out.trans EXX) HG2.out (fun j hj => (own_block HO.out hj).1); obtain ⟨p1, p2⟩ := HRW.out.ext E2; have hsz2 := E2.size; have HE2 := Lib.hid E2; clear E2)
          replace HO2 : Hid (w2.ownsRow w.heap.size 88 2 v2 N.length (rwCells N)) := Lib.hid (by rw [hNl, HN.out, ← HX.out, rwCells_app]; exact HO2.out)
          go_wp2
          go_roundw
          case rel => exact ⟨k + 1, N, _, by omega, by go_num, rfl, by omega, Lib.hid (HE2.out.trans EXX), HT2, Lib.hid (own_ext HO2.out EXX)⟩
          case measure => simp [intOf]; omega
    · obtain rfl : k = A.length := by omega
      have HR2 : Hid (M ++ withF q u put [] = R) := Lib.hid (by simpa using HT.out)
      cases put
      · have HR3 : Hid (M ++ [⟨q, u⟩] = R) := Lib.hid (by simpa [withF] using HR2.out)
        go_wp2_with (at_builtin; (refine wpList_append_own_at _ rfl _ _ 49 rfl w.heap.size 88 ti _ 2 16 Tryd.underlying49 HI.out.1 HI.out.2.1 HI.out.2.2.1 HI.out.2.2.2 rfl (by decide) u7 M.length (rwCells M) (by rfl) (by exact own_ext HO.out EXX) _ 1 1 (rwCells [⟨q, u⟩]) (by rfl) (by rfl) (by exact rows_one ⟨by simp [go_sem], by simp [go_sem]⟩) (rwCells_one _) (by unfold maxLen; omega) (by omega) (by simp [go_sem]; omega) ?_); intro v2 w2 hown2 hgrow2 _ hat2; have HO2 := Lib.hid hown2; have HG2 := Lib.hid hgrow2; clear hown2 hgrow2 hat2)
        go_wp2
        go_ret
        refine ⟨_, rfl, ?_, ext_grown (HE.out.trans EXX) HG2.out (fun j hj => (own_block HO.out hj).1)⟩
        rw [← HR3.out, rwCells_app]
        simpa using HO2.out
      · have HR3 : Hid (M = R) := Lib.hid (by simpa [withF] using HR2.out)
        go_wp2
        go_ret
        exact ⟨_, rfl, by rw [← HR3.out]; exact HO.out, HE.out⟩
end Go.Proofs.YtmbodooikfmegaaDoor
