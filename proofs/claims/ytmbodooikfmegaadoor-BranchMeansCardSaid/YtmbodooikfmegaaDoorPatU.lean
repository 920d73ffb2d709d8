/- The walk of 'paths.unset'. -/
import Derived.Test.YtmbodooikfmegaaDoorPatS
namespace Go.Proofs.YtmbodooikfmegaaDoor.paths
open Go Go.RowKit
set_option maxRecDepth 100000
set_option maxHeartbeats 8000000

/-- What the walk of 'unset' knows ahead. -/
structure UPre (L : List Rw) (k : Int) (base : Nat) (vL : Value) (w : World) : Prop where
  hk : wholeK k = true
  hr : Rises L
  hn : L.length ≤ 900
  hv : ∀ x ∈ L, 0 ≤ x.v ∧ x.v ≤ 2147483648
  hw : ∀ x ∈ L, wholeK x.k = true
  own : w.ownsRow base 88 2 vL L.length (rwCells L)
  hb : base ≤ w.heap.size
theorem unset_none (vL : Value) (L : List Rw) (k : Int) (base : Nat) (w : World) (hp : UPre L k base vL w) (hl : look L k = none) : Calls Tryd.prog 42 #[vL, .int .u64 k] w (SetP w base L 6 0) := by
  have HW := Lib.hid hp.hk; have HR := Lib.hid hp.hr; have HOW := Lib.hid hp.own; have HBS := Lib.hid hp.hb; have hln := hp.hn; have HVL := Lib.hid hp.hv; have HWL := Lib.hid hp.hw; have HLL : Hid (L.length ≤ 1000000) := Lib.hid (by omega); obtain ⟨i, hat⟩ := at_ex hp.hr k; have HAT := Lib.hid hat
  have HSB : Hid ((look L k).isSome = false) := Lib.hid (by rw [hl]; rfl)
  clear hp hat hl
  obtain ⟨ad, cap, e5⟩ := own_form HOW.out
  go_enter Tryd.func42, Tryd.ntmps42
  subst e5
  go_wp2_with (go_at_call 43; (with_reducible refine (tfind_as _ L k HR.out HLL.out _ ((own_rws HOW.out).sl.ext EXY) i HAT.out _ HSB.out).mono ?_); rintro e w6 ⟨rfl, os6, n6, rfl⟩)
  refine bodyPost_ret (v := .tuple #[.slice ad L.length cap, resV 6 0]) (by simp [results, Tryd.results42, go_sem]) rfl ?_
  exact ⟨_, rfl, own_ext HOW.out EXY, fun U h1 _ => h1.trans EXY⟩
theorem abov_all {L : List Rw} {k : Int} (h : ∀ j, j < L.length → abovB k (L.getD j zrw).k = false) : (L.any fun x => abovB k x.k) = false := by
  rw [Bool.eq_false_iff]
  intro h2
  obtain ⟨x, hx, hb⟩ := List.any_eq_true.1 h2
  obtain ⟨j, hj, e⟩ := List.mem_iff_getElem.1 hx
  have := h j hj
  rw [getD_rw L j hj, e, hb] at this
  cases this
theorem abov_one {L : List Rw} {k : Int} {j : Nat} (hj : j < L.length) (h : abovB k (L.getD j zrw).k = true) : (L.any fun x => abovB k x.k) = true :=
  List.any_eq_true.2 ⟨L[j], List.getElem_mem _, by rw [getD_rw L j hj] at h; exact h⟩
theorem unset_some (vL : Value) (L : List Rw) (k u : Int) (base : Nat) (w : World) (hp : UPre L k base vL w) (hl : look L k = some u) (A : Bool) (hA : (L.any fun x => abovB k x.k) = A) (M : List Rw) (code word : Int)
    (HZ : Hid ((A = true → M = L ∧ code = 90 ∧ word = 0) ∧ (A = false → M = withoutK k L ∧ code = 0 ∧ word = u))) : Calls Tryd.prog 42 #[vL, .int .u64 k] w (SetP w base M code word) := by
  have HW := Lib.hid hp.hk; have HR := Lib.hid hp.hr; have HOW := Lib.hid hp.own; have HBS := Lib.hid hp.hb; have hln := hp.hn; have HVL := Lib.hid hp.hv; have HWL := Lib.hid hp.hw; have HLL : Hid (L.length ≤ 1000000) := Lib.hid (by omega); obtain ⟨i, hat⟩ := at_ex hp.hr k; have HAT := Lib.hid hat
  have HSB : Hid ((look L k).isSome = true) := Lib.hid (by rw [hl]; rfl)
  obtain ⟨hi, hg, _, hwo⟩ := bin_some hp.hr hat hl
  have HG := Lib.hid hg
  have HWO := Lib.hid hwo
  have hu1 : 0 ≤ u ∧ u ≤ 2147483648 := hp.hv _ (look_mem hl)
  have HA := Lib.hid hA
  obtain ⟨m, hm⟩ : ∃ m, (lineK k).length = m + 1 := ⟨(lineK k).length - 1, by have := (line_len (k := k)).1; omega⟩
  have HM := Lib.hid hm
  have hm3 : m ≤ 2 := by have := (line_len (k := k)).2; omega
  clear hp hat hl hg hwo hA hm
  rcases HOW.out.2 with ⟨_, h0⟩ | ⟨g, cap, cur, e5, hgb, hgc, hgn, hgm, hgs, htk⟩
  · omega
  have HGC := Lib.hid hgc
  clear hgc htk
  go_enter Tryd.func42, Tryd.ntmps42
  subst e5
  go_upto_region 6 with (first | (go_at_call 43; (with_reducible refine (tfind_as _ L k HR.out HLL.out _ ((own_rws HOW.out).sl.ext EXY) i HAT.out _ HSB.out).mono ?_); rintro e w6 ⟨rfl, os6, n6, rfl⟩) | (go_at_call 37; (with_reducible refine (line_own k HW.out _).mono ?_); rintro e w1 ⟨rl, rfl, HPA, os1, n1, rfl⟩; rw [HM.out] at HPA; obtain ⟨pad, pcap, e6⟩ := own_form HPA.out; subst e6; clear HPA))
  go_loopw [28] (fun i wr => ∃ j : Nat, j ≤ L.length ∧ i = .int .i64 j ∧ Hid (∀ q, q < j → abovB k (L.getD q zrw).k = false) ∧ Hid (Ext (w.alloc (.cells #[.int .i64 0, .int .u32 0, .slice none 0 0] 51)) wr)) (fun i _ => L.length - (intOf i).toNat)
  case atStart => exact ⟨0, Nat.zero_le _, rfl, Lib.hid fun q hq => absurd hq (Nat.not_lt_zero _), Lib.hid EXY⟩
  case round =>
    obtain ⟨j, hj, rfl, HT, HE⟩ := hrel
    obtain ⟨os', d', rfl⟩ := HE.out
    clear HE
    by_cases hlt : j < L.length
    · obtain ⟨x, hx⟩ : ∃ x, L.getD j zrw = x := ⟨_, rfl⟩
      have hmem : x ∈ L := by rw [← hx, getD_rw L j hlt]; exact List.getElem_mem _
      have HWX := Lib.hid (HWL.out x hmem)
      obtain ⟨ad9, cap9, e9, hsr, _⟩ := own_rws HOW.out
      cases e9
      obtain ⟨gb, go, e9, hbl, hrw⟩ := hsr.rw hlt
      cases e9
      rw [hx] at hrw
      obtain ⟨r1, r2⟩ := hrw
      simp only [Nat.zero_add] at r1 r2
      have hbl2 : g < w.heap.size + 1 := by omega
      obtain ⟨lx, hlx⟩ : ∃ lx, (lineK x.k).length = lx := ⟨_, rfl⟩
      have HLX := Lib.hid hlx
      have hab : abovB k x.k = (decide (m + 1 < lx) && ((lineK x.k).getD m 0 == k)) := by unfold abovB; rw [HM.out, hlx]; rfl
      have hlx3 : lx ≤ 3 := by have := (line_len (k := x.k)).2; omega
      have i1 : (j : Int) < (L.length : Int) := by omega
      have i2 : (0 : Int) ≤ (j : Int) := by omega
      have HX := Lib.hid hx
      clear hlx hx hmem hsr
      by_cases h8 : m + 1 < lx
      · have g8 : (m : Int) + 1 < (lx : Int) := by omega
        obtain ⟨z, hz⟩ : ∃ z, (lineK x.k).getD m 0 = z := ⟨_, rfl⟩
        have HZ8 := Lib.hid hz
        rw [hz, decide_eq_true h8, Bool.true_and] at hab
        clear hz
        go_upto_region 9 with (go_at_call 37; (with_reducible refine (line_own x.k HWX.out _).mono ?_); rintro e w2 ⟨rx, rfl, HPX, os2, n2, rfl⟩; rw [HLX.out] at HPX; obtain ⟨xad, xcap, e6⟩ := own_form HPX.out; subst e6)
        obtain ⟨ad7, cap7, e7, hs7⟩ := own_sl HPX.out
        cases e7
        obtain ⟨pb, po, rfl, hcs⟩ := hs7.pos (by omega)
        have c0 : (grew ((grew (w.alloc (.cells #[.int .i64 0, .int .u32 0, .slice none 0 0] 51)) os' d').alloc (.cells #[.int .u64 x.k, .int .u64 x.v] 88)) os2 n2).cell? ⟨pb, po + m, none⟩ = some (.int .u64 z) := hcs m _ (by
          have h9 := HZ8.out
          have h7 : m < (lineK x.k).length := by rw [HLX.out]; omega
          rw [List.getD_eq_getElem?_getD, List.getElem?_eq_getElem h7] at h9
          rw [List.getElem?_map, List.getElem?_eq_getElem h7]
          simp at h9
          simp [h9])
        have q5 : IntKind.i64.wrap (m : Int) = (m : Int) := by rw [IntKind.wrap_i64]; omega
        have i3 : (0 : Int) ≤ (m : Int) := by omega
        have i4 : (m : Int) < (lx : Int) := by omega
        clear hcs hs7 HPX
        cases gz : (z == k)
        · rw [gz] at hab
          have HT2 : Hid (∀ q, q < j + 1 → abovB k (L.getD q zrw).k = false) := Lib.hid fun q hq => by
            by_cases e : q = j
            · subst e; rw [HX.out]; exact hab
            · exact HT.out q (by omega)
          clear hab
          go_wp2
          go_roundw
          case rel => exact ⟨j + 1, by omega, by go_num, HT2, Lib.hid EXY⟩
          case measure => simp [intOf]; omega
        · rw [gz] at hab
          have hz9 := HZ.out.1 (by rw [← HA.out]; exact abov_one hlt (by rw [HX.out]; exact hab))
          obtain ⟨rfl, rfl, rfl⟩ := hz9
          clear hab HA HZ
          go_wp2
          refine bodyPost_ret (v := .tuple #[.slice (some ⟨g, 0, none⟩) M.length cap, resV 90 0]) (by simp [results, Tryd.results42, go_sem]) rfl ?_
          exact ⟨_, rfl, own_ext HOW.out EXY, fun U h1 _ => h1.trans EXY⟩
      · rw [decide_eq_false h8, Bool.false_and] at hab
        have g8 : ¬ (m : Int) + 1 < (lx : Int) := by omega
        have HT2 : Hid (∀ q, q < j + 1 → abovB k (L.getD q zrw).k = false) := Lib.hid fun q hq => by
          by_cases e : q = j
          · subst e; rw [HX.out]; exact hab
          · exact HT.out q (by omega)
        clear hab
        go_wp2_with (go_at_call 37; (with_reducible refine (line_own x.k HWX.out _).mono ?_); rintro e w2 ⟨rx, rfl, HPX, os2, n2, rfl⟩; rw [HLX.out] at HPX; obtain ⟨xad, xcap, e6⟩ := own_form HPX.out; subst e6)
        go_roundw
        case rel => exact ⟨j + 1, by omega, by go_num, HT2, Lib.hid EXY⟩
        case measure => simp [intOf]; omega
    · obtain rfl : j = L.length := by omega
      have hz9 := HZ.out.2 (by rw [← HA.out]; exact abov_all HT.out)
      obtain ⟨rfl, rfl, rfl⟩ := hz9
      clear HA HZ HT
      obtain ⟨ad9, cap9, e9, hsr, _⟩ := own_rws HOW.out
      cases e9
      obtain ⟨gb, go, e9, hbl, hrw⟩ := hsr.rw hi
      cases e9
      rw [HG.out] at hrw
      obtain ⟨_, r2⟩ := hrw
      simp only [Nat.zero_add] at r2
      have hbl2 : g < w.heap.size + 1 := by omega
      have j0 : (0 : Int) ≤ (i : Int) := by omega
      have j1 : (i : Int) < (L.length : Int) := by omega
      have q1 : IntKind.u32.wrap word = word := by rw [IntKind.wrap_u32]; omega
      have hbx : (grew (w.alloc (.cells #[.int .i64 0, .int .u32 0, .slice none 0 0] 51)) os' d').heap[w.heap.size]? = some (.cells #[.int .i64 0, .int .u32 0, .slice none 0 0] 51 (0, 0)) := (heap_grew _ _ _ (by simp)).trans ((alloc_heap _ _ _).trans (if_pos rfl))
      have hex : Ext w (grew (w.alloc (.cells #[.int .i64 0, .int .u32 0, .slice none 0 0] 51)) os' d') := EXY
      have HNX := Lib.hid (own_not (own_ext HOW.out hex) hbx (fun cur fr e => by cases e))
      have HBX := Lib.hid hbx
      clear hsr hbx hex
      go_wp2_with (go_at_call 68; refine (del_any _ L i hi base _ (own_ext HOW.out EXY) (by omega)).mono ?_; rintro e w8 ⟨r2, rfl, HO7, hg7⟩; have hbox := grown_at hg7 HBX.out HNX.out; have HO8 := Lib.hid HO7; have HG8 := Lib.hid hg7; have b0 : w8.cell? ⟨w.heap.size, 0, none⟩ = some (.int .i64 0) := (by rw [cell_of_heap hbox]; rfl); have b1 : w8.cell? ⟨w.heap.size, 1, none⟩ = some (.int .u32 0) := (by rw [cell_of_heap hbox]; rfl); have b2 : w8.cell? ⟨w.heap.size, 2, none⟩ = some (.slice none 0 0) := (by rw [cell_of_heap hbox]; rfl); have z0 : w8.frozen? ⟨w.heap.size, 0, none⟩ = false := frozen_of_heap hbox _; have z1 : w8.frozen? ⟨w.heap.size, 1, none⟩ = false := frozen_of_heap hbox _; have z2 : w8.frozen? ⟨w.heap.size, 2, none⟩ = false := frozen_of_heap hbox _; have HBOX := Lib.hid hbox; clear hg7 HO7 hbox)
      refine bodyPost_ret (v := .tuple #[r2, resV 0 word]) (by simp [results, Tryd.results42, go_sem, b0, b1, b2]) rfl ?_
      have h1 := HO8.out
      have hnb := own_not h1 HBOX.out (fun cur fr e => by cases e)
      have hne : r2.ownBlock ≠ some w.heap.size := fun e => hnb _ e rfl
      rw [← HWO.out] at h1
      have hbs := HBS.out
      refine ⟨_, rfl, ownsRow_setCell_other (ownsRow_setCell_other (ownsRow_setCell_other h1 hne _) hne _) hne _, fun U h3 h4 => Ext.setCell (Ext.setCell (Ext.setCell ?_ ?_ _) ?_ _) ?_ _⟩
      · refine ext_grown (h3.trans EXY) HG8.out fun g' hg' => ?_
        cases hg'
        dsimp only
        omega
      all_goals (dsimp only; omega)
end Go.Proofs.YtmbodooikfmegaaDoor.paths
