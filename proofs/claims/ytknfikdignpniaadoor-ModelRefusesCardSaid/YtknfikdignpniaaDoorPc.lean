/- The walk of 'paths.set'. -/
import Derived.Test.YtknfikdignpniaaDoorPb
namespace Go.Proofs.YtknfikdignpniaaDoor.paths
open Go Go.RowKit
set_option maxRecDepth 100000
set_option maxHeartbeats 8000000

/-- What a change of rows of the call's own answers. -/
def SetP (w : World) (base : Nat) (M : List Rw) (code word : Int) (e : Ending) (w' : World) : Prop := ∃ r, e = .returned (.tuple #[r, resV code word]) ∧ w'.ownsRow base 44 2 r M.length (rwCells M) ∧ ∀ U, Ext U w → U.heap.size ≤ base → Ext U w'
theorem lack_lenM {W : World} {os : Array Obj} {d : Nat} (b n : Nat) (S : List Int) (m : Nat) (h : Lack (grew W os d) b n S) (hm : S.length = m) (d' : Nat) (ty : TypeId) : (Builtin.len_ #[117] ty #[.map (some b)]).run Tryd.prog (grew W os d') = .ok (.int .i64 m) (grew W os d') := by
  obtain ⟨D, h1, _, h3, _⟩ := lack_grew h d'
  rw [← hm, ← h3]
  exact h1.len Tryd.underlying117 ty
/-- What the walk of 'set' knows ahead. -/
structure SPre (c : Cfg) (L : List Rw) (k u : Int) (base : Nat) (vL : Value) (w : World) : Prop where
  hk : wholeK k = true
  hu : 0 ≤ u ∧ u ≤ 2147483647
  hf : RwsFit L
  hr : Rises L
  hn : L.length ≤ 900
  hv : ∀ x ∈ L, 0 ≤ x.v ∧ x.v ≤ 2147483648
  own : w.ownsRow base 44 2 vL L.length (rwCells L)
  hb : base ≤ w.heap.size
  cap : 0 ≤ c.cap ∧ c.cap ≤ 1000
theorem set_full (c : Cfg) (vL : Value) (L : List Rw) (k u : Int) (base : Nat) (w : World) (hp : SPre c L k u base vL w) (hcap : c.cap < ((madeK k L).length : Int)) : Calls Tryd.prog 83 #[c.v, vL, .int .u64 k, .int .u32 u] w (SetP w base L 9 0) := by
  have HW := Lib.hid hp.hk; have HF := Lib.hid hp.hf; have HR := Lib.hid hp.hr; have HOW := Lib.hid hp.own; have hbs := hp.hb; have hln := hp.hn; have hcc := hp.cap; have HVL := Lib.hid hp.hv; have hu := hp.hu; have HPB : Hid (∀ p ∈ lineK k, 0 ≤ p ∧ p ≤ 18446744073709551615) := Lib.hid fun p hq => (by have := whole_bd (line_whole hp.hk hq); omega); have HPN : Hid (lineK k).Nodup := Lib.hid ((line_nodup hp.hk).imp fun h => (by omega)); have hl3 := line_len (k := k); have HPL : Hid ((lineK k).length ≤ 1000) := Lib.hid (by omega); obtain ⟨n9, hn9⟩ : ∃ n9, (lackL L (lineK k)).length = n9 := ⟨_, rfl⟩; have hml := lackL_len L k hp.hr hp.hk; rw [hn9] at hml; obtain ⟨S9, hS9⟩ : ∃ S9, lackL L (lineK k) = S9 := ⟨_, rfl⟩; have HN9 := Lib.hid hS9; have HN8 : Hid (S9.length = n9) := Lib.hid (by rw [← hS9]; exact hn9); have hn92 : n9 ≤ 3 := (by have := List.length_filter_le (fun p => !(look L p).isSome) (lineK k); unfold lackL at hn9; omega); clear hS9 hn9
  clear hp
  rw [hml] at hcap
  have hcap2 : c.cap < (L.length : Int) + (n9 : Int) := by omega
  obtain ⟨ad, cap, e5⟩ := own_form HOW.out
  go_enter Tryd.func83, Tryd.ntmps83
  subst e5
  go_wp2_with (first | (go_at_call 89; (with_reducible refine (line_own k HW.out _).mono ?_); rintro e w1 ⟨rl, rfl, HPA, os1, n1, rfl⟩; obtain ⟨pad, pcap, e6⟩ := own_form HPA.out; subst e6) | (go_at_call 88; (with_reducible refine (missing_any _ _ L (lineK k) HF.out HPB.out HPN.out HPL.out _ ((own_rws HOW.out).ext EXY) ((own_sl HPA.out).ext EXY)).mono ?_); rintro e w2 ⟨bm, nm, rfl, HLM, os2, n2, rfl⟩; have hlm := HLM.out.2; (try simp only [grew_grew] at hlm); clear HLM; rw [HN9.out] at hlm; have hlen := lack_lenM bm nm _ _ hlm HN8.out; have HLM := Lib.hid hlm; clear hlm))
  refine bodyPost_ret (v := .tuple #[.slice ad L.length cap, resV 9 0]) (by simp [results, Tryd.results83, go_sem]) rfl ?_
  exact ⟨_, rfl, own_ext HOW.out EXY, fun U h1 _ => h1.trans EXY⟩

theorem set_ok (c : Cfg) (vL : Value) (L : List Rw) (k u : Int) (base : Nat) (w : World) (hp : SPre c L k u base vL w) (hcap : ((madeK k L).length : Int) ≤ c.cap) : Calls Tryd.prog 83 #[c.v, vL, .int .u64 k, .int .u32 u] w (SetP w base (withK k (u + 1) (madeK k L)) 0 ((look L k).getD 0)) := by
  have HW := Lib.hid hp.hk; have HF := Lib.hid hp.hf; have HR := Lib.hid hp.hr; have HOW := Lib.hid hp.own; have hbs := hp.hb; have hln := hp.hn; have hcc := hp.cap; have HVL := Lib.hid hp.hv; have hu := hp.hu; have HPB : Hid (∀ p ∈ lineK k, 0 ≤ p ∧ p ≤ 18446744073709551615) := Lib.hid fun p hq => (by have := whole_bd (line_whole hp.hk hq); omega); have HPN : Hid (lineK k).Nodup := Lib.hid ((line_nodup hp.hk).imp fun h => (by omega)); have hl3 := line_len (k := k); have HPL : Hid ((lineK k).length ≤ 1000) := Lib.hid (by omega); obtain ⟨n9, hn9⟩ : ∃ n9, (lackL L (lineK k)).length = n9 := ⟨_, rfl⟩; have hml := lackL_len L k hp.hr hp.hk; rw [hn9] at hml; obtain ⟨S9, hS9⟩ : ∃ S9, lackL L (lineK k) = S9 := ⟨_, rfl⟩; have HN9 := Lib.hid hS9; have HN8 : Hid (S9.length = n9) := Lib.hid (by rw [← hS9]; exact hn9); have hn92 : n9 ≤ 3 := (by have := List.length_filter_le (fun p => !(look L p).isSome) (lineK k); unfold lackL at hn9; omega); clear hS9 hn9
  have hmk := rises_made (k := k) hp.hr
  have hlm := look_made (k := k) hp.hr
  clear hp
  rw [hml] at hcap
  have hcap2 : ¬ c.cap < (L.length : Int) + (n9 : Int) := by omega
  obtain ⟨ad, cap, e5⟩ := own_form HOW.out
  go_enter Tryd.func83, Tryd.ntmps83
  subst e5
  go_upto_region 6 with (first | (go_at_call 89; (with_reducible refine (line_own k HW.out _).mono ?_); rintro e w1 ⟨rl, rfl, HPA, os1, n1, rfl⟩; obtain ⟨pad, pcap, e6⟩ := own_form HPA.out; subst e6) | (go_at_call 88; (with_reducible refine (missing_any _ _ L (lineK k) HF.out HPB.out HPN.out HPL.out _ ((own_rws HOW.out).ext EXY) ((own_sl HPA.out).ext EXY)).mono ?_); rintro e w2 ⟨bm, nm, rfl, HLM, os2, n2, rfl⟩; have hlm := HLM.out.2; (try simp only [grew_grew] at hlm); clear HLM; rw [HN9.out] at hlm; have hlen := lack_lenM bm nm _ _ hlm HN8.out; have HLM := Lib.hid hlm; clear hlm))
  obtain ⟨ps, hps⟩ : ∃ ps, lineK k = ps := ⟨_, rfl⟩
  have HPS := Lib.hid hps
  rw [hps] at HPB HPN HPL HPA hl3 HN9 ⊢
  clear hps
  refine wp_gen (fun W => W.ownsRow base 44 2 (.slice ad L.length cap) L.length (rwCells L) ∧ W.heap[w.heap.size + 1]? = some (.cells #[.int .i64 0, .int .u32 0, .slice none 0 0] 36 (0, 0)) ∧ W.ownsRow w.heap.size 22 1 (.slice pad ps.length pcap) ps.length (ps.map fun p => .int .u64 p) ∧ Lack W bm nm S9 ∧ (∀ U, Ext U w → U.heap.size ≤ base → Ext U W) ∧ w.heap.size + 2 ≤ W.heap.size)
    ⟨own_ext HOW.out EXY, ?_, ?_, HLM.out, fun U h1 _ => h1.trans EXY, by simp [go_sem]⟩ ?_
  · exact (heap_grew _ _ _ (by simp)).trans ((alloc_heap _ _ _).trans (if_pos (by simp)))
  · exact own_low (own_ext HPA.out EXY) (by simp; omega)
  rintro W ⟨h1, h2, h3, h4, h5, h6⟩
  have H1 := Lib.hid h1
  have H2 := Lib.hid h2
  have H3 := Lib.hid h3
  have H4 := Lib.hid h4
  have H5 := Lib.hid h5
  have H6 := Lib.hid h6
  clear h1 h2 h3 h4 h5 h6 HLM HPA hlen
  go_loopw [1, 38] (fun va i wr => ∃ j : Nat, j ≤ ps.length ∧ i = .int .i64 j ∧ Hid (wr.ownsRow base 44 2 va ((ps.take j).foldl ins0 L).length (rwCells ((ps.take j).foldl ins0 L))) ∧ Hid (wr.heap[w.heap.size + 1]? = some (.cells #[.int .i64 0, .int .u32 0, .slice none 0 0] 36 (0, 0))) ∧ Hid (wr.ownsRow w.heap.size 22 1 (.slice pad ps.length pcap) ps.length (ps.map fun p => .int .u64 p)) ∧ Hid (Lack wr bm nm S9) ∧ Hid (∀ U, Ext U w → U.heap.size ≤ base → Ext U wr) ∧ Hid (w.heap.size + 2 ≤ wr.heap.size)) (fun _ i _ => ps.length - (intOf i).toNat)
  case atStart => exact ⟨0, Nat.zero_le _, rfl, H1, H2, H3, H4, H5, H6⟩
  case round =>
    obtain ⟨j, hj, rfl, HOJ, HB2, HB3, HB4, HB5, HB6⟩ := hrel
    obtain ⟨M, hM⟩ : ∃ M, (ps.take j).foldl ins0 L = M := ⟨_, rfl⟩
    rw [hM] at HOJ
    have HRM : Hid (Rises M) := Lib.hid (by rw [← hM]; exact rises_fold HR.out)
    have hM3 : M.length ≤ L.length + 3 := by
      rw [← hM]
      have := fold_len_le (ps := ps.take j) (L := L)
      have := List.length_take_le j ps
      rw [List.length_take] at *
      omega
    have HLM2 : Hid (M.length ≤ 1000000) := Lib.hid (by omega)
    obtain ⟨ad1, cap1, e7⟩ := own_form HOJ.out
    by_cases hlt : j < ps.length
    · have hsl := own_sl HB3.out
      obtain ⟨ad8, cap8, e8, hsl2⟩ := hsl
      cases e8
      obtain ⟨pb, po, rfl, hcs⟩ := hsl2.pos (by omega)
      obtain ⟨q, hq⟩ : ∃ q, ps[j] = q := ⟨_, rfl⟩
      have c0 : wr.cell? ⟨pb, po + j, none⟩ = some (.int .u64 q) := hcs j _ (by simp [hlt, hq])
      have l0 := World.block_lt_of_cell? _ _ c0
      have HQ : Hid (0 ≤ q ∧ q ≤ 18446744073709551615) := Lib.hid (HPB.out q (by rw [← hq]; exact List.getElem_mem _))
      have HNX : Hid ((ps.take (j + 1)).foldl ins0 L = ins0 M q) := Lib.hid (by rw [fold_take hlt, hM, hq])
      have hnm : ¬ q ∈ ps.take j := by rw [← hq]; exact take_not_mem HPN.out hlt
      have hlook : (look M q).isSome = (look L q).isSome := by rw [← hM, look_fold HR.out, if_neg hnm]
      obtain ⟨D, hown, h0, _, _⟩ := HB4.out
      have HOWD := Lib.hid hown
      have hin : Maps.has D (.int .u64 q) = !(look L q).isSome := by
        rw [h0, ← HN9.out]
        unfold lackL
        have hm : q ∈ ps := by rw [← hq]; exact List.getElem_mem _
        have h9 : (q ∈ ps.filter fun p => !(look L p).isSome) ↔ (look L q).isSome = false := by
          rw [List.mem_filter]
          simp only [hm, true_and, Bool.not_eq_true']
        rw [Bool.eq_iff_iff]
        simp only [decide_eq_true_eq, h9, Bool.not_eq_true']
      have i1 : (j : Int) < (ps.length : Int) := by omega
      have i2 : (0 : Int) ≤ (j : Int) := by omega
      cases hs : (look L q).isSome
      · rw [hs] at hin hlook
        have HHD := Lib.hid hin
        obtain ⟨i, hat⟩ := at_ex HRM.out q
        have HAT := Lib.hid hat
        have HSB := Lib.hid hlook
        have hnone : look M q = none := by
          cases hl : look M q with
          | none => rfl
          | some z => rw [hl] at hlook; cases hlook
        obtain ⟨hi, _, hwk⟩ := bin_none HRM.out hat hnone
        have HI0 := Lib.hid hi
        have HW2 : Hid (ins0 M q = M.take i ++ ⟨q, 0⟩ :: M.drop i) := Lib.hid (by rw [← hwk 0]; unfold ins0; rw [hlook]; rfl)
        have HBS : Hid (base ≤ wr.heap.size) := Lib.hid (by have := HB6.out; omega)
        clear hM hcs hq hnm hlook hown h0 hin hs hat hnone hwk hi hsl2
        subst e7
        go_wp2_with (first | (at_lookup; refine wpList_lookup_own_ok_int _ rfl _ _ 117 rfl 22 3 .i64 law_u64 Tryd.underlying117 Tryd.underlying3 (zero_int _) bm nm D rfl HOWD.out _ _ rfl (key_u64 HQ.out) ?_; intro c5 hat5 hwc5; rw [HHD.out]; clear hat5 hwc5) | (go_at_call 86; (with_reducible refine (tfind_as _ M q HRM.out HLM2.out _ ((own_rws HOJ.out).sl.ext EXY) i HAT.out _ HSB.out).mono ?_); rintro e w6 ⟨rfl, os6, n6, rfl⟩) | (go_at_call 44; refine (ins_any _ M ⟨q, 0⟩ i HI0.out _ base _ (own_ext HOJ.out EXY) (by omega) (by have h8 := HBS.out; simp [go_sem]; omega) (by rw [alloc_heap, if_pos (by simp [go_sem])]) (fun e => by have hlt7 := (own_block HOJ.out e).2; omega)).mono ?_; rintro e w8 ⟨r2, rfl, HO7, hg7⟩; have HO8 := Lib.hid HO7; have HG8 := Lib.hid hg7; clear hg7 HO7))
        have hx : Ext wr ((grew wr os6 n6).alloc (.cells #[.int .u64 q, .int .u64 0] 44)) := EX
        have HX := Lib.hid hx
        clear hx
        have HN2 := own_not (own_ext HOJ.out HX.out) ((ext_heap HX.out (Array.getElem?_eq_some_iff.1 HB2.out).1).trans HB2.out) (fun cur fr e => by cases e)
        have HN3 := own_ne (own_ext HB3.out HX.out) (own_ext HOJ.out HX.out) (by decide)
        obtain ⟨es4, ck4, hb4⟩ := (HB4.out.ext HX.out).obj
        have HN4 := own_not (own_ext HOJ.out HX.out) hb4 (fun cur fr e => by cases e)
        go_roundw
        case rel =>
          refine ⟨j + 1, by omega, by go_num, Lib.hid ?_, Lib.hid ?_, Lib.hid ?_, Lib.hid ?_, Lib.hid ?_, Lib.hid ?_⟩
          · rw [HNX.out, HW2.out]; exact HO8.out
          · exact grown_at HG8.out ((ext_heap HX.out (Array.getElem?_eq_some_iff.1 HB2.out).1).trans HB2.out) HN2
          · exact own_grown HG8.out (own_ext HB3.out HX.out) fun g hg h3 => HN3 g h3 hg
          · exact Lack.grown HG8.out (HB4.out.ext HX.out) HN4
          · exact fun U h1 h2 => ext_grown ((HB5.out U h1 h2).trans HX.out) HG8.out fun g hg => Nat.le_trans h2 (own_block (own_ext HOJ.out HX.out) hg).1
          · have h8 := HG8.out.size
            have h9 := HB6.out
            have h7 := HX.out.size
            omega
        case measure => simp [intOf]; omega
      · rw [hs] at hin hlook
        have HHD := Lib.hid hin
        have HW2 : Hid (ins0 M q = M) := Lib.hid (by unfold ins0; rw [hlook]; rfl)
        clear hM hcs hq hnm hlook hown h0 hin hs hsl2
        subst e7
        go_wp2_with (at_lookup; refine wpList_lookup_own_ok_int _ rfl _ _ 117 rfl 22 3 .i64 law_u64 Tryd.underlying117 Tryd.underlying3 (zero_int _) bm nm D rfl HOWD.out _ _ rfl (key_u64 HQ.out) ?_; intro c5 hat5 hwc5; rw [HHD.out]; clear hat5 hwc5)
        go_roundw
        case rel => exact ⟨j + 1, by omega, by go_num, Lib.hid (by rw [HNX.out, HW2.out]; exact HOJ.out), HB2, HB3, HB4, HB5, HB6⟩
        case measure => simp [intOf]; omega
    · obtain rfl : j = ps.length := by omega
      have hMk : M = madeK k L := by
        rw [← hM, List.take_length]
        unfold madeK
        rw [HPS.out]
      have hlm2 : look M k = some ((look L k).getD 0) := by rw [hMk]; exact hlm
      obtain ⟨u0, hu0⟩ : ∃ u0, (look L k).getD 0 = u0 := ⟨_, rfl⟩
      have HU0 := Lib.hid hu0
      have HMK := Lib.hid hMk
      rw [hu0] at hlm2
      have hu1 : 0 ≤ u0 ∧ u0 ≤ 2147483648 := by
        rw [← hu0]
        cases hl : look L k with
        | none => simp
        | some z => exact HVL.out _ (look_mem hl)
      obtain ⟨i, hat⟩ := at_ex HRM.out k
      have HAT := Lib.hid hat
      have HSB : Hid ((look M k).isSome = true) := Lib.hid (by rw [hlm2]; rfl)
      obtain ⟨hi, hg, hwk, _⟩ := bin_some HRM.out hat hlm2
      have HWK := Lib.hid (hwk (u + 1))
      have HG := Lib.hid hg
      have hbs2 := HB6.out
      subst e7
      clear hM hMk hlm2 hu0 hat hg hwk hlm
      go_upto_region 14 with (go_at_call 86; (with_reducible refine (tfind_as _ M k HRM.out HLM2.out _ ((own_rws HOJ.out).sl.ext EXY) i HAT.out _ HSB.out).mono ?_); rintro e w6 ⟨rfl, os6, n6, rfl⟩)
      have hx : Ext wr (grew wr os6 n6) := EX
      refine wp_gen (fun W2 => W2.ownsRow base 44 2 (.slice ad1 M.length cap1) M.length (rwCells M) ∧ W2.heap[w.heap.size + 1]? = some (.cells #[.int .i64 0, .int .u32 0, .slice none 0 0] 36 (0, 0)) ∧ (∀ U, Ext U w → U.heap.size ≤ base → Ext U W2))
        ⟨own_ext HOJ.out hx, (ext_heap hx (Array.getElem?_eq_some_iff.1 HB2.out).1).trans HB2.out, fun U h1 h2 => (HB5.out U h1 h2).trans hx⟩ ?_
      rintro W2 ⟨hown, hbox, hext⟩
      clear hx HOJ HB2 HB3 HB4 HB5
      have HEX := Lib.hid hext
      have HBOX := Lib.hid hbox
      have hgk : ∀ g, (Value.slice ad1 M.length cap1).ownBlock = some g → g ≠ w.heap.size + 1 := own_not hown hbox (fun cur fr e => by cases e)
      rcases hown.2 with ⟨_, h0⟩ | ⟨g, cap2, cur, e9, hgb, hgc, hgn, hgm, hgs, htk⟩
      · omega
      cases e9
      have hne : g ≠ w.heap.size + 1 := hgk g rfl
      have hne2 : w.heap.size + 1 ≠ g := fun e => hne e.symm
      obtain ⟨ad9, cap9, e9, hsr, _⟩ := own_rws hown
      cases e9
      obtain ⟨gb, go, e9, hbl, hrw⟩ := hsr.rw hi
      cases e9
      rw [HG.out] at hrw
      obtain ⟨_, r2⟩ := hrw
      simp only [Nat.zero_add] at r2
      have f2 : W2.frozen? ⟨g, i * 2 + 1, none⟩ = false := frozen_of_heap hgc _
      have b0 : W2.cell? ⟨w.heap.size + 1, 0, none⟩ = some (.int .i64 0) := by rw [cell_of_heap hbox]; rfl
      have b1 : W2.cell? ⟨w.heap.size + 1, 1, none⟩ = some (.int .u32 0) := by rw [cell_of_heap hbox]; rfl
      have b2 : W2.cell? ⟨w.heap.size + 1, 2, none⟩ = some (.slice none 0 0) := by rw [cell_of_heap hbox]; rfl
      have z0 : W2.frozen? ⟨w.heap.size + 1, 0, none⟩ = false := frozen_of_heap hbox _
      have z1 : W2.frozen? ⟨w.heap.size + 1, 1, none⟩ = false := frozen_of_heap hbox _
      have z2 : W2.frozen? ⟨w.heap.size + 1, 2, none⟩ = false := frozen_of_heap hbox _
      have j0 : (0 : Int) ≤ (i : Int) := by omega
      have j1 : (i : Int) < (M.length : Int) := by omega
      have q1 : IntKind.u32.wrap u0 = u0 := by rw [IntKind.wrap_u32]; omega
      have q2 : IntKind.u64.wrap u = u := by rw [IntKind.wrap_u64]; omega
      have q3 : IntKind.u64.wrap (u + 1) = u + 1 := by rw [IntKind.wrap_u64]; omega
      have HOWN := Lib.hid hown
      clear hown hbox hext hgk hgc hgs htk hsr
      go_wp2
      refine bodyPost_ret (v := .tuple #[.slice (some ⟨g, 0, none⟩) M.length cap1, resV 0 u0]) (by simp [results, Tryd.results83, go_sem, b0, b1, b2]) rfl ?_
      rw [HU0.out, ← HMK.out]
      have h1 := own_setv (z := u + 1) HOWN.out hi (by rw [HG.out])
      rw [← HWK.out] at h1
      have hlw : (withK k (u + 1) M).length = M.length := by rw [HWK.out, List.length_set]
      refine ⟨_, rfl, ownsRow_setCell_other (ownsRow_setCell_other (ownsRow_setCell_other h1 ?_ _) ?_ _) ?_ _, fun U h3 h4 => Ext.setCell (Ext.setCell (Ext.setCell (Ext.setCell (HEX.out U h3 h4) ?_ _) ?_ _) ?_ _) ?_ _⟩
      all_goals first | (intro e8; cases e8; exact hne rfl) | (dsimp only; omega)
end Go.Proofs.YtknfikdignpniaaDoor.paths
/- The walk of 'paths.unset'. -/
namespace Go.Proofs.YtknfikdignpniaaDoor.paths
open Go Go.RowKit
set_option maxRecDepth 100000
set_option maxHeartbeats 8000000

/-- What the walk of 'unset' knows ahead. -/
structure UPre (L : List Rw) (k : Int) (base : Nat) (vL : Value) (w : World) : Prop where
  hk : wholeK k = true
  hr : Rises L
  hn : L.length ≤ 900
  hv : ∀ x ∈ L, 0 ≤ x.v ∧ x.v ≤ 2147483648
  hw : ∀ x ∈ L, wholeK x.k = true
  own : w.ownsRow base 44 2 vL L.length (rwCells L)
  hb : base ≤ w.heap.size
theorem unset_none (vL : Value) (L : List Rw) (k : Int) (base : Nat) (w : World) (hp : UPre L k base vL w) (hl : look L k = none) : Calls Tryd.prog 85 #[vL, .int .u64 k] w (SetP w base L 6 0) := by
  have HW := Lib.hid hp.hk; have HR := Lib.hid hp.hr; have HOW := Lib.hid hp.own; have HBS := Lib.hid hp.hb; have hln := hp.hn; have HVL := Lib.hid hp.hv; have HWL := Lib.hid hp.hw; have HLL : Hid (L.length ≤ 1000000) := Lib.hid (by omega); obtain ⟨i, hat⟩ := at_ex hp.hr k; have HAT := Lib.hid hat
  have HSB : Hid ((look L k).isSome = false) := Lib.hid (by rw [hl]; rfl)
  clear hp hat hl
  obtain ⟨ad, cap, e5⟩ := own_form HOW.out
  go_enter Tryd.func85, Tryd.ntmps85
  subst e5
  go_wp2_with (go_at_call 86; (with_reducible refine (tfind_as _ L k HR.out HLL.out _ ((own_rws HOW.out).sl.ext EXY) i HAT.out _ HSB.out).mono ?_); rintro e w6 ⟨rfl, os6, n6, rfl⟩)
  refine bodyPost_ret (v := .tuple #[.slice ad L.length cap, resV 6 0]) (by simp [results, Tryd.results85, go_sem]) rfl ?_
  exact ⟨_, rfl, own_ext HOW.out EXY, fun U h1 _ => h1.trans EXY⟩
theorem abov_all {L : List Rw} {k : Int} (h : ∀ j, j < L.length → abovB k (L.getD j zrw).k = false) : (L.any fun x => abovB k x.k) = false := by
  rw [Bool.eq_false_iff]
  intro h2
  obtain ⟨x, hx, hb⟩ := List.any_eq_true.1 h2
  obtain ⟨j, hj, e⟩ := List.mem_iff_getElem.1 hx
  have := h j hj
  rw [getD_rw L j hj, e, hb] at this
  cases this
theorem abov_one {L : List Rw} {k : Int} {j : Nat} (hj : j < L.length) (h : abovB k (L.getD j zrw).k = true) : (L.any fun x => abovB k x.k) = true :=
  List.any_eq_true.2 ⟨L[j], List.getElem_mem _, by rw [getD_rw L j hj] at h; exact h⟩
theorem unset_some (vL : Value) (L : List Rw) (k u : Int) (base : Nat) (w : World) (hp : UPre L k base vL w) (hl : look L k = some u) (A : Bool) (hA : (L.any fun x => abovB k x.k) = A) (M : List Rw) (code word : Int)
    (HZ : Hid ((A = true → M = L ∧ code = 90 ∧ word = 0) ∧ (A = false → M = withoutK k L ∧ code = 0 ∧ word = u))) : Calls Tryd.prog 85 #[vL, .int .u64 k] w (SetP w base M code word) := by
  have HW := Lib.hid hp.hk; have HR := Lib.hid hp.hr; have HOW := Lib.hid hp.own; have HBS := Lib.hid hp.hb; have hln := hp.hn; have HVL := Lib.hid hp.hv; have HWL := Lib.hid hp.hw; have HLL : Hid (L.length ≤ 1000000) := Lib.hid (by omega); obtain ⟨i, hat⟩ := at_ex hp.hr k; have HAT := Lib.hid hat
  have HSB : Hid ((look L k).isSome = true) := Lib.hid (by rw [hl]; rfl)
  obtain ⟨hi, hg, _, hwo⟩ := bin_some hp.hr hat hl
  have HG := Lib.hid hg
  have HWO := Lib.hid hwo
  have hu1 : 0 ≤ u ∧ u ≤ 2147483648 := hp.hv _ (look_mem hl)
  have HA := Lib.hid hA
  obtain ⟨m, hm⟩ : ∃ m, (lineK k).length = m + 1 := ⟨(lineK k).length - 1, by have := (line_len (k := k)).1; omega⟩
  have HM := Lib.hid hm
  have hm3 : m ≤ 2 := by have := (line_len (k := k)).2; omega
  clear hp hat hl hg hwo hA hm
  rcases HOW.out.2 with ⟨_, h0⟩ | ⟨g, cap, cur, e5, hgb, hgc, hgn, hgm, hgs, htk⟩
  · omega
  have HGC := Lib.hid hgc
  clear hgc htk
  go_enter Tryd.func85, Tryd.ntmps85
  subst e5
  go_upto_region 6 with (first | (go_at_call 86; (with_reducible refine (tfind_as _ L k HR.out HLL.out _ ((own_rws HOW.out).sl.ext EXY) i HAT.out _ HSB.out).mono ?_); rintro e w6 ⟨rfl, os6, n6, rfl⟩) | (go_at_call 89; (with_reducible refine (line_own k HW.out _).mono ?_); rintro e w1 ⟨rl, rfl, HPA, os1, n1, rfl⟩; rw [HM.out] at HPA; obtain ⟨pad, pcap, e6⟩ := own_form HPA.out; subst e6; clear HPA))
  go_loopw [28] (fun i wr => ∃ j : Nat, j ≤ L.length ∧ i = .int .i64 j ∧ Hid (∀ q, q < j → abovB k (L.getD q zrw).k = false) ∧ Hid (Ext (w.alloc (.cells #[.int .i64 0, .int .u32 0, .slice none 0 0] 36)) wr)) (fun i _ => L.length - (intOf i).toNat)
  case atStart => exact ⟨0, Nat.zero_le _, rfl, Lib.hid fun q hq => absurd hq (Nat.not_lt_zero _), Lib.hid EXY⟩
  case round =>
    obtain ⟨j, hj, rfl, HT, HE⟩ := hrel
    obtain ⟨os', d', rfl⟩ := HE.out
    clear HE
    by_cases hlt : j < L.length
    · obtain ⟨x, hx⟩ : ∃ x, L.getD j zrw = x := ⟨_, rfl⟩
      have hmem : x ∈ L := by rw [← hx, getD_rw L j hlt]; exact List.getElem_mem _
      have HWX := Lib.hid (HWL.out x hmem)
      obtain ⟨ad9, cap9, e9, hsr, _⟩ := own_rws HOW.out
      cases e9
      obtain ⟨gb, go, e9, hbl, hrw⟩ := hsr.rw hlt
      cases e9
      rw [hx] at hrw
      obtain ⟨r1, r2⟩ := hrw
      simp only [Nat.zero_add] at r1 r2
      have hbl2 : g < w.heap.size + 1 := by omega
      obtain ⟨lx, hlx⟩ : ∃ lx, (lineK x.k).length = lx := ⟨_, rfl⟩
      have HLX := Lib.hid hlx
      have hab : abovB k x.k = (decide (m + 1 < lx) && ((lineK x.k).getD m 0 == k)) := by unfold abovB; rw [HM.out, hlx]; rfl
      have hlx3 : lx ≤ 3 := by have := (line_len (k := x.k)).2; omega
      have i1 : (j : Int) < (L.length : Int) := by omega
      have i2 : (0 : Int) ≤ (j : Int) := by omega
      have HX := Lib.hid hx
      clear hlx hx hmem hsr
      by_cases h8 : m + 1 < lx
      · have g8 : (m : Int) + 1 < (lx : Int) := by omega
        obtain ⟨z, hz⟩ : ∃ z, (lineK x.k).getD m 0 = z := ⟨_, rfl⟩
        have HZ8 := Lib.hid hz
        rw [hz, decide_eq_true h8, Bool.true_and] at hab
        clear hz
        go_upto_region 9 with (go_at_call 89; (with_reducible refine (line_own x.k HWX.out _).mono ?_); rintro e w2 ⟨rx, rfl, HPX, os2, n2, rfl⟩; rw [HLX.out] at HPX; obtain ⟨xad, xcap, e6⟩ := own_form HPX.out; subst e6)
        obtain ⟨ad7, cap7, e7, hs7⟩ := own_sl HPX.out
        cases e7
        obtain ⟨pb, po, rfl, hcs⟩ := hs7.pos (by omega)
        have c0 : (grew ((grew (w.alloc (.cells #[.int .i64 0, .int .u32 0, .slice none 0 0] 36)) os' d').alloc (.cells #[.int .u64 x.k, .int .u64 x.v] 44)) os2 n2).cell? ⟨pb, po + m, none⟩ = some (.int .u64 z) := hcs m _ (by
          have h9 := HZ8.out
          have h7 : m < (lineK x.k).length := by rw [HLX.out]; omega
          rw [List.getD_eq_getElem?_getD, List.getElem?_eq_getElem h7] at h9
          rw [List.getElem?_map, List.getElem?_eq_getElem h7]
          simp at h9
          simp [h9])
        have q5 : IntKind.i64.wrap (m : Int) = (m : Int) := by rw [IntKind.wrap_i64]; omega
        have i3 : (0 : Int) ≤ (m : Int) := by omega
        have i4 : (m : Int) < (lx : Int) := by omega
        clear hcs hs7 HPX
        cases gz : (z == k)
        · rw [gz] at hab
          have HT2 : Hid (∀ q, q < j + 1 → abovB k (L.getD q zrw).k = false) := Lib.hid fun q hq => by
            by_cases e : q = j
            · subst e; rw [HX.out]; exact hab
            · exact HT.out q (by omega)
          clear hab
          go_wp2
          go_roundw
          case rel => exact ⟨j + 1, by omega, by go_num, HT2, Lib.hid EXY⟩
          case measure => simp [intOf]; omega
        · rw [gz] at hab
          have hz9 := HZ.out.1 (by rw [← HA.out]; exact abov_one hlt (by rw [HX.out]; exact hab))
          obtain ⟨rfl, rfl, rfl⟩ := hz9
          clear hab HA HZ
          go_wp2
          refine bodyPost_ret (v := .tuple #[.slice (some ⟨g, 0, none⟩) M.length cap, resV 90 0]) (by simp [results, Tryd.results85, go_sem]) rfl ?_
          exact ⟨_, rfl, own_ext HOW.out EXY, fun U h1 _ => h1.trans EXY⟩
      · rw [decide_eq_false h8, Bool.false_and] at hab
        have g8 : ¬ (m : Int) + 1 < (lx : Int) := by omega
        have HT2 : Hid (∀ q, q < j + 1 → abovB k (L.getD q zrw).k = false) := Lib.hid fun q hq => by
          by_cases e : q = j
          · subst e; rw [HX.out]; exact hab
          · exact HT.out q (by omega)
        clear hab
        go_wp2_with (go_at_call 89; (with_reducible refine (line_own x.k HWX.out _).mono ?_); rintro e w2 ⟨rx, rfl, HPX, os2, n2, rfl⟩; rw [HLX.out] at HPX; obtain ⟨xad, xcap, e6⟩ := own_form HPX.out; subst e6)
        go_roundw
        case rel => exact ⟨j + 1, by omega, by go_num, HT2, Lib.hid EXY⟩
        case measure => simp [intOf]; omega
    · obtain rfl : j = L.length := by omega
      have hz9 := HZ.out.2 (by rw [← HA.out]; exact abov_all HT.out)
      obtain ⟨rfl, rfl, rfl⟩ := hz9
      clear HA HZ HT
      obtain ⟨ad9, cap9, e9, hsr, _⟩ := own_rws HOW.out
      cases e9
      obtain ⟨gb, go, e9, hbl, hrw⟩ := hsr.rw hi
      cases e9
      rw [HG.out] at hrw
      obtain ⟨_, r2⟩ := hrw
      simp only [Nat.zero_add] at r2
      have hbl2 : g < w.heap.size + 1 := by omega
      have j0 : (0 : Int) ≤ (i : Int) := by omega
      have j1 : (i : Int) < (L.length : Int) := by omega
      have q1 : IntKind.u32.wrap word = word := by rw [IntKind.wrap_u32]; omega
      have hbx : (grew (w.alloc (.cells #[.int .i64 0, .int .u32 0, .slice none 0 0] 36)) os' d').heap[w.heap.size]? = some (.cells #[.int .i64 0, .int .u32 0, .slice none 0 0] 36 (0, 0)) := (heap_grew _ _ _ (by simp)).trans ((alloc_heap _ _ _).trans (if_pos rfl))
      have hex : Ext w (grew (w.alloc (.cells #[.int .i64 0, .int .u32 0, .slice none 0 0] 36)) os' d') := EXY
      have HNX := Lib.hid (own_not (own_ext HOW.out hex) hbx (fun cur fr e => by cases e))
      have HBX := Lib.hid hbx
      clear hsr hbx hex
      go_wp2_with (go_at_call 45; refine (del_any _ L i hi base _ (own_ext HOW.out EXY) (by omega)).mono ?_; rintro e w8 ⟨r2, rfl, HO7, hg7⟩; have hbox := grown_at hg7 HBX.out HNX.out; have HO8 := Lib.hid HO7; have HG8 := Lib.hid hg7; have b0 : w8.cell? ⟨w.heap.size, 0, none⟩ = some (.int .i64 0) := (by rw [cell_of_heap hbox]; rfl); have b1 : w8.cell? ⟨w.heap.size, 1, none⟩ = some (.int .u32 0) := (by rw [cell_of_heap hbox]; rfl); have b2 : w8.cell? ⟨w.heap.size, 2, none⟩ = some (.slice none 0 0) := (by rw [cell_of_heap hbox]; rfl); have z0 : w8.frozen? ⟨w.heap.size, 0, none⟩ = false := frozen_of_heap hbox _; have z1 : w8.frozen? ⟨w.heap.size, 1, none⟩ = false := frozen_of_heap hbox _; have z2 : w8.frozen? ⟨w.heap.size, 2, none⟩ = false := frozen_of_heap hbox _; have HBOX := Lib.hid hbox; clear hg7 HO7 hbox)
      refine bodyPost_ret (v := .tuple #[r2, resV 0 word]) (by simp [results, Tryd.results85, go_sem, b0, b1, b2]) rfl ?_
      have h1 := HO8.out
      have hnb := own_not h1 HBOX.out (fun cur fr e => by cases e)
      have hne : r2.ownBlock ≠ some w.heap.size := fun e => hnb _ e rfl
      rw [← HWO.out] at h1
      have hbs := HBS.out
      refine ⟨_, rfl, ownsRow_setCell_other (ownsRow_setCell_other (ownsRow_setCell_other h1 hne _) hne _) hne _, fun U h3 h4 => Ext.setCell (Ext.setCell (Ext.setCell ?_ ?_ _) ?_ _) ?_ _⟩
      · refine ext_grown (h3.trans EXY) HG8.out fun g' hg' => ?_
        cases hg'
        dsimp only
        omega
      all_goals (dsimp only; omega)
end Go.Proofs.YtknfikdignpniaaDoor.paths
