/- The walks of 'SameAll' and of the example of chapter 10. -/
import Derived.Test.YtknfikdignpniaaDoorMd2
import Derived.Test.YtknfikdignpniaaDoorLawP
namespace Go.Proofs.YtknfikdignpniaaDoor
open Go Go.RowKit
set_option maxRecDepth 100000
set_option maxHeartbeats 8000000

theorem sameRes_nil (c v : Int) (w : World) : Calls Tryd.prog 15 #[resM c v (.slice none 0 0), resM c v (.slice none 0 0)] w fun e w' => e = .returned (.bool true) ∧ Ext w w' := by
  have g1 : (c == c) = true := by simp
  have g2 : (v == v) = true := by simp
  go_enter Tryd.func15, Tryd.ntmps15
  go_wp2_with (go_at_call 8; (with_reducible refine (same_refl' _ _ [] _ (Rws.nil _) (Rws.nil _)).mono ?_); rintro e w1 ⟨rfl, os1, n1, rfl⟩)
  go_ret
  exact ⟨rfl, EX⟩
theorem nilRes_at (R : List ARes) (k : Nat) (h : k < R.length) : (nilRes R)[k * 3]? = some (.int .i64 (R.getD k ⟨0, 0, []⟩).code) ∧ (nilRes R)[k * 3 + 1]? = some (.int .u32 (R.getD k ⟨0, 0, []⟩).word) ∧ (nilRes R)[k * 3 + 2]? = some (.slice none 0 0) := by
  induction R generalizing k with
  | nil => cases h
  | cons r R ih =>
    have e : nilRes (r :: R) = .int .i64 r.code :: .int .u32 r.word :: .slice none 0 0 :: nilRes R := by simp [nilRes]
    cases k with
    | zero => rw [e]; simp
    | succ k =>
      have h' : k < R.length := by simpa using h
      obtain ⟨a, b, d⟩ := ih k h'
      rw [e, show (k + 1) * 3 = k * 3 + 3 by omega]
      simp only [List.getD_cons_succ]
      exact ⟨by simpa using a, by simpa using b, by simpa using d⟩
theorem sl_res {w : World} {ad : Option Addr} {cap : Nat} {R : List ARes} (h : SlAt w ad R.length cap (nilRes R)) {k : Nat} (hk : k < R.length) :
    ∃ b o, ad = some ⟨b, o, none⟩ ∧ b < w.heap.size ∧ w.cell? ⟨b, o + k * 3, none⟩ = some (.int .i64 (R.getD k ⟨0, 0, []⟩).code) ∧ w.cell? ⟨b, o + k * 3 + 1, none⟩ = some (.int .u32 (R.getD k ⟨0, 0, []⟩).word) ∧ w.cell? ⟨b, o + k * 3 + 2, none⟩ = some (.slice none 0 0) := by
  obtain ⟨c0, c1, c2⟩ := nilRes_at R k hk
  obtain ⟨_, _, h3⟩ := h
  rcases h3 with ⟨_, h⟩ | ⟨b, o, e, hc⟩
  · rw [h] at c0; simp at c0
  · exact ⟨b, o, e, World.block_lt_of_cell? w _ (hc _ _ c0), hc _ _ c0, hc _ _ c1, hc _ _ c2⟩
theorem sameAll_any (v u : Value) (R : List ARes) (w : World) (hv : Sl w v R.length (nilRes R)) (hu : Sl w u R.length (nilRes R)) : Calls Tryd.prog 10 #[v, u] w fun e w' => e = .returned (.bool true) ∧ Ext w w' := by
  obtain ⟨ad, cap, rfl, hs⟩ := hv
  obtain ⟨ad2, cap2, rfl, hs2⟩ := hu
  have hm := hs.len
  have HS := Lib.hid hs
  have HS2 := Lib.hid hs2
  have gl : ((R.length : Int) != (R.length : Int)) = false := by simp
  clear hs hs2
  go_enter Tryd.func10, Tryd.ntmps10
  go_wp2
  go_loopw [5, 15] (fun i _ wr => ∃ k : Nat, k ≤ R.length ∧ i = .int .i64 k ∧ Hid (Ext w wr)) (fun i _ _ => R.length - (intOf i).toNat)
  case atStart => exact ⟨0, Nat.zero_le _, rfl, Lib.hid (Ext.refl _)⟩
  case round =>
    obtain ⟨k, hk, rfl, HE⟩ := hrel
    by_cases hlt : k < R.length
    · obtain ⟨b, o, rfl, hb, r1, r2, r3⟩ := sl_res (HS.out.ext HE.out) hlt
      obtain ⟨b2, o2, rfl, hb2, q1, q2, q3⟩ := sl_res (HS2.out.ext HE.out) hlt
      obtain ⟨x, hx⟩ : ∃ x, (R.getD k ⟨0, 0, []⟩).code = x := ⟨_, rfl⟩
      obtain ⟨y, hy⟩ : ∃ y, (R.getD k ⟨0, 0, []⟩).word = y := ⟨_, rfl⟩
      rw [hx] at r1 q1
      rw [hy] at r2 q2
      have i0 : (0 : Int) ≤ (k : Int) := by omega
      have i1 : (k : Int) < (R.length : Int) := by omega
      clear hx hy
      go_wp2
      (refine wp_region_ext_lit (by kernel_rfl) (by kernel_rfl) ?_); (repeat (go_big_quiet_step ((go_at_call 15; exact quiet_ext ((sameRes_nil x y _).mono fun e w' h => h))))); (refine wpQuiet_nil ?_; intro _ hw'; obtain ⟨⟨osq, nq⟩, hw''⟩ := hw'; replace hw'' : _ = grew _ osq nq := hw''; subst hw'')
      go_wp2
      go_roundw
      case rel => exact ⟨k + 1, by omega, by go_num, Lib.hid (HE.out.trans EXY)⟩
      case measure => simp [intOf]; omega
    · obtain rfl : k = R.length := by omega
      go_wp2
      go_ret
      exact ⟨rfl, HE.out.trans EXY⟩

theorem conf_any (w : World) : Calls Tryd.prog 9 #[] w fun e w' => e = .returned ((Cfg.mk 3 2 1 1 0 0 2 0 1 0 131072 0)).v ∧ Ext w w' := by
  go_enter Tryd.func9, Tryd.ntmps9
  go_wp2
  refine bodyPost_ret (v := ((Cfg.mk 3 2 1 1 0 0 2 0 1 0 131072 0)).v) (by simp [results, Tryd.results9, go_sem, Cfg.v]) rfl ⟨rfl, EX⟩
theorem alive_plain (B : Int → Bool) : mdFold B (Cfg.mk 3 2 1 1 0 0 2 0 1 0 131072 0) [Opn.mk 9 1 1 2, Opn.mk 11 1 1 0, Opn.mk 11 2 1 0, Opn.mk 10 5 5 0] [] = ([⟨65537, 2⟩], [ARes.mk 0 0 [], ARes.mk 0 2 [], ARes.mk 0 0 [], ARes.mk 6 0 []]) := by
  kernel_rfl
theorem alive_conf : partOk (Cfg.mk 3 2 1 1 0 0 2 0 1 0 131072 0) = true := by kernel_rfl
end Go.Proofs.YtknfikdignpniaaDoor
/- The walk of the example of chapter 10. -/
namespace Go.Proofs.YtknfikdignpniaaDoor
open Go Go.RowKit
set_option maxRecDepth 100000
set_option maxHeartbeats 8000000

/-- A slice that lies in a new block by itself. -/
theorem sl_new (W : World) (b n : Nat) (C : Array Value) (t : TypeId) (f : Nat × Nat) (cs : List Value) (hb : W.heap.size = b) (hn : n ≤ maxLen) (hcs : C.toList = cs) : Sl (W.alloc (.cells C t f)) (.slice (some ⟨b, 0, none⟩) n n) n cs := by
  subst hcs hb
  refine ⟨_, n, rfl, Nat.le_refl _, hn, Or.inr ⟨W.heap.size, 0, rfl, fun j u hu => ?_⟩⟩
  have ho : (W.alloc (.cells C t f)).heap[W.heap.size]? = some (.cells C t f) := by rw [alloc_heap, if_pos rfl]
  rw [Nat.zero_add, cell_of_heap ho, ← hu, Array.getElem?_toList]
theorem tabQ_B {w : World} (h : TabQ w) : ∃ B : Int → Bool, ∀ k : Int, 1 ≤ k → k ≤ 14 → order.WrAt w k (B k) := by
  classical
  refine ⟨fun k => if q : ∃ b, order.WrAt w k b then q.choose else false, fun k h1 h2 => ?_⟩
  have q : ∃ b, order.WrAt w k b := order.wrAt_of h (by omega) (by omega)
  dsimp only
  rw [dif_pos q]
  exact q.choose_spec
theorem own_sl3 {w : World} {base n : Nat} {e : TypeId} {v : Value} {xs : List Value} (h : w.ownsRow base e 3 v n xs) : Sl w v n xs := by
  obtain ⟨h1, h2⟩ := h
  rcases h2 with ⟨rfl, rfl⟩ | ⟨g, cap, cur, rfl, hg, hc, hn, hcap, hs, ht⟩
  · obtain rfl : xs = [] := List.length_eq_zero_iff.1 (by simpa using h1)
    exact Sl.nil w
  · refine ⟨_, _, rfl, hn, hcap, Or.inr ⟨g, 0, rfl, fun j u hu => ?_⟩⟩
    have hj : j < xs.length := (List.getElem?_eq_some_iff.1 hu).1
    rw [← ht, List.getElem?_take] at hu
    split at hu
    · simp only [World.cell?, hc, Option.isSome_none, Bool.false_eq_true, if_false, Nat.zero_add]
      simpa using hu
    · cases hu
theorem fold_alive (B : Int → Bool) (v : Value) (w : World) (ht : Tab w) (hw : ∀ k : Int, 1 ≤ k → k ≤ 14 → order.WrAt w k (B k)) (hv : Sl w v 4 (opCells [Opn.mk 9 1 1 2, Opn.mk 11 1 1 0, Opn.mk 11 2 1 0, Opn.mk 10 5 5 0])) :
    Calls Tryd.prog 5 #[((Cfg.mk 3 2 1 1 0 0 2 0 1 0 131072 0)).v, v] w fun e w' => ∃ r t, e = .returned (.tuple #[r, t, .int .i64 0]) ∧ Hid (Rws w' r [⟨65537, 2⟩]) ∧ Hid (Sl w' t 4 (nilRes [ARes.mk 0 0 [], ARes.mk 0 2 [], ARes.mk 0 0 [], ARes.mk 6 0 []])) ∧ Ext w w' := by
  have hfit : OpsFit [Opn.mk 9 1 1 2, Opn.mk 11 1 1 0, Opn.mk 11 2 1 0, Opn.mk 10 5 5 0] := fun x hx => by
    simp only [List.mem_cons, List.not_mem_nil, or_false] at hx
    rcases hx with rfl | rfl | rfl | rfl <;> exact ⟨by decide, by decide, by decide, by decide⟩
  refine (fold_md B (Cfg.mk 3 2 1 1 0 0 2 0 1 0 131072 0) alive_conf [Opn.mk 9 1 1 2, Opn.mk 11 1 1 0, Opn.mk 11 2 1 0, Opn.mk 10 5 5 0] hfit v w ht (fun x q1 q2 => hw x.kind q1 q2) hv (by decide) (alive_plain B)).mono fun e w' h => ?_
  obtain ⟨r, t, xs, rfl, h1, h2, h3, h4⟩ := h
  refine ⟨r, t, rfl, h1, Lib.hid ?_, h4⟩
  have := own_sl3 h2.out
  rw [h3.out (by rfl)] at this
  exact this
theorem sl_ans (W : World) (b : Nat) (hb : W.heap.size = b) : Sl (W.alloc (.cells #[.int .i64 0, .int .u32 0, .slice none 0 0, .int .i64 0, .int .u32 2, .slice none 0 0, .int .i64 0, .int .u32 0, .slice none 0 0, .int .i64 6, .int .u32 0, .slice none 0 0] 36)) (.slice (some ⟨b, 0, none⟩) 4 4) 4 (nilRes [ARes.mk 0 0 [], ARes.mk 0 2 [], ARes.mk 0 0 [], ARes.mk 6 0 []]) :=
  sl_new W b 4 _ _ _ _ hb (by decide) rfl
theorem alive_any (B : Int → Bool) (w : World) (ht : Tab w) (hw : ∀ k : Int, 1 ≤ k → k ≤ 14 → order.WrAt w k (B k)) : Calls Tryd.prog 4 #[] w fun e w' => e = .returned (.bool true) ∧ Ext w w' := by
  have HT := Lib.hid ht
  have HW := Lib.hid hw
  clear ht hw
  go_enter Tryd.func4, Tryd.ntmps4
  go_wp2_with (first | (go_at_call 9; refine (conf_any _).mono ?_; rintro e w1 ⟨rfl, os1, n1, rfl⟩) | (go_at_call 5; (refine (fold_alive B _ _ (Tab.ext HT.out EXY) (fun k q1 q2 => (HW.out k q1 q2).ext EXY) (by exact sl_new _ _ 4 _ _ _ _ (by simp [go_sem]) (by decide) rfl)).mono ?_); rintro e w2 ⟨r, t, rfl, HR, HA, os2, n2, rfl⟩) | (go_at_call 8; (with_reducible refine (same_refl' _ _ [⟨65537, 2⟩] _ (HR.out.ext EXY) (by exact rws1 (by decide) (by decide) (by simp [go_sem]) (by simp [go_sem]))).mono ?_); rintro e w3 ⟨rfl, os3, n3, rfl⟩) | (go_at_call 10; (refine (sameAll_any _ _ [ARes.mk 0 0 [], ARes.mk 0 2 [], ARes.mk 0 0 [], ARes.mk 6 0 []] _ (HA.out.ext EXY) (by exact sl_ans _ _ (by first | (simp [go_sem]; done) | (simp [go_sem]; omega)))).mono ?_); rintro e w4 ⟨rfl, os4, n4, rfl⟩))
  go_ret
  exact ⟨rfl, EXY⟩
end Go.Proofs.YtknfikdignpniaaDoor
/- The walk of 'ModelRefuses'. -/
namespace Go.Proofs.YtknfikdignpniaaDoor
open Go Go.RowKit
set_option maxRecDepth 100000
set_option maxHeartbeats 8000000

theorem modelRefuses_true (c : Cfg) (A : List Opn) (o : Opn) (hA : OpsFit A) (ho : o.Fits) (v : Value) (w : World) (ht : TabQ w) (hv : Sl w v A.length (opCells A)) : Calls Tryd.prog 3 #[c.v, v, o.v] w
    fun e w' => e = .returned (.bool true) ∧ Ext w w' := by
  obtain ⟨B, hB⟩ := tabQ_B ht
  have HB := Lib.hid hB
  have HT := Lib.hid ht.1
  have HV := Lib.hid hv
  have HAF := Lib.hid hA
  have HO := Lib.hid ho
  obtain ⟨ad, cap, hvv, hs⟩ := hv
  have hln := hs.len
  clear ht hA ho hs hB
  by_cases hn : A.length ≤ 60
  · have hn2 : ¬ (60 : Int) < (A.length : Int) := by omega
    have HLN := Lib.hid hn
    cases hp : partOk c
    · have HP := Lib.hid hp
      have HE : Hid (opErr c o = 40) := Lib.hid (opErr_conf hp)
      clear hp hn
      go_enter Tryd.func3, Tryd.ntmps3
      subst hvv
      go_wp2_with (first | (go_at_call 4; (with_reducible refine (alive_any B _ (Tab.ext HT.out EXY) (fun k q1 q2 => (HB.out k q1 q2).ext EXY)).mono ?_); rintro e w1 ⟨rfl, os1, n1, rfl⟩) | (go_at_call 5; (with_reducible refine (fold_no c HP.out A _ _ (by exact HV.out.ext EXY)).mono ?_); rintro e w2 ⟨rfl, os2, n2, rfl⟩) | (go_at_call 6; (with_reducible refine (do_conf c _ o _ HP.out).mono ?_); rintro e w3 ⟨a, ad3, cap3, rfl, HA, HQ, _, os3, n3, rfl⟩; have ha5 := HA.out; (try simp only [drew_grew] at ha5); (try simp only [grew_grew] at ha5); clear HA; have HA := Lib.hid ha5; clear ha5))
      go_ret
      exact ⟨rfl, EXY⟩
    · have HP := Lib.hid hp
      obtain ⟨M, R, hfd⟩ : ∃ M R, mdFold B c A [] = (M, R) := ⟨_, _, rfl⟩
      have hst : mdIs c M = true ∧ RwsFit M := fold_state B hp HAF.out A.length (M := M) (R := R) (by rw [List.take_length]; exact hfd)
      have HML : Hid (M.length ≤ 900) := Lib.hid (by have := (md_len hst.2 hst.1).2; omega)
      have HFM := Lib.hid hst.2
      obtain ⟨N, dc, dw, res, de, hZ⟩ : ∃ N dc dw res de, mdDo B c M o = ⟨N, dc, dw, res, de⟩ := ⟨_, _, _, _, _, rfl⟩
      obtain ⟨hde, _, _⟩ := md_is B hp hst.2 HO.out hst.1 hZ
      subst hde
      have HFD := Lib.hid hfd
      cases hbad : (opErr c o == 0)
      · have hz := mdDo_bad B hp hst.1 hbad
        rw [hZ] at hz
        cases hz
        have HZ := Lib.hid hZ
        obtain ⟨E, hE⟩ : ∃ E, opErr c o = E := ⟨_, rfl⟩
        rw [hE] at hbad HZ
        have hE2 : (E != 0) = true := by simp [bne, hbad]
        have g1 : (E == E) = true := by simp
        have HE := Lib.hid hE
        clear hp hn hst hZ hfd hE
        go_enter Tryd.func3, Tryd.ntmps3
        subst hvv
        go_wp2_with (first | (go_at_call 4; (with_reducible refine (alive_any B _ (Tab.ext HT.out EXY) (fun k q1 q2 => (HB.out k q1 q2).ext EXY)).mono ?_); rintro e w1 ⟨rfl, os1, n1, rfl⟩) | (go_at_call 5; (with_reducible refine (fold_md B c HP.out A HAF.out _ _ (Tab.ext HT.out EXY) (fun x q1 q2 => (HB.out x.kind q1 q2).ext EXY) (by exact HV.out.ext EXY) HLN.out HFD.out).mono ?_); rintro e w2 ⟨r, t, xs, rfl, HR, _, _, os2, n2, rfl⟩; have ha5 := HR.out; (try simp only [drew_grew] at ha5); (try simp only [grew_grew] at ha5); clear HR; have HR := Lib.hid ha5; clear ha5) | (go_at_call 6; (with_reducible refine (do_md B c _ M HFM.out o HO.out _ (Tab.ext HT.out EXY) (fun q1 q2 => (HB.out o.kind q1 q2).ext EXY) (HR.out.ext EXY) HML.out HZ.out).mono ?_); rintro e w3 ⟨a, ad3, cap3, rfl, HA, HQ, _, os3, n3, rfl⟩; have ha5 := HA.out; (try simp only [drew_grew] at ha5); (try simp only [grew_grew] at ha5); clear HA; have HA := Lib.hid ha5; clear ha5) | (go_at_call 7; (with_reducible refine (opCheck_any c o HO.out _ (Tab.ext HT.out EXY)).mono ?_); rintro e w4 ⟨rfl, os4, n4, rfl⟩; rw [HE.out]) | (go_at_call 8; (with_reducible refine (same_refl' _ _ M _ ((own_rws HA.out).ext EXY) (HR.out.ext EXY)).mono ?_); rintro e w5 ⟨rfl, os5, n5, rfl⟩))
        go_ret
        exact ⟨rfl, EXY⟩
      · obtain ⟨q1, q2, q3⟩ := md_code B hp hst.2 HO.out hst.1 hbad hZ
        have HZ := Lib.hid hZ
        have HE : Hid (opErr c o = 0) := Lib.hid (by simpa using hbad)
        have g1 : (dc != 50) = true := by simpa [bne] using q1
        have g2 : (dc != 10) = true := by simpa [bne] using q2
        have g3 : (dc != 40) = true := by simpa [bne] using q3
        clear hp hn hst hZ hfd hbad q1 q2 q3
        go_enter Tryd.func3, Tryd.ntmps3
        subst hvv
        go_wp2_with (first | (go_at_call 4; (with_reducible refine (alive_any B _ (Tab.ext HT.out EXY) (fun k q1 q2 => (HB.out k q1 q2).ext EXY)).mono ?_); rintro e w1 ⟨rfl, os1, n1, rfl⟩) | (go_at_call 5; (with_reducible refine (fold_md B c HP.out A HAF.out _ _ (Tab.ext HT.out EXY) (fun x q1 q2 => (HB.out x.kind q1 q2).ext EXY) (by exact HV.out.ext EXY) HLN.out HFD.out).mono ?_); rintro e w2 ⟨r, t, xs, rfl, HR, _, _, os2, n2, rfl⟩; have ha5 := HR.out; (try simp only [drew_grew] at ha5); (try simp only [grew_grew] at ha5); clear HR; have HR := Lib.hid ha5; clear ha5) | (go_at_call 6; (with_reducible refine (do_md B c _ M HFM.out o HO.out _ (Tab.ext HT.out EXY) (fun q1 q2 => (HB.out o.kind q1 q2).ext EXY) (HR.out.ext EXY) HML.out HZ.out).mono ?_); rintro e w3 ⟨a, ad3, cap3, rfl, HA, HQ, _, os3, n3, rfl⟩; have ha5 := HA.out; (try simp only [drew_grew] at ha5); (try simp only [grew_grew] at ha5); clear HA; have HA := Lib.hid ha5; clear ha5) | (go_at_call 7; (with_reducible refine (opCheck_any c o HO.out _ (Tab.ext HT.out EXY)).mono ?_); rintro e w4 ⟨rfl, os4, n4, rfl⟩; rw [HE.out]))
        go_ret
        exact ⟨rfl, EXY⟩
  · have hn2 : (60 : Int) < (A.length : Int) := by omega
    go_enter Tryd.func3, Tryd.ntmps3
    subst hvv
    go_wp2_with (go_at_call 4; (with_reducible refine (alive_any B _ (Tab.ext HT.out EXY) (fun k q1 q2 => (HB.out k q1 q2).ext EXY)).mono ?_); rintro e w1 ⟨rfl, os1, n1, rfl⟩)
    go_ret
    exact ⟨rfl, EXY⟩
end Go.Proofs.YtknfikdignpniaaDoor
