/- The walk of the document's answer for an index in order (layer 7): 'Do'. -/
import Derived.Test.YthecacdofbhblaaDoorOrdR3
namespace Go.Proofs.YthecacdofbhblaaDoor
open Go Go.RowKit

def DoRP (w : World) (Z : Outc) (e : Ending) (w' : World) : Prop := ∃ r ad cap, e = .returned (.tuple #[r, resR Z.code Z.word (.slice ad Z.res.length cap), .int .i64 Z.err]) ∧ w'.ownsRow w.heap.size 37 2 r Z.rows.length (rwCells Z.rows) ∧
  w'.ownsRow w.heap.size 37 2 (.slice ad Z.res.length cap) Z.res.length (rwCells Z.res) ∧ Ext w w'
theorem dor_p {w w' : World} {Z : Outc} {r : Value} {rows : List Rw} {code word err : Int} (hZ : Z = ⟨rows, code, word, [], err⟩) (h1 : w'.ownsRow w.heap.size 37 2 r rows.length (rwCells rows)) (h2 : Ext w w') : DoRP w Z (.returned (.tuple #[r, resR code word (.slice none 0 0), .int .i64 err])) w' := by
  subst hZ
  exact ⟨r, none, 0, rfl, h1, own_nil _ _ _ _, h2⟩
theorem dor_pr {w w' : World} {Z : Outc} {r : Value} {rows res : List Rw} {code word err : Int} {ad : Option Addr} {cap : Nat} (hZ : Z = ⟨rows, code, word, res, err⟩) (h1 : w'.ownsRow w.heap.size 37 2 r rows.length (rwCells rows))
    (h2 : w'.ownsRow w.heap.size 37 2 (.slice ad res.length cap) res.length (rwCells res)) (h4 : Ext w w') : DoRP w Z (.returned (.tuple #[r, resR code word (.slice ad res.length cap), .int .i64 err])) w' := by
  subst hZ
  exact ⟨r, ad, cap, rfl, h1, h2, h4⟩
theorem ordRead_as (L : List Rw) (o : Opn) : ∃ code word res, ordRead L o = ⟨L, code, word, res, 0⟩ := by
  unfold ordRead
  split
  · split <;> exact ⟨_, _, _, rfl⟩
  · split
    · exact ⟨_, _, _, rfl⟩
    · split <;> exact ⟨_, _, _, rfl⟩
theorem ordDone_as (c : Cfg) (L : List Rw) (o : Opn) : ∃ M dc dw res, ordDone c L o = ⟨M, dc, dw, res, 0⟩ ∧ M.length ≤ L.length + 1 := by
  unfold ordDone
  have h1 := withK_len_le o.a o.b L
  have h2 := withoutK_len o.a L
  split
  · obtain ⟨_, _, _, h⟩ := ordRead_as L o
    rw [h]
    exact ⟨_, _, _, _, rfl, by omega⟩
  · split
    · split
      · exact ⟨_, _, _, _, rfl, by omega⟩
      · split
        · exact ⟨_, _, _, _, rfl, by omega⟩
        · exact ⟨_, _, _, _, rfl, by omega⟩
    · split
      · exact ⟨_, _, _, _, rfl, by omega⟩
      · exact ⟨_, _, _, _, rfl, by omega⟩
def DoneAs (c : Cfg) (L : List Rw) (o : Opn) (M res : List Rw) (dc dw : Int) : Prop := o.Fits ∧ (∀ x ∈ L, RowOk x) ∧ Rises L ∧ L.length ≤ 1000 ∧ (o.kind = 4 ∨ o.kind = 5 ∨ o.kind = 6 ∨ o.kind = 7 ∨ o.kind = 8) ∧ ordDone c L o = ⟨M, dc, dw, res, 0⟩
theorem doneR_as (c : Cfg) (v : Value) (L : List Rw) (o : Opn) (M res : List Rw) (dc dw : Int) (h : DoneAs c L o M res dc dw) (w : World) (hv : Rws w v L) :
    Calls Tryd.prog 33 #[c.v, v, o.v] w fun e w' => ∃ r ad cap, e = .returned (.tuple #[r, resR dc dw (.slice ad res.length cap)]) ∧ Hid (Rws w' r M) ∧ Hid (w'.ownsRow w.heap.size 37 2 (.slice ad res.length cap) res.length (rwCells res)) ∧ Ext w w' := by
  obtain ⟨h1, h2, h3, h4, h5, h8⟩ := h
  refine (doneR_any c v L o h1 h2 h3 h4 h5 w hv).mono fun e w' hh => ?_
  rw [h8] at hh
  obtain ⟨r, ad, cap, rfl, a, b, d⟩ := hh
  exact ⟨r, ad, cap, rfl, Lib.hid a, Lib.hid b, d⟩
set_option maxRecDepth 100000 in
set_option maxHeartbeats 4000000 in
theorem doR_ok (c : Cfg) (v : Value) (L : List Rw) (o : Opn) (w : World) (Z : Outc) (HC : Hid (partOk c = true)) (_h1 : (c.object == 2) = true) (h1' : (c.object != 2) = false) (HI : Hid (ordIs c L = true)) (HE : Hid (opErr c o = 0))
    {M res : List Rw} {dc dw : Int} (HOD : Hid (DoneAs c L o M res dc dw)) (HZ2 : Hid (Z = ⟨M, dc, dw, res, 0⟩)) (HLD : Hid (M.length ≤ 10000)) (HV : Hid (Rws w v L)) (HF : Hid (RwsFit L)) (HO : Hid o.Fits) (_hn : L.length ≤ 1000) :
    Calls Tryd.prog 16 #[c.v, v, o.v] w (DoRP w Z) := by
  go_enter Tryd.func16, Tryd.ntmps16
  go_wp2_with (first | (go_at_call 30; (with_reducible refine (mayBe_any c _).mono ?_); rintro e w1 ⟨rfl, os1, n1, rfl⟩; rw [HC.out]) | (go_at_call 17; (with_reducible refine (isR_any c _ L HF.out _ (HV.out.sl.ext (by first | ((repeat (first | with_reducible exact Ext.refl _ | with_reducible assumption | with_reducible refine Ext.alloc ?_ _ | with_reducible refine Ext.gr ?_ _ | with_reducible refine Ext.drewN ?_ _ | with_reducible refine Ext.drew ?_ | with_reducible refine Ext.setCell ?_ ?_ _ | with_reducible refine Ext.more ?_ _ _ | (show _ ≤ _; dsimp only; omega))); done) | ((repeat (first | with_reducible exact Ext.refl _ | with_reducible assumption | with_reducible apply Ext.bothR | with_reducible refine Ext.alloc ?_ _ | with_reducible refine Ext.gr ?_ _ | with_reducible refine Ext.drewN ?_ _ | with_reducible refine Ext.drew ?_ | with_reducible refine Ext.setCell ?_ ?_ _ | with_reducible refine Ext.more ?_ _ _ | (show _ ≤ _; dsimp only; omega))); done) | ((repeat (first | with_reducible exact Ext.refl _ | with_reducible exact Ext.sameG _ _ _ _ | with_reducible assumption | with_reducible refine Ext.bothR (n := 0) ?_ | with_reducible refine Ext.alloc ?_ _ | with_reducible refine Ext.gr ?_ _ | with_reducible refine Ext.drewN ?_ _ | with_reducible refine Ext.drew ?_ | with_reducible refine Ext.setCell ?_ ?_ _ | with_reducible refine Ext.more ?_ _ _ | (show _ ≤ _; dsimp only; omega))); done)))).mono ?_); rintro e w2 ⟨rfl, os2, n2, rfl⟩; rw [HI.out]) | (go_at_call 31; (with_reducible refine (opCheckR_any c o HO.out _).mono ?_); rintro e w3 ⟨rfl, os3, n3, rfl⟩; rw [HE.out]) | (go_at_call 33; (with_reducible refine (doneR_as c _ L o M res dc dw HOD.out _ (HV.out.ext (by first | ((repeat (first | with_reducible exact Ext.refl _ | with_reducible assumption | with_reducible refine Ext.alloc ?_ _ | with_reducible refine Ext.gr ?_ _ | with_reducible refine Ext.drewN ?_ _ | with_reducible refine Ext.drew ?_ | with_reducible refine Ext.setCell ?_ ?_ _ | with_reducible refine Ext.more ?_ _ _ | (show _ ≤ _; dsimp only; omega))); done) | ((repeat (first | with_reducible exact Ext.refl _ | with_reducible assumption | with_reducible apply Ext.bothR | with_reducible refine Ext.alloc ?_ _ | with_reducible refine Ext.gr ?_ _ | with_reducible refine Ext.drewN ?_ _ | with_reducible refine Ext.drew ?_ | with_reducible refine Ext.setCell ?_ ?_ _ | with_reducible refine Ext.more ?_ _ _ | (show _ ≤ _; dsimp only; omega))); done) | ((repeat (first | with_reducible exact Ext.refl _ | with_reducible exact Ext.sameG _ _ _ _ | with_reducible assumption | with_reducible refine Ext.bothR (n := 0) ?_ | with_reducible refine Ext.alloc ?_ _ | with_reducible refine Ext.gr ?_ _ | with_reducible refine Ext.drewN ?_ _ | with_reducible refine Ext.drew ?_ | with_reducible refine Ext.setCell ?_ ?_ _ | with_reducible refine Ext.more ?_ _ _ | (show _ ≤ _; dsimp only; omega))); done)))).mono ?_); rintro e w4 ⟨rd, ad2, cap2, rfl, HRD, HQ, os4, n4, rfl⟩; have hrd := HRD.out; (try simp only [grew_grew] at hrd); clear HRD; have HRD := Lib.hid hrd; clear hrd; have hq := HQ.out; (try simp only [grew_grew] at hq); clear HQ; have HQ := Lib.hid hq; clear hq))
  go_region_held3 (fun W => W.cell? ⟨w.heap.size + 1 + 1 + 1 + cnt (both (both (both os1 os2) os3) os4), 0, none⟩ = some (.int .i64 dc) ∧ W.cell? ⟨w.heap.size + 1 + 1 + 1 + cnt (both (both (both os1 os2) os3) os4), 1, none⟩ = some (.int .u32 dw) ∧ W.cell? ⟨w.heap.size + 1 + 1 + 1 + cnt (both (both (both os1 os2) os3) os4), 2, none⟩ = some (.slice ad2 res.length cap2)) (simp [go_sem]) (first | (go_at_call 32; (with_reducible refine (copy_any _ M HLD.out _ (HRD.out.ext (by first | ((repeat (first | with_reducible exact Ext.refl _ | with_reducible assumption | with_reducible refine Ext.alloc ?_ _ | with_reducible refine Ext.gr ?_ _ | with_reducible refine Ext.drewN ?_ _ | with_reducible refine Ext.drew ?_ | with_reducible refine Ext.setCell ?_ ?_ _ | with_reducible refine Ext.more ?_ _ _ | (show _ ≤ _; dsimp only; omega))); done) | ((repeat (first | with_reducible exact Ext.refl _ | with_reducible assumption | with_reducible apply Ext.bothR | with_reducible refine Ext.alloc ?_ _ | with_reducible refine Ext.gr ?_ _ | with_reducible refine Ext.drewN ?_ _ | with_reducible refine Ext.drew ?_ | with_reducible refine Ext.setCell ?_ ?_ _ | with_reducible refine Ext.more ?_ _ _ | (show _ ≤ _; dsimp only; omega))); done) | ((repeat (first | with_reducible exact Ext.refl _ | with_reducible exact Ext.sameG _ _ _ _ | with_reducible assumption | with_reducible refine Ext.bothR (n := 0) ?_ | with_reducible refine Ext.alloc ?_ _ | with_reducible refine Ext.gr ?_ _ | with_reducible refine Ext.drewN ?_ _ | with_reducible refine Ext.drew ?_ | with_reducible refine Ext.setCell ?_ ?_ _ | with_reducible refine Ext.more ?_ _ _ | (show _ ≤ _; dsimp only; omega))); done)))).mono ?_); rintro e w5 ⟨r, rfl, HC4, os5, n5, rfl⟩; have HOW := Lib.hid HC4; clear HC4))
  all_goals go_wp2
  all_goals refine bodyPost_ret (v := .tuple #[r, resR dc dw (.slice ad2 res.length cap2), .int .i64 0]) (by simp [results, Tryd.results16, go_sem]) rfl ?_
  all_goals
    have HO' := HOW.out
    (try simp only [drew_grew] at HO')
    exact dor_pr HZ2.out (own_low (own_swap (by simp [go_sem]) HO' (by first | (simp [go_sem]; done) | (simp [go_sem]; omega))) (by first | (simp [go_sem]; done) | (simp [go_sem]; omega)))
      (own_low (own_ext (own_swap (B' := (((w.alloc (.cells #[.int .u8 c.object, .int .i64 c.instances, .int .i64 c.threads, .int .u8 c.kind, .int .i64 c.stripes, .int .i64 c.bits, .int .i64 c.cap, .int .i64 c.node, .int .i64 c.batch, .int .i64 c.chunk, .int .u64 c.limit, .int .u64 c.most] 32)).alloc (.cells #[.int .u8 o.kind, .int .u32 o.a, .int .u32 o.b, .int .u32 o.c] 34)).alloc (.cells #[.int .i64 dc, .int .u32 dw, .slice ad2 res.length cap2] 27))) (d' := n4) (by simp [go_sem]) HQ.out (by first | (simp [go_sem]; done) | (simp [go_sem]; omega))) (by first | ((repeat (first | with_reducible exact Ext.refl _ | with_reducible assumption | with_reducible refine Ext.alloc ?_ _ | with_reducible refine Ext.gr ?_ _ | with_reducible refine Ext.drewN ?_ _ | with_reducible refine Ext.drew ?_ | with_reducible refine Ext.setCell ?_ ?_ _ | with_reducible refine Ext.more ?_ _ _ | (show _ ≤ _; dsimp only; omega))); done) | ((repeat (first | with_reducible exact Ext.refl _ | with_reducible assumption | with_reducible apply Ext.bothR | with_reducible refine Ext.alloc ?_ _ | with_reducible refine Ext.gr ?_ _ | with_reducible refine Ext.drewN ?_ _ | with_reducible refine Ext.drew ?_ | with_reducible refine Ext.setCell ?_ ?_ _ | with_reducible refine Ext.more ?_ _ _ | (show _ ≤ _; dsimp only; omega))); done) | ((repeat (first | with_reducible exact Ext.refl _ | with_reducible exact Ext.sameG _ _ _ _ | with_reducible assumption | with_reducible refine Ext.bothR (n := 0) ?_ | with_reducible refine Ext.alloc ?_ _ | with_reducible refine Ext.gr ?_ _ | with_reducible refine Ext.drewN ?_ _ | with_reducible refine Ext.drew ?_ | with_reducible refine Ext.setCell ?_ ?_ _ | with_reducible refine Ext.more ?_ _ _ | (show _ ≤ _; dsimp only; omega))); done))) (by first | (simp [go_sem]; done) | (simp [go_sem]; omega))) (by first | ((repeat (first | with_reducible exact Ext.refl _ | with_reducible assumption | with_reducible refine Ext.alloc ?_ _ | with_reducible refine Ext.gr ?_ _ | with_reducible refine Ext.drewN ?_ _ | with_reducible refine Ext.drew ?_ | with_reducible refine Ext.setCell ?_ ?_ _ | with_reducible refine Ext.more ?_ _ _ | (show _ ≤ _; dsimp only; omega))); done) | ((repeat (first | with_reducible exact Ext.refl _ | with_reducible assumption | with_reducible apply Ext.bothR | with_reducible refine Ext.alloc ?_ _ | with_reducible refine Ext.gr ?_ _ | with_reducible refine Ext.drewN ?_ _ | with_reducible refine Ext.drew ?_ | with_reducible refine Ext.setCell ?_ ?_ _ | with_reducible refine Ext.more ?_ _ _ | (show _ ≤ _; dsimp only; omega))); done) | ((repeat (first | with_reducible exact Ext.refl _ | with_reducible exact Ext.sameG _ _ _ _ | with_reducible assumption | with_reducible refine Ext.bothR (n := 0) ?_ | with_reducible refine Ext.alloc ?_ _ | with_reducible refine Ext.gr ?_ _ | with_reducible refine Ext.drewN ?_ _ | with_reducible refine Ext.drew ?_ | with_reducible refine Ext.setCell ?_ ?_ _ | with_reducible refine Ext.more ?_ _ _ | (show _ ≤ _; dsimp only; omega))); done))
set_option maxRecDepth 100000 in
set_option maxHeartbeats 8000000 in
theorem doR_any (c : Cfg) (v : Value) (L : List Rw) (hf : RwsFit L) (o : Opn) (ho : o.Fits) (w : World) (hv : Rws w v L) (hn : L.length ≤ 1000) :
    Calls Tryd.prog 16 #[c.v, v, o.v] w (DoRP w (ordDo c L o)) := by
  obtain ⟨Z, hZ⟩ : ∃ Z, Z = ordDo c L o := ⟨_, rfl⟩
  rw [← hZ]
  have HV := Lib.hid hv
  have HF := Lib.hid hf
  have HO := Lib.hid ho
  clear hv hf ho
  cases hp : partOk c
  · have HC := Lib.hid hp
    have HZ := Lib.hid (hZ.trans (ordDo_conf L o (by rw [hp]; rfl)))
    clear hp hZ
    go_enter Tryd.func16, Tryd.ntmps16
    go_wp2_with (go_at_call 30; (with_reducible refine (mayBe_any c _).mono ?_); rintro e w1 ⟨rfl, os1, n1, rfl⟩; rw [HC.out])
    refine bodyPost_ret (v := .tuple #[.slice none 0 0, resR 0 0 (.slice none 0 0), .int .i64 40]) (by simp [results, Tryd.results16, go_sem]) rfl ?_
    exact dor_p HZ.out (World.ownsRow_nil _ _ _ _) (by first | ((repeat (first | with_reducible exact Ext.refl _ | with_reducible assumption | with_reducible refine Ext.alloc ?_ _ | with_reducible refine Ext.gr ?_ _ | with_reducible refine Ext.drewN ?_ _ | with_reducible refine Ext.drew ?_ | with_reducible refine Ext.setCell ?_ ?_ _ | with_reducible refine Ext.more ?_ _ _ | (show _ ≤ _; dsimp only; omega))); done) | ((repeat (first | with_reducible exact Ext.refl _ | with_reducible assumption | with_reducible apply Ext.bothR | with_reducible refine Ext.alloc ?_ _ | with_reducible refine Ext.gr ?_ _ | with_reducible refine Ext.drewN ?_ _ | with_reducible refine Ext.drew ?_ | with_reducible refine Ext.setCell ?_ ?_ _ | with_reducible refine Ext.more ?_ _ _ | (show _ ≤ _; dsimp only; omega))); done))
  · have HC := Lib.hid hp
    cases h1 : (c.object == 2)
    · have h1' : (c.object != 2) = true := by simpa [bne] using h1
      have HZ := Lib.hid (hZ.trans (ordDo_conf L o (by rw [hp, h1]; rfl)))
      clear hp hZ
      go_enter Tryd.func16, Tryd.ntmps16
      go_wp2_with (go_at_call 30; (with_reducible refine (mayBe_any c _).mono ?_); rintro e w1 ⟨rfl, os1, n1, rfl⟩; rw [HC.out])
      refine bodyPost_ret (v := .tuple #[.slice none 0 0, resR 0 0 (.slice none 0 0), .int .i64 40]) (by simp [results, Tryd.results16, go_sem]) rfl ?_
      exact dor_p HZ.out (World.ownsRow_nil _ _ _ _) (by first | ((repeat (first | with_reducible exact Ext.refl _ | with_reducible assumption | with_reducible refine Ext.alloc ?_ _ | with_reducible refine Ext.gr ?_ _ | with_reducible refine Ext.drewN ?_ _ | with_reducible refine Ext.drew ?_ | with_reducible refine Ext.setCell ?_ ?_ _ | with_reducible refine Ext.more ?_ _ _ | (show _ ≤ _; dsimp only; omega))); done) | ((repeat (first | with_reducible exact Ext.refl _ | with_reducible assumption | with_reducible apply Ext.bothR | with_reducible refine Ext.alloc ?_ _ | with_reducible refine Ext.gr ?_ _ | with_reducible refine Ext.drewN ?_ _ | with_reducible refine Ext.drew ?_ | with_reducible refine Ext.setCell ?_ ?_ _ | with_reducible refine Ext.more ?_ _ _ | (show _ ≤ _; dsimp only; omega))); done))
    · have h1' : (c.object != 2) = false := by simpa [bne] using h1
      cases h2 : ordIs c L
      · have HI := Lib.hid h2
        have HZ := Lib.hid (hZ.trans (ordDo_arg o (by rw [hp, h1]; rfl) h2))
        clear hp hZ h2
        go_enter Tryd.func16, Tryd.ntmps16
        go_wp2_with (first | (go_at_call 30; (with_reducible refine (mayBe_any c _).mono ?_); rintro e w1 ⟨rfl, os1, n1, rfl⟩; rw [HC.out]) | (go_at_call 17; (with_reducible refine (isR_any c _ L HF.out _ (HV.out.sl.ext (by first | ((repeat (first | with_reducible exact Ext.refl _ | with_reducible assumption | with_reducible refine Ext.alloc ?_ _ | with_reducible refine Ext.gr ?_ _ | with_reducible refine Ext.drewN ?_ _ | with_reducible refine Ext.drew ?_ | with_reducible refine Ext.setCell ?_ ?_ _ | with_reducible refine Ext.more ?_ _ _ | (show _ ≤ _; dsimp only; omega))); done) | ((repeat (first | with_reducible exact Ext.refl _ | with_reducible assumption | with_reducible apply Ext.bothR | with_reducible refine Ext.alloc ?_ _ | with_reducible refine Ext.gr ?_ _ | with_reducible refine Ext.drewN ?_ _ | with_reducible refine Ext.drew ?_ | with_reducible refine Ext.setCell ?_ ?_ _ | with_reducible refine Ext.more ?_ _ _ | (show _ ≤ _; dsimp only; omega))); done) | ((repeat (first | with_reducible exact Ext.refl _ | with_reducible exact Ext.sameG _ _ _ _ | with_reducible assumption | with_reducible refine Ext.bothR (n := 0) ?_ | with_reducible refine Ext.alloc ?_ _ | with_reducible refine Ext.gr ?_ _ | with_reducible refine Ext.drewN ?_ _ | with_reducible refine Ext.drew ?_ | with_reducible refine Ext.setCell ?_ ?_ _ | with_reducible refine Ext.more ?_ _ _ | (show _ ≤ _; dsimp only; omega))); done)))).mono ?_); rintro e w2 ⟨rfl, os2, n2, rfl⟩; rw [HI.out]))
        refine bodyPost_ret (v := .tuple #[.slice none 0 0, resR 0 0 (.slice none 0 0), .int .i64 2]) (by simp [results, Tryd.results16, go_sem]) rfl ?_
        exact dor_p HZ.out (World.ownsRow_nil _ _ _ _) (by first | ((repeat (first | with_reducible exact Ext.refl _ | with_reducible assumption | with_reducible refine Ext.alloc ?_ _ | with_reducible refine Ext.gr ?_ _ | with_reducible refine Ext.drewN ?_ _ | with_reducible refine Ext.drew ?_ | with_reducible refine Ext.setCell ?_ ?_ _ | with_reducible refine Ext.more ?_ _ _ | (show _ ≤ _; dsimp only; omega))); done) | ((repeat (first | with_reducible exact Ext.refl _ | with_reducible assumption | with_reducible apply Ext.bothR | with_reducible refine Ext.alloc ?_ _ | with_reducible refine Ext.gr ?_ _ | with_reducible refine Ext.drewN ?_ _ | with_reducible refine Ext.drew ?_ | with_reducible refine Ext.setCell ?_ ?_ _ | with_reducible refine Ext.more ?_ _ _ | (show _ ≤ _; dsimp only; omega))); done))
      · have HI := Lib.hid h2
        cases h3 : (opErr c o == 0)
        · have HZ := Lib.hid (hZ.trans (ordDo_bad (by rw [hp, h1]; rfl) h2 h3))
          obtain ⟨E, hE⟩ : ∃ E, opErr c o = E := ⟨_, rfl⟩
          have hE2 : (E != 0) = true := by rw [← hE]; simpa using h3
          have HE := Lib.hid hE
          rw [hE] at HZ
          clear hp hZ h2 h3 hE
          go_enter Tryd.func16, Tryd.ntmps16
          go_wp2_with (first | (go_at_call 30; (with_reducible refine (mayBe_any c _).mono ?_); rintro e w1 ⟨rfl, os1, n1, rfl⟩; rw [HC.out]) | (go_at_call 17; (with_reducible refine (isR_any c _ L HF.out _ (HV.out.sl.ext (by first | ((repeat (first | with_reducible exact Ext.refl _ | with_reducible assumption | with_reducible refine Ext.alloc ?_ _ | with_reducible refine Ext.gr ?_ _ | with_reducible refine Ext.drewN ?_ _ | with_reducible refine Ext.drew ?_ | with_reducible refine Ext.setCell ?_ ?_ _ | with_reducible refine Ext.more ?_ _ _ | (show _ ≤ _; dsimp only; omega))); done) | ((repeat (first | with_reducible exact Ext.refl _ | with_reducible assumption | with_reducible apply Ext.bothR | with_reducible refine Ext.alloc ?_ _ | with_reducible refine Ext.gr ?_ _ | with_reducible refine Ext.drewN ?_ _ | with_reducible refine Ext.drew ?_ | with_reducible refine Ext.setCell ?_ ?_ _ | with_reducible refine Ext.more ?_ _ _ | (show _ ≤ _; dsimp only; omega))); done) | ((repeat (first | with_reducible exact Ext.refl _ | with_reducible exact Ext.sameG _ _ _ _ | with_reducible assumption | with_reducible refine Ext.bothR (n := 0) ?_ | with_reducible refine Ext.alloc ?_ _ | with_reducible refine Ext.gr ?_ _ | with_reducible refine Ext.drewN ?_ _ | with_reducible refine Ext.drew ?_ | with_reducible refine Ext.setCell ?_ ?_ _ | with_reducible refine Ext.more ?_ _ _ | (show _ ≤ _; dsimp only; omega))); done)))).mono ?_); rintro e w2 ⟨rfl, os2, n2, rfl⟩; rw [HI.out]) | (go_at_call 31; (with_reducible refine (opCheckR_any c o HO.out _).mono ?_); rintro e w3 ⟨rfl, os3, n3, rfl⟩; rw [HE.out]) | (go_at_call 32; (with_reducible refine (copy_any _ L (by omega) _ (HV.out.ext (by first | ((repeat (first | with_reducible exact Ext.refl _ | with_reducible assumption | with_reducible refine Ext.alloc ?_ _ | with_reducible refine Ext.gr ?_ _ | with_reducible refine Ext.drewN ?_ _ | with_reducible refine Ext.drew ?_ | with_reducible refine Ext.setCell ?_ ?_ _ | with_reducible refine Ext.more ?_ _ _ | (show _ ≤ _; dsimp only; omega))); done) | ((repeat (first | with_reducible exact Ext.refl _ | with_reducible assumption | with_reducible apply Ext.bothR | with_reducible refine Ext.alloc ?_ _ | with_reducible refine Ext.gr ?_ _ | with_reducible refine Ext.drewN ?_ _ | with_reducible refine Ext.drew ?_ | with_reducible refine Ext.setCell ?_ ?_ _ | with_reducible refine Ext.more ?_ _ _ | (show _ ≤ _; dsimp only; omega))); done) | ((repeat (first | with_reducible exact Ext.refl _ | with_reducible exact Ext.sameG _ _ _ _ | with_reducible assumption | with_reducible refine Ext.bothR (n := 0) ?_ | with_reducible refine Ext.alloc ?_ _ | with_reducible refine Ext.gr ?_ _ | with_reducible refine Ext.drewN ?_ _ | with_reducible refine Ext.drew ?_ | with_reducible refine Ext.setCell ?_ ?_ _ | with_reducible refine Ext.more ?_ _ _ | (show _ ≤ _; dsimp only; omega))); done)))).mono ?_); rintro e w4 ⟨r, rfl, HC4, os4, n4, rfl⟩; have HOW := Lib.hid HC4; clear HC4))
          all_goals refine bodyPost_ret (v := .tuple #[r, resR E 0 (.slice none 0 0), .int .i64 0]) (by simp [results, Tryd.results16, go_sem]) rfl ?_
          all_goals
            have HO' := HOW.out
            (try simp only [grew_grew] at HO')
            exact dor_p HZ.out (own_low (own_swap (by simp [go_sem]) HO' (by first | (simp [go_sem]; done) | (simp [go_sem]; omega))) (by first | (simp [go_sem]; done) | (simp [go_sem]; omega))) (by first | ((repeat (first | with_reducible exact Ext.refl _ | with_reducible assumption | with_reducible refine Ext.alloc ?_ _ | with_reducible refine Ext.gr ?_ _ | with_reducible refine Ext.drewN ?_ _ | with_reducible refine Ext.drew ?_ | with_reducible refine Ext.setCell ?_ ?_ _ | with_reducible refine Ext.more ?_ _ _ | (show _ ≤ _; dsimp only; omega))); done) | ((repeat (first | with_reducible exact Ext.refl _ | with_reducible assumption | with_reducible apply Ext.bothR | with_reducible refine Ext.alloc ?_ _ | with_reducible refine Ext.gr ?_ _ | with_reducible refine Ext.drewN ?_ _ | with_reducible refine Ext.drew ?_ | with_reducible refine Ext.setCell ?_ ?_ _ | with_reducible refine Ext.more ?_ _ _ | (show _ ≤ _; dsimp only; omega))); done))
        · have HE : Hid (opErr c o = 0) := Lib.hid (by simpa using h3)
          obtain ⟨hpp, hk, hft⟩ := ord_kind (by simpa using h1) h3
          obtain ⟨_, _, _, hrs, hok⟩ := ordIs_ok HF.out h2
          obtain ⟨M, dc, dw, res, hD, hML⟩ := ordDone_as c L o
          have HOD : Hid (DoneAs c L o M res dc dw) := Lib.hid ⟨HO.out, hok, hrs, hn, hk, hD⟩
          have HZ2 : Hid (Z = ⟨M, dc, dw, res, 0⟩) := Lib.hid ((hZ.trans (ordDo_ok (by rw [hp, h1]; rfl) h2 h3)).trans hD)
          have HLD : Hid (M.length ≤ 10000) := Lib.hid (by omega)
          clear hp hZ h2 h3 hk hft hrs hok hD hpp
          exact doR_ok c v L o w Z HC h1 h1' HI HE HOD HZ2 HLD HV HF HO hn
end Go.Proofs.YthecacdofbhblaaDoor
