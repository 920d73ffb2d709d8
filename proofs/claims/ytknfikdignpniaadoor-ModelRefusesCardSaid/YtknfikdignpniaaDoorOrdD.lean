/- The walk of 'order.Do': refused, or read alone. -/
import Derived.Test.YtknfikdignpniaaDoorOb
import Derived.Test.YtknfikdignpniaaDoorDel
import Derived.Test.YtknfikdignpniaaDoorOa
namespace Go.Proofs.YtknfikdignpniaaDoor.order
open Go Go.RowKit
set_option maxRecDepth 100000
set_option maxHeartbeats 8000000

abbrev resV (code word : Int) (rs : Value) : Value := .agg #[.int .i64 code, .int .u32 word, rs]
/-- What comes of an operation: rows of the call's own, and an answer whose rows are the call's own, too, in other memory. -/
def DoP (w : World) (Z : Outc) (e : Ending) (w' : World) : Prop := ∃ r ad cap, e = .returned (.tuple #[r, resV Z.code Z.word (.slice ad Z.res.length cap), .int .i64 Z.err]) ∧ w'.ownsRow w.heap.size 44 2 r Z.rows.length (rwCells Z.rows) ∧
  w'.ownsRow w.heap.size 44 2 (.slice ad Z.res.length cap) Z.res.length (rwCells Z.res) ∧ (∀ g, r.ownBlock = some g → (Value.slice ad Z.res.length cap).ownBlock ≠ some g) ∧ Ext w w'
theorem do_p {w w' : World} {Z : Outc} {r : Value} {rows : List Rw} {code word err : Int} (hZ : Z = ⟨rows, code, word, [], err⟩) (h1 : w'.ownsRow w.heap.size 44 2 r rows.length (rwCells rows)) (h2 : Ext w w') : DoP w Z (.returned (.tuple #[r, resV code word (.slice none 0 0), .int .i64 err])) w' := by
  subst hZ
  exact ⟨r, none, 0, rfl, h1, own_nil _ _ _ _, (fun g _ h => by cases h), h2⟩
theorem do_pr {w w' : World} {Z : Outc} {r : Value} {rows res : List Rw} {code word err : Int} {ad : Option Addr} {cap : Nat} (hZ : Z = ⟨rows, code, word, res, err⟩) (h1 : w'.ownsRow w.heap.size 44 2 r rows.length (rwCells rows))
    (h2 : w'.ownsRow w.heap.size 44 2 (.slice ad res.length cap) res.length (rwCells res)) (h3 : ∀ g, r.ownBlock = some g → (Value.slice ad res.length cap).ownBlock ≠ some g) (h4 : Ext w w') : DoP w Z (.returned (.tuple #[r, resV code word (.slice ad res.length cap), .int .i64 err])) w' := by
  subst hZ
  exact ⟨r, ad, cap, rfl, h1, h2, h3, h4⟩
theorem reads_as (v : Value) (L : List Rw) (hl : L.length ≤ 1000) (hr : Rises L) (o : Opn) (ho : o.Fits) (hL : ∀ x ∈ L, RowOk x) (w : World) (hv : Rws w v L) (hk : 4 ≤ o.kind ∧ o.kind ≤ 8) {r : Value} {b n : Nat} {xs : List Value} (hown : w.ownsRow b 44 2 r n xs)
    {rows res : List Rw} {code word err : Int} (hz : ordReadW L o = ⟨rows, code, word, res, err⟩) : Calls Tryd.prog 60 #[v, o.v] w fun e w' => ∃ ad cap, e = .returned (.agg #[.int .i64 code, .int .u32 word, .slice ad res.length cap]) ∧
      Hid (w'.ownsRow w.heap.size 44 2 (.slice ad res.length cap) res.length (rwCells res)) ∧ Hid (∀ g, r.ownBlock = some g → (Value.slice ad res.length cap).ownBlock ≠ some g) ∧ Ext w w' := by
  have key : Calls Tryd.prog 60 #[v, o.v] w (ReadP w (ordReadW L o)) := by
    unfold ordReadW
    split
    · rename_i q
      simp only [Bool.or_eq_true, beq_iff_eq] at q
      exact reads_none v L hr o ho w hv q
    · rename_i q
      simp only [Bool.or_eq_true, beq_iff_eq] at q
      exact reads_any v L hl hr o ho hL w hv (by omega)
  refine key.mono fun e w' h => ?_
  rw [hz] at h
  obtain ⟨rs, rfl, h1, h2⟩ := h
  obtain ⟨ad, cap, rfl⟩ := own_form h1
  exact ⟨ad, cap, rfl, Lib.hid h1, Lib.hid fun g hg hg2 => by
    have a := (own_block hown hg).2
    have b := (own_block h1 hg2).1
    omega, h2⟩
theorem do_no (c : Cfg) (v : Value) (L : List Rw) (hf : RwsFit L) (o : Opn) (w : World) (hv : Rws w v L) (h : ordIs c L = false) :
    Calls Tryd.prog 56 #[c.v, v, o.v] w (DoP w (ordDo c L o)) := by
  obtain ⟨Z, hZ⟩ : ∃ Z, Z = ordDo c L o := ⟨_, rfl⟩
  rw [← hZ]
  have HV := Lib.hid hv
  have HF := Lib.hid hf
  clear hv hf
  cases hp : (partOk c && (c.object == 2))
  · have HC := Lib.hid hp
    have HZ := Lib.hid (hZ.trans (ordDo_conf L o hp))
    clear hp hZ h
    go_enter Tryd.func56, Tryd.ntmps56
    go_wp2_with (go_at_call 57; (with_reducible refine (of_any c _).mono ?_); rintro e w1 ⟨rfl, os1, n1, rfl⟩; rw [HC.out])
    go_region
    all_goals go_wp2
    all_goals refine bodyPost_ret (v := .tuple #[.slice none 0 0, resV 0 0 (.slice none 0 0), .int .i64 40]) (by simp [results, Tryd.results56, go_sem]) rfl ?_
    all_goals exact do_p HZ.out (World.ownsRow_nil _ _ _ _) EXX
  · have HC := Lib.hid hp
    have HI := Lib.hid h
    have HZ := Lib.hid (hZ.trans (ordDo_arg o hp h))
    clear hp hZ h
    go_enter Tryd.func56, Tryd.ntmps56
    go_wp2_with (first | (go_at_call 57; (with_reducible refine (of_any c _).mono ?_); rintro e w1 ⟨rfl, os1, n1, rfl⟩; rw [HC.out]) | (go_at_call 58; (with_reducible refine (is_any c _ L HF.out _ (HV.out.sl.ext EXY)).mono ?_); rintro e w2 ⟨rfl, os2, n2, rfl⟩; rw [HI.out]))
    go_region
    all_goals go_wp2
    all_goals refine bodyPost_ret (v := .tuple #[.slice none 0 0, resV 0 0 (.slice none 0 0), .int .i64 2]) (by simp [results, Tryd.results56, go_sem]) rfl ?_
    all_goals exact do_p HZ.out (World.ownsRow_nil _ _ _ _) EXX

theorem do_bad (c : Cfg) (v : Value) (L : List Rw) (hf : RwsFit L) (o : Opn) (ho : o.Fits) (w : World) (ht : Tab w) (hv : Rws w v L) (hn : L.length ≤ 1000) (h : ordIs c L = true) (h3 : (opErr c o == 0) = false) :
    Calls Tryd.prog 56 #[c.v, v, o.v] w (DoP w (ordDo c L o)) := by
  obtain ⟨Z, hZ⟩ : ∃ Z, Z = ordDo c L o := ⟨_, rfl⟩
  rw [← hZ]
  have HV := Lib.hid hv
  have HF := Lib.hid hf
  have HO := Lib.hid ho
  have HT := Lib.hid ht
  obtain ⟨hp, hc, _, _, _⟩ := ordIs_ok hf h
  have hp2 : (partOk c && (c.object == 2)) = true := by rw [hp, hc]; rfl
  have HC := Lib.hid hp2
  have HI := Lib.hid h
  have HZ := Lib.hid (hZ.trans (ordDo_bad hp2 h h3))
  obtain ⟨E, hE⟩ : ∃ E, opErr c o = E := ⟨_, rfl⟩
  have hE2 : (E != 0) = true := by rw [← hE]; simpa [bne] using h3
  have HE := Lib.hid hE
  rw [hE] at HZ
  clear hv hf ho ht hp hc hp2 h h3 hZ hE
  go_enter Tryd.func56, Tryd.ntmps56
  go_wp2_with (first | (go_at_call 57; (with_reducible refine (of_any c _).mono ?_); rintro e w1 ⟨rfl, os1, n1, rfl⟩; rw [HC.out]) | (go_at_call 58; (with_reducible refine (is_any c _ L HF.out _ (HV.out.sl.ext EXY)).mono ?_); rintro e w2 ⟨rfl, os2, n2, rfl⟩; rw [HI.out]) | (go_at_call 39; (with_reducible refine (clone_any _ L (by omega) _ (HV.out.ext EXY)).mono ?_); rintro e w3 ⟨r, rfl, HO3, os3, n3, rfl⟩; have ho3 := own_low (lo := w.heap.size + 3) HO3 (by first | (simp [go_sem]; done) | (simp [go_sem]; omega)); simp only [grew_grew] at ho3; have HOW := Lib.hid ho3; clear HO3 ho3) | (go_at_call 7; (with_reducible refine (opCheck_any c o HO.out _ (Tab.base (Tab.ext HT.out EXY))).mono ?_); rintro e w4 ⟨rfl, os4, n4, rfl⟩; rw [HE.out]))
  all_goals refine bodyPost_ret (v := .tuple #[r, resV E 0 (.slice none 0 0), .int .i64 0]) (by simp [results, Tryd.results56, go_sem]) rfl ?_
  all_goals exact do_p HZ.out (own_low (own_swap (B := (((w.alloc (.cells #[.int .u8 c.object, .int .i64 c.instances, .int .i64 c.threads, .int .u8 c.kind, .int .i64 c.stripes, .int .i64 c.bits, .int .i64 c.cap, .int .i64 c.node, .int .i64 c.batch, .int .i64 c.chunk, .int .u64 c.limit, .int .u64 c.most] 24)).alloc (.cells #[.int .u8 o.kind, .int .u32 o.a, .int .u32 o.b, .int .u32 o.c] 28)).alloc (.cells #[.int .i64 0, .int .u32 0, .slice none 0 0] 36))) (d := 0) (by simp [go_sem]) (own_ext HOW.out EXY) (by simp [go_sem])) (by omega)) EXY

theorem do_read (c : Cfg) (v : Value) (L : List Rw) (hf : RwsFit L) (o : Opn) (ho : o.Fits) (w : World) (ht : Tab w) (hv : Rws w v L) (hn : L.length ≤ 1000) (h : ordIs c L = true) (h3 : (opErr c o == 0) = true) (hk : 4 ≤ o.kind ∧ o.kind ≤ 8) (hwr : WrAt w o.kind false) :
    Calls Tryd.prog 56 #[c.v, v, o.v] w (DoP w (ordDoW false c L o)) := by
  obtain ⟨Z, hZ⟩ : ∃ Z, Z = ordDoW false c L o := ⟨_, rfl⟩
  rw [← hZ]
  have HV := Lib.hid hv
  have HF := Lib.hid hf
  have HO := Lib.hid ho
  have HT := Lib.hid ht
  obtain ⟨hp, hc, _, hrs, hok⟩ := ordIs_ok hf h
  have hp2 : (partOk c && (c.object == 2)) = true := by rw [hp, hc]; rfl
  have HC := Lib.hid hp2
  have HI := Lib.hid h
  have HE : Hid (opErr c o = 0) := Lib.hid (by simpa using h3)
  have HOK := Lib.hid hok
  have HRS := Lib.hid hrs
  have HK : Hid (1 ≤ o.kind ∧ o.kind ≤ 14) := Lib.hid (by omega)
  have HKK := Lib.hid hk
  have HWR := Lib.hid hwr
  obtain ⟨code, word, res, hzz, _⟩ := ordReadW_as L o
  have HZ : Hid (Z = ⟨L, code, word, res, 0⟩) := Lib.hid (by rw [hZ, ordDoW_ok false hp2 h h3, ordDoneW, ← hzz]; rfl)
  have HZZ := Lib.hid hzz
  clear hv hf ho ht hp hc hrs hok hp2 h h3 hZ hk hzz hwr
  go_enter Tryd.func56, Tryd.ntmps56
  go_wp2_with (first | (go_at_call 57; (with_reducible refine (of_any c _).mono ?_); rintro e w1 ⟨rfl, os1, n1, rfl⟩; rw [HC.out]) | (go_at_call 58; (with_reducible refine (is_any c _ L HF.out _ (HV.out.sl.ext EXY)).mono ?_); rintro e w2 ⟨rfl, os2, n2, rfl⟩; rw [HI.out]) | (go_at_call 39; (with_reducible refine (clone_any _ L (by omega) _ (HV.out.ext EXY)).mono ?_); rintro e w3 ⟨r, rfl, HO3, os3, n3, rfl⟩; have ho3 := own_low (lo := w.heap.size + 3) HO3 (by first | (simp [go_sem]; done) | (simp [go_sem]; omega)); simp only [grew_grew] at ho3; have HOW := Lib.hid ho3; clear HO3 ho3) | (go_at_call 7; (with_reducible refine (opCheck_any c o HO.out _ (Tab.base (Tab.ext HT.out EXY))).mono ?_); rintro e w4 ⟨rfl, os4, n4, rfl⟩; rw [HE.out]) | (go_at_call 59; (with_reducible refine (writes_any o.kind HK.out false _ (WrAt.ext HWR.out EXY)).mono ?_); rintro e w5 ⟨rfl, os5, n5, rfl⟩) | (go_at_call 60; (with_reducible refine (reads_as _ L (by omega) HRS.out o HO.out HOK.out _ (HV.out.ext EXY) HKK.out (r := r) (own_ext HOW.out EXY) HZZ.out).mono ?_); rintro e w6 ⟨ad2, cap2, rfl, HQ, HDIS, os6, n6, rfl⟩))
  all_goals refine bodyPost_ret (v := .tuple #[r, resV code word (.slice ad2 res.length cap2), .int .i64 0]) (by simp [results, Tryd.results56, go_sem]) rfl ?_
  all_goals
    have hq := HQ.out
    (try simp only [grew_grew] at hq)
    exact do_pr HZ.out (own_low (own_swap (B := (((w.alloc (.cells #[.int .u8 c.object, .int .i64 c.instances, .int .i64 c.threads, .int .u8 c.kind, .int .i64 c.stripes, .int .i64 c.bits, .int .i64 c.cap, .int .i64 c.node, .int .i64 c.batch, .int .i64 c.chunk, .int .u64 c.limit, .int .u64 c.most] 24)).alloc (.cells #[.int .u8 o.kind, .int .u32 o.a, .int .u32 o.b, .int .u32 o.c] 28)).alloc (.cells #[.int .i64 0, .int .u32 0, .slice none 0 0] 36))) (d := 0) (by simp [go_sem]) (own_ext HOW.out EXY) (by simp [go_sem])) (by omega)) (own_low (own_swap (by simp [go_sem]) hq (by first | (simp [go_sem]; done) | (simp [go_sem]; omega))) (by first | (simp [go_sem]; done) | (simp [go_sem]; omega))) HDIS.out EXY
end Go.Proofs.YtknfikdignpniaaDoor.order
