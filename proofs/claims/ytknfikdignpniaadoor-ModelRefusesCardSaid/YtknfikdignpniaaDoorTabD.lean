/- The walk of 'table.Do': refused, or looked up. -/
import Derived.Test.YtknfikdignpniaaDoorTabL
import Derived.Test.YtknfikdignpniaaDoorOp
import Derived.Test.YtknfikdignpniaaDoorOwnP
import Derived.Test.YtknfikdignpniaaDoorDel
import Derived.Test.YtknfikdignpniaaDoorIns3
import Derived.Test.YtknfikdignpniaaDoorInsP
import Derived.Test.YtknfikdignpniaaDoorLawP
namespace Go.Proofs.YtknfikdignpniaaDoor.table
open Go Go.RowKit
set_option maxRecDepth 100000
set_option maxHeartbeats 8000000

def DoP (w : World) (Z : Outc) (e : Ending) (w' : World) : Prop := ∃ r, e = .returned (.tuple #[r, resV Z.code Z.word, .int .i64 Z.err]) ∧ w'.ownsRow w.heap.size 44 2 r Z.rows.length (rwCells Z.rows) ∧ Ext w w'
theorem do_p {w w' : World} {Z : Outc} {r : Value} {rows : List Rw} {code word err : Int} (hZ : Z = ⟨rows, code, word, err⟩) (h1 : w'.ownsRow w.heap.size 44 2 r rows.length (rwCells rows)) (h2 : Ext w w') : DoP w Z (.returned (.tuple #[r, resV code word, .int .i64 err])) w' := by
  subst hZ
  exact ⟨r, rfl, h1, h2⟩
theorem do_no (c : Cfg) (v : Value) (L : List Rw) (hf : RwsFit L) (o : Opn) (w : World) (hv : Rws w v L) (h : tabIs c L = false) :
    Calls Tryd.prog 36 #[c.v, v, o.v] w (DoP w (tabDo c L o)) := by
  obtain ⟨Z, hZ⟩ : ∃ Z, Z = tabDo c L o := ⟨_, rfl⟩
  rw [← hZ]
  have HV := Lib.hid hv
  have HF := Lib.hid hf
  clear hv hf
  cases hp : (partOk c && (c.object == 1))
  · have HC := Lib.hid hp
    have HZ := Lib.hid (hZ.trans (tabDo_conf L o hp))
    clear hp hZ h
    go_enter Tryd.func36, Tryd.ntmps36
    go_wp2_with (go_at_call 37; (with_reducible refine (of_any c _).mono ?_); rintro e w1 ⟨rfl, os1, n1, rfl⟩; rw [HC.out])
    go_region
    all_goals go_wp2
    all_goals refine bodyPost_ret (v := .tuple #[.slice none 0 0, resV 0 0, .int .i64 40]) (by simp [results, Tryd.results36, go_sem]) rfl ?_
    all_goals exact do_p HZ.out (World.ownsRow_nil _ _ _ _) EXX
  · have HC := Lib.hid hp
    have HI := Lib.hid h
    have HZ := Lib.hid (hZ.trans (tabDo_arg o hp h))
    clear hp hZ h
    go_enter Tryd.func36, Tryd.ntmps36
    go_wp2_with (first | (go_at_call 37; (with_reducible refine (of_any c _).mono ?_); rintro e w1 ⟨rfl, os1, n1, rfl⟩; rw [HC.out]) | (go_at_call 38; (with_reducible refine (is_any c _ L HF.out _ (HV.out.sl.ext EXY)).mono ?_); rintro e w2 ⟨rfl, os2, n2, rfl⟩; rw [HI.out]))
    go_region
    all_goals go_wp2
    all_goals refine bodyPost_ret (v := .tuple #[.slice none 0 0, resV 0 0, .int .i64 2]) (by simp [results, Tryd.results36, go_sem]) rfl ?_
    all_goals exact do_p HZ.out (World.ownsRow_nil _ _ _ _) EXX

theorem do_bad (c : Cfg) (v : Value) (L : List Rw) (hf : RwsFit L) (o : Opn) (ho : o.Fits) (w : World) (ht : Tab w) (hv : Rws w v L) (hn : L.length ≤ 1000) (h : tabIs c L = true) (h3 : (opErr c o == 0) = false) :
    Calls Tryd.prog 36 #[c.v, v, o.v] w (DoP w (tabDo c L o)) := by
  obtain ⟨Z, hZ⟩ : ∃ Z, Z = tabDo c L o := ⟨_, rfl⟩
  rw [← hZ]
  have HV := Lib.hid hv
  have HF := Lib.hid hf
  have HO := Lib.hid ho
  have HT := Lib.hid ht
  obtain ⟨hp, hc, _, _, _⟩ := tabIs_ok hf h
  have hp2 : (partOk c && (c.object == 1)) = true := by rw [hp, hc]; rfl
  have HC := Lib.hid hp2
  have HI := Lib.hid h
  have HZ := Lib.hid (hZ.trans (tabDo_bad hp2 h h3))
  obtain ⟨E, hE⟩ : ∃ E, opErr c o = E := ⟨_, rfl⟩
  have hE2 : (E != 0) = true := by rw [← hE]; simpa [bne] using h3
  have HE := Lib.hid hE
  rw [hE] at HZ
  clear hv hf ho ht hp hc hp2 h h3 hZ hE
  go_enter Tryd.func36, Tryd.ntmps36
  go_wp2_with (first | (go_at_call 37; (with_reducible refine (of_any c _).mono ?_); rintro e w1 ⟨rfl, os1, n1, rfl⟩; rw [HC.out]) | (go_at_call 38; (with_reducible refine (is_any c _ L HF.out _ (HV.out.sl.ext EXY)).mono ?_); rintro e w2 ⟨rfl, os2, n2, rfl⟩; rw [HI.out]) | (go_at_call 39; (with_reducible refine (clone_any _ L (by omega) _ (HV.out.ext EXY)).mono ?_); rintro e w3 ⟨r, rfl, HO3, os3, n3, rfl⟩; have ho3 := own_low (lo := w.heap.size + 3) HO3 (by first | (simp [go_sem]; done) | (simp [go_sem]; omega)); simp only [grew_grew] at ho3; have HOW := Lib.hid ho3; clear HO3 ho3) | (go_at_call 7; (with_reducible refine (opCheck_any c o HO.out _ (Tab.ext HT.out EXY)).mono ?_); rintro e w4 ⟨rfl, os4, n4, rfl⟩; rw [HE.out]))
  all_goals refine bodyPost_ret (v := .tuple #[r, resV E 0, .int .i64 0]) (by simp [results, Tryd.results36, go_sem]) rfl ?_
  all_goals exact do_p HZ.out (own_low (own_swap (B := (((w.alloc (.cells #[.int .u8 c.object, .int .i64 c.instances, .int .i64 c.threads, .int .u8 c.kind, .int .i64 c.stripes, .int .i64 c.bits, .int .i64 c.cap, .int .i64 c.node, .int .i64 c.batch, .int .i64 c.chunk, .int .u64 c.limit, .int .u64 c.most] 24)).alloc (.cells #[.int .u8 o.kind, .int .u32 o.a, .int .u32 o.b, .int .u32 o.c] 28)).alloc (.cells #[.int .i64 0, .int .u32 0, .slice none 0 0] 36))) (d := 0) (by simp [go_sem]) (own_ext HOW.out EXY) (by simp [go_sem])) (by omega)) EXY

theorem long_as (c : Cfg) (v : Value) (L : List Rw) (a : Int) (h : ((0 ≤ c.bits ∧ c.bits ≤ 6) ∧ 0 ≤ a ∧ a < 2 ^ c.bits.toNat) ∧ Rises L ∧ L.length ≤ 1000 ∧ ∀ x ∈ L, RouteOk c x) (dc dw : Int) (hd : longRes (tabLook c L a) = resV dc dw) (w : World) (hv : Sl w v L.length (rwCells L)) :
    Calls Tryd.prog 40 #[c.v, v, .int .i64 a] w fun e w' => e = .returned (resV dc dw) ∧ Ext w w' := by
  rw [← hd]
  exact long_any c v L a h.1.1 h.1.2.1 h.1.2.2 h.2.1 h.2.2.1 h.2.2.2 w hv
theorem do_look (c : Cfg) (v : Value) (L : List Rw) (hf : RwsFit L) (o : Opn) (ho : o.Fits) (w : World) (ht : Tab w) (hv : Rws w v L) (hn : L.length ≤ 1000) (h : tabIs c L = true) (h3 : (opErr c o == 0) = true) (hk : o.kind = 3) :
    Calls Tryd.prog 36 #[c.v, v, o.v] w (DoP w (tabDo c L o)) := by
  obtain ⟨Z, hZ⟩ : ∃ Z, Z = tabDo c L o := ⟨_, rfl⟩
  rw [← hZ]
  have HV := Lib.hid hv
  have HF := Lib.hid hf
  have HO := Lib.hid ho
  have HT := Lib.hid ht
  obtain ⟨hp, hc, _, hrs, hok⟩ := tabIs_ok hf h
  obtain ⟨_, _, hft⟩ := tab_kind hc h3
  have hp2 : (partOk c && (c.object == 1)) = true := by rw [hp, hc]; rfl
  have HC := Lib.hid hp2
  have HI := Lib.hid h
  have HE : Hid (opErr c o = 0) := Lib.hid (by simpa using h3)
  have hbt := partOk_bits hp
  have HLA : Hid (((0 ≤ c.bits ∧ c.bits ≤ 6) ∧ 0 ≤ o.a ∧ o.a < 2 ^ c.bits.toNat) ∧ Rises L ∧ L.length ≤ 1000 ∧ ∀ x ∈ L, RouteOk c x) := Lib.hid ⟨⟨⟨hbt.1, hbt.2⟩, ho.a.1, (tab_leaf hft hk).1⟩, hrs, hn, hok⟩
  have k3 : (o.kind == 3) = true := by simpa using hk
  obtain ⟨dc, dw, hlr, hdd⟩ : ∃ dc dw, longRes (tabLook c L o.a) = resV dc dw ∧ tabDone c L o = ⟨L, dc, dw, 0⟩ := by
    unfold tabDone
    rw [k3]
    cases tabLook c L o.a with
    | some u => exact ⟨_, _, rfl, rfl⟩
    | none => exact ⟨_, _, rfl, rfl⟩
  have HLR := Lib.hid hlr
  have HZ : Hid (Z = ⟨L, dc, dw, 0⟩) := Lib.hid (by rw [hZ, tabDo_ok hp2 h h3, hdd])
  have q1 : IntKind.i64.wrap o.a = o.a := by have := ho.a; rw [IntKind.wrap_i64]; omega
  clear hv hf ho ht hp hc hrs hok hp2 h h3 hZ hk hft hlr hdd
  go_enter Tryd.func36, Tryd.ntmps36
  go_wp2_with (first | (go_at_call 37; (with_reducible refine (of_any c _).mono ?_); rintro e w1 ⟨rfl, os1, n1, rfl⟩; rw [HC.out]) | (go_at_call 38; (with_reducible refine (is_any c _ L HF.out _ (HV.out.sl.ext EXY)).mono ?_); rintro e w2 ⟨rfl, os2, n2, rfl⟩; rw [HI.out]) | (go_at_call 39; (with_reducible refine (clone_any _ L (by omega) _ (HV.out.ext EXY)).mono ?_); rintro e w3 ⟨r, rfl, HO3, os3, n3, rfl⟩; have ho3 := own_low (lo := w.heap.size + 3) HO3 (by first | (simp [go_sem]; done) | (simp [go_sem]; omega)); simp only [grew_grew] at ho3; have HOW := Lib.hid ho3; clear HO3 ho3) | (go_at_call 7; (with_reducible refine (opCheck_any c o HO.out _ (Tab.ext HT.out EXY)).mono ?_); rintro e w4 ⟨rfl, os4, n4, rfl⟩; rw [HE.out]) | (go_at_call 40; (with_reducible refine (long_as c _ L o.a HLA.out dc dw HLR.out _ (HV.out.sl.ext EXY)).mono ?_); rintro e w5 ⟨rfl, os5, n5, rfl⟩))
  all_goals refine bodyPost_ret (v := .tuple #[r, resV dc dw, .int .i64 0]) (by simp [results, Tryd.results36, go_sem]) rfl ?_
  all_goals exact do_p HZ.out (own_low (own_swap (B := (((w.alloc (.cells #[.int .u8 c.object, .int .i64 c.instances, .int .i64 c.threads, .int .u8 c.kind, .int .i64 c.stripes, .int .i64 c.bits, .int .i64 c.cap, .int .i64 c.node, .int .i64 c.batch, .int .i64 c.chunk, .int .u64 c.limit, .int .u64 c.most] 24)).alloc (.cells #[.int .u8 o.kind, .int .u32 o.a, .int .u32 o.b, .int .u32 o.c] 28)).alloc (.cells #[.int .i64 0, .int .u32 0, .slice none 0 0] 36))) (d := 0) (by simp [go_sem]) (own_ext HOW.out EXY) (by simp [go_sem])) (by omega)) EXY
end Go.Proofs.YtknfikdignpniaaDoor.table
