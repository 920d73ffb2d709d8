/- The walk of 'paths.Do'. -/
import Derived.Test.YtknfikdignpniaaDoorPc
import Derived.Test.YtknfikdignpniaaDoorPatD
import Derived.Test.YtknfikdignpniaaDoorPb
import Derived.Test.YtknfikdignpniaaDoorRef6b
import Derived.Deep.RegionWith
namespace Go.Proofs.YtknfikdignpniaaDoor.paths
open Go Go.RowKit
set_option maxRecDepth 100000
set_option maxHeartbeats 8000000

def DoP (w : World) (Z : Outc) (e : Ending) (w' : World) : Prop := ∃ r, e = .returned (.tuple #[r, resV Z.code Z.word, .int .i64 Z.err]) ∧ w'.ownsRow w.heap.size 44 2 r Z.rows.length (rwCells Z.rows) ∧ Ext w w'
theorem do_p {w w' : World} {Z : Outc} {r : Value} {rows : List Rw} {code word err : Int} (hZ : Z = ⟨rows, code, word, err⟩) (h1 : w'.ownsRow w.heap.size 44 2 r rows.length (rwCells rows)) (h2 : Ext w w') : DoP w Z (.returned (.tuple #[r, resV code word, .int .i64 err])) w' := by
  subst hZ
  exact ⟨r, rfl, h1, h2⟩
theorem do_no (c : Cfg) (v : Value) (L : List Rw) (hf : RwsFit L) (o : Opn) (w : World) (hv : Rws w v L) (h : pathIs c L = false) :
    Calls Tryd.prog 80 #[c.v, v, o.v] w (DoP w (pathDo c L o)) := by
  obtain ⟨Z, hZ⟩ : ∃ Z, Z = pathDo c L o := ⟨_, rfl⟩
  rw [← hZ]
  have HV := Lib.hid hv
  have HF := Lib.hid hf
  clear hv hf
  cases hp : (partOk c && (c.object == 4))
  · have HC := Lib.hid hp
    have HZ := Lib.hid (hZ.trans (pathDo_conf L o hp))
    clear hp hZ h
    go_enter Tryd.func80, Tryd.ntmps80
    go_wp2_with (go_at_call 81; (with_reducible refine (of_any c _).mono ?_); rintro e w1 ⟨rfl, os1, n1, rfl⟩; rw [HC.out])
    go_region
    all_goals go_wp2
    all_goals refine bodyPost_ret (v := .tuple #[.slice none 0 0, resV 0 0, .int .i64 40]) (by simp [results, Tryd.results80, go_sem]) rfl ?_
    all_goals exact do_p HZ.out (World.ownsRow_nil _ _ _ _) EXX
  · have HC := Lib.hid hp
    have HI := Lib.hid h
    have HZ := Lib.hid (hZ.trans (pathDo_arg o hp h))
    clear hp hZ h
    go_enter Tryd.func80, Tryd.ntmps80
    go_wp2_with (first | (go_at_call 81; (with_reducible refine (of_any c _).mono ?_); rintro e w1 ⟨rfl, os1, n1, rfl⟩; rw [HC.out]) | (go_at_call 82; (with_reducible refine (is_any c _ L HF.out _ (HV.out.ext EXY)).mono ?_); rintro e w2 ⟨rfl, os2, n2, rfl⟩; rw [HI.out]))
    go_region
    all_goals go_wp2
    all_goals refine bodyPost_ret (v := .tuple #[.slice none 0 0, resV 0 0, .int .i64 2]) (by simp [results, Tryd.results80, go_sem]) rfl ?_
    all_goals exact do_p HZ.out (World.ownsRow_nil _ _ _ _) EXX
theorem do_bad (c : Cfg) (v : Value) (L : List Rw) (hf : RwsFit L) (o : Opn) (ho : o.Fits) (w : World) (ht : Tab w) (hv : Rws w v L) (hn : L.length ≤ 900) (h : pathIs c L = true) (h3 : (opErr c o == 0) = false) :
    Calls Tryd.prog 80 #[c.v, v, o.v] w (DoP w (pathDo c L o)) := by
  obtain ⟨Z, hZ⟩ : ∃ Z, Z = pathDo c L o := ⟨_, rfl⟩
  rw [← hZ]
  have HV := Lib.hid hv
  have HF := Lib.hid hf
  have HO := Lib.hid ho
  have HT := Lib.hid ht
  obtain ⟨hp, hc, _, _, _⟩ := pathIs_ok hf h
  have hp2 : (partOk c && (c.object == 4)) = true := by rw [hp, hc]; rfl
  have HC := Lib.hid hp2
  have HI := Lib.hid h
  have HZ := Lib.hid (hZ.trans (pathDo_bad hp2 h h3))
  obtain ⟨E, hE⟩ : ∃ E, opErr c o = E := ⟨_, rfl⟩
  have hE2 : (E != 0) = true := by rw [← hE]; simpa [bne] using h3
  have HE := Lib.hid hE
  rw [hE] at HZ
  clear hv hf ho ht hp hc hp2 h h3 hZ hE
  go_enter Tryd.func80, Tryd.ntmps80
  go_wp2_with (first | (go_at_call 81; (with_reducible refine (of_any c _).mono ?_); rintro e w1 ⟨rfl, os1, n1, rfl⟩; rw [HC.out]) | (go_at_call 82; (with_reducible refine (is_any c _ L HF.out _ (HV.out.ext EXY)).mono ?_); rintro e w2 ⟨rfl, os2, n2, rfl⟩; rw [HI.out]) | (go_at_call 39; (with_reducible refine (clone_any _ L (by omega) _ (HV.out.ext EXY)).mono ?_); rintro e w3 ⟨r, rfl, HO3, os3, n3, rfl⟩; have ho3 := own_low (lo := w.heap.size + 3) HO3 (by first | (simp [go_sem]; done) | (simp [go_sem]; omega)); simp only [grew_grew] at ho3; have HOW := Lib.hid ho3; clear HO3 ho3) | (go_at_call 7; (with_reducible refine (opCheck_any c o HO.out _ (Tab.ext HT.out EXY)).mono ?_); rintro e w4 ⟨rfl, os4, n4, rfl⟩; rw [HE.out]))
  all_goals refine bodyPost_ret (v := .tuple #[r, resV E 0, .int .i64 0]) (by simp [results, Tryd.results80, go_sem]) rfl ?_
  all_goals exact do_p HZ.out (own_low (own_swap (B := (((w.alloc (.cells #[.int .u8 c.object, .int .i64 c.instances, .int .i64 c.threads, .int .u8 c.kind, .int .i64 c.stripes, .int .i64 c.bits, .int .i64 c.cap, .int .i64 c.node, .int .i64 c.batch, .int .i64 c.chunk, .int .u64 c.limit, .int .u64 c.most] 24)).alloc (.cells #[.int .u8 o.kind, .int .u32 o.a, .int .u32 o.b, .int .u32 o.c] 28)).alloc (.cells #[.int .i64 0, .int .u32 0, .slice none 0 0] 36))) (d := 0) (by simp [go_sem]) (own_ext HOW.out EXY) (by simp [go_sem])) (by omega)) EXY
/-- What the walk of 'Do' knows ahead. -/
structure WPre (c : Cfg) (v : Value) (L : List Rw) (o : Opn) (w : World) : Prop where
  hv : Rws w v L
  hf : RwsFit L
  ho : o.Fits
  ht : Tab w
  hc : (partOk c && (c.object == 4)) = true
  hi : pathIs c L = true
  he : opErr c o = 0
  hk : o.kind = 12 ∨ o.kind = 13 ∨ o.kind = 14
  hb : o.b ≤ 65535
  hcv : o.c ≤ 2147483647
  hw : wholeK (pathKey o) = true
  hr : Rises L
  hn : ∀ x ∈ L, NodeOk L x
  hcap : 1 ≤ c.cap ∧ c.cap ≤ 32
theorem do_read (c : Cfg) (v : Value) (L : List Rw) (o : Opn) (w : World) (hp : WPre c v L o w) (hn : L.length ≤ 900) (g1 : (o.kind == 12) = false) (g2 : (o.kind == 13) = false) (Z : Outc) (HZ : Hid (Z = pathDone c L o)) :
    Calls Tryd.prog 80 #[c.v, v, o.v] w (DoP w Z) := by
  have HV := Lib.hid hp.hv; have HF := Lib.hid hp.hf; have HO := Lib.hid hp.ho; have HT := Lib.hid hp.ht; have HC := Lib.hid hp.hc; have HI := Lib.hid hp.hi; have HE := Lib.hid hp.he; have HR := Lib.hid hp.hr; have HB := Lib.hid hp.hb; have HWK := Lib.hid hp.hw; have HNK := Lib.hid hp.hn; have hoc := hp.ho.c; have hcv := hp.hcv; have hob := hp.ho.b; have hoa := hp.ho.a; obtain ⟨q, hq⟩ : ∃ q, pathKey o = q := ⟨_, rfl⟩; have HQ := Lib.hid hq; rw [hq] at HWK; (try rw [hq] at HZ); have HLL : Hid (L.length ≤ 1000000) := Lib.hid (by omega)
  obtain ⟨i, hat⟩ := at_ex hp.hr q
  have HAT := Lib.hid hat
  have g3 : (o.kind == 14) = true := by have := hp.hk; simp at g1 g2 ⊢; omega
  cases hl : look L q with
  | none =>
    have HS : Hid ((look L q).isSome = false) := Lib.hid (by rw [hl]; rfl)
    have HZ2 : Hid (Z = ⟨L, 6, 0, 0⟩) := Lib.hid (by rw [HZ.out, pathDone, if_neg (by rw [g1]; exact Bool.false_ne_true), HQ.out, hl])
    obtain ⟨ad, cap, rfl, hs, _⟩ := HV.out
    have hln := hs.len
    clear hp hat hl HZ hq hs
    go_enter Tryd.func80, Tryd.ntmps80
    go_wp2_with (first | (go_at_call 81; (with_reducible refine (of_any c _).mono ?_); rintro e w1 ⟨rfl, os1, n1, rfl⟩; rw [HC.out]) | (go_at_call 82; (with_reducible refine (is_any c _ L HF.out _ (HV.out.ext EXY)).mono ?_); rintro e w2 ⟨rfl, os2, n2, rfl⟩; rw [HI.out]) | (go_at_call 39; (with_reducible refine (clone_any _ L (by omega) _ (HV.out.ext EXY)).mono ?_); rintro e w3 ⟨r, rfl, HO3, os3, n3, rfl⟩; have ho3 := own_low (lo := w.heap.size + 3) HO3 (by first | (simp [go_sem]; done) | (simp [go_sem]; omega)); simp only [grew_grew] at ho3; have HOW := Lib.hid ho3; clear HO3 ho3) | (go_at_call 7; (with_reducible refine (opCheck_any c o HO.out _ (Tab.ext HT.out EXY)).mono ?_); rintro e w4 ⟨rfl, os4, n4, rfl⟩; rw [HE.out]) | (go_at_call 84; (with_reducible refine (pkey_any o HO.out HB.out _).mono ?_); rintro e w5 ⟨rfl, os5, n5, rfl⟩; rw [HQ.out]) | (go_at_call 86; (with_reducible refine (tfind_as _ L q HR.out HLL.out _ (HV.out.sl.ext EXY) i HAT.out _ HS.out).mono ?_); rintro e w6 ⟨rfl, os6, n6, rfl⟩))
    go_region
    all_goals go_wp2
    all_goals refine bodyPost_ret (v := .tuple #[r, resV 6 0, .int .i64 0]) (by simp [results, Tryd.results80, go_sem]) rfl ?_
    all_goals exact do_p HZ2.out (own_low (own_swap (B := (((w.alloc (.cells #[.int .u8 c.object, .int .i64 c.instances, .int .i64 c.threads, .int .u8 c.kind, .int .i64 c.stripes, .int .i64 c.bits, .int .i64 c.cap, .int .i64 c.node, .int .i64 c.batch, .int .i64 c.chunk, .int .u64 c.limit, .int .u64 c.most] 24)).alloc (.cells #[.int .u8 o.kind, .int .u32 o.a, .int .u32 o.b, .int .u32 o.c] 28)).alloc (.cells #[.int .i64 0, .int .u32 0, .slice none 0 0] 36))) (d := 0) (by simp [go_sem]) (own_ext HOW.out EXY) (by simp [go_sem])) (by omega)) EXY
  | some u =>
    have HS : Hid ((look L q).isSome = true) := Lib.hid (by rw [hl]; rfl)
    obtain ⟨hi, hg, _, _⟩ := bin_some hp.hr hat hl
    have hu := (hp.hn _ (look_mem hl)).2.1
    dsimp only at hu
    obtain ⟨ad, cap, rfl, hs, _⟩ := HV.out
    have hln := hs.len
    obtain ⟨b, f, rfl, hbl, hrw⟩ := hs.rw hi
    rw [hg] at hrw
    obtain ⟨_, r2⟩ := hrw
    dsimp only at r2
    have i0 : (0 : Int) ≤ (i : Int) := by omega
    have i1 : (i : Int) < (L.length : Int) := by omega
    have hbl1 : b < w.heap.size + 1 := by omega
    have hbl2 : b < w.heap.size + 1 + 1 := by omega
    have hbl3 : b < w.heap.size + 1 + 1 + 1 := by omega
    have q1 : IntKind.u32.wrap u = u := by rw [IntKind.wrap_u32]; omega
    cases gu : (u == 0)
    · have gu' : (u != 0) = true := by simp [bne, gu]
      have HZ2 : Hid (Z = ⟨L, 0, u, 0⟩) := Lib.hid (by rw [HZ.out, pathDone, if_neg (by rw [g1]; exact Bool.false_ne_true), HQ.out, hl]; simp only [g3, if_true, gu, if_neg Bool.false_ne_true])
      clear hp hat hl HZ hq hs hg gu
      go_enter Tryd.func80, Tryd.ntmps80
      go_wp2_with (first | (go_at_call 81; (with_reducible refine (of_any c _).mono ?_); rintro e w1 ⟨rfl, os1, n1, rfl⟩; rw [HC.out]) | (go_at_call 82; (with_reducible refine (is_any c _ L HF.out _ (HV.out.ext EXY)).mono ?_); rintro e w2 ⟨rfl, os2, n2, rfl⟩; rw [HI.out]) | (go_at_call 39; (with_reducible refine (clone_any _ L (by omega) _ (HV.out.ext EXY)).mono ?_); rintro e w3 ⟨r, rfl, HO3, os3, n3, rfl⟩; have ho3 := own_low (lo := w.heap.size + 3) HO3 (by first | (simp [go_sem]; done) | (simp [go_sem]; omega)); simp only [grew_grew] at ho3; have HOW := Lib.hid ho3; clear HO3 ho3) | (go_at_call 7; (with_reducible refine (opCheck_any c o HO.out _ (Tab.ext HT.out EXY)).mono ?_); rintro e w4 ⟨rfl, os4, n4, rfl⟩; rw [HE.out]) | (go_at_call 84; (with_reducible refine (pkey_any o HO.out HB.out _).mono ?_); rintro e w5 ⟨rfl, os5, n5, rfl⟩; rw [HQ.out]) | (go_at_call 86; (with_reducible refine (tfind_as _ L q HR.out HLL.out _ (HV.out.sl.ext EXY) i HAT.out _ HS.out).mono ?_); rintro e w6 ⟨rfl, os6, n6, rfl⟩))
      go_region
      all_goals go_wp2
      all_goals refine bodyPost_ret (v := .tuple #[r, resV 0 u, .int .i64 0]) (by simp [results, Tryd.results80, go_sem]) rfl ?_
      all_goals exact do_p HZ2.out (own_low (own_swap (B := (((w.alloc (.cells #[.int .u8 c.object, .int .i64 c.instances, .int .i64 c.threads, .int .u8 c.kind, .int .i64 c.stripes, .int .i64 c.bits, .int .i64 c.cap, .int .i64 c.node, .int .i64 c.batch, .int .i64 c.chunk, .int .u64 c.limit, .int .u64 c.most] 24)).alloc (.cells #[.int .u8 o.kind, .int .u32 o.a, .int .u32 o.b, .int .u32 o.c] 28)).alloc (.cells #[.int .i64 0, .int .u32 0, .slice none 0 0] 36))) (d := 0) (by simp [go_sem]) (own_ext HOW.out EXY) (by simp [go_sem])) (by omega)) EXY
    · have gu' : (u != 0) = false := by simp [bne, gu]
      have HZ2 : Hid (Z = ⟨L, 6, 0, 0⟩) := Lib.hid (by rw [HZ.out, pathDone, if_neg (by rw [g1]; exact Bool.false_ne_true), HQ.out, hl]; simp only [g3, if_true, gu])
      clear hp hat hl HZ hq hs hg gu
      go_enter Tryd.func80, Tryd.ntmps80
      go_wp2_with (first | (go_at_call 81; (with_reducible refine (of_any c _).mono ?_); rintro e w1 ⟨rfl, os1, n1, rfl⟩; rw [HC.out]) | (go_at_call 82; (with_reducible refine (is_any c _ L HF.out _ (HV.out.ext EXY)).mono ?_); rintro e w2 ⟨rfl, os2, n2, rfl⟩; rw [HI.out]) | (go_at_call 39; (with_reducible refine (clone_any _ L (by omega) _ (HV.out.ext EXY)).mono ?_); rintro e w3 ⟨r, rfl, HO3, os3, n3, rfl⟩; have ho3 := own_low (lo := w.heap.size + 3) HO3 (by first | (simp [go_sem]; done) | (simp [go_sem]; omega)); simp only [grew_grew] at ho3; have HOW := Lib.hid ho3; clear HO3 ho3) | (go_at_call 7; (with_reducible refine (opCheck_any c o HO.out _ (Tab.ext HT.out EXY)).mono ?_); rintro e w4 ⟨rfl, os4, n4, rfl⟩; rw [HE.out]) | (go_at_call 84; (with_reducible refine (pkey_any o HO.out HB.out _).mono ?_); rintro e w5 ⟨rfl, os5, n5, rfl⟩; rw [HQ.out]) | (go_at_call 86; (with_reducible refine (tfind_as _ L q HR.out HLL.out _ (HV.out.sl.ext EXY) i HAT.out _ HS.out).mono ?_); rintro e w6 ⟨rfl, os6, n6, rfl⟩))
      go_region
      all_goals go_wp2
      all_goals refine bodyPost_ret (v := .tuple #[r, resV 6 0, .int .i64 0]) (by simp [results, Tryd.results80, go_sem]) rfl ?_
      all_goals exact do_p HZ2.out (own_low (own_swap (B := (((w.alloc (.cells #[.int .u8 c.object, .int .i64 c.instances, .int .i64 c.threads, .int .u8 c.kind, .int .i64 c.stripes, .int .i64 c.bits, .int .i64 c.cap, .int .i64 c.node, .int .i64 c.batch, .int .i64 c.chunk, .int .u64 c.limit, .int .u64 c.most] 24)).alloc (.cells #[.int .u8 o.kind, .int .u32 o.a, .int .u32 o.b, .int .u32 o.c] 28)).alloc (.cells #[.int .i64 0, .int .u32 0, .slice none 0 0] 36))) (d := 0) (by simp [go_sem]) (own_ext HOW.out EXY) (by simp [go_sem])) (by omega)) EXY
theorem unset_as (vL : Value) (L : List Rw) (k : Int) (base : Nat) (w : World) (M : List Rw) (dc dw : Int) (hp : (wholeK k = true ∧ Rises L ∧ L.length ≤ 900 ∧ ∀ x ∈ L, NodeOk L x) ∧ (match look L k with | none => (⟨L, 6, 0, 0⟩ : Outc) | some u => if usedB k L then ⟨L, 90, 0, 0⟩ else ⟨withoutK k L, 0, u, 0⟩) = ⟨M, dc, dw, 0⟩)
    (hown : w.ownsRow base 44 2 vL L.length (rwCells L)) (hb : base ≤ w.heap.size) : Calls Tryd.prog 85 #[vL, .int .u64 k] w (SetP w base M dc dw) := by
  obtain ⟨⟨h1, h2, h3, h4⟩, h5⟩ := hp
  have hu : UPre L k base vL w := ⟨h1, h2, h3, fun x hx => (h4 x hx).2.1, fun x hx => (h4 x hx).1, hown, hb⟩
  cases hl : look L k with
  | none =>
    rw [hl] at h5
    cases h5
    exact unset_none vL _ k base w hu hl
  | some u =>
    rw [hl] at h5
    refine unset_some vL L k u base w hu hl _ (used_abov h4 h1) M dc dw (Lib.hid ⟨fun h => ?_, fun h => ?_⟩)
    · rw [h] at h5; cases h5; exact ⟨rfl, rfl, rfl⟩
    · rw [h] at h5; cases h5; exact ⟨rfl, rfl, rfl⟩
theorem do_unset (c : Cfg) (v : Value) (L : List Rw) (o : Opn) (w : World) (hp : WPre c v L o w) (hn : L.length ≤ 900) (g1 : (o.kind == 12) = false) (g2 : (o.kind == 13) = true) (M : List Rw) (dc dw : Int) (Z : Outc) (hZ : Z = ⟨M, dc, dw, 0⟩) (hz : pathDone c L o = ⟨M, dc, dw, 0⟩) :
    Calls Tryd.prog 80 #[c.v, v, o.v] w (DoP w Z) := by
  have HZ := Lib.hid hZ
  have HV := Lib.hid hp.hv; have HF := Lib.hid hp.hf; have HO := Lib.hid hp.ho; have HT := Lib.hid hp.ht; have HC := Lib.hid hp.hc; have HI := Lib.hid hp.hi; have HE := Lib.hid hp.he; have HR := Lib.hid hp.hr; have HB := Lib.hid hp.hb; have HWK := Lib.hid hp.hw; have HNK := Lib.hid hp.hn; have hoc := hp.ho.c; have hcv := hp.hcv; have hob := hp.ho.b; have hoa := hp.ho.a; obtain ⟨q, hq⟩ : ∃ q, pathKey o = q := ⟨_, rfl⟩; have HQ := Lib.hid hq; rw [hq] at HWK; (try rw [hq] at HZ); have HLL : Hid (L.length ≤ 1000000) := Lib.hid (by omega)
  have g3 : (o.kind == 14) = false := by simp at g2 ⊢; omega
  have HUP : Hid ((wholeK q = true ∧ Rises L ∧ L.length ≤ 900 ∧ ∀ x ∈ L, NodeOk L x) ∧ (match look L q with | none => (⟨L, 6, 0, 0⟩ : Outc) | some u => if usedB q L then ⟨L, 90, 0, 0⟩ else ⟨withoutK q L, 0, u, 0⟩) = ⟨M, dc, dw, 0⟩) := Lib.hid (by
    refine ⟨⟨HWK.out, hp.hr, hn, hp.hn⟩, ?_⟩
    rw [← hz, pathDone, if_neg (by rw [g1]; exact Bool.false_ne_true), HQ.out]
    cases look L q with
    | none => rfl
    | some u => simp only [g3, if_neg Bool.false_ne_true])
  clear hp hz hZ hq
  go_enter Tryd.func80, Tryd.ntmps80
  go_wp2_with (first | (go_at_call 81; (with_reducible refine (of_any c _).mono ?_); rintro e w1 ⟨rfl, os1, n1, rfl⟩; rw [HC.out]) | (go_at_call 82; (with_reducible refine (is_any c _ L HF.out _ (HV.out.ext EXY)).mono ?_); rintro e w2 ⟨rfl, os2, n2, rfl⟩; rw [HI.out]) | (go_at_call 39; (with_reducible refine (clone_any _ L (by omega) _ (HV.out.ext EXY)).mono ?_); rintro e w3 ⟨r, rfl, HO3, os3, n3, rfl⟩; have ho3 := own_low (lo := w.heap.size + 3) HO3 (by first | (simp [go_sem]; done) | (simp [go_sem]; omega)); simp only [grew_grew] at ho3; have HOW := Lib.hid ho3; clear HO3 ho3) | (go_at_call 7; (with_reducible refine (opCheck_any c o HO.out _ (Tab.ext HT.out EXY)).mono ?_); rintro e w4 ⟨rfl, os4, n4, rfl⟩; rw [HE.out]) | (go_at_call 84; (with_reducible refine (pkey_any o HO.out HB.out _).mono ?_); rintro e w5 ⟨rfl, os5, n5, rfl⟩; rw [HQ.out]) | (go_at_call 85; (with_reducible refine (unset_as r L q (w.heap.size + 3) _ M dc dw HUP.out (own_ext HOW.out EXY) (by first | (simp [go_sem]; done) | (simp [go_sem]; omega))).mono ?_); rintro e w8 ⟨r8, rfl, HO8, hu8⟩; obtain ⟨os8, n8, rfl⟩ := hu8 (((w.alloc (.cells #[.int .u8 c.object, .int .i64 c.instances, .int .i64 c.threads, .int .u8 c.kind, .int .i64 c.stripes, .int .i64 c.bits, .int .i64 c.cap, .int .i64 c.node, .int .i64 c.batch, .int .i64 c.chunk, .int .u64 c.limit, .int .u64 c.most] 24)).alloc (.cells #[.int .u8 o.kind, .int .u32 o.a, .int .u32 o.b, .int .u32 o.c] 28)).alloc (.cells #[.int .i64 0, .int .u32 0, .slice none 0 0] 36)) EXY (by simp); have HOW8 := Lib.hid HO8; clear HO8))
  go_region
  all_goals go_wp2
  all_goals refine bodyPost_ret (v := .tuple #[r8, resV dc dw, .int .i64 0]) (by simp [results, Tryd.results80, go_sem]) rfl ?_
  all_goals exact do_p HZ.out (own_low (own_swap (B := (((w.alloc (.cells #[.int .u8 c.object, .int .i64 c.instances, .int .i64 c.threads, .int .u8 c.kind, .int .i64 c.stripes, .int .i64 c.bits, .int .i64 c.cap, .int .i64 c.node, .int .i64 c.batch, .int .i64 c.chunk, .int .u64 c.limit, .int .u64 c.most] 24)).alloc (.cells #[.int .u8 o.kind, .int .u32 o.a, .int .u32 o.b, .int .u32 o.c] 28)).alloc (.cells #[.int .i64 0, .int .u32 0, .slice none 0 0] 36))) (d := n8) (by simp [go_sem]) HOW8.out (by simp [go_sem])) (by omega)) EXY
theorem set_as (c : Cfg) (vL : Value) (L : List Rw) (k u : Int) (base : Nat) (w : World) (M : List Rw) (dc dw : Int) (hp : (wholeK k = true ∧ Rises L ∧ RwsFit L ∧ L.length ≤ 900 ∧ (∀ x ∈ L, NodeOk L x) ∧ (0 ≤ u ∧ u ≤ 2147483647) ∧ 0 ≤ c.cap ∧ c.cap ≤ 1000) ∧ (if c.cap < ((madeK k L).length : Int) then (⟨L, 9, 0, 0⟩ : Outc) else ⟨withK k (u + 1) (madeK k L), 0, (look L k).getD 0, 0⟩) = ⟨M, dc, dw, 0⟩)
    (hown : w.ownsRow base 44 2 vL L.length (rwCells L)) (hb : base ≤ w.heap.size) : Calls Tryd.prog 83 #[c.v, vL, .int .u64 k, .int .u32 u] w (SetP w base M dc dw) := by
  obtain ⟨⟨h1, h2, h3, h4, h5, h6, h7⟩, h8⟩ := hp
  have hs : SPre c L k u base vL w := ⟨h1, h6, h3, h2, h4, fun x hx => (h5 x hx).2.1, hown, hb, h7⟩
  split at h8
  · rename_i h9
    cases h8
    exact set_full c vL _ k u base w hs h9
  · rename_i h9
    cases h8
    exact set_ok c vL L k u base w hs (by omega)
theorem do_set (c : Cfg) (v : Value) (L : List Rw) (o : Opn) (w : World) (hp : WPre c v L o w) (hn : L.length ≤ 900) (g1 : (o.kind == 12) = true) (M : List Rw) (dc dw : Int) (Z : Outc) (hZ : Z = ⟨M, dc, dw, 0⟩) (hz : pathDone c L o = ⟨M, dc, dw, 0⟩) :
    Calls Tryd.prog 80 #[c.v, v, o.v] w (DoP w Z) := by
  have HZ := Lib.hid hZ
  have HV := Lib.hid hp.hv; have HF := Lib.hid hp.hf; have HO := Lib.hid hp.ho; have HT := Lib.hid hp.ht; have HC := Lib.hid hp.hc; have HI := Lib.hid hp.hi; have HE := Lib.hid hp.he; have HR := Lib.hid hp.hr; have HB := Lib.hid hp.hb; have HWK := Lib.hid hp.hw; have HNK := Lib.hid hp.hn; have hoc := hp.ho.c; have hcv := hp.hcv; have hob := hp.ho.b; have hoa := hp.ho.a; obtain ⟨q, hq⟩ : ∃ q, pathKey o = q := ⟨_, rfl⟩; have HQ := Lib.hid hq; rw [hq] at HWK; (try rw [hq] at HZ); have HLL : Hid (L.length ≤ 1000000) := Lib.hid (by omega)
  have HSP : Hid ((wholeK q = true ∧ Rises L ∧ RwsFit L ∧ L.length ≤ 900 ∧ (∀ x ∈ L, NodeOk L x) ∧ (0 ≤ o.c ∧ o.c ≤ 2147483647) ∧ 0 ≤ c.cap ∧ c.cap ≤ 1000) ∧ (if c.cap < ((madeK q L).length : Int) then (⟨L, 9, 0, 0⟩ : Outc) else ⟨withK q (o.c + 1) (madeK q L), 0, (look L q).getD 0, 0⟩) = ⟨M, dc, dw, 0⟩) := Lib.hid (by
    have hcp := hp.hcap
    refine ⟨⟨HWK.out, hp.hr, hp.hf, hn, hp.hn, ⟨hoc.1, hcv⟩, by omega, by omega⟩, ?_⟩
    rw [← hz, pathDone, if_pos g1, HQ.out])
  clear hp hz hZ hq
  go_enter Tryd.func80, Tryd.ntmps80
  go_upto_region 15 with (first | (go_at_call 81; (with_reducible refine (of_any c _).mono ?_); rintro e w1 ⟨rfl, os1, n1, rfl⟩; rw [HC.out]) | (go_at_call 82; (with_reducible refine (is_any c _ L HF.out _ (HV.out.ext EXY)).mono ?_); rintro e w2 ⟨rfl, os2, n2, rfl⟩; rw [HI.out]) | (go_at_call 39; (with_reducible refine (clone_any _ L (by omega) _ (HV.out.ext EXY)).mono ?_); rintro e w3 ⟨r, rfl, HO3, os3, n3, rfl⟩; have ho3 := own_low (lo := w.heap.size + 3) HO3 (by first | (simp [go_sem]; done) | (simp [go_sem]; omega)); simp only [grew_grew] at ho3; have HOW := Lib.hid ho3; clear HO3 ho3) | (go_at_call 7; (with_reducible refine (opCheck_any c o HO.out _ (Tab.ext HT.out EXY)).mono ?_); rintro e w4 ⟨rfl, os4, n4, rfl⟩; rw [HE.out]))
  refine wp_gen (fun W => Ext (((w.alloc (.cells #[.int .u8 c.object, .int .i64 c.instances, .int .i64 c.threads, .int .u8 c.kind, .int .i64 c.stripes, .int .i64 c.bits, .int .i64 c.cap, .int .i64 c.node, .int .i64 c.batch, .int .i64 c.chunk, .int .u64 c.limit, .int .u64 c.most] 24)).alloc (.cells #[.int .u8 o.kind, .int .u32 o.a, .int .u32 o.b, .int .u32 o.c] 28)).alloc (.cells #[.int .i64 0, .int .u32 0, .slice none 0 0] 36)) W ∧ W.ownsRow (w.heap.size + 3) 44 2 r L.length (rwCells L) ∧ Holds W ([(w.heap.size, 0, .int .u8 c.object), (w.heap.size, 1, .int .i64 c.instances), (w.heap.size, 2, .int .i64 c.threads), (w.heap.size, 3, .int .u8 c.kind), (w.heap.size, 4, .int .i64 c.stripes), (w.heap.size, 5, .int .i64 c.bits), (w.heap.size, 6, .int .i64 c.cap), (w.heap.size, 7, .int .i64 c.node), (w.heap.size, 8, .int .i64 c.batch), (w.heap.size, 9, .int .i64 c.chunk), (w.heap.size, 10, .int .u64 c.limit), (w.heap.size, 11, .int .u64 c.most)] ++ [(w.heap.size + 1, 0, .int .u8 o.kind), (w.heap.size + 1, 1, .int .u32 o.a), (w.heap.size + 1, 2, .int .u32 o.b), (w.heap.size + 1, 3, .int .u32 o.c)]) ∧ w.heap.size + 3 ≤ W.heap.size) ⟨EXY, own_ext HOW.out EXY, by simp [Holds, go_sem], by simp [go_sem]⟩ ?_
  rintro W ⟨hxb, hown, hk, hsz⟩
  clear HOW
  have HXB := Lib.hid hxb
  have HOW := Lib.hid hown
  have HK := Lib.hid hk
  have HSZ := Lib.hid hsz
  clear hxb hown hk hsz
  refine wp_region_remH (fun W => W.cell? ⟨w.heap.size, 0, none⟩ = some (.int .u8 c.object) ∧ W.cell? ⟨w.heap.size, 1, none⟩ = some (.int .i64 c.instances) ∧ W.cell? ⟨w.heap.size, 2, none⟩ = some (.int .i64 c.threads) ∧ W.cell? ⟨w.heap.size, 3, none⟩ = some (.int .u8 c.kind) ∧ W.cell? ⟨w.heap.size, 4, none⟩ = some (.int .i64 c.stripes) ∧ W.cell? ⟨w.heap.size, 5, none⟩ = some (.int .i64 c.bits) ∧ W.cell? ⟨w.heap.size, 6, none⟩ = some (.int .i64 c.cap) ∧ W.cell? ⟨w.heap.size, 7, none⟩ = some (.int .i64 c.node) ∧ W.cell? ⟨w.heap.size, 8, none⟩ = some (.int .i64 c.batch) ∧ W.cell? ⟨w.heap.size, 9, none⟩ = some (.int .i64 c.chunk) ∧ W.cell? ⟨w.heap.size, 10, none⟩ = some (.int .u64 c.limit) ∧ W.cell? ⟨w.heap.size, 11, none⟩ = some (.int .u64 c.most) ∧ W.cell? ⟨w.heap.size + 1, 0, none⟩ = some (.int .u8 o.kind) ∧ W.cell? ⟨w.heap.size + 1, 1, none⟩ = some (.int .u32 o.a) ∧ W.cell? ⟨w.heap.size + 1, 2, none⟩ = some (.int .u32 o.b) ∧ W.cell? ⟨w.heap.size + 1, 3, none⟩ = some (.int .u32 o.c)) (by kernel_rfl) (by kernel_rfl) (by exact HK.out.ext EX) ?_
  (refine remH_take ?_ (by kernel_rfl) (by kernel_rfl) (by kernel_rfl) ?_ ?_; rotate_left; focus (intro w5 hS5; (try dsimp only at hS5); go_simp; (try with_reducible rfl); done); (try simp only [Act.put, Act.eval, List.setIfInBounds_toArray, List.set_cons_zero, List.set_cons_succ])); (refine remH_take ?_ (by kernel_rfl) (by kernel_rfl) (by kernel_rfl) ?_ ?_; rotate_left; focus (intro w5 hS5; (try dsimp only at hS5); go_simp; (try with_reducible rfl); done); (try simp only [Act.put, Act.eval, List.setIfInBounds_toArray, List.set_cons_zero, List.set_cons_succ])); (refine remH_take ?_ (by kernel_rfl) (by kernel_rfl) (by kernel_rfl) ?_ ?_; rotate_left; focus (intro w5 hS5; (try dsimp only at hS5); go_simp; (try with_reducible rfl); done); (try simp only [Act.put, Act.eval, List.setIfInBounds_toArray, List.set_cons_zero, List.set_cons_succ])); refine remH_hold ?_; (refine remH_take ?_ (by kernel_rfl) (by kernel_rfl) (by kernel_rfl) ?_ ?_; rotate_left; focus (intro w5 hS5; (try dsimp only at hS5); go_simp; (try with_reducible rfl); done); (try simp only [Act.put, Act.eval, List.setIfInBounds_toArray, List.set_cons_zero, List.set_cons_succ])); (refine remH_take ?_ (by kernel_rfl) (by kernel_rfl) (by kernel_rfl) ?_ ?_; rotate_left; focus (intro w5 hS5; (try dsimp only at hS5); go_simp; (try with_reducible rfl); done); (try simp only [Act.put, Act.eval, List.setIfInBounds_toArray, List.set_cons_zero, List.set_cons_succ])); (refine remH_runHeld (by kernel_rfl) (by kernel_rfl) ?_; intro K5 hK5; go_simp); (go_at_call 84; (with_reducible refine (pkey_any o HO.out HB.out _).mono ?_); rintro e w5 ⟨rfl, os5, n5, rfl⟩; rw [HQ.out]); (refine hK5.out _ _ (by first | (simp [go_sem]; done) | exact HK.out.ext EX) ?_; clear hK5 K5; (try simp only [Act.put, Act.eval, List.setIfInBounds_toArray, List.set_cons_zero, List.set_cons_succ])); (refine remH_run (by kernel_rfl) (by kernel_rfl) ?_; intro K5 hK5; go_simp); (go_at_call 83; (with_reducible refine (set_as c r L q o.c (w.heap.size + 3) _ M dc dw HSP.out (own_ext HOW.out EXY) (by have := HSZ.out; simp [go_sem]; omega)).mono ?_); rintro e w8 ⟨r8, rfl, HO8, hu8⟩; obtain ⟨os8, n8, rfl⟩ := hu8 (((w.alloc (.cells #[.int .u8 c.object, .int .i64 c.instances, .int .i64 c.threads, .int .u8 c.kind, .int .i64 c.stripes, .int .i64 c.bits, .int .i64 c.cap, .int .i64 c.node, .int .i64 c.batch, .int .i64 c.chunk, .int .u64 c.limit, .int .u64 c.most] 24)).alloc (.cells #[.int .u8 o.kind, .int .u32 o.a, .int .u32 o.b, .int .u32 o.c] 28)).alloc (.cells #[.int .i64 0, .int .u32 0, .slice none 0 0] 36)) (HXB.out.trans EXY) (by simp); have HOW8 := Lib.hid HO8; clear HO8 hu8); (refine hK5.out _ _ (by first | (simp [go_sem]; done) | exact HK.out.ext EX) ?_; clear hK5 K5; (try simp only [Act.put, Act.eval, List.setIfInBounds_toArray, List.set_cons_zero, List.set_cons_succ])); (refine remH_take ?_ (by kernel_rfl) (by kernel_rfl) (by kernel_rfl) ?_ ?_; rotate_left; focus (intro w5 hS5; (try dsimp only at hS5); go_simp; (try with_reducible rfl); done); (try simp only [Act.put, Act.eval, List.setIfInBounds_toArray, List.set_cons_zero, List.set_cons_succ])); (refine remH_take ?_ (by kernel_rfl) (by kernel_rfl) (by kernel_rfl) ?_ ?_; rotate_left; focus (intro w5 hS5; (try dsimp only at hS5); go_simp; (try with_reducible rfl); done); (try simp only [Act.put, Act.eval, List.setIfInBounds_toArray, List.set_cons_zero, List.set_cons_succ])); (refine remH_take ?_ (by kernel_rfl) (by kernel_rfl) (by kernel_rfl) ?_ ?_; rotate_left; focus (intro w5 hS5; (try dsimp only at hS5); go_simp; (try with_reducible rfl); done); (try simp only [Act.put, Act.eval, List.setIfInBounds_toArray, List.set_cons_zero, List.set_cons_succ])); (refine remH_take ?_ (by kernel_rfl) (by kernel_rfl) (by kernel_rfl) ?_ ?_; rotate_left; focus (intro w5 hS5; (try dsimp only at hS5); go_simp; (try with_reducible rfl); done); (try simp only [Act.put, Act.eval, List.setIfInBounds_toArray, List.set_cons_zero, List.set_cons_succ])); (refine remH_run (by kernel_rfl) (by kernel_rfl) ?_; intro K5 hK5; go_simp); (refine hK5.out _ _ (by first | (simp [go_sem]; done) | exact HK.out.ext EX) ?_; clear hK5 K5; (try simp only [Act.put, Act.eval, List.setIfInBounds_toArray, List.set_cons_zero, List.set_cons_succ]))
  refine remH_nil (by kernel_rfl) ?_
  go_wp2
  go_region
  all_goals go_wp2
  all_goals refine bodyPost_ret (v := .tuple #[r8, resV dc dw, .int .i64 0]) (by simp [results, Tryd.results80, go_sem]) rfl ?_
  all_goals exact do_p HZ.out (own_low (own_swap (B := (((w.alloc (.cells #[.int .u8 c.object, .int .i64 c.instances, .int .i64 c.threads, .int .u8 c.kind, .int .i64 c.stripes, .int .i64 c.bits, .int .i64 c.cap, .int .i64 c.node, .int .i64 c.batch, .int .i64 c.chunk, .int .u64 c.limit, .int .u64 c.most] 24)).alloc (.cells #[.int .u8 o.kind, .int .u32 o.a, .int .u32 o.b, .int .u32 o.c] 28)).alloc (.cells #[.int .i64 0, .int .u32 0, .slice none 0 0] 36))) (d := n8) (by simp [go_sem]) HOW8.out (by simp [go_sem])) (by omega)) EXY
theorem pathDone_as (c : Cfg) (L : List Rw) (o : Opn) : ∃ M dc dw, pathDone c L o = ⟨M, dc, dw, 0⟩ := by
  unfold pathDone
  split
  · split <;> exact ⟨_, _, _, rfl⟩
  · split
    · exact ⟨_, _, _, rfl⟩
    · split
      · split <;> exact ⟨_, _, _, rfl⟩
      · split <;> exact ⟨_, _, _, rfl⟩
theorem do_any (c : Cfg) (v : Value) (L : List Rw) (hf : RwsFit L) (o : Opn) (ho : o.Fits) (w : World) (ht : Tab w) (hv : Rws w v L) (hn : L.length ≤ 900) :
    Calls Tryd.prog 80 #[c.v, v, o.v] w (DoP w (pathDo c L o)) := by
  cases h : pathIs c L
  · exact do_no c v L hf o w hv h
  · cases h3 : (opErr c o == 0)
    · exact do_bad c v L hf o ho w ht hv hn h h3
    · obtain ⟨hp, hc, hlc, hrs, hok⟩ := pathIs_ok hf h
      obtain ⟨_, hk, hft⟩ := path_kind hc h3
      obtain ⟨_, hb, hcv, hc0, hwk⟩ := path_fits ho hft hk
      have hp2 : (partOk c && (c.object == 4)) = true := by rw [hp, hc]; rfl
      have he : opErr c o = 0 := by simpa using h3
      have hz := pathDo_ok hp2 h h3
      have hw : WPre c v L o w := ⟨hv, hf, ho, ht, hp2, h, he, hk, hb, by by_cases h6 : o.kind = 12; exact hcv h6; have := hc0 h6; omega, hwk, hrs, hok, partOk_cap hp⟩
      rw [hz]
      cases g1 : (o.kind == 12)
      · cases g2 : (o.kind == 13)
        · exact do_read c v L o w hw hn g1 g2 _ (Lib.hid rfl)
        · obtain ⟨M, dc, dw, hM⟩ := pathDone_as c L o
          exact do_unset c v L o w hw hn g1 g2 M dc dw _ hM hM
      · obtain ⟨M, dc, dw, hM⟩ := pathDone_as c L o
        exact do_set c v L o w hw hn g1 M dc dw _ hM hM
end Go.Proofs.YtknfikdignpniaaDoor.paths
