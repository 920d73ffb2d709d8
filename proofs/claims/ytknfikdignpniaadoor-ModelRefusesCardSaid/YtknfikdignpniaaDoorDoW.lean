/- The walk of 'rules.Do': rules are added and dropped. -/
import Derived.Test.YtknfikdignpniaaDoorRd
namespace Go.Proofs.YtknfikdignpniaaDoor.rules
open Go Go.RowKit
set_option maxRecDepth 100000
set_option maxHeartbeats 8000000

/-- What the walk of a write knows ahead. -/
structure WPre (c : Cfg) (v : Value) (L : List Rw) (o : Opn) (w : World) (q : Int) : Prop where
  hv : Rws w v L
  hf : RwsFit L
  ho : o.Fits
  ht : Tab w
  hc : (partOk c && (c.object == 3)) = true
  hi : rulesIs c L = true
  he : opErr c o = 0
  ha : 0 ≤ o.a ∧ o.a ≤ 65535
  hb : 0 ≤ o.b ∧ o.b ≤ 65535
  hq : o.a * 65536 + o.b = q
  hr : Rises L
  hk : ∀ x ∈ L, RuleOk x

theorem do_drop_none (c : Cfg) (v : Value) (L : List Rw) (o : Opn) (w : World) (q : Int) (hp : WPre c v L o w q) (hn : L.length ≤ 1000) (h9 : (o.kind == 9) = false) (h11 : (o.kind == 11) = false) (hl : look L q = none) (Z : Outc) (HZ : Hid (Z = ⟨L, 6, 0, 0⟩)) :
    Calls Tryd.prog 68 #[c.v, v, o.v] w (DoP w Z) := by
  have HV := Lib.hid hp.hv; have HF := Lib.hid hp.hf; have HO := Lib.hid hp.ho; have HT := Lib.hid hp.ht; have HC := Lib.hid hp.hc; have HI := Lib.hid hp.hi; have HE := Lib.hid hp.he; have HWA := Lib.hid hp.ha; have HWB := Lib.hid hp.hb; have HQ := Lib.hid hp.hq; have hrs := hp.hr; have hok := hp.hk; have hoc := hp.ho.c; clear hp
  obtain ⟨i, hi, hf, hne, _⟩ := pos_none hrs hl
  obtain ⟨ad, cap, rfl, hs, hs2⟩ := HV.out
  have hln := hs.len
  by_cases hlt : i < L.length
  · rw [if_pos hlt] at hf
    have HIDX := Lib.hid hf
    obtain ⟨b, f, rfl, hbl, hrw⟩ := hs.rw hlt
    have hne' := hne hlt
    obtain ⟨x, hx⟩ : ∃ x, L.getD i zrw = x := ⟨_, rfl⟩
    rw [hx] at hrw hne'
    have HR1 := Lib.hid hrw.1
    have g1 : (x.k == q) = false := by simpa using hne'
    have i0 : (0 : Int) ≤ (i : Int) := by omega
    have i1 : (i : Int) < (L.length : Int) := by omega
    have g0 : decide ((i : Int) < (L.length : Int)) = true := decide_eq_true i1
    have g0n : decide (i < L.length) = true := decide_eq_true hlt
    clear hrs hok hne hf hs hs2 hl hx hrw hne'
    go_enter Tryd.func68, Tryd.ntmps68; go_wp2_with (first | (go_at_call 69; refine (of_any c _).mono ?_; rintro e w1 ⟨rfl, os1, n1, rfl⟩; rw [HC.out]) | (go_at_call 70; refine (is_any c _ L HF.out _ (HV.out.sl.ext EXX)).mono ?_; rintro e w2 ⟨rfl, os2, n2, rfl⟩; rw [HI.out]) | (go_at_call 39; refine (clone_any _ L (by omega) _ (HV.out.ext EXX)).mono ?_; rintro e w3 ⟨r, rfl, HO3, os3, n3, rfl⟩; have ho3 := own_low (lo := w.heap.size + 3) HO3 (by first | (simp [go_sem]; done) | (simp [go_sem]; omega)); simp only [grew_grew] at ho3; have HOW := Lib.hid ho3; clear HO3 ho3) | (go_at_call 7; refine (opCheck_any c o HO.out _ (Tab.ext HT.out EXX)).mono ?_; rintro e w4 ⟨rfl, os4, n4, rfl⟩; rw [HE.out]) | (go_at_call 72; refine (key_any _ _ HWA.out HWB.out _).mono ?_; rintro e w5 ⟨rfl, rfl⟩; rw [HQ.out]) | (go_at_call 73; refine (idx26_any _ L q _ _ (HV.out.sl.ext EXX) (by simp [go_sem])).mono ?_; rintro e w6 ⟨rfl, os6, n6, rfl⟩; rw [HIDX.out]))
    refine wp_gen (fun W => Ext (((w.alloc (.cells #[.int .u8 c.object, .int .i64 c.instances, .int .i64 c.threads, .int .u8 c.kind, .int .i64 c.stripes, .int .i64 c.bits, .int .i64 c.cap, .int .i64 c.node, .int .i64 c.batch, .int .i64 c.chunk, .int .u64 c.limit, .int .u64 c.most] 24)).alloc (.cells #[.int .u8 o.kind, .int .u32 o.a, .int .u32 o.b, .int .u32 o.c] 28)).alloc (.cells #[.int .i64 0, .int .u32 0, .slice none 0 0] 36)) W ∧ W.ownsRow (w.heap.size + 3) 44 2 r L.length (rwCells L) ∧ W.cell? ⟨w.heap.size + 1 + 1 + 1 + cnt (both (both (both os1 os2) os3) os4), 0, none⟩ = some (.int .u64 q)) ⟨EXX, own_ext HOW.out EXX, by simp [go_sem]⟩ ?_
    rintro W ⟨⟨os', d', rfl⟩, hown, hk1⟩
    obtain ⟨NN, hNN⟩ : ∃ NN, NN = w.heap.size + 1 + 1 + 1 + cnt (both (both (both os1 os2) os3) os4) := ⟨_, rfl⟩
    rw [← hNN] at hk1 ⊢
    have lN := World.block_lt_of_cell? _ _ hk1
    simp only [size_grew, World.size_alloc] at lN
    clear hNN HOW
    have HOW := Lib.hid hown
    clear hown
    have hx1 : (grew (((w.alloc (.cells #[.int .u8 c.object, .int .i64 c.instances, .int .i64 c.threads, .int .u8 c.kind, .int .i64 c.stripes, .int .i64 c.bits, .int .i64 c.cap, .int .i64 c.node, .int .i64 c.batch, .int .i64 c.chunk, .int .u64 c.limit, .int .u64 c.most] 24)).alloc (.cells #[.int .u8 o.kind, .int .u32 o.a, .int .u32 o.b, .int .u32 o.c] 28)).alloc (.cells #[.int .i64 0, .int .u32 0, .slice none 0 0] 36)) os' d').cell? ⟨b, f + i * 2, none⟩ = some (.int .u64 x.k) := ext_cell EXX HR1.out
    have lb : b < w.heap.size + 1 + 1 + 1 + cnt os' := by omega
    (refine wp_region_ext_lit (by kernel_rfl) (by kernel_rfl) ?_); (repeat (go_big_quiet_step (fail))); (refine wpQuiet_nil ?_; intro _ hw'; obtain ⟨⟨osq, nq⟩, hw''⟩ := hw'; replace hw'' : _ = grew _ osq nq := hw''; subst hw'')
    go_wp2
    go_region
    all_goals go_wp2
    all_goals refine bodyPost_ret (v := .tuple #[r, resV 6 0, .int .i64 0]) (by simp [results, Tryd.results68, go_sem]) rfl ?_
    all_goals exact do_p HZ.out (own_low (own_ext (own_swap (d' := d') (B' := (((w.alloc (.cells #[.int .u8 c.object, .int .i64 c.instances, .int .i64 c.threads, .int .u8 c.kind, .int .i64 c.stripes, .int .i64 c.bits, .int .i64 c.cap, .int .i64 c.node, .int .i64 c.batch, .int .i64 c.chunk, .int .u64 c.limit, .int .u64 c.most] 24)).alloc (.cells #[.int .u8 o.kind, .int .u32 o.a, .int .u32 o.b, .int .u32 o.c] 28)).alloc (.cells #[.int .i64 6, .int .u32 0, .slice none 0 0] 36))) (by simp) HOW.out (by simp)) EXX) (by omega)) EXX
  · rw [if_neg hlt] at hf
    have HIDX := Lib.hid hf
    clear hrs hok hne hf hs hs2 hl
    go_enter Tryd.func68, Tryd.ntmps68; go_wp2_with (first | (go_at_call 69; refine (of_any c _).mono ?_; rintro e w1 ⟨rfl, os1, n1, rfl⟩; rw [HC.out]) | (go_at_call 70; refine (is_any c _ L HF.out _ (HV.out.sl.ext EXX)).mono ?_; rintro e w2 ⟨rfl, os2, n2, rfl⟩; rw [HI.out]) | (go_at_call 39; refine (clone_any _ L (by omega) _ (HV.out.ext EXX)).mono ?_; rintro e w3 ⟨r, rfl, HO3, os3, n3, rfl⟩; have ho3 := own_low (lo := w.heap.size + 3) HO3 (by first | (simp [go_sem]; done) | (simp [go_sem]; omega)); simp only [grew_grew] at ho3; have HOW := Lib.hid ho3; clear HO3 ho3) | (go_at_call 7; refine (opCheck_any c o HO.out _ (Tab.ext HT.out EXX)).mono ?_; rintro e w4 ⟨rfl, os4, n4, rfl⟩; rw [HE.out]) | (go_at_call 72; refine (key_any _ _ HWA.out HWB.out _).mono ?_; rintro e w5 ⟨rfl, rfl⟩; rw [HQ.out]) | (go_at_call 73; refine (idx26_any _ L q _ _ (HV.out.sl.ext EXX) (by simp [go_sem])).mono ?_; rintro e w6 ⟨rfl, os6, n6, rfl⟩; rw [HIDX.out]))
    refine wp_gen (fun W => Ext (((w.alloc (.cells #[.int .u8 c.object, .int .i64 c.instances, .int .i64 c.threads, .int .u8 c.kind, .int .i64 c.stripes, .int .i64 c.bits, .int .i64 c.cap, .int .i64 c.node, .int .i64 c.batch, .int .i64 c.chunk, .int .u64 c.limit, .int .u64 c.most] 24)).alloc (.cells #[.int .u8 o.kind, .int .u32 o.a, .int .u32 o.b, .int .u32 o.c] 28)).alloc (.cells #[.int .i64 0, .int .u32 0, .slice none 0 0] 36)) W ∧ W.ownsRow (w.heap.size + 3) 44 2 r L.length (rwCells L) ∧ W.cell? ⟨w.heap.size + 1 + 1 + 1 + cnt (both (both (both os1 os2) os3) os4), 0, none⟩ = some (.int .u64 q)) ⟨EXX, own_ext HOW.out EXX, by simp [go_sem]⟩ ?_
    rintro W ⟨⟨os', d', rfl⟩, hown, hk1⟩
    obtain ⟨NN, hNN⟩ : ∃ NN, NN = w.heap.size + 1 + 1 + 1 + cnt (both (both (both os1 os2) os3) os4) := ⟨_, rfl⟩
    rw [← hNN] at hk1 ⊢
    have lN := World.block_lt_of_cell? _ _ hk1
    simp only [size_grew, World.size_alloc] at lN
    clear hNN HOW
    have HOW := Lib.hid hown
    clear hown
    (refine wp_region_ext_lit (by kernel_rfl) (by kernel_rfl) ?_); (repeat (go_big_quiet_step (fail))); (refine wpQuiet_nil ?_; intro _ hw'; obtain ⟨⟨osq, nq⟩, hw''⟩ := hw'; replace hw'' : _ = grew _ osq nq := hw''; subst hw'')
    go_wp2
    go_region
    all_goals go_wp2
    all_goals refine bodyPost_ret (v := .tuple #[r, resV 6 0, .int .i64 0]) (by simp [results, Tryd.results68, go_sem]) rfl ?_
    all_goals exact do_p HZ.out (own_low (own_ext (own_swap (d' := d') (B' := (((w.alloc (.cells #[.int .u8 c.object, .int .i64 c.instances, .int .i64 c.threads, .int .u8 c.kind, .int .i64 c.stripes, .int .i64 c.bits, .int .i64 c.cap, .int .i64 c.node, .int .i64 c.batch, .int .i64 c.chunk, .int .u64 c.limit, .int .u64 c.most] 24)).alloc (.cells #[.int .u8 o.kind, .int .u32 o.a, .int .u32 o.b, .int .u32 o.c] 28)).alloc (.cells #[.int .i64 6, .int .u32 0, .slice none 0 0] 36))) (by simp) HOW.out (by simp)) EXX) (by omega)) EXX

theorem do_add_full (c : Cfg) (v : Value) (L : List Rw) (o : Opn) (w : World) (q : Int) (hp : WPre c v L o w q) (hn : L.length ≤ 1000) (h9 : (o.kind == 9) = true) (h11 : (o.kind == 11) = false) (hl : look L q = none) (hcap : c.cap ≤ (L.length : Int)) (Z : Outc) (HZ : Hid (Z = ⟨L, 9, 0, 0⟩)) :
    Calls Tryd.prog 68 #[c.v, v, o.v] w (DoP w Z) := by
  have HV := Lib.hid hp.hv; have HF := Lib.hid hp.hf; have HO := Lib.hid hp.ho; have HT := Lib.hid hp.ht; have HC := Lib.hid hp.hc; have HI := Lib.hid hp.hi; have HE := Lib.hid hp.he; have HWA := Lib.hid hp.ha; have HWB := Lib.hid hp.hb; have HQ := Lib.hid hp.hq; have hrs := hp.hr; have hok := hp.hk; have hoc := hp.ho.c; clear hp
  obtain ⟨i, hi, hf, hne, _⟩ := pos_none hrs hl
  obtain ⟨ad, cap, rfl, hs, hs2⟩ := HV.out
  have hln := hs.len
  by_cases hlt : i < L.length
  · rw [if_pos hlt] at hf
    have HIDX := Lib.hid hf
    obtain ⟨b, f, rfl, hbl, hrw⟩ := hs.rw hlt
    have hne' := hne hlt
    obtain ⟨x, hx⟩ : ∃ x, L.getD i zrw = x := ⟨_, rfl⟩
    rw [hx] at hrw hne'
    have HR1 := Lib.hid hrw.1
    have g1 : (x.k == q) = false := by simpa using hne'
    have i0 : (0 : Int) ≤ (i : Int) := by omega
    have i1 : (i : Int) < (L.length : Int) := by omega
    have g0 : decide ((i : Int) < (L.length : Int)) = true := decide_eq_true i1
    have g0n : decide (i < L.length) = true := decide_eq_true hlt
    clear hrs hok hne hf hs hs2 hl hx hrw hne'
    go_enter Tryd.func68, Tryd.ntmps68; go_wp2_with (first | (go_at_call 69; refine (of_any c _).mono ?_; rintro e w1 ⟨rfl, os1, n1, rfl⟩; rw [HC.out]) | (go_at_call 70; refine (is_any c _ L HF.out _ (HV.out.sl.ext EXX)).mono ?_; rintro e w2 ⟨rfl, os2, n2, rfl⟩; rw [HI.out]) | (go_at_call 39; refine (clone_any _ L (by omega) _ (HV.out.ext EXX)).mono ?_; rintro e w3 ⟨r, rfl, HO3, os3, n3, rfl⟩; have ho3 := own_low (lo := w.heap.size + 3) HO3 (by first | (simp [go_sem]; done) | (simp [go_sem]; omega)); simp only [grew_grew] at ho3; have HOW := Lib.hid ho3; clear HO3 ho3) | (go_at_call 7; refine (opCheck_any c o HO.out _ (Tab.ext HT.out EXX)).mono ?_; rintro e w4 ⟨rfl, os4, n4, rfl⟩; rw [HE.out]) | (go_at_call 72; refine (key_any _ _ HWA.out HWB.out _).mono ?_; rintro e w5 ⟨rfl, rfl⟩; rw [HQ.out]) | (go_at_call 73; refine (idx26_any _ L q _ _ (HV.out.sl.ext EXX) (by simp [go_sem])).mono ?_; rintro e w6 ⟨rfl, os6, n6, rfl⟩; rw [HIDX.out]))
    refine wp_gen (fun W => Ext (((w.alloc (.cells #[.int .u8 c.object, .int .i64 c.instances, .int .i64 c.threads, .int .u8 c.kind, .int .i64 c.stripes, .int .i64 c.bits, .int .i64 c.cap, .int .i64 c.node, .int .i64 c.batch, .int .i64 c.chunk, .int .u64 c.limit, .int .u64 c.most] 24)).alloc (.cells #[.int .u8 o.kind, .int .u32 o.a, .int .u32 o.b, .int .u32 o.c] 28)).alloc (.cells #[.int .i64 0, .int .u32 0, .slice none 0 0] 36)) W ∧ W.ownsRow (w.heap.size + 3) 44 2 r L.length (rwCells L) ∧ W.cell? ⟨w.heap.size + 1 + 1 + 1 + cnt (both (both (both os1 os2) os3) os4), 0, none⟩ = some (.int .u64 q)) ⟨EXX, own_ext HOW.out EXX, by simp [go_sem]⟩ ?_
    rintro W ⟨⟨os', d', rfl⟩, hown, hk1⟩
    obtain ⟨NN, hNN⟩ : ∃ NN, NN = w.heap.size + 1 + 1 + 1 + cnt (both (both (both os1 os2) os3) os4) := ⟨_, rfl⟩
    rw [← hNN] at hk1 ⊢
    have lN := World.block_lt_of_cell? _ _ hk1
    simp only [size_grew, World.size_alloc] at lN
    clear hNN HOW
    have HOW := Lib.hid hown
    clear hown
    have hx1 : (grew (((w.alloc (.cells #[.int .u8 c.object, .int .i64 c.instances, .int .i64 c.threads, .int .u8 c.kind, .int .i64 c.stripes, .int .i64 c.bits, .int .i64 c.cap, .int .i64 c.node, .int .i64 c.batch, .int .i64 c.chunk, .int .u64 c.limit, .int .u64 c.most] 24)).alloc (.cells #[.int .u8 o.kind, .int .u32 o.a, .int .u32 o.b, .int .u32 o.c] 28)).alloc (.cells #[.int .i64 0, .int .u32 0, .slice none 0 0] 36)) os' d').cell? ⟨b, f + i * 2, none⟩ = some (.int .u64 x.k) := ext_cell EXX HR1.out
    have lb : b < w.heap.size + 1 + 1 + 1 + cnt os' := by omega
    (refine wp_region_ext_lit (by kernel_rfl) (by kernel_rfl) ?_); (repeat (go_big_quiet_step (fail))); (refine wpQuiet_nil ?_; intro _ hw'; obtain ⟨⟨osq, nq⟩, hw''⟩ := hw'; replace hw'' : _ = grew _ osq nq := hw''; subst hw'')
    go_wp2
    go_region
    all_goals go_wp2
    all_goals refine bodyPost_ret (v := .tuple #[r, resV 9 0, .int .i64 0]) (by simp [results, Tryd.results68, go_sem]) rfl ?_
    all_goals exact do_p HZ.out (own_low (own_ext (own_swap (d' := d') (B' := (((w.alloc (.cells #[.int .u8 c.object, .int .i64 c.instances, .int .i64 c.threads, .int .u8 c.kind, .int .i64 c.stripes, .int .i64 c.bits, .int .i64 c.cap, .int .i64 c.node, .int .i64 c.batch, .int .i64 c.chunk, .int .u64 c.limit, .int .u64 c.most] 24)).alloc (.cells #[.int .u8 o.kind, .int .u32 o.a, .int .u32 o.b, .int .u32 o.c] 28)).alloc (.cells #[.int .i64 9, .int .u32 0, .slice none 0 0] 36))) (by simp) HOW.out (by simp)) EXX) (by omega)) EXX
  · rw [if_neg hlt] at hf
    have HIDX := Lib.hid hf
    clear hrs hok hne hf hs hs2 hl
    go_enter Tryd.func68, Tryd.ntmps68; go_wp2_with (first | (go_at_call 69; refine (of_any c _).mono ?_; rintro e w1 ⟨rfl, os1, n1, rfl⟩; rw [HC.out]) | (go_at_call 70; refine (is_any c _ L HF.out _ (HV.out.sl.ext EXX)).mono ?_; rintro e w2 ⟨rfl, os2, n2, rfl⟩; rw [HI.out]) | (go_at_call 39; refine (clone_any _ L (by omega) _ (HV.out.ext EXX)).mono ?_; rintro e w3 ⟨r, rfl, HO3, os3, n3, rfl⟩; have ho3 := own_low (lo := w.heap.size + 3) HO3 (by first | (simp [go_sem]; done) | (simp [go_sem]; omega)); simp only [grew_grew] at ho3; have HOW := Lib.hid ho3; clear HO3 ho3) | (go_at_call 7; refine (opCheck_any c o HO.out _ (Tab.ext HT.out EXX)).mono ?_; rintro e w4 ⟨rfl, os4, n4, rfl⟩; rw [HE.out]) | (go_at_call 72; refine (key_any _ _ HWA.out HWB.out _).mono ?_; rintro e w5 ⟨rfl, rfl⟩; rw [HQ.out]) | (go_at_call 73; refine (idx26_any _ L q _ _ (HV.out.sl.ext EXX) (by simp [go_sem])).mono ?_; rintro e w6 ⟨rfl, os6, n6, rfl⟩; rw [HIDX.out]))
    refine wp_gen (fun W => Ext (((w.alloc (.cells #[.int .u8 c.object, .int .i64 c.instances, .int .i64 c.threads, .int .u8 c.kind, .int .i64 c.stripes, .int .i64 c.bits, .int .i64 c.cap, .int .i64 c.node, .int .i64 c.batch, .int .i64 c.chunk, .int .u64 c.limit, .int .u64 c.most] 24)).alloc (.cells #[.int .u8 o.kind, .int .u32 o.a, .int .u32 o.b, .int .u32 o.c] 28)).alloc (.cells #[.int .i64 0, .int .u32 0, .slice none 0 0] 36)) W ∧ W.ownsRow (w.heap.size + 3) 44 2 r L.length (rwCells L) ∧ W.cell? ⟨w.heap.size + 1 + 1 + 1 + cnt (both (both (both os1 os2) os3) os4), 0, none⟩ = some (.int .u64 q)) ⟨EXX, own_ext HOW.out EXX, by simp [go_sem]⟩ ?_
    rintro W ⟨⟨os', d', rfl⟩, hown, hk1⟩
    obtain ⟨NN, hNN⟩ : ∃ NN, NN = w.heap.size + 1 + 1 + 1 + cnt (both (both (both os1 os2) os3) os4) := ⟨_, rfl⟩
    rw [← hNN] at hk1 ⊢
    have lN := World.block_lt_of_cell? _ _ hk1
    simp only [size_grew, World.size_alloc] at lN
    clear hNN HOW
    have HOW := Lib.hid hown
    clear hown
    (refine wp_region_ext_lit (by kernel_rfl) (by kernel_rfl) ?_); (repeat (go_big_quiet_step (fail))); (refine wpQuiet_nil ?_; intro _ hw'; obtain ⟨⟨osq, nq⟩, hw''⟩ := hw'; replace hw'' : _ = grew _ osq nq := hw''; subst hw'')
    go_wp2
    go_region
    all_goals go_wp2
    all_goals refine bodyPost_ret (v := .tuple #[r, resV 9 0, .int .i64 0]) (by simp [results, Tryd.results68, go_sem]) rfl ?_
    all_goals exact do_p HZ.out (own_low (own_ext (own_swap (d' := d') (B' := (((w.alloc (.cells #[.int .u8 c.object, .int .i64 c.instances, .int .i64 c.threads, .int .u8 c.kind, .int .i64 c.stripes, .int .i64 c.bits, .int .i64 c.cap, .int .i64 c.node, .int .i64 c.batch, .int .i64 c.chunk, .int .u64 c.limit, .int .u64 c.most] 24)).alloc (.cells #[.int .u8 o.kind, .int .u32 o.a, .int .u32 o.b, .int .u32 o.c] 28)).alloc (.cells #[.int .i64 9, .int .u32 0, .slice none 0 0] 36))) (by simp) HOW.out (by simp)) EXX) (by omega)) EXX
end Go.Proofs.YtknfikdignpniaaDoor.rules
