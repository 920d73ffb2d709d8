/- The walk of 'rules.Do': a new rule is put in, or one taken out. -/
import Derived.Test.YtknfikdignpniaaDoorDoW
namespace Go.Proofs.YtknfikdignpniaaDoor.rules
open Go Go.RowKit
set_option maxRecDepth 100000
set_option maxHeartbeats 8000000



theorem do_add_new (c : Cfg) (v : Value) (L : List Rw) (o : Opn) (w : World) (q : Int) (hp : WPre c v L o w q) (hn : L.length ≤ 1000) (h9 : (o.kind == 9) = true) (h11 : (o.kind == 11) = false) (hl : look L q = none) (hcap : (L.length : Int) < c.cap) (Z : Outc) (HZ : Hid (Z = ⟨withK q o.c L, 0, 0, 0⟩)) :
    Calls Tryd.prog 68 #[c.v, v, o.v] w (DoP w Z) := by
  have HV := Lib.hid hp.hv; have HF := Lib.hid hp.hf; have HO := Lib.hid hp.ho; have HT := Lib.hid hp.ht; have HC := Lib.hid hp.hc; have HI := Lib.hid hp.hi; have HE := Lib.hid hp.he; have HWA := Lib.hid hp.ha; have HWB := Lib.hid hp.hb; have HQ := Lib.hid hp.hq; have hrs := hp.hr; have hok := hp.hk; have hoc := hp.ho.c; clear hp
  have q4 : IntKind.u64.wrap o.c = o.c := by rw [IntKind.wrap_u64]; omega
  have g4 : decide (c.cap ≤ (L.length : Int)) = false := by simp; omega
  obtain ⟨i, hi, hf, hne, hw⟩ := pos_none hrs hl
  have HW := Lib.hid (hw o.c)
  clear hw
  obtain ⟨ad, cap, rfl, hs, hs2⟩ := HV.out
  have hln := hs.len
  by_cases hlt : i < L.length
  · rw [if_pos hlt] at hf
    have HIDX := Lib.hid hf
    obtain ⟨b, f, rfl, hbl, hrw⟩ := hs.rw hlt
    have hne' := hne hlt
    obtain ⟨x, hx⟩ : ∃ x, L.getD i zrw = x := ⟨_, rfl⟩
    rw [hx] at hrw hne'
    have HR1 := Lib.hid hrw.1
    have g1 : (x.k == q) = false := by simpa using hne'
    have i0 : (0 : Int) ≤ (i : Int) := by omega
    have i1 : (i : Int) < (L.length : Int) := by omega
    have g0 : decide ((i : Int) < (L.length : Int)) = true := decide_eq_true i1
    have g0n : decide (i < L.length) = true := decide_eq_true hlt
    clear hrs hok hne hf hs hs2 hl hx hrw hne'
    go_enter Tryd.func68, Tryd.ntmps68; go_wp2_with (first | (go_at_call 69; refine (of_any c _).mono ?_; rintro e w1 ⟨rfl, os1, n1, rfl⟩; rw [HC.out]) | (go_at_call 70; refine (is_any c _ L HF.out _ (HV.out.sl.ext EXX)).mono ?_; rintro e w2 ⟨rfl, os2, n2, rfl⟩; rw [HI.out]) | (go_at_call 39; refine (clone_any _ L (by omega) _ (HV.out.ext EXX)).mono ?_; rintro e w3 ⟨r, rfl, HO3, os3, n3, rfl⟩; have ho3 := own_low (lo := w.heap.size + 3) HO3 (by first | (simp [go_sem]; done) | (simp [go_sem]; omega)); simp only [grew_grew] at ho3; have HOW := Lib.hid ho3; clear HO3 ho3) | (go_at_call 7; refine (opCheck_any c o HO.out _ (Tab.ext HT.out EXX)).mono ?_; rintro e w4 ⟨rfl, os4, n4, rfl⟩; rw [HE.out]) | (go_at_call 72; refine (key_any _ _ HWA.out HWB.out _).mono ?_; rintro e w5 ⟨rfl, rfl⟩; rw [HQ.out]) | (go_at_call 73; refine (idx26_any _ L q _ _ (HV.out.sl.ext EXX) (by simp [go_sem])).mono ?_; rintro e w6 ⟨rfl, os6, n6, rfl⟩; rw [HIDX.out]))
    refine wp_gen (fun W => Ext (((w.alloc (.cells #[.int .u8 c.object, .int .i64 c.instances, .int .i64 c.threads, .int .u8 c.kind, .int .i64 c.stripes, .int .i64 c.bits, .int .i64 c.cap, .int .i64 c.node, .int .i64 c.batch, .int .i64 c.chunk, .int .u64 c.limit, .int .u64 c.most] 24)).alloc (.cells #[.int .u8 o.kind, .int .u32 o.a, .int .u32 o.b, .int .u32 o.c] 28)).alloc (.cells #[.int .i64 0, .int .u32 0, .slice none 0 0] 36)) W ∧ W.ownsRow (w.heap.size + 3) 44 2 r L.length (rwCells L) ∧ W.cell? ⟨w.heap.size + 1 + 1 + 1 + cnt (both (both (both os1 os2) os3) os4), 0, none⟩ = some (.int .u64 q)) ⟨EXX, own_ext HOW.out EXX, by simp [go_sem]⟩ ?_
    rintro W ⟨⟨os', d', rfl⟩, hown, hk1⟩
    obtain ⟨NN, hNN⟩ : ∃ NN, NN = w.heap.size + 1 + 1 + 1 + cnt (both (both (both os1 os2) os3) os4) := ⟨_, rfl⟩
    rw [← hNN] at hk1 ⊢
    have lN := World.block_lt_of_cell? _ _ hk1
    simp only [size_grew, World.size_alloc] at lN
    clear hNN HOW
    have HOW := Lib.hid hown
    clear hown
    have hkk : ∀ p n, (grew (((w.alloc (.cells #[.int .u8 c.object, .int .i64 c.instances, .int .i64 c.threads, .int .u8 c.kind, .int .i64 c.stripes, .int .i64 c.bits, .int .i64 c.cap, .int .i64 c.node, .int .i64 c.batch, .int .i64 c.chunk, .int .u64 c.limit, .int .u64 c.most] 24)).alloc (.cells #[.int .u8 o.kind, .int .u32 o.a, .int .u32 o.b, .int .u32 o.c] 28)).alloc (.cells #[.int .i64 0, .int .u32 0, .slice none 0 0] 36)) (both os' p) n).cell? ⟨NN, 0, none⟩ = some (.int .u64 q) := fun p n => ext_cell (Ext.bothR (n := d') (Ext.refl _)) hk1
    have hx1 : (grew (((w.alloc (.cells #[.int .u8 c.object, .int .i64 c.instances, .int .i64 c.threads, .int .u8 c.kind, .int .i64 c.stripes, .int .i64 c.bits, .int .i64 c.cap, .int .i64 c.node, .int .i64 c.batch, .int .i64 c.chunk, .int .u64 c.limit, .int .u64 c.most] 24)).alloc (.cells #[.int .u8 o.kind, .int .u32 o.a, .int .u32 o.b, .int .u32 o.c] 28)).alloc (.cells #[.int .i64 0, .int .u32 0, .slice none 0 0] 36)) os' d').cell? ⟨b, f + i * 2, none⟩ = some (.int .u64 x.k) := ext_cell EXX HR1.out
    have lb : b < w.heap.size + 1 + 1 + 1 + cnt os' := by omega
    (refine wp_region_ext_lit (by kernel_rfl) (by kernel_rfl) ?_); (repeat (go_big_quiet_step (fail))); (refine wpQuiet_nil ?_; intro _ hw'; obtain ⟨⟨osq, nq⟩, hw''⟩ := hw'; replace hw'' : _ = grew _ osq nq := hw''; subst hw'')
    go_wp2_with (go_at_call 44; refine (ins_any r L ⟨q, o.c⟩ i hi _ (w.heap.size + 3) _ (own_ext HOW.out EXX) (by omega) (by first | (simp [go_sem]; done) | (simp [go_sem]; omega)) (by rw [alloc_heap, if_pos (by simp [go_sem])]) (fun e => by have hlt7 := (own_block HOW.out e).2; simp only [size_grew, World.size_alloc] at hlt7; simp only [cnt_both] at *; omega)).mono ?_; rintro e w7 ⟨r2, rfl, HO7, hg7⟩; have he7 := ext_grown (U := (((w.alloc (.cells #[.int .u8 c.object, .int .i64 c.instances, .int .i64 c.threads, .int .u8 c.kind, .int .i64 c.stripes, .int .i64 c.bits, .int .i64 c.cap, .int .i64 c.node, .int .i64 c.batch, .int .i64 c.chunk, .int .u64 c.limit, .int .u64 c.most] 24)).alloc (.cells #[.int .u8 o.kind, .int .u32 o.a, .int .u32 o.b, .int .u32 o.c] 28)).alloc (.cells #[.int .i64 0, .int .u32 0, .slice none 0 0] 36))) EXX hg7 (fun k hk => by have := (own_block HOW.out hk).1; simp only [World.size_alloc]; omega); have HOW2 := Lib.hid HO7; obtain ⟨os7, n7, rfl⟩ := he7; clear hg7 HO7)
    go_region
    all_goals go_wp2
    all_goals refine bodyPost_ret (v := .tuple #[r2, resV 0 0, .int .i64 0]) (by simp [results, Tryd.results68, go_sem]) rfl ?_
    all_goals exact do_p HZ.out (by rw [HW.out]; exact own_low (own_ext (own_swap (d' := n7) (B' := (((w.alloc (.cells #[.int .u8 c.object, .int .i64 c.instances, .int .i64 c.threads, .int .u8 c.kind, .int .i64 c.stripes, .int .i64 c.bits, .int .i64 c.cap, .int .i64 c.node, .int .i64 c.batch, .int .i64 c.chunk, .int .u64 c.limit, .int .u64 c.most] 24)).alloc (.cells #[.int .u8 o.kind, .int .u32 o.a, .int .u32 o.b, .int .u32 o.c] 28)).alloc (.cells #[.int .i64 0, .int .u32 0, .slice none 0 0] 36))) (by simp) HOW2.out (by simp)) EXX) (by omega)) EXX
  · rw [if_neg hlt] at hf
    have HIDX := Lib.hid hf
    obtain rfl : i = L.length := by omega
    clear hrs hok hne hf hs hs2 hl
    go_enter Tryd.func68, Tryd.ntmps68; go_wp2_with (first | (go_at_call 69; refine (of_any c _).mono ?_; rintro e w1 ⟨rfl, os1, n1, rfl⟩; rw [HC.out]) | (go_at_call 70; refine (is_any c _ L HF.out _ (HV.out.sl.ext EXX)).mono ?_; rintro e w2 ⟨rfl, os2, n2, rfl⟩; rw [HI.out]) | (go_at_call 39; refine (clone_any _ L (by omega) _ (HV.out.ext EXX)).mono ?_; rintro e w3 ⟨r, rfl, HO3, os3, n3, rfl⟩; have ho3 := own_low (lo := w.heap.size + 3) HO3 (by first | (simp [go_sem]; done) | (simp [go_sem]; omega)); simp only [grew_grew] at ho3; have HOW := Lib.hid ho3; clear HO3 ho3) | (go_at_call 7; refine (opCheck_any c o HO.out _ (Tab.ext HT.out EXX)).mono ?_; rintro e w4 ⟨rfl, os4, n4, rfl⟩; rw [HE.out]) | (go_at_call 72; refine (key_any _ _ HWA.out HWB.out _).mono ?_; rintro e w5 ⟨rfl, rfl⟩; rw [HQ.out]) | (go_at_call 73; refine (idx26_any _ L q _ _ (HV.out.sl.ext EXX) (by simp [go_sem])).mono ?_; rintro e w6 ⟨rfl, os6, n6, rfl⟩; rw [HIDX.out]))
    refine wp_gen (fun W => Ext (((w.alloc (.cells #[.int .u8 c.object, .int .i64 c.instances, .int .i64 c.threads, .int .u8 c.kind, .int .i64 c.stripes, .int .i64 c.bits, .int .i64 c.cap, .int .i64 c.node, .int .i64 c.batch, .int .i64 c.chunk, .int .u64 c.limit, .int .u64 c.most] 24)).alloc (.cells #[.int .u8 o.kind, .int .u32 o.a, .int .u32 o.b, .int .u32 o.c] 28)).alloc (.cells #[.int .i64 0, .int .u32 0, .slice none 0 0] 36)) W ∧ W.ownsRow (w.heap.size + 3) 44 2 r L.length (rwCells L) ∧ W.cell? ⟨w.heap.size + 1 + 1 + 1 + cnt (both (both (both os1 os2) os3) os4), 0, none⟩ = some (.int .u64 q)) ⟨EXX, own_ext HOW.out EXX, by simp [go_sem]⟩ ?_
    rintro W ⟨⟨os', d', rfl⟩, hown, hk1⟩
    obtain ⟨NN, hNN⟩ : ∃ NN, NN = w.heap.size + 1 + 1 + 1 + cnt (both (both (both os1 os2) os3) os4) := ⟨_, rfl⟩
    rw [← hNN] at hk1 ⊢
    have lN := World.block_lt_of_cell? _ _ hk1
    simp only [size_grew, World.size_alloc] at lN
    clear hNN HOW
    have HOW := Lib.hid hown
    clear hown
    have hkk : ∀ p n, (grew (((w.alloc (.cells #[.int .u8 c.object, .int .i64 c.instances, .int .i64 c.threads, .int .u8 c.kind, .int .i64 c.stripes, .int .i64 c.bits, .int .i64 c.cap, .int .i64 c.node, .int .i64 c.batch, .int .i64 c.chunk, .int .u64 c.limit, .int .u64 c.most] 24)).alloc (.cells #[.int .u8 o.kind, .int .u32 o.a, .int .u32 o.b, .int .u32 o.c] 28)).alloc (.cells #[.int .i64 0, .int .u32 0, .slice none 0 0] 36)) (both os' p) n).cell? ⟨NN, 0, none⟩ = some (.int .u64 q) := fun p n => ext_cell (Ext.bothR (n := d') (Ext.refl _)) hk1
    (refine wp_region_ext_lit (by kernel_rfl) (by kernel_rfl) ?_); (repeat (go_big_quiet_step (fail))); (refine wpQuiet_nil ?_; intro _ hw'; obtain ⟨⟨osq, nq⟩, hw''⟩ := hw'; replace hw'' : _ = grew _ osq nq := hw''; subst hw'')
    go_wp2_with (go_at_call 44; refine (ins_any r L ⟨q, o.c⟩ L.length hi _ (w.heap.size + 3) _ (own_ext HOW.out EXX) (by omega) (by first | (simp [go_sem]; done) | (simp [go_sem]; omega)) (by rw [alloc_heap, if_pos (by simp [go_sem])]) (fun e => by have hlt7 := (own_block HOW.out e).2; simp only [size_grew, World.size_alloc] at hlt7; simp only [cnt_both] at *; omega)).mono ?_; rintro e w7 ⟨r2, rfl, HO7, hg7⟩; have he7 := ext_grown (U := (((w.alloc (.cells #[.int .u8 c.object, .int .i64 c.instances, .int .i64 c.threads, .int .u8 c.kind, .int .i64 c.stripes, .int .i64 c.bits, .int .i64 c.cap, .int .i64 c.node, .int .i64 c.batch, .int .i64 c.chunk, .int .u64 c.limit, .int .u64 c.most] 24)).alloc (.cells #[.int .u8 o.kind, .int .u32 o.a, .int .u32 o.b, .int .u32 o.c] 28)).alloc (.cells #[.int .i64 0, .int .u32 0, .slice none 0 0] 36))) EXX hg7 (fun k hk => by have := (own_block HOW.out hk).1; simp only [World.size_alloc]; omega); have HOW2 := Lib.hid HO7; obtain ⟨os7, n7, rfl⟩ := he7; clear hg7 HO7)
    go_region
    all_goals go_wp2
    all_goals refine bodyPost_ret (v := .tuple #[r2, resV 0 0, .int .i64 0]) (by simp [results, Tryd.results68, go_sem]) rfl ?_
    all_goals exact do_p HZ.out (by rw [HW.out]; exact own_low (own_ext (own_swap (d' := n7) (B' := (((w.alloc (.cells #[.int .u8 c.object, .int .i64 c.instances, .int .i64 c.threads, .int .u8 c.kind, .int .i64 c.stripes, .int .i64 c.bits, .int .i64 c.cap, .int .i64 c.node, .int .i64 c.batch, .int .i64 c.chunk, .int .u64 c.limit, .int .u64 c.most] 24)).alloc (.cells #[.int .u8 o.kind, .int .u32 o.a, .int .u32 o.b, .int .u32 o.c] 28)).alloc (.cells #[.int .i64 0, .int .u32 0, .slice none 0 0] 36))) (by simp) HOW2.out (by simp)) EXX) (by omega)) EXX
end Go.Proofs.YtknfikdignpniaaDoor.rules
/- The walk of 'rules.Do': a rule that is there is taken out, or said anew. -/
namespace Go.Proofs.YtknfikdignpniaaDoor.rules
open Go Go.RowKit
set_option maxRecDepth 100000
set_option maxHeartbeats 8000000



theorem do_drop_there (c : Cfg) (v : Value) (L : List Rw) (o : Opn) (w : World) (q : Int) (hp : WPre c v L o w q) (hn : L.length ≤ 1000) (h9 : (o.kind == 9) = false) (h11 : (o.kind == 11) = false) (u : Int) (hl : look L q = some u) (Z : Outc) (HZ : Hid (Z = ⟨withoutK q L, 0, u, 0⟩)) :
    Calls Tryd.prog 68 #[c.v, v, o.v] w (DoP w Z) := by
  have HV := Lib.hid hp.hv; have HF := Lib.hid hp.hf; have HO := Lib.hid hp.ho; have HT := Lib.hid hp.ht; have HC := Lib.hid hp.hc; have HI := Lib.hid hp.hi; have HE := Lib.hid hp.he; have HWA := Lib.hid hp.ha; have HWB := Lib.hid hp.hb; have HQ := Lib.hid hp.hq; have hrs := hp.hr; have hok := hp.hk; have hoc := hp.ho.c; clear hp
  obtain ⟨i, hi, hf, hg, hw, hwo⟩ := pos_some hrs hl
  obtain ⟨ad, cap, rfl, hs, hs2⟩ := HV.out
  have hln := hs.len
  have HIDX := Lib.hid hf
  obtain ⟨b, f, rfl, hbl, hrw⟩ := hs.rw hi
  rw [hg] at hrw
  have HR := Lib.hid hrw
  have hu := (hok _ (look_mem hl)).2
  have q3 : IntKind.u32.wrap u = u := by rw [IntKind.wrap_u32]; dsimp only at hu; omega
  have i0 : (0 : Int) ≤ (i : Int) := by omega
  have i1 : (i : Int) < (L.length : Int) := by omega
  have g0 : decide ((i : Int) < (L.length : Int)) = true := decide_eq_true i1
  have g0n : decide (i < L.length) = true := decide_eq_true hi
  have HW := Lib.hid hwo
  clear hrs hok hf hs hs2 hl hrw hw hwo hg
  go_enter Tryd.func68, Tryd.ntmps68; go_wp2_with (first | (go_at_call 69; refine (of_any c _).mono ?_; rintro e w1 ⟨rfl, os1, n1, rfl⟩; rw [HC.out]) | (go_at_call 70; refine (is_any c _ L HF.out _ (HV.out.sl.ext EXX)).mono ?_; rintro e w2 ⟨rfl, os2, n2, rfl⟩; rw [HI.out]) | (go_at_call 39; refine (clone_any _ L (by omega) _ (HV.out.ext EXX)).mono ?_; rintro e w3 ⟨r, rfl, HO3, os3, n3, rfl⟩; have ho3 := own_low (lo := w.heap.size + 3) HO3 (by first | (simp [go_sem]; done) | (simp [go_sem]; omega)); simp only [grew_grew] at ho3; have HOW := Lib.hid ho3; clear HO3 ho3) | (go_at_call 7; refine (opCheck_any c o HO.out _ (Tab.ext HT.out EXX)).mono ?_; rintro e w4 ⟨rfl, os4, n4, rfl⟩; rw [HE.out]) | (go_at_call 72; refine (key_any _ _ HWA.out HWB.out _).mono ?_; rintro e w5 ⟨rfl, rfl⟩; rw [HQ.out]) | (go_at_call 73; refine (idx26_any _ L q _ _ (HV.out.sl.ext EXX) (by simp [go_sem])).mono ?_; rintro e w6 ⟨rfl, os6, n6, rfl⟩; rw [HIDX.out]))
  refine wp_gen (fun W => Ext (((w.alloc (.cells #[.int .u8 c.object, .int .i64 c.instances, .int .i64 c.threads, .int .u8 c.kind, .int .i64 c.stripes, .int .i64 c.bits, .int .i64 c.cap, .int .i64 c.node, .int .i64 c.batch, .int .i64 c.chunk, .int .u64 c.limit, .int .u64 c.most] 24)).alloc (.cells #[.int .u8 o.kind, .int .u32 o.a, .int .u32 o.b, .int .u32 o.c] 28)).alloc (.cells #[.int .i64 0, .int .u32 0, .slice none 0 0] 36)) W ∧ W.ownsRow (w.heap.size + 3) 44 2 r L.length (rwCells L) ∧ W.cell? ⟨w.heap.size + 1 + 1 + 1 + cnt (both (both (both os1 os2) os3) os4), 0, none⟩ = some (.int .u64 q)) ⟨EXX, own_ext HOW.out EXX, by simp [go_sem]⟩ ?_
  rintro W ⟨⟨os', d', rfl⟩, hown, hk1⟩
  obtain ⟨NN, hNN⟩ : ∃ NN, NN = w.heap.size + 1 + 1 + 1 + cnt (both (both (both os1 os2) os3) os4) := ⟨_, rfl⟩
  rw [← hNN] at hk1 ⊢
  have lN := World.block_lt_of_cell? _ _ hk1
  simp only [size_grew, World.size_alloc] at lN
  clear hNN HOW
  have HOW := Lib.hid hown
  clear hown
  have hx1 : (grew (((w.alloc (.cells #[.int .u8 c.object, .int .i64 c.instances, .int .i64 c.threads, .int .u8 c.kind, .int .i64 c.stripes, .int .i64 c.bits, .int .i64 c.cap, .int .i64 c.node, .int .i64 c.batch, .int .i64 c.chunk, .int .u64 c.limit, .int .u64 c.most] 24)).alloc (.cells #[.int .u8 o.kind, .int .u32 o.a, .int .u32 o.b, .int .u32 o.c] 28)).alloc (.cells #[.int .i64 0, .int .u32 0, .slice none 0 0] 36)) os' d').cell? ⟨b, f + i * 2, none⟩ = some (.int .u64 q) := ext_cell EXX HR.out.1
  have hx2 : ∀ p n, (grew (((w.alloc (.cells #[.int .u8 c.object, .int .i64 c.instances, .int .i64 c.threads, .int .u8 c.kind, .int .i64 c.stripes, .int .i64 c.bits, .int .i64 c.cap, .int .i64 c.node, .int .i64 c.batch, .int .i64 c.chunk, .int .u64 c.limit, .int .u64 c.most] 24)).alloc (.cells #[.int .u8 o.kind, .int .u32 o.a, .int .u32 o.b, .int .u32 o.c] 28)).alloc (.cells #[.int .i64 0, .int .u32 0, .slice none 0 0] 36)) (both os' p) n).cell? ⟨b, f + i * 2 + 1, none⟩ = some (.int .u64 u) := fun p n => ext_cell EXX HR.out.2
  have lb : b < w.heap.size + 1 + 1 + 1 + cnt os' := by omega
  (refine wp_region_ext_lit (by kernel_rfl) (by kernel_rfl) ?_); (repeat (go_big_quiet_step (fail))); (refine wpQuiet_nil ?_; intro _ hw'; obtain ⟨⟨osq, nq⟩, hw''⟩ := hw'; replace hw'' : _ = grew _ osq nq := hw''; subst hw'')
  go_wp2_with (go_at_call 45; refine (del_any r L i hi (w.heap.size + 3) _ (own_ext (own_swap (d' := d') (B' := (((w.alloc (.cells #[.int .u8 c.object, .int .i64 c.instances, .int .i64 c.threads, .int .u8 c.kind, .int .i64 c.stripes, .int .i64 c.bits, .int .i64 c.cap, .int .i64 c.node, .int .i64 c.batch, .int .i64 c.chunk, .int .u64 c.limit, .int .u64 c.most] 24)).alloc (.cells #[.int .u8 o.kind, .int .u32 o.a, .int .u32 o.b, .int .u32 o.c] 28)).alloc (.cells #[.int .i64 0, .int .u32 u, .slice none 0 0] 36))) (by simp) HOW.out (by simp)) EXX) (by omega)).mono ?_; rintro e w7 ⟨r2, rfl, HO7, hg7⟩; have he7 := ext_grown (U := (((w.alloc (.cells #[.int .u8 c.object, .int .i64 c.instances, .int .i64 c.threads, .int .u8 c.kind, .int .i64 c.stripes, .int .i64 c.bits, .int .i64 c.cap, .int .i64 c.node, .int .i64 c.batch, .int .i64 c.chunk, .int .u64 c.limit, .int .u64 c.most] 24)).alloc (.cells #[.int .u8 o.kind, .int .u32 o.a, .int .u32 o.b, .int .u32 o.c] 28)).alloc (.cells #[.int .i64 0, .int .u32 u, .slice none 0 0] 36))) EXX hg7 (fun k hk => by have := (own_block HOW.out hk).1; simp only [World.size_alloc]; omega); have HOW2 := Lib.hid HO7; obtain ⟨os7, n7, rfl⟩ := he7; clear hg7 HO7)
  go_region
  all_goals go_wp2
  all_goals refine bodyPost_ret (v := .tuple #[r2, resV 0 u, .int .i64 0]) (by simp [results, Tryd.results68, go_sem]) rfl ?_
  all_goals exact do_p HZ.out (by rw [HW.out]; exact own_low (own_ext (own_swap (d' := n7) (B' := (((w.alloc (.cells #[.int .u8 c.object, .int .i64 c.instances, .int .i64 c.threads, .int .u8 c.kind, .int .i64 c.stripes, .int .i64 c.bits, .int .i64 c.cap, .int .i64 c.node, .int .i64 c.batch, .int .i64 c.chunk, .int .u64 c.limit, .int .u64 c.most] 24)).alloc (.cells #[.int .u8 o.kind, .int .u32 o.a, .int .u32 o.b, .int .u32 o.c] 28)).alloc (.cells #[.int .i64 0, .int .u32 u, .slice none 0 0] 36))) (by simp) HOW2.out (by simp)) EXX) (by omega)) EXX

theorem do_add_there (c : Cfg) (v : Value) (L : List Rw) (o : Opn) (w : World) (q : Int) (hp : WPre c v L o w q) (hn : L.length ≤ 1000) (h9 : (o.kind == 9) = true) (h11 : (o.kind == 11) = false) (u : Int) (hl : look L q = some u) (Z : Outc) (HZ : Hid (Z = ⟨withK q o.c L, 0, u, 0⟩)) :
    Calls Tryd.prog 68 #[c.v, v, o.v] w (DoP w Z) := by
  have HV := Lib.hid hp.hv; have HF := Lib.hid hp.hf; have HO := Lib.hid hp.ho; have HT := Lib.hid hp.ht; have HC := Lib.hid hp.hc; have HI := Lib.hid hp.hi; have HE := Lib.hid hp.he; have HWA := Lib.hid hp.ha; have HWB := Lib.hid hp.hb; have HQ := Lib.hid hp.hq; have hrs := hp.hr; have hok := hp.hk; have hoc := hp.ho.c; clear hp
  obtain ⟨i, hi, hf, hg, hw, hwo⟩ := pos_some hrs hl
  obtain ⟨ad, cap, rfl, hs, hs2⟩ := HV.out
  have hln := hs.len
  have HIDX := Lib.hid hf
  obtain ⟨b, f, rfl, hbl, hrw⟩ := hs.rw hi
  rw [hg] at hrw
  have HR := Lib.hid hrw
  have hu := (hok _ (look_mem hl)).2
  have q3 : IntKind.u32.wrap u = u := by rw [IntKind.wrap_u32]; dsimp only at hu; omega
  have i0 : (0 : Int) ≤ (i : Int) := by omega
  have i1 : (i : Int) < (L.length : Int) := by omega
  have g0 : decide ((i : Int) < (L.length : Int)) = true := decide_eq_true i1
  have g0n : decide (i < L.length) = true := decide_eq_true hi
  have q4 : IntKind.u64.wrap o.c = o.c := by rw [IntKind.wrap_u64]; omega
  have HW := Lib.hid (hw o.c)
  have HG := Lib.hid hg
  clear hrs hok hf hs hs2 hl hrw hw hwo hg
  go_enter Tryd.func68, Tryd.ntmps68; go_wp2_with (first | (go_at_call 69; refine (of_any c _).mono ?_; rintro e w1 ⟨rfl, os1, n1, rfl⟩; rw [HC.out]) | (go_at_call 70; refine (is_any c _ L HF.out _ (HV.out.sl.ext EXX)).mono ?_; rintro e w2 ⟨rfl, os2, n2, rfl⟩; rw [HI.out]) | (go_at_call 39; refine (clone_any _ L (by omega) _ (HV.out.ext EXX)).mono ?_; rintro e w3 ⟨r, rfl, HO3, os3, n3, rfl⟩; have ho3 := own_low (lo := w.heap.size + 3) HO3 (by first | (simp [go_sem]; done) | (simp [go_sem]; omega)); simp only [grew_grew] at ho3; have HOW := Lib.hid ho3; clear HO3 ho3) | (go_at_call 7; refine (opCheck_any c o HO.out _ (Tab.ext HT.out EXX)).mono ?_; rintro e w4 ⟨rfl, os4, n4, rfl⟩; rw [HE.out]) | (go_at_call 72; refine (key_any _ _ HWA.out HWB.out _).mono ?_; rintro e w5 ⟨rfl, rfl⟩; rw [HQ.out]) | (go_at_call 73; refine (idx26_any _ L q _ _ (HV.out.sl.ext EXX) (by simp [go_sem])).mono ?_; rintro e w6 ⟨rfl, os6, n6, rfl⟩; rw [HIDX.out]))
  refine wp_gen (fun W => Ext (((w.alloc (.cells #[.int .u8 c.object, .int .i64 c.instances, .int .i64 c.threads, .int .u8 c.kind, .int .i64 c.stripes, .int .i64 c.bits, .int .i64 c.cap, .int .i64 c.node, .int .i64 c.batch, .int .i64 c.chunk, .int .u64 c.limit, .int .u64 c.most] 24)).alloc (.cells #[.int .u8 o.kind, .int .u32 o.a, .int .u32 o.b, .int .u32 o.c] 28)).alloc (.cells #[.int .i64 0, .int .u32 0, .slice none 0 0] 36)) W ∧ W.ownsRow (w.heap.size + 3) 44 2 r L.length (rwCells L) ∧ W.cell? ⟨w.heap.size + 1 + 1 + 1 + cnt (both (both (both os1 os2) os3) os4), 0, none⟩ = some (.int .u64 q)) ⟨EXX, own_ext HOW.out EXX, by simp [go_sem]⟩ ?_
  rintro W ⟨⟨os', d', rfl⟩, hown, hk1⟩
  obtain ⟨NN, hNN⟩ : ∃ NN, NN = w.heap.size + 1 + 1 + 1 + cnt (both (both (both os1 os2) os3) os4) := ⟨_, rfl⟩
  rw [← hNN] at hk1 ⊢
  have lN := World.block_lt_of_cell? _ _ hk1
  simp only [size_grew, World.size_alloc] at lN
  clear hNN HOW
  have HOW := Lib.hid hown
  clear hown
  have hx1 : (grew (((w.alloc (.cells #[.int .u8 c.object, .int .i64 c.instances, .int .i64 c.threads, .int .u8 c.kind, .int .i64 c.stripes, .int .i64 c.bits, .int .i64 c.cap, .int .i64 c.node, .int .i64 c.batch, .int .i64 c.chunk, .int .u64 c.limit, .int .u64 c.most] 24)).alloc (.cells #[.int .u8 o.kind, .int .u32 o.a, .int .u32 o.b, .int .u32 o.c] 28)).alloc (.cells #[.int .i64 0, .int .u32 0, .slice none 0 0] 36)) os' d').cell? ⟨b, f + i * 2, none⟩ = some (.int .u64 q) := ext_cell EXX HR.out.1
  have hx2 : ∀ p n, (grew (((w.alloc (.cells #[.int .u8 c.object, .int .i64 c.instances, .int .i64 c.threads, .int .u8 c.kind, .int .i64 c.stripes, .int .i64 c.bits, .int .i64 c.cap, .int .i64 c.node, .int .i64 c.batch, .int .i64 c.chunk, .int .u64 c.limit, .int .u64 c.most] 24)).alloc (.cells #[.int .u8 o.kind, .int .u32 o.a, .int .u32 o.b, .int .u32 o.c] 28)).alloc (.cells #[.int .i64 0, .int .u32 0, .slice none 0 0] 36)) (both os' p) n).cell? ⟨b, f + i * 2 + 1, none⟩ = some (.int .u64 u) := fun p n => ext_cell EXX HR.out.2
  have lb : b < w.heap.size + 1 + 1 + 1 + cnt os' := by omega
  have hown := HOW.out
  rcases hown.2 with ⟨_, h0⟩ | ⟨g, cap2, cur, rfl, hgb, hgc, hgn, hgm, hgs, _⟩
  · omega
  have hgl : g < (grew (((w.alloc (.cells #[.int .u8 c.object, .int .i64 c.instances, .int .i64 c.threads, .int .u8 c.kind, .int .i64 c.stripes, .int .i64 c.bits, .int .i64 c.cap, .int .i64 c.node, .int .i64 c.batch, .int .i64 c.chunk, .int .u64 c.limit, .int .u64 c.most] 24)).alloc (.cells #[.int .u8 o.kind, .int .u32 o.a, .int .u32 o.b, .int .u32 o.c] 28)).alloc (.cells #[.int .i64 0, .int .u32 0, .slice none 0 0] 36)) os' d').heap.size := (Array.getElem?_eq_some_iff.1 hgc).1
  have hgh : ∀ p n, (grew (((w.alloc (.cells #[.int .u8 c.object, .int .i64 c.instances, .int .i64 c.threads, .int .u8 c.kind, .int .i64 c.stripes, .int .i64 c.bits, .int .i64 c.cap, .int .i64 c.node, .int .i64 c.batch, .int .i64 c.chunk, .int .u64 c.limit, .int .u64 c.most] 24)).alloc (.cells #[.int .u8 o.kind, .int .u32 o.a, .int .u32 o.b, .int .u32 o.c] 28)).alloc (.cells #[.int .i64 0, .int .u32 u, .slice none 0 0] 36)) (both os' p) n).heap[g]? = some (.cells cur 44 (0, 0)) := fun p n =>
    (ext_heap (w := grew (((w.alloc (.cells #[.int .u8 c.object, .int .i64 c.instances, .int .i64 c.threads, .int .u8 c.kind, .int .i64 c.stripes, .int .i64 c.bits, .int .i64 c.cap, .int .i64 c.node, .int .i64 c.batch, .int .i64 c.chunk, .int .u64 c.limit, .int .u64 c.most] 24)).alloc (.cells #[.int .u8 o.kind, .int .u32 o.a, .int .u32 o.b, .int .u32 o.c] 28)).alloc (.cells #[.int .i64 0, .int .u32 u, .slice none 0 0] 36)) os' d') EXX (by rw [size_grew] at hgl ⊢; simpa using hgl)).trans ((heap_grew_ge (by simp) os' d' d' (by simp only [World.size_alloc]; omega)).trans hgc)
  obtain ⟨z0, hz0⟩ : ∃ z0, cur[i * 2 + 1]? = some z0 := ⟨_, Array.getElem?_eq_getElem (by omega)⟩
  have hst1 : ∀ p n, (grew (((w.alloc (.cells #[.int .u8 c.object, .int .i64 c.instances, .int .i64 c.threads, .int .u8 c.kind, .int .i64 c.stripes, .int .i64 c.bits, .int .i64 c.cap, .int .i64 c.node, .int .i64 c.batch, .int .i64 c.chunk, .int .u64 c.limit, .int .u64 c.most] 24)).alloc (.cells #[.int .u8 o.kind, .int .u32 o.a, .int .u32 o.b, .int .u32 o.c] 28)).alloc (.cells #[.int .i64 0, .int .u32 u, .slice none 0 0] 36)) (both os' p) n).cell? ⟨g, i * 2 + 1, none⟩ = some z0 := fun p n => by rw [cell_of_heap (hgh p n), hz0]
  have hst2 : ∀ p n, (grew (((w.alloc (.cells #[.int .u8 c.object, .int .i64 c.instances, .int .i64 c.threads, .int .u8 c.kind, .int .i64 c.stripes, .int .i64 c.bits, .int .i64 c.cap, .int .i64 c.node, .int .i64 c.batch, .int .i64 c.chunk, .int .u64 c.limit, .int .u64 c.most] 24)).alloc (.cells #[.int .u8 o.kind, .int .u32 o.a, .int .u32 o.b, .int .u32 o.c] 28)).alloc (.cells #[.int .i64 0, .int .u32 u, .slice none 0 0] 36)) (both os' p) n).frozen? ⟨g, i * 2 + 1, none⟩ = false := fun p n => frozen_of_heap (hgh p n) _
  have hm2 : L.length ≤ 9223372036854775807 := hln
  clear hown hgl hgh hgc hgs hz0
  (refine wp_region_ext_lit (by kernel_rfl) (by kernel_rfl) ?_); (repeat (go_big_quiet_step (fail))); (refine wpQuiet_nil ?_; intro _ hw'; obtain ⟨⟨osq, nq⟩, hw''⟩ := hw'; replace hw'' : _ = grew _ osq nq := hw''; subst hw'')
  go_upto_region 27 with fail
  refine wp_gen (fun W => Ext (((w.alloc (.cells #[.int .u8 c.object, .int .i64 c.instances, .int .i64 c.threads, .int .u8 c.kind, .int .i64 c.stripes, .int .i64 c.bits, .int .i64 c.cap, .int .i64 c.node, .int .i64 c.batch, .int .i64 c.chunk, .int .u64 c.limit, .int .u64 c.most] 24)).alloc (.cells #[.int .u8 o.kind, .int .u32 o.a, .int .u32 o.b, .int .u32 o.c] 28)).alloc (.cells #[.int .i64 0, .int .u32 u, .slice none 0 0] 36)) W ∧ W.ownsRow (w.heap.size + 3) 44 2 (.slice (some ⟨g, 0, none⟩) L.length cap2) (withK q o.c L).length (rwCells (withK q o.c L))) ⟨?_, ?_⟩ ?_
  · exact Ext.setCell EXX (by simp only [World.size_alloc]; omega) _
  · rw [HW.out]
    exact own_setv (own_ext (own_swap (d' := d') (B' := (((w.alloc (.cells #[.int .u8 c.object, .int .i64 c.instances, .int .i64 c.threads, .int .u8 c.kind, .int .i64 c.stripes, .int .i64 c.bits, .int .i64 c.cap, .int .i64 c.node, .int .i64 c.batch, .int .i64 c.chunk, .int .u64 c.limit, .int .u64 c.most] 24)).alloc (.cells #[.int .u8 o.kind, .int .u32 o.a, .int .u32 o.b, .int .u32 o.c] 28)).alloc (.cells #[.int .i64 0, .int .u32 u, .slice none 0 0] 36))) (by simp) HOW.out (by simp)) EXX) hi (by rw [HG.out])
  · rintro W ⟨⟨os7, n7, rfl⟩, hown2⟩
    have HOW2 := Lib.hid hown2
    clear hown2 hst1 hst2
    go_region
    all_goals go_wp2
    all_goals refine bodyPost_ret (v := .tuple #[.slice (some ⟨g, 0, none⟩) L.length cap2, resV 0 u, .int .i64 0]) (by simp [results, Tryd.results68, go_sem]) rfl ?_
    all_goals exact do_p HZ.out (own_low (own_ext (own_swap (d' := n7) (B' := (((w.alloc (.cells #[.int .u8 c.object, .int .i64 c.instances, .int .i64 c.threads, .int .u8 c.kind, .int .i64 c.stripes, .int .i64 c.bits, .int .i64 c.cap, .int .i64 c.node, .int .i64 c.batch, .int .i64 c.chunk, .int .u64 c.limit, .int .u64 c.most] 24)).alloc (.cells #[.int .u8 o.kind, .int .u32 o.a, .int .u32 o.b, .int .u32 o.c] 28)).alloc (.cells #[.int .i64 0, .int .u32 u, .slice none 0 0] 36))) (by simp) HOW2.out (by simp)) EXX) (by omega)) EXX
end Go.Proofs.YtknfikdignpniaaDoor.rules
/- 'rules.Do', all ways together. -/
namespace Go.Proofs.YtknfikdignpniaaDoor.rules
open Go Go.RowKit
set_option maxRecDepth 100000
set_option maxHeartbeats 8000000

theorem do_any (c : Cfg) (v : Value) (L : List Rw) (hf : RwsFit L) (o : Opn) (ho : o.Fits) (w : World) (ht : Tab w) (hv : Rws w v L) (hn : L.length ≤ 1000) :
    Calls Tryd.prog 68 #[c.v, v, o.v] w (DoP w (rulesDo c L o)) := by
  cases h : rulesIs c L
  · exact do_no c v L hf o w hv h
  · cases h3 : (opErr c o == 0)
    · exact do_read c v L hf o ho w ht hv hn h (Or.inl h3)
    · obtain ⟨hp, hc, _, hrs, hok⟩ := rulesIs_ok hf h
      obtain ⟨_, hk, hft⟩ := rules_kind hc h3
      have hp2 : (partOk c && (c.object == 3)) = true := by rw [hp, hc]; rfl
      have he : opErr c o = 0 := by simpa using h3
      have hz := rulesDo_ok hp2 h h3
      rcases hk with hk | hk | hk
      · obtain ⟨_, ha, hb⟩ := fits_add hft hk
        have hw : WPre c v L o w (ruleKey o) := ⟨hv, hf, ho, ht, hp2, h, he, ⟨ho.a.1, ha⟩, ⟨ho.b.1, hb⟩, rfl, hrs, hok⟩
        have h9 : (o.kind == 9) = true := by simpa using hk
        have h11 : (o.kind == 11) = false := by simp; omega
        rw [rulesDone, h11, h9] at hz
        cases hl : look L (ruleKey o) with
        | some u => exact do_add_there c v L o w _ hw hn h9 h11 u hl _ (Lib.hid (by rw [hz, hl]; rfl))
        | none =>
          by_cases hcap : c.cap ≤ (L.length : Int)
          · exact do_add_full c v L o w _ hw hn h9 h11 hl hcap _ (Lib.hid (by rw [hz, hl]; simp [hcap]))
          · exact do_add_new c v L o w _ hw hn h9 h11 hl (by omega) _ (Lib.hid (by rw [hz, hl]; simp [hcap]))
      · obtain ⟨ha, hb⟩ := fits_drop hft hk
        have hw : WPre c v L o w (ruleKey o) := ⟨hv, hf, ho, ht, hp2, h, he, ⟨ho.a.1, ha⟩, ⟨ho.b.1, hb⟩, rfl, hrs, hok⟩
        have h9 : (o.kind == 9) = false := by simp; omega
        have h11 : (o.kind == 11) = false := by simp; omega
        rw [rulesDone, h11, h9] at hz
        cases hl : look L (ruleKey o) with
        | some u => exact do_drop_there c v L o w _ hw hn h9 h11 u hl _ (Lib.hid (by rw [hz, hl]; rfl))
        | none => exact do_drop_none c v L o w _ hw hn h9 h11 hl _ (Lib.hid (by rw [hz, hl]; rfl))
      · exact do_read c v L hf o ho w ht hv hn h (Or.inr hk)
end Go.Proofs.YtknfikdignpniaaDoor.rules
