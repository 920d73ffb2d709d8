/- The walk of 'order.Do': rows are put and deleted. -/
import Derived.Test.YtknfikdignpniaaDoorOrdD
namespace Go.Proofs.YtknfikdignpniaaDoor.order
open Go Go.RowKit
set_option maxRecDepth 100000
set_option maxHeartbeats 8000000

/-- What the walk of a write knows ahead. -/
structure WPre (c : Cfg) (v : Value) (L : List Rw) (o : Opn) (w : World) : Prop where
  hv : Rws w v L
  hf : RwsFit L
  ho : o.Fits
  ht : Tab w
  hc : (partOk c && (c.object == 2)) = true
  hi : ordIs c L = true
  he : opErr c o = 0
  hk : 4 ≤ o.kind ∧ o.kind ≤ 8
  hw : WrAt w o.kind true
  ha : o.a ≤ 2147483647
  hr : Rises L
  hok : ∀ x ∈ L, RowOk x

theorem do_del_none (c : Cfg) (v : Value) (L : List Rw) (o : Opn) (w : World) (hp : WPre c v L o w) (hn : L.length ≤ 1000) (h4 : (o.kind == 4) = false) (hl : look L o.a = none) (Z : Outc) (HZ : Hid (Z = ⟨L, 6, 0, [], 0⟩)) :
    Calls Tryd.prog 56 #[c.v, v, o.v] w (DoP w Z) := by
  have HV := Lib.hid hp.hv; have HF := Lib.hid hp.hf; have HO := Lib.hid hp.ho; have HT := Lib.hid hp.ht; have HC := Lib.hid hp.hc; have HI := Lib.hid hp.hi; have HE := Lib.hid hp.he; have hrs := hp.hr; have hok := hp.hok; have hoa := hp.ho.a; have hob := hp.ho.b; have HOA := Lib.hid hoa; have HK : Hid (1 ≤ o.kind ∧ o.kind ≤ 14) := Lib.hid (by have := hp.hk; omega); have HWR := Lib.hid hp.hw; clear hp
  obtain ⟨i, hi, hlo, hhi, hwk⟩ := at_none hrs hl
  have HI0 := Lib.hid hi
  have HLO := Lib.hid hlo
  have HHI : Hid (i < L.length → o.a ≤ (L.getD i zrw).k) := Lib.hid (fun h => by have := hhi h; omega)
  have HRR : Hid ((decide (i < L.length) && ((L.getD i zrw).k == o.a)) = false) := Lib.hid (by
    cases h : (decide (i < L.length) && ((L.getD i zrw).k == o.a))
    · rfl
    · simp only [Bool.and_eq_true, decide_eq_true_eq, beq_iff_eq] at h
      have := hhi h.1
      omega)
  obtain ⟨ad, cap, rfl, hs, hs2⟩ := HV.out
  have hln := hs.len
  have HS := Lib.hid hs
  have HW := Lib.hid (hwk o.b)
  clear hrs hok hi hlo hhi hwk hs hs2 hl
  go_enter Tryd.func56, Tryd.ntmps56; go_upto_region 16 with (first | (go_at_call 57; (with_reducible refine (of_any c _).mono ?_); rintro e w1 ⟨rfl, os1, n1, rfl⟩; rw [HC.out]) | (go_at_call 58; (with_reducible refine (is_any c _ L HF.out _ (HV.out.sl.ext EXY)).mono ?_); rintro e w2 ⟨rfl, os2, n2, rfl⟩; rw [HI.out]) | (go_at_call 39; (with_reducible refine (clone_any _ L (by omega) _ (HV.out.ext EXY)).mono ?_); rintro e w3 ⟨r, rfl, HO3, os3, n3, rfl⟩; have ho3 := own_low (lo := w.heap.size + 3) HO3 (by first | (simp [go_sem]; done) | (simp [go_sem]; omega)); simp only [grew_grew] at ho3; have HOW := Lib.hid ho3; clear HO3 ho3) | (go_at_call 7; (with_reducible refine (opCheck_any c o HO.out _ (Tab.base (Tab.ext HT.out EXY))).mono ?_); rintro e w4 ⟨rfl, os4, n4, rfl⟩; rw [HE.out]) | (go_at_call 59; (with_reducible refine (writes_any o.kind HK.out true _ (WrAt.ext HWR.out EXY)).mono ?_); rintro e w5 ⟨rfl, os5, n5, rfl⟩) | (go_at_call 61; (with_reducible refine (first_any _ L o.a HOA.out _ (sl_mk (HS.out.ext EXY)) i HI0.out HLO.out HHI.out).mono ?_); rintro e w6 ⟨rfl, os6, n6, rfl⟩) | (go_at_call 62; (with_reducible refine (has_any _ L o.a HOA.out _ (sl_mk (HS.out.ext EXY)) i HI0.out _ HRR.out).mono ?_); rintro e w7 ⟨rfl, os7, n7, rfl⟩))
  refine wp_gen (fun W => Ext (((w.alloc (.cells #[.int .u8 c.object, .int .i64 c.instances, .int .i64 c.threads, .int .u8 c.kind, .int .i64 c.stripes, .int .i64 c.bits, .int .i64 c.cap, .int .i64 c.node, .int .i64 c.batch, .int .i64 c.chunk, .int .u64 c.limit, .int .u64 c.most] 24)).alloc (.cells #[.int .u8 o.kind, .int .u32 o.a, .int .u32 o.b, .int .u32 o.c] 28)).alloc (.cells #[.int .i64 0, .int .u32 0, .slice none 0 0] 36)) W ∧ W.ownsRow (w.heap.size + 3) 44 2 r L.length (rwCells L)) ⟨EXY, own_ext HOW.out EXY⟩ ?_; rintro W ⟨⟨os', d', rfl⟩, hown⟩; clear HOW; have HOW := Lib.hid hown; clear hown
  go_wp2
  go_region
  all_goals go_wp2
  all_goals refine bodyPost_ret (v := .tuple #[r, resV 6 0 (.slice none 0 0), .int .i64 0]) (by simp [results, Tryd.results56, go_sem]) rfl ?_
  all_goals exact do_p HZ.out (own_low (own_swap (B := (((w.alloc (.cells #[.int .u8 c.object, .int .i64 c.instances, .int .i64 c.threads, .int .u8 c.kind, .int .i64 c.stripes, .int .i64 c.bits, .int .i64 c.cap, .int .i64 c.node, .int .i64 c.batch, .int .i64 c.chunk, .int .u64 c.limit, .int .u64 c.most] 24)).alloc (.cells #[.int .u8 o.kind, .int .u32 o.a, .int .u32 o.b, .int .u32 o.c] 28)).alloc (.cells #[.int .i64 0, .int .u32 0, .slice none 0 0] 36))) (d := d') (by simp [go_sem]) HOW.out (by simp [go_sem])) (by omega)) EXY

theorem do_put_full (c : Cfg) (v : Value) (L : List Rw) (o : Opn) (w : World) (hp : WPre c v L o w) (hn : L.length ≤ 1000) (h4 : (o.kind == 4) = true) (hl : look L o.a = none) (hcap : c.cap ≤ (L.length : Int)) (Z : Outc) (HZ : Hid (Z = ⟨L, 9, 0, [], 0⟩)) :
    Calls Tryd.prog 56 #[c.v, v, o.v] w (DoP w Z) := by
  have HV := Lib.hid hp.hv; have HF := Lib.hid hp.hf; have HO := Lib.hid hp.ho; have HT := Lib.hid hp.ht; have HC := Lib.hid hp.hc; have HI := Lib.hid hp.hi; have HE := Lib.hid hp.he; have hrs := hp.hr; have hok := hp.hok; have hoa := hp.ho.a; have hob := hp.ho.b; have HOA := Lib.hid hoa; have HK : Hid (1 ≤ o.kind ∧ o.kind ≤ 14) := Lib.hid (by have := hp.hk; omega); have HWR := Lib.hid hp.hw; clear hp
  obtain ⟨i, hi, hlo, hhi, hwk⟩ := at_none hrs hl
  have HI0 := Lib.hid hi
  have HLO := Lib.hid hlo
  have HHI : Hid (i < L.length → o.a ≤ (L.getD i zrw).k) := Lib.hid (fun h => by have := hhi h; omega)
  have HRR : Hid ((decide (i < L.length) && ((L.getD i zrw).k == o.a)) = false) := Lib.hid (by
    cases h : (decide (i < L.length) && ((L.getD i zrw).k == o.a))
    · rfl
    · simp only [Bool.and_eq_true, decide_eq_true_eq, beq_iff_eq] at h
      have := hhi h.1
      omega)
  obtain ⟨ad, cap, rfl, hs, hs2⟩ := HV.out
  have hln := hs.len
  have HS := Lib.hid hs
  have HW := Lib.hid (hwk o.b)
  clear hrs hok hi hlo hhi hwk hs hs2 hl
  go_enter Tryd.func56, Tryd.ntmps56; go_upto_region 16 with (first | (go_at_call 57; (with_reducible refine (of_any c _).mono ?_); rintro e w1 ⟨rfl, os1, n1, rfl⟩; rw [HC.out]) | (go_at_call 58; (with_reducible refine (is_any c _ L HF.out _ (HV.out.sl.ext EXY)).mono ?_); rintro e w2 ⟨rfl, os2, n2, rfl⟩; rw [HI.out]) | (go_at_call 39; (with_reducible refine (clone_any _ L (by omega) _ (HV.out.ext EXY)).mono ?_); rintro e w3 ⟨r, rfl, HO3, os3, n3, rfl⟩; have ho3 := own_low (lo := w.heap.size + 3) HO3 (by first | (simp [go_sem]; done) | (simp [go_sem]; omega)); simp only [grew_grew] at ho3; have HOW := Lib.hid ho3; clear HO3 ho3) | (go_at_call 7; (with_reducible refine (opCheck_any c o HO.out _ (Tab.base (Tab.ext HT.out EXY))).mono ?_); rintro e w4 ⟨rfl, os4, n4, rfl⟩; rw [HE.out]) | (go_at_call 59; (with_reducible refine (writes_any o.kind HK.out true _ (WrAt.ext HWR.out EXY)).mono ?_); rintro e w5 ⟨rfl, os5, n5, rfl⟩) | (go_at_call 61; (with_reducible refine (first_any _ L o.a HOA.out _ (sl_mk (HS.out.ext EXY)) i HI0.out HLO.out HHI.out).mono ?_); rintro e w6 ⟨rfl, os6, n6, rfl⟩) | (go_at_call 62; (with_reducible refine (has_any _ L o.a HOA.out _ (sl_mk (HS.out.ext EXY)) i HI0.out _ HRR.out).mono ?_); rintro e w7 ⟨rfl, os7, n7, rfl⟩))
  refine wp_gen (fun W => Ext (((w.alloc (.cells #[.int .u8 c.object, .int .i64 c.instances, .int .i64 c.threads, .int .u8 c.kind, .int .i64 c.stripes, .int .i64 c.bits, .int .i64 c.cap, .int .i64 c.node, .int .i64 c.batch, .int .i64 c.chunk, .int .u64 c.limit, .int .u64 c.most] 24)).alloc (.cells #[.int .u8 o.kind, .int .u32 o.a, .int .u32 o.b, .int .u32 o.c] 28)).alloc (.cells #[.int .i64 0, .int .u32 0, .slice none 0 0] 36)) W ∧ W.ownsRow (w.heap.size + 3) 44 2 r L.length (rwCells L)) ⟨EXY, own_ext HOW.out EXY⟩ ?_; rintro W ⟨⟨os', d', rfl⟩, hown⟩; clear HOW; have HOW := Lib.hid hown; clear hown
  go_wp2
  go_region
  all_goals go_wp2
  all_goals refine bodyPost_ret (v := .tuple #[r, resV 9 0 (.slice none 0 0), .int .i64 0]) (by simp [results, Tryd.results56, go_sem]) rfl ?_
  all_goals exact do_p HZ.out (own_low (own_swap (B := (((w.alloc (.cells #[.int .u8 c.object, .int .i64 c.instances, .int .i64 c.threads, .int .u8 c.kind, .int .i64 c.stripes, .int .i64 c.bits, .int .i64 c.cap, .int .i64 c.node, .int .i64 c.batch, .int .i64 c.chunk, .int .u64 c.limit, .int .u64 c.most] 24)).alloc (.cells #[.int .u8 o.kind, .int .u32 o.a, .int .u32 o.b, .int .u32 o.c] 28)).alloc (.cells #[.int .i64 0, .int .u32 0, .slice none 0 0] 36))) (d := d') (by simp [go_sem]) HOW.out (by simp [go_sem])) (by omega)) EXY

theorem do_put_new (c : Cfg) (v : Value) (L : List Rw) (o : Opn) (w : World) (hp : WPre c v L o w) (hn : L.length ≤ 1000) (h4 : (o.kind == 4) = true) (hl : look L o.a = none) (hcap : (L.length : Int) < c.cap) (Z : Outc) (HZ : Hid (Z = ⟨withK o.a o.b L, 0, 0, [], 0⟩)) :
    Calls Tryd.prog 56 #[c.v, v, o.v] w (DoP w Z) := by
  have HV := Lib.hid hp.hv; have HF := Lib.hid hp.hf; have HO := Lib.hid hp.ho; have HT := Lib.hid hp.ht; have HC := Lib.hid hp.hc; have HI := Lib.hid hp.hi; have HE := Lib.hid hp.he; have hrs := hp.hr; have hok := hp.hok; have hoa := hp.ho.a; have hob := hp.ho.b; have HOA := Lib.hid hoa; have HK : Hid (1 ≤ o.kind ∧ o.kind ≤ 14) := Lib.hid (by have := hp.hk; omega); have HWR := Lib.hid hp.hw; clear hp
  obtain ⟨i, hi, hlo, hhi, hwk⟩ := at_none hrs hl
  have HI0 := Lib.hid hi
  have HLO := Lib.hid hlo
  have HHI : Hid (i < L.length → o.a ≤ (L.getD i zrw).k) := Lib.hid (fun h => by have := hhi h; omega)
  have HRR : Hid ((decide (i < L.length) && ((L.getD i zrw).k == o.a)) = false) := Lib.hid (by
    cases h : (decide (i < L.length) && ((L.getD i zrw).k == o.a))
    · rfl
    · simp only [Bool.and_eq_true, decide_eq_true_eq, beq_iff_eq] at h
      have := hhi h.1
      omega)
  obtain ⟨ad, cap, rfl, hs, hs2⟩ := HV.out
  have hln := hs.len
  have HS := Lib.hid hs
  have HW := Lib.hid (hwk o.b)
  clear hrs hok hi hlo hhi hwk hs hs2 hl
  have q4 : IntKind.u64.wrap o.a = o.a := by rw [IntKind.wrap_u64]; omega
  have q5 : IntKind.u64.wrap o.b = o.b := by rw [IntKind.wrap_u64]; omega
  go_enter Tryd.func56, Tryd.ntmps56; go_upto_region 16 with (first | (go_at_call 57; (with_reducible refine (of_any c _).mono ?_); rintro e w1 ⟨rfl, os1, n1, rfl⟩; rw [HC.out]) | (go_at_call 58; (with_reducible refine (is_any c _ L HF.out _ (HV.out.sl.ext EXY)).mono ?_); rintro e w2 ⟨rfl, os2, n2, rfl⟩; rw [HI.out]) | (go_at_call 39; (with_reducible refine (clone_any _ L (by omega) _ (HV.out.ext EXY)).mono ?_); rintro e w3 ⟨r, rfl, HO3, os3, n3, rfl⟩; have ho3 := own_low (lo := w.heap.size + 3) HO3 (by first | (simp [go_sem]; done) | (simp [go_sem]; omega)); simp only [grew_grew] at ho3; have HOW := Lib.hid ho3; clear HO3 ho3) | (go_at_call 7; (with_reducible refine (opCheck_any c o HO.out _ (Tab.base (Tab.ext HT.out EXY))).mono ?_); rintro e w4 ⟨rfl, os4, n4, rfl⟩; rw [HE.out]) | (go_at_call 59; (with_reducible refine (writes_any o.kind HK.out true _ (WrAt.ext HWR.out EXY)).mono ?_); rintro e w5 ⟨rfl, os5, n5, rfl⟩) | (go_at_call 61; (with_reducible refine (first_any _ L o.a HOA.out _ (sl_mk (HS.out.ext EXY)) i HI0.out HLO.out HHI.out).mono ?_); rintro e w6 ⟨rfl, os6, n6, rfl⟩) | (go_at_call 62; (with_reducible refine (has_any _ L o.a HOA.out _ (sl_mk (HS.out.ext EXY)) i HI0.out _ HRR.out).mono ?_); rintro e w7 ⟨rfl, os7, n7, rfl⟩))
  refine wp_gen (fun W => Ext (((w.alloc (.cells #[.int .u8 c.object, .int .i64 c.instances, .int .i64 c.threads, .int .u8 c.kind, .int .i64 c.stripes, .int .i64 c.bits, .int .i64 c.cap, .int .i64 c.node, .int .i64 c.batch, .int .i64 c.chunk, .int .u64 c.limit, .int .u64 c.most] 24)).alloc (.cells #[.int .u8 o.kind, .int .u32 o.a, .int .u32 o.b, .int .u32 o.c] 28)).alloc (.cells #[.int .i64 0, .int .u32 0, .slice none 0 0] 36)) W ∧ W.ownsRow (w.heap.size + 3) 44 2 r L.length (rwCells L)) ⟨EXY, own_ext HOW.out EXY⟩ ?_; rintro W ⟨⟨os', d', rfl⟩, hown⟩; clear HOW; have HOW := Lib.hid hown; clear hown
  go_wp2_with (go_at_call 44; refine (ins_any r L ⟨o.a, o.b⟩ i HI0.out _ (w.heap.size + 3) _ (own_ext HOW.out EXY) (by omega) (by first | (simp [go_sem]; done) | (simp [go_sem]; omega)) (by rw [alloc_heap, if_pos (by simp [go_sem])]) (fun e => by have hlt7 := (own_block HOW.out e).2; simp only [size_grew, World.size_alloc] at hlt7; (try simp only [cnt_both] at *); omega)).mono ?_; rintro e w8 ⟨r2, rfl, HO7, hg7⟩; have he7 := ext_grown (U := (((w.alloc (.cells #[.int .u8 c.object, .int .i64 c.instances, .int .i64 c.threads, .int .u8 c.kind, .int .i64 c.stripes, .int .i64 c.bits, .int .i64 c.cap, .int .i64 c.node, .int .i64 c.batch, .int .i64 c.chunk, .int .u64 c.limit, .int .u64 c.most] 24)).alloc (.cells #[.int .u8 o.kind, .int .u32 o.a, .int .u32 o.b, .int .u32 o.c] 28)).alloc (.cells #[.int .i64 0, .int .u32 0, .slice none 0 0] 36))) EXY hg7 (fun k hk => by have := (own_block HOW.out hk).1; simp only [World.size_alloc]; omega); have HOW2 := Lib.hid HO7; obtain ⟨os8, n8, rfl⟩ := he7; clear hg7 HO7)
  go_region
  all_goals go_wp2
  all_goals refine bodyPost_ret (v := .tuple #[r2, resV 0 0 (.slice none 0 0), .int .i64 0]) (by simp [results, Tryd.results56, go_sem]) rfl ?_
  all_goals exact do_p HZ.out (by rw [HW.out]; exact own_low (own_ext (own_swap (B := (((w.alloc (.cells #[.int .u8 c.object, .int .i64 c.instances, .int .i64 c.threads, .int .u8 c.kind, .int .i64 c.stripes, .int .i64 c.bits, .int .i64 c.cap, .int .i64 c.node, .int .i64 c.batch, .int .i64 c.chunk, .int .u64 c.limit, .int .u64 c.most] 24)).alloc (.cells #[.int .u8 o.kind, .int .u32 o.a, .int .u32 o.b, .int .u32 o.c] 28)).alloc (.cells #[.int .i64 0, .int .u32 0, .slice none 0 0] 36))) (B' := (((w.alloc (.cells #[.int .u8 c.object, .int .i64 c.instances, .int .i64 c.threads, .int .u8 c.kind, .int .i64 c.stripes, .int .i64 c.bits, .int .i64 c.cap, .int .i64 c.node, .int .i64 c.batch, .int .i64 c.chunk, .int .u64 c.limit, .int .u64 c.most] 24)).alloc (.cells #[.int .u8 o.kind, .int .u32 o.a, .int .u32 o.b, .int .u32 o.c] 28)).alloc (.cells #[.int .i64 0, .int .u32 0, .slice none 0 0] 36))) (d := n8) (d' := n8) (by simp) HOW2.out (by simp)) EXY) (by omega)) EXY

theorem do_del_there (c : Cfg) (v : Value) (L : List Rw) (o : Opn) (w : World) (hp : WPre c v L o w) (hn : L.length ≤ 1000) (h4 : (o.kind == 4) = false) (u : Int) (hl : look L o.a = some u) (Z : Outc) (HZ : Hid (Z = ⟨withoutK o.a L, 0, u + 1, [], 0⟩)) :
    Calls Tryd.prog 56 #[c.v, v, o.v] w (DoP w Z) := by
  have HV := Lib.hid hp.hv; have HF := Lib.hid hp.hf; have HO := Lib.hid hp.ho; have HT := Lib.hid hp.ht; have HC := Lib.hid hp.hc; have HI := Lib.hid hp.hi; have HE := Lib.hid hp.he; have hrs := hp.hr; have hok := hp.hok; have hoa := hp.ho.a; have hob := hp.ho.b; have HOA := Lib.hid hoa; have HK : Hid (1 ≤ o.kind ∧ o.kind ≤ 14) := Lib.hid (by have := hp.hk; omega); have HWR := Lib.hid hp.hw; clear hp
  obtain ⟨i, hi, hlo, hg, hw, hwo⟩ := at_some hrs hl
  have HI0 : Hid (i ≤ L.length) := Lib.hid (by omega)
  have HLO := Lib.hid hlo
  have HHI : Hid (i < L.length → o.a ≤ (L.getD i zrw).k) := Lib.hid (fun _ => by rw [hg]; exact Int.le_refl _)
  have HRR : Hid ((decide (i < L.length) && ((L.getD i zrw).k == o.a)) = true) := Lib.hid (by rw [hg]; simp [hi])
  obtain ⟨ad, cap, rfl, hs, hs2⟩ := HV.out
  have hln := hs.len
  have HS := Lib.hid hs
  obtain ⟨b, f, rfl, hbl, hrw⟩ := hs.rw hi
  rw [hg] at hrw
  obtain ⟨r1, r2⟩ := hrw
  dsimp only at r1 r2
  have hu := (hok _ (look_mem hl)).2
  dsimp only at hu
  have q3 : IntKind.u32.wrap u = u := by rw [IntKind.wrap_u32]; omega
  have q5 : IntKind.u64.wrap o.b = o.b := by rw [IntKind.wrap_u64]; omega
  have i0 : (0 : Int) ≤ (i : Int) := by omega
  have i1 : (i : Int) < (L.length : Int) := by omega
  have hbl1 : b < w.heap.size + 1 := by omega
  have hbl2 : b < w.heap.size + 1 + 1 := by omega
  have hbl3 : b < w.heap.size + 1 + 1 + 1 := by omega
  have HW := Lib.hid (hw o.b)
  have HWO := Lib.hid hwo
  have HG := Lib.hid hg
  clear hrs hok hlo hs hs2 hl hw hwo hg
  go_enter Tryd.func56, Tryd.ntmps56; go_upto_region 16 with (first | (go_at_call 57; (with_reducible refine (of_any c _).mono ?_); rintro e w1 ⟨rfl, os1, n1, rfl⟩; rw [HC.out]) | (go_at_call 58; (with_reducible refine (is_any c _ L HF.out _ (HV.out.sl.ext EXY)).mono ?_); rintro e w2 ⟨rfl, os2, n2, rfl⟩; rw [HI.out]) | (go_at_call 39; (with_reducible refine (clone_any _ L (by omega) _ (HV.out.ext EXY)).mono ?_); rintro e w3 ⟨r, rfl, HO3, os3, n3, rfl⟩; have ho3 := own_low (lo := w.heap.size + 3) HO3 (by first | (simp [go_sem]; done) | (simp [go_sem]; omega)); simp only [grew_grew] at ho3; have HOW := Lib.hid ho3; clear HO3 ho3) | (go_at_call 7; (with_reducible refine (opCheck_any c o HO.out _ (Tab.base (Tab.ext HT.out EXY))).mono ?_); rintro e w4 ⟨rfl, os4, n4, rfl⟩; rw [HE.out]) | (go_at_call 59; (with_reducible refine (writes_any o.kind HK.out true _ (WrAt.ext HWR.out EXY)).mono ?_); rintro e w5 ⟨rfl, os5, n5, rfl⟩) | (go_at_call 61; (with_reducible refine (first_any _ L o.a HOA.out _ (sl_mk (HS.out.ext EXY)) i HI0.out HLO.out HHI.out).mono ?_); rintro e w6 ⟨rfl, os6, n6, rfl⟩) | (go_at_call 62; (with_reducible refine (has_any _ L o.a HOA.out _ (sl_mk (HS.out.ext EXY)) i HI0.out _ HRR.out).mono ?_); rintro e w7 ⟨rfl, os7, n7, rfl⟩))
  refine wp_gen (fun W => Ext (((w.alloc (.cells #[.int .u8 c.object, .int .i64 c.instances, .int .i64 c.threads, .int .u8 c.kind, .int .i64 c.stripes, .int .i64 c.bits, .int .i64 c.cap, .int .i64 c.node, .int .i64 c.batch, .int .i64 c.chunk, .int .u64 c.limit, .int .u64 c.most] 24)).alloc (.cells #[.int .u8 o.kind, .int .u32 o.a, .int .u32 o.b, .int .u32 o.c] 28)).alloc (.cells #[.int .i64 0, .int .u32 (u + 1), .slice none 0 0] 36)) W ∧ W.ownsRow (w.heap.size + 3) 44 2 r L.length (rwCells L)) ⟨EXY, own_swap (B := (((w.alloc (.cells #[.int .u8 c.object, .int .i64 c.instances, .int .i64 c.threads, .int .u8 c.kind, .int .i64 c.stripes, .int .i64 c.bits, .int .i64 c.cap, .int .i64 c.node, .int .i64 c.batch, .int .i64 c.chunk, .int .u64 c.limit, .int .u64 c.most] 24)).alloc (.cells #[.int .u8 o.kind, .int .u32 o.a, .int .u32 o.b, .int .u32 o.c] 28)).alloc (.cells #[.int .i64 0, .int .u32 0, .slice none 0 0] 36))) (d := 0) (by simp [go_sem]) (own_ext HOW.out EXY) (by simp [go_sem])⟩ ?_; rintro W ⟨⟨os', d', rfl⟩, hown⟩; clear HOW; have HOW := Lib.hid hown; clear hown
  go_wp2_with (go_at_call 45; (with_reducible refine (del_any r L i hi (w.heap.size + 3) _ (own_ext HOW.out EXY) (by omega)).mono ?_); rintro e w8 ⟨r2, rfl, HO7, hg7⟩; have he7 := ext_grown (U := (((w.alloc (.cells #[.int .u8 c.object, .int .i64 c.instances, .int .i64 c.threads, .int .u8 c.kind, .int .i64 c.stripes, .int .i64 c.bits, .int .i64 c.cap, .int .i64 c.node, .int .i64 c.batch, .int .i64 c.chunk, .int .u64 c.limit, .int .u64 c.most] 24)).alloc (.cells #[.int .u8 o.kind, .int .u32 o.a, .int .u32 o.b, .int .u32 o.c] 28)).alloc (.cells #[.int .i64 0, .int .u32 (u + 1), .slice none 0 0] 36))) EXY hg7 (fun k hk => by have := (own_block HOW.out hk).1; simp only [World.size_alloc]; omega); have HOW2 := Lib.hid HO7; obtain ⟨os8, n8, rfl⟩ := he7; clear hg7 HO7)
  go_region
  all_goals go_wp2
  all_goals refine bodyPost_ret (v := .tuple #[r2, resV 0 (u + 1) (.slice none 0 0), .int .i64 0]) (by simp [results, Tryd.results56, go_sem]) rfl ?_
  all_goals exact do_p HZ.out (by rw [HWO.out]; exact own_low (own_ext (own_swap (B := (((w.alloc (.cells #[.int .u8 c.object, .int .i64 c.instances, .int .i64 c.threads, .int .u8 c.kind, .int .i64 c.stripes, .int .i64 c.bits, .int .i64 c.cap, .int .i64 c.node, .int .i64 c.batch, .int .i64 c.chunk, .int .u64 c.limit, .int .u64 c.most] 24)).alloc (.cells #[.int .u8 o.kind, .int .u32 o.a, .int .u32 o.b, .int .u32 o.c] 28)).alloc (.cells #[.int .i64 0, .int .u32 (u + 1), .slice none 0 0] 36))) (B' := (((w.alloc (.cells #[.int .u8 c.object, .int .i64 c.instances, .int .i64 c.threads, .int .u8 c.kind, .int .i64 c.stripes, .int .i64 c.bits, .int .i64 c.cap, .int .i64 c.node, .int .i64 c.batch, .int .i64 c.chunk, .int .u64 c.limit, .int .u64 c.most] 24)).alloc (.cells #[.int .u8 o.kind, .int .u32 o.a, .int .u32 o.b, .int .u32 o.c] 28)).alloc (.cells #[.int .i64 0, .int .u32 (u + 1), .slice none 0 0] 36))) (d := n8) (d' := n8) (by simp) HOW2.out (by simp)) EXY) (by omega)) EXY

theorem do_put_there (c : Cfg) (v : Value) (L : List Rw) (o : Opn) (w : World) (hp : WPre c v L o w) (hn : L.length ≤ 1000) (h4 : (o.kind == 4) = true) (u : Int) (hl : look L o.a = some u) (Z : Outc) (HZ : Hid (Z = ⟨withK o.a o.b L, 0, u + 1, [], 0⟩)) :
    Calls Tryd.prog 56 #[c.v, v, o.v] w (DoP w Z) := by
  have HV := Lib.hid hp.hv; have HF := Lib.hid hp.hf; have HO := Lib.hid hp.ho; have HT := Lib.hid hp.ht; have HC := Lib.hid hp.hc; have HI := Lib.hid hp.hi; have HE := Lib.hid hp.he; have hrs := hp.hr; have hok := hp.hok; have hoa := hp.ho.a; have hob := hp.ho.b; have HOA := Lib.hid hoa; have HK : Hid (1 ≤ o.kind ∧ o.kind ≤ 14) := Lib.hid (by have := hp.hk; omega); have HWR := Lib.hid hp.hw; clear hp
  obtain ⟨i, hi, hlo, hg, hw, hwo⟩ := at_some hrs hl
  have HI0 : Hid (i ≤ L.length) := Lib.hid (by omega)
  have HLO := Lib.hid hlo
  have HHI : Hid (i < L.length → o.a ≤ (L.getD i zrw).k) := Lib.hid (fun _ => by rw [hg]; exact Int.le_refl _)
  have HRR : Hid ((decide (i < L.length) && ((L.getD i zrw).k == o.a)) = true) := Lib.hid (by rw [hg]; simp [hi])
  obtain ⟨ad, cap, rfl, hs, hs2⟩ := HV.out
  have hln := hs.len
  have HS := Lib.hid hs
  obtain ⟨b, f, rfl, hbl, hrw⟩ := hs.rw hi
  rw [hg] at hrw
  obtain ⟨r1, r2⟩ := hrw
  dsimp only at r1 r2
  have hu := (hok _ (look_mem hl)).2
  dsimp only at hu
  have q3 : IntKind.u32.wrap u = u := by rw [IntKind.wrap_u32]; omega
  have q5 : IntKind.u64.wrap o.b = o.b := by rw [IntKind.wrap_u64]; omega
  have i0 : (0 : Int) ≤ (i : Int) := by omega
  have i1 : (i : Int) < (L.length : Int) := by omega
  have hbl1 : b < w.heap.size + 1 := by omega
  have hbl2 : b < w.heap.size + 1 + 1 := by omega
  have hbl3 : b < w.heap.size + 1 + 1 + 1 := by omega
  have HW := Lib.hid (hw o.b)
  have HWO := Lib.hid hwo
  have HG := Lib.hid hg
  clear hrs hok hlo hs hs2 hl hw hwo hg
  go_enter Tryd.func56, Tryd.ntmps56; go_upto_region 16 with (first | (go_at_call 57; (with_reducible refine (of_any c _).mono ?_); rintro e w1 ⟨rfl, os1, n1, rfl⟩; rw [HC.out]) | (go_at_call 58; (with_reducible refine (is_any c _ L HF.out _ (HV.out.sl.ext EXY)).mono ?_); rintro e w2 ⟨rfl, os2, n2, rfl⟩; rw [HI.out]) | (go_at_call 39; (with_reducible refine (clone_any _ L (by omega) _ (HV.out.ext EXY)).mono ?_); rintro e w3 ⟨r, rfl, HO3, os3, n3, rfl⟩; have ho3 := own_low (lo := w.heap.size + 3) HO3 (by first | (simp [go_sem]; done) | (simp [go_sem]; omega)); simp only [grew_grew] at ho3; have HOW := Lib.hid ho3; clear HO3 ho3) | (go_at_call 7; (with_reducible refine (opCheck_any c o HO.out _ (Tab.base (Tab.ext HT.out EXY))).mono ?_); rintro e w4 ⟨rfl, os4, n4, rfl⟩; rw [HE.out]) | (go_at_call 59; (with_reducible refine (writes_any o.kind HK.out true _ (WrAt.ext HWR.out EXY)).mono ?_); rintro e w5 ⟨rfl, os5, n5, rfl⟩) | (go_at_call 61; (with_reducible refine (first_any _ L o.a HOA.out _ (sl_mk (HS.out.ext EXY)) i HI0.out HLO.out HHI.out).mono ?_); rintro e w6 ⟨rfl, os6, n6, rfl⟩) | (go_at_call 62; (with_reducible refine (has_any _ L o.a HOA.out _ (sl_mk (HS.out.ext EXY)) i HI0.out _ HRR.out).mono ?_); rintro e w7 ⟨rfl, os7, n7, rfl⟩))
  refine wp_gen (fun W => Ext (((w.alloc (.cells #[.int .u8 c.object, .int .i64 c.instances, .int .i64 c.threads, .int .u8 c.kind, .int .i64 c.stripes, .int .i64 c.bits, .int .i64 c.cap, .int .i64 c.node, .int .i64 c.batch, .int .i64 c.chunk, .int .u64 c.limit, .int .u64 c.most] 24)).alloc (.cells #[.int .u8 o.kind, .int .u32 o.a, .int .u32 o.b, .int .u32 o.c] 28)).alloc (.cells #[.int .i64 0, .int .u32 (u + 1), .slice none 0 0] 36)) W ∧ W.ownsRow (w.heap.size + 3) 44 2 r L.length (rwCells L)) ⟨EXY, own_swap (B := (((w.alloc (.cells #[.int .u8 c.object, .int .i64 c.instances, .int .i64 c.threads, .int .u8 c.kind, .int .i64 c.stripes, .int .i64 c.bits, .int .i64 c.cap, .int .i64 c.node, .int .i64 c.batch, .int .i64 c.chunk, .int .u64 c.limit, .int .u64 c.most] 24)).alloc (.cells #[.int .u8 o.kind, .int .u32 o.a, .int .u32 o.b, .int .u32 o.c] 28)).alloc (.cells #[.int .i64 0, .int .u32 0, .slice none 0 0] 36))) (d := 0) (by simp [go_sem]) (own_ext HOW.out EXY) (by simp [go_sem])⟩ ?_; rintro W ⟨⟨os', d', rfl⟩, hown⟩; clear HOW; have HOW := Lib.hid hown; clear hown
  have hown := HOW.out
  rcases hown.2 with ⟨_, h0⟩ | ⟨g, cap2, cur, rfl, hgb, hgc, hgn, hgm, hgs, _⟩
  · omega
  have hgl : g < (grew (((w.alloc (.cells #[.int .u8 c.object, .int .i64 c.instances, .int .i64 c.threads, .int .u8 c.kind, .int .i64 c.stripes, .int .i64 c.bits, .int .i64 c.cap, .int .i64 c.node, .int .i64 c.batch, .int .i64 c.chunk, .int .u64 c.limit, .int .u64 c.most] 24)).alloc (.cells #[.int .u8 o.kind, .int .u32 o.a, .int .u32 o.b, .int .u32 o.c] 28)).alloc (.cells #[.int .i64 0, .int .u32 (u + 1), .slice none 0 0] 36)) os' d').heap.size := (Array.getElem?_eq_some_iff.1 hgc).1
  obtain ⟨z0, hz0⟩ : ∃ z0, cur[i * 2 + 1]? = some z0 := ⟨_, Array.getElem?_eq_getElem (by omega)⟩
  have hst1 : (grew (((w.alloc (.cells #[.int .u8 c.object, .int .i64 c.instances, .int .i64 c.threads, .int .u8 c.kind, .int .i64 c.stripes, .int .i64 c.bits, .int .i64 c.cap, .int .i64 c.node, .int .i64 c.batch, .int .i64 c.chunk, .int .u64 c.limit, .int .u64 c.most] 24)).alloc (.cells #[.int .u8 o.kind, .int .u32 o.a, .int .u32 o.b, .int .u32 o.c] 28)).alloc (.cells #[.int .i64 0, .int .u32 (u + 1), .slice none 0 0] 36)) os' d').cell? ⟨g, i * 2 + 1, none⟩ = some z0 := by rw [cell_of_heap hgc, hz0]
  have hst2 : (grew (((w.alloc (.cells #[.int .u8 c.object, .int .i64 c.instances, .int .i64 c.threads, .int .u8 c.kind, .int .i64 c.stripes, .int .i64 c.bits, .int .i64 c.cap, .int .i64 c.node, .int .i64 c.batch, .int .i64 c.chunk, .int .u64 c.limit, .int .u64 c.most] 24)).alloc (.cells #[.int .u8 o.kind, .int .u32 o.a, .int .u32 o.b, .int .u32 o.c] 28)).alloc (.cells #[.int .i64 0, .int .u32 (u + 1), .slice none 0 0] 36)) os' d').frozen? ⟨g, i * 2 + 1, none⟩ = false := frozen_of_heap hgc _
  have hm2 : L.length ≤ 9223372036854775807 := hln
  clear hown hgl hgc hgs hz0
  go_upto_region 24 with fail
  refine wp_gen (fun W => Ext (((w.alloc (.cells #[.int .u8 c.object, .int .i64 c.instances, .int .i64 c.threads, .int .u8 c.kind, .int .i64 c.stripes, .int .i64 c.bits, .int .i64 c.cap, .int .i64 c.node, .int .i64 c.batch, .int .i64 c.chunk, .int .u64 c.limit, .int .u64 c.most] 24)).alloc (.cells #[.int .u8 o.kind, .int .u32 o.a, .int .u32 o.b, .int .u32 o.c] 28)).alloc (.cells #[.int .i64 0, .int .u32 (u + 1), .slice none 0 0] 36)) W ∧ W.ownsRow (w.heap.size + 3) 44 2 (.slice (some ⟨g, 0, none⟩) L.length cap2) (withK o.a o.b L).length (rwCells (withK o.a o.b L))) ⟨?_, ?_⟩ ?_
  · exact Ext.setCell EXY (by simp only [World.size_alloc]; omega) _
  · rw [HW.out]
    exact own_setv HOW.out hi (by rw [HG.out])
  · rintro W ⟨⟨os8, n8, rfl⟩, hown2⟩
    have HOW2 := Lib.hid hown2
    clear hown2 hst1 hst2
    go_region
    all_goals go_wp2
    all_goals refine bodyPost_ret (v := .tuple #[.slice (some ⟨g, 0, none⟩) L.length cap2, resV 0 (u + 1) (.slice none 0 0), .int .i64 0]) (by simp [results, Tryd.results56, go_sem]) rfl ?_
    all_goals exact do_p HZ.out (own_low (own_ext (own_swap (B := (((w.alloc (.cells #[.int .u8 c.object, .int .i64 c.instances, .int .i64 c.threads, .int .u8 c.kind, .int .i64 c.stripes, .int .i64 c.bits, .int .i64 c.cap, .int .i64 c.node, .int .i64 c.batch, .int .i64 c.chunk, .int .u64 c.limit, .int .u64 c.most] 24)).alloc (.cells #[.int .u8 o.kind, .int .u32 o.a, .int .u32 o.b, .int .u32 o.c] 28)).alloc (.cells #[.int .i64 0, .int .u32 (u + 1), .slice none 0 0] 36))) (B' := (((w.alloc (.cells #[.int .u8 c.object, .int .i64 c.instances, .int .i64 c.threads, .int .u8 c.kind, .int .i64 c.stripes, .int .i64 c.bits, .int .i64 c.cap, .int .i64 c.node, .int .i64 c.batch, .int .i64 c.chunk, .int .u64 c.limit, .int .u64 c.most] 24)).alloc (.cells #[.int .u8 o.kind, .int .u32 o.a, .int .u32 o.b, .int .u32 o.c] 28)).alloc (.cells #[.int .i64 0, .int .u32 (u + 1), .slice none 0 0] 36))) (d := n8) (d' := n8) (by simp) HOW2.out (by simp)) EXY) (by omega)) EXY
end Go.Proofs.YtknfikdignpniaaDoor.order
