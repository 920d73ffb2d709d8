/- The walks of 'model.Do', 'model.Fold'. -/
import Derived.Test.YtknfikdignpniaaDoorMa
import Derived.Deep.RegionHeld3
import Derived.Deep.DeepCutAuto
namespace Go.Proofs.YtknfikdignpniaaDoor
open Go Go.RowKit
set_option maxRecDepth 100000
set_option maxHeartbeats 8000000

/-- A call of the object that a config names. -/
def ObjCall (B : Int → Bool) (c : Cfg) (T : TypeId) (N : FuncId) : Prop := (∀ w, Calls Tryd.prog 12 #[c.v] w fun e w' => e = .returned (.iface T (.agg #[])) ∧ Ext w w') ∧
  ∀ (v : Value) (L : List Rw) (o : Opn) (w : World), RwsFit L → o.Fits → Tab w → (1 ≤ o.kind → o.kind ≤ 14 → order.WrAt w o.kind (B o.kind)) → Rws w v L → L.length ≤ 900 → ∀ {M res : List Rw} {dc dw de : Int}, mdDo B c L o = ⟨M, dc, dw, res, de⟩ →
    Calls Tryd.prog N #[.agg #[], c.v, v, o.v] w (DoM w (c.object == 2) M dc dw res de)
theorem obj_1 (B : Int → Bool) {c : Cfg} (h : (c.object == 1) = true) : ObjCall B c 55 34 :=
  ⟨fun w => of_1 c h w, fun v L o w hf ho ht _ hv hn _ _ _ _ _ hz => m1_any B c v L hf o ho w ht hv hn h hz⟩
theorem obj_2 (B : Int → Bool) {c : Cfg} (h1 : (c.object == 1) = false) (h : (c.object == 2) = true) : ObjCall B c 56 54 :=
  ⟨fun w => of_2 c h1 h w, fun v L o w hf ho ht hw hv hn _ _ _ _ _ hz => m2_any B c v L hf o ho w ht hw hv hn h1 h hz⟩
theorem obj_3 (B : Int → Bool) {c : Cfg} (h1 : (c.object == 1) = false) (h2 : (c.object == 2) = false) (h : (c.object == 3) = true) : ObjCall B c 57 66 :=
  ⟨fun w => of_3 c h1 h2 h w, fun v L o w hf ho ht _ hv hn _ _ _ _ _ hz => m3_any B c v L hf o ho w ht hv hn h1 h2 h hz⟩
theorem obj_4 (B : Int → Bool) {c : Cfg} (h1 : (c.object == 1) = false) (h2 : (c.object == 2) = false) (h3 : (c.object == 3) = false) : ObjCall B c 58 78 :=
  ⟨fun w => of_4 c h1 h2 h3 w, fun v L o w hf ho ht _ hv hn _ _ _ _ _ hz => m4_any B c v L hf o ho w ht hv hn h1 h2 h3 hz⟩
theorem do_conf (c : Cfg) (v : Value) (o : Opn) (w : World) (hp : partOk c = false) : Calls Tryd.prog 6 #[c.v, v, o.v] w (DoM w (c.object == 2) [] 0 0 [] 40) := by
  have HC := Lib.hid (conf_no hp)
  obtain ⟨X2, hX2⟩ : ∃ X2, (c.object == 2) = X2 := ⟨_, rfl⟩
  rw [hX2]
  clear hp hX2
  go_enter Tryd.func6, Tryd.ntmps6
  go_wp2_with (go_at_call 11; (with_reducible refine (partCheck_any c _).mono ?_); rintro e w1 ⟨rfl, os1, n1, rfl⟩; rw [HC.out])
  go_region
  all_goals go_wp2
  all_goals refine bodyPost_ret (v := .tuple #[.slice none 0 0, resM 0 0 (.slice none 0 0), .int .i64 40]) (by simp [results, Tryd.results6, go_sem]) rfl ?_
  all_goals exact ⟨_, none, 0, rfl, Lib.hid (World.ownsRow_nil _ _ _ _), Lib.hid (World.ownsRow_nil _ _ _ _), Lib.hid (fun _ => ⟨rfl, rfl, rfl⟩), EXY⟩
theorem do_routes (B : Int → Bool) (c : Cfg) (v : Value) (L : List Rw) (hf : RwsFit L) (o : Opn) (ho : o.Fits) (w : World) (ht : Tab w) (hw : 1 ≤ o.kind → o.kind ≤ 14 → order.WrAt w o.kind (B o.kind)) (hv : Rws w v L) (hn : L.length ≤ 900)
    {M res : List Rw} {dc dw de : Int} (hz : mdDo B c L o = ⟨M, dc, dw, res, de⟩) (hp : partOk c = true) (hO : ObjCall B c 55 34) : Calls Tryd.prog 6 #[c.v, v, o.v] w (DoM w (c.object == 2) M dc dw res de) := by
  obtain ⟨X2, hX2⟩ : ∃ X2, (c.object == 2) = X2 := ⟨_, rfl⟩
  obtain ⟨hof, hm⟩ := hO
  rw [hX2] at hm ⊢
  have HC := Lib.hid (conf_ok hp)
  have HOF := Lib.hid hof
  have HM := Lib.hid @hm
  have HZ := Lib.hid hz
  have HF := Lib.hid hf
  have HO := Lib.hid ho
  have HT := Lib.hid ht
  have HV := Lib.hid hv
  have HW := Lib.hid hw
  have HN := Lib.hid hn
  have HK : Hid (Holds ((w.alloc (.cells #[.int .u8 c.object, .int .i64 c.instances, .int .i64 c.threads, .int .u8 c.kind, .int .i64 c.stripes, .int .i64 c.bits, .int .i64 c.cap, .int .i64 c.node, .int .i64 c.batch, .int .i64 c.chunk, .int .u64 c.limit, .int .u64 c.most] 24)).alloc (.cells #[.int .u8 o.kind, .int .u32 o.a, .int .u32 o.b, .int .u32 o.c] 28)) ([(w.heap.size, 0, .int .u8 c.object), (w.heap.size, 1, .int .i64 c.instances), (w.heap.size, 2, .int .i64 c.threads), (w.heap.size, 3, .int .u8 c.kind), (w.heap.size, 4, .int .i64 c.stripes), (w.heap.size, 5, .int .i64 c.bits), (w.heap.size, 6, .int .i64 c.cap), (w.heap.size, 7, .int .i64 c.node), (w.heap.size, 8, .int .i64 c.batch), (w.heap.size, 9, .int .i64 c.chunk), (w.heap.size, 10, .int .u64 c.limit), (w.heap.size, 11, .int .u64 c.most)] ++ [(w.heap.size + 1, 0, .int .u8 o.kind), (w.heap.size + 1, 1, .int .u32 o.a), (w.heap.size + 1, 2, .int .u32 o.b), (w.heap.size + 1, 3, .int .u32 o.c)])) := Lib.hid (by simp [Holds, go_sem])
  clear hz hf ho ht hv hw hof hm hp hX2 hn
  go_enter Tryd.func6, Tryd.ntmps6; go_upto_region 4 with (go_at_call 11; (with_reducible refine (partCheck_any c _).mono ?_); rintro e w1 ⟨rfl, os1, n1, rfl⟩; rw [HC.out]); go_region_held3 (fun W => W.cell? ⟨w.heap.size, 0, none⟩ = some (.int .u8 c.object) ∧ W.cell? ⟨w.heap.size, 1, none⟩ = some (.int .i64 c.instances) ∧ W.cell? ⟨w.heap.size, 2, none⟩ = some (.int .i64 c.threads) ∧ W.cell? ⟨w.heap.size, 3, none⟩ = some (.int .u8 c.kind) ∧ W.cell? ⟨w.heap.size, 4, none⟩ = some (.int .i64 c.stripes) ∧ W.cell? ⟨w.heap.size, 5, none⟩ = some (.int .i64 c.bits) ∧ W.cell? ⟨w.heap.size, 6, none⟩ = some (.int .i64 c.cap) ∧ W.cell? ⟨w.heap.size, 7, none⟩ = some (.int .i64 c.node) ∧ W.cell? ⟨w.heap.size, 8, none⟩ = some (.int .i64 c.batch) ∧ W.cell? ⟨w.heap.size, 9, none⟩ = some (.int .i64 c.chunk) ∧ W.cell? ⟨w.heap.size, 10, none⟩ = some (.int .u64 c.limit) ∧ W.cell? ⟨w.heap.size, 11, none⟩ = some (.int .u64 c.most) ∧ W.cell? ⟨w.heap.size + 1, 0, none⟩ = some (.int .u8 o.kind) ∧ W.cell? ⟨w.heap.size + 1, 1, none⟩ = some (.int .u32 o.a) ∧ W.cell? ⟨w.heap.size + 1, 2, none⟩ = some (.int .u32 o.b) ∧ W.cell? ⟨w.heap.size + 1, 3, none⟩ = some (.int .u32 o.c)) (exact HK.out.ext EX) (first | (go_at_call 12; (with_reducible refine (HOF.out _).mono ?_); rintro e w2 ⟨rfl, os2, n2, rfl⟩) | (go_at_call 34; (with_reducible refine (HM.out v L o _ HF.out HO.out (Tab.ext HT.out EXY) (fun q1 q2 => (HW.out q1 q2).ext EXY) (HV.out.ext EXY) HN.out HZ.out).mono ?_); rintro e w3 ⟨r, ad, cap, rfl, HA, HQ, HX, os3, n3, rfl⟩)); all_goals go_wp2
  all_goals
    refine bodyPost_ret (v := .tuple #[r, resM dc dw (.slice ad res.length cap), .int .i64 de]) (by simp [results, Tryd.results6, go_sem]) rfl ?_
    have ha := HA.out
    have hq := HQ.out
    (try simp only [grew_grew] at ha)
    (try simp only [grew_grew] at hq)
    exact ⟨r, ad, cap, rfl, Lib.hid (own_low (own_swap (by first | (simp [go_sem]; done) | (simp [go_sem]; omega) | omega) ha (by first | (simp [go_sem]; done) | (simp [go_sem]; omega) | omega)) (by first | (simp [go_sem]; done) | (simp [go_sem]; omega) | omega)), Lib.hid (own_low (own_swap (by first | (simp [go_sem]; done) | (simp [go_sem]; omega) | omega) hq (by first | (simp [go_sem]; done) | (simp [go_sem]; omega) | omega)) (by first | (simp [go_sem]; done) | (simp [go_sem]; omega) | omega)), HX, EXY⟩
theorem do_index (B : Int → Bool) (c : Cfg) (v : Value) (L : List Rw) (hf : RwsFit L) (o : Opn) (ho : o.Fits) (w : World) (ht : Tab w) (hw : 1 ≤ o.kind → o.kind ≤ 14 → order.WrAt w o.kind (B o.kind)) (hv : Rws w v L) (hn : L.length ≤ 900)
    {M res : List Rw} {dc dw de : Int} (hz : mdDo B c L o = ⟨M, dc, dw, res, de⟩) (hp : partOk c = true) (hO : ObjCall B c 56 54) : Calls Tryd.prog 6 #[c.v, v, o.v] w (DoM w (c.object == 2) M dc dw res de) := by
  obtain ⟨X2, hX2⟩ : ∃ X2, (c.object == 2) = X2 := ⟨_, rfl⟩
  obtain ⟨hof, hm⟩ := hO
  rw [hX2] at hm ⊢
  have HC := Lib.hid (conf_ok hp)
  have HOF := Lib.hid hof
  have HM := Lib.hid @hm
  have HZ := Lib.hid hz
  have HF := Lib.hid hf
  have HO := Lib.hid ho
  have HT := Lib.hid ht
  have HV := Lib.hid hv
  have HW := Lib.hid hw
  have HN := Lib.hid hn
  have HK : Hid (Holds ((w.alloc (.cells #[.int .u8 c.object, .int .i64 c.instances, .int .i64 c.threads, .int .u8 c.kind, .int .i64 c.stripes, .int .i64 c.bits, .int .i64 c.cap, .int .i64 c.node, .int .i64 c.batch, .int .i64 c.chunk, .int .u64 c.limit, .int .u64 c.most] 24)).alloc (.cells #[.int .u8 o.kind, .int .u32 o.a, .int .u32 o.b, .int .u32 o.c] 28)) ([(w.heap.size, 0, .int .u8 c.object), (w.heap.size, 1, .int .i64 c.instances), (w.heap.size, 2, .int .i64 c.threads), (w.heap.size, 3, .int .u8 c.kind), (w.heap.size, 4, .int .i64 c.stripes), (w.heap.size, 5, .int .i64 c.bits), (w.heap.size, 6, .int .i64 c.cap), (w.heap.size, 7, .int .i64 c.node), (w.heap.size, 8, .int .i64 c.batch), (w.heap.size, 9, .int .i64 c.chunk), (w.heap.size, 10, .int .u64 c.limit), (w.heap.size, 11, .int .u64 c.most)] ++ [(w.heap.size + 1, 0, .int .u8 o.kind), (w.heap.size + 1, 1, .int .u32 o.a), (w.heap.size + 1, 2, .int .u32 o.b), (w.heap.size + 1, 3, .int .u32 o.c)])) := Lib.hid (by simp [Holds, go_sem])
  clear hz hf ho ht hv hw hof hm hp hX2 hn
  go_enter Tryd.func6, Tryd.ntmps6; go_upto_region 4 with (go_at_call 11; (with_reducible refine (partCheck_any c _).mono ?_); rintro e w1 ⟨rfl, os1, n1, rfl⟩; rw [HC.out]); go_region_held3 (fun W => W.cell? ⟨w.heap.size, 0, none⟩ = some (.int .u8 c.object) ∧ W.cell? ⟨w.heap.size, 1, none⟩ = some (.int .i64 c.instances) ∧ W.cell? ⟨w.heap.size, 2, none⟩ = some (.int .i64 c.threads) ∧ W.cell? ⟨w.heap.size, 3, none⟩ = some (.int .u8 c.kind) ∧ W.cell? ⟨w.heap.size, 4, none⟩ = some (.int .i64 c.stripes) ∧ W.cell? ⟨w.heap.size, 5, none⟩ = some (.int .i64 c.bits) ∧ W.cell? ⟨w.heap.size, 6, none⟩ = some (.int .i64 c.cap) ∧ W.cell? ⟨w.heap.size, 7, none⟩ = some (.int .i64 c.node) ∧ W.cell? ⟨w.heap.size, 8, none⟩ = some (.int .i64 c.batch) ∧ W.cell? ⟨w.heap.size, 9, none⟩ = some (.int .i64 c.chunk) ∧ W.cell? ⟨w.heap.size, 10, none⟩ = some (.int .u64 c.limit) ∧ W.cell? ⟨w.heap.size, 11, none⟩ = some (.int .u64 c.most) ∧ W.cell? ⟨w.heap.size + 1, 0, none⟩ = some (.int .u8 o.kind) ∧ W.cell? ⟨w.heap.size + 1, 1, none⟩ = some (.int .u32 o.a) ∧ W.cell? ⟨w.heap.size + 1, 2, none⟩ = some (.int .u32 o.b) ∧ W.cell? ⟨w.heap.size + 1, 3, none⟩ = some (.int .u32 o.c)) (exact HK.out.ext EX) (first | (go_at_call 12; (with_reducible refine (HOF.out _).mono ?_); rintro e w2 ⟨rfl, os2, n2, rfl⟩) | (go_at_call 54; (with_reducible refine (HM.out v L o _ HF.out HO.out (Tab.ext HT.out EXY) (fun q1 q2 => (HW.out q1 q2).ext EXY) (HV.out.ext EXY) HN.out HZ.out).mono ?_); rintro e w3 ⟨r, ad, cap, rfl, HA, HQ, HX, os3, n3, rfl⟩)); all_goals go_wp2
  all_goals
    refine bodyPost_ret (v := .tuple #[r, resM dc dw (.slice ad res.length cap), .int .i64 de]) (by simp [results, Tryd.results6, go_sem]) rfl ?_
    have ha := HA.out
    have hq := HQ.out
    (try simp only [grew_grew] at ha)
    (try simp only [grew_grew] at hq)
    exact ⟨r, ad, cap, rfl, Lib.hid (own_low (own_swap (by first | (simp [go_sem]; done) | (simp [go_sem]; omega) | omega) ha (by first | (simp [go_sem]; done) | (simp [go_sem]; omega) | omega)) (by first | (simp [go_sem]; done) | (simp [go_sem]; omega) | omega)), Lib.hid (own_low (own_swap (by first | (simp [go_sem]; done) | (simp [go_sem]; omega) | omega) hq (by first | (simp [go_sem]; done) | (simp [go_sem]; omega) | omega)) (by first | (simp [go_sem]; done) | (simp [go_sem]; omega) | omega)), HX, EXY⟩
theorem do_access (B : Int → Bool) (c : Cfg) (v : Value) (L : List Rw) (hf : RwsFit L) (o : Opn) (ho : o.Fits) (w : World) (ht : Tab w) (hw : 1 ≤ o.kind → o.kind ≤ 14 → order.WrAt w o.kind (B o.kind)) (hv : Rws w v L) (hn : L.length ≤ 900)
    {M res : List Rw} {dc dw de : Int} (hz : mdDo B c L o = ⟨M, dc, dw, res, de⟩) (hp : partOk c = true) (hO : ObjCall B c 57 66) : Calls Tryd.prog 6 #[c.v, v, o.v] w (DoM w (c.object == 2) M dc dw res de) := by
  obtain ⟨X2, hX2⟩ : ∃ X2, (c.object == 2) = X2 := ⟨_, rfl⟩
  obtain ⟨hof, hm⟩ := hO
  rw [hX2] at hm ⊢
  have HC := Lib.hid (conf_ok hp)
  have HOF := Lib.hid hof
  have HM := Lib.hid @hm
  have HZ := Lib.hid hz
  have HF := Lib.hid hf
  have HO := Lib.hid ho
  have HT := Lib.hid ht
  have HV := Lib.hid hv
  have HW := Lib.hid hw
  have HN := Lib.hid hn
  have HK : Hid (Holds ((w.alloc (.cells #[.int .u8 c.object, .int .i64 c.instances, .int .i64 c.threads, .int .u8 c.kind, .int .i64 c.stripes, .int .i64 c.bits, .int .i64 c.cap, .int .i64 c.node, .int .i64 c.batch, .int .i64 c.chunk, .int .u64 c.limit, .int .u64 c.most] 24)).alloc (.cells #[.int .u8 o.kind, .int .u32 o.a, .int .u32 o.b, .int .u32 o.c] 28)) ([(w.heap.size, 0, .int .u8 c.object), (w.heap.size, 1, .int .i64 c.instances), (w.heap.size, 2, .int .i64 c.threads), (w.heap.size, 3, .int .u8 c.kind), (w.heap.size, 4, .int .i64 c.stripes), (w.heap.size, 5, .int .i64 c.bits), (w.heap.size, 6, .int .i64 c.cap), (w.heap.size, 7, .int .i64 c.node), (w.heap.size, 8, .int .i64 c.batch), (w.heap.size, 9, .int .i64 c.chunk), (w.heap.size, 10, .int .u64 c.limit), (w.heap.size, 11, .int .u64 c.most)] ++ [(w.heap.size + 1, 0, .int .u8 o.kind), (w.heap.size + 1, 1, .int .u32 o.a), (w.heap.size + 1, 2, .int .u32 o.b), (w.heap.size + 1, 3, .int .u32 o.c)])) := Lib.hid (by simp [Holds, go_sem])
  clear hz hf ho ht hv hw hof hm hp hX2 hn
  go_enter Tryd.func6, Tryd.ntmps6; go_upto_region 4 with (go_at_call 11; (with_reducible refine (partCheck_any c _).mono ?_); rintro e w1 ⟨rfl, os1, n1, rfl⟩; rw [HC.out]); go_region_held3 (fun W => W.cell? ⟨w.heap.size, 0, none⟩ = some (.int .u8 c.object) ∧ W.cell? ⟨w.heap.size, 1, none⟩ = some (.int .i64 c.instances) ∧ W.cell? ⟨w.heap.size, 2, none⟩ = some (.int .i64 c.threads) ∧ W.cell? ⟨w.heap.size, 3, none⟩ = some (.int .u8 c.kind) ∧ W.cell? ⟨w.heap.size, 4, none⟩ = some (.int .i64 c.stripes) ∧ W.cell? ⟨w.heap.size, 5, none⟩ = some (.int .i64 c.bits) ∧ W.cell? ⟨w.heap.size, 6, none⟩ = some (.int .i64 c.cap) ∧ W.cell? ⟨w.heap.size, 7, none⟩ = some (.int .i64 c.node) ∧ W.cell? ⟨w.heap.size, 8, none⟩ = some (.int .i64 c.batch) ∧ W.cell? ⟨w.heap.size, 9, none⟩ = some (.int .i64 c.chunk) ∧ W.cell? ⟨w.heap.size, 10, none⟩ = some (.int .u64 c.limit) ∧ W.cell? ⟨w.heap.size, 11, none⟩ = some (.int .u64 c.most) ∧ W.cell? ⟨w.heap.size + 1, 0, none⟩ = some (.int .u8 o.kind) ∧ W.cell? ⟨w.heap.size + 1, 1, none⟩ = some (.int .u32 o.a) ∧ W.cell? ⟨w.heap.size + 1, 2, none⟩ = some (.int .u32 o.b) ∧ W.cell? ⟨w.heap.size + 1, 3, none⟩ = some (.int .u32 o.c)) (exact HK.out.ext EX) (first | (go_at_call 12; (with_reducible refine (HOF.out _).mono ?_); rintro e w2 ⟨rfl, os2, n2, rfl⟩) | (go_at_call 66; (with_reducible refine (HM.out v L o _ HF.out HO.out (Tab.ext HT.out EXY) (fun q1 q2 => (HW.out q1 q2).ext EXY) (HV.out.ext EXY) HN.out HZ.out).mono ?_); rintro e w3 ⟨r, ad, cap, rfl, HA, HQ, HX, os3, n3, rfl⟩)); all_goals go_wp2
  all_goals
    refine bodyPost_ret (v := .tuple #[r, resM dc dw (.slice ad res.length cap), .int .i64 de]) (by simp [results, Tryd.results6, go_sem]) rfl ?_
    have ha := HA.out
    have hq := HQ.out
    (try simp only [grew_grew] at ha)
    (try simp only [grew_grew] at hq)
    exact ⟨r, ad, cap, rfl, Lib.hid (own_low (own_swap (by first | (simp [go_sem]; done) | (simp [go_sem]; omega) | omega) ha (by first | (simp [go_sem]; done) | (simp [go_sem]; omega) | omega)) (by first | (simp [go_sem]; done) | (simp [go_sem]; omega) | omega)), Lib.hid (own_low (own_swap (by first | (simp [go_sem]; done) | (simp [go_sem]; omega) | omega) hq (by first | (simp [go_sem]; done) | (simp [go_sem]; omega) | omega)) (by first | (simp [go_sem]; done) | (simp [go_sem]; omega) | omega)), HX, EXY⟩
theorem do_tree (B : Int → Bool) (c : Cfg) (v : Value) (L : List Rw) (hf : RwsFit L) (o : Opn) (ho : o.Fits) (w : World) (ht : Tab w) (hw : 1 ≤ o.kind → o.kind ≤ 14 → order.WrAt w o.kind (B o.kind)) (hv : Rws w v L) (hn : L.length ≤ 900)
    {M res : List Rw} {dc dw de : Int} (hz : mdDo B c L o = ⟨M, dc, dw, res, de⟩) (hp : partOk c = true) (hO : ObjCall B c 58 78) : Calls Tryd.prog 6 #[c.v, v, o.v] w (DoM w (c.object == 2) M dc dw res de) := by
  obtain ⟨X2, hX2⟩ : ∃ X2, (c.object == 2) = X2 := ⟨_, rfl⟩
  obtain ⟨hof, hm⟩ := hO
  rw [hX2] at hm ⊢
  have HC := Lib.hid (conf_ok hp)
  have HOF := Lib.hid hof
  have HM := Lib.hid @hm
  have HZ := Lib.hid hz
  have HF := Lib.hid hf
  have HO := Lib.hid ho
  have HT := Lib.hid ht
  have HV := Lib.hid hv
  have HW := Lib.hid hw
  have HN := Lib.hid hn
  have HK : Hid (Holds ((w.alloc (.cells #[.int .u8 c.object, .int .i64 c.instances, .int .i64 c.threads, .int .u8 c.kind, .int .i64 c.stripes, .int .i64 c.bits, .int .i64 c.cap, .int .i64 c.node, .int .i64 c.batch, .int .i64 c.chunk, .int .u64 c.limit, .int .u64 c.most] 24)).alloc (.cells #[.int .u8 o.kind, .int .u32 o.a, .int .u32 o.b, .int .u32 o.c] 28)) ([(w.heap.size, 0, .int .u8 c.object), (w.heap.size, 1, .int .i64 c.instances), (w.heap.size, 2, .int .i64 c.threads), (w.heap.size, 3, .int .u8 c.kind), (w.heap.size, 4, .int .i64 c.stripes), (w.heap.size, 5, .int .i64 c.bits), (w.heap.size, 6, .int .i64 c.cap), (w.heap.size, 7, .int .i64 c.node), (w.heap.size, 8, .int .i64 c.batch), (w.heap.size, 9, .int .i64 c.chunk), (w.heap.size, 10, .int .u64 c.limit), (w.heap.size, 11, .int .u64 c.most)] ++ [(w.heap.size + 1, 0, .int .u8 o.kind), (w.heap.size + 1, 1, .int .u32 o.a), (w.heap.size + 1, 2, .int .u32 o.b), (w.heap.size + 1, 3, .int .u32 o.c)])) := Lib.hid (by simp [Holds, go_sem])
  clear hz hf ho ht hv hw hof hm hp hX2 hn
  go_enter Tryd.func6, Tryd.ntmps6; go_upto_region 4 with (go_at_call 11; (with_reducible refine (partCheck_any c _).mono ?_); rintro e w1 ⟨rfl, os1, n1, rfl⟩; rw [HC.out]); go_region_held3 (fun W => W.cell? ⟨w.heap.size, 0, none⟩ = some (.int .u8 c.object) ∧ W.cell? ⟨w.heap.size, 1, none⟩ = some (.int .i64 c.instances) ∧ W.cell? ⟨w.heap.size, 2, none⟩ = some (.int .i64 c.threads) ∧ W.cell? ⟨w.heap.size, 3, none⟩ = some (.int .u8 c.kind) ∧ W.cell? ⟨w.heap.size, 4, none⟩ = some (.int .i64 c.stripes) ∧ W.cell? ⟨w.heap.size, 5, none⟩ = some (.int .i64 c.bits) ∧ W.cell? ⟨w.heap.size, 6, none⟩ = some (.int .i64 c.cap) ∧ W.cell? ⟨w.heap.size, 7, none⟩ = some (.int .i64 c.node) ∧ W.cell? ⟨w.heap.size, 8, none⟩ = some (.int .i64 c.batch) ∧ W.cell? ⟨w.heap.size, 9, none⟩ = some (.int .i64 c.chunk) ∧ W.cell? ⟨w.heap.size, 10, none⟩ = some (.int .u64 c.limit) ∧ W.cell? ⟨w.heap.size, 11, none⟩ = some (.int .u64 c.most) ∧ W.cell? ⟨w.heap.size + 1, 0, none⟩ = some (.int .u8 o.kind) ∧ W.cell? ⟨w.heap.size + 1, 1, none⟩ = some (.int .u32 o.a) ∧ W.cell? ⟨w.heap.size + 1, 2, none⟩ = some (.int .u32 o.b) ∧ W.cell? ⟨w.heap.size + 1, 3, none⟩ = some (.int .u32 o.c)) (exact HK.out.ext EX) (first | (go_at_call 12; (with_reducible refine (HOF.out _).mono ?_); rintro e w2 ⟨rfl, os2, n2, rfl⟩) | (go_at_call 78; (with_reducible refine (HM.out v L o _ HF.out HO.out (Tab.ext HT.out EXY) (fun q1 q2 => (HW.out q1 q2).ext EXY) (HV.out.ext EXY) HN.out HZ.out).mono ?_); rintro e w3 ⟨r, ad, cap, rfl, HA, HQ, HX, os3, n3, rfl⟩)); all_goals go_wp2
  all_goals
    refine bodyPost_ret (v := .tuple #[r, resM dc dw (.slice ad res.length cap), .int .i64 de]) (by simp [results, Tryd.results6, go_sem]) rfl ?_
    have ha := HA.out
    have hq := HQ.out
    (try simp only [grew_grew] at ha)
    (try simp only [grew_grew] at hq)
    exact ⟨r, ad, cap, rfl, Lib.hid (own_low (own_swap (by first | (simp [go_sem]; done) | (simp [go_sem]; omega) | omega) ha (by first | (simp [go_sem]; done) | (simp [go_sem]; omega) | omega)) (by first | (simp [go_sem]; done) | (simp [go_sem]; omega) | omega)), Lib.hid (own_low (own_swap (by first | (simp [go_sem]; done) | (simp [go_sem]; omega) | omega) hq (by first | (simp [go_sem]; done) | (simp [go_sem]; omega) | omega)) (by first | (simp [go_sem]; done) | (simp [go_sem]; omega) | omega)), HX, EXY⟩
theorem do_md (B : Int → Bool) (c : Cfg) (v : Value) (L : List Rw) (hf : RwsFit L) (o : Opn) (ho : o.Fits) (w : World) (ht : Tab w) (hw : 1 ≤ o.kind → o.kind ≤ 14 → order.WrAt w o.kind (B o.kind)) (hv : Rws w v L) (hn : L.length ≤ 900) {M res : List Rw} {dc dw de : Int} (hz : mdDo B c L o = ⟨M, dc, dw, res, de⟩) : Calls Tryd.prog 6 #[c.v, v, o.v] w (DoM w (c.object == 2) M dc dw res de) := by
  cases hp : partOk c
  · rw [mdDo_no B hp] at hz
    cases hz
    exact do_conf c v o w hp
  · rcases md_obj hp with h1 | ⟨h1, h2⟩ | ⟨h1, h2, h3⟩ | ⟨h1, h2, h3, h4⟩
    · exact do_routes B c v L hf o ho w ht hw hv hn hz hp (obj_1 B h1)
    · exact do_index B c v L hf o ho w ht hw hv hn hz hp (obj_2 B h1 h2)
    · exact do_access B c v L hf o ho w ht hw hv hn hz hp (obj_3 B h1 h2 h3)
    · exact do_tree B c v L hf o ho w ht hw hv hn hz hp (obj_4 B h1 h2 h3)
end Go.Proofs.YtknfikdignpniaaDoor
