/- The walk of 'model.Fold'. -/
import Derived.Test.YtknfikdignpniaaDoorMd1
namespace Go.Proofs.YtknfikdignpniaaDoor
open Go Go.RowKit
set_option maxRecDepth 100000
set_option maxHeartbeats 8000000

/-- The answers' flat cells, where they give no rows out. -/
def nilRes (R : List ARes) : List Value := R.flatMap fun r => [.int .i64 r.code, .int .u32 r.word, .slice none 0 0]
theorem nilRes_app (R : List ARes) (r : ARes) : nilRes (R ++ [r]) = nilRes R ++ [.int .i64 r.code, .int .u32 r.word, .slice none 0 0] := by simp [nilRes]
theorem info_res : (Tryd.prog.info? 36).map (fun i => (i.zero, i.size, i.bytes)) = some (some (resM 0 0 (.slice none 0 0)), 3, 40) := by kernel_rfl
theorem three_new {w : World} {b : Nat} {x y z : Value} (h0 : w.cell? ⟨b, 0, none⟩ = some x) (h1 : w.cell? ⟨b, 1, none⟩ = some y) (h2 : w.cell? ⟨b, 2, none⟩ = some z) : ∀ (j : Nat) (u : Value), [x, y, z][j]? = some u → w.cell? ((⟨b, 0, none⟩ : Addr).add j) = some u := by
  intro j u hj
  match j, hj with
  | 0, hj => cases hj; simpa [Addr.add] using h0
  | 1, hj => cases hj; simpa [Addr.add] using h1
  | 2, hj => cases hj; simpa [Addr.add] using h2
theorem fold_take (B : Int → Bool) (c : Cfg) (A : List Opn) (k : Nat) (h : k < A.length) {M : List Rw} {R : List ARes} (hf : mdFold B c (A.take k) [] = (M, R)) {N res : List Rw} {dc dw de : Int} (hz : mdDo B c M (A.getD k zop) = ⟨N, dc, dw, res, de⟩) :
    mdFold B c (A.take (k + 1)) [] = (N, R ++ [⟨dc, dw, res⟩]) := by
  have e : A.take (k + 1) = A.take k ++ [A.getD k zop] := by
    rw [List.take_add_one, List.getElem?_eq_getElem h]
    simp [h]
  rw [e, fold_snoc, hf, hz]
theorem fold_state (B : Int → Bool) {c : Cfg} (hp : partOk c = true) {A : List Opn} (hA : OpsFit A) (k : Nat) {M : List Rw} {R : List ARes} (hf : mdFold B c (A.take k) [] = (M, R)) : mdIs c M = true ∧ RwsFit M := by
  have := fold_is B hp (A.take k) (fun x hx => hA x (List.mem_of_mem_take hx)) (L := []) (fun x hx => by cases hx) (md_nil hp)
  rw [hf] at this
  exact this
theorem fold_routes (B : Int → Bool) (c : Cfg) (hp : partOk c = true) (A : List Opn) (hA : OpsFit A) (v : Value) (w : World) (ht : Tab w) (hw : ∀ x : Opn, 1 ≤ x.kind → x.kind ≤ 14 → order.WrAt w x.kind (B x.kind)) (hv : Sl w v A.length (opCells A)) (hn : A.length ≤ 60)
    {N0 : List Rw} {R0 : List ARes} (hf : mdFold B c A [] = (N0, R0)) (hO : ObjCall B c 55 34) :
    Calls Tryd.prog 5 #[c.v, v] w fun e w' => ∃ r t xs, e = .returned (.tuple #[r, t, .int .i64 0]) ∧ Hid (Rws w' r N0) ∧ Hid (w'.ownsRow w.heap.size 36 3 t A.length xs) ∧ Hid ((c.object == 2) = false → xs = nilRes R0) ∧ Ext w w' := by
  obtain ⟨X2, hX2⟩ : ∃ X2, (c.object == 2) = X2 := ⟨_, rfl⟩
  obtain ⟨hof, hm⟩ := hO
  rw [hX2] at hm ⊢
  obtain ⟨ad, cap, rfl, hs⟩ := hv
  have hln := hs.len
  obtain ⟨ti, HI1, HI2, HI3, HI4⟩ := info_parts info_res
  have HI := Lib.hid (And.intro HI1 (And.intro HI2 (And.intro HI3 HI4)))
  have HC := Lib.hid (conf_ok hp)
  have HP := Lib.hid hp
  have HOF := Lib.hid hof
  have HM := Lib.hid @hm
  have HAF := Lib.hid hA
  have HT := Lib.hid ht
  have HS := Lib.hid hs
  have HW := Lib.hid hw
  have HF0 := Lib.hid hf
  have hn2 : ¬ (1024 : Int) < (A.length : Int) := by omega
  clear hA ht hw hof hm hp hX2 hs HI1 HI2 HI3 HI4 hf
  go_enter Tryd.func5, Tryd.ntmps5
  go_wp2_with (first | (go_at_call 11; (with_reducible refine (partCheck_any c _).mono ?_); rintro e w1 ⟨rfl, os1, n1, rfl⟩; rw [HC.out]) | (go_at_call 12; (with_reducible refine (HOF.out _).mono ?_); rintro e w2 ⟨rfl, os2, n2, rfl⟩))
  go_loopw [4, 5, 6, 23] (fun out told er i wr => ∃ (k : Nat) (M : List Rw) (R : List ARes) (xs : List Value), k ≤ A.length ∧ i = .int .i64 k ∧ er = .int .i64 0 ∧ Hid (mdFold B c (A.take k) [] = (M, R)) ∧ Hid (Ext (w.alloc (.cells #[.int .u8 c.object, .int .i64 c.instances, .int .i64 c.threads, .int .u8 c.kind, .int .i64 c.stripes, .int .i64 c.bits, .int .i64 c.cap, .int .i64 c.node, .int .i64 c.batch, .int .i64 c.chunk, .int .u64 c.limit, .int .u64 c.most] 24)) wr) ∧ Hid (Rws wr out M) ∧ Hid (wr.ownsRow (w.heap.size + 1) 36 3 told k xs) ∧ Hid (X2 = false → xs = nilRes R)) (fun _ _ _ i _ => A.length - (intOf i).toNat)
  case atStart => exact ⟨0, [], [], [], Nat.zero_le _, rfl, rfl, Lib.hid rfl, Lib.hid EXY, Lib.hid (Rws.nil _), Lib.hid (own_nil _ _ _ _), Lib.hid fun _ => rfl⟩
  case round =>
    obtain ⟨k, M, R, xs, hk, rfl, rfl, HFD, HB, HR, HTO, HXS⟩ := hrel
    have HE : Hid (Ext w wr) := Lib.hid (Ext.trans EX HB.out)
    have HFM : Hid (RwsFit M) := Lib.hid (fold_state B HP.out HAF.out k HFD.out).2
    have HIS : Hid (mdIs c M = true) := Lib.hid (fold_state B HP.out HAF.out k HFD.out).1
    by_cases hlt : k < A.length
    · obtain ⟨b, f, rfl, hb, hop⟩ := HS.out.op hlt
      obtain ⟨x, hx⟩ : ∃ x, A.getD k zop = x := ⟨_, rfl⟩
      rw [hx] at hop
      have HOX : Hid x.Fits := Lib.hid (by rw [← hx]; exact HAF.out.get k)
      obtain ⟨N, dc, dw, res, de, hZ⟩ : ∃ N dc dw res de, mdDo B c M x = ⟨N, dc, dw, res, de⟩ := ⟨_, _, _, _, _, rfl⟩
      obtain ⟨hde, _, _⟩ := md_is B HP.out HFM.out HOX.out HIS.out hZ
      subst hde
      have HFD2 : Hid (mdFold B c (A.take (k + 1)) [] = (N, R ++ [⟨dc, dw, res⟩])) := Lib.hid (fold_take B c A k hlt HFD.out (by rw [hx]; exact hZ))
      have HZ := Lib.hid hZ
      have HN : Hid (M.length ≤ 900) := Lib.hid (by have := (md_len HFM.out HIS.out).2; omega)
      have hop2 : Holds wr ([(b, f + k * 4, .int .u8 x.kind), (b, f + k * 4 + 1, .int .u32 x.a), (b, f + k * 4 + 2, .int .u32 x.b), (b, f + k * 4 + 3, .int .u32 x.c)]) := Holds.ext (w := w) hop HE.out
      simp only [Holds] at hop2
      obtain ⟨o0, o1, o2, o3⟩ := hop2
      have hcf : Holds wr ([(w.heap.size, 0, .int .u8 c.object), (w.heap.size, 1, .int .i64 c.instances), (w.heap.size, 2, .int .i64 c.threads), (w.heap.size, 3, .int .u8 c.kind), (w.heap.size, 4, .int .i64 c.stripes), (w.heap.size, 5, .int .i64 c.bits), (w.heap.size, 6, .int .i64 c.cap), (w.heap.size, 7, .int .i64 c.node), (w.heap.size, 8, .int .i64 c.batch), (w.heap.size, 9, .int .i64 c.chunk), (w.heap.size, 10, .int .u64 c.limit), (w.heap.size, 11, .int .u64 c.most)]) := Holds.ext (by simp [Holds, go_sem]) HB.out
      simp only [Holds] at hcf
      obtain ⟨c0, c1, c2, c3, c4, c5, c6, c7, c8, c9, c10, c11⟩ := hcf
      have hbw : b < wr.heap.size := by have := HE.out.size; omega
      have hsz : w.heap.size + 1 ≤ wr.heap.size := by have := HB.out.size; simpa [go_sem] using this
      have hszw : w.heap.size < wr.heap.size := by omega
      have i0 : (0 : Int) ≤ (k : Int) := by omega
      have i1 : (k : Int) < (A.length : Int) := by omega
      clear hx hop hZ
      go_wp2_with (first | (go_at_call 34; (with_reducible refine (HM.out _ M x _ HFM.out HOX.out (Tab.ext (Tab.ext HT.out HE.out) EXY) (fun q1 q2 => ((HW.out x q1 q2).ext HE.out).ext EXY) (HR.out.ext EXY) HN.out HZ.out).mono ?_); rintro e w3 ⟨r, ad2, cap2, rfl, HA, HQ, HX, os3, n3, rfl⟩) | (at_builtin; refine wpList_append_own_at _ rfl _ _ 31 rfl (w.heap.size + 1) 36 ti _ 3 40 Tryd.underlying31 HI.out.1 HI.out.2.1 HI.out.2.2.1 HI.out.2.2.2 rfl (by decide) u5 k xs (by rfl) (by exact own_ext HTO.out EXY) _ 1 1 [.int .i64 dc, .int .u32 dw, .slice ad2 res.length cap2] (by rfl) (by rfl) (three_new (by simp [go_sem]) (by simp [go_sem]) (by simp [go_sem])) (by simp [Value.oneCell']) (by unfold maxLen; omega) (by omega) (by simp [go_sem]; omega) ?_; intro v2 w4 hown2 hgrow2 _ _; have HO2 := Lib.hid hown2; have HG2 := Lib.hid hgrow2; clear hown2 hgrow2))
      go_roundw
      case rel =>
        have hto := HTO.out
        have ha := HA.out
        (try simp only [drew_grew, grew_grew] at ha)
        refine ⟨k + 1, N, R ++ [⟨dc, dw, res⟩], xs ++ [.int .i64 dc, .int .u32 dw, .slice ad2 res.length cap2], by omega, by go_num, rfl, HFD2, Lib.hid (ext_grown (Ext.trans HB.out EXY) HG2.out (fun q hq => by have := (own_block hto hq).1; simp only [World.size_alloc]; omega)), Lib.hid (own_rws (paths.own_grown HG2.out (own_ext (own_swap (B' := ((wr.alloc (.cells #[.int .u8 x.kind, .int .u32 x.a, .int .u32 x.b, .int .u32 x.c] 28)).alloc (.cells #[.int .i64 dc, .int .u32 dw, .slice ad2 res.length cap2] 36))) (by first | (simp [go_sem]; done) | (simp [go_sem]; omega) | omega) ha (by first | (simp [go_sem]; done) | (simp [go_sem]; omega) | omega)) EXY) ?_)), HO2, Lib.hid fun q => ?_⟩
        · intro g hg hq
          have h1 := (own_block hto hg).2
          have h2 := (own_block ha hq).1
          simp [go_sem] at h2
          omega
        · obtain ⟨rfl, rfl, rfl⟩ := HX.out q
          rw [HXS.out q, nilRes_app]
          rfl
      case measure => simp [intOf]; omega
    · obtain rfl : k = A.length := by omega
      obtain ⟨os, d, rfl⟩ := HB.out
      have hfd := HFD.out
      rw [List.take_length, HF0.out] at hfd
      cases hfd
      go_wp2
      refine bodyPost_ret (v := .tuple #[u4, u5, .int .i64 0]) (by simp [results, Tryd.results5, go_sem]) rfl ?_
      exact ⟨_, _, _, rfl, HR, Lib.hid (own_low HTO.out (by omega)), HXS, EXY⟩
theorem fold_index (B : Int → Bool) (c : Cfg) (hp : partOk c = true) (A : List Opn) (hA : OpsFit A) (v : Value) (w : World) (ht : Tab w) (hw : ∀ x : Opn, 1 ≤ x.kind → x.kind ≤ 14 → order.WrAt w x.kind (B x.kind)) (hv : Sl w v A.length (opCells A)) (hn : A.length ≤ 60)
    {N0 : List Rw} {R0 : List ARes} (hf : mdFold B c A [] = (N0, R0)) (hO : ObjCall B c 56 54) :
    Calls Tryd.prog 5 #[c.v, v] w fun e w' => ∃ r t xs, e = .returned (.tuple #[r, t, .int .i64 0]) ∧ Hid (Rws w' r N0) ∧ Hid (w'.ownsRow w.heap.size 36 3 t A.length xs) ∧ Hid ((c.object == 2) = false → xs = nilRes R0) ∧ Ext w w' := by
  obtain ⟨X2, hX2⟩ : ∃ X2, (c.object == 2) = X2 := ⟨_, rfl⟩
  obtain ⟨hof, hm⟩ := hO
  rw [hX2] at hm ⊢
  obtain ⟨ad, cap, rfl, hs⟩ := hv
  have hln := hs.len
  obtain ⟨ti, HI1, HI2, HI3, HI4⟩ := info_parts info_res
  have HI := Lib.hid (And.intro HI1 (And.intro HI2 (And.intro HI3 HI4)))
  have HC := Lib.hid (conf_ok hp)
  have HP := Lib.hid hp
  have HOF := Lib.hid hof
  have HM := Lib.hid @hm
  have HAF := Lib.hid hA
  have HT := Lib.hid ht
  have HS := Lib.hid hs
  have HW := Lib.hid hw
  have HF0 := Lib.hid hf
  have hn2 : ¬ (1024 : Int) < (A.length : Int) := by omega
  clear hA ht hw hof hm hp hX2 hs HI1 HI2 HI3 HI4 hf
  go_enter Tryd.func5, Tryd.ntmps5
  go_wp2_with (first | (go_at_call 11; (with_reducible refine (partCheck_any c _).mono ?_); rintro e w1 ⟨rfl, os1, n1, rfl⟩; rw [HC.out]) | (go_at_call 12; (with_reducible refine (HOF.out _).mono ?_); rintro e w2 ⟨rfl, os2, n2, rfl⟩))
  go_loopw [4, 5, 6, 23] (fun out told er i wr => ∃ (k : Nat) (M : List Rw) (R : List ARes) (xs : List Value), k ≤ A.length ∧ i = .int .i64 k ∧ er = .int .i64 0 ∧ Hid (mdFold B c (A.take k) [] = (M, R)) ∧ Hid (Ext (w.alloc (.cells #[.int .u8 c.object, .int .i64 c.instances, .int .i64 c.threads, .int .u8 c.kind, .int .i64 c.stripes, .int .i64 c.bits, .int .i64 c.cap, .int .i64 c.node, .int .i64 c.batch, .int .i64 c.chunk, .int .u64 c.limit, .int .u64 c.most] 24)) wr) ∧ Hid (Rws wr out M) ∧ Hid (wr.ownsRow (w.heap.size + 1) 36 3 told k xs) ∧ Hid (X2 = false → xs = nilRes R)) (fun _ _ _ i _ => A.length - (intOf i).toNat)
  case atStart => exact ⟨0, [], [], [], Nat.zero_le _, rfl, rfl, Lib.hid rfl, Lib.hid EXY, Lib.hid (Rws.nil _), Lib.hid (own_nil _ _ _ _), Lib.hid fun _ => rfl⟩
  case round =>
    obtain ⟨k, M, R, xs, hk, rfl, rfl, HFD, HB, HR, HTO, HXS⟩ := hrel
    have HE : Hid (Ext w wr) := Lib.hid (Ext.trans EX HB.out)
    have HFM : Hid (RwsFit M) := Lib.hid (fold_state B HP.out HAF.out k HFD.out).2
    have HIS : Hid (mdIs c M = true) := Lib.hid (fold_state B HP.out HAF.out k HFD.out).1
    by_cases hlt : k < A.length
    · obtain ⟨b, f, rfl, hb, hop⟩ := HS.out.op hlt
      obtain ⟨x, hx⟩ : ∃ x, A.getD k zop = x := ⟨_, rfl⟩
      rw [hx] at hop
      have HOX : Hid x.Fits := Lib.hid (by rw [← hx]; exact HAF.out.get k)
      obtain ⟨N, dc, dw, res, de, hZ⟩ : ∃ N dc dw res de, mdDo B c M x = ⟨N, dc, dw, res, de⟩ := ⟨_, _, _, _, _, rfl⟩
      obtain ⟨hde, _, _⟩ := md_is B HP.out HFM.out HOX.out HIS.out hZ
      subst hde
      have HFD2 : Hid (mdFold B c (A.take (k + 1)) [] = (N, R ++ [⟨dc, dw, res⟩])) := Lib.hid (fold_take B c A k hlt HFD.out (by rw [hx]; exact hZ))
      have HZ := Lib.hid hZ
      have HN : Hid (M.length ≤ 900) := Lib.hid (by have := (md_len HFM.out HIS.out).2; omega)
      have hop2 : Holds wr ([(b, f + k * 4, .int .u8 x.kind), (b, f + k * 4 + 1, .int .u32 x.a), (b, f + k * 4 + 2, .int .u32 x.b), (b, f + k * 4 + 3, .int .u32 x.c)]) := Holds.ext (w := w) hop HE.out
      simp only [Holds] at hop2
      obtain ⟨o0, o1, o2, o3⟩ := hop2
      have hcf : Holds wr ([(w.heap.size, 0, .int .u8 c.object), (w.heap.size, 1, .int .i64 c.instances), (w.heap.size, 2, .int .i64 c.threads), (w.heap.size, 3, .int .u8 c.kind), (w.heap.size, 4, .int .i64 c.stripes), (w.heap.size, 5, .int .i64 c.bits), (w.heap.size, 6, .int .i64 c.cap), (w.heap.size, 7, .int .i64 c.node), (w.heap.size, 8, .int .i64 c.batch), (w.heap.size, 9, .int .i64 c.chunk), (w.heap.size, 10, .int .u64 c.limit), (w.heap.size, 11, .int .u64 c.most)]) := Holds.ext (by simp [Holds, go_sem]) HB.out
      simp only [Holds] at hcf
      obtain ⟨c0, c1, c2, c3, c4, c5, c6, c7, c8, c9, c10, c11⟩ := hcf
      have hbw : b < wr.heap.size := by have := HE.out.size; omega
      have hsz : w.heap.size + 1 ≤ wr.heap.size := by have := HB.out.size; simpa [go_sem] using this
      have hszw : w.heap.size < wr.heap.size := by omega
      have i0 : (0 : Int) ≤ (k : Int) := by omega
      have i1 : (k : Int) < (A.length : Int) := by omega
      clear hx hop hZ
      go_wp2_with (first | (go_at_call 54; (with_reducible refine (HM.out _ M x _ HFM.out HOX.out (Tab.ext (Tab.ext HT.out HE.out) EXY) (fun q1 q2 => ((HW.out x q1 q2).ext HE.out).ext EXY) (HR.out.ext EXY) HN.out HZ.out).mono ?_); rintro e w3 ⟨r, ad2, cap2, rfl, HA, HQ, HX, os3, n3, rfl⟩) | (at_builtin; refine wpList_append_own_at _ rfl _ _ 31 rfl (w.heap.size + 1) 36 ti _ 3 40 Tryd.underlying31 HI.out.1 HI.out.2.1 HI.out.2.2.1 HI.out.2.2.2 rfl (by decide) u5 k xs (by rfl) (by exact own_ext HTO.out EXY) _ 1 1 [.int .i64 dc, .int .u32 dw, .slice ad2 res.length cap2] (by rfl) (by rfl) (three_new (by simp [go_sem]) (by simp [go_sem]) (by simp [go_sem])) (by simp [Value.oneCell']) (by unfold maxLen; omega) (by omega) (by simp [go_sem]; omega) ?_; intro v2 w4 hown2 hgrow2 _ _; have HO2 := Lib.hid hown2; have HG2 := Lib.hid hgrow2; clear hown2 hgrow2))
      go_roundw
      case rel =>
        have hto := HTO.out
        have ha := HA.out
        (try simp only [drew_grew, grew_grew] at ha)
        refine ⟨k + 1, N, R ++ [⟨dc, dw, res⟩], xs ++ [.int .i64 dc, .int .u32 dw, .slice ad2 res.length cap2], by omega, by go_num, rfl, HFD2, Lib.hid (ext_grown (Ext.trans HB.out EXY) HG2.out (fun q hq => by have := (own_block hto hq).1; simp only [World.size_alloc]; omega)), Lib.hid (own_rws (paths.own_grown HG2.out (own_ext (own_swap (B' := ((wr.alloc (.cells #[.int .u8 x.kind, .int .u32 x.a, .int .u32 x.b, .int .u32 x.c] 28)).alloc (.cells #[.int .i64 dc, .int .u32 dw, .slice ad2 res.length cap2] 36))) (by first | (simp [go_sem]; done) | (simp [go_sem]; omega) | omega) ha (by first | (simp [go_sem]; done) | (simp [go_sem]; omega) | omega)) EXY) ?_)), HO2, Lib.hid fun q => ?_⟩
        · intro g hg hq
          have h1 := (own_block hto hg).2
          have h2 := (own_block ha hq).1
          simp [go_sem] at h2
          omega
        · obtain ⟨rfl, rfl, rfl⟩ := HX.out q
          rw [HXS.out q, nilRes_app]
          rfl
      case measure => simp [intOf]; omega
    · obtain rfl : k = A.length := by omega
      obtain ⟨os, d, rfl⟩ := HB.out
      have hfd := HFD.out
      rw [List.take_length, HF0.out] at hfd
      cases hfd
      go_wp2
      refine bodyPost_ret (v := .tuple #[u4, u5, .int .i64 0]) (by simp [results, Tryd.results5, go_sem]) rfl ?_
      exact ⟨_, _, _, rfl, HR, Lib.hid (own_low HTO.out (by omega)), HXS, EXY⟩
theorem fold_access (B : Int → Bool) (c : Cfg) (hp : partOk c = true) (A : List Opn) (hA : OpsFit A) (v : Value) (w : World) (ht : Tab w) (hw : ∀ x : Opn, 1 ≤ x.kind → x.kind ≤ 14 → order.WrAt w x.kind (B x.kind)) (hv : Sl w v A.length (opCells A)) (hn : A.length ≤ 60)
    {N0 : List Rw} {R0 : List ARes} (hf : mdFold B c A [] = (N0, R0)) (hO : ObjCall B c 57 66) :
    Calls Tryd.prog 5 #[c.v, v] w fun e w' => ∃ r t xs, e = .returned (.tuple #[r, t, .int .i64 0]) ∧ Hid (Rws w' r N0) ∧ Hid (w'.ownsRow w.heap.size 36 3 t A.length xs) ∧ Hid ((c.object == 2) = false → xs = nilRes R0) ∧ Ext w w' := by
  obtain ⟨X2, hX2⟩ : ∃ X2, (c.object == 2) = X2 := ⟨_, rfl⟩
  obtain ⟨hof, hm⟩ := hO
  rw [hX2] at hm ⊢
  obtain ⟨ad, cap, rfl, hs⟩ := hv
  have hln := hs.len
  obtain ⟨ti, HI1, HI2, HI3, HI4⟩ := info_parts info_res
  have HI := Lib.hid (And.intro HI1 (And.intro HI2 (And.intro HI3 HI4)))
  have HC := Lib.hid (conf_ok hp)
  have HP := Lib.hid hp
  have HOF := Lib.hid hof
  have HM := Lib.hid @hm
  have HAF := Lib.hid hA
  have HT := Lib.hid ht
  have HS := Lib.hid hs
  have HW := Lib.hid hw
  have HF0 := Lib.hid hf
  have hn2 : ¬ (1024 : Int) < (A.length : Int) := by omega
  clear hA ht hw hof hm hp hX2 hs HI1 HI2 HI3 HI4 hf
  go_enter Tryd.func5, Tryd.ntmps5
  go_wp2_with (first | (go_at_call 11; (with_reducible refine (partCheck_any c _).mono ?_); rintro e w1 ⟨rfl, os1, n1, rfl⟩; rw [HC.out]) | (go_at_call 12; (with_reducible refine (HOF.out _).mono ?_); rintro e w2 ⟨rfl, os2, n2, rfl⟩))
  go_loopw [4, 5, 6, 23] (fun out told er i wr => ∃ (k : Nat) (M : List Rw) (R : List ARes) (xs : List Value), k ≤ A.length ∧ i = .int .i64 k ∧ er = .int .i64 0 ∧ Hid (mdFold B c (A.take k) [] = (M, R)) ∧ Hid (Ext (w.alloc (.cells #[.int .u8 c.object, .int .i64 c.instances, .int .i64 c.threads, .int .u8 c.kind, .int .i64 c.stripes, .int .i64 c.bits, .int .i64 c.cap, .int .i64 c.node, .int .i64 c.batch, .int .i64 c.chunk, .int .u64 c.limit, .int .u64 c.most] 24)) wr) ∧ Hid (Rws wr out M) ∧ Hid (wr.ownsRow (w.heap.size + 1) 36 3 told k xs) ∧ Hid (X2 = false → xs = nilRes R)) (fun _ _ _ i _ => A.length - (intOf i).toNat)
  case atStart => exact ⟨0, [], [], [], Nat.zero_le _, rfl, rfl, Lib.hid rfl, Lib.hid EXY, Lib.hid (Rws.nil _), Lib.hid (own_nil _ _ _ _), Lib.hid fun _ => rfl⟩
  case round =>
    obtain ⟨k, M, R, xs, hk, rfl, rfl, HFD, HB, HR, HTO, HXS⟩ := hrel
    have HE : Hid (Ext w wr) := Lib.hid (Ext.trans EX HB.out)
    have HFM : Hid (RwsFit M) := Lib.hid (fold_state B HP.out HAF.out k HFD.out).2
    have HIS : Hid (mdIs c M = true) := Lib.hid (fold_state B HP.out HAF.out k HFD.out).1
    by_cases hlt : k < A.length
    · obtain ⟨b, f, rfl, hb, hop⟩ := HS.out.op hlt
      obtain ⟨x, hx⟩ : ∃ x, A.getD k zop = x := ⟨_, rfl⟩
      rw [hx] at hop
      have HOX : Hid x.Fits := Lib.hid (by rw [← hx]; exact HAF.out.get k)
      obtain ⟨N, dc, dw, res, de, hZ⟩ : ∃ N dc dw res de, mdDo B c M x = ⟨N, dc, dw, res, de⟩ := ⟨_, _, _, _, _, rfl⟩
      obtain ⟨hde, _, _⟩ := md_is B HP.out HFM.out HOX.out HIS.out hZ
      subst hde
      have HFD2 : Hid (mdFold B c (A.take (k + 1)) [] = (N, R ++ [⟨dc, dw, res⟩])) := Lib.hid (fold_take B c A k hlt HFD.out (by rw [hx]; exact hZ))
      have HZ := Lib.hid hZ
      have HN : Hid (M.length ≤ 900) := Lib.hid (by have := (md_len HFM.out HIS.out).2; omega)
      have hop2 : Holds wr ([(b, f + k * 4, .int .u8 x.kind), (b, f + k * 4 + 1, .int .u32 x.a), (b, f + k * 4 + 2, .int .u32 x.b), (b, f + k * 4 + 3, .int .u32 x.c)]) := Holds.ext (w := w) hop HE.out
      simp only [Holds] at hop2
      obtain ⟨o0, o1, o2, o3⟩ := hop2
      have hcf : Holds wr ([(w.heap.size, 0, .int .u8 c.object), (w.heap.size, 1, .int .i64 c.instances), (w.heap.size, 2, .int .i64 c.threads), (w.heap.size, 3, .int .u8 c.kind), (w.heap.size, 4, .int .i64 c.stripes), (w.heap.size, 5, .int .i64 c.bits), (w.heap.size, 6, .int .i64 c.cap), (w.heap.size, 7, .int .i64 c.node), (w.heap.size, 8, .int .i64 c.batch), (w.heap.size, 9, .int .i64 c.chunk), (w.heap.size, 10, .int .u64 c.limit), (w.heap.size, 11, .int .u64 c.most)]) := Holds.ext (by simp [Holds, go_sem]) HB.out
      simp only [Holds] at hcf
      obtain ⟨c0, c1, c2, c3, c4, c5, c6, c7, c8, c9, c10, c11⟩ := hcf
      have hbw : b < wr.heap.size := by have := HE.out.size; omega
      have hsz : w.heap.size + 1 ≤ wr.heap.size := by have := HB.out.size; simpa [go_sem] using this
      have hszw : w.heap.size < wr.heap.size := by omega
      have i0 : (0 : Int) ≤ (k : Int) := by omega
      have i1 : (k : Int) < (A.length : Int) := by omega
      clear hx hop hZ
      go_wp2_with (first | (go_at_call 66; (with_reducible refine (HM.out _ M x _ HFM.out HOX.out (Tab.ext (Tab.ext HT.out HE.out) EXY) (fun q1 q2 => ((HW.out x q1 q2).ext HE.out).ext EXY) (HR.out.ext EXY) HN.out HZ.out).mono ?_); rintro e w3 ⟨r, ad2, cap2, rfl, HA, HQ, HX, os3, n3, rfl⟩) | (at_builtin; refine wpList_append_own_at _ rfl _ _ 31 rfl (w.heap.size + 1) 36 ti _ 3 40 Tryd.underlying31 HI.out.1 HI.out.2.1 HI.out.2.2.1 HI.out.2.2.2 rfl (by decide) u5 k xs (by rfl) (by exact own_ext HTO.out EXY) _ 1 1 [.int .i64 dc, .int .u32 dw, .slice ad2 res.length cap2] (by rfl) (by rfl) (three_new (by simp [go_sem]) (by simp [go_sem]) (by simp [go_sem])) (by simp [Value.oneCell']) (by unfold maxLen; omega) (by omega) (by simp [go_sem]; omega) ?_; intro v2 w4 hown2 hgrow2 _ _; have HO2 := Lib.hid hown2; have HG2 := Lib.hid hgrow2; clear hown2 hgrow2))
      go_roundw
      case rel =>
        have hto := HTO.out
        have ha := HA.out
        (try simp only [drew_grew, grew_grew] at ha)
        refine ⟨k + 1, N, R ++ [⟨dc, dw, res⟩], xs ++ [.int .i64 dc, .int .u32 dw, .slice ad2 res.length cap2], by omega, by go_num, rfl, HFD2, Lib.hid (ext_grown (Ext.trans HB.out EXY) HG2.out (fun q hq => by have := (own_block hto hq).1; simp only [World.size_alloc]; omega)), Lib.hid (own_rws (paths.own_grown HG2.out (own_ext (own_swap (B' := ((wr.alloc (.cells #[.int .u8 x.kind, .int .u32 x.a, .int .u32 x.b, .int .u32 x.c] 28)).alloc (.cells #[.int .i64 dc, .int .u32 dw, .slice ad2 res.length cap2] 36))) (by first | (simp [go_sem]; done) | (simp [go_sem]; omega) | omega) ha (by first | (simp [go_sem]; done) | (simp [go_sem]; omega) | omega)) EXY) ?_)), HO2, Lib.hid fun q => ?_⟩
        · intro g hg hq
          have h1 := (own_block hto hg).2
          have h2 := (own_block ha hq).1
          simp [go_sem] at h2
          omega
        · obtain ⟨rfl, rfl, rfl⟩ := HX.out q
          rw [HXS.out q, nilRes_app]
          rfl
      case measure => simp [intOf]; omega
    · obtain rfl : k = A.length := by omega
      obtain ⟨os, d, rfl⟩ := HB.out
      have hfd := HFD.out
      rw [List.take_length, HF0.out] at hfd
      cases hfd
      go_wp2
      refine bodyPost_ret (v := .tuple #[u4, u5, .int .i64 0]) (by simp [results, Tryd.results5, go_sem]) rfl ?_
      exact ⟨_, _, _, rfl, HR, Lib.hid (own_low HTO.out (by omega)), HXS, EXY⟩
theorem fold_tree (B : Int → Bool) (c : Cfg) (hp : partOk c = true) (A : List Opn) (hA : OpsFit A) (v : Value) (w : World) (ht : Tab w) (hw : ∀ x : Opn, 1 ≤ x.kind → x.kind ≤ 14 → order.WrAt w x.kind (B x.kind)) (hv : Sl w v A.length (opCells A)) (hn : A.length ≤ 60)
    {N0 : List Rw} {R0 : List ARes} (hf : mdFold B c A [] = (N0, R0)) (hO : ObjCall B c 58 78) :
    Calls Tryd.prog 5 #[c.v, v] w fun e w' => ∃ r t xs, e = .returned (.tuple #[r, t, .int .i64 0]) ∧ Hid (Rws w' r N0) ∧ Hid (w'.ownsRow w.heap.size 36 3 t A.length xs) ∧ Hid ((c.object == 2) = false → xs = nilRes R0) ∧ Ext w w' := by
  obtain ⟨X2, hX2⟩ : ∃ X2, (c.object == 2) = X2 := ⟨_, rfl⟩
  obtain ⟨hof, hm⟩ := hO
  rw [hX2] at hm ⊢
  obtain ⟨ad, cap, rfl, hs⟩ := hv
  have hln := hs.len
  obtain ⟨ti, HI1, HI2, HI3, HI4⟩ := info_parts info_res
  have HI := Lib.hid (And.intro HI1 (And.intro HI2 (And.intro HI3 HI4)))
  have HC := Lib.hid (conf_ok hp)
  have HP := Lib.hid hp
  have HOF := Lib.hid hof
  have HM := Lib.hid @hm
  have HAF := Lib.hid hA
  have HT := Lib.hid ht
  have HS := Lib.hid hs
  have HW := Lib.hid hw
  have HF0 := Lib.hid hf
  have hn2 : ¬ (1024 : Int) < (A.length : Int) := by omega
  clear hA ht hw hof hm hp hX2 hs HI1 HI2 HI3 HI4 hf
  go_enter Tryd.func5, Tryd.ntmps5
  go_wp2_with (first | (go_at_call 11; (with_reducible refine (partCheck_any c _).mono ?_); rintro e w1 ⟨rfl, os1, n1, rfl⟩; rw [HC.out]) | (go_at_call 12; (with_reducible refine (HOF.out _).mono ?_); rintro e w2 ⟨rfl, os2, n2, rfl⟩))
  go_loopw [4, 5, 6, 23] (fun out told er i wr => ∃ (k : Nat) (M : List Rw) (R : List ARes) (xs : List Value), k ≤ A.length ∧ i = .int .i64 k ∧ er = .int .i64 0 ∧ Hid (mdFold B c (A.take k) [] = (M, R)) ∧ Hid (Ext (w.alloc (.cells #[.int .u8 c.object, .int .i64 c.instances, .int .i64 c.threads, .int .u8 c.kind, .int .i64 c.stripes, .int .i64 c.bits, .int .i64 c.cap, .int .i64 c.node, .int .i64 c.batch, .int .i64 c.chunk, .int .u64 c.limit, .int .u64 c.most] 24)) wr) ∧ Hid (Rws wr out M) ∧ Hid (wr.ownsRow (w.heap.size + 1) 36 3 told k xs) ∧ Hid (X2 = false → xs = nilRes R)) (fun _ _ _ i _ => A.length - (intOf i).toNat)
  case atStart => exact ⟨0, [], [], [], Nat.zero_le _, rfl, rfl, Lib.hid rfl, Lib.hid EXY, Lib.hid (Rws.nil _), Lib.hid (own_nil _ _ _ _), Lib.hid fun _ => rfl⟩
  case round =>
    obtain ⟨k, M, R, xs, hk, rfl, rfl, HFD, HB, HR, HTO, HXS⟩ := hrel
    have HE : Hid (Ext w wr) := Lib.hid (Ext.trans EX HB.out)
    have HFM : Hid (RwsFit M) := Lib.hid (fold_state B HP.out HAF.out k HFD.out).2
    have HIS : Hid (mdIs c M = true) := Lib.hid (fold_state B HP.out HAF.out k HFD.out).1
    by_cases hlt : k < A.length
    · obtain ⟨b, f, rfl, hb, hop⟩ := HS.out.op hlt
      obtain ⟨x, hx⟩ : ∃ x, A.getD k zop = x := ⟨_, rfl⟩
      rw [hx] at hop
      have HOX : Hid x.Fits := Lib.hid (by rw [← hx]; exact HAF.out.get k)
      obtain ⟨N, dc, dw, res, de, hZ⟩ : ∃ N dc dw res de, mdDo B c M x = ⟨N, dc, dw, res, de⟩ := ⟨_, _, _, _, _, rfl⟩
      obtain ⟨hde, _, _⟩ := md_is B HP.out HFM.out HOX.out HIS.out hZ
      subst hde
      have HFD2 : Hid (mdFold B c (A.take (k + 1)) [] = (N, R ++ [⟨dc, dw, res⟩])) := Lib.hid (fold_take B c A k hlt HFD.out (by rw [hx]; exact hZ))
      have HZ := Lib.hid hZ
      have HN : Hid (M.length ≤ 900) := Lib.hid (by have := (md_len HFM.out HIS.out).2; omega)
      have hop2 : Holds wr ([(b, f + k * 4, .int .u8 x.kind), (b, f + k * 4 + 1, .int .u32 x.a), (b, f + k * 4 + 2, .int .u32 x.b), (b, f + k * 4 + 3, .int .u32 x.c)]) := Holds.ext (w := w) hop HE.out
      simp only [Holds] at hop2
      obtain ⟨o0, o1, o2, o3⟩ := hop2
      have hcf : Holds wr ([(w.heap.size, 0, .int .u8 c.object), (w.heap.size, 1, .int .i64 c.instances), (w.heap.size, 2, .int .i64 c.threads), (w.heap.size, 3, .int .u8 c.kind), (w.heap.size, 4, .int .i64 c.stripes), (w.heap.size, 5, .int .i64 c.bits), (w.heap.size, 6, .int .i64 c.cap), (w.heap.size, 7, .int .i64 c.node), (w.heap.size, 8, .int .i64 c.batch), (w.heap.size, 9, .int .i64 c.chunk), (w.heap.size, 10, .int .u64 c.limit), (w.heap.size, 11, .int .u64 c.most)]) := Holds.ext (by simp [Holds, go_sem]) HB.out
      simp only [Holds] at hcf
      obtain ⟨c0, c1, c2, c3, c4, c5, c6, c7, c8, c9, c10, c11⟩ := hcf
      have hbw : b < wr.heap.size := by have := HE.out.size; omega
      have hsz : w.heap.size + 1 ≤ wr.heap.size := by have := HB.out.size; simpa [go_sem] using this
      have hszw : w.heap.size < wr.heap.size := by omega
      have i0 : (0 : Int) ≤ (k : Int) := by omega
      have i1 : (k : Int) < (A.length : Int) := by omega
      clear hx hop hZ
      go_wp2_with (first | (go_at_call 78; (with_reducible refine (HM.out _ M x _ HFM.out HOX.out (Tab.ext (Tab.ext HT.out HE.out) EXY) (fun q1 q2 => ((HW.out x q1 q2).ext HE.out).ext EXY) (HR.out.ext EXY) HN.out HZ.out).mono ?_); rintro e w3 ⟨r, ad2, cap2, rfl, HA, HQ, HX, os3, n3, rfl⟩) | (at_builtin; refine wpList_append_own_at _ rfl _ _ 31 rfl (w.heap.size + 1) 36 ti _ 3 40 Tryd.underlying31 HI.out.1 HI.out.2.1 HI.out.2.2.1 HI.out.2.2.2 rfl (by decide) u5 k xs (by rfl) (by exact own_ext HTO.out EXY) _ 1 1 [.int .i64 dc, .int .u32 dw, .slice ad2 res.length cap2] (by rfl) (by rfl) (three_new (by simp [go_sem]) (by simp [go_sem]) (by simp [go_sem])) (by simp [Value.oneCell']) (by unfold maxLen; omega) (by omega) (by simp [go_sem]; omega) ?_; intro v2 w4 hown2 hgrow2 _ _; have HO2 := Lib.hid hown2; have HG2 := Lib.hid hgrow2; clear hown2 hgrow2))
      go_roundw
      case rel =>
        have hto := HTO.out
        have ha := HA.out
        (try simp only [drew_grew, grew_grew] at ha)
        refine ⟨k + 1, N, R ++ [⟨dc, dw, res⟩], xs ++ [.int .i64 dc, .int .u32 dw, .slice ad2 res.length cap2], by omega, by go_num, rfl, HFD2, Lib.hid (ext_grown (Ext.trans HB.out EXY) HG2.out (fun q hq => by have := (own_block hto hq).1; simp only [World.size_alloc]; omega)), Lib.hid (own_rws (paths.own_grown HG2.out (own_ext (own_swap (B' := ((wr.alloc (.cells #[.int .u8 x.kind, .int .u32 x.a, .int .u32 x.b, .int .u32 x.c] 28)).alloc (.cells #[.int .i64 dc, .int .u32 dw, .slice ad2 res.length cap2] 36))) (by first | (simp [go_sem]; done) | (simp [go_sem]; omega) | omega) ha (by first | (simp [go_sem]; done) | (simp [go_sem]; omega) | omega)) EXY) ?_)), HO2, Lib.hid fun q => ?_⟩
        · intro g hg hq
          have h1 := (own_block hto hg).2
          have h2 := (own_block ha hq).1
          simp [go_sem] at h2
          omega
        · obtain ⟨rfl, rfl, rfl⟩ := HX.out q
          rw [HXS.out q, nilRes_app]
          rfl
      case measure => simp [intOf]; omega
    · obtain rfl : k = A.length := by omega
      obtain ⟨os, d, rfl⟩ := HB.out
      have hfd := HFD.out
      rw [List.take_length, HF0.out] at hfd
      cases hfd
      go_wp2
      refine bodyPost_ret (v := .tuple #[u4, u5, .int .i64 0]) (by simp [results, Tryd.results5, go_sem]) rfl ?_
      exact ⟨_, _, _, rfl, HR, Lib.hid (own_low HTO.out (by omega)), HXS, EXY⟩
theorem fold_md (B : Int → Bool) (c : Cfg) (hp : partOk c = true) (A : List Opn) (hA : OpsFit A) (v : Value) (w : World) (ht : Tab w) (hw : ∀ x : Opn, 1 ≤ x.kind → x.kind ≤ 14 → order.WrAt w x.kind (B x.kind)) (hv : Sl w v A.length (opCells A)) (hn : A.length ≤ 60)
    {N0 : List Rw} {R0 : List ARes} (hf : mdFold B c A [] = (N0, R0)) :
    Calls Tryd.prog 5 #[c.v, v] w fun e w' => ∃ r t xs, e = .returned (.tuple #[r, t, .int .i64 0]) ∧ Hid (Rws w' r N0) ∧ Hid (w'.ownsRow w.heap.size 36 3 t A.length xs) ∧ Hid ((c.object == 2) = false → xs = nilRes R0) ∧ Ext w w' := by
  rcases md_obj hp with h1 | ⟨h1, h2⟩ | ⟨h1, h2, h3⟩ | ⟨h1, h2, h3, h4⟩
  · exact fold_routes B c hp A hA v w ht hw hv hn hf (obj_1 B h1)
  · exact fold_index B c hp A hA v w ht hw hv hn hf (obj_2 B h1 h2)
  · exact fold_access B c hp A hA v w ht hw hv hn hf (obj_3 B h1 h2 h3)
  · exact fold_tree B c hp A hA v w ht hw hv hn hf (obj_4 B h1 h2 h3)
theorem fold_no (c : Cfg) (hp : partOk c = false) (A : List Opn) (v : Value) (w : World) (hv : Sl w v A.length (opCells A)) :
    Calls Tryd.prog 5 #[c.v, v] w fun e w' => e = .returned (.tuple #[.slice none 0 0, .slice none 0 0, .int .i64 40]) ∧ Ext w w' := by
  have HC := Lib.hid (conf_no hp)
  obtain ⟨ad, cap, rfl, hs⟩ := hv
  clear hp hs
  go_enter Tryd.func5, Tryd.ntmps5
  go_wp2_with (go_at_call 11; (with_reducible refine (partCheck_any c _).mono ?_); rintro e w1 ⟨rfl, os1, n1, rfl⟩; rw [HC.out])
  refine bodyPost_ret (v := .tuple #[.slice none 0 0, .slice none 0 0, .int .i64 40]) (by simp [results, Tryd.results5, go_sem]) rfl ?_
  exact ⟨rfl, EXY⟩
end Go.Proofs.YtknfikdignpniaaDoor
