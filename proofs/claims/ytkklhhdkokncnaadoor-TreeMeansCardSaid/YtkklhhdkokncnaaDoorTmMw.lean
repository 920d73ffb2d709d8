/- The walk of 'TreeMeans'. -/
import Derived.Test.YtkklhhdkokncnaaDoorTmS
import Derived.Test.YtkklhhdkokncnaaDoorOz
import Derived.Test.YtkklhhdkokncnaaDoorRx
import Derived.Deep.RegionHeld3
import Derived.Deep.DeepCutAuto
import Derived.Laws.MakeOwn
namespace Go.Proofs.YtkklhhdkokncnaaDoor
open Go Go.RowKit
set_option maxRecDepth 100000
set_option maxHeartbeats 8000000

theorem is_nil (c : Cfg) (R : Bool) (hR : order.ordIs c [] = R) (w : World) : Calls Tryd.prog 17 #[c.v, .slice none 0 0] w fun e w' => e = .returned (.bool R) ∧ Ext w w' :=
  ordIs_as c _ [] (fun x hx => by cases hx) w (Rws.nil w) R hR
theorem opErr_ten {c : Cfg} {o : Opn} (hp : partOk c = true) (h : (opErr c o == 0) = false) : opErr c o = 50 ∨ opErr c o = 10 := by
  cases h1 : (objOf o.kind == c.object)
  · exact .inl (opErr_op hp h1)
  · cases h2 : fitsB c o
    · exact .inr (opErr_over hp h1 h2)
    · rw [opErr_ok hp h1 h2] at h
      cases h
theorem done_code (c : Cfg) (S : List Rw) (o : Opn) : (order.ordDone c S o).code = 0 ∨ (order.ordDone c S o).code = 6 ∨ (order.ordDone c S o).code = 9 := by
  unfold order.ordDone order.ordRead
  repeat' split
  all_goals simp
theorem done_err (c : Cfg) (S : List Rw) (o : Opn) : (order.ordDone c S o).err = 0 := by
  unfold order.ordDone order.ordRead
  repeat' split
  all_goals rfl
theorem SlAt.keepU0 {w w' : World} {ad : Option Addr} {n cap : Nat} {cs : List Value} (h : SlAt w ad n cap cs) (hu : ∀ u ∈ cs, ∃ x, u = .int .u64 x) (e : KeepU w w') : SlAt w' ad n cap cs := h.keepU hu e (Ext.refl _)
theorem Rws.allocR {w : World} {v : Value} {L : List Rw} (h : Rws w v L) (o : Obj) : Rws (w.alloc o) v L := h.ext (Ext.alloc (Ext.refl _) o)
theorem Rws.drewR {w : World} {v : Value} {L : List Rw} (h : Rws w v L) : Rws w.drew v L := h.ext (Ext.drew (Ext.refl _))
theorem Rws.keepU {w w' : World} {v : Value} {L : List Rw} (h : Rws w v L) (e : KeepU w w') : Rws w' v L := by
  obtain ⟨ad, cap, rfl, hs, h0⟩ := h
  refine ⟨ad, cap, rfl, SlAt.keepU0 hs (fun u hu => ?_) e, h0⟩
  obtain ⟨x, _, hx⟩ := List.mem_flatMap.1 hu
  simp [Rw.cells] at hx
  rcases hx with rfl | rfl <;> exact ⟨_, rfl⟩
theorem sameRes_rows (c v : Int) (s1 s2 : Value) (R : List Rw) (w : World) (h1 : Rws w s1 R) (h2 : Rws w s2 R) : Calls Tryd.prog 27 #[.agg #[.int .i64 c, .int .u32 v, s1], .agg #[.int .i64 c, .int .u32 v, s2]] w
    fun e w' => e = .returned (.bool true) ∧ Ext w w' := by
  have HA := Lib.hid h1
  have HB := Lib.hid h2
  obtain ⟨ad1, cp1, rfl, _, _⟩ := h1
  obtain ⟨ad2, cp2, rfl, _, _⟩ := h2
  have g1 : (c == c) = true := by simp
  have g2 : (v == v) = true := by simp
  go_enter Tryd.func27, Tryd.ntmps27
  go_wp2_with (go_at_call 37; (with_reducible refine (same_refl' _ _ R _ (HA.out.ext EXX) (HB.out.ext EXX)).mono ?_); rintro e w1 ⟨rfl, os1, n1, rfl⟩)
  go_ret
  exact ⟨rfl, EX⟩
theorem sameCells_as (v u : Value) (L : List Cel) (w : World) (hv : Sl w v L.length (celCells L)) (hu : Sl w u L.length (celCells L)) (_hl : L.length ≤ 1000) : Calls Tryd.prog 28 #[v, u] w fun e w' => e = .returned (.bool true) ∧ Ext w w' :=
  sameCells_any v u L w hv hu
theorem treeMeans_walk (c : Cfg) (A : List Opn) (hf : OpsFit A) (v : Value) (w : World) (htw : TabW w) (hv : Sl w v A.length (opCells A)) : Calls Tryd.prog 8 #[c.v, v] w
    fun e w' => e = .returned (.bool true) ∧ Ext w w' := by
  obtain ⟨ad, cap, rfl, hs⟩ := hv
  have hln := hs.len
  have HV := Lib.hid hs
  have HF := Lib.hid hf
  have HT := Lib.hid htw.1
  have HTO : Hid (order.Tab w) := Lib.hid htw
  clear hf htw hs
  obtain ⟨I, hI⟩ : ∃ I, order.ordIs c [] = I := ⟨_, rfl⟩
  have HI := Lib.hid hI
  by_cases hn : (40 : Int) < (A.length : Int)
  · clear hI
    go_enter Tryd.func8, Tryd.ntmps8
    go_wp2_with (first | (go_at_call 15; refine (alive_any _ (Tab.ext HT.out EXX)).mono ?_; rintro e w1 ⟨rfl, os1, n1, rfl⟩) | (go_at_call 17; (with_reducible refine (is_nil c _ HI.out _).mono ?_); rintro e w1 ⟨rfl, os2, n2, rfl⟩))
    go_ret
    exact ⟨rfl, EXX⟩
  cases I
  · clear hI
    go_enter Tryd.func8, Tryd.ntmps8
    go_wp2_with (first | (go_at_call 15; refine (alive_any _ (Tab.ext HT.out EXX)).mono ?_; rintro e w1 ⟨rfl, os1, n1, rfl⟩) | (go_at_call 17; (with_reducible refine (is_nil c _ HI.out _).mono ?_); rintro e w1 ⟨rfl, os2, n2, rfl⟩))
    go_ret
    exact ⟨rfl, EXX⟩
  have hn0 : RwsFit [] := fun x hx => by cases hx
  obtain ⟨hp, h2, _, _, _⟩ := order.ordIs_ok hn0 hI
  have hcOk := treOk_of hp h2
  obtain ⟨wd, N, T, hc⟩ := treN_of hcOk
  obtain ⟨G, hG⟩ : ∃ G : Nat, 1 + sumU wd N (T + 1) = G := ⟨_, rfl⟩
  have hGb : 1 ≤ G ∧ G ≤ 300 := by
    have := sum_small hc
    omega
  have HP := Lib.hid (And.intro hp h2)
  have HC := Lib.hid hc
  have HOK := Lib.hid hcOk
  have HO2 : Hid ((c.object == 2) = true) := Lib.hid (by simp [h2])
  have HGE := Lib.hid hG
  have HG : Hid (treGreat c = (G : Int)) := Lib.hid (by rw [hc.great, hG])
  obtain ⟨i0, hi, hz0, hz1, hz2⟩ := info_parts info_cel
  have hmk : ∀ w : World, (Instr.makeSlice 46 (.int .i64 (G : Int)) (.int .i64 (G : Int))).run Tryd.prog w = .ok (.slice (some ⟨w.heap.size, 0, none⟩) G G) (w.alloc (.cells (madeCells #[.int .u64 0, .int .u64 0, .int .u64 0, .int .u64 0] (G * 4)) 37)) := fun w => by
    have := run_makeSlice (P := Tryd.prog) w 46 37 i0 _ Tryd.underlying46 hi hz0 .i64 .i64 (G : Int) (G : Int) (by omega) (Int.le_refl _) (by rw [hz1]; omega) (by rw [hz2]; omega) (by omega)
    rw [this, hz1, Int.toNat_natCast]
    rfl
  have HI0 := Lib.hid hI
  clear hp h2 hcOk hc hG hi hz0 hz1 hz2 hI
  go_enter Tryd.func8, Tryd.ntmps8
  go_wp2_with (first | (go_at_call 15; refine (alive_any _ (Tab.ext HT.out EXX)).mono ?_; rintro e w1 ⟨rfl, os1, n1, rfl⟩) | (go_at_call 17; (with_reducible refine (is_nil c _ HI.out _).mono ?_); rintro e w1 ⟨rfl, os2, n2, rfl⟩) | (go_at_call 25; (with_reducible refine (greatT_as c HOK.out HO2.out _ G HG.out).mono ?_); rintro e w1 ⟨rfl, os2, n2, rfl⟩))
  go_loopw [6, 7, 8] (fun t6 t7 t8 wr => ∃ (i : Nat) (L : List Cel) (M : List Rw), i ≤ A.length ∧ t8 = .int .i64 i ∧ Hid (LayM wd N T L M) ∧ Hid (order.ordIs c M = true ∧ RwsFit M) ∧ Hid (Sl wr t6 L.length (celCells L)) ∧ Hid (Rws wr t7 M) ∧ Hid (Ext (w.alloc (.cells #[.int .u8 c.object, .int .i64 c.instances, .int .i64 c.threads, .int .u8 c.kind, .int .i64 c.stripes, .int .i64 c.bits, .int .i64 c.cap, .int .i64 c.node, .int .i64 c.batch, .int .i64 c.chunk, .int .u64 c.limit, .int .u64 c.most] 24)) wr)) (fun _ _ t8 _ => A.length - (intOf t8).toNat)
  case atStart =>
    refine ⟨0, List.replicate (1 + sumU wd N (T + 1)) zce, [], Nat.zero_le _, rfl, Lib.hid (z_nil wd N T), Lib.hid ⟨HI0.out, hn0⟩, Lib.hid ⟨_, _, by rw [List.length_replicate, HGE.out], by rw [List.length_replicate, HGE.out]; exact Nat.le_refl _, by unfold maxLen; omega, Or.inr ⟨_, _, rfl, fun j u hu => ?_⟩⟩, Lib.hid (Rws.nil _), Lib.hid EXX⟩
    rw [HGE.out] at hu
    have hj := z_made G j u hu
    simp only [Nat.zero_add]
    simp [go_sem]
    exact hj
  case round =>
    obtain ⟨i, L, M, hi, rfl, HL, HIS0, HS, HR, HX⟩ := hrel
    have HE : Hid (Ext w wr) := Lib.hid (Ext.trans EX HX.out)
    by_cases hlt : i < A.length
    · obtain ⟨b, f, rfl, hb, hop⟩ := HV.out.op hlt
      obtain ⟨x, hx⟩ : ∃ x, A.getD i zop = x := ⟨_, rfl⟩
      rw [hx] at hop
      have HOX : Hid x.Fits := Lib.hid (by rw [← hx]; exact HF.out.get i)
      have HIS := Lib.hid HIS0.out.1
      have HFM := Lib.hid HIS0.out.2
      have hcapM := (order.ordIs_ok HFM.out HIS.out).2.2.1
      have hrs := (order.ordIs_ok HFM.out HIS.out).2.2.2.1
      have hok := (order.ordIs_ok HFM.out HIS.out).2.2.2.2
      have hMN : M.length ≤ N := by have := HC.out.N; omega
      have hN32 := (HC.out.bd).2.1
      have HLN : Hid (M.length ≤ 1000) := Lib.hid (by omega)
      have HLL : Hid (L.length ≤ 1000) := Lib.hid (by rw [HL.out.len, HGE.out]; omega)
      have HLF := Lib.hid (LayM.fit HL.out HFM.out (by omega))
      have hp2 : (partOk c && (c.object == 2)) = true := by rw [HP.out.1, HP.out.2]; rfl
      have HK : Hid (Holds wr ([(w.heap.size, 0, .int .u8 c.object), (w.heap.size, 1, .int .i64 c.instances), (w.heap.size, 2, .int .i64 c.threads), (w.heap.size, 3, .int .u8 c.kind), (w.heap.size, 4, .int .i64 c.stripes), (w.heap.size, 5, .int .i64 c.bits), (w.heap.size, 6, .int .i64 c.cap), (w.heap.size, 7, .int .i64 c.node), (w.heap.size, 8, .int .i64 c.batch), (w.heap.size, 9, .int .i64 c.chunk), (w.heap.size, 10, .int .u64 c.limit), (w.heap.size, 11, .int .u64 c.most)] ++ [(b, f + i * 4, .int .u8 x.kind), (b, f + i * 4 + 1, .int .u32 x.a), (b, f + i * 4 + 2, .int .u32 x.b), (b, f + i * 4 + 3, .int .u32 x.c)])) := Lib.hid (Holds.app (Holds.ext (by simp [Holds, go_sem]) HX.out) (Holds.ext (w := w) hop HE.out))
      have i0' : (0 : Int) ≤ (i : Int) := by omega
      have i1' : (i : Int) < (A.length : Int) := by omega
      cases he : (opErr c x == 0)
      · obtain ⟨dc, hdc⟩ : ∃ dc, opErr c x = dc := ⟨_, rfl⟩
        have hd := opErr_ten HP.out.1 he
        rw [hdc] at hd
        have hZ : order.ordDo c M x = ⟨M, dc, 0, [], 0⟩ := by rw [order.ordDo_bad hp2 HIS.out he, hdc]
        have HZ := Lib.hid hZ
        have HD := Lib.hid hd
        clear hx hop hZ he hdc hd hcapM hrs hok hMN hN32 hp2
        go_upto_region 9 with fail
        go_cut [9, 10, 11] (fun t9 t10 t11 wn => ∃ b10, t10 = .pointer (some ⟨b10, 0, none⟩) ∧ t11 = .int .i64 0 ∧ Hid (Holds wn [(b10, 0, .int .i64 dc)]) ∧ Hid (Ext wr wn))
        case first =>
          go_region_held3 (fun W => W.cell? ⟨w.heap.size, 0, none⟩ = some (.int .u8 c.object) ∧ W.cell? ⟨w.heap.size, 1, none⟩ = some (.int .i64 c.instances) ∧ W.cell? ⟨w.heap.size, 2, none⟩ = some (.int .i64 c.threads) ∧ W.cell? ⟨w.heap.size, 3, none⟩ = some (.int .u8 c.kind) ∧ W.cell? ⟨w.heap.size, 4, none⟩ = some (.int .i64 c.stripes) ∧ W.cell? ⟨w.heap.size, 5, none⟩ = some (.int .i64 c.bits) ∧ W.cell? ⟨w.heap.size, 6, none⟩ = some (.int .i64 c.cap) ∧ W.cell? ⟨w.heap.size, 7, none⟩ = some (.int .i64 c.node) ∧ W.cell? ⟨w.heap.size, 8, none⟩ = some (.int .i64 c.batch) ∧ W.cell? ⟨w.heap.size, 9, none⟩ = some (.int .i64 c.chunk) ∧ W.cell? ⟨w.heap.size, 10, none⟩ = some (.int .u64 c.limit) ∧ W.cell? ⟨w.heap.size, 11, none⟩ = some (.int .u64 c.most) ∧ W.cell? ⟨b, f + i * 4, none⟩ = some (.int .u8 x.kind) ∧ W.cell? ⟨b, f + i * 4 + 1, none⟩ = some (.int .u32 x.a) ∧ W.cell? ⟨b, f + i * 4 + 2, none⟩ = some (.int .u32 x.b) ∧ W.cell? ⟨b, f + i * 4 + 3, none⟩ = some (.int .u32 x.c)) (exact HK.out.ext EX) (first | (go_at_call 26; (with_reducible refine (order.do_own c _ _ HFM.out x HOX.out _ (order.Tab.ext (order.Tab.ext HTO.out HE.out) EXY) (HR.out.ext EXY) HLN.out HZ.out).mono ?_); rintro e w2 ⟨a2, ad2, cap2, rfl, HA2, HQ2, _, os2, n2, rfl⟩))
          all_goals
            go_wp2_with fail
            go_meet
            case rel => exact ⟨_, rfl, rfl, Lib.hid (by simp [Holds, go_sem]), Lib.hid EXY⟩
        case rest =>
          obtain ⟨b10, rfl, rfl, HH, HXX⟩ := hcut
          have q := HH.out
          simp only [Holds] at q
          rcases HD.out with hd | hd
          · have d5 : (dc == 50) = true := by simp [hd]
            have HDD := Lib.hid hd
            clear hd
            go_wp2
            go_roundw
            case rel => exact ⟨i + 1, L, M, by omega, by go_num, HL, HIS0, Lib.hid (HS.out.ext HXX.out), Lib.hid (HR.out.ext HXX.out), Lib.hid (Ext.trans HX.out HXX.out)⟩
            case measure => simp [intOf]; omega
          · have d5 : (dc == 50) = false := by simp [hd]
            have d1 : (dc == 10) = true := by simp [hd]
            have HDD := Lib.hid hd
            clear hd
            go_wp2
            go_roundw
            case rel => exact ⟨i + 1, L, M, by omega, by go_num, HL, HIS0, Lib.hid (HS.out.ext HXX.out), Lib.hid (HR.out.ext HXX.out), Lib.hid (Ext.trans HX.out HXX.out)⟩
            case measure => simp [intOf]; omega
      · have he0 : opErr c x = 0 := by simpa using he
        obtain ⟨L', tl, hrun, hlay, _⟩ := tree_means HC.out HOX.out HP.out.1 HP.out.2 he0 HLF.out HL.out hMN hrs hok
        have hcode := done_code c M x
        have herr := done_err c M x
        have hdo := order.ordDo_ok hp2 HIS.out he
        obtain ⟨M', gc, gw, dr, de, hD⟩ : ∃ M' gc gw dr de, order.ordDone c M x = ⟨M', gc, gw, dr, de⟩ := ⟨_, _, _, _, _, rfl⟩
        rw [hD] at hrun hlay hcode herr hdo
        dsimp only at hrun hlay hcode herr
        subst herr
        have HZ := Lib.hid hdo
        have HRU := Lib.hid hrun
        have HL3 : Hid (LayM wd N T L' M') := Lib.hid hlay
        have his3 := order.ord_is HFM.out HOX.out hdo
        have hfm3 := order.ord_fit HFM.out HOX.out hdo
        have HIS3 := Lib.hid (And.intro his3 hfm3)
        have HFM3 := Lib.hid hfm3
        have hcapM3 := (order.ordIs_ok hfm3 his3).2.2.1
        have HMN3 : Hid (M'.length ≤ N) := Lib.hid (by have := HC.out.N; omega)
        have HLL3 : Hid (L'.length ≤ 1000) := Lib.hid (by rw [hlay.len, HGE.out]; omega)
        have d5 : (gc == 50) = false := by simp; omega
        have d1 : (gc == 10) = false := by simp; omega
        clear hx hop he he0 hcapM hrs hok hMN hN32 hp2 hcode hdo hD hrun hlay his3 hfm3 hcapM3
        go_upto_region 9 with fail
        go_cut [9, 10, 11] (fun t9 t10 t11 wn => ∃ b10, t10 = .pointer (some ⟨b10, 0, none⟩) ∧ t11 = .int .i64 0 ∧ Hid (Rws wn t9 M') ∧ (∃ q10, Hid (Rws wn q10 dr) ∧ Hid (Holds wn [(b10, 0, .int .i64 gc), (b10, 1, .int .u32 gw), (b10, 2, q10)])) ∧ Hid (Ext wr wn))
        case first =>
          go_region_held3 (fun W => W.cell? ⟨w.heap.size, 0, none⟩ = some (.int .u8 c.object) ∧ W.cell? ⟨w.heap.size, 1, none⟩ = some (.int .i64 c.instances) ∧ W.cell? ⟨w.heap.size, 2, none⟩ = some (.int .i64 c.threads) ∧ W.cell? ⟨w.heap.size, 3, none⟩ = some (.int .u8 c.kind) ∧ W.cell? ⟨w.heap.size, 4, none⟩ = some (.int .i64 c.stripes) ∧ W.cell? ⟨w.heap.size, 5, none⟩ = some (.int .i64 c.bits) ∧ W.cell? ⟨w.heap.size, 6, none⟩ = some (.int .i64 c.cap) ∧ W.cell? ⟨w.heap.size, 7, none⟩ = some (.int .i64 c.node) ∧ W.cell? ⟨w.heap.size, 8, none⟩ = some (.int .i64 c.batch) ∧ W.cell? ⟨w.heap.size, 9, none⟩ = some (.int .i64 c.chunk) ∧ W.cell? ⟨w.heap.size, 10, none⟩ = some (.int .u64 c.limit) ∧ W.cell? ⟨w.heap.size, 11, none⟩ = some (.int .u64 c.most) ∧ W.cell? ⟨b, f + i * 4, none⟩ = some (.int .u8 x.kind) ∧ W.cell? ⟨b, f + i * 4 + 1, none⟩ = some (.int .u32 x.a) ∧ W.cell? ⟨b, f + i * 4 + 2, none⟩ = some (.int .u32 x.b) ∧ W.cell? ⟨b, f + i * 4 + 3, none⟩ = some (.int .u32 x.c)) (exact HK.out.ext EX) (first | (go_at_call 26; (with_reducible refine (order.do_own c _ _ HFM.out x HOX.out _ (order.Tab.ext (order.Tab.ext HTO.out HE.out) EXY) (HR.out.ext EXY) HLN.out HZ.out).mono ?_); rintro e w2 ⟨a2, ad2, cap2, rfl, HA2, HQ2, _, os2, n2, rfl⟩))
          all_goals
            have ho2 := HA2.out
            (try simp only [drew_grew] at ho2)
            have hq2 := HQ2.out
            (try simp only [drew_grew] at hq2)
            clear HA2 HQ2
            go_wp2_with fail
            go_meet
            case rel =>
              refine ⟨_, rfl, rfl, ?_, ⟨.slice ad2 dr.length cap2, ?_, Lib.hid (by simp [Holds, go_sem])⟩, Lib.hid EXY⟩
              · (first | (with_reducible refine Lib.hid (own_rws (own_swap ?_ ho2 ?_)) <;> (simp [go_sem]; done)) | (with_reducible refine Lib.hid (own_rws (own_ext ho2 ?_)); exact EXY))
              · (first | (with_reducible refine Lib.hid (own_rws (own_swap ?_ hq2 ?_)) <;> (simp [go_sem]; done)) | (with_reducible refine Lib.hid (own_rws (own_ext hq2 ?_)); exact EXY))
        case rest =>
          obtain ⟨b10, rfl, rfl, HM2, ⟨q10, HQ10, HH2⟩, HXX⟩ := hcut
          have HE2 := Lib.hid (HE.out.trans HXX.out)
          have HX2 := Lib.hid (HX.out.trans HXX.out)
          have HS2 := Lib.hid (HS.out.ext HXX.out)
          have HK2 := Lib.hid (HK.out.ext HXX.out)
          clear HS HR HXX HE HX HK
          have q2 := HH2.out
          simp only [Holds] at q2
          go_upto_region 13 with fail
          go_cut [12, 13, 14, 15] (fun t12 t13 t14 t15 wn => ∃ b13, t13 = .pointer (some ⟨b13, 0, none⟩) ∧ t15 = .bool true ∧ Hid (Sl wn t12 L'.length (celCells L')) ∧ (∃ q13, Hid (Rws wn q13 dr) ∧ Hid (Holds wn [(b13, 0, .int .i64 gc), (b13, 1, .int .u32 gw), (b13, 2, q13)])) ∧ Hid (Ext wc wn))
          case first =>
            clear q2
            go_region_held3 (fun W => W.cell? ⟨w.heap.size, 0, none⟩ = some (.int .u8 c.object) ∧ W.cell? ⟨w.heap.size, 1, none⟩ = some (.int .i64 c.instances) ∧ W.cell? ⟨w.heap.size, 2, none⟩ = some (.int .i64 c.threads) ∧ W.cell? ⟨w.heap.size, 3, none⟩ = some (.int .u8 c.kind) ∧ W.cell? ⟨w.heap.size, 4, none⟩ = some (.int .i64 c.stripes) ∧ W.cell? ⟨w.heap.size, 5, none⟩ = some (.int .i64 c.bits) ∧ W.cell? ⟨w.heap.size, 6, none⟩ = some (.int .i64 c.cap) ∧ W.cell? ⟨w.heap.size, 7, none⟩ = some (.int .i64 c.node) ∧ W.cell? ⟨w.heap.size, 8, none⟩ = some (.int .i64 c.batch) ∧ W.cell? ⟨w.heap.size, 9, none⟩ = some (.int .i64 c.chunk) ∧ W.cell? ⟨w.heap.size, 10, none⟩ = some (.int .u64 c.limit) ∧ W.cell? ⟨w.heap.size, 11, none⟩ = some (.int .u64 c.most) ∧ W.cell? ⟨b, f + i * 4, none⟩ = some (.int .u8 x.kind) ∧ W.cell? ⟨b, f + i * 4 + 1, none⟩ = some (.int .u32 x.a) ∧ W.cell? ⟨b, f + i * 4 + 2, none⟩ = some (.int .u32 x.b) ∧ W.cell? ⟨b, f + i * 4 + 3, none⟩ = some (.int .u32 x.c)) (exact HK2.out.ext EX) (first | (go_at_call 14; (with_reducible refine (done_as c x L _ HRU.out HOX.out HLF.out _ _ (Tab.ext (Tab.ext HT.out HE2.out) EXY) (HS2.out.ext EXY) HLL.out).mono ?_); rintro e w3 ⟨ad3, cap3, va3, r3, ⟨rfl, HS3, HQ3, HR3⟩, os3, n3, rfl⟩; clear HQ3; obtain ⟨adr3, capr3, e9, _⟩ := HR3.out; subst e9))
            all_goals
              have hs3 := HS3.out
              (try simp only [drew_grew] at hs3)
              have hr3 := HR3.out
              (try simp only [drew_grew] at hr3)
              clear HS3 HR3
              go_wp2_with fail
              go_meet
              case rel =>
                refine ⟨_, rfl, rfl, Lib.hid ⟨_, _, rfl, ?_⟩, ⟨.slice adr3 dr.length capr3, Lib.hid ?_, Lib.hid (by simp [Holds, go_sem])⟩, Lib.hid EXY⟩
                · first
                    | ((repeat (first | refine SlAt.allocR ?_ _ | refine SlAt.drewR ?_))
                       refine SlAt.keepU0 hs3 (celCells_u64 _) (KeepU.grew ?_ _ _ _)
                       (repeat (first | exact KeepU.refl _ | refine KeepU.drewL ?_ | refine KeepU.alloc ?_ _ | (refine KeepU.change ?_ (by simp))))
                       done)
                    | exact hs3.ext EXX
                · first
                    | ((repeat (first | refine Rws.allocR ?_ _ | refine Rws.drewR ?_))
                       refine Rws.keepU hr3 (KeepU.grew ?_ _ _ _)
                       (repeat (first | exact KeepU.refl _ | refine KeepU.drewL ?_ | refine KeepU.alloc ?_ _ | (refine KeepU.change ?_ (by simp))))
                       done)
                    | exact hr3.ext EXX
          case rest =>
            obtain ⟨b13, rfl, rfl, HS4, ⟨q13, HR4, HH4⟩, HX4⟩ := hcut
            have HM4 := Lib.hid (HM2.out.ext HX4.out)
            have HQ4 := Lib.hid (HQ10.out.ext HX4.out)
            have q3 := HH2.out.ext HX4.out
            have q4 := HH4.out
            simp only [Holds] at q3 q4
            have z3 := World.block_lt_of_cell? _ _ q3.1
            have z4 := World.block_lt_of_cell? _ _ q4.1
            dsimp only at z3 z4
            have z31 : ∀ n1 : Nat, b10 < wc.heap.size + n1 := by intros; omega
            have z41 : ∀ n1 : Nat, b13 < wc.heap.size + n1 := by intros; omega
            have kc := HX2.out.trans HX4.out
            have kcell := Holds.ext (w := (w.alloc (.cells #[.int .u8 c.object, .int .i64 c.instances, .int .i64 c.threads, .int .u8 c.kind, .int .i64 c.stripes, .int .i64 c.bits, .int .i64 c.cap, .int .i64 c.node, .int .i64 c.batch, .int .i64 c.chunk, .int .u64 c.limit, .int .u64 c.most] 24))) (l := [(w.heap.size, 0, .int .u8 c.object), (w.heap.size, 1, .int .i64 c.instances), (w.heap.size, 2, .int .i64 c.threads), (w.heap.size, 3, .int .u8 c.kind), (w.heap.size, 4, .int .i64 c.stripes), (w.heap.size, 5, .int .i64 c.bits), (w.heap.size, 6, .int .i64 c.cap), (w.heap.size, 7, .int .i64 c.node), (w.heap.size, 8, .int .i64 c.batch), (w.heap.size, 9, .int .i64 c.chunk), (w.heap.size, 10, .int .u64 c.limit), (w.heap.size, 11, .int .u64 c.most)]) (by simp [Holds, go_sem]) kc
            simp only [Holds] at kcell
            have zw : w.heap.size < wc.heap.size := World.block_lt_of_cell? _ ⟨w.heap.size, 0, none⟩ kcell.1
            have zw1 : ∀ n1 : Nat, w.heap.size < wc.heap.size + n1 := by intros; omega
            clear q2 HH2 HH4 HM2 HS2 HQ10 kc
            go_wp2_with (first | (go_at_call 18; (with_reducible refine (laid_as HC.out HO2.out _ M' HFM3.out _ ?_ HMN3.out L' HL3.out).mono ?_); (exact HM4.out.ext EXY); rintro e w6 ⟨ad6, cap6, rfl, HS6, os6, n6, rfl⟩; have hs6 := HS6.out; (try simp only [grew_grew] at hs6); clear HS6; have HS6 := Lib.hid hs6; clear hs6) | (go_at_call 27; (with_reducible refine (sameRes_rows gc gw _ _ dr _ ?_ ?_).mono ?_); (exact HR4.out.ext EXY); (exact HQ4.out.ext EXY); rintro e w8 ⟨rfl, os8, n8, rfl⟩) | (go_at_call 28; (with_reducible refine (sameCells_as _ _ L' _ ?_ ?_ HLL3.out).mono ?_); (exact HS4.out.ext EXY); (exact ⟨_, _, rfl, HS6.out.ext EXY⟩); rintro e w7 ⟨rfl, os7, n7, rfl⟩))
            go_roundw
            case rel => exact ⟨i + 1, L', M', by omega, by go_num, HL3, HIS3, Lib.hid (HS4.out.ext EXY), Lib.hid (HM4.out.ext EXY), Lib.hid (HX2.out.trans (HX4.out.trans EXY))⟩
            case measure => simp [intOf]; omega
    · obtain rfl : i = A.length := by omega
      go_wp2
      go_ret
      exact ⟨rfl, HE.out.trans EXX⟩
end Go.Proofs.YtkklhhdkokncnaaDoor
