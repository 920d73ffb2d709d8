/- The walk of 'BranchMeans'. -/
import Derived.Test.YtmbodooikfmegaaDoorBrMr
import Derived.Test.YtmbodooikfmegaaDoorBrE
import Derived.Test.YtmbodooikfmegaaDoorPatZ
import Derived.Test.YtmbodooikfmegaaDoorLawP
import Derived.Test.YtmbodooikfmegaaDoorRx
import Derived.Deep.RegionHeld3
import Derived.Deep.DeepCutAuto
import Derived.Laws.MakeOwn
namespace Go.Proofs.YtmbodooikfmegaaDoor
open Go Go.RowKit paths
set_option maxRecDepth 100000
set_option maxHeartbeats 8000000

theorem is_nil (c : Cfg) (R : Bool) (hR : pathIs c [] = R) (w : World) : Calls Tryd.prog 18 #[c.v, .slice none 0 0] w fun e w' => e = .returned (.bool R) ∧ Ext w w' :=
  paths.is_as c _ [] (fun x hx => by cases hx) w (Rws.nil w) R hR
theorem zero_in {N : Nat} : ∀ x ∈ List.replicate N zc, x = zc := fun _ hx => List.eq_of_mem_replicate hx
theorem zero_cells (N : Nat) : celCells (List.replicate N zc) = List.replicate (N * 4) (.int .u64 0) := by
  induction N with
  | zero => rfl
  | succ N ih =>
    rw [List.replicate_succ, celCells_cons, ih, show (N + 1) * 4 = N * 4 + 1 + 1 + 1 + 1 by omega]
    rfl
theorem zero_made (N : Nat) (j : Nat) (u : Value) (h : (celCells (List.replicate N zc))[j]? = some u) : (madeCells #[.int .u64 0, .int .u64 0, .int .u64 0, .int .u64 0] (N * 4))[j]? = some u := by
  rw [zero_cells, List.getElem?_replicate] at h
  split at h
  · rename_i hj
    have hu : u = .int .u64 0 := by simpa using h.symm
    subst hu
    have hm : j % 4 < 4 := Nat.mod_lt _ (by decide)
    unfold madeCells
    rw [Array.getElem?_map, Array.getElem?_range, if_pos hj]
    obtain q | q | q | q : j % 4 = 0 ∨ j % 4 = 1 ∨ j % 4 = 2 ∨ j % 4 = 3 := by omega
    all_goals simp [q]
  · cases h
theorem zero_getD (N k : Nat) : cl (List.replicate N zc) k = zc := by
  unfold cl
  rw [List.getD_eq_getElem?_getD, List.getElem?_replicate]
  split <;> rfl
theorem zero_tree (N : Nat) : BrTr (List.replicate N zc) (fun _ => 0) [] := by
  have h0 : ∀ i, ¬ (cl (List.replicate N zc) i).a ≠ 0 := fun i h => h (by rw [zero_getD])
  refine ⟨fun x hx => by rw [zero_in x hx]; exact ⟨by simp, by simp, by simp, by simp⟩, fun i h => absurd h (h0 i), fun i h => absurd h (h0 i), fun i h => by rw [zero_getD] at h; simp at h, fun i h => absurd h (h0 i), fun i _ h => absurd h (h0 i), fun i h => absurd h (h0 i), List.Pairwise.nil, fun k v => ⟨(fun h => by cases h), ?_⟩⟩
  rintro ⟨i, h, _⟩
  exact absurd h (h0 i)
theorem opErr_ten {c : Cfg} {o : Opn} (hp : partOk c = true) (h : (opErr c o == 0) = false) : opErr c o = 50 ∨ opErr c o = 10 := by
  cases h1 : (objOf o.kind == c.object)
  · exact .inl (opErr_op hp h1)
  · cases h2 : fitsB c o
    · exact .inr (opErr_over hp h1 h2)
    · rw [opErr_ok hp h1 h2] at h
      cases h
theorem done_code (c : Cfg) (S : List Rw) (o : Opn) : (pathDone c S o).code = 0 ∨ (pathDone c S o).code = 6 ∨ (pathDone c S o).code = 9 ∨ (pathDone c S o).code = 90 := by
  unfold pathDone
  repeat' split
  all_goals simp
theorem done_err (c : Cfg) (S : List Rw) (o : Opn) : (pathDone c S o).err = 0 := by
  unfold pathDone
  repeat' split
  all_goals rfl
theorem branchMeans_walk (c : Cfg) (A : List Opn) (hf : OpsFit A) (v : Value) (w : World) (ht : Tab w) (hv : Sl w v A.length (opCells A)) : Calls Tryd.prog 8 #[c.v, v] w
    fun e w' => e = .returned (.bool true) ∧ Ext w w' := by
  obtain ⟨ad, cap, rfl, hs⟩ := hv
  have hln := hs.len
  have HV := Lib.hid hs
  have HF := Lib.hid hf
  have HT := Lib.hid ht
  clear hf ht hs
  obtain ⟨I, hI⟩ : ∃ I, pathIs c [] = I := ⟨_, rfl⟩
  have HI := Lib.hid hI
  by_cases hn : (40 : Int) < (A.length : Int)
  · clear hI
    go_enter Tryd.func8, Tryd.ntmps8
    go_wp2_with (first | (go_at_call 14; refine (alive_any _ (Tab.ext HT.out EXX)).mono ?_; rintro e w1 ⟨rfl, os1, n1, rfl⟩) | (go_at_call 18; (with_reducible refine (is_nil c _ HI.out _).mono ?_); rintro e w1 ⟨rfl, os2, n2, rfl⟩))
    go_ret
    exact ⟨rfl, EXX⟩
  cases I
  · clear hI
    go_enter Tryd.func8, Tryd.ntmps8
    go_wp2_with (first | (go_at_call 14; refine (alive_any _ (Tab.ext HT.out EXX)).mono ?_; rintro e w1 ⟨rfl, os1, n1, rfl⟩) | (go_at_call 18; (with_reducible refine (is_nil c _ HI.out _).mono ?_); rintro e w1 ⟨rfl, os2, n2, rfl⟩))
    go_ret
    exact ⟨rfl, EXX⟩
  have hn0 : RwsFit [] := fun x hx => by cases hx
  obtain ⟨hp, h4, _, _, _⟩ := pathIs_ok hn0 hI
  have hcap := partOk_cap hp
  obtain ⟨N, hN⟩ : ∃ N : Nat, c.cap = N := ⟨c.cap.toNat, by omega⟩
  have hNb : 1 ≤ N ∧ N ≤ 32 := by omega
  have HP := Lib.hid (And.intro hp h4)
  have HN := Lib.hid hN
  obtain ⟨i0, hi, hz0, hz1, hz2⟩ := info_parts info_cel
  have hmk : ∀ w : World, (Instr.makeSlice 45 (.int .i64 c.cap) (.int .i64 c.cap)).run Tryd.prog w = .ok (.slice (some ⟨w.heap.size, 0, none⟩) N N) (w.alloc (.cells (madeCells #[.int .u64 0, .int .u64 0, .int .u64 0, .int .u64 0] (N * 4)) 37)) := fun w => by
    have := run_makeSlice (P := Tryd.prog) w 45 37 i0 _ Tryd.underlying45 hi hz0 .i64 .i64 c.cap c.cap (by omega) (Int.le_refl _) (by rw [hz1]; omega) (by rw [hz2]; omega) (by omega)
    rw [this, hz1, hN, Int.toNat_natCast]
    rfl
  have HI0 := Lib.hid hI
  clear hp h4 hcap hN hi hz0 hz1 hz2 hI
  go_enter Tryd.func8, Tryd.ntmps8
  go_wp2_with (first | (go_at_call 14; refine (alive_any _ (Tab.ext HT.out EXX)).mono ?_; rintro e w1 ⟨rfl, os1, n1, rfl⟩) | (go_at_call 18; (with_reducible refine (is_nil c _ HI.out _).mono ?_); rintro e w1 ⟨rfl, os2, n2, rfl⟩))
  go_loopw [6, 7, 8] (fun t6 t7 t8 wr => ∃ (i : Nat) (L : List Cel) (K : Nat → Int) (M : List Rw), i ≤ A.length ∧ t8 = .int .i64 i ∧ L.length = N ∧ Hid (BrTr L K M) ∧ Hid (pathIs c M = true ∧ RwsFit M) ∧ Hid (Sl wr t6 L.length (celCells L)) ∧ Hid (Rws wr t7 M) ∧ Hid (Ext (w.alloc (.cells #[.int .u8 c.object, .int .i64 c.instances, .int .i64 c.threads, .int .u8 c.kind, .int .i64 c.stripes, .int .i64 c.bits, .int .i64 c.cap, .int .i64 c.node, .int .i64 c.batch, .int .i64 c.chunk, .int .u64 c.limit, .int .u64 c.most] 24)) wr)) (fun _ _ t8 _ => A.length - (intOf t8).toNat)
  case atStart =>
    refine ⟨0, List.replicate N zc, fun _ => 0, [], Nat.zero_le _, rfl, List.length_replicate, Lib.hid (zero_tree N), Lib.hid ⟨HI0.out, hn0⟩, Lib.hid ⟨_, _, by rw [List.length_replicate], by rw [List.length_replicate]; exact Nat.le_refl _, by unfold maxLen; omega, Or.inr ⟨_, _, rfl, fun j u hu => ?_⟩⟩, Lib.hid (Rws.nil _), Lib.hid EXX⟩
    have hj := zero_made N j u hu
    simp only [Nat.zero_add]
    simp [go_sem]
    exact hj
  case round =>
    obtain ⟨i, L, K, M, hi, rfl, hlenN, HL, HIS0, HS, HR, HX⟩ := hrel
    have HE : Hid (Ext w wr) := Lib.hid (Ext.trans EX HX.out)
    by_cases hlt : i < A.length
    · obtain ⟨b, f, rfl, hb, hop⟩ := HV.out.op hlt
      obtain ⟨x, hx⟩ : ∃ x, A.getD i zop = x := ⟨_, rfl⟩
      rw [hx] at hop
      have HOX : Hid x.Fits := Lib.hid (by rw [← hx]; exact HF.out.get i)
      have HIS := Lib.hid HIS0.out.1
      have HFM := Lib.hid HIS0.out.2
      have HLN : Hid (M.length ≤ 800) := Lib.hid (by have := HL.out.len; omega)
      have HLL : Hid (L.length ≤ 1000) := Lib.hid (by omega)
      have HLF := Lib.hid HL.out.fit
      have hp2 : (partOk c && (c.object == 4)) = true := by rw [HP.out.1, HP.out.2]; rfl
      have HK : Hid (Holds wr ([(w.heap.size, 0, .int .u8 c.object), (w.heap.size, 1, .int .i64 c.instances), (w.heap.size, 2, .int .i64 c.threads), (w.heap.size, 3, .int .u8 c.kind), (w.heap.size, 4, .int .i64 c.stripes), (w.heap.size, 5, .int .i64 c.bits), (w.heap.size, 6, .int .i64 c.cap), (w.heap.size, 7, .int .i64 c.node), (w.heap.size, 8, .int .i64 c.batch), (w.heap.size, 9, .int .i64 c.chunk), (w.heap.size, 10, .int .u64 c.limit), (w.heap.size, 11, .int .u64 c.most)] ++ [(b, f + i * 4, .int .u8 x.kind), (b, f + i * 4 + 1, .int .u32 x.a), (b, f + i * 4 + 2, .int .u32 x.b), (b, f + i * 4 + 3, .int .u32 x.c)])) := Lib.hid (Holds.app (Holds.ext (by simp [Holds, go_sem]) HX.out) (Holds.ext (w := w) hop HE.out))
      have i0' : (0 : Int) ≤ (i : Int) := by omega
      have i1' : (i : Int) < (A.length : Int) := by omega
      have HLE := Lib.hid hlenN
      clear hlenN
      cases he : (opErr c x == 0)
      · obtain ⟨dc, hdc⟩ : ∃ dc, opErr c x = dc := ⟨_, rfl⟩
        have hd := opErr_ten HP.out.1 he
        rw [hdc] at hd
        have hZ : pathDo c M x = ⟨M, dc, 0, 0⟩ := by rw [pathDo_bad hp2 HIS.out he, hdc]
        have HZ := Lib.hid hZ
        have HD := Lib.hid hd
        clear hx hop hZ he hdc hd hp2
        go_upto_region 9 with fail
        go_cut [9, 10, 11] (fun t9 t10 t11 wn => ∃ b10, t10 = .pointer (some ⟨b10, 0, none⟩) ∧ t11 = .int .i64 0 ∧ Hid (Holds wn [(b10, 0, .int .i64 dc)]) ∧ Hid (Ext wr wn))
        case first =>
          go_region_held3 (fun W => W.cell? ⟨w.heap.size, 0, none⟩ = some (.int .u8 c.object) ∧ W.cell? ⟨w.heap.size, 1, none⟩ = some (.int .i64 c.instances) ∧ W.cell? ⟨w.heap.size, 2, none⟩ = some (.int .i64 c.threads) ∧ W.cell? ⟨w.heap.size, 3, none⟩ = some (.int .u8 c.kind) ∧ W.cell? ⟨w.heap.size, 4, none⟩ = some (.int .i64 c.stripes) ∧ W.cell? ⟨w.heap.size, 5, none⟩ = some (.int .i64 c.bits) ∧ W.cell? ⟨w.heap.size, 6, none⟩ = some (.int .i64 c.cap) ∧ W.cell? ⟨w.heap.size, 7, none⟩ = some (.int .i64 c.node) ∧ W.cell? ⟨w.heap.size, 8, none⟩ = some (.int .i64 c.batch) ∧ W.cell? ⟨w.heap.size, 9, none⟩ = some (.int .i64 c.chunk) ∧ W.cell? ⟨w.heap.size, 10, none⟩ = some (.int .u64 c.limit) ∧ W.cell? ⟨w.heap.size, 11, none⟩ = some (.int .u64 c.most) ∧ W.cell? ⟨b, f + i * 4, none⟩ = some (.int .u8 x.kind) ∧ W.cell? ⟨b, f + i * 4 + 1, none⟩ = some (.int .u32 x.a) ∧ W.cell? ⟨b, f + i * 4 + 2, none⟩ = some (.int .u32 x.b) ∧ W.cell? ⟨b, f + i * 4 + 3, none⟩ = some (.int .u32 x.c)) (exact HK.out.ext EX) (first | (go_at_call 19; (with_reducible refine (paths.do_own c _ _ HFM.out x HOX.out _ (Tab.ext (Tab.ext HT.out HE.out) EXY) (HR.out.ext EXY) HLN.out HZ.out).mono ?_); rintro e w2 ⟨a2, rfl, HA2, os2, n2, rfl⟩))
          all_goals
            go_wp2_with fail
            go_meet
            case rel => exact ⟨_, rfl, rfl, Lib.hid (by simp [Holds, go_sem]), Lib.hid EXY⟩
        case rest =>
          obtain ⟨b10, rfl, rfl, HH, HXX⟩ := hcut
          have q := HH.out
          simp only [Holds] at q
          rcases HD.out with hd | hd
          · have d5 : (dc == 50) = true := by simp [hd]
            have HDD := Lib.hid hd
            clear hd
            go_wp2
            go_roundw
            case rel => exact ⟨i + 1, L, K, M, by omega, by go_num, HLE.out, HL, HIS0, Lib.hid (HS.out.ext HXX.out), Lib.hid (HR.out.ext HXX.out), Lib.hid (Ext.trans HX.out HXX.out)⟩
            case measure => simp [intOf]; omega
          · have d5 : (dc == 50) = false := by simp [hd]
            have d1 : (dc == 10) = true := by simp [hd]
            have HDD := Lib.hid hd
            clear hd
            go_wp2
            go_roundw
            case rel => exact ⟨i + 1, L, K, M, by omega, by go_num, HLE.out, HL, HIS0, Lib.hid (HS.out.ext HXX.out), Lib.hid (HR.out.ext HXX.out), Lib.hid (Ext.trans HX.out HXX.out)⟩
            case measure => simp [intOf]; omega
      · have he0 : opErr c x = 0 := by simpa using he
        obtain ⟨g1, g2, g3, g5, K', g4⟩ := br_means HOX.out HP.out.1 HP.out.2 he0 (by rw [HN.out, HLE.out]) HL.out
        have hcode := done_code c M x
        have herr := done_err c M x
        have hdo := pathDo_ok hp2 HIS.out he
        obtain ⟨M', dc, dw, de, hD⟩ : ∃ M' dc dw de, pathDone c M x = ⟨M', dc, dw, de⟩ := ⟨_, _, _, _, rfl⟩
        obtain ⟨L', gc, gw, gt, gk, hG⟩ : ∃ L' gc gw gt gk, brRun c 200 (startF x) L [] = ⟨L', gc, gw, gt, gk⟩ := ⟨_, _, _, _, _, rfl⟩
        rw [hD] at g2 g3 g4 hcode herr hdo
        rw [hG] at g1 g2 g3 g4 g5
        dsimp only at g1 g2 g3 g4 g5 hcode herr
        subst g1 g2 g3 herr
        have HZ := Lib.hid hdo
        have HG := Lib.hid hG
        have HL3 := Lib.hid g4
        have HIS3 := Lib.hid (path_is HFM.out HOX.out hdo)
        have hl3 : L'.length = N := by rw [g5, HLE.out]
        have HLE3 := Lib.hid hl3
        have HLL3 : Hid (L'.length ≤ 1000) := Lib.hid (by omega)
        have d5 : (gc == 50) = false := by simp; omega
        have d1 : (gc == 10) = false := by simp; omega
        clear hx hop he he0 hp2 hcode hdo hD hG g4 g5 hl3
        go_upto_region 9 with fail
        go_cut [9, 10, 11] (fun t9 t10 t11 wn => ∃ b10, t10 = .pointer (some ⟨b10, 0, none⟩) ∧ t11 = .int .i64 0 ∧ Hid (Rws wn t9 M') ∧ Hid (Holds wn [(b10, 0, .int .i64 gc), (b10, 1, .int .u32 gw), (b10, 2, .slice none 0 0)]) ∧ Hid (Ext wr wn))
        case first =>
          go_region_held3 (fun W => W.cell? ⟨w.heap.size, 0, none⟩ = some (.int .u8 c.object) ∧ W.cell? ⟨w.heap.size, 1, none⟩ = some (.int .i64 c.instances) ∧ W.cell? ⟨w.heap.size, 2, none⟩ = some (.int .i64 c.threads) ∧ W.cell? ⟨w.heap.size, 3, none⟩ = some (.int .u8 c.kind) ∧ W.cell? ⟨w.heap.size, 4, none⟩ = some (.int .i64 c.stripes) ∧ W.cell? ⟨w.heap.size, 5, none⟩ = some (.int .i64 c.bits) ∧ W.cell? ⟨w.heap.size, 6, none⟩ = some (.int .i64 c.cap) ∧ W.cell? ⟨w.heap.size, 7, none⟩ = some (.int .i64 c.node) ∧ W.cell? ⟨w.heap.size, 8, none⟩ = some (.int .i64 c.batch) ∧ W.cell? ⟨w.heap.size, 9, none⟩ = some (.int .i64 c.chunk) ∧ W.cell? ⟨w.heap.size, 10, none⟩ = some (.int .u64 c.limit) ∧ W.cell? ⟨w.heap.size, 11, none⟩ = some (.int .u64 c.most) ∧ W.cell? ⟨b, f + i * 4, none⟩ = some (.int .u8 x.kind) ∧ W.cell? ⟨b, f + i * 4 + 1, none⟩ = some (.int .u32 x.a) ∧ W.cell? ⟨b, f + i * 4 + 2, none⟩ = some (.int .u32 x.b) ∧ W.cell? ⟨b, f + i * 4 + 3, none⟩ = some (.int .u32 x.c)) (exact HK.out.ext EX) (first | (go_at_call 19; (with_reducible refine (paths.do_own c _ _ HFM.out x HOX.out _ (Tab.ext (Tab.ext HT.out HE.out) EXY) (HR.out.ext EXY) HLN.out HZ.out).mono ?_); rintro e w2 ⟨a2, rfl, HA2, os2, n2, rfl⟩))
          all_goals
            have ho2 := HA2.out
            (try simp only [drew_grew] at ho2)
            clear HA2
            go_wp2_with fail
            go_meet
            case rel =>
              refine ⟨_, rfl, rfl, ?_, Lib.hid (by simp [Holds, go_sem]), Lib.hid EXY⟩
              (first | (with_reducible refine Lib.hid (own_rws (own_swap ?_ ho2 ?_)) <;> (simp [go_sem]; done)) | (with_reducible refine Lib.hid (own_rws (own_ext ho2 ?_)); exact EXY))
        case rest =>
          obtain ⟨b10, rfl, rfl, HM2, HH2, HXX⟩ := hcut
          have HE2 := Lib.hid (HE.out.trans HXX.out)
          have HX2 := Lib.hid (HX.out.trans HXX.out)
          have HS2 := Lib.hid (HS.out.ext HXX.out)
          have HK2 := Lib.hid (HK.out.ext HXX.out)
          clear HS HR HXX HE HX HK
          have q2 := HH2.out
          simp only [Holds] at q2
          go_upto_region 13 with fail
          go_cut [12, 13, 14, 15] (fun t12 t13 t14 t15 wn => ∃ b13, t13 = .pointer (some ⟨b13, 0, none⟩) ∧ t15 = .bool true ∧ Hid (Sl wn t12 L'.length (celCells L')) ∧ Hid (Holds wn [(b13, 0, .int .i64 gc), (b13, 1, .int .u32 gw), (b13, 2, .slice none 0 0)]) ∧ Hid (Ext wc wn))
          case first =>
            clear q2
            go_region_held3 (fun W => W.cell? ⟨w.heap.size, 0, none⟩ = some (.int .u8 c.object) ∧ W.cell? ⟨w.heap.size, 1, none⟩ = some (.int .i64 c.instances) ∧ W.cell? ⟨w.heap.size, 2, none⟩ = some (.int .i64 c.threads) ∧ W.cell? ⟨w.heap.size, 3, none⟩ = some (.int .u8 c.kind) ∧ W.cell? ⟨w.heap.size, 4, none⟩ = some (.int .i64 c.stripes) ∧ W.cell? ⟨w.heap.size, 5, none⟩ = some (.int .i64 c.bits) ∧ W.cell? ⟨w.heap.size, 6, none⟩ = some (.int .i64 c.cap) ∧ W.cell? ⟨w.heap.size, 7, none⟩ = some (.int .i64 c.node) ∧ W.cell? ⟨w.heap.size, 8, none⟩ = some (.int .i64 c.batch) ∧ W.cell? ⟨w.heap.size, 9, none⟩ = some (.int .i64 c.chunk) ∧ W.cell? ⟨w.heap.size, 10, none⟩ = some (.int .u64 c.limit) ∧ W.cell? ⟨w.heap.size, 11, none⟩ = some (.int .u64 c.most) ∧ W.cell? ⟨b, f + i * 4, none⟩ = some (.int .u8 x.kind) ∧ W.cell? ⟨b, f + i * 4 + 1, none⟩ = some (.int .u32 x.a) ∧ W.cell? ⟨b, f + i * 4 + 2, none⟩ = some (.int .u32 x.b) ∧ W.cell? ⟨b, f + i * 4 + 3, none⟩ = some (.int .u32 x.c)) (exact HK2.out.ext EX) (first | (go_at_call 16; (with_reducible refine (done_as c x L _ HG.out HOX.out HLF.out _ _ (Tab.ext (Tab.ext HT.out HE2.out) EXY) (HS2.out.ext EXY) HLL.out).mono ?_); rintro e w3 ⟨ad3, cap3, va3, ⟨rfl, HS3, HQ3⟩, os3, n3, rfl⟩; clear HQ3))
            all_goals
              go_wp2_with fail
              go_meet
              case rel =>
                refine ⟨_, rfl, rfl, Lib.hid ⟨_, _, rfl, ?_⟩, Lib.hid (by simp [Holds, go_sem]), Lib.hid EXY⟩
                first
                  | ((repeat (first | refine SlAt.allocR ?_ _ | refine SlAt.drewR ?_))
                     refine SlAt.keepU0 HS3.out (celCells_u64 _) (KeepU.grew ?_ _ _ _)
                     (repeat (first | exact KeepU.refl _ | refine KeepU.drewL ?_ | refine KeepU.alloc ?_ _ | (refine KeepU.change ?_ (by simp))))
                     done)
                  | exact HS3.out.ext EXX
          case rest =>
            obtain ⟨b13, rfl, rfl, HS4, HH4, HX4⟩ := hcut
            have HM4 := Lib.hid (HM2.out.ext HX4.out)
            have q3 := HH2.out.ext HX4.out
            have q4 := HH4.out
            simp only [Holds] at q3 q4
            have z3 := World.block_lt_of_cell? _ _ q3.1
            have z4 := World.block_lt_of_cell? _ _ q4.1
            dsimp only at z3 z4
            have z31 : ∀ n1 : Nat, b10 < wc.heap.size + n1 := by intros; omega
            have z41 : ∀ n1 : Nat, b13 < wc.heap.size + n1 := by intros; omega
            clear q2 HH2 HH4 HM2 HS2
            go_wp2_with (first | (go_at_call 20; (with_reducible refine (rows_any _ L' K' M' HL3.out _ (HS4.out.ext EXY) HLL3.out).mono ?_); rintro e w6 ⟨r6, rfl, HR6, os6, n6, rfl⟩; have hr6 := HR6.out; (try simp only [grew_grew] at hr6); clear HR6; have HR6 := Lib.hid hr6; clear hr6) | (go_at_call 21; (with_reducible refine (sameRes_refl gc gw _).mono ?_); rintro e w8 ⟨rfl, os8, n8, rfl⟩) | (go_at_call 22; (with_reducible refine (same_refl' _ _ M' _ ?h1 ?h2).mono ?h3); (case h1 => exact HR6.out.ext EXY); (case h2 => exact HM4.out.ext EXY); rintro e w7 ⟨rfl, os7, n7, rfl⟩))
            go_roundw
            case rel => exact ⟨i + 1, L', K', M', by omega, by go_num, HLE3.out, HL3, HIS3, Lib.hid (HS4.out.ext EXY), Lib.hid (HM4.out.ext EXY), Lib.hid (HX2.out.trans (HX4.out.trans EXY))⟩
            case measure => simp [intOf]; omega
    · obtain rfl : i = A.length := by omega
      go_wp2
      go_ret
      exact ⟨rfl, HE.out.trans EXX⟩
end Go.Proofs.YtmbodooikfmegaaDoor
