/- The walk of 'GateMeans'. -/
import Derived.Test.YtaijkpfgnlkppaaDoorGateMx
import Derived.Test.YtaijkpfgnlkppaaDoorGateE
import Derived.Test.YtaijkpfgnlkppaaDoorDoA
import Derived.Test.YtaijkpfgnlkppaaDoorLaw8
import Derived.Test.YtaijkpfgnlkppaaDoorOpsP
import Derived.Deep.RegionHeld3
import Derived.Deep.DeepCutAuto
import Derived.Laws.MakeOwn
namespace Go.Proofs.YtaijkpfgnlkppaaDoor
open Go Go.RowKit

theorem is_nil (c : Cfg) (R : Bool) (hR : rules.rulesIs c [] = R) (w : World) : Calls Tryd.prog 18 #[c.v, .slice none 0 0] w fun e w' => e = .returned (.bool R) ∧ Ext w w' := by
  subst hR
  exact rules.is_any c _ [] (fun x hx => by cases hx) w (Sl.nil w)
theorem do_ownG (c : Cfg) (v : Value) (L : List Rw) (hf : RwsFit L) (o : Opn) (ho : o.Fits) (w : World) (ht : Tab w) (hv : Rws w v L) (hn : L.length ≤ 1000) {M : List Rw} {dc dw de : Int} (hz : rules.rulesDo c L o = ⟨M, dc, dw, de⟩) :
    Calls Tryd.prog 19 #[c.v, v, o.v] w fun e w' => ∃ r, e = .returned (.tuple #[r, rules.resV dc dw, .int .i64 de]) ∧ Hid (w'.ownsRow w.heap.size 82 2 r M.length (rwCells M)) ∧ Ext w w' := by
  refine (rules.do_any c v L hf o ho w ht hv hn).mono fun e w' h => ?_
  rw [hz] at h
  obtain ⟨r, rfl, h1, h2⟩ := h
  exact ⟨r, rfl, Lib.hid h1, h2⟩
theorem sameRes_one (c v : Int) (w : World) : Calls Tryd.prog 21 #[rules.resV c v, rules.resV c v] w fun e w' => e = .returned (.bool true) ∧ Ext w w' :=
  (rules.sameRes_any c v c v _ _ [] [] w (Rws.nil w) (Rws.nil w)).mono fun e w' h => by simpa using h
theorem zero_rows {L : List Cel} (h : ∀ x ∈ L, x.a = 0) : ∀ S : List Rw, L.foldl rowStep S = S := by
  induction L with
  | nil => intro S; rfl
  | cons x L ih =>
    intro S
    have : rowStep S x = S := by simp [rowStep, h x (by simp)]
    rw [List.foldl_cons, this]
    exact ih (fun y hy => h y (by simp [hy])) S
theorem zero_in {N : Nat} : ∀ x ∈ List.replicate N zcl, x = zcl := fun _ hx => List.eq_of_mem_replicate hx
theorem zero_cells (N : Nat) : celCells (List.replicate N zcl) = List.replicate (N * 4) (.int .u64 0) := by
  induction N with
  | zero => rfl
  | succ N ih =>
    rw [List.replicate_succ, celCells_cons, ih, show (N + 1) * 4 = N * 4 + 1 + 1 + 1 + 1 by omega]
    rfl
theorem zero_made (N : Nat) (j : Nat) (u : Value) (h : (celCells (List.replicate N zcl))[j]? = some u) : (madeCells #[.int .u64 0, .int .u64 0, .int .u64 0, .int .u64 0] (N * 4))[j]? = some u := by
  rw [zero_cells, List.getElem?_replicate] at h
  split at h
  · rename_i hj
    have hu : u = .int .u64 0 := by simpa using h.symm
    subst hu
    have hm : j % 4 < 4 := Nat.mod_lt _ (by decide)
    unfold madeCells
    rw [Array.getElem?_map, Array.getElem?_range, if_pos hj]
    obtain q | q | q | q : j % 4 = 0 ∨ j % 4 = 1 ∨ j % 4 = 2 ∨ j % 4 = 3 := by omega
    all_goals simp [q]
  · cases h
theorem zero_ok {c : Cfg} {N : Nat} (h : c.cap = N) : CelsOk c (List.replicate N zcl) :=
  ⟨by simp [h], fun x hx => by rw [zero_in x hx]; exact ⟨by simp, by simp, by simp, by simp⟩, fun x hx => .inl (by rw [zero_in x hx]),
   List.pairwise_of_forall_mem_list fun x hx _ _ h0 => absurd (by rw [zero_in x hx]) h0⟩
theorem rows_is {c : Cfg} {L : List Cel} (h : rules.rulesIs c [] = true) (hL : CelsOk c L) : rules.rulesIs c (rowsOf L) = true :=
  rules.rulesIs_mk (fun x hx => by cases hx) h (by have := len_le hL.once; have := hL.len; omega) (rises_of_cells L) (rows_ok hL.once hL.ok)
theorem rows_fit {c : Cfg} {L : List Cel} (hL : CelsOk c L) : RwsFit (rowsOf L) := fun x hx => by
  have := rows_ok hL.once hL.ok x hx
  unfold rules.RuleOk at this
  exact ⟨by omega, by omega⟩
theorem opErr_ten {c : Cfg} {o : Opn} (hp : partOk c = true) (h : (opErr c o == 0) = false) : opErr c o = 50 ∨ opErr c o = 10 := by
  cases h1 : (objOf o.kind == c.object)
  · exact .inl (opErr_op hp h1)
  · cases h2 : fitsB c o
    · exact .inr (opErr_over hp h1 h2)
    · rw [opErr_ok hp h1 h2] at h
      cases h
theorem done_code (c : Cfg) (S : List Rw) (o : Opn) : (rules.rulesDone c S o).code = 0 ∨ (rules.rulesDone c S o).code = 6 ∨ (rules.rulesDone c S o).code = 9 := by
  unfold rules.rulesDone
  split
  · simp
  · split
    · split
      · simp
      · split <;> simp
    · split <;> simp
set_option maxRecDepth 100000 in
set_option maxHeartbeats 4000000 in
theorem gateMeans_walk (c : Cfg) (A : List Opn) (hf : OpsFit A) (v : Value) (w : World) (ht : Tab w) (hv : Sl w v A.length (opCells A)) : Calls Tryd.prog 8 #[c.v, v] w
    fun e w' => e = .returned (.bool true) ∧ Ext w w' := by
  obtain ⟨ad, cap, rfl, hs⟩ := hv
  have hln := hs.len
  have HV := Lib.hid hs
  have HF := Lib.hid hf
  have HT := Lib.hid ht
  clear hf ht hs
  obtain ⟨I, hI⟩ : ∃ I, rules.rulesIs c [] = I := ⟨_, rfl⟩
  have HI := Lib.hid hI
  by_cases hn : (40 : Int) < (A.length : Int)
  · clear hI
    go_enter Tryd.func8, Tryd.ntmps8
    go_wp2_with (first | (go_at_call 14; refine (alive_any _ (Tab.ext HT.out (by first | ((repeat (first | with_reducible exact Ext.refl _ | with_reducible assumption | with_reducible refine Ext.alloc ?_ _ | with_reducible refine Ext.gr ?_ _ | with_reducible refine Ext.drewN ?_ _ | with_reducible refine Ext.drew ?_ | with_reducible refine Ext.setCell ?_ ?_ _ | with_reducible refine Ext.more ?_ _ _ | (show _ ≤ _; dsimp only; omega))); done) | ((repeat (first | with_reducible exact Ext.refl _ | with_reducible assumption | with_reducible apply Ext.bothR | with_reducible refine Ext.alloc ?_ _ | with_reducible refine Ext.gr ?_ _ | with_reducible refine Ext.drewN ?_ _ | with_reducible refine Ext.drew ?_ | with_reducible refine Ext.setCell ?_ ?_ _ | with_reducible refine Ext.more ?_ _ _ | (show _ ≤ _; dsimp only; omega))); done)))).mono ?_; rintro e w1 ⟨rfl, os1, n1, rfl⟩) | (go_at_call 18; (with_reducible refine (is_nil c _ HI.out _).mono ?_); rintro e w1 ⟨rfl, os2, n2, rfl⟩))
    go_ret
    exact ⟨rfl, (by first | ((repeat (first | with_reducible exact Ext.refl _ | with_reducible assumption | with_reducible refine Ext.alloc ?_ _ | with_reducible refine Ext.gr ?_ _ | with_reducible refine Ext.drewN ?_ _ | with_reducible refine Ext.drew ?_ | with_reducible refine Ext.setCell ?_ ?_ _ | with_reducible refine Ext.more ?_ _ _ | (show _ ≤ _; dsimp only; omega))); done) | ((repeat (first | with_reducible exact Ext.refl _ | with_reducible assumption | with_reducible apply Ext.bothR | with_reducible refine Ext.alloc ?_ _ | with_reducible refine Ext.gr ?_ _ | with_reducible refine Ext.drewN ?_ _ | with_reducible refine Ext.drew ?_ | with_reducible refine Ext.setCell ?_ ?_ _ | with_reducible refine Ext.more ?_ _ _ | (show _ ≤ _; dsimp only; omega))); done))⟩
  cases I
  · clear hI
    go_enter Tryd.func8, Tryd.ntmps8
    go_wp2_with (first | (go_at_call 14; refine (alive_any _ (Tab.ext HT.out (by first | ((repeat (first | with_reducible exact Ext.refl _ | with_reducible assumption | with_reducible refine Ext.alloc ?_ _ | with_reducible refine Ext.gr ?_ _ | with_reducible refine Ext.drewN ?_ _ | with_reducible refine Ext.drew ?_ | with_reducible refine Ext.setCell ?_ ?_ _ | with_reducible refine Ext.more ?_ _ _ | (show _ ≤ _; dsimp only; omega))); done) | ((repeat (first | with_reducible exact Ext.refl _ | with_reducible assumption | with_reducible apply Ext.bothR | with_reducible refine Ext.alloc ?_ _ | with_reducible refine Ext.gr ?_ _ | with_reducible refine Ext.drewN ?_ _ | with_reducible refine Ext.drew ?_ | with_reducible refine Ext.setCell ?_ ?_ _ | with_reducible refine Ext.more ?_ _ _ | (show _ ≤ _; dsimp only; omega))); done)))).mono ?_; rintro e w1 ⟨rfl, os1, n1, rfl⟩) | (go_at_call 18; (with_reducible refine (is_nil c _ HI.out _).mono ?_); rintro e w1 ⟨rfl, os2, n2, rfl⟩))
    go_ret
    exact ⟨rfl, (by first | ((repeat (first | with_reducible exact Ext.refl _ | with_reducible assumption | with_reducible refine Ext.alloc ?_ _ | with_reducible refine Ext.gr ?_ _ | with_reducible refine Ext.drewN ?_ _ | with_reducible refine Ext.drew ?_ | with_reducible refine Ext.setCell ?_ ?_ _ | with_reducible refine Ext.more ?_ _ _ | (show _ ≤ _; dsimp only; omega))); done) | ((repeat (first | with_reducible exact Ext.refl _ | with_reducible assumption | with_reducible apply Ext.bothR | with_reducible refine Ext.alloc ?_ _ | with_reducible refine Ext.gr ?_ _ | with_reducible refine Ext.drewN ?_ _ | with_reducible refine Ext.drew ?_ | with_reducible refine Ext.setCell ?_ ?_ _ | with_reducible refine Ext.more ?_ _ _ | (show _ ≤ _; dsimp only; omega))); done))⟩
  obtain ⟨hp, h3, _, _, _⟩ := rules.rulesIs_ok (fun x hx => by cases hx) hI
  have hcap := cap_of_part hp
  obtain ⟨N, hN⟩ : ∃ N : Nat, c.cap = N := ⟨c.cap.toNat, by omega⟩
  have hNb : 1 ≤ N ∧ N ≤ 32 := by omega
  have HP := Lib.hid (And.intro hp h3)
  have HN := Lib.hid hN
  obtain ⟨i0, hi, hz0, hz1, hz2⟩ := info_parts info_cel
  have hmk : ∀ w : World, (Instr.makeSlice 45 (.int .i64 c.cap) (.int .i64 c.cap)).run Tryd.prog w = .ok (.slice (some ⟨w.heap.size, 0, none⟩) N N) (w.alloc (.cells (madeCells #[.int .u64 0, .int .u64 0, .int .u64 0, .int .u64 0] (N * 4)) 37)) := fun w => by
    have := run_makeSlice (P := Tryd.prog) w 45 37 i0 _ Tryd.underlying45 hi hz0 .i64 .i64 c.cap c.cap (by omega) (Int.le_refl _) (by rw [hz1]; omega) (by rw [hz2]; omega) (by omega)
    rw [this, hz1, hN, Int.toNat_natCast]
    rfl
  clear hp h3 hcap hN hi hz0 hz1 hz2 hI
  go_enter Tryd.func8, Tryd.ntmps8
  go_wp2_with (first | (go_at_call 14; refine (alive_any _ (Tab.ext HT.out (by first | ((repeat (first | with_reducible exact Ext.refl _ | with_reducible assumption | with_reducible refine Ext.alloc ?_ _ | with_reducible refine Ext.gr ?_ _ | with_reducible refine Ext.drewN ?_ _ | with_reducible refine Ext.drew ?_ | with_reducible refine Ext.setCell ?_ ?_ _ | with_reducible refine Ext.more ?_ _ _ | (show _ ≤ _; dsimp only; omega))); done) | ((repeat (first | with_reducible exact Ext.refl _ | with_reducible assumption | with_reducible apply Ext.bothR | with_reducible refine Ext.alloc ?_ _ | with_reducible refine Ext.gr ?_ _ | with_reducible refine Ext.drewN ?_ _ | with_reducible refine Ext.drew ?_ | with_reducible refine Ext.setCell ?_ ?_ _ | with_reducible refine Ext.more ?_ _ _ | (show _ ≤ _; dsimp only; omega))); done)))).mono ?_; rintro e w1 ⟨rfl, os1, n1, rfl⟩) | (go_at_call 18; (with_reducible refine (is_nil c _ HI.out _).mono ?_); rintro e w1 ⟨rfl, os2, n2, rfl⟩))
  go_loopw [6, 7, 8] (fun t6 t7 t8 wr => ∃ (i : Nat) (L : List Cel), i ≤ A.length ∧ t8 = .int .i64 i ∧ Hid (CelsOk c L) ∧ Hid (Sl wr t6 L.length (celCells L)) ∧ Hid (Rws wr t7 (rowsOf L)) ∧ Hid (Ext (w.alloc (.cells #[.int .u8 c.object, .int .i64 c.instances, .int .i64 c.threads, .int .u8 c.kind, .int .i64 c.stripes, .int .i64 c.bits, .int .i64 c.cap, .int .i64 c.node, .int .i64 c.batch, .int .i64 c.chunk, .int .u64 c.limit, .int .u64 c.most] 24)) wr)) (fun _ _ t8 _ => A.length - (intOf t8).toNat)
  case atStart =>
    refine ⟨0, List.replicate N zcl, Nat.zero_le _, rfl, Lib.hid (zero_ok HN.out), Lib.hid ⟨_, _, by rw [List.length_replicate], by rw [List.length_replicate]; exact Nat.le_refl _, by unfold maxLen; omega, Or.inr ⟨_, _, rfl, fun j u hu => ?_⟩⟩, Lib.hid ?_, Lib.hid (by first | ((repeat (first | with_reducible exact Ext.refl _ | with_reducible assumption | with_reducible refine Ext.alloc ?_ _ | with_reducible refine Ext.gr ?_ _ | with_reducible refine Ext.drewN ?_ _ | with_reducible refine Ext.drew ?_ | with_reducible refine Ext.setCell ?_ ?_ _ | with_reducible refine Ext.more ?_ _ _ | (show _ ≤ _; dsimp only; omega))); done) | ((repeat (first | with_reducible exact Ext.refl _ | with_reducible assumption | with_reducible apply Ext.bothR | with_reducible refine Ext.alloc ?_ _ | with_reducible refine Ext.gr ?_ _ | with_reducible refine Ext.drewN ?_ _ | with_reducible refine Ext.drew ?_ | with_reducible refine Ext.setCell ?_ ?_ _ | with_reducible refine Ext.more ?_ _ _ | (show _ ≤ _; dsimp only; omega))); done))⟩
    · have hj := zero_made N j u hu
      simp only [Nat.zero_add]
      simp [go_sem]
      exact hj
    · have e : rowsOf (List.replicate N zcl) = [] := zero_rows (fun x hx => by rw [zero_in x hx]) []
      rw [e]
      exact Rws.nil _
  case round =>
    obtain ⟨i, L, hi, rfl, HL, HS, HR, HX⟩ := hrel
    have HE : Hid (Ext w wr) := Lib.hid (Ext.trans (by repeat (first | with_reducible exact Ext.refl _ | with_reducible assumption | with_reducible refine Ext.alloc ?_ _ | with_reducible refine Ext.gr ?_ _ | with_reducible refine Ext.drewN ?_ _ | with_reducible refine Ext.drew ?_ | with_reducible refine Ext.setCell ?_ ?_ _ | with_reducible refine Ext.more ?_ _ _ | (show _ ≤ _; dsimp only; omega))) HX.out)
    by_cases hlt : i < A.length
    · obtain ⟨b, f, rfl, hb, hop⟩ := HV.out.op hlt
      obtain ⟨x, hx⟩ : ∃ x, A.getD i zop = x := ⟨_, rfl⟩
      rw [hx] at hop
      have HOX : Hid x.Fits := Lib.hid (by rw [← hx]; exact HF.out.get i)
      have HIS := Lib.hid (rows_is HI.out HL.out)
      have HFM := Lib.hid (rows_fit HL.out)
      have hlc := HL.out.len
      have hle := len_le HL.out.once
      have HLN : Hid ((rowsOf L).length ≤ 1000) := Lib.hid (by rw [HN.out] at hlc; omega)
      have HLL : Hid (L.length ≤ 1000) := Lib.hid (by rw [HN.out] at hlc; omega)
      have HLF := Lib.hid HL.out.fit
      have hp2 : (partOk c && (c.object == 3)) = true := by rw [HP.out.1, HP.out.2]; rfl
      have HK : Hid (Holds wr ([(w.heap.size, 0, .int .u8 c.object), (w.heap.size, 1, .int .i64 c.instances), (w.heap.size, 2, .int .i64 c.threads), (w.heap.size, 3, .int .u8 c.kind), (w.heap.size, 4, .int .i64 c.stripes), (w.heap.size, 5, .int .i64 c.bits), (w.heap.size, 6, .int .i64 c.cap), (w.heap.size, 7, .int .i64 c.node), (w.heap.size, 8, .int .i64 c.batch), (w.heap.size, 9, .int .i64 c.chunk), (w.heap.size, 10, .int .u64 c.limit), (w.heap.size, 11, .int .u64 c.most)] ++ [(b, f + i * 4, .int .u8 x.kind), (b, f + i * 4 + 1, .int .u32 x.a), (b, f + i * 4 + 2, .int .u32 x.b), (b, f + i * 4 + 3, .int .u32 x.c)])) := Lib.hid (Holds.app (Holds.ext (by simp [Holds, go_sem]) HX.out) (Holds.ext (w := w) hop HE.out))
      have i0' : (0 : Int) ≤ (i : Int) := by omega
      have i1' : (i : Int) < (A.length : Int) := by omega
      cases he : (opErr c x == 0)
      · obtain ⟨dc, hdc⟩ : ∃ dc, opErr c x = dc := ⟨_, rfl⟩
        have hd := opErr_ten HP.out.1 he
        rw [hdc] at hd
        have hZ : rules.rulesDo c (rowsOf L) x = ⟨rowsOf L, dc, 0, 0⟩ := by rw [rules.rulesDo_bad hp2 HIS.out he, hdc]
        have HZ := Lib.hid hZ
        have HD := Lib.hid hd
        clear hx hop hZ he hdc hd hlc hle hp2
        go_upto_region 9 with fail
        go_cut [9, 10, 11] (fun t9 t10 t11 wn => ∃ b10, t10 = .pointer (some ⟨b10, 0, none⟩) ∧ t11 = .int .i64 0 ∧ Hid (Holds wn [(b10, 0, .int .i64 dc)]) ∧ Hid (Ext wr wn))
        case first =>
          go_region_held3 (fun W => W.cell? ⟨w.heap.size, 0, none⟩ = some (.int .u8 c.object) ∧ W.cell? ⟨w.heap.size, 1, none⟩ = some (.int .i64 c.instances) ∧ W.cell? ⟨w.heap.size, 2, none⟩ = some (.int .i64 c.threads) ∧ W.cell? ⟨w.heap.size, 3, none⟩ = some (.int .u8 c.kind) ∧ W.cell? ⟨w.heap.size, 4, none⟩ = some (.int .i64 c.stripes) ∧ W.cell? ⟨w.heap.size, 5, none⟩ = some (.int .i64 c.bits) ∧ W.cell? ⟨w.heap.size, 6, none⟩ = some (.int .i64 c.cap) ∧ W.cell? ⟨w.heap.size, 7, none⟩ = some (.int .i64 c.node) ∧ W.cell? ⟨w.heap.size, 8, none⟩ = some (.int .i64 c.batch) ∧ W.cell? ⟨w.heap.size, 9, none⟩ = some (.int .i64 c.chunk) ∧ W.cell? ⟨w.heap.size, 10, none⟩ = some (.int .u64 c.limit) ∧ W.cell? ⟨w.heap.size, 11, none⟩ = some (.int .u64 c.most) ∧ W.cell? ⟨b, f + i * 4, none⟩ = some (.int .u8 x.kind) ∧ W.cell? ⟨b, f + i * 4 + 1, none⟩ = some (.int .u32 x.a) ∧ W.cell? ⟨b, f + i * 4 + 2, none⟩ = some (.int .u32 x.b) ∧ W.cell? ⟨b, f + i * 4 + 3, none⟩ = some (.int .u32 x.c)) (exact HK.out.ext (by (repeat (first | with_reducible exact Ext.refl _ | with_reducible assumption | with_reducible refine Ext.alloc ?_ _ | with_reducible refine Ext.gr ?_ _ | with_reducible refine Ext.drewN ?_ _ | with_reducible refine Ext.drew ?_ | with_reducible refine Ext.setCell ?_ ?_ _ | with_reducible refine Ext.more ?_ _ _ | (show _ ≤ _; dsimp only; omega))))) (first | (go_at_call 19; (with_reducible refine (do_ownG c _ _ HFM.out x HOX.out _ (Tab.ext (Tab.ext HT.out HE.out) (by first | ((repeat (first | with_reducible exact Ext.refl _ | with_reducible assumption | with_reducible refine Ext.alloc ?_ _ | with_reducible refine Ext.gr ?_ _ | with_reducible refine Ext.drewN ?_ _ | with_reducible refine Ext.drew ?_ | with_reducible refine Ext.setCell ?_ ?_ _ | with_reducible refine Ext.more ?_ _ _ | (show _ ≤ _; dsimp only; omega))); done) | ((repeat (first | with_reducible exact Ext.refl _ | with_reducible assumption | with_reducible apply Ext.bothR | with_reducible refine Ext.alloc ?_ _ | with_reducible refine Ext.gr ?_ _ | with_reducible refine Ext.drewN ?_ _ | with_reducible refine Ext.drew ?_ | with_reducible refine Ext.setCell ?_ ?_ _ | with_reducible refine Ext.more ?_ _ _ | (show _ ≤ _; dsimp only; omega))); done) | ((repeat (first | with_reducible exact Ext.refl _ | with_reducible exact Ext.sameG _ _ _ _ | with_reducible assumption | with_reducible refine Ext.bothR (n := 0) ?_ | with_reducible refine Ext.alloc ?_ _ | with_reducible refine Ext.gr ?_ _ | with_reducible refine Ext.drewN ?_ _ | with_reducible refine Ext.drew ?_ | with_reducible refine Ext.setCell ?_ ?_ _ | with_reducible refine Ext.more ?_ _ _ | (show _ ≤ _; dsimp only; omega))); done))) (HR.out.ext (by first | ((repeat (first | with_reducible exact Ext.refl _ | with_reducible assumption | with_reducible refine Ext.alloc ?_ _ | with_reducible refine Ext.gr ?_ _ | with_reducible refine Ext.drewN ?_ _ | with_reducible refine Ext.drew ?_ | with_reducible refine Ext.setCell ?_ ?_ _ | with_reducible refine Ext.more ?_ _ _ | (show _ ≤ _; dsimp only; omega))); done) | ((repeat (first | with_reducible exact Ext.refl _ | with_reducible assumption | with_reducible apply Ext.bothR | with_reducible refine Ext.alloc ?_ _ | with_reducible refine Ext.gr ?_ _ | with_reducible refine Ext.drewN ?_ _ | with_reducible refine Ext.drew ?_ | with_reducible refine Ext.setCell ?_ ?_ _ | with_reducible refine Ext.more ?_ _ _ | (show _ ≤ _; dsimp only; omega))); done) | ((repeat (first | with_reducible exact Ext.refl _ | with_reducible exact Ext.sameG _ _ _ _ | with_reducible assumption | with_reducible refine Ext.bothR (n := 0) ?_ | with_reducible refine Ext.alloc ?_ _ | with_reducible refine Ext.gr ?_ _ | with_reducible refine Ext.drewN ?_ _ | with_reducible refine Ext.drew ?_ | with_reducible refine Ext.setCell ?_ ?_ _ | with_reducible refine Ext.more ?_ _ _ | (show _ ≤ _; dsimp only; omega))); done))) HLN.out HZ.out).mono ?_); rintro e w2 ⟨a2, rfl, HA2, os2, n2, rfl⟩))
          all_goals
            go_wp2_with fail
            go_meet
            case rel => exact ⟨_, rfl, rfl, Lib.hid (by simp [Holds, go_sem]), Lib.hid (by first | ((repeat (first | with_reducible exact Ext.refl _ | with_reducible assumption | with_reducible refine Ext.alloc ?_ _ | with_reducible refine Ext.gr ?_ _ | with_reducible refine Ext.drewN ?_ _ | with_reducible refine Ext.drew ?_ | with_reducible refine Ext.setCell ?_ ?_ _ | with_reducible refine Ext.more ?_ _ _ | (show _ ≤ _; dsimp only; omega))); done) | ((repeat (first | with_reducible exact Ext.refl _ | with_reducible assumption | with_reducible apply Ext.bothR | with_reducible refine Ext.alloc ?_ _ | with_reducible refine Ext.gr ?_ _ | with_reducible refine Ext.drewN ?_ _ | with_reducible refine Ext.drew ?_ | with_reducible refine Ext.setCell ?_ ?_ _ | with_reducible refine Ext.more ?_ _ _ | (show _ ≤ _; dsimp only; omega))); done) | ((repeat (first | with_reducible exact Ext.refl _ | with_reducible exact Ext.sameG _ _ _ _ | with_reducible assumption | with_reducible refine Ext.bothR (n := 0) ?_ | with_reducible refine Ext.alloc ?_ _ | with_reducible refine Ext.gr ?_ _ | with_reducible refine Ext.drewN ?_ _ | with_reducible refine Ext.drew ?_ | with_reducible refine Ext.setCell ?_ ?_ _ | with_reducible refine Ext.more ?_ _ _ | (show _ ≤ _; dsimp only; omega))); done))⟩
        case rest =>
          obtain ⟨b10, rfl, rfl, HH, HXX⟩ := hcut
          have q := HH.out
          simp only [Holds] at q
          rcases HD.out with hd | hd
          · have d5 : (dc == 50) = true := by simp [hd]
            have HDD := Lib.hid hd
            clear hd
            go_wp2
            go_roundw
            case rel => exact ⟨i + 1, L, by omega, by go_num, HL, Lib.hid (HS.out.ext HXX.out), Lib.hid (HR.out.ext HXX.out), Lib.hid (Ext.trans HX.out HXX.out)⟩
            case measure => simp [intOf]; omega
          · have d5 : (dc == 50) = false := by simp [hd]
            have d1 : (dc == 10) = true := by simp [hd]
            have HDD := Lib.hid hd
            clear hd
            go_wp2
            go_roundw
            case rel => exact ⟨i + 1, L, by omega, by go_num, HL, Lib.hid (HS.out.ext HXX.out), Lib.hid (HR.out.ext HXX.out), Lib.hid (Ext.trans HX.out HXX.out)⟩
            case measure => simp [intOf]; omega
      · have he0 : opErr c x = 0 := by simpa using he
        obtain ⟨g1, g2, g3, g4, g5⟩ := gate_means HOX.out HP.out.1 HP.out.2 he0 HL.out
        have hcode := done_code c (rowsOf L) x
        have herr := rules.rulesDone_err c (rowsOf L) x
        have hdo := rules.rulesDo_ok hp2 HIS.out he
        obtain ⟨M, dc, dw, de, hD⟩ : ∃ M dc dw de, rules.rulesDone c (rowsOf L) x = ⟨M, dc, dw, de⟩ := ⟨_, _, _, _, rfl⟩
        obtain ⟨L', gc, gw, gr', gn, gk, hG⟩ : ∃ L' gc gw gr' gn gk, gateRun c 80 (startF x) L 0 0 = ⟨L', gc, gw, gr', gn, gk⟩ := ⟨_, _, _, _, _, _, rfl⟩
        rw [hD] at g2 g3 g4 hcode herr hdo
        rw [hG] at g1 g2 g3 g4 g5
        dsimp only at g1 g2 g3 g4 g5 hcode herr
        subst g1 g2 g3 g4 herr
        have HZ := Lib.hid hdo
        have HG := Lib.hid hG
        have HL3 := Lib.hid g5
        have hlc3 := g5.len
        have HOK3 := Lib.hid g5.ok
        have HON3 := Lib.hid g5.once
        have HLL3 : Hid (L'.length ≤ 1000) := Lib.hid (by rw [HN.out] at hlc3; omega)
        have d5 : (gc == 50) = false := by simp; omega
        have d1 : (gc == 10) = false := by simp; omega
        clear hx hop he he0 hlc hle hp2 hcode hdo hD hG g5 hlc3
        go_upto_region 9 with fail
        go_cut [9, 10, 11] (fun t9 t10 t11 wn => ∃ b10, t10 = .pointer (some ⟨b10, 0, none⟩) ∧ t11 = .int .i64 0 ∧ Hid (Rws wn t9 (rowsOf L')) ∧ Hid (Holds wn [(b10, 0, .int .i64 gc), (b10, 1, .int .u32 gw), (b10, 2, .slice none 0 0)]) ∧ Hid (Ext wr wn))
        case first =>
          go_region_held3 (fun W => W.cell? ⟨w.heap.size, 0, none⟩ = some (.int .u8 c.object) ∧ W.cell? ⟨w.heap.size, 1, none⟩ = some (.int .i64 c.instances) ∧ W.cell? ⟨w.heap.size, 2, none⟩ = some (.int .i64 c.threads) ∧ W.cell? ⟨w.heap.size, 3, none⟩ = some (.int .u8 c.kind) ∧ W.cell? ⟨w.heap.size, 4, none⟩ = some (.int .i64 c.stripes) ∧ W.cell? ⟨w.heap.size, 5, none⟩ = some (.int .i64 c.bits) ∧ W.cell? ⟨w.heap.size, 6, none⟩ = some (.int .i64 c.cap) ∧ W.cell? ⟨w.heap.size, 7, none⟩ = some (.int .i64 c.node) ∧ W.cell? ⟨w.heap.size, 8, none⟩ = some (.int .i64 c.batch) ∧ W.cell? ⟨w.heap.size, 9, none⟩ = some (.int .i64 c.chunk) ∧ W.cell? ⟨w.heap.size, 10, none⟩ = some (.int .u64 c.limit) ∧ W.cell? ⟨w.heap.size, 11, none⟩ = some (.int .u64 c.most) ∧ W.cell? ⟨b, f + i * 4, none⟩ = some (.int .u8 x.kind) ∧ W.cell? ⟨b, f + i * 4 + 1, none⟩ = some (.int .u32 x.a) ∧ W.cell? ⟨b, f + i * 4 + 2, none⟩ = some (.int .u32 x.b) ∧ W.cell? ⟨b, f + i * 4 + 3, none⟩ = some (.int .u32 x.c)) (exact HK.out.ext (by (repeat (first | with_reducible exact Ext.refl _ | with_reducible assumption | with_reducible refine Ext.alloc ?_ _ | with_reducible refine Ext.gr ?_ _ | with_reducible refine Ext.drewN ?_ _ | with_reducible refine Ext.drew ?_ | with_reducible refine Ext.setCell ?_ ?_ _ | with_reducible refine Ext.more ?_ _ _ | (show _ ≤ _; dsimp only; omega))))) (first | (go_at_call 19; (with_reducible refine (do_ownG c _ _ HFM.out x HOX.out _ (Tab.ext (Tab.ext HT.out HE.out) (by first | ((repeat (first | with_reducible exact Ext.refl _ | with_reducible assumption | with_reducible refine Ext.alloc ?_ _ | with_reducible refine Ext.gr ?_ _ | with_reducible refine Ext.drewN ?_ _ | with_reducible refine Ext.drew ?_ | with_reducible refine Ext.setCell ?_ ?_ _ | with_reducible refine Ext.more ?_ _ _ | (show _ ≤ _; dsimp only; omega))); done) | ((repeat (first | with_reducible exact Ext.refl _ | with_reducible assumption | with_reducible apply Ext.bothR | with_reducible refine Ext.alloc ?_ _ | with_reducible refine Ext.gr ?_ _ | with_reducible refine Ext.drewN ?_ _ | with_reducible refine Ext.drew ?_ | with_reducible refine Ext.setCell ?_ ?_ _ | with_reducible refine Ext.more ?_ _ _ | (show _ ≤ _; dsimp only; omega))); done) | ((repeat (first | with_reducible exact Ext.refl _ | with_reducible exact Ext.sameG _ _ _ _ | with_reducible assumption | with_reducible refine Ext.bothR (n := 0) ?_ | with_reducible refine Ext.alloc ?_ _ | with_reducible refine Ext.gr ?_ _ | with_reducible refine Ext.drewN ?_ _ | with_reducible refine Ext.drew ?_ | with_reducible refine Ext.setCell ?_ ?_ _ | with_reducible refine Ext.more ?_ _ _ | (show _ ≤ _; dsimp only; omega))); done))) (HR.out.ext (by first | ((repeat (first | with_reducible exact Ext.refl _ | with_reducible assumption | with_reducible refine Ext.alloc ?_ _ | with_reducible refine Ext.gr ?_ _ | with_reducible refine Ext.drewN ?_ _ | with_reducible refine Ext.drew ?_ | with_reducible refine Ext.setCell ?_ ?_ _ | with_reducible refine Ext.more ?_ _ _ | (show _ ≤ _; dsimp only; omega))); done) | ((repeat (first | with_reducible exact Ext.refl _ | with_reducible assumption | with_reducible apply Ext.bothR | with_reducible refine Ext.alloc ?_ _ | with_reducible refine Ext.gr ?_ _ | with_reducible refine Ext.drewN ?_ _ | with_reducible refine Ext.drew ?_ | with_reducible refine Ext.setCell ?_ ?_ _ | with_reducible refine Ext.more ?_ _ _ | (show _ ≤ _; dsimp only; omega))); done) | ((repeat (first | with_reducible exact Ext.refl _ | with_reducible exact Ext.sameG _ _ _ _ | with_reducible assumption | with_reducible refine Ext.bothR (n := 0) ?_ | with_reducible refine Ext.alloc ?_ _ | with_reducible refine Ext.gr ?_ _ | with_reducible refine Ext.drewN ?_ _ | with_reducible refine Ext.drew ?_ | with_reducible refine Ext.setCell ?_ ?_ _ | with_reducible refine Ext.more ?_ _ _ | (show _ ≤ _; dsimp only; omega))); done))) HLN.out HZ.out).mono ?_); rintro e w2 ⟨a2, rfl, HA2, os2, n2, rfl⟩))
          all_goals
            have ho2 := HA2.out
            (try simp only [drew_grew] at ho2)
            clear HA2
            go_wp2_with fail
            go_meet
            case rel =>
              refine ⟨_, rfl, rfl, ?_, Lib.hid (by simp [Holds, go_sem]), Lib.hid (by first | ((repeat (first | with_reducible exact Ext.refl _ | with_reducible assumption | with_reducible refine Ext.alloc ?_ _ | with_reducible refine Ext.gr ?_ _ | with_reducible refine Ext.drewN ?_ _ | with_reducible refine Ext.drew ?_ | with_reducible refine Ext.setCell ?_ ?_ _ | with_reducible refine Ext.more ?_ _ _ | (show _ ≤ _; dsimp only; omega))); done) | ((repeat (first | with_reducible exact Ext.refl _ | with_reducible assumption | with_reducible apply Ext.bothR | with_reducible refine Ext.alloc ?_ _ | with_reducible refine Ext.gr ?_ _ | with_reducible refine Ext.drewN ?_ _ | with_reducible refine Ext.drew ?_ | with_reducible refine Ext.setCell ?_ ?_ _ | with_reducible refine Ext.more ?_ _ _ | (show _ ≤ _; dsimp only; omega))); done) | ((repeat (first | with_reducible exact Ext.refl _ | with_reducible exact Ext.sameG _ _ _ _ | with_reducible assumption | with_reducible refine Ext.bothR (n := 0) ?_ | with_reducible refine Ext.alloc ?_ _ | with_reducible refine Ext.gr ?_ _ | with_reducible refine Ext.drewN ?_ _ | with_reducible refine Ext.drew ?_ | with_reducible refine Ext.setCell ?_ ?_ _ | with_reducible refine Ext.more ?_ _ _ | (show _ ≤ _; dsimp only; omega))); done))⟩
              (first | (with_reducible refine Lib.hid (own_rws (rules.own_swap ?_ ho2 ?_)) <;> (simp [go_sem]; done)) | (with_reducible refine Lib.hid (own_rws (own_ext ho2 ?_)); (first | ((repeat (first | with_reducible exact Ext.refl _ | with_reducible assumption | with_reducible refine Ext.alloc ?_ _ | with_reducible refine Ext.gr ?_ _ | with_reducible refine Ext.drewN ?_ _ | with_reducible refine Ext.drew ?_ | with_reducible refine Ext.setCell ?_ ?_ _ | with_reducible refine Ext.more ?_ _ _ | (show _ ≤ _; dsimp only; omega))); done) | ((repeat (first | with_reducible exact Ext.refl _ | with_reducible assumption | with_reducible apply Ext.bothR | with_reducible refine Ext.alloc ?_ _ | with_reducible refine Ext.gr ?_ _ | with_reducible refine Ext.drewN ?_ _ | with_reducible refine Ext.drew ?_ | with_reducible refine Ext.setCell ?_ ?_ _ | with_reducible refine Ext.more ?_ _ _ | (show _ ≤ _; dsimp only; omega))); done) | ((repeat (first | with_reducible exact Ext.refl _ | with_reducible exact Ext.sameG _ _ _ _ | with_reducible assumption | with_reducible refine Ext.bothR (n := 0) ?_ | with_reducible refine Ext.alloc ?_ _ | with_reducible refine Ext.gr ?_ _ | with_reducible refine Ext.drewN ?_ _ | with_reducible refine Ext.drew ?_ | with_reducible refine Ext.setCell ?_ ?_ _ | with_reducible refine Ext.more ?_ _ _ | (show _ ≤ _; dsimp only; omega))); done))))
        case rest =>
          obtain ⟨b10, rfl, rfl, HM2, HH2, HXX⟩ := hcut
          have HE2 := Lib.hid (HE.out.trans HXX.out)
          have HX2 := Lib.hid (HX.out.trans HXX.out)
          have HS2 := Lib.hid (HS.out.ext HXX.out)
          have HK2 := Lib.hid (HK.out.ext HXX.out)
          clear HS HR HXX HE HX HK
          have q2 := HH2.out
          simp only [Holds] at q2
          go_upto_region 13 with fail
          go_cut [12, 13, 14, 15] (fun t12 t13 t14 t15 wn => ∃ b13 b14, t13 = .pointer (some ⟨b13, 0, none⟩) ∧ t14 = .pointer (some ⟨b14, 0, none⟩) ∧ t15 = .bool true ∧ Hid (Sl wn t12 L'.length (celCells L')) ∧ Hid (Holds wn [(b13, 0, .int .i64 gc), (b13, 1, .int .u32 gw), (b13, 2, .slice none 0 0)]) ∧ Hid (Ext wc wn))
          case first =>
            clear q2
            go_region_held3 (fun W => W.cell? ⟨w.heap.size, 0, none⟩ = some (.int .u8 c.object) ∧ W.cell? ⟨w.heap.size, 1, none⟩ = some (.int .i64 c.instances) ∧ W.cell? ⟨w.heap.size, 2, none⟩ = some (.int .i64 c.threads) ∧ W.cell? ⟨w.heap.size, 3, none⟩ = some (.int .u8 c.kind) ∧ W.cell? ⟨w.heap.size, 4, none⟩ = some (.int .i64 c.stripes) ∧ W.cell? ⟨w.heap.size, 5, none⟩ = some (.int .i64 c.bits) ∧ W.cell? ⟨w.heap.size, 6, none⟩ = some (.int .i64 c.cap) ∧ W.cell? ⟨w.heap.size, 7, none⟩ = some (.int .i64 c.node) ∧ W.cell? ⟨w.heap.size, 8, none⟩ = some (.int .i64 c.batch) ∧ W.cell? ⟨w.heap.size, 9, none⟩ = some (.int .i64 c.chunk) ∧ W.cell? ⟨w.heap.size, 10, none⟩ = some (.int .u64 c.limit) ∧ W.cell? ⟨w.heap.size, 11, none⟩ = some (.int .u64 c.most) ∧ W.cell? ⟨b, f + i * 4, none⟩ = some (.int .u8 x.kind) ∧ W.cell? ⟨b, f + i * 4 + 1, none⟩ = some (.int .u32 x.a) ∧ W.cell? ⟨b, f + i * 4 + 2, none⟩ = some (.int .u32 x.b) ∧ W.cell? ⟨b, f + i * 4 + 3, none⟩ = some (.int .u32 x.c)) (exact HK2.out.ext (by (repeat (first | with_reducible exact Ext.refl _ | with_reducible assumption | with_reducible refine Ext.alloc ?_ _ | with_reducible refine Ext.gr ?_ _ | with_reducible refine Ext.drewN ?_ _ | with_reducible refine Ext.drew ?_ | with_reducible refine Ext.setCell ?_ ?_ _ | with_reducible refine Ext.more ?_ _ _ | (show _ ≤ _; dsimp only; omega))))) (first | (go_at_call 16; (with_reducible refine (done_as c x L _ HG.out HOX.out HLF.out _ _ (Tab.ext (Tab.ext HT.out HE2.out) (by first | ((repeat (first | with_reducible exact Ext.refl _ | with_reducible assumption | with_reducible refine Ext.alloc ?_ _ | with_reducible refine Ext.gr ?_ _ | with_reducible refine Ext.drewN ?_ _ | with_reducible refine Ext.drew ?_ | with_reducible refine Ext.setCell ?_ ?_ _ | with_reducible refine Ext.more ?_ _ _ | (show _ ≤ _; dsimp only; omega))); done) | ((repeat (first | with_reducible exact Ext.refl _ | with_reducible assumption | with_reducible apply Ext.bothR | with_reducible refine Ext.alloc ?_ _ | with_reducible refine Ext.gr ?_ _ | with_reducible refine Ext.drewN ?_ _ | with_reducible refine Ext.drew ?_ | with_reducible refine Ext.setCell ?_ ?_ _ | with_reducible refine Ext.more ?_ _ _ | (show _ ≤ _; dsimp only; omega))); done) | ((repeat (first | with_reducible exact Ext.refl _ | with_reducible exact Ext.sameG _ _ _ _ | with_reducible assumption | with_reducible refine Ext.bothR (n := 0) ?_ | with_reducible refine Ext.alloc ?_ _ | with_reducible refine Ext.gr ?_ _ | with_reducible refine Ext.drewN ?_ _ | with_reducible refine Ext.drew ?_ | with_reducible refine Ext.setCell ?_ ?_ _ | with_reducible refine Ext.more ?_ _ _ | (show _ ≤ _; dsimp only; omega))); done))) (HS2.out.ext (by first | ((repeat (first | with_reducible exact Ext.refl _ | with_reducible assumption | with_reducible refine Ext.alloc ?_ _ | with_reducible refine Ext.gr ?_ _ | with_reducible refine Ext.drewN ?_ _ | with_reducible refine Ext.drew ?_ | with_reducible refine Ext.setCell ?_ ?_ _ | with_reducible refine Ext.more ?_ _ _ | (show _ ≤ _; dsimp only; omega))); done) | ((repeat (first | with_reducible exact Ext.refl _ | with_reducible assumption | with_reducible apply Ext.bothR | with_reducible refine Ext.alloc ?_ _ | with_reducible refine Ext.gr ?_ _ | with_reducible refine Ext.drewN ?_ _ | with_reducible refine Ext.drew ?_ | with_reducible refine Ext.setCell ?_ ?_ _ | with_reducible refine Ext.more ?_ _ _ | (show _ ≤ _; dsimp only; omega))); done) | ((repeat (first | with_reducible exact Ext.refl _ | with_reducible exact Ext.sameG _ _ _ _ | with_reducible assumption | with_reducible refine Ext.bothR (n := 0) ?_ | with_reducible refine Ext.alloc ?_ _ | with_reducible refine Ext.gr ?_ _ | with_reducible refine Ext.drewN ?_ _ | with_reducible refine Ext.drew ?_ | with_reducible refine Ext.setCell ?_ ?_ _ | with_reducible refine Ext.more ?_ _ _ | (show _ ≤ _; dsimp only; omega))); done))) HLL.out).mono ?_); rintro e w3 ⟨ad3, cap3, ⟨rfl, HS3⟩, os3, n3, rfl⟩))
            all_goals
              go_wp2_with fail
              go_meet
              case rel =>
                refine ⟨_, _, rfl, rfl, rfl, Lib.hid ⟨_, _, rfl, ?_⟩, Lib.hid (by simp [Holds, go_sem]), Lib.hid (by first | ((repeat (first | with_reducible exact Ext.refl _ | with_reducible assumption | with_reducible refine Ext.alloc ?_ _ | with_reducible refine Ext.gr ?_ _ | with_reducible refine Ext.drewN ?_ _ | with_reducible refine Ext.drew ?_ | with_reducible refine Ext.setCell ?_ ?_ _ | with_reducible refine Ext.more ?_ _ _ | (show _ ≤ _; dsimp only; omega))); done) | ((repeat (first | with_reducible exact Ext.refl _ | with_reducible assumption | with_reducible apply Ext.bothR | with_reducible refine Ext.alloc ?_ _ | with_reducible refine Ext.gr ?_ _ | with_reducible refine Ext.drewN ?_ _ | with_reducible refine Ext.drew ?_ | with_reducible refine Ext.setCell ?_ ?_ _ | with_reducible refine Ext.more ?_ _ _ | (show _ ≤ _; dsimp only; omega))); done) | ((repeat (first | with_reducible exact Ext.refl _ | with_reducible exact Ext.sameG _ _ _ _ | with_reducible assumption | with_reducible refine Ext.bothR (n := 0) ?_ | with_reducible refine Ext.alloc ?_ _ | with_reducible refine Ext.gr ?_ _ | with_reducible refine Ext.drewN ?_ _ | with_reducible refine Ext.drew ?_ | with_reducible refine Ext.setCell ?_ ?_ _ | with_reducible refine Ext.more ?_ _ _ | (show _ ≤ _; dsimp only; omega))); done))⟩
                first
                  | ((repeat (first | refine SlAt.allocR ?_ _ | refine SlAt.drewR ?_))
                     refine SlAt.keepU0 HS3.out (celCells_u64 _) (KeepU.grew ?_ _ _ _)
                     (repeat (first | exact KeepU.refl _ | refine KeepU.drewL ?_ | refine KeepU.alloc ?_ _ | (refine KeepU.change ?_ (by simp))))
                     done)
                  | exact HS3.out.ext (by first | ((repeat (first | with_reducible exact Ext.refl _ | with_reducible assumption | with_reducible refine Ext.alloc ?_ _ | with_reducible refine Ext.gr ?_ _ | with_reducible refine Ext.drewN ?_ _ | with_reducible refine Ext.drew ?_ | with_reducible refine Ext.setCell ?_ ?_ _ | with_reducible refine Ext.more ?_ _ _ | (show _ ≤ _; dsimp only; omega))); done) | ((repeat (first | with_reducible exact Ext.refl _ | with_reducible assumption | with_reducible apply Ext.bothR | with_reducible refine Ext.alloc ?_ _ | with_reducible refine Ext.gr ?_ _ | with_reducible refine Ext.drewN ?_ _ | with_reducible refine Ext.drew ?_ | with_reducible refine Ext.setCell ?_ ?_ _ | with_reducible refine Ext.more ?_ _ _ | (show _ ≤ _; dsimp only; omega))); done))
          case rest =>
            obtain ⟨b13, b14, rfl, rfl, rfl, HS4, HH4, HX4⟩ := hcut
            have HM4 := Lib.hid (HM2.out.ext HX4.out)
            have q3 := HH2.out.ext HX4.out
            have q4 := HH4.out
            simp only [Holds] at q3 q4
            have z3 := World.block_lt_of_cell? _ _ q3.1
            have z4 := World.block_lt_of_cell? _ _ q4.1
            dsimp only at z3 z4
            have z31 : ∀ n1 : Nat, b10 < wc.heap.size + n1 := by intros; omega
            have z41 : ∀ n1 : Nat, b13 < wc.heap.size + n1 := by intros; omega
            clear q2 HH2 HH4 HM2 HS2
            go_wp2_with (first | (go_at_call 20; (with_reducible refine (rows_any _ L' HOK3.out HON3.out _ (HS4.out.ext (by first | ((repeat (first | with_reducible exact Ext.refl _ | with_reducible assumption | with_reducible refine Ext.alloc ?_ _ | with_reducible refine Ext.gr ?_ _ | with_reducible refine Ext.drewN ?_ _ | with_reducible refine Ext.drew ?_ | with_reducible refine Ext.setCell ?_ ?_ _ | with_reducible refine Ext.more ?_ _ _ | (show _ ≤ _; dsimp only; omega))); done) | ((repeat (first | with_reducible exact Ext.refl _ | with_reducible assumption | with_reducible apply Ext.bothR | with_reducible refine Ext.alloc ?_ _ | with_reducible refine Ext.gr ?_ _ | with_reducible refine Ext.drewN ?_ _ | with_reducible refine Ext.drew ?_ | with_reducible refine Ext.setCell ?_ ?_ _ | with_reducible refine Ext.more ?_ _ _ | (show _ ≤ _; dsimp only; omega))); done) | ((repeat (first | with_reducible exact Ext.refl _ | with_reducible exact Ext.sameG _ _ _ _ | with_reducible assumption | with_reducible refine Ext.bothR (n := 0) ?_ | with_reducible refine Ext.alloc ?_ _ | with_reducible refine Ext.gr ?_ _ | with_reducible refine Ext.drewN ?_ _ | with_reducible refine Ext.drew ?_ | with_reducible refine Ext.setCell ?_ ?_ _ | with_reducible refine Ext.more ?_ _ _ | (show _ ≤ _; dsimp only; omega))); done))) HLL3.out).mono ?_); rintro e w6 ⟨r6, rfl, HR6, os6, n6, rfl⟩) | (go_at_call 21; (with_reducible refine (sameRes_one gc gw _).mono ?_); rintro e w8 ⟨rfl, os8, n8, rfl⟩) | (go_at_call 22; (with_reducible refine (same_refl' _ _ (rowsOf L') _ (HR6.out.ext (by first | ((repeat (first | with_reducible exact Ext.refl _ | with_reducible assumption | with_reducible refine Ext.alloc ?_ _ | with_reducible refine Ext.gr ?_ _ | with_reducible refine Ext.drewN ?_ _ | with_reducible refine Ext.drew ?_ | with_reducible refine Ext.setCell ?_ ?_ _ | with_reducible refine Ext.more ?_ _ _ | (show _ ≤ _; dsimp only; omega))); done) | ((repeat (first | with_reducible exact Ext.refl _ | with_reducible assumption | with_reducible apply Ext.bothR | with_reducible refine Ext.alloc ?_ _ | with_reducible refine Ext.gr ?_ _ | with_reducible refine Ext.drewN ?_ _ | with_reducible refine Ext.drew ?_ | with_reducible refine Ext.setCell ?_ ?_ _ | with_reducible refine Ext.more ?_ _ _ | (show _ ≤ _; dsimp only; omega))); done) | ((repeat (first | with_reducible exact Ext.refl _ | with_reducible exact Ext.sameG _ _ _ _ | with_reducible assumption | with_reducible refine Ext.bothR (n := 0) ?_ | with_reducible refine Ext.alloc ?_ _ | with_reducible refine Ext.gr ?_ _ | with_reducible refine Ext.drewN ?_ _ | with_reducible refine Ext.drew ?_ | with_reducible refine Ext.setCell ?_ ?_ _ | with_reducible refine Ext.more ?_ _ _ | (show _ ≤ _; dsimp only; omega))); done))) (HM4.out.ext (by first | ((repeat (first | with_reducible exact Ext.refl _ | with_reducible assumption | with_reducible refine Ext.alloc ?_ _ | with_reducible refine Ext.gr ?_ _ | with_reducible refine Ext.drewN ?_ _ | with_reducible refine Ext.drew ?_ | with_reducible refine Ext.setCell ?_ ?_ _ | with_reducible refine Ext.more ?_ _ _ | (show _ ≤ _; dsimp only; omega))); done) | ((repeat (first | with_reducible exact Ext.refl _ | with_reducible assumption | with_reducible apply Ext.bothR | with_reducible refine Ext.alloc ?_ _ | with_reducible refine Ext.gr ?_ _ | with_reducible refine Ext.drewN ?_ _ | with_reducible refine Ext.drew ?_ | with_reducible refine Ext.setCell ?_ ?_ _ | with_reducible refine Ext.more ?_ _ _ | (show _ ≤ _; dsimp only; omega))); done) | ((repeat (first | with_reducible exact Ext.refl _ | with_reducible exact Ext.sameG _ _ _ _ | with_reducible assumption | with_reducible refine Ext.bothR (n := 0) ?_ | with_reducible refine Ext.alloc ?_ _ | with_reducible refine Ext.gr ?_ _ | with_reducible refine Ext.drewN ?_ _ | with_reducible refine Ext.drew ?_ | with_reducible refine Ext.setCell ?_ ?_ _ | with_reducible refine Ext.more ?_ _ _ | (show _ ≤ _; dsimp only; omega))); done)))).mono ?_); rintro e w7 ⟨rfl, os7, n7, rfl⟩))
            go_roundw
            case rel => exact ⟨i + 1, L', by omega, by go_num, HL3, Lib.hid (HS4.out.ext (by first | ((repeat (first | with_reducible exact Ext.refl _ | with_reducible assumption | with_reducible refine Ext.alloc ?_ _ | with_reducible refine Ext.gr ?_ _ | with_reducible refine Ext.drewN ?_ _ | with_reducible refine Ext.drew ?_ | with_reducible refine Ext.setCell ?_ ?_ _ | with_reducible refine Ext.more ?_ _ _ | (show _ ≤ _; dsimp only; omega))); done) | ((repeat (first | with_reducible exact Ext.refl _ | with_reducible assumption | with_reducible apply Ext.bothR | with_reducible refine Ext.alloc ?_ _ | with_reducible refine Ext.gr ?_ _ | with_reducible refine Ext.drewN ?_ _ | with_reducible refine Ext.drew ?_ | with_reducible refine Ext.setCell ?_ ?_ _ | with_reducible refine Ext.more ?_ _ _ | (show _ ≤ _; dsimp only; omega))); done) | ((repeat (first | with_reducible exact Ext.refl _ | with_reducible exact Ext.sameG _ _ _ _ | with_reducible assumption | with_reducible refine Ext.bothR (n := 0) ?_ | with_reducible refine Ext.alloc ?_ _ | with_reducible refine Ext.gr ?_ _ | with_reducible refine Ext.drewN ?_ _ | with_reducible refine Ext.drew ?_ | with_reducible refine Ext.setCell ?_ ?_ _ | with_reducible refine Ext.more ?_ _ _ | (show _ ≤ _; dsimp only; omega))); done))), Lib.hid (HM4.out.ext (by first | ((repeat (first | with_reducible exact Ext.refl _ | with_reducible assumption | with_reducible refine Ext.alloc ?_ _ | with_reducible refine Ext.gr ?_ _ | with_reducible refine Ext.drewN ?_ _ | with_reducible refine Ext.drew ?_ | with_reducible refine Ext.setCell ?_ ?_ _ | with_reducible refine Ext.more ?_ _ _ | (show _ ≤ _; dsimp only; omega))); done) | ((repeat (first | with_reducible exact Ext.refl _ | with_reducible assumption | with_reducible apply Ext.bothR | with_reducible refine Ext.alloc ?_ _ | with_reducible refine Ext.gr ?_ _ | with_reducible refine Ext.drewN ?_ _ | with_reducible refine Ext.drew ?_ | with_reducible refine Ext.setCell ?_ ?_ _ | with_reducible refine Ext.more ?_ _ _ | (show _ ≤ _; dsimp only; omega))); done) | ((repeat (first | with_reducible exact Ext.refl _ | with_reducible exact Ext.sameG _ _ _ _ | with_reducible assumption | with_reducible refine Ext.bothR (n := 0) ?_ | with_reducible refine Ext.alloc ?_ _ | with_reducible refine Ext.gr ?_ _ | with_reducible refine Ext.drewN ?_ _ | with_reducible refine Ext.drew ?_ | with_reducible refine Ext.setCell ?_ ?_ _ | with_reducible refine Ext.more ?_ _ _ | (show _ ≤ _; dsimp only; omega))); done))), Lib.hid (HX2.out.trans (HX4.out.trans (by first | ((repeat (first | with_reducible exact Ext.refl _ | with_reducible assumption | with_reducible refine Ext.alloc ?_ _ | with_reducible refine Ext.gr ?_ _ | with_reducible refine Ext.drewN ?_ _ | with_reducible refine Ext.drew ?_ | with_reducible refine Ext.setCell ?_ ?_ _ | with_reducible refine Ext.more ?_ _ _ | (show _ ≤ _; dsimp only; omega))); done) | ((repeat (first | with_reducible exact Ext.refl _ | with_reducible assumption | with_reducible apply Ext.bothR | with_reducible refine Ext.alloc ?_ _ | with_reducible refine Ext.gr ?_ _ | with_reducible refine Ext.drewN ?_ _ | with_reducible refine Ext.drew ?_ | with_reducible refine Ext.setCell ?_ ?_ _ | with_reducible refine Ext.more ?_ _ _ | (show _ ≤ _; dsimp only; omega))); done) | ((repeat (first | with_reducible exact Ext.refl _ | with_reducible exact Ext.sameG _ _ _ _ | with_reducible assumption | with_reducible refine Ext.bothR (n := 0) ?_ | with_reducible refine Ext.alloc ?_ _ | with_reducible refine Ext.gr ?_ _ | with_reducible refine Ext.drewN ?_ _ | with_reducible refine Ext.drew ?_ | with_reducible refine Ext.setCell ?_ ?_ _ | with_reducible refine Ext.more ?_ _ _ | (show _ ≤ _; dsimp only; omega))); done))))⟩
            case measure => simp [intOf]; omega
    · obtain rfl : i = A.length := by omega
      go_wp2
      go_ret
      exact ⟨rfl, HE.out.trans (by first | ((repeat (first | with_reducible exact Ext.refl _ | with_reducible assumption | with_reducible refine Ext.alloc ?_ _ | with_reducible refine Ext.gr ?_ _ | with_reducible refine Ext.drewN ?_ _ | with_reducible refine Ext.drew ?_ | with_reducible refine Ext.setCell ?_ ?_ _ | with_reducible refine Ext.more ?_ _ _ | (show _ ≤ _; dsimp only; omega))); done) | ((repeat (first | with_reducible exact Ext.refl _ | with_reducible assumption | with_reducible apply Ext.bothR | with_reducible refine Ext.alloc ?_ _ | with_reducible refine Ext.gr ?_ _ | with_reducible refine Ext.drewN ?_ _ | with_reducible refine Ext.drew ?_ | with_reducible refine Ext.setCell ?_ ?_ _ | with_reducible refine Ext.more ?_ _ _ | (show _ ≤ _; dsimp only; omega))); done))⟩
end Go.Proofs.YtaijkpfgnlkppaaDoor
