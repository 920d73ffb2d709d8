/- The walk of 'TreeSeeks'. -/
import Derived.Test.YtkklhhdkokncnaaDoorTmLw
import Derived.Test.YtkklhhdkokncnaaDoorTn
import Derived.Test.YtkklhhdkokncnaaDoorTreE
import Derived.Test.YtkklhhdkokncnaaDoorLO
import Derived.Test.YtkklhhdkokncnaaDoorOa
import Derived.Deep.DeepCutAuto
namespace Go.Proofs.YtkklhhdkokncnaaDoor
open Go Go.RowKit
set_option maxRecDepth 100000
set_option maxHeartbeats 8000000

theorem lay_ex (wd N T : Nat) (H : Cel) (F : Nat → Cel) (G : Nat → Nat → Cel) : ∃ L, Lay wd N T L H F G := by
  classical
  have key : ∀ h i, h ≤ T → i < itN wd h N → ∀ hx : ∃ p : Nat × Nat, p.1 ≤ T ∧ p.2 < itN wd p.1 N ∧ ofU wd N h i = ofU wd N p.1 p.2, Classical.choose hx = (h, i) := fun h i _ hi hx => by
    obtain ⟨_, b, d⟩ := Classical.choose_spec hx
    obtain ⟨e1, e2⟩ := of_inj hi b d
    exact Prod.ext e1.symm e2.symm
  let X : Nat → Cel := fun k => if k = 0 then H else if hx : ∃ p : Nat × Nat, p.1 ≤ T ∧ p.2 < itN wd p.1 N ∧ k = ofU wd N p.1 p.2 then (if (Classical.choose hx).1 = 0 then F (Classical.choose hx).2 else G (Classical.choose hx).1 (Classical.choose hx).2) else zce
  have hget : ∀ k, k < 1 + sumU wd N (T + 1) → tc ((List.range (1 + sumU wd N (T + 1))).map X) k = X k := fun k hk => by
    unfold tc
    rw [List.getD_eq_getElem?_getD, List.getElem?_map, List.getElem?_range hk]
    rfl
  have hX : ∀ h i, h ≤ T → i < itN wd h N → X (ofU wd N h i) = if h = 0 then F i else G h i := fun h i a b => by
    have hx : ∃ p : Nat × Nat, p.1 ≤ T ∧ p.2 < itN wd p.1 N ∧ ofU wd N h i = ofU wd N p.1 p.2 := ⟨(h, i), a, b, rfl⟩
    have e := key h i a b hx
    show (if ofU wd N h i = 0 then H else _) = _
    rw [if_neg (by have := of_pos wd N h i; omega), dif_pos hx, e]
  refine ⟨(List.range (1 + sumU wd N (T + 1))).map X, by simp, ?_, fun i hi => ?_, fun h i h1 h2 hi => ?_⟩
  · rw [hget 0 (by omega)]
    rfl
  · rw [hget _ (of_great (Nat.zero_le _) hi), hX 0 i (Nat.zero_le _) hi, if_pos rfl]
  · rw [hget _ (of_great h2 hi), hX h i h2 hi, if_neg (by omega)]
theorem laid_as {c : Cfg} {wd N T : Nat} (hc : TreN c wd N T) (h2 : (c.object == 2) = true) (v : Value) (M : List Rw) (hfit : RwsFit M) (w : World) (hv : Rws w v M) (hn : M.length ≤ N) (L0 : List Cel) (h0 : LayM wd N T L0 M) : Calls Tryd.prog 18 #[c.v, v] w
    fun e w' => ∃ ad cap, e = .returned (.slice ad L0.length cap) ∧ Hid (SlAt w' ad L0.length cap (celCells L0)) ∧ Ext w w' :=
  (laid_any hc h2 v M hfit w hv hn).mono fun e w' ⟨ad, cap, L, h1, h3, h4, h5⟩ => by
    have e := Lay.same h3.out h0
    subst e
    exact ⟨ad, cap, h1, h4, h5⟩
/-- What a seek touches of a level. -/
theorem MidS.parts {w N h m : Nat} {l : List Int} (hm : MidS w N h m 0 l) : ∃ k rest, 1 ≤ k ∧ k ≤ w ∧ m * w + k ≤ itN w h N ∧ l.length = k + rest.length ∧ (∀ x, x < k → l.getD x 0 = ((ofU w N h (m * w + x) : Nat) : Int)) ∧ l.drop k = rest ∧
    (rest = [] ∨ ∃ h' m', h = h' + 1 ∧ MidS w N h' m' 0 rest ∧ l.getD k 0 = ((ofU w N h' (m' * w) : Nat) : Int) ∧ m' * w < itN w h' N) := by
  have hd : ∀ {h m : Nat} {l : List Int}, MidS w N h m 0 l → ∃ k rest, 1 ≤ k ∧ k ≤ w ∧ m * w + k ≤ itN w h N ∧ l = ((List.range k).map fun x => ((ofU w N h (m * w + x) : Nat) : Int)) ++ rest ∧ (rest = [] ∨ ∃ h' m', h = h' + 1 ∧ MidS w N h' m' 0 rest) := by
    intro h m l hm
    cases h with
    | zero =>
      obtain ⟨k, h1, h2, h3, rfl⟩ := hm
      exact ⟨k, [], h1, by omega, by omega, by simp, .inl rfl⟩
    | succ h =>
      obtain ⟨k, rest, h1, h2, h3, rfl, h4⟩ := hm
      refine ⟨k, rest, h1, by omega, by omega, by simp, ?_⟩
      rcases h4 with h4 | ⟨m', h4⟩
      · exact .inl h4
      · exact .inr ⟨h, m', rfl, h4⟩
  obtain ⟨k, rest, h1, h2, h3, rfl, h4⟩ := hd hm
  have hl : ((List.range k).map fun x => ((ofU w N h (m * w + x) : Nat) : Int)).length = k := by simp
  refine ⟨k, rest, h1, h2, h3, by rw [List.length_append, hl], fun x hx => ?_, by rw [List.drop_append_of_le_length (by rw [hl]; exact Nat.le_refl _), List.drop_of_length_le (by rw [hl]; exact Nat.le_refl _)]; rfl, ?_⟩
  · rw [List.getD_eq_getElem?_getD, List.getElem?_append_left (by rw [hl]; exact hx), List.getElem?_map, List.getElem?_range hx]
    rfl
  · rcases h4 with h4 | ⟨h', m', e, h4⟩
    · exact .inl h4
    · obtain ⟨k', rest', a1, _, a3, e4, _⟩ := hd h4
      refine .inr ⟨h', m', e, h4, ?_, by omega⟩
      rw [List.getD_eq_getElem?_getD, List.getElem?_append_right (by rw [hl]; exact Nat.le_refl _), hl, Nat.sub_self, e4, List.getElem?_append_left (by simp; omega), List.getElem?_map, List.getElem?_range (by omega)]
      rfl
theorem MidS.len {w N : Nat} : ∀ {h m r : Nat} {s : List Int}, MidS w N h m r s → s.length ≤ (h + 1) * w := by
  intro h
  induction h with
  | zero =>
    rintro m r s ⟨k, h1, h2, h3, rfl⟩
    simp
    omega
  | succ h ih =>
    rintro m r s ⟨k, rest, h1, h2, h3, rfl, h4⟩
    have e : (h + 1 + 1) * w = (h + 1) * w + w := by rw [Nat.add_mul (h + 1) 1 w, Nat.one_mul]
    rcases h4 with rfl | ⟨m', h4⟩
    · simp
      omega
    · have := ih h4
      rw [List.length_append, List.length_map, List.length_range]
      omega
theorem ordIs_as (c : Cfg) (v : Value) (L : List Rw) (hf : RwsFit L) (w : World) (hv : Rws w v L) (R : Bool) (hR : order.ordIs c L = R) : Calls Tryd.prog 17 #[c.v, v] w fun e w' => e = .returned (.bool R) ∧ Ext w w' := by
  subst hR
  exact order.is_any c v L hf w hv.sl
theorem SlB.turnAt {X X' : World} {os : Array Obj} {d d' : Nat} {ad : Option Addr} {n cap : Nat} {cs : List Value} (h : SlB X.heap.size (grew X os d) (.slice ad n cap) n cs) (hs : X'.heap.size = X.heap.size) : SlAt (grew X' os d') ad n cap cs := by
  obtain ⟨a, c, e, h⟩ := (SlB.turn (d' := d') h hs).sl
  cases e
  exact h
theorem treeSeeks_walk (c : Cfg) (M : List Rw) (k : Int) (hf : RwsFit M) (hk : 0 ≤ k ∧ k ≤ 4294967295) (v : Value) (w : World) (ht : Tab w) (hv : Rws w v M) : Calls Tryd.prog 6 #[c.v, v, .int .u32 k] w
    fun e w' => e = .returned (.bool true) ∧ Ext w w' := by
  have HV := Lib.hid hv
  have HF := Lib.hid hf
  have HT := Lib.hid ht
  obtain ⟨ad, cap, rfl, hs0, _⟩ := hv
  have hln := hs0.len
  clear ht hs0
  obtain ⟨I, hI⟩ : ∃ I, order.ordIs c M = I := ⟨_, rfl⟩
  have HI := Lib.hid hI
  by_cases hn : (100 : Int) < (M.length : Int)
  · clear hI hf
    go_enter Tryd.func6, Tryd.ntmps6
    go_wp2_with (first | (go_at_call 15; refine (alive_any _ (Tab.ext HT.out EXX)).mono ?_; rintro e w1 ⟨rfl, os1, n1, rfl⟩) | (go_at_call 17; (with_reducible refine (ordIs_as c _ M HF.out _ (HV.out.ext EXX) _ HI.out).mono ?_); rintro e w1 ⟨rfl, os2, n2, rfl⟩))
    go_ret
    exact ⟨rfl, EXX⟩
  cases I
  · clear hI hf
    go_enter Tryd.func6, Tryd.ntmps6
    go_wp2_with (first | (go_at_call 15; refine (alive_any _ (Tab.ext HT.out EXX)).mono ?_; rintro e w1 ⟨rfl, os1, n1, rfl⟩) | (go_at_call 17; (with_reducible refine (ordIs_as c _ M HF.out _ (HV.out.ext EXX) _ HI.out).mono ?_); rintro e w1 ⟨rfl, os2, n2, rfl⟩))
    go_ret
    exact ⟨rfl, EXX⟩
  by_cases hk2 : (2147483647 : Int) < k
  · clear hI hf
    go_enter Tryd.func6, Tryd.ntmps6
    go_wp2_with (first | (go_at_call 15; refine (alive_any _ (Tab.ext HT.out EXX)).mono ?_; rintro e w1 ⟨rfl, os1, n1, rfl⟩) | (go_at_call 17; (with_reducible refine (ordIs_as c _ M HF.out _ (HV.out.ext EXX) _ HI.out).mono ?_); rintro e w1 ⟨rfl, os2, n2, rfl⟩))
    go_ret
    exact ⟨rfl, EXX⟩
  obtain ⟨hp, h2, hcapM, hr, hok⟩ := order.ordIs_ok hf hI
  have hcOk := treOk_of hp h2
  obtain ⟨wd, N, T, hc⟩ := treN_of hcOk
  obtain ⟨hw, hN, hT4⟩ := hc.bd
  have hMN : M.length ≤ N := by have := hc.N; omega
  obtain ⟨L0, hL0⟩ := lay_ex wd N T (hM M) (fM M) (gM wd M)
  have hL0' : LayM wd N T L0 M := hL0
  have hox : ((Opn.mk 6 k 0 0)).Fits := ⟨by dsimp only; omega, by dsimp only; omega, by dsimp only; omega, by dsimp only; omega⟩
  have hoe : opErr c (Opn.mk 6 k 0 0) = 0 := by
    have h2' : (objOf 6 == c.object) = true := by rw [h2]; rfl
    refine opErr_ok hp h2' ?_
    simp [fitsB]
    omega
  have hlf := LayM.fit hL0' hf (by omega)
  obtain ⟨L1, tl, hrun, _, htl⟩ := tree_means hc hox hp h2 hoe hlf hL0' hMN hr hok
  obtain ⟨s, rfl, hs⟩ := htl rfl
  obtain ⟨dc, hdc⟩ : ∃ dc, (order.ordDone c M (Opn.mk 6 k 0 0)).code = dc := ⟨_, rfl⟩
  obtain ⟨dw, hdw⟩ : ∃ dw, (order.ordDone c M (Opn.mk 6 k 0 0)).word = dw := ⟨_, rfl⟩
  obtain ⟨dr, hdr⟩ : ∃ dr, (order.ordDone c M (Opn.mk 6 k 0 0)).res = dr := ⟨_, rfl⟩
  obtain ⟨D, hD⟩ : ∃ D, findK M k = D := ⟨_, rfl⟩
  have hd : order.ordDone c M (Opn.mk 6 k 0 0) = match look M k with | some u => ⟨M, 0, u + 1, [], 0⟩ | none => ⟨M, 6, 0, [], 0⟩ := by
    unfold order.ordDone order.ordRead
    rw [if_pos (show decide ((6 : Int) ≤ 6) = true by decide), if_pos (show ((6 : Int) == 6) = true by decide)]
    rfl
  obtain ⟨B, hB⟩ : ∃ B, (look M k).isSome = B := ⟨_, rfl⟩
  have hB1 : (dc == 0) = B := by
    rw [← hdc, hd, ← hB]
    cases look M k <;> rfl
  have hB2 : decide (0 ≤ D) = B := by
    rw [← hD, findK_neg, hB]
  rw [hdc, hdw, hdr] at hrun
  have HR := Lib.hid hrun
  have HD := Lib.hid hD
  have HL0 := Lib.hid hL0'
  have HLF := Lib.hid hlf
  have HOX := Lib.hid hox
  have HC := Lib.hid hc
  have HO2 : Hid ((c.object == 2) = true) := Lib.hid (by simp [h2])
  have HOK := Lib.hid hcOk
  have HMN := Lib.hid hMN
  have HTT := Lib.hid hc.T
  have HNODE := Lib.hid hcOk.node
  have hwN := hc.w
  have hcN := hc.N
  have HWN := Lib.hid hwN
  have HCN := Lib.hid hcN
  have HCQ : Hid (0 ≤ c.cap ∧ c.cap ≤ 1000) := Lib.hid (by omega)
  have HLL : Hid (L0.length ≤ 1000) := Lib.hid (by
    have := sum_small hc
    rw [hL0'.len]
    omega)
  have HSEG := Lib.hid hs
  have hsl : s.length ≤ 300 := by
    rcases hs with rfl | hs
    · simp
    · have h1 := hs.len
      have h2 : (T + 1) * wd ≤ 5 * wd := Nat.mul_le_mul_right wd (by omega)
      omega
  obtain ⟨tl, htl⟩ : ∃ tl : List Int, (0 :: s) = tl := ⟨_, rfl⟩
  have HTLE := Lib.hid htl
  have htlen : tl.length = s.length + 1 := by rw [← htl]; rfl
  rw [htl] at HR
  have g0 : tl.getD 0 0 = 0 := by rw [← htl]; rfl
  have nd0 : ¬ c.node = 0 := by omega
  clear hp h2 hcapM hr hok hcOk hc hMN hL0 hL0' hox hoe hlf hrun hs hdc hdw hdr hD hd hB htl hwN hcN hI hf
  go_enter Tryd.func6, Tryd.ntmps6
  go_upto_region 4 with (first | (go_at_call 15; refine (alive_any _ (Tab.ext HT.out EXX)).mono ?_; rintro e w1 ⟨rfl, os1, n1, rfl⟩) | (go_at_call 17; (with_reducible refine (ordIs_as c _ M HF.out _ (HV.out.ext EXX) _ HI.out).mono ?_); rintro e w1 ⟨rfl, os2, n2, rfl⟩))
  refine wp_gen (fun W => Ext (w.alloc (.cells #[.int .u8 c.object, .int .i64 c.instances, .int .i64 c.threads, .int .u8 c.kind, .int .i64 c.stripes, .int .i64 c.bits, .int .i64 c.cap, .int .i64 c.node, .int .i64 c.batch, .int .i64 c.chunk, .int .u64 c.limit, .int .u64 c.most] 24)) W) EXX ?_
  intro W HB0
  have HEW : Hid (Ext w W) := Lib.hid (Ext.trans EX HB0)
  have HVW := Lib.hid (HV.out.ext HEW.out)
  have HTW := Lib.hid (Tab.ext HT.out HEW.out)
  have HKW : Hid (Holds W [(w.heap.size, 0, .int .u8 c.object), (w.heap.size, 1, .int .i64 c.instances), (w.heap.size, 2, .int .i64 c.threads), (w.heap.size, 3, .int .u8 c.kind), (w.heap.size, 4, .int .i64 c.stripes), (w.heap.size, 5, .int .i64 c.bits), (w.heap.size, 6, .int .i64 c.cap), (w.heap.size, 7, .int .i64 c.node), (w.heap.size, 8, .int .i64 c.batch), (w.heap.size, 9, .int .i64 c.chunk), (w.heap.size, 10, .int .u64 c.limit), (w.heap.size, 11, .int .u64 c.most)]) := Lib.hid (Holds.ext (by simp [Holds, go_sem]) HB0)
  clear HB0
  go_cut [8, 9, 10, 11] (fun t8 t9 t10 t11 wn => ∃ b9 ad10 cap10, t9 = .pointer (some ⟨b9, 0, none⟩) ∧ t10 = .slice ad10 tl.length cap10 ∧ t11 = .bool true ∧ Hid (SlAt wn ad10 tl.length cap10 (offV tl)) ∧ Hid (Holds wn [(b9, 0, .int .i64 dc)]) ∧ Hid (Ext W wn))
  case first =>
    go_region_held3 (fun W => W.cell? ⟨w.heap.size, 0, none⟩ = some (.int .u8 c.object) ∧ W.cell? ⟨w.heap.size, 1, none⟩ = some (.int .i64 c.instances) ∧ W.cell? ⟨w.heap.size, 2, none⟩ = some (.int .i64 c.threads) ∧ W.cell? ⟨w.heap.size, 3, none⟩ = some (.int .u8 c.kind) ∧ W.cell? ⟨w.heap.size, 4, none⟩ = some (.int .i64 c.stripes) ∧ W.cell? ⟨w.heap.size, 5, none⟩ = some (.int .i64 c.bits) ∧ W.cell? ⟨w.heap.size, 6, none⟩ = some (.int .i64 c.cap) ∧ W.cell? ⟨w.heap.size, 7, none⟩ = some (.int .i64 c.node) ∧ W.cell? ⟨w.heap.size, 8, none⟩ = some (.int .i64 c.batch) ∧ W.cell? ⟨w.heap.size, 9, none⟩ = some (.int .i64 c.chunk) ∧ W.cell? ⟨w.heap.size, 10, none⟩ = some (.int .u64 c.limit) ∧ W.cell? ⟨w.heap.size, 11, none⟩ = some (.int .u64 c.most)) (exact HKW.out.ext EX) (first | (go_at_call 18; (with_reducible refine (laid_as HC.out HO2.out _ M HF.out _ ?_ HMN.out L0 HL0.out).mono ?_); (exact HVW.out.ext EXY); rintro e w3 ⟨ad3, cap3, rfl, HS3, os3, n3, rfl⟩; have hs3 := HS3.out; (try simp only [drew_grew] at hs3); clear HS3; have HS3 := Lib.hid hs3; clear hs3) | (go_at_call 14; (with_reducible refine (done_as c (Opn.mk 6 k 0 0) L0 _ HR.out HOX.out HLF.out _ _ ?_ ?_ HLL.out).mono ?_); (exact Tab.ext HTW.out EXY); (exact ⟨_, _, rfl, HS3.out.ext EXY⟩); rintro e w4 ⟨ad4, cap4, va4, r4, ⟨rfl, HS4, HA4, HR4⟩, os4, n4, rfl⟩; obtain ⟨adr4, capr4, e9, _⟩ := HR4.out; subst e9))
    all_goals
      go_wp2_with fail
      go_meet
      case rel =>
        obtain ⟨ad5, cap5, e5, hs5⟩ := HA4.out.sl
        subst e5
        (try simp only [grew_grew] at hs5)
        refine ⟨_, ad5, cap5, rfl, rfl, rfl, Lib.hid ?_, Lib.hid (by simp [Holds, go_sem]), Lib.hid EXY⟩
        first
          | exact SlB.turnAt HA4.out (by simp [go_sem])
          | (rw [← grew_grew _ os3 os4 n3 n4]; exact SlB.turnAt HA4.out (by simp [go_sem]))
          | exact hs5.ext EXY
  case rest =>
    obtain ⟨b9, ad10, cap10, rfl, rfl, rfl, HA, HH, HX⟩ := hcut
    have HVW2 := Lib.hid (HVW.out.ext HX.out)
    have HKW2 := Lib.hid (HKW.out.ext HX.out)
    have HEW2 := Lib.hid (HEW.out.trans HX.out)
    clear HVW HTW HKW HEW HX HV
    obtain ⟨ba, oa, rfl, hca⟩ := HA.out.pos (by omega)
    have HCA : Hid (∀ j, j < tl.length → wc.cell? ⟨ba, oa + j, none⟩ = some (.int .i64 (tl.getD j 0))) := Lib.hid fun j hj => hca j _ (off_at hj)
    obtain ⟨TL, hTL⟩ : ∃ TL, tl.length = TL := ⟨_, rfl⟩
    have HTL := Lib.hid hTL
    rw [hTL] at HCA
    rw [hTL]
    have hTL1 : 1 ≤ TL ∧ TL ≤ 301 := by omega
    clear hTL htlen
    have z0 := HCA.out 0 (by omega)
    rw [g0, Nat.add_zero] at z0
    have q1 := HH.out
    simp only [Holds] at q1
    have kb := World.block_lt_of_cell? _ _ z0
    have kb9 := World.block_lt_of_cell? _ _ q1
    dsimp only at kb kb9
    have tl0 : ((TL : Int) == 0) = false := by rw [beq_eq_false_iff_ne]; omega
    have tl0' : ¬ TL = 0 := by omega
    have tl0'' : (TL == 0) = false := by rw [beq_eq_false_iff_ne]; omega
    have q2 := HKW2.out
    have kbw : w.heap.size < wc.heap.size := World.block_lt_of_cell? _ ⟨w.heap.size, 0, none⟩ ((holds_iff _ _).1 q2 (w.heap.size, 0, .int .u8 c.object) (by simp))
    have kk : IntKind.u64.wrap k = k := by rw [IntKind.wrap_u64]; omega
    have tl1 : (0 : Int) < (TL : Int) := by omega
    clear hca q2 HA
    have kq := HKW2.out
    simp only [Holds] at kq
    go_upto_region 5 with fail
    have hr5 : ∀ b : Bool, (b != b) = false := fun b => by cases b <;> rfl
    cases B
    all_goals
      (refine wp_region_ext_lit (by kernel_rfl) (by kernel_rfl) ?_)
      (repeat (go_big_quiet_step (first | (go_at_call 19; exact quiet_ext ((find_as _ M k _ (HVW2.out.ext EXY) D HD.out).mono fun e w' h => h)))))
      (refine wpQuiet_nil ?_; intro _ hw'; obtain ⟨⟨osq, nq⟩, hw''⟩ := hw'; replace hw'' : _ = grew _ osq nq := hw''; subst hw'')
      clear HVW2 HF HD q1 kb9
      go_wp2_with (go_at_call 20; (with_reducible refine (top13_as c HOK.out _ T HTT.out).mono ?_); rintro e w1 ⟨rfl, os5, n5, rfl⟩)
      go_loopw [12, 13, 14, 15] (fun t12 t13 _ _ wr => ∃ (p : Nat) (hh : Int), p ≤ TL ∧ t12 = .int .i64 p ∧ t13 = .int .i64 hh ∧ -1 ≤ hh ∧ hh ≤ T ∧ Hid (p = TL ∨ ∃ h m : Nat, hh = h ∧ MidS wd N h m 0 (tl.drop p)) ∧ Hid (Ext wc wr)) (fun _ t13 _ _ _ => (intOf t13 + 1).toNat)
      case atStart =>
        refine ⟨1, T, by omega, rfl, rfl, by omega, Int.le_refl _, Lib.hid ?_, Lib.hid EXX⟩
        rw [← HTLE.out]
        rcases HSEG.out with h | h
        · left
          have := HTL.out
          rw [← HTLE.out, h] at this
          exact this
        · exact .inr ⟨T, 0, rfl, h⟩
      case round =>
        obtain ⟨p, hh, hp, rfl, rfl, hh1, hh2, HM, HE⟩ := hrel
        by_cases hpl : p = TL
        · subst hpl
          have g2 : ((p : Int) == (p : Int)) = true := by simp
          by_cases h0 : 0 ≤ hh
          · go_wp2
            go_ret
            exact ⟨rfl, HEW2.out.trans (HE.out.trans EXX)⟩
          · go_wp2
            go_ret
            exact ⟨rfl, HEW2.out.trans (HE.out.trans EXX)⟩
        · obtain ⟨h, m, rfl, hmid⟩ := HM.out.resolve_left hpl
          obtain ⟨n, rest, n1, n2, n3, n4, n5, n6, n7⟩ := hmid.parts
          have hpl2 : (p : Int) < (TL : Int) := by omega
          have hhT : h ≤ T := by omega
          have hlen : TL = p + n + rest.length := by
            rw [List.length_drop, HTL.out] at n4
            omega
          have hget : ∀ x, x < n → tl.getD (p + x) 0 = ((ofU wd N h (m * wd + x) : Nat) : Int) := fun x hx => by
            rw [← n5 x hx, List.getD_eq_getElem?_getD, List.getD_eq_getElem?_getD, List.getElem?_drop]
          have hgetn : tl.getD (p + n) 0 = (tl.drop p).getD n 0 := by
            rw [List.getD_eq_getElem?_getD, List.getD_eq_getElem?_getD, List.getElem?_drop]
          have hiN : m * wd < itN wd h N := by omega
          obtain ⟨K, hK⟩ : ∃ K, ofU wd N h (m * wd) = K := ⟨_, rfl⟩
          obtain ⟨K0, hK0⟩ : ∃ K0, ofU wd N h 0 = K0 := ⟨_, rfl⟩
          have hKK0 : K = K0 + m * wd := by
            rw [← hK, ← hK0]
            unfold ofU
            omega
          have hKx : ∀ x, ofU wd N h (m * wd + x) = K + x := fun x => by
            rw [← hK]
            unfold ofU
            omega
          have hof := HC.out.off (k := h) hhT hiN
          have hof0 := HC.out.off (k := h) hhT (i := 0) (by omega)
          rw [hK] at hof
          rw [hK0] at hof0
          have hKb : K ≤ 300 ∧ K0 ≤ 300 := by
            have a1 := of_great hhT hiN
            have a2 := sum_small HC.out
            omega
          have HOF := Lib.hid hof
          have HOF0 : Hid (treOff c (h : Int) 0 = (K0 : Int)) := Lib.hid hof0
          have HHQ : Hid (0 ≤ (h : Int) ∧ (h : Int) ≤ 4) := Lib.hid (by omega)
          have HHQ3 : Hid (0 ≤ (h : Int) ∧ (h : Int) ≤ 300) := Lib.hid (by omega)
          have HMQ : Hid (-1000 ≤ ((m * wd : Nat) : Int) ∧ ((m * wd : Nat) : Int) ≤ 1000) := Lib.hid (by omega)
          obtain ⟨U, hU⟩ : ∃ U, itN wd h N = U := ⟨_, rfl⟩
          have HUP : Hid (upI c.cap c.node (h : Int) = (U : Int)) := Lib.hid (by
            have := HC.out.up N h
            unfold treUp at this
            rw [HCN.out, this, hU])
          obtain ⟨F, hF⟩ : ∃ F, m * wd = F := ⟨_, rfl⟩
          have hmod : ((F : Nat) : Int).tmod c.node = 0 := by
            rw [HWN.out, Int.tmod_eq_emod_of_nonneg (by omega), ← Int.natCast_emod, ← hF, Nat.mul_mod_left]
            rfl
          have f0 : ¬ ((F : Nat) : Int) < 0 := by omega
          have w1 : IntKind.i64.wrap ((K : Int) - (K0 : Int)) = ((F : Nat) : Int) := by rw [IntKind.wrap_i64]; omega
          have h00 : (0 : Int) ≤ (h : Int) := by omega
          have p0 : (0 : Int) ≤ (p : Int) := by omega
          have c0 := ext_cell HE.out (HCA.out p (by omega))
          have hget0 := hget 0 (by omega)
          rw [Nat.add_zero, hKx 0, Nat.add_zero] at hget0
          rw [hget0] at c0
          have hwr := HE.out.size
          have kbw1 : w.heap.size < wr.heap.size := by omega
          have kba1 : ba < wr.heap.size := by omega
          have HKR : Hid (Holds wr [(w.heap.size, 0, .int .u8 c.object), (w.heap.size, 1, .int .i64 c.instances), (w.heap.size, 2, .int .i64 c.threads), (w.heap.size, 3, .int .u8 c.kind), (w.heap.size, 4, .int .i64 c.stripes), (w.heap.size, 5, .int .i64 c.bits), (w.heap.size, 6, .int .i64 c.cap), (w.heap.size, 7, .int .i64 c.node), (w.heap.size, 8, .int .i64 c.batch), (w.heap.size, 9, .int .i64 c.chunk), (w.heap.size, 10, .int .u64 c.limit), (w.heap.size, 11, .int .u64 c.most)]) := Lib.hid (HKW2.out.ext HE.out)
          have kr := HKR.out
          simp only [Holds] at kr
          have e7 : (rest = [] ∧ p + n = TL) ∨ (p + n < TL ∧ n = wd) ∨ (p + n < TL ∧ n < wd ∧ ∃ X : Int, tl.getD (p + n) 0 = X ∧ X ≠ (K : Int) + n) := by
            rcases n7 with e | ⟨h', m', e1, e2, e3, e4⟩
            · left
              have : rest.length = 0 := by rw [e]; rfl
              exact ⟨e, by omega⟩
            · have hr1 : 1 ≤ rest.length := by
                obtain ⟨a, b, a1, _, _, a4, _⟩ := e2.parts
                omega
              by_cases en : n = wd
              · exact .inr (.inl ⟨by omega, en⟩)
              · refine .inr (.inr ⟨by omega, by omega, _, rfl, ?_⟩)
                rw [hgetn, e3]
                have a1 : ofU wd N h' (m' * wd) < ofU wd N h (m * wd + n) := of_lt (by omega) e4
                rw [hKx n] at a1
                omega
          have hnext : Hid (p + n = TL ∨ ∃ h' m' : Nat, (h : Int) - 1 = h' ∧ MidS wd N h' m' 0 (tl.drop (p + n))) := Lib.hid (by
            rcases n7 with e | ⟨h', m', e1, e2, e3, e4⟩
            · left
              have : rest.length = 0 := by rw [e]; rfl
              omega
            · right
              refine ⟨h', m', by omega, ?_⟩
              rw [← List.drop_drop, n6]
              exact e2)
          have HGET : Hid (∀ x, x < n → tl.getD (p + x) 0 = ((K + x : Nat) : Int)) := Lib.hid fun x hx => by rw [hget x hx, hKx]
          have hFU : F + n ≤ U := by omega
          rw [hF] at HMQ HOF
          have hFb : F ≤ 1000 := by
            have := HMQ.out
            omega
          clear hmid n5 n6 n7 hget hgetn hK hK0 hKx hof hof0 hU hF HM hget0 n3 hiN hKK0 hlen
          go_upto_region 11 with fail
          (refine wp_region_ext_lit (by kernel_rfl) (by kernel_rfl) ?_)
          (repeat (go_big_quiet_step (first | (go_at_call 21; exact quiet_ext ((off_as c HOK.out (h : Int) 0 HHQ.out (by omega) _ _ HOF0.out).mono fun e w' h => h)))))
          (refine wpQuiet_nil ?_; intro _ hw'; obtain ⟨⟨osq, nq⟩, hw''⟩ := hw'; replace hw'' : _ = grew _ osq nq := hw''; subst hw'')
          go_wp2
          go_loopw [15] (fun t15 wi => ∃ x : Nat, x ≤ n ∧ t15 = .int .i64 x ∧ Hid (Ext wr wi)) (fun t15 _ => n - (intOf t15).toNat)
          case atStart => exact ⟨0, Nat.zero_le _, rfl, Lib.hid EXX⟩
          case round =>
            obtain ⟨x, hx, rfl, HEI⟩ := hrel
            have hwi := HEI.out.size
            have kbw2 : w.heap.size < wr.heap.size := by omega
            have kba2 : ba < wr.heap.size := by omega
            have HKI : Hid (Holds wr [(w.heap.size, 0, .int .u8 c.object), (w.heap.size, 1, .int .i64 c.instances), (w.heap.size, 2, .int .i64 c.threads), (w.heap.size, 3, .int .u8 c.kind), (w.heap.size, 4, .int .i64 c.stripes), (w.heap.size, 5, .int .i64 c.bits), (w.heap.size, 6, .int .i64 c.cap), (w.heap.size, 7, .int .i64 c.node), (w.heap.size, 8, .int .i64 c.batch), (w.heap.size, 9, .int .i64 c.chunk), (w.heap.size, 10, .int .u64 c.limit), (w.heap.size, 11, .int .u64 c.most)]) := Lib.hid (HKR.out.ext HEI.out)
            have ki := HKI.out
            simp only [Holds] at ki
            have w2 : IntKind.i64.wrap ((p : Int) + (x : Int)) = ((p : Int) + (x : Int)) := by rw [IntKind.wrap_i64]; omega
            have w3 : IntKind.i64.wrap ((K : Int) + (x : Int)) = ((K : Int) + (x : Int)) := by rw [IntKind.wrap_i64]; omega
            have w4 : IntKind.i64.wrap ((F : Int) + (x : Int)) = ((F : Int) + (x : Int)) := by rw [IntKind.wrap_i64]; omega
            have px0 : (0 : Int) ≤ ((p : Int) + (x : Int)) := by omega
            by_cases hxn : x < n
            · have cx := ext_cell HEI.out (ext_cell HE.out (HCA.out (p + x) (by omega)))
              rw [HGET.out x hxn, Int.natCast_add] at cx
              have b1 : decide (((p : Int) + (x : Int)) < (TL : Int)) = true := decide_eq_true (by omega)
              have b1' : ((p : Int) + (x : Int)) < (TL : Int) := by omega
              have b2 : decide ((x : Int) < c.node) = true := decide_eq_true (by have := HWN.out; omega)
              have b2' : (x : Int) < c.node := by have := HWN.out; omega
              have b3 : (((K : Int) + (x : Int)) == ((K : Int) + (x : Int))) = true := by simp
              have b4 : decide (((F : Int) + (x : Int)) < (U : Int)) = true := decide_eq_true (by omega)
              have b4' : ((F : Int) + (x : Int)) < (U : Int) := by omega
              go_upto_region 15 with fail
              (refine wp_region_ext_lit (by kernel_rfl) (by kernel_rfl) ?_)
              (repeat (go_big_quiet_step (first | (go_at_call 21; exact quiet_ext ((off_as c HOK.out (h : Int) ((F : Nat) : Int) HHQ.out HMQ.out _ _ HOF.out).mono fun e w' h => h)) | (go_at_call 22; exact quiet_ext ((items_as _ _ _ HCQ.out HNODE.out HHQ3.out _ _ HUP.out).mono fun e w' h => ⟨h.1, by rw [h.2]; exact Ext.refl _⟩)))))
              (refine wpQuiet_nil ?_; intro _ hw'; obtain ⟨⟨osq, nq⟩, hw''⟩ := hw'; replace hw'' : _ = grew _ osq nq := hw''; subst hw'')
              go_wp2
              go_roundw
              case rel => exact ⟨x + 1, by omega, by go_num, Lib.hid (HEI.out.trans EXX)⟩
              case measure => simp [intOf] <;> omega
            · obtain rfl : x = n := by omega
              rcases e7 with ⟨_, e7⟩ | ⟨e7, e8⟩ | ⟨e7, e8, X, e9, e10⟩
              · have b1 : decide (((p : Int) + (x : Int)) < (TL : Int)) = false := decide_eq_false (by omega)
                have b1' : ¬ ((p : Int) + (x : Int)) < (TL : Int) := by omega
                go_upto_region 15 with fail
                (refine wp_region_ext_lit (by kernel_rfl) (by kernel_rfl) ?_)
                (repeat (go_big_quiet_step (first | (go_at_call 21; exact quiet_ext ((off_as c HOK.out (h : Int) ((F : Nat) : Int) HHQ.out HMQ.out _ _ HOF.out).mono fun e w' h => h)) | (go_at_call 22; exact quiet_ext ((items_as _ _ _ HCQ.out HNODE.out HHQ3.out _ _ HUP.out).mono fun e w' h => ⟨h.1, by rw [h.2]; exact Ext.refl _⟩)))))
                (refine wpQuiet_nil ?_; intro _ hw'; obtain ⟨⟨osq, nq⟩, hw''⟩ := hw'; replace hw'' : _ = grew _ osq nq := hw''; subst hw'')
                go_wp2
                go_roundw
                case rel => exact ⟨p + x, (h : Int) - 1, by omega, by go_num, by go_num, by omega, by omega, hnext, Lib.hid (HE.out.trans (HEI.out.trans EXX))⟩
                case measure => simp [intOf] <;> omega
              · have b1 : decide (((p : Int) + (x : Int)) < (TL : Int)) = true := decide_eq_true (by omega)
                have b1' : ((p : Int) + (x : Int)) < (TL : Int) := by omega
                have b2 : decide ((x : Int) < c.node) = false := decide_eq_false (by have := HWN.out; omega)
                have b2' : ¬ (x : Int) < c.node := by have := HWN.out; omega
                clear e8
                go_upto_region 15 with fail
                (refine wp_region_ext_lit (by kernel_rfl) (by kernel_rfl) ?_)
                (repeat (go_big_quiet_step (first | (go_at_call 21; exact quiet_ext ((off_as c HOK.out (h : Int) ((F : Nat) : Int) HHQ.out HMQ.out _ _ HOF.out).mono fun e w' h => h)) | (go_at_call 22; exact quiet_ext ((items_as _ _ _ HCQ.out HNODE.out HHQ3.out _ _ HUP.out).mono fun e w' h => ⟨h.1, by rw [h.2]; exact Ext.refl _⟩)))))
                (refine wpQuiet_nil ?_; intro _ hw'; obtain ⟨⟨osq, nq⟩, hw''⟩ := hw'; replace hw'' : _ = grew _ osq nq := hw''; subst hw'')
                go_wp2
                go_roundw
                case rel => exact ⟨p + x, (h : Int) - 1, by omega, by go_num, by go_num, by omega, by omega, hnext, Lib.hid (HE.out.trans (HEI.out.trans EXX))⟩
                case measure => simp [intOf] <;> omega
              · have cx := ext_cell HEI.out (ext_cell HE.out (HCA.out (p + x) (by omega)))
                rw [e9] at cx
                have b1 : decide (((p : Int) + (x : Int)) < (TL : Int)) = true := decide_eq_true (by omega)
                have b1' : ((p : Int) + (x : Int)) < (TL : Int) := by omega
                have b2 : decide ((x : Int) < c.node) = true := decide_eq_true (by have := HWN.out; omega)
                have b2' : (x : Int) < c.node := by have := HWN.out; omega
                have b3 : (X == ((K : Int) + (x : Int))) = false := by
                  simp only [beq_eq_false_iff_ne, ne_eq]
                  omega
                go_upto_region 15 with fail
                (refine wp_region_ext_lit (by kernel_rfl) (by kernel_rfl) ?_)
                (repeat (go_big_quiet_step (first | (go_at_call 21; exact quiet_ext ((off_as c HOK.out (h : Int) ((F : Nat) : Int) HHQ.out HMQ.out _ _ HOF.out).mono fun e w' h => h)) | (go_at_call 22; exact quiet_ext ((items_as _ _ _ HCQ.out HNODE.out HHQ3.out _ _ HUP.out).mono fun e w' h => ⟨h.1, by rw [h.2]; exact Ext.refl _⟩)))))
                (refine wpQuiet_nil ?_; intro _ hw'; obtain ⟨⟨osq, nq⟩, hw''⟩ := hw'; replace hw'' : _ = grew _ osq nq := hw''; subst hw'')
                go_wp2
                go_roundw
                case rel => exact ⟨p + x, (h : Int) - 1, by omega, by go_num, by go_num, by omega, by omega, hnext, Lib.hid (HE.out.trans (HEI.out.trans EXX))⟩
                case measure => simp [intOf] <;> omega
end Go.Proofs.YtkklhhdkokncnaaDoor
