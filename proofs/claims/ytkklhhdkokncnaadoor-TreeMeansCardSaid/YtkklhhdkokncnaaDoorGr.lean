/- The walks of the reference of the layer 'tree': offsets, the last item, the table. -/
import Derived.Test.YtkklhhdkokncnaaDoorGd
import Derived.Test.YtkklhhdkokncnaaDoorGf
import Derived.Outline
namespace Go.Proofs.YtkklhhdkokncnaaDoor
open Go Go.RowKit
set_option maxRecDepth 100000
set_option maxHeartbeats 8000000

theorem offR_any (c : Cfg) (hc : TreOk c) (h i : Int) (hh : 0 ≤ h ∧ h ≤ 4) (hi : -1000 ≤ i ∧ i ≤ 1000) (w : World) : Calls Tryd.prog 21 #[c.v, .int .i64 h, .int .i64 i] w
    fun e w' => e = .returned (.int .i64 (treOff c h i)) ∧ Ext w w' := by
  obtain ⟨k, rfl⟩ : ∃ k : Nat, h = k := ⟨h.toNat, by omega⟩
  have hcap := hc.cap
  have hnode := hc.node
  have htop := topI_bd c.cap c.node
  obtain ⟨T, hT⟩ : ∃ T, treTop c = T := ⟨_, rfl⟩
  have HTOP := Lib.hid hT
  change 0 ≤ treTop c ∧ treTop c ≤ 4 at htop
  rw [hT] at htop
  obtain ⟨U, hU⟩ : ∃ U, upI c.cap c.node k = U := ⟨_, rfl⟩
  have HU := Lib.hid hU
  have u1 := upI_le (n := c.cap) (w := c.node) (h := k) (by omega) hnode (by omega)
  have u0 := upI_nonneg c.cap c.node k
  rw [hU] at u1 u0
  have k0 : (0 : Int) ≤ (k : Int) := by omega
  have d0 : decide ((k : Int) < 0) = false := by simp
  clear hT hU
  cases d1 : decide (T < (k : Int))
  · cases d2 : decide (i < 0)
    · cases d3 : decide (U ≤ i)
      · have HO : Hid (treOff c k i = 1 + sumI c.cap c.node k + i) := Lib.hid (offI_yes k0 (by change (k : Int) ≤ treTop c; rw [HTOP.out]; simpa using d1) (by simpa using d2) (by rw [HU.out]; simpa using d3))
        have HSB := Lib.hid (fun j : Nat => fun hj : j ≤ 5 => sumI_bd (n := c.cap) (w := c.node) (by omega) hnode j hj)
        have hk5 : k ≤ 4 := by omega
        go_enter Tryd.func21, Tryd.ntmps21
        go_wp2_with (first | (go_at_call 20; refine (topR13_any c hc _).mono ?_; rintro e w1 ⟨rfl, os1, n1, rfl⟩; rw [HTOP.out]) | (go_at_call 22; refine (itemsI_any c.cap c.node k (by omega) hnode (by omega) _).mono ?_; rintro e w2 ⟨rfl, rfl⟩; rw [HU.out]))
        refine wp_gen (fun W => Ext (w.alloc (.cells #[.int .u8 c.object, .int .i64 c.instances, .int .i64 c.threads, .int .u8 c.kind, .int .i64 c.stripes, .int .i64 c.bits, .int .i64 c.cap, .int .i64 c.node, .int .i64 c.batch, .int .i64 c.chunk, .int .u64 c.limit, .int .u64 c.most] 24)) W) EX ?_
        intro W0 HW0
        have HW := Lib.hid HW0
        clear HW0
        go_loopw [7, 8] (fun t7 t8 wr => ∃ j : Nat, j ≤ k ∧ t8 = .int .i64 j ∧ t7 = .int .i64 (1 + sumI c.cap c.node j) ∧ Ext W0 wr) (fun _ t8 _ => k - (intOf t8).toNat)
        case atStart => exact ⟨0, Nat.zero_le _, rfl, rfl, Ext.refl _⟩
        case round =>
          obtain ⟨j, hj, rfl, rfl, hx⟩ := hrel
          obtain ⟨S, hS⟩ : ∃ S, sumI c.cap c.node j = S := ⟨_, rfl⟩
          have hsb := HSB.out j (by omega)
          rw [hS] at hsb
          have HS := Lib.hid hS
          have HX := Lib.hid hx
          clear hx hS
          by_cases hlt : j < k
          · have g6 : wr.cell? ⟨w.heap.size, 6, none⟩ = some (.int .i64 c.cap) := ext_cell HX.out (ext_cell HW.out (by simp [go_sem]))
            have g7 : wr.cell? ⟨w.heap.size, 7, none⟩ = some (.int .i64 c.node) := ext_cell HX.out (ext_cell HW.out (by simp [go_sem]))
            have l2 := World.block_lt_of_cell? _ _ g6
            dsimp only at l2
            have u2 := upI_le (n := c.cap) (w := c.node) (h := j) (by omega) hnode (by omega)
            have u3 := upI_nonneg c.cap c.node j
            obtain ⟨U2, hU2⟩ : ∃ U2, upI c.cap c.node j = U2 := ⟨_, rfl⟩
            rw [hU2] at u2 u3
            have HU2 := Lib.hid hU2
            have j0 : (0 : Int) ≤ (j : Int) := by omega
            have j1 : (j : Int) < (k : Int) := by omega
            have hw1 : wrap64 (1 + S + U2) = 1 + S + U2 := by unfold wrap64; omega
            clear hU2
            go_wp2_with (go_at_call 22; refine (itemsI_any c.cap c.node j (by omega) hnode (by omega) _).mono ?_; rintro e w2 ⟨rfl, rfl⟩; rw [HU2.out])
            go_roundw
            case rel => exact ⟨j + 1, by omega, by go_num, by simp only [sumI, HS.out, HU2.out]; first | rw [hw1, Int.add_assoc] | rw [Int.add_assoc], HX.out⟩
            case measure => simp [intOf]; omega
          · obtain rfl : j = k := by omega
            have hw1 : wrap64 (1 + S + i) = 1 + S + i := by unfold wrap64; omega
            go_wp2
            go_ret
            exact ⟨by rw [HO.out, HS.out]; first | rfl | (show Ending.returned (.int .i64 (wrap64 (1 + S + i))) = _; rw [hw1]), (Ext.trans EX HW.out).trans HX.out⟩
      · have HO : Hid (treOff c k i = -1) := Lib.hid (offI_no (by rw [HU.out]; simp at d3; omega))
        go_enter Tryd.func21, Tryd.ntmps21
        go_wp2_with (first | (go_at_call 20; refine (topR13_any c hc _).mono ?_; rintro e w1 ⟨rfl, os1, n1, rfl⟩; rw [HTOP.out]) | (go_at_call 22; refine (itemsI_any c.cap c.node k (by omega) hnode (by omega) _).mono ?_; rintro e w2 ⟨rfl, rfl⟩; rw [HU.out]))
        go_ret
        exact ⟨by rw [HO.out]; rfl, EX⟩
    · have HO : Hid (treOff c k i = -1) := Lib.hid (offI_no (by simp at d2; omega))
      go_enter Tryd.func21, Tryd.ntmps21
      go_wp2_with (first | (go_at_call 20; refine (topR13_any c hc _).mono ?_; rintro e w1 ⟨rfl, os1, n1, rfl⟩; rw [HTOP.out]) | (go_at_call 22; refine (itemsI_any c.cap c.node k (by omega) hnode (by omega) _).mono ?_; rintro e w2 ⟨rfl, rfl⟩; rw [HU.out]))
      go_ret
      exact ⟨by rw [HO.out]; rfl, EX⟩
  · have HO : Hid (treOff c k i = -1) := Lib.hid (offI_no (by left; change treTop c < _; rw [HTOP.out]; simpa using d1))
    go_enter Tryd.func21, Tryd.ntmps21
    go_wp2_with (first | (go_at_call 20; refine (topR13_any c hc _).mono ?_; rintro e w1 ⟨rfl, os1, n1, rfl⟩; rw [HTOP.out]) | (go_at_call 22; refine (itemsI_any c.cap c.node k (by omega) hnode (by omega) _).mono ?_; rintro e w2 ⟨rfl, rfl⟩; rw [HU.out]))
    go_ret
    exact ⟨by rw [HO.out]; rfl, EX⟩

theorem upI_step {n w h : Int} (hn : 0 ≤ n) (hw : w = 2 ∨ w = 3 ∨ w = 4) (hh : h = 1 ∨ h = 2 ∨ h = 3 ∨ h = 4) : upI n w h = (upI n w (h - 1) + w - 1) / w := by
  rw [upI_eq hn hw (by omega), upI_eq hn hw (h := h - 1) (by omega)]
  rcases hw with rfl | rfl | rfl <;> rcases hh with rfl | rfl | rfl | rfl
  all_goals
    simp only [Int.reduceSub, Int.reduceToNat, Int.reducePow]
    omega
theorem endR_any (n w h i : Int) (hn : 0 ≤ n ∧ n ≤ 32) (hw : w = 2 ∨ w = 3 ∨ w = 4) (hh : h = 1 ∨ h = 2 ∨ h = 3 ∨ h = 4) (hi : 0 ≤ i ∧ i < upI n w h) (W : World) : Calls Tryd.prog 40 #[.int .i64 n, .int .i64 w, .int .i64 h, .int .i64 i] W
    fun e w' => e = .returned (.int .i64 (endI n w h i)) ∧ W = w' := by
  have hst := upI_step hn.1 hw hh
  have u1 := upI_le hn.1 hw (h := h - 1) (by omega)
  have u0 := upI_nonneg n w (h - 1)
  obtain ⟨B, hB⟩ : ∃ B, upI n w (h - 1) = B := ⟨_, rfl⟩
  rw [hst, hB] at hi
  rw [hB] at u1 u0
  have HE : Hid (endI n w h i = if (i + 1) * w ≤ B then (i + 1) * w - 1 else B - 1) := Lib.hid (by unfold endI; rw [hB])
  have HB := Lib.hid hB
  have hwh : IntKind.i64.wrap (h - 1) = h - 1 := by rw [IntKind.wrap_i64]; omega
  clear hst hB
  rcases hw with rfl | rfl | rfl
  · go_enter Tryd.func40, Tryd.ntmps40
    go_wp2_with (go_at_call 22; refine (itemsI_any n 2 (h - 1) (by omega) (by omega) (by omega) _).mono ?_; rintro e w2 ⟨rfl, rfl⟩; rw [HB.out])
    go_loop [10, 11] (fun t10 t11 => ∃ k : Nat, (k : Int) ≤ B ∧ t11 = .int .i64 k ∧ ∃ l : Int, t10 = .int .i64 l ∧ 0 ≤ l ∧ l ≤ k ∧ Hid (l = if (k : Int) ≤ i * 2 then 0 else if (k : Int) ≤ (i + 1) * 2 then (k : Int) - 1 else (i + 1) * 2 - 1)) (fun _ t11 => B.toNat - (intOf t11).toNat)
    case atStart => exact ⟨0, by omega, rfl, 0, rfl, by omega, by omega, Lib.hid (by rw [if_pos (by omega)])⟩
    case round =>
      obtain ⟨k, hk, rfl, l, rfl, hl0, hl1, HL⟩ := hrel
      by_cases hlt : (k : Int) < B
      · cases hq : ((k : Int) / 2 == i)
        · go_wp2
          go_round
          case rel => exact ⟨k + 1, by omega, by go_num, l, rfl, hl0, by omega, Lib.hid (by have h1 := HL.out; simp at hq; split at h1 <;> (try split at h1) <;> split <;> (try split) <;> omega)⟩
          case measure => simp [intOf]; omega
        · go_wp2
          go_round
          case rel => exact ⟨k + 1, by omega, by go_num, k, rfl, by omega, by omega, Lib.hid (by simp at hq; split <;> (try split) <;> omega)⟩
          case measure => simp [intOf]; omega
      · go_wp2
        go_ret
        refine ⟨?_, rfl⟩
        rw [HE.out]
        refine ret_int ?_
        have h1 := HL.out
        split at h1 <;> (try split at h1) <;> split <;> omega
  · go_enter Tryd.func40, Tryd.ntmps40
    go_wp2_with (go_at_call 22; refine (itemsI_any n 3 (h - 1) (by omega) (by omega) (by omega) _).mono ?_; rintro e w2 ⟨rfl, rfl⟩; rw [HB.out])
    go_loop [10, 11] (fun t10 t11 => ∃ k : Nat, (k : Int) ≤ B ∧ t11 = .int .i64 k ∧ ∃ l : Int, t10 = .int .i64 l ∧ 0 ≤ l ∧ l ≤ k ∧ Hid (l = if (k : Int) ≤ i * 3 then 0 else if (k : Int) ≤ (i + 1) * 3 then (k : Int) - 1 else (i + 1) * 3 - 1)) (fun _ t11 => B.toNat - (intOf t11).toNat)
    case atStart => exact ⟨0, by omega, rfl, 0, rfl, by omega, by omega, Lib.hid (by rw [if_pos (by omega)])⟩
    case round =>
      obtain ⟨k, hk, rfl, l, rfl, hl0, hl1, HL⟩ := hrel
      by_cases hlt : (k : Int) < B
      · cases hq : ((k : Int) / 3 == i)
        · go_wp2
          go_round
          case rel => exact ⟨k + 1, by omega, by go_num, l, rfl, hl0, by omega, Lib.hid (by have h1 := HL.out; simp at hq; split at h1 <;> (try split at h1) <;> split <;> (try split) <;> omega)⟩
          case measure => simp [intOf]; omega
        · go_wp2
          go_round
          case rel => exact ⟨k + 1, by omega, by go_num, k, rfl, by omega, by omega, Lib.hid (by simp at hq; split <;> (try split) <;> omega)⟩
          case measure => simp [intOf]; omega
      · go_wp2
        go_ret
        refine ⟨?_, rfl⟩
        rw [HE.out]
        refine ret_int ?_
        have h1 := HL.out
        split at h1 <;> (try split at h1) <;> split <;> omega
  · go_enter Tryd.func40, Tryd.ntmps40
    go_wp2_with (go_at_call 22; refine (itemsI_any n 4 (h - 1) (by omega) (by omega) (by omega) _).mono ?_; rintro e w2 ⟨rfl, rfl⟩; rw [HB.out])
    go_loop [10, 11] (fun t10 t11 => ∃ k : Nat, (k : Int) ≤ B ∧ t11 = .int .i64 k ∧ ∃ l : Int, t10 = .int .i64 l ∧ 0 ≤ l ∧ l ≤ k ∧ Hid (l = if (k : Int) ≤ i * 4 then 0 else if (k : Int) ≤ (i + 1) * 4 then (k : Int) - 1 else (i + 1) * 4 - 1)) (fun _ t11 => B.toNat - (intOf t11).toNat)
    case atStart => exact ⟨0, by omega, rfl, 0, rfl, by omega, by omega, Lib.hid (by rw [if_pos (by omega)])⟩
    case round =>
      obtain ⟨k, hk, rfl, l, rfl, hl0, hl1, HL⟩ := hrel
      by_cases hlt : (k : Int) < B
      · cases hq : ((k : Int) / 4 == i)
        · go_wp2
          go_round
          case rel => exact ⟨k + 1, by omega, by go_num, l, rfl, hl0, by omega, Lib.hid (by have h1 := HL.out; simp at hq; split at h1 <;> (try split at h1) <;> split <;> (try split) <;> omega)⟩
          case measure => simp [intOf]; omega
        · go_wp2
          go_round
          case rel => exact ⟨k + 1, by omega, by go_num, k, rfl, by omega, by omega, Lib.hid (by simp at hq; split <;> (try split) <;> omega)⟩
          case measure => simp [intOf]; omega
      · go_wp2
        go_ret
        refine ⟨?_, rfl⟩
        rw [HE.out]
        refine ret_int ?_
        have h1 := HL.out
        split at h1 <;> (try split at h1) <;> split <;> omega
end Go.Proofs.YtkklhhdkokncnaaDoor
/- The walks of the reference of the layer 'tree': the table, the numbers. -/
namespace Go.Proofs.YtkklhhdkokncnaaDoor
open Go Go.RowKit
set_option maxRecDepth 100000
set_option maxHeartbeats 8000000

theorem thereR_4 (f : Frm) (hf : f.Fits) (hk : f.kind = 4) (w : World) : Calls Tryd.prog 64 #[.int .u8 4, .int .u8 f.pc] w
    fun e w' => e = .returned (.bool (treHas f)) ∧ Ext w w' := by
  have HT : Hid (treHas f = (f.pc == 0 || f.pc == 1 || (f.pc == 3 && f.kind == 7) || ((f.pc == 4 || f.pc == 5 || f.pc == 6 || f.pc == 7 || f.pc == 22 || f.pc == 24) && f.kind == 4) ||
    ((f.pc == 8 || f.pc == 9 || f.pc == 11) && (f.kind == 4 || f.kind == 5)) || ((f.pc == 12 || f.pc == 13 || f.pc == 14 || f.pc == 15 || f.pc == 25) && f.kind == 5) ||
    ((f.pc == 16 || f.pc == 17) && f.kind == 8) || (f.pc == 20 && (f.kind == 7 || f.kind == 8)) || (f.pc == 21 && (f.kind == 6 || f.kind == 7 || f.kind == 5)) ||
    (f.pc == 23 && (f.kind == 6 || f.kind == 4)))) := Lib.hid rfl
  have HK := Lib.hid hk
  obtain ⟨p0, p1⟩ := hf.pc
  clear hf hk
  go_enter Tryd.func64, Tryd.ntmps64
  go_wp2
  refine wp_loop_rounds 13 ?_
  repeat (any_goals (rw [rounds_succ]; go_wp2))
  all_goals (go_ret; refine ⟨ret_bool ?_, EX⟩)
  all_goals (rw [HT.out, HK.out]; clear HT HK; go_light; simp_all <;> omega)
theorem thereR_5 (f : Frm) (hf : f.Fits) (hk : f.kind = 5) (w : World) : Calls Tryd.prog 64 #[.int .u8 5, .int .u8 f.pc] w
    fun e w' => e = .returned (.bool (treHas f)) ∧ Ext w w' := by
  have HT : Hid (treHas f = (f.pc == 0 || f.pc == 1 || (f.pc == 3 && f.kind == 7) || ((f.pc == 4 || f.pc == 5 || f.pc == 6 || f.pc == 7 || f.pc == 22 || f.pc == 24) && f.kind == 4) ||
    ((f.pc == 8 || f.pc == 9 || f.pc == 11) && (f.kind == 4 || f.kind == 5)) || ((f.pc == 12 || f.pc == 13 || f.pc == 14 || f.pc == 15 || f.pc == 25) && f.kind == 5) ||
    ((f.pc == 16 || f.pc == 17) && f.kind == 8) || (f.pc == 20 && (f.kind == 7 || f.kind == 8)) || (f.pc == 21 && (f.kind == 6 || f.kind == 7 || f.kind == 5)) ||
    (f.pc == 23 && (f.kind == 6 || f.kind == 4)))) := Lib.hid rfl
  have HK := Lib.hid hk
  obtain ⟨p0, p1⟩ := hf.pc
  clear hf hk
  go_enter Tryd.func64, Tryd.ntmps64
  go_wp2
  refine wp_loop_rounds 12 ?_
  repeat (any_goals (rw [rounds_succ]; go_wp2))
  all_goals (go_ret; refine ⟨ret_bool ?_, EX⟩)
  all_goals (rw [HT.out, HK.out]; clear HT HK; go_light; simp_all <;> omega)
theorem thereR_6 (f : Frm) (hf : f.Fits) (hk : f.kind = 6) (w : World) : Calls Tryd.prog 64 #[.int .u8 6, .int .u8 f.pc] w
    fun e w' => e = .returned (.bool (treHas f)) ∧ Ext w w' := by
  have HT : Hid (treHas f = (f.pc == 0 || f.pc == 1 || (f.pc == 3 && f.kind == 7) || ((f.pc == 4 || f.pc == 5 || f.pc == 6 || f.pc == 7 || f.pc == 22 || f.pc == 24) && f.kind == 4) ||
    ((f.pc == 8 || f.pc == 9 || f.pc == 11) && (f.kind == 4 || f.kind == 5)) || ((f.pc == 12 || f.pc == 13 || f.pc == 14 || f.pc == 15 || f.pc == 25) && f.kind == 5) ||
    ((f.pc == 16 || f.pc == 17) && f.kind == 8) || (f.pc == 20 && (f.kind == 7 || f.kind == 8)) || (f.pc == 21 && (f.kind == 6 || f.kind == 7 || f.kind == 5)) ||
    (f.pc == 23 && (f.kind == 6 || f.kind == 4)))) := Lib.hid rfl
  have HK := Lib.hid hk
  obtain ⟨p0, p1⟩ := hf.pc
  clear hf hk
  go_enter Tryd.func64, Tryd.ntmps64
  go_wp2
  refine wp_loop_rounds 5 ?_
  repeat (any_goals (rw [rounds_succ]; go_wp2))
  all_goals (go_ret; refine ⟨ret_bool ?_, EX⟩)
  all_goals (rw [HT.out, HK.out]; clear HT HK; go_light; simp_all <;> omega)
theorem thereR_7 (f : Frm) (hf : f.Fits) (hk : f.kind = 7) (w : World) : Calls Tryd.prog 64 #[.int .u8 7, .int .u8 f.pc] w
    fun e w' => e = .returned (.bool (treHas f)) ∧ Ext w w' := by
  have HT : Hid (treHas f = (f.pc == 0 || f.pc == 1 || (f.pc == 3 && f.kind == 7) || ((f.pc == 4 || f.pc == 5 || f.pc == 6 || f.pc == 7 || f.pc == 22 || f.pc == 24) && f.kind == 4) ||
    ((f.pc == 8 || f.pc == 9 || f.pc == 11) && (f.kind == 4 || f.kind == 5)) || ((f.pc == 12 || f.pc == 13 || f.pc == 14 || f.pc == 15 || f.pc == 25) && f.kind == 5) ||
    ((f.pc == 16 || f.pc == 17) && f.kind == 8) || (f.pc == 20 && (f.kind == 7 || f.kind == 8)) || (f.pc == 21 && (f.kind == 6 || f.kind == 7 || f.kind == 5)) ||
    (f.pc == 23 && (f.kind == 6 || f.kind == 4)))) := Lib.hid rfl
  have HK := Lib.hid hk
  obtain ⟨p0, p1⟩ := hf.pc
  clear hf hk
  go_enter Tryd.func64, Tryd.ntmps64
  go_wp2
  refine wp_loop_rounds 6 ?_
  repeat (any_goals (rw [rounds_succ]; go_wp2))
  all_goals (go_ret; refine ⟨ret_bool ?_, EX⟩)
  all_goals (rw [HT.out, HK.out]; clear HT HK; go_light; simp_all <;> omega)
theorem thereR_8 (f : Frm) (hf : f.Fits) (hk : f.kind = 8) (w : World) : Calls Tryd.prog 64 #[.int .u8 8, .int .u8 f.pc] w
    fun e w' => e = .returned (.bool (treHas f)) ∧ Ext w w' := by
  have HT : Hid (treHas f = (f.pc == 0 || f.pc == 1 || (f.pc == 3 && f.kind == 7) || ((f.pc == 4 || f.pc == 5 || f.pc == 6 || f.pc == 7 || f.pc == 22 || f.pc == 24) && f.kind == 4) ||
    ((f.pc == 8 || f.pc == 9 || f.pc == 11) && (f.kind == 4 || f.kind == 5)) || ((f.pc == 12 || f.pc == 13 || f.pc == 14 || f.pc == 15 || f.pc == 25) && f.kind == 5) ||
    ((f.pc == 16 || f.pc == 17) && f.kind == 8) || (f.pc == 20 && (f.kind == 7 || f.kind == 8)) || (f.pc == 21 && (f.kind == 6 || f.kind == 7 || f.kind == 5)) ||
    (f.pc == 23 && (f.kind == 6 || f.kind == 4)))) := Lib.hid rfl
  have HK := Lib.hid hk
  obtain ⟨p0, p1⟩ := hf.pc
  clear hf hk
  go_enter Tryd.func64, Tryd.ntmps64
  go_wp2
  refine wp_loop_rounds 6 ?_
  repeat (any_goals (rw [rounds_succ]; go_wp2))
  all_goals (go_ret; refine ⟨ret_bool ?_, EX⟩)
  all_goals (rw [HT.out, HK.out]; clear HT HK; go_light; simp_all <;> omega)
theorem objOf_two {k : Int} (h : objOf k = 2) : k = 4 ∨ k = 5 ∨ k = 6 ∨ k = 7 ∨ k = 8 := by
  unfold objOf at h
  split at h <;> (try split at h) <;> (try split at h) <;> (try split at h) <;> (try split at h) <;> omega
theorem thereR_any (f : Frm) (hf : f.Fits) (hk : f.kind = 4 ∨ f.kind = 5 ∨ f.kind = 6 ∨ f.kind = 7 ∨ f.kind = 8) (w : World) : Calls Tryd.prog 64 #[.int .u8 f.kind, .int .u8 f.pc] w
    fun e w' => e = .returned (.bool (treHas f)) ∧ Ext w w' := by
  rcases hk with h | h | h | h | h
  · have h2 := thereR_4 f hf h w
    rw [← h] at h2
    exact h2
  · have h2 := thereR_5 f hf h w
    rw [← h] at h2
    exact h2
  · have h2 := thereR_6 f hf h w
    rw [← h] at h2
    exact h2
  · have h2 := thereR_7 f hf h w
    rw [← h] at h2
    exact h2
  · have h2 := thereR_8 f hf h w
    rw [← h] at h2
    exact h2
end Go.Proofs.YtkklhhdkokncnaaDoor
