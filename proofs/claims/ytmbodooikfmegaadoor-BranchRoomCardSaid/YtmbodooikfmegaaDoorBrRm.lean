/- The walk of 'BranchRoom'. -/
import Derived.Test.YtmbodooikfmegaaDoorBrE
import Derived.Test.YtmbodooikfmegaaDoorBrRoom
namespace Go.Proofs.YtmbodooikfmegaaDoor
open Go Go.RowKit

set_option maxRecDepth 100000 in
set_option maxHeartbeats 4000000 in
theorem branchRoom_walk (c : Cfg) (L : List Cel) (o : Opn) (hL : CelsFit L) (ho : o.Fits) (v : Value) (w : World) (ht : Tab w) (hs : Sl w v L.length (celCells L)) :
    Calls Tryd.prog 6 #[c.v, v, o.v] w fun e w' => e = .returned (.bool true) ∧ Ext w w' := by
  have HT := Lib.hid ht
  obtain ⟨ad, cap, rfl, hs⟩ := hs
  have HS := Lib.hid hs
  have HL := Lib.hid hL
  have HO := Lib.hid ho
  have HF := Lib.hid (startF_fits ho)
  clear ht hs hL ho
  go_enter Tryd.func6, Tryd.ntmps6
  go_upto_region 2 with (go_at_call 14; refine (alive_any _ (Tab.ext HT.out (by repeat (first | with_reducible exact Ext.refl _ | with_reducible assumption | with_reducible refine Ext.alloc ?_ _ | with_reducible refine Ext.gr ?_ _ | with_reducible refine Ext.drewN ?_ _ | with_reducible refine Ext.drew ?_ | with_reducible refine Ext.setCell ?_ ?_ _ | with_reducible refine Ext.more ?_ _ _ | (show _ ≤ _; dsimp only; omega))))).mono ?_; rintro e w1 ⟨rfl, os1, n1, rfl⟩)
  refine wp_gen (fun W => Ext w W ∧ Holds W ([(w.heap.size, 0, .int .u8 c.object), (w.heap.size, 1, .int .i64 c.instances), (w.heap.size, 2, .int .i64 c.threads), (w.heap.size, 3, .int .u8 c.kind), (w.heap.size, 4, .int .i64 c.stripes), (w.heap.size, 5, .int .i64 c.bits), (w.heap.size, 6, .int .i64 c.cap), (w.heap.size, 7, .int .i64 c.node), (w.heap.size, 8, .int .i64 c.batch), (w.heap.size, 9, .int .i64 c.chunk), (w.heap.size, 10, .int .u64 c.limit), (w.heap.size, 11, .int .u64 c.most)] ++ [(w.heap.size + 1, 0, .int .u8 o.kind), (w.heap.size + 1, 1, .int .u32 o.a), (w.heap.size + 1, 2, .int .u32 o.b), (w.heap.size + 1, 3, .int .u32 o.c)])) ?_ ?_
  · exact ⟨(by repeat (first | with_reducible exact Ext.refl _ | with_reducible assumption | with_reducible refine Ext.alloc ?_ _ | with_reducible refine Ext.gr ?_ _ | with_reducible refine Ext.drewN ?_ _ | with_reducible refine Ext.drew ?_ | with_reducible refine Ext.setCell ?_ ?_ _ | with_reducible refine Ext.more ?_ _ _ | (show _ ≤ _; dsimp only; omega))), Holds.app (by simp [Holds, go_sem]) (by simp [Holds, go_sem])⟩
  intro W HH
  have HW := Lib.hid HH.1
  have HK := Lib.hid HH.2
  clear HH
  obtain ⟨A, hA⟩ : ∃ A, A = brNextA c (startF o) := ⟨_, rfl⟩
  obtain ⟨E, hE⟩ : ∃ E, E = brErr c (startF o) := ⟨_, rfl⟩
  have HA := Lib.hid hA
  have HE := Lib.hid hE
  clear hA hE
  go_cut [8, 9] (fun _ t9 wn => t9 = .int .i64 E ∧ Hid (Ext W wn))
  case first =>
    go_region_held3 (fun W => W.cell? ⟨w.heap.size, 0, none⟩ = some (.int .u8 c.object) ∧ W.cell? ⟨w.heap.size, 1, none⟩ = some (.int .i64 c.instances) ∧ W.cell? ⟨w.heap.size, 2, none⟩ = some (.int .i64 c.threads) ∧ W.cell? ⟨w.heap.size, 3, none⟩ = some (.int .u8 c.kind) ∧ W.cell? ⟨w.heap.size, 4, none⟩ = some (.int .i64 c.stripes) ∧ W.cell? ⟨w.heap.size, 5, none⟩ = some (.int .i64 c.bits) ∧ W.cell? ⟨w.heap.size, 6, none⟩ = some (.int .i64 c.cap) ∧ W.cell? ⟨w.heap.size, 7, none⟩ = some (.int .i64 c.node) ∧ W.cell? ⟨w.heap.size, 8, none⟩ = some (.int .i64 c.batch) ∧ W.cell? ⟨w.heap.size, 9, none⟩ = some (.int .i64 c.chunk) ∧ W.cell? ⟨w.heap.size, 10, none⟩ = some (.int .u64 c.limit) ∧ W.cell? ⟨w.heap.size, 11, none⟩ = some (.int .u64 c.most) ∧ W.cell? ⟨w.heap.size + 1, 0, none⟩ = some (.int .u8 o.kind) ∧ W.cell? ⟨w.heap.size + 1, 1, none⟩ = some (.int .u32 o.a) ∧ W.cell? ⟨w.heap.size + 1, 2, none⟩ = some (.int .u32 o.b) ∧ W.cell? ⟨w.heap.size + 1, 3, none⟩ = some (.int .u32 o.c))
      (exact HK.out.ext (by (repeat (first | with_reducible exact Ext.refl _ | with_reducible assumption | with_reducible refine Ext.alloc ?_ _ | with_reducible refine Ext.gr ?_ _ | with_reducible refine Ext.drewN ?_ _ | with_reducible refine Ext.drew ?_ | with_reducible refine Ext.setCell ?_ ?_ _ | with_reducible refine Ext.more ?_ _ _ | (show _ ≤ _; dsimp only; omega)))))
      (first | (go_at_call 15; refine (regStart_any o _).mono ?_; rintro e w1 ⟨rfl, x1, y1, rfl⟩) | (go_at_call 9; refine (brNext_any c (startF o) HF.out _ (Tab.ext (Tab.ext HT.out HW.out) (by repeat (first | with_reducible exact Ext.refl _ | with_reducible assumption | with_reducible refine Ext.alloc ?_ _ | with_reducible refine Ext.gr ?_ _ | with_reducible refine Ext.drewN ?_ _ | with_reducible refine Ext.drew ?_ | with_reducible refine Ext.setCell ?_ ?_ _ | with_reducible refine Ext.more ?_ _ _ | (show _ ≤ _; dsimp only; omega))))).mono ?_; rintro e w1 ⟨rfl, os2, n2, rfl⟩; rw [← HA.out, ← HE.out]))
    all_goals
      go_wp2_with fail
      go_meet
      case rel => exact ⟨rfl, Lib.hid (by repeat (first | with_reducible exact Ext.refl _ | with_reducible assumption | with_reducible refine Ext.alloc ?_ _ | with_reducible refine Ext.gr ?_ _ | with_reducible refine Ext.drewN ?_ _ | with_reducible refine Ext.drew ?_ | with_reducible refine Ext.setCell ?_ ?_ _ | with_reducible refine Ext.more ?_ _ _ | (show _ ≤ _; dsimp only; omega)))⟩
  case rest =>
    obtain ⟨rfl, HX⟩ := hcut
    have HW2 := Lib.hid (HW.out.trans HX.out)
    have HK2 := Lib.hid (HK.out.ext HX.out)
    clear HX HK HW
    have hKK := HK2.out
    simp only [Holds, List.cons_append, List.nil_append] at hKK
    by_cases G : L.length ≤ 100 ∧ (L.length : Int) = c.cap ∧ o.kind = 12 ∧ E = 0
    · obtain ⟨g1, g2, g3, g5⟩ := G
      have HR := Lib.hid (room_run g3 (by rw [← HE.out]; exact g5) g2)
      subst g5
      obtain ⟨O, hO⟩ : ∃ O, brRun c 200 (startF o) L [] = O := ⟨_, rfl⟩
      rw [hO] at HR
      have HRUN := Lib.hid hO
      have HKIND := Lib.hid g3
      have HLEN := Lib.hid g2
      have hne2 : ((L.length : Int) != c.cap) = false := by rw [HLEN.out]; simp
      have hk2 : (o.kind != 12) = false := by rw [HKIND.out]; rfl
      have hok : O.ok = true := HR.out.1
      clear g2 g3 hO
      go_upto_region 5 with fail
      go_cut [10, 11, 12, 13] (fun t10 t11 _ t13 wn => ∃ ad' cap' b2, t10 = .slice ad' O.cells.length cap' ∧ t11 = .pointer (some ⟨b2, 0, none⟩) ∧ t13 = .bool true ∧ Hid (Ext wc wn) ∧ Hid (SlAt wn ad' O.cells.length cap' (celCells O.cells)) ∧ Hid (Holds wn [(b2, 0, .int .i64 O.code)]))
      case first =>
        go_wp2_with (go_at_call 16; refine (done_as c o L O HRUN.out HO.out HL.out _ _ (Tab.ext HT.out (HW2.out.trans (by repeat (first | with_reducible exact Ext.refl _ | with_reducible assumption | with_reducible refine Ext.alloc ?_ _ | with_reducible refine Ext.gr ?_ _ | with_reducible refine Ext.drewN ?_ _ | with_reducible refine Ext.drew ?_ | with_reducible refine Ext.setCell ?_ ?_ _ | with_reducible refine Ext.more ?_ _ _ | (show _ ≤ _; dsimp only; omega))))) ⟨_, _, rfl, HS.out.ext (HW2.out.trans (by repeat (first | with_reducible exact Ext.refl _ | with_reducible assumption | with_reducible refine Ext.alloc ?_ _ | with_reducible refine Ext.gr ?_ _ | with_reducible refine Ext.drewN ?_ _ | with_reducible refine Ext.drew ?_ | with_reducible refine Ext.setCell ?_ ?_ _ | with_reducible refine Ext.more ?_ _ _ | (show _ ≤ _; dsimp only; omega))))⟩ (by omega)).mono ?_; rintro e w2 ⟨ad', cap', va', ⟨rfl, HS', HA'⟩, os3, n3, rfl⟩)
        go_meet
        case rel => exact ⟨_, _, _, rfl, rfl, rfl, Lib.hid (by repeat (first | with_reducible exact Ext.refl _ | with_reducible assumption | with_reducible refine Ext.alloc ?_ _ | with_reducible refine Ext.gr ?_ _ | with_reducible refine Ext.drewN ?_ _ | with_reducible refine Ext.drew ?_ | with_reducible refine Ext.setCell ?_ ?_ _ | with_reducible refine Ext.more ?_ _ _ | (show _ ≤ _; dsimp only; omega))), Lib.hid (HS'.out.ext (by repeat (first | with_reducible exact Ext.refl _ | with_reducible assumption | with_reducible refine Ext.alloc ?_ _ | with_reducible refine Ext.gr ?_ _ | with_reducible refine Ext.drewN ?_ _ | with_reducible refine Ext.drew ?_ | with_reducible refine Ext.setCell ?_ ?_ _ | with_reducible refine Ext.more ?_ _ _ | (show _ ≤ _; dsimp only; omega)))), Lib.hid (by simp [Holds, go_sem])⟩
      case rest =>
        obtain ⟨ad', cap', b2, rfl, rfl, rfl, HX, HS2, HB2⟩ := hcut
        have HW3 := Lib.hid (HW2.out.trans HX.out)
        have HS3 := Lib.hid (HS.out.ext HW3.out)
        clear HX HW2 HS HK2 hKK
        rcases HR.out.2 with h0 | ⟨h9, hcells⟩
        · have c0 := HB2.out
          rw [h0] at c0
          simp only [Holds] at c0
          have HC0 := Lib.hid c0
          clear c0 h0 HB2
          go_wp2
          go_loopw [14] (fun t14 wr => t14 = .int .i64 0 ∧ Ext wc wr) (fun _ _ => 0)
          case atStart => exact ⟨rfl, Ext.refl _⟩
          case round =>
            obtain ⟨rfl, hx⟩ := hrel
            have HX := Lib.hid hx
            have c1 := ext_cell HX.out HC0.out
            have l1 := World.block_lt_of_cell? _ _ c1
            dsimp only at l1
            clear hx
            go_wp2
            all_goals go_ret
            all_goals exact ⟨rfl, HW3.out.trans HX.out⟩
        · have c0 := HB2.out
          rw [h9] at c0
          simp only [Holds] at c0
          have HC0 := Lib.hid c0
          rw [hcells] at HS2 ⊢
          clear c0 h9 HB2
          go_wp2
          go_loopw [14] (fun t14 wr => ∃ k : Nat, k ≤ L.length ∧ t14 = .int .i64 k ∧ Ext wc wr) (fun t14 _ => L.length - (intOf t14).toNat)
          case atStart => exact ⟨0, Nat.zero_le _, rfl, Ext.refl _⟩
          case round =>
            obtain ⟨k, hk, rfl, hx⟩ := hrel
            have HX := Lib.hid hx
            have c1 := ext_cell HX.out HC0.out
            have l1 := World.block_lt_of_cell? _ _ c1
            dsimp only at l1
            clear hx
            by_cases hlt : k < L.length
            · have k0 : (0 : Int) ≤ (k : Int) := by omega
              have k1 : (k : Int) < (L.length : Int) := by omega
              obtain ⟨q1, o1, rfl, a0, a1, a2, a3⟩ := HS2.out.cel k0 k1
              obtain ⟨q2, o2, rfl, d0, d1, d2, d3⟩ := HS3.out.cel k0 k1
              simp only [Int.toNat_natCast] at a0 a1 a2 a3 d0 d1 d2 d3
              obtain ⟨l, hl⟩ : ∃ l, L.getD k ⟨0, 0, 0, 0⟩ = l := ⟨_, rfl⟩
              rw [hl] at a0 a1 a2 a3 d0 d1 d2 d3
              replace a0 := ext_cell HX.out a0
              replace a1 := ext_cell HX.out a1
              replace a2 := ext_cell HX.out a2
              replace a3 := ext_cell HX.out a3
              replace d0 := ext_cell HX.out d0
              replace d1 := ext_cell HX.out d1
              replace d2 := ext_cell HX.out d2
              replace d3 := ext_cell HX.out d3
              have m1 := World.block_lt_of_cell? _ _ a0
              have m2 := World.block_lt_of_cell? _ _ d0
              dsimp only at m1 m2
              clear hl
              go_wp2
              (refine wp_region_ext_lit (by kernel_rfl) (by kernel_rfl) ?_); (repeat (go_big_quiet_step (fail))); (refine wpQuiet_nil ?_; intro _ hw'; obtain ⟨⟨osq, nq⟩, hw''⟩ := hw'; replace hw'' : _ = grew _ osq nq := hw''; subst hw'')
              go_wp2
              go_roundw
              case rel => exact ⟨k + 1, by omega, by go_num, HX.out.trans (by repeat (first | with_reducible exact Ext.refl _ | with_reducible assumption | with_reducible refine Ext.alloc ?_ _ | with_reducible refine Ext.gr ?_ _ | with_reducible refine Ext.drewN ?_ _ | with_reducible refine Ext.drew ?_ | with_reducible refine Ext.setCell ?_ ?_ _ | with_reducible refine Ext.more ?_ _ _ | (show _ ≤ _; dsimp only; omega)))⟩
              case measure => simp [intOf]; omega
            · obtain rfl : k = L.length := by omega
              go_wp2
              go_ret
              exact ⟨rfl, HW3.out.trans HX.out⟩
    · go_wp2
      all_goals go_ret
      all_goals exact ⟨rfl, HW2.out.trans (by repeat (first | with_reducible exact Ext.refl _ | with_reducible assumption | with_reducible refine Ext.alloc ?_ _ | with_reducible refine Ext.gr ?_ _ | with_reducible refine Ext.drewN ?_ _ | with_reducible refine Ext.drew ?_ | with_reducible refine Ext.setCell ?_ ?_ _ | with_reducible refine Ext.more ?_ _ _ | (show _ ≤ _; dsimp only; omega)))⟩
end Go.Proofs.YtmbodooikfmegaaDoor
