/- The walk of 'ProgNames'. -/
import Derived.Test.YtmhmaifmendebaaDoorPgE
namespace Go.Proofs.YtmhmaifmendebaaDoor
open Go Go.RowKit
set_option maxRecDepth 100000
set_option maxHeartbeats 8000000

abbrev zeroCfg : Cfg := ⟨0, 0, 0, 0, 0, 0, 0, 0, 0, 0, 0, 0⟩
theorem progNames_walk (w : World) (ht : Tab w) : Calls Tryd.prog 3 #[] w fun e w' => e = .returned (.bool true) ∧ Ext w w' := by
  have HT := Lib.hid ht
  clear ht
  go_enter Tryd.func3, Tryd.ntmps3
  go_upto_region 7 with (go_at_call 7; (with_reducible refine (conf_any _).mono ?_); rintro e w1 ⟨rfl, x1, rfl⟩)
  go_cut [4, 5] (fun t4 t5 wn => ∃ b4, t4 = .pointer (some ⟨b4, 0, none⟩) ∧ t5 = .int .i64 0 ∧ Hid (Ext w wn) ∧ Hid (Holds wn [(w.heap.size + 1 + 1 + 1, 0, .int .u8 2), (w.heap.size + 1 + 1 + 1, 1, .int .i64 2), (w.heap.size + 1 + 1 + 1, 2, .int .i64 1), (w.heap.size + 1 + 1 + 1, 3, .int .u8 1), (w.heap.size + 1 + 1 + 1, 4, .int .i64 0), (w.heap.size + 1 + 1 + 1, 5, .int .i64 0), (w.heap.size + 1 + 1 + 1, 6, .int .i64 3), (w.heap.size + 1 + 1 + 1, 7, .int .i64 2), (w.heap.size + 1 + 1 + 1, 8, .int .i64 1), (w.heap.size + 1 + 1 + 1, 9, .int .i64 1), (w.heap.size + 1 + 1 + 1, 10, .int .u64 131072), (w.heap.size + 1 + 1 + 1, 11, .int .u64 0)]) ∧ Hid (Holds wn [(w.heap.size + 1 + 1 + 1 + 1 + 1, 0, .int .u8 4), (w.heap.size + 1 + 1 + 1 + 1 + 1, 1, .int .i64 2), (w.heap.size + 1 + 1 + 1 + 1 + 1, 2, .int .i64 1), (w.heap.size + 1 + 1 + 1 + 1 + 1, 3, .int .u8 1), (w.heap.size + 1 + 1 + 1 + 1 + 1, 4, .int .i64 0), (w.heap.size + 1 + 1 + 1 + 1 + 1, 5, .int .i64 0), (w.heap.size + 1 + 1 + 1 + 1 + 1, 6, .int .i64 3), (w.heap.size + 1 + 1 + 1 + 1 + 1, 7, .int .i64 0), (w.heap.size + 1 + 1 + 1 + 1 + 1, 8, .int .i64 1), (w.heap.size + 1 + 1 + 1 + 1 + 1, 9, .int .i64 0), (w.heap.size + 1 + 1 + 1 + 1 + 1, 10, .int .u64 131072), (w.heap.size + 1 + 1 + 1 + 1 + 1, 11, .int .u64 0)]) ∧ Hid (Holds wn [(b4, 0, .int .u8 1), (b4, 1, .int .i64 5), (b4, 2, .int .u64 0), (b4, 3, .int .u64 0), (b4, 4, .int .u64 0), (b4, 5, .int .i64 0), (b4, 6, .int .u32 0)]))
  case first =>
    go_region_held3 (fun W => W.cell? ⟨w.heap.size + 1, 0, none⟩ = some (.int .u8 1) ∧ W.cell? ⟨w.heap.size + 1, 1, none⟩ = some (.int .i64 2) ∧ W.cell? ⟨w.heap.size + 1, 2, none⟩ = some (.int .i64 1) ∧ W.cell? ⟨w.heap.size + 1, 3, none⟩ = some (.int .u8 1) ∧ W.cell? ⟨w.heap.size + 1, 4, none⟩ = some (.int .i64 0) ∧ W.cell? ⟨w.heap.size + 1, 5, none⟩ = some (.int .i64 2) ∧ W.cell? ⟨w.heap.size + 1, 6, none⟩ = some (.int .i64 3) ∧ W.cell? ⟨w.heap.size + 1, 7, none⟩ = some (.int .i64 0) ∧ W.cell? ⟨w.heap.size + 1, 8, none⟩ = some (.int .i64 1) ∧ W.cell? ⟨w.heap.size + 1, 9, none⟩ = some (.int .i64 0) ∧ W.cell? ⟨w.heap.size + 1, 10, none⟩ = some (.int .u64 131072) ∧ W.cell? ⟨w.heap.size + 1, 11, none⟩ = some (.int .u64 0)) ((simp [go_sem]; done)) (first | (go_at_call 9; (with_reducible refine (start_as (Opn.mk 1 1 2 0) ⟨1, 1, 2, 0, 0, 0, 0, 0, 0, 0, 0⟩ rfl _).mono ?_); rintro e w1 ⟨rfl, x1, y1, rfl⟩) | (go_at_call 8; (with_reducible refine (pnext_as ⟨1, 2, 1, 1, 0, 2, 3, 0, 1, 0, 131072, 0⟩ ⟨1, 1, 2, 0, 0, 0, 0, 0, 0, 0, 0⟩ ⟨1, 5, 0, 0, 0, 0, 0⟩ 0 (by kernel_rfl) (by kernel_rfl) (fit_frm (by decide)) _ (Tab.ext HT.out EX)).mono ?_); rintro e w1 ⟨rfl, os1, n1, rfl⟩))
    all_goals
      go_wp2_with fail
      go_meet
      case rel => exact ⟨_, rfl, rfl, Lib.hid EXX, Lib.hid (by simp [Holds, go_sem]), Lib.hid (by simp [Holds, go_sem]), Lib.hid (by simp [Holds, go_sem])⟩
  case rest =>
    obtain ⟨b4, rfl, rfl, HE, HC2, HC3, HA7⟩ := hcut
    go_upto_region 8 with fail
    go_cut [6, 7, 8, 9] (fun t6 t7 t8 t9 wn => ∃ b6 b7, t6 = .pointer (some ⟨b6, 0, none⟩) ∧ t7 = .pointer (some ⟨b7, 0, none⟩) ∧ t8 = .bool true ∧ t9 = .int .i64 0 ∧ Hid (Ext wc wn) ∧ Hid (Holds wn [(b7, 0, .int .u64 4), (b7, 1, .int .u64 40)]))
    case first =>
      have HT2 := Lib.hid (Tab.ext HT.out HE.out)
      clear HT
      have HT := HT2
      have K := HC2.out
      simp only [Holds] at K
      go_wp2_with (go_at_call 10; (with_reducible refine (pafter_as ⟨2, 2, 1, 1, 0, 0, 3, 2, 1, 1, 131072, 0⟩ ⟨7, 9, 0, 3, 0, 0, 0, 1, 0, 0, 0⟩ ⟨0, 4, 40, 0⟩ ⟨7, 9, 0, 20, 0, 0, 0, 1, 0, 4, 40⟩ true 0 4 40 (by kernel_rfl) (by kernel_rfl) rfl rfl (fit_frm (by decide)) (fit_cel (by decide)) _ (Tab.ext HT.out EX)).mono ?_); rintro e w1 ⟨rfl, os1, n1, rfl⟩)
      go_meet
      case rel => exact ⟨_, _, rfl, rfl, rfl, rfl, Lib.hid EXX, Lib.hid (by simp [Holds, go_sem])⟩
    case rest =>
      obtain ⟨b6, b7, rfl, rfl, rfl, rfl, HX, HR⟩ := hcut
      have HE2 := Lib.hid (HE.out.trans HX.out)
      replace HA7 := Lib.hid (HA7.out.ext HX.out)
      replace HC3 := Lib.hid (HC3.out.ext HX.out)
      clear HX HE HC2
      go_upto_region 9 with fail
      go_cut [10, 11] (fun t10 t11 wn => ∃ b10, t10 = .pointer (some ⟨b10, 0, none⟩) ∧ t11 = .int .i64 0 ∧ Hid (Ext wc wn) ∧ Hid (Holds wn [(b10, 0, .int .u8 1), (b10, 1, .int .i64 0), (b10, 2, .int .u64 0), (b10, 3, .int .u64 0), (b10, 4, .int .u64 0), (b10, 5, .int .i64 0), (b10, 6, .int .u32 0)]))
      case first =>
        have HT2 := Lib.hid (Tab.ext HT.out HE2.out)
        clear HT
        have HT := HT2
        go_region_held3 (fun W => W.cell? ⟨w.heap.size + 1 + 1 + 1 + 1 + 1, 0, none⟩ = some (.int .u8 4) ∧ W.cell? ⟨w.heap.size + 1 + 1 + 1 + 1 + 1, 1, none⟩ = some (.int .i64 2) ∧ W.cell? ⟨w.heap.size + 1 + 1 + 1 + 1 + 1, 2, none⟩ = some (.int .i64 1) ∧ W.cell? ⟨w.heap.size + 1 + 1 + 1 + 1 + 1, 3, none⟩ = some (.int .u8 1) ∧ W.cell? ⟨w.heap.size + 1 + 1 + 1 + 1 + 1, 4, none⟩ = some (.int .i64 0) ∧ W.cell? ⟨w.heap.size + 1 + 1 + 1 + 1 + 1, 5, none⟩ = some (.int .i64 0) ∧ W.cell? ⟨w.heap.size + 1 + 1 + 1 + 1 + 1, 6, none⟩ = some (.int .i64 3) ∧ W.cell? ⟨w.heap.size + 1 + 1 + 1 + 1 + 1, 7, none⟩ = some (.int .i64 0) ∧ W.cell? ⟨w.heap.size + 1 + 1 + 1 + 1 + 1, 8, none⟩ = some (.int .i64 1) ∧ W.cell? ⟨w.heap.size + 1 + 1 + 1 + 1 + 1, 9, none⟩ = some (.int .i64 0) ∧ W.cell? ⟨w.heap.size + 1 + 1 + 1 + 1 + 1, 10, none⟩ = some (.int .u64 131072) ∧ W.cell? ⟨w.heap.size + 1 + 1 + 1 + 1 + 1, 11, none⟩ = some (.int .u64 0)) (exact HC3.out.ext EX) (first | (go_at_call 9; (with_reducible refine (start_as (Opn.mk 14 1 0 0) ⟨14, 1, 0, 0, 0, 0, 0, 0, 0, 0, 0⟩ rfl _).mono ?_); rintro e w1 ⟨rfl, x1, y1, rfl⟩) | (go_at_call 8; (with_reducible refine (pnext_as ⟨4, 2, 1, 1, 0, 0, 3, 0, 1, 0, 131072, 0⟩ ⟨14, 1, 0, 0, 0, 0, 0, 0, 0, 0, 0⟩ ⟨1, 0, 0, 0, 0, 0, 0⟩ 0 (by kernel_rfl) (by kernel_rfl) (fit_frm (by decide)) _ (Tab.ext HT.out EX)).mono ?_); rintro e w1 ⟨rfl, os1, n1, rfl⟩))
        all_goals
          go_wp2_with fail
          go_meet
          case rel => exact ⟨_, rfl, rfl, Lib.hid EXX, Lib.hid (by simp [Holds, go_sem])⟩
      case rest =>
        obtain ⟨b10, rfl, rfl, HX, HA9⟩ := hcut
        have HE3 := Lib.hid (HE2.out.trans HX.out)
        replace HA7 := Lib.hid (HA7.out.ext HX.out)
        replace HR := Lib.hid (HR.out.ext HX.out)
        clear HX HE2 HC3
        go_upto_region 10 with fail
        go_cut [12, 13, 14, 15] (fun _ _ _ t15 wn => t15 = .int .i64 40 ∧ Hid (Ext wc wn))
        case first =>
          have HT2 := Lib.hid (Tab.ext HT.out HE3.out)
          clear HT
          have HT := HT2
          go_wp2_with (go_at_call 10; (with_reducible refine (pafter_as zeroCfg zeroFrm ⟨0, 0, 0, 0⟩ zeroFrm false 40 0 0 (by kernel_rfl) (by kernel_rfl) rfl rfl (fit_frm (by decide)) (fit_cel (by decide)) _ (Tab.ext HT.out EX)).mono ?_); rintro e w1 ⟨rfl, os1, n1, rfl⟩)
          go_meet
          case rel => exact ⟨rfl, Lib.hid EXX⟩
        case rest =>
          obtain ⟨rfl, HX⟩ := hcut
          have HE4 := Lib.hid (HE3.out.trans HX.out)
          have K1 := HA7.out.ext HX.out
          have K2 := HR.out.ext HX.out
          have K3 := HA9.out.ext HX.out
          clear HX HE3 HA7 HR HA9
          simp only [Holds] at K1 K2 K3
          have z1 := World.block_lt_of_cell? _ _ K1.1
          have z2 := World.block_lt_of_cell? _ _ K2.1
          have z3 := World.block_lt_of_cell? _ _ K3.1
          dsimp only at z1 z2 z3
          have HT2 := Lib.hid (Tab.ext HT.out HE4.out)
          clear HT
          have HT := HT2
          go_wp2_with (go_at_call 11; refine (alive_any _ (Tab.ext HT.out EX)).mono ?_; rintro e w1 ⟨rfl, os1, n1, rfl⟩)
          go_ret
          exact ⟨rfl, HE4.out.trans EXX⟩
end Go.Proofs.YtmhmaifmendebaaDoor
