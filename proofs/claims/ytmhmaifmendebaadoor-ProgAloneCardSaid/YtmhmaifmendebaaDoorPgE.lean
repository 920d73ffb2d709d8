/- The walk of 'alive', layer 'prog': the chapter's examples. -/
import Derived.Test.YtmhmaifmendebaaDoorPgA
import Derived.Test.YtmhmaifmendebaaDoorStart
import Derived.Deep.RegionHeld3
import Derived.Deep.DeepCutAuto
namespace Go.Proofs.YtmhmaifmendebaaDoor
open Go Go.RowKit
set_option maxRecDepth 100000
set_option maxHeartbeats 8000000

theorem pnext_as (c : Cfg) (f : Frm) (A : Actn) (E : Int) (hA : pgNextA c f = A) (hE : pgErr c f = E) (hf : f.Fits) (w : World) (ht : Tab w) : Calls Tryd.prog 8 #[c.v, f.v] w
    fun e w' => e = .returned (.tuple #[A.v, .int .i64 E]) ∧ Ext w w' := by
  subst hA
  subst hE
  exact pgNext_any c f hf w ht
theorem pafter_as (c : Cfg) (f : Frm) (l : Cel) (G : Frm) (T : Bool) (E K U : Int) (hA : pgAfterA c f l = (G, T)) (hE : pgErr c f = E) (hK : (if T then G.x else 0) = K) (hU : (if T then G.y else 0) = U) (hf : f.Fits) (hl : l.Fits) (w : World) (ht : Tab w) : Calls Tryd.prog 10 #[c.v, f.v, l.v] w
    fun e w' => e = .returned (.tuple #[G.v, .agg #[.int .u64 K, .int .u64 U], .bool T, .int .i64 E]) ∧ Ext w w' := by
  subst hK
  subst hU
  subst hE
  refine (pgAfter_any c f l hf hl w ht).mono fun e w' h => ?_
  rw [hA] at h
  exact h
theorem fit_frm {f : Frm} (h : (0 ≤ f.kind ∧ f.kind ≤ 255) ∧ (0 ≤ f.a ∧ f.a ≤ 4294967295) ∧ (0 ≤ f.b ∧ f.b ≤ 4294967295) ∧ (0 ≤ f.pc ∧ f.pc ≤ 255) ∧ (0 ≤ f.i ∧ f.i ≤ 255) ∧ (0 ≤ f.j ∧ f.j ≤ 255) ∧ (0 ≤ f.n ∧ f.n ≤ 255) ∧ (0 ≤ f.p ∧ f.p ≤ 255) ∧ (0 ≤ f.h ∧ f.h ≤ 255) ∧ (0 ≤ f.x ∧ f.x ≤ 4294967295) ∧ (0 ≤ f.y ∧ f.y ≤ 4294967295)) : f.Fits :=
  ⟨h.1, h.2.1, h.2.2.1, h.2.2.2.1, h.2.2.2.2.1, h.2.2.2.2.2.1, h.2.2.2.2.2.2.1, h.2.2.2.2.2.2.2.1, h.2.2.2.2.2.2.2.2.1, h.2.2.2.2.2.2.2.2.2.1, h.2.2.2.2.2.2.2.2.2.2⟩
theorem fit_cel {t a b c : Int} (h : (0 ≤ t ∧ t ≤ 18446744073709551615) ∧ (0 ≤ a ∧ a ≤ 18446744073709551615) ∧ (0 ≤ b ∧ b ≤ 18446744073709551615) ∧ (0 ≤ c ∧ c ≤ 18446744073709551615)) : (Cel.mk t a b c).Fits := ⟨h.1, h.2.1, h.2.2.1, h.2.2.2⟩
abbrev confP : Cfg := ⟨3, 2, 1, 1, 0, 0, 3, 0, 1, 0, 131072, 0⟩
theorem conf_any (w : World) : Calls Tryd.prog 7 #[] w fun e w' => e = .returned confP.v ∧ ∃ x, w' = w.alloc x := by
  go_enter Tryd.func7, Tryd.ntmps7
  go_wp2
  refine bodyPost_ret (v := confP.v) (by simp [results, Tryd.results7, go_sem]) rfl ⟨rfl, _, rfl⟩
theorem start_as (o : Opn) (F : Frm) (hF : startF o = F) (w : World) : Calls Tryd.prog 9 #[o.v] w fun e w' => e = .returned F.v ∧ ∃ x y, w' = (w.alloc x).alloc y := by
  subst hF
  exact regStart_any o w
theorem alive_any (w : World) (ht : Tab w) : Calls Tryd.prog 11 #[] w fun e w' => e = .returned (.bool true) ∧ Ext w w' := by
  have HT := Lib.hid ht
  clear ht
  go_enter Tryd.func11, Tryd.ntmps11
  go_upto_region 2 with (go_at_call 9; (with_reducible refine (start_as (Opn.mk 11 1 7 0) ⟨11, 1, 7, 0, 0, 0, 0, 0, 0, 0, 0⟩ rfl _).mono ?_); rintro e w1 ⟨rfl, x1, y1, rfl⟩)
  go_cut [2, 3] (fun t2 t3 wn => ∃ b2, t2 = .pointer (some ⟨b2, 0, none⟩) ∧ t3 = .int .i64 0 ∧ Hid (Ext w wn) ∧ Hid (Holds wn [(w.heap.size + 1 + 1, 0, .int .u8 11), (w.heap.size + 1 + 1, 1, .int .u32 1), (w.heap.size + 1 + 1, 2, .int .u32 7), (w.heap.size + 1 + 1, 3, .int .u8 0), (w.heap.size + 1 + 1, 4, .int .u8 0), (w.heap.size + 1 + 1, 5, .int .u8 0), (w.heap.size + 1 + 1, 6, .int .u8 0), (w.heap.size + 1 + 1, 7, .int .u8 0), (w.heap.size + 1 + 1, 8, .int .u8 0), (w.heap.size + 1 + 1, 9, .int .u32 0), (w.heap.size + 1 + 1, 10, .int .u32 0)]) ∧ Hid (Holds wn [(b2, 0, .int .u8 1), (b2, 1, .int .i64 0), (b2, 2, .int .u64 0), (b2, 3, .int .u64 0), (b2, 4, .int .u64 0), (b2, 5, .int .i64 0), (b2, 6, .int .u32 0)]))
  case first =>
    go_region_held3 (fun W => W.cell? ⟨w.heap.size + 1 + 1, 0, none⟩ = some (.int .u8 11) ∧ W.cell? ⟨w.heap.size + 1 + 1, 1, none⟩ = some (.int .u32 1) ∧ W.cell? ⟨w.heap.size + 1 + 1, 2, none⟩ = some (.int .u32 7) ∧ W.cell? ⟨w.heap.size + 1 + 1, 3, none⟩ = some (.int .u8 0) ∧ W.cell? ⟨w.heap.size + 1 + 1, 4, none⟩ = some (.int .u8 0) ∧ W.cell? ⟨w.heap.size + 1 + 1, 5, none⟩ = some (.int .u8 0) ∧ W.cell? ⟨w.heap.size + 1 + 1, 6, none⟩ = some (.int .u8 0) ∧ W.cell? ⟨w.heap.size + 1 + 1, 7, none⟩ = some (.int .u8 0) ∧ W.cell? ⟨w.heap.size + 1 + 1, 8, none⟩ = some (.int .u8 0) ∧ W.cell? ⟨w.heap.size + 1 + 1, 9, none⟩ = some (.int .u32 0) ∧ W.cell? ⟨w.heap.size + 1 + 1, 10, none⟩ = some (.int .u32 0)) ((simp [go_sem]; done)) (first | (go_at_call 7; (with_reducible refine (conf_any _).mono ?_); rintro e w1 ⟨rfl, x1, rfl⟩) | (go_at_call 8; (with_reducible refine (pnext_as confP ⟨11, 1, 7, 0, 0, 0, 0, 0, 0, 0, 0⟩ ⟨1, 0, 0, 0, 0, 0, 0⟩ 0 (by kernel_rfl) (by kernel_rfl) (fit_frm (by decide)) _ (Tab.ext HT.out EX)).mono ?_); rintro e w1 ⟨rfl, os1, n1, rfl⟩))
    all_goals
      go_wp2_with fail
      go_meet
      case rel => exact ⟨_, rfl, rfl, Lib.hid EXX, Lib.hid (by simp [Holds, go_sem]), Lib.hid (by simp [Holds, go_sem])⟩
  case rest =>
    obtain ⟨b2, rfl, rfl, HE, HF1, HA1⟩ := hcut
    go_upto_region 3 with fail
    go_cut [4, 5, 6, 7] (fun t4 t5 t6 t7 wn => ∃ b4 b5, t4 = .pointer (some ⟨b4, 0, none⟩) ∧ t5 = .pointer (some ⟨b5, 0, none⟩) ∧ t6 = .bool false ∧ t7 = .int .i64 0 ∧ Hid (Ext wc wn) ∧ Hid (Holds wn [(b4, 0, .int .u8 11), (b4, 1, .int .u32 1), (b4, 2, .int .u32 7), (b4, 3, .int .u8 20), (b4, 4, .int .u8 0), (b4, 5, .int .u8 0), (b4, 6, .int .u8 0), (b4, 7, .int .u8 0), (b4, 8, .int .u8 0), (b4, 9, .int .u32 2), (b4, 10, .int .u32 0)]))
    case first =>
      have HT2 := Lib.hid (Tab.ext HT.out HE.out)
      clear HT
      have HT := HT2
      go_region_held3 (fun W => W.cell? ⟨w.heap.size + 1 + 1, 0, none⟩ = some (.int .u8 11) ∧ W.cell? ⟨w.heap.size + 1 + 1, 1, none⟩ = some (.int .u32 1) ∧ W.cell? ⟨w.heap.size + 1 + 1, 2, none⟩ = some (.int .u32 7) ∧ W.cell? ⟨w.heap.size + 1 + 1, 3, none⟩ = some (.int .u8 0) ∧ W.cell? ⟨w.heap.size + 1 + 1, 4, none⟩ = some (.int .u8 0) ∧ W.cell? ⟨w.heap.size + 1 + 1, 5, none⟩ = some (.int .u8 0) ∧ W.cell? ⟨w.heap.size + 1 + 1, 6, none⟩ = some (.int .u8 0) ∧ W.cell? ⟨w.heap.size + 1 + 1, 7, none⟩ = some (.int .u8 0) ∧ W.cell? ⟨w.heap.size + 1 + 1, 8, none⟩ = some (.int .u8 0) ∧ W.cell? ⟨w.heap.size + 1 + 1, 9, none⟩ = some (.int .u32 0) ∧ W.cell? ⟨w.heap.size + 1 + 1, 10, none⟩ = some (.int .u32 0)) (exact HF1.out.ext EX) (first | (go_at_call 7; (with_reducible refine (conf_any _).mono ?_); rintro e w1 ⟨rfl, x1, rfl⟩) | (go_at_call 10; (with_reducible refine (pafter_as confP ⟨11, 1, 7, 0, 0, 0, 0, 0, 0, 0, 0⟩ ⟨0, 2, 1, 7⟩ ⟨11, 1, 7, 20, 0, 0, 0, 0, 0, 2, 0⟩ false 0 0 0 (by kernel_rfl) (by kernel_rfl) rfl rfl (fit_frm (by decide)) (fit_cel (by decide)) _ (Tab.ext HT.out EX)).mono ?_); rintro e w1 ⟨rfl, os1, n1, rfl⟩))
      all_goals
        go_wp2_with fail
        go_meet
        case rel => exact ⟨_, _, rfl, rfl, rfl, rfl, Lib.hid EXX, Lib.hid (by simp [Holds, go_sem])⟩
    case rest =>
      obtain ⟨b4, b5, rfl, rfl, rfl, rfl, HX, HG1⟩ := hcut
      have HE2 := Lib.hid (HE.out.trans HX.out)
      replace HA1 := Lib.hid (HA1.out.ext HX.out)
      clear HX HE HF1
      go_upto_region 4 with fail
      go_cut [8, 9] (fun _ t9 wn => t9 = .int .i64 2 ∧ Hid (Ext wc wn))
      case first =>
        have HT2 := Lib.hid (Tab.ext HT.out HE2.out)
        clear HT
        have HT := HT2
        go_wp2_with (first | (go_at_call 7; (with_reducible refine (conf_any _).mono ?_); rintro e w1 ⟨rfl, x1, rfl⟩) | (go_at_call 9; (with_reducible refine (start_as (Opn.mk 6 1 0 0) ⟨6, 1, 0, 0, 0, 0, 0, 0, 0, 0, 0⟩ rfl _).mono ?_); rintro e w1 ⟨rfl, x1, y1, rfl⟩) | (go_at_call 8; (with_reducible refine (pnext_as confP ⟨6, 1, 0, 0, 0, 0, 0, 0, 0, 0, 0⟩ zeroAct 2 (by kernel_rfl) (by kernel_rfl) (fit_frm (by decide)) _ (Tab.ext HT.out EX)).mono ?_); rintro e w1 ⟨rfl, os1, n1, rfl⟩))
        go_meet
        case rel => exact ⟨rfl, Lib.hid EXX⟩
      case rest =>
        obtain ⟨rfl, HX⟩ := hcut
        have HE3 := Lib.hid (HE2.out.trans HX.out)
        have K1 := HA1.out.ext HX.out
        have K2 := HG1.out.ext HX.out
        clear HX HE2 HA1 HG1
        simp only [Holds] at K1 K2
        go_wp2
        go_ret
        exact ⟨rfl, HE3.out⟩
end Go.Proofs.YtmhmaifmendebaaDoor
