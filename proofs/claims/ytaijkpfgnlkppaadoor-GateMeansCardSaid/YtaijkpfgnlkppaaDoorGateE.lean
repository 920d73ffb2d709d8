/- The walk of 'alive': the chapter's examples. -/
import Derived.Test.YtaijkpfgnlkppaaDoorGateW
import Derived.Deep.DeepCutAuto
namespace Go.Proofs.YtaijkpfgnlkppaaDoor
open Go Go.RowKit

abbrev confC : Cfg := ⟨3, 2, 1, 1, 0, 0, 3, 0, 1, 0, 131072, 0⟩
abbrev zc : Cel := ⟨0, 0, 0, 0⟩
theorem conf_any (w : World) : Calls Tryd.prog 13 #[] w fun e w' => e = .returned confC.v ∧ ∃ x, w' = w.alloc x := by
  go_enter Tryd.func13, Tryd.ntmps13
  go_wp2
  refine bodyPost_ret (v := confC.v) (by simp [results, Tryd.results13, go_sem]) rfl ⟨rfl, _, rfl⟩

theorem done_as (c : Cfg) (o : Opn) (L : List Cel) (R : Outc) (hR : gateRun c 80 (startF o) L 0 0 = R) (ho : o.Fits) (hL : CelsFit L) (v : Value) (w : World) (ht : Tab w) (hs : Sl w v L.length (celCells L)) (hlen : L.length ≤ 1000) :
    Calls Tryd.prog 16 #[c.v, v, o.v] w
    fun e w' => ∃ ad cap, (e = .returned (.tuple #[.slice ad R.cells.length cap, .agg #[.int .i64 R.code, .int .u32 R.word, .slice none 0 0], .agg #[.int .i64 R.reads, .int .i64 R.writes, .int .i64 0], .bool R.ok]) ∧
      Hid (SlAt w' ad R.cells.length cap (celCells R.cells))) ∧ Ext w w' := by
  subst hR
  refine (done_any c o ho L hL v w ht hs hlen).mono fun e w' h => ?_
  obtain ⟨v', ⟨rfl, ad, cap, rfl, h⟩, he⟩ := h
  exact ⟨ad, cap, ⟨rfl, h⟩, he⟩

theorem run1 : gateRun confC 80 (startF ⟨9, 1, 7, 2⟩) [zc, zc, zc] 0 0 = ⟨[⟨0, 2, 1, 7⟩, zc, zc], 0, 0, 3, 1, true⟩ := by kernel_rfl
theorem run2 : gateRun confC 80 (startF ⟨9, 1, 0, 1⟩) [⟨0, 2, 1, 7⟩, zc, zc] 0 0 = ⟨[⟨0, 2, 1, 7⟩, ⟨0, 1, 1, 0⟩, zc], 0, 0, 3, 1, true⟩ := by kernel_rfl
theorem run3 : gateRun confC 80 (startF ⟨11, 1, 7, 0⟩) [⟨0, 2, 1, 7⟩, ⟨0, 1, 1, 0⟩, zc] 0 0 = ⟨[⟨0, 2, 1, 7⟩, ⟨0, 1, 1, 0⟩, zc], 0, 2, 1, 0, true⟩ := by kernel_rfl
theorem run4 : gateRun confC 80 (startF ⟨11, 1, 5, 0⟩) [⟨0, 2, 1, 7⟩, ⟨0, 1, 1, 0⟩, zc] 0 0 = ⟨[⟨0, 2, 1, 7⟩, ⟨0, 1, 1, 0⟩, zc], 0, 1, 3, 0, true⟩ := by kernel_rfl
theorem run5 : gateRun confC 80 (startF ⟨10, 1, 7, 0⟩) [⟨0, 2, 1, 7⟩, ⟨0, 1, 1, 0⟩, zc] 0 0 = ⟨[zc, ⟨0, 1, 1, 0⟩, zc], 0, 2, 1, 1, true⟩ := by kernel_rfl

theorem fit_cel {t a b c : Int} (h : (0 ≤ t ∧ t ≤ 18446744073709551615) ∧ (0 ≤ a ∧ a ≤ 18446744073709551615) ∧ (0 ≤ b ∧ b ≤ 18446744073709551615) ∧ (0 ≤ c ∧ c ≤ 18446744073709551615)) : (Cel.mk t a b c).Fits := ⟨h.1, h.2.1, h.2.2.1, h.2.2.2⟩
theorem fit0 : CelsFit [zc, zc, zc] := fun x hx => by simp at hx; subst hx; exact fit_cel (by decide)
theorem fit1 : CelsFit [⟨0, 2, 1, 7⟩, zc, zc] := fun x hx => by simp at hx; rcases hx with rfl | rfl <;> exact fit_cel (by decide)
theorem fit2 : CelsFit [⟨0, 2, 1, 7⟩, ⟨0, 1, 1, 0⟩, zc] := fun x hx => by simp at hx; rcases hx with rfl | rfl | rfl <;> exact fit_cel (by decide)

theorem SlAt.allocR {w : World} {ad : Option Addr} {n cap : Nat} {cs : List Value} (h : SlAt w ad n cap cs) (o : Obj) : SlAt (w.alloc o) ad n cap cs := h.ext (Ext.alloc (Ext.refl _) o)
theorem SlAt.drewR {w : World} {ad : Option Addr} {n cap : Nat} {cs : List Value} (h : SlAt w ad n cap cs) : SlAt w.drew ad n cap cs := h.ext (Ext.drew (Ext.refl _))
theorem SlAt.keepU0 {w w' : World} {ad : Option Addr} {n cap : Nat} {cs : List Value} (h : SlAt w ad n cap cs) (hu : ∀ u ∈ cs, ∃ x, u = .int .u64 x) (e : KeepU w w') : SlAt w' ad n cap cs := h.keepU hu e (Ext.refl _)
set_option maxRecDepth 100000 in
set_option maxHeartbeats 4000000 in
theorem alive_any (w : World) (ht : Tab w) : Calls Tryd.prog 14 #[] w fun e w' => e = .returned (.bool true) ∧ Ext w w' := by
  have HT := Lib.hid ht
  clear ht
  have hmk : ∀ w : World, (Instr.makeSlice 45 (.int .i64 3) (.int .i64 3)).run Tryd.prog w = .ok (.slice (some ⟨w.heap.size, 0, none⟩) 3 3) (w.alloc (.cells #[.int .u64 0, .int .u64 0, .int .u64 0, .int .u64 0, .int .u64 0, .int .u64 0, .int .u64 0, .int .u64 0, .int .u64 0, .int .u64 0, .int .u64 0, .int .u64 0] 37)) := fun _ => by kernel_rfl
  go_enter Tryd.func14, Tryd.ntmps14
  go_upto_region 1 with fail
  go_cut [1, 2, 3, 4] (fun t1 t2 t3 t4 wc => ∃ ad cap b2 b3, t1 = .slice ad 3 cap ∧ t2 = .pointer (some ⟨b2, 0, none⟩) ∧ t3 = .pointer (some ⟨b3, 0, none⟩) ∧ t4 = .bool true ∧ Hid (Ext w wc) ∧ Hid (SlAt wc ad 3 cap (celCells [⟨0, 2, 1, 7⟩, zc, zc])) ∧
    Hid (Holds wc [(b2, 1, .int .u32 0), (b3, 0, .int .i64 3), (b3, 1, .int .i64 1), (b3, 2, .int .i64 0)]))
  case first => as_aux_lemma =>
    go_region_held3 (fun w' => w'.os = w'.os) (rfl) (first | (go_at_call 13; refine (conf_any _).mono ?_; rintro e w1 ⟨rfl, x1, rfl⟩) | (go_at_call 16; refine (done_as confC ⟨9, 1, 7, 2⟩ [zc, zc, zc] _ run1 ⟨by decide, by decide, by decide, by decide⟩ fit0 _ _ (Tab.ext HT.out (by repeat (first | with_reducible exact Ext.refl _ | with_reducible assumption | with_reducible refine Ext.alloc ?_ _ | with_reducible refine Ext.gr ?_ _ | with_reducible refine Ext.drewN ?_ _ | with_reducible refine Ext.drew ?_ | with_reducible refine Ext.setCell ?_ ?_ _ | with_reducible refine Ext.more ?_ _ _ | (show _ ≤ _; dsimp only; omega)))) ⟨_, _, rfl, by decide, by decide, Or.inr ⟨_, _, rfl, fun j u hu => by simp [go_sem]; exact hu⟩⟩ (by decide)).mono ?_; rintro e w2 ⟨ad2, cap2, ⟨rfl, HS2⟩, os2, n2, rfl⟩))
    all_goals as_aux_lemma =>
      go_wp2_with fail
      go_meet
      case rel =>
        refine ⟨_, _, _, _, rfl, rfl, rfl, rfl, Lib.hid (by repeat (first | with_reducible exact Ext.refl _ | with_reducible assumption | with_reducible refine Ext.alloc ?_ _ | with_reducible refine Ext.gr ?_ _ | with_reducible refine Ext.drewN ?_ _ | with_reducible refine Ext.drew ?_ | with_reducible refine Ext.setCell ?_ ?_ _ | with_reducible refine Ext.more ?_ _ _ | (show _ ≤ _; dsimp only; omega))), Lib.hid ?_, Lib.hid ?_⟩
        · repeat (first | refine SlAt.allocR ?_ _ | refine SlAt.drewR ?_)
          refine SlAt.keepU0 HS2.out (celCells_u64 _) (KeepU.grew ?_ _ _ _)
          repeat (first | exact KeepU.refl _ | refine KeepU.drewL ?_ | refine KeepU.alloc ?_ _ | (refine KeepU.change ?_ (by simp)))
        · simp [Holds, go_sem]
  case rest => as_aux_lemma =>
    obtain ⟨ad1, cap1, b1, d1, rfl, rfl, rfl, rfl, HE1, HS1, HH1⟩ := hcut
    go_upto_region 2 with fail
    go_cut [5, 6, 7, 8] (fun t1 t2 t3 t4 wn => ∃ ad cap b2 b3, t1 = .slice ad 3 cap ∧ t2 = .pointer (some ⟨b2, 0, none⟩) ∧ t3 = .pointer (some ⟨b3, 0, none⟩) ∧ t4 = .bool true ∧ Hid (Ext wc wn) ∧ Hid (SlAt wn ad 3 cap (celCells [⟨0, 2, 1, 7⟩, ⟨0, 1, 1, 0⟩, zc])) ∧ Hid (Holds wn [(b2, 1, .int .u32 0), (b3, 0, .int .i64 3), (b3, 1, .int .i64 1), (b3, 2, .int .i64 0)]))
    case first =>
      go_wp2_with (first | (go_at_call 13; refine (conf_any _).mono ?_; rintro e w1 ⟨rfl, x1, rfl⟩) | (go_at_call 16; refine (done_as confC ⟨9, 1, 0, 1⟩ [⟨0, 2, 1, 7⟩, zc, zc] _ run2 ⟨by decide, by decide, by decide, by decide⟩ fit1 _ _ (Tab.ext (Tab.ext HT.out HE1.out) (by repeat (first | with_reducible exact Ext.refl _ | with_reducible assumption | with_reducible refine Ext.alloc ?_ _ | with_reducible refine Ext.gr ?_ _ | with_reducible refine Ext.drewN ?_ _ | with_reducible refine Ext.drew ?_ | with_reducible refine Ext.setCell ?_ ?_ _ | with_reducible refine Ext.more ?_ _ _ | (show _ ≤ _; dsimp only; omega)))) ⟨_, _, rfl, HS1.out.ext (by repeat (first | with_reducible exact Ext.refl _ | with_reducible assumption | with_reducible refine Ext.alloc ?_ _ | with_reducible refine Ext.gr ?_ _ | with_reducible refine Ext.drewN ?_ _ | with_reducible refine Ext.drew ?_ | with_reducible refine Ext.setCell ?_ ?_ _ | with_reducible refine Ext.more ?_ _ _ | (show _ ≤ _; dsimp only; omega)))⟩ (by decide)).mono ?_; rintro e w2 ⟨ad', cap', ⟨rfl, HS'⟩, os2, n2, rfl⟩))
      go_meet
      case rel =>
        exact ⟨_, _, _, _, rfl, rfl, rfl, rfl, Lib.hid (by repeat (first | with_reducible exact Ext.refl _ | with_reducible assumption | with_reducible refine Ext.alloc ?_ _ | with_reducible refine Ext.gr ?_ _ | with_reducible refine Ext.drewN ?_ _ | with_reducible refine Ext.drew ?_ | with_reducible refine Ext.setCell ?_ ?_ _ | with_reducible refine Ext.more ?_ _ _ | (show _ ≤ _; dsimp only; omega))), Lib.hid (HS'.out.ext (by repeat (first | with_reducible exact Ext.refl _ | with_reducible assumption | with_reducible refine Ext.alloc ?_ _ | with_reducible refine Ext.gr ?_ _ | with_reducible refine Ext.drewN ?_ _ | with_reducible refine Ext.drew ?_ | with_reducible refine Ext.setCell ?_ ?_ _ | with_reducible refine Ext.more ?_ _ _ | (show _ ≤ _; dsimp only; omega)))), Lib.hid (by simp [Holds, go_sem])⟩
    case rest =>
      obtain ⟨ad2, cap2, b2, d2, rfl, rfl, rfl, rfl, HX, HS2, HH2⟩ := hcut
      have HE2 := Lib.hid (HE1.out.trans HX.out)
      replace HS1 := Lib.hid (HS1.out.ext HX.out)
      replace HH1 := Lib.hid (HH1.out.ext HX.out)
      clear HX HE1
      go_upto_region 5 with fail
      go_cut [9, 10, 11, 12] (fun t1 t2 t3 t4 wn => ∃ ad cap b2 b3, t1 = .slice ad 3 cap ∧ t2 = .pointer (some ⟨b2, 0, none⟩) ∧ t3 = .pointer (some ⟨b3, 0, none⟩) ∧ t4 = .bool true ∧ Hid (Ext wc wn) ∧ Hid (SlAt wn ad 3 cap (celCells [⟨0, 2, 1, 7⟩, ⟨0, 1, 1, 0⟩, zc])) ∧ Hid (Holds wn [(b2, 1, .int .u32 2), (b3, 0, .int .i64 1), (b3, 1, .int .i64 0), (b3, 2, .int .i64 0)]))
      case first =>
        go_wp2_with (first | (go_at_call 13; refine (conf_any _).mono ?_; rintro e w1 ⟨rfl, x1, rfl⟩) | (go_at_call 16; refine (done_as confC ⟨11, 1, 7, 0⟩ [⟨0, 2, 1, 7⟩, ⟨0, 1, 1, 0⟩, zc] _ run3 ⟨by decide, by decide, by decide, by decide⟩ fit2 _ _ (Tab.ext (Tab.ext HT.out HE2.out) (by repeat (first | with_reducible exact Ext.refl _ | with_reducible assumption | with_reducible refine Ext.alloc ?_ _ | with_reducible refine Ext.gr ?_ _ | with_reducible refine Ext.drewN ?_ _ | with_reducible refine Ext.drew ?_ | with_reducible refine Ext.setCell ?_ ?_ _ | with_reducible refine Ext.more ?_ _ _ | (show _ ≤ _; dsimp only; omega)))) ⟨_, _, rfl, HS2.out.ext (by repeat (first | with_reducible exact Ext.refl _ | with_reducible assumption | with_reducible refine Ext.alloc ?_ _ | with_reducible refine Ext.gr ?_ _ | with_reducible refine Ext.drewN ?_ _ | with_reducible refine Ext.drew ?_ | with_reducible refine Ext.setCell ?_ ?_ _ | with_reducible refine Ext.more ?_ _ _ | (show _ ≤ _; dsimp only; omega)))⟩ (by decide)).mono ?_; rintro e w2 ⟨ad', cap', ⟨rfl, HS'⟩, os2, n2, rfl⟩))
        go_meet
        case rel =>
          exact ⟨_, _, _, _, rfl, rfl, rfl, rfl, Lib.hid (by repeat (first | with_reducible exact Ext.refl _ | with_reducible assumption | with_reducible refine Ext.alloc ?_ _ | with_reducible refine Ext.gr ?_ _ | with_reducible refine Ext.drewN ?_ _ | with_reducible refine Ext.drew ?_ | with_reducible refine Ext.setCell ?_ ?_ _ | with_reducible refine Ext.more ?_ _ _ | (show _ ≤ _; dsimp only; omega))), Lib.hid (HS'.out.ext (by repeat (first | with_reducible exact Ext.refl _ | with_reducible assumption | with_reducible refine Ext.alloc ?_ _ | with_reducible refine Ext.gr ?_ _ | with_reducible refine Ext.drewN ?_ _ | with_reducible refine Ext.drew ?_ | with_reducible refine Ext.setCell ?_ ?_ _ | with_reducible refine Ext.more ?_ _ _ | (show _ ≤ _; dsimp only; omega)))), Lib.hid (by simp [Holds, go_sem])⟩
      case rest =>
        obtain ⟨ad3, cap3, b3, d3, rfl, rfl, rfl, rfl, HX, HS3, HH3⟩ := hcut
        have HE3 := Lib.hid (HE2.out.trans HX.out)
        replace HS1 := Lib.hid (HS1.out.ext HX.out)
        replace HH1 := Lib.hid (HH1.out.ext HX.out)
        replace HS2 := Lib.hid (HS2.out.ext HX.out)
        replace HH2 := Lib.hid (HH2.out.ext HX.out)
        clear HX HE2
        go_upto_region 6 with fail
        go_cut [13, 14, 15, 16] (fun t1 t2 t3 t4 wn => ∃ ad cap b2 b3, t1 = .slice ad 3 cap ∧ t2 = .pointer (some ⟨b2, 0, none⟩) ∧ t3 = .pointer (some ⟨b3, 0, none⟩) ∧ t4 = .bool true ∧ Hid (Ext wc wn) ∧ Hid (SlAt wn ad 3 cap (celCells [⟨0, 2, 1, 7⟩, ⟨0, 1, 1, 0⟩, zc])) ∧ Hid (Holds wn [(b2, 1, .int .u32 1), (b3, 0, .int .i64 3), (b3, 1, .int .i64 0), (b3, 2, .int .i64 0)]))
        case first =>
          go_wp2_with (first | (go_at_call 13; refine (conf_any _).mono ?_; rintro e w1 ⟨rfl, x1, rfl⟩) | (go_at_call 16; refine (done_as confC ⟨11, 1, 5, 0⟩ [⟨0, 2, 1, 7⟩, ⟨0, 1, 1, 0⟩, zc] _ run4 ⟨by decide, by decide, by decide, by decide⟩ fit2 _ _ (Tab.ext (Tab.ext HT.out HE3.out) (by repeat (first | with_reducible exact Ext.refl _ | with_reducible assumption | with_reducible refine Ext.alloc ?_ _ | with_reducible refine Ext.gr ?_ _ | with_reducible refine Ext.drewN ?_ _ | with_reducible refine Ext.drew ?_ | with_reducible refine Ext.setCell ?_ ?_ _ | with_reducible refine Ext.more ?_ _ _ | (show _ ≤ _; dsimp only; omega)))) ⟨_, _, rfl, HS2.out.ext (by repeat (first | with_reducible exact Ext.refl _ | with_reducible assumption | with_reducible refine Ext.alloc ?_ _ | with_reducible refine Ext.gr ?_ _ | with_reducible refine Ext.drewN ?_ _ | with_reducible refine Ext.drew ?_ | with_reducible refine Ext.setCell ?_ ?_ _ | with_reducible refine Ext.more ?_ _ _ | (show _ ≤ _; dsimp only; omega)))⟩ (by decide)).mono ?_; rintro e w2 ⟨ad', cap', ⟨rfl, HS'⟩, os2, n2, rfl⟩))
          go_meet
          case rel =>
            exact ⟨_, _, _, _, rfl, rfl, rfl, rfl, Lib.hid (by repeat (first | with_reducible exact Ext.refl _ | with_reducible assumption | with_reducible refine Ext.alloc ?_ _ | with_reducible refine Ext.gr ?_ _ | with_reducible refine Ext.drewN ?_ _ | with_reducible refine Ext.drew ?_ | with_reducible refine Ext.setCell ?_ ?_ _ | with_reducible refine Ext.more ?_ _ _ | (show _ ≤ _; dsimp only; omega))), Lib.hid (HS'.out.ext (by repeat (first | with_reducible exact Ext.refl _ | with_reducible assumption | with_reducible refine Ext.alloc ?_ _ | with_reducible refine Ext.gr ?_ _ | with_reducible refine Ext.drewN ?_ _ | with_reducible refine Ext.drew ?_ | with_reducible refine Ext.setCell ?_ ?_ _ | with_reducible refine Ext.more ?_ _ _ | (show _ ≤ _; dsimp only; omega)))), Lib.hid (by simp [Holds, go_sem])⟩
        case rest =>
          obtain ⟨ad4, cap4, b4, d4, rfl, rfl, rfl, rfl, HX, HS4, HH4⟩ := hcut
          have HE4 := Lib.hid (HE3.out.trans HX.out)
          replace HS1 := Lib.hid (HS1.out.ext HX.out)
          replace HH1 := Lib.hid (HH1.out.ext HX.out)
          replace HS2 := Lib.hid (HS2.out.ext HX.out)
          replace HH2 := Lib.hid (HH2.out.ext HX.out)
          replace HS3 := Lib.hid (HS3.out.ext HX.out)
          replace HH3 := Lib.hid (HH3.out.ext HX.out)
          clear HX HE3
          go_upto_region 7 with fail
          go_cut [17, 18, 19, 20] (fun t1 t2 t3 t4 wn => ∃ ad cap b2 b3, t1 = .slice ad 3 cap ∧ t2 = .pointer (some ⟨b2, 0, none⟩) ∧ t3 = .pointer (some ⟨b3, 0, none⟩) ∧ t4 = .bool true ∧ Hid (Ext wc wn) ∧ Hid (SlAt wn ad 3 cap (celCells [zc, ⟨0, 1, 1, 0⟩, zc])) ∧ Hid (Holds wn [(b2, 1, .int .u32 2), (b3, 0, .int .i64 1), (b3, 1, .int .i64 1), (b3, 2, .int .i64 0)]))
          case first =>
            go_wp2_with (first | (go_at_call 13; refine (conf_any _).mono ?_; rintro e w1 ⟨rfl, x1, rfl⟩) | (go_at_call 16; refine (done_as confC ⟨10, 1, 7, 0⟩ [⟨0, 2, 1, 7⟩, ⟨0, 1, 1, 0⟩, zc] _ run5 ⟨by decide, by decide, by decide, by decide⟩ fit2 _ _ (Tab.ext (Tab.ext HT.out HE4.out) (by repeat (first | with_reducible exact Ext.refl _ | with_reducible assumption | with_reducible refine Ext.alloc ?_ _ | with_reducible refine Ext.gr ?_ _ | with_reducible refine Ext.drewN ?_ _ | with_reducible refine Ext.drew ?_ | with_reducible refine Ext.setCell ?_ ?_ _ | with_reducible refine Ext.more ?_ _ _ | (show _ ≤ _; dsimp only; omega)))) ⟨_, _, rfl, HS2.out.ext (by repeat (first | with_reducible exact Ext.refl _ | with_reducible assumption | with_reducible refine Ext.alloc ?_ _ | with_reducible refine Ext.gr ?_ _ | with_reducible refine Ext.drewN ?_ _ | with_reducible refine Ext.drew ?_ | with_reducible refine Ext.setCell ?_ ?_ _ | with_reducible refine Ext.more ?_ _ _ | (show _ ≤ _; dsimp only; omega)))⟩ (by decide)).mono ?_; rintro e w2 ⟨ad', cap', ⟨rfl, HS'⟩, os2, n2, rfl⟩))
            go_meet
            case rel =>
              exact ⟨_, _, _, _, rfl, rfl, rfl, rfl, Lib.hid (by repeat (first | with_reducible exact Ext.refl _ | with_reducible assumption | with_reducible refine Ext.alloc ?_ _ | with_reducible refine Ext.gr ?_ _ | with_reducible refine Ext.drewN ?_ _ | with_reducible refine Ext.drew ?_ | with_reducible refine Ext.setCell ?_ ?_ _ | with_reducible refine Ext.more ?_ _ _ | (show _ ≤ _; dsimp only; omega))), Lib.hid (HS'.out.ext (by repeat (first | with_reducible exact Ext.refl _ | with_reducible assumption | with_reducible refine Ext.alloc ?_ _ | with_reducible refine Ext.gr ?_ _ | with_reducible refine Ext.drewN ?_ _ | with_reducible refine Ext.drew ?_ | with_reducible refine Ext.setCell ?_ ?_ _ | with_reducible refine Ext.more ?_ _ _ | (show _ ≤ _; dsimp only; omega)))), Lib.hid (by simp [Holds, go_sem])⟩
          case rest =>
            obtain ⟨ad5, cap5, b5, d5, rfl, rfl, rfl, rfl, HX, HS5, HH5⟩ := hcut
            have HE5 := Lib.hid (HE4.out.trans HX.out)
            replace HS1 := Lib.hid (HS1.out.ext HX.out)
            replace HH1 := Lib.hid (HH1.out.ext HX.out)
            replace HS2 := Lib.hid (HS2.out.ext HX.out)
            replace HH2 := Lib.hid (HH2.out.ext HX.out)
            replace HS3 := Lib.hid (HS3.out.ext HX.out)
            replace HH3 := Lib.hid (HH3.out.ext HX.out)
            replace HS4 := Lib.hid (HS4.out.ext HX.out)
            replace HH4 := Lib.hid (HH4.out.ext HX.out)
            clear HX HE4
            obtain ⟨o1, p1, rfl, _, C1⟩ := HS1.out.cel0 (i := 0) (by decide) (by decide)
            obtain ⟨o2, p2, rfl, _, C2⟩ := HS2.out.cel0 (i := 1) (by decide) (by decide)
            obtain ⟨o5, p5, rfl, _, C5⟩ := HS5.out.cel0 (i := 0) (by decide) (by decide)
            have K1 := HH1.out
            have K2 := HH2.out
            have K3 := HH3.out
            have K4 := HH4.out
            have K5 := HH5.out
            clear HS1 HS2 HS3 HS4 HS5 HH1 HH2 HH3 HH4 HH5
            simp [Holds] at K1 K2 K3 K4 K5
            simp [CelAt] at C1 C2 C5
            go_wp2
            go_ret
            exact ⟨rfl, HE5.out.trans (by repeat (first | with_reducible exact Ext.refl _ | with_reducible assumption | with_reducible refine Ext.alloc ?_ _ | with_reducible refine Ext.gr ?_ _ | with_reducible refine Ext.drewN ?_ _ | with_reducible refine Ext.drew ?_ | with_reducible refine Ext.setCell ?_ ?_ _ | with_reducible refine Ext.more ?_ _ _ | (show _ ≤ _; dsimp only; omega)))⟩
end Go.Proofs.YtaijkpfgnlkppaaDoor
