/- The walk of 'alive', layer 'branch': the chapter's examples. -/
import Derived.Test.YtmbodooikfmegaaDoorBrS
import Derived.Deep.DeepCutAuto
namespace Go.Proofs.YtmbodooikfmegaaDoor
open Go Go.RowKit
set_option maxRecDepth 100000
set_option maxHeartbeats 8000000

theorem conf_any (w : World) : Calls Tryd.prog 13 #[] w fun e w' => e = .returned confC.v ∧ ∃ x, w' = w.alloc x := by
  go_enter Tryd.func13, Tryd.ntmps13
  go_wp2
  refine bodyPost_ret (v := confC.v) (by simp [results, Tryd.results13, go_sem]) rfl ⟨rfl, _, rfl⟩
theorem done_as (c : Cfg) (o : Opn) (L : List Cel) (R : OutB) (hR : brRun c 200 (startF o) L [] = R) (ho : o.Fits) (hL : CelsFit L) (v : Value) (w : World) (ht : Tab w) (hs : Sl w v L.length (celCells L)) (hlen : L.length ≤ 1000) :
    Calls Tryd.prog 16 #[c.v, v, o.v] w
    fun e w' => ∃ ad cap va, (e = .returned (.tuple #[.slice ad R.cells.length cap, .agg #[.int .i64 R.code, .int .u32 R.word, .slice none 0 0], va, .bool R.ok]) ∧
      Hid (SlAt w' ad R.cells.length cap (celCells R.cells)) ∧ Hid (SlB w.heap.size w' va R.offs.length (offV R.offs))) ∧ Ext w w' := by
  subst hR
  refine (done_any c o ho L hL v w ht hs hlen).mono fun e w' h => ?_
  obtain ⟨ad, cap, va, rfl, h1, h2, he⟩ := h
  exact ⟨ad, cap, va, ⟨rfl, Lib.hid h1, Lib.hid h2⟩, he⟩
theorem fit_cel {t a b c : Int} (h : (0 ≤ t ∧ t ≤ 18446744073709551615) ∧ (0 ≤ a ∧ a ≤ 18446744073709551615) ∧ (0 ≤ b ∧ b ≤ 18446744073709551615) ∧ (0 ≤ c ∧ c ≤ 18446744073709551615)) : (Cel.mk t a b c).Fits := ⟨h.1, h.2.1, h.2.2.1, h.2.2.2⟩
abbrev mid : List Cel := [⟨0, 1, 1, 0⟩, ⟨0, 2, 2, 8⟩, zc]
theorem fit0 : CelsFit [zc, zc, zc] := fun x hx => by simp at hx; subst hx; exact fit_cel (by decide)
theorem fit1 : CelsFit mid := fun x hx => by simp [mid] at hx; rcases hx with rfl | rfl | rfl <;> exact fit_cel (by decide)
theorem SlAt.allocR {w : World} {ad : Option Addr} {n cap : Nat} {cs : List Value} (h : SlAt w ad n cap cs) (o : Obj) : SlAt (w.alloc o) ad n cap cs := h.ext (Ext.alloc (Ext.refl _) o)
theorem SlAt.drewR {w : World} {ad : Option Addr} {n cap : Nat} {cs : List Value} (h : SlAt w ad n cap cs) : SlAt w.drew ad n cap cs := h.ext (Ext.drew (Ext.refl _))
theorem Sl.allocR {w : World} {v : Value} {n : Nat} {cs : List Value} (h : Sl w v n cs) (o : Obj) : Sl (w.alloc o) v n cs := h.ext (Ext.alloc (Ext.refl _) o)
theorem Sl.drewR {w : World} {v : Value} {n : Nat} {cs : List Value} (h : Sl w v n cs) : Sl w.drew v n cs := h.ext (Ext.drew (Ext.refl _))
theorem SlAt.keepU0 {w w' : World} {ad : Option Addr} {n cap : Nat} {cs : List Value} (h : SlAt w ad n cap cs) (hu : ∀ u ∈ cs, ∃ x, u = .int .u64 x) (e : KeepU w w') : SlAt w' ad n cap cs := h.keepU hu e (Ext.refl _)

/-- 'sameAt' at a literal. -/
theorem sameAt_lit (v : Value) (C : Array Value) (b n : Nat) (t : List Int) (w : World) (hv : Sl w v n (offV t)) (hc : ∀ (j : Nat) (u : Value), C[j]? = some u → w.cell? ⟨b, j, none⟩ = some u) (hC : C = (offV t).toArray) (hn : t.length = n) (hm : n ≤ 1000) :
    Calls Tryd.prog 30 #[v, .slice (some ⟨b, 0, none⟩) n n] w fun e w' => e = .returned (.bool true) ∧ Ext w w' := by
  subst hn
  subst hC
  refine sameAt_any v _ t w hv ⟨_, _, rfl, Nat.le_refl _, by unfold maxLen; omega, Or.inr ⟨_, _, rfl, fun j u hu => ?_⟩⟩
  rw [Nat.zero_add]
  exact hc j u (by simpa using hu)
theorem alive_any (w : World) (ht : Tab w) : Calls Tryd.prog 14 #[] w fun e w' => e = .returned (.bool true) ∧ Ext w w' := by
  have HT := Lib.hid ht
  clear ht
  have hmk : ∀ w : World, (Instr.makeSlice 45 (.int .i64 3) (.int .i64 3)).run Tryd.prog w = .ok (.slice (some ⟨w.heap.size, 0, none⟩) 3 3) (w.alloc (.cells #[.int .u64 0, .int .u64 0, .int .u64 0, .int .u64 0, .int .u64 0, .int .u64 0, .int .u64 0, .int .u64 0, .int .u64 0, .int .u64 0, .int .u64 0, .int .u64 0] 37)) := fun _ => by kernel_rfl
  go_enter Tryd.func14, Tryd.ntmps14
  go_upto_region 1 with fail
  go_cut [1, 2, 3, 4] (fun t1 t2 t3 t4 wn => ∃ ad cap b2, t1 = .slice ad 3 cap ∧ t2 = .pointer (some ⟨b2, 0, none⟩) ∧ t4 = .bool true ∧ Hid (Ext w wn) ∧ Hid (SlAt wn ad 3 cap (celCells mid)) ∧ Hid (Sl wn t3 6 (offV [0, 1, 2, 0, 1, 1])) ∧ Hid (Holds wn [(b2, 0, .int .i64 0), (b2, 1, .int .u32 0)]))
  case first => as_aux_lemma =>
    go_region_held3 (fun w' => w'.os = w'.os) (rfl) (first | (go_at_call 13; refine (conf_any _).mono ?_; rintro e w1 ⟨rfl, x1, rfl⟩) | (go_at_call 16; refine (done_as confC ⟨12, 131073, 0, 7⟩ [zc, zc, zc] _ run1 ⟨by decide, by decide, by decide, by decide⟩ fit0 _ _ (Tab.ext HT.out EX) ⟨_, _, rfl, by decide, by decide, Or.inr ⟨_, _, rfl, fun j u hu => by simp [go_sem]; exact hu⟩⟩ (by decide)).mono ?_; rintro e w2 ⟨ad2, cap2, va2, ⟨rfl, HS2, HA2⟩, os2, n2, rfl⟩))
    all_goals as_aux_lemma =>
      go_wp2_with fail
      go_meet
      case rel =>
        refine ⟨_, _, _, rfl, rfl, rfl, Lib.hid EX, Lib.hid ?_, Lib.hid ?_, Lib.hid ?_⟩
        · repeat (first | refine SlAt.allocR ?_ _ | refine SlAt.drewR ?_)
          refine SlAt.keepU0 HS2.out (celCells_u64 _) (KeepU.grew ?_ _ _ _)
          repeat (first | exact KeepU.refl _ | refine KeepU.drewL ?_ | refine KeepU.alloc ?_ _ | (refine KeepU.change ?_ (by simp)))
        · repeat (first | refine Sl.allocR ?_ _ | refine Sl.drewR ?_)
          exact (SlB.turn HA2.out (by simp)).sl
        · simp [Holds, go_sem]
  case rest =>
    obtain ⟨ad1, cap1, b1, rfl, rfl, rfl, HE1, HS1, HA1, HH1⟩ := hcut
    go_upto_region 4 with fail
    go_cut [5, 6, 7, 8] (fun t1 t2 t3 t4 wn => ∃ ad cap b2, t1 = .slice ad 3 cap ∧ t2 = .pointer (some ⟨b2, 0, none⟩) ∧ t4 = .bool true ∧ Hid (Ext wc wn) ∧ Hid (SlAt wn ad 3 cap (celCells mid)) ∧ Hid (Sl wn t3 3 (offV [0, 0, 1])) ∧ Hid (Holds wn [(b2, 0, .int .i64 0), (b2, 1, .int .u32 8)]))
    case first =>
      go_wp2_with (first | (go_at_call 13; refine (conf_any _).mono ?_; rintro e w1 ⟨rfl, x1, rfl⟩) | (go_at_call 16; refine (done_as confC ⟨14, 131073, 0, 0⟩ mid _ run2 ⟨by decide, by decide, by decide, by decide⟩ fit1 _ _ (Tab.ext (Tab.ext HT.out HE1.out) EX) ⟨_, _, rfl, HS1.out.ext EX⟩ (by decide)).mono ?_; rintro e w2 ⟨ad', cap', va', ⟨rfl, HS', HA'⟩, os2, n2, rfl⟩))
      go_meet
      case rel =>
        exact ⟨_, _, _, rfl, rfl, rfl, Lib.hid EX, Lib.hid (HS'.out.ext EX), Lib.hid (HA'.out.sl.ext EX), Lib.hid (by simp [Holds, go_sem])⟩
    case rest =>
      obtain ⟨ad2, cap2, b2, rfl, rfl, rfl, HX, HS2, HA2, HH2⟩ := hcut
      have HE2 := Lib.hid (HE1.out.trans HX.out)
      replace HS1 := Lib.hid (HS1.out.ext HX.out)
      replace HA1 := Lib.hid (HA1.out.ext HX.out)
      replace HH1 := Lib.hid (HH1.out.ext HX.out)
      clear HX HE1
      go_upto_region 5 with fail
      go_cut [9, 10, 11, 12] (fun t1 t2 t3 t4 wn => ∃ ad cap b2, t1 = .slice ad 3 cap ∧ t2 = .pointer (some ⟨b2, 0, none⟩) ∧ t4 = .bool true ∧ Hid (Ext wc wn) ∧ Hid (SlAt wn ad 3 cap (celCells mid)) ∧ Hid (Sl wn t3 3 (offV [0, 1, 2])) ∧ Hid (Holds wn [(b2, 0, .int .i64 9), (b2, 1, .int .u32 0)]))
      case first =>
        go_wp2_with (first | (go_at_call 13; refine (conf_any _).mono ?_; rintro e w1 ⟨rfl, x1, rfl⟩) | (go_at_call 16; refine (done_as confC ⟨12, 262147, 0, 0⟩ mid _ run3 ⟨by decide, by decide, by decide, by decide⟩ fit1 _ _ (Tab.ext (Tab.ext HT.out HE2.out) EX) ⟨_, _, rfl, HS1.out.ext EX⟩ (by decide)).mono ?_; rintro e w2 ⟨ad', cap', va', ⟨rfl, HS', HA'⟩, os2, n2, rfl⟩))
        go_meet
        case rel =>
          exact ⟨_, _, _, rfl, rfl, rfl, Lib.hid EX, Lib.hid (HS'.out.ext EX), Lib.hid (HA'.out.sl.ext EX), Lib.hid (by simp [Holds, go_sem])⟩
      case rest =>
        obtain ⟨ad3, cap3, b3, rfl, rfl, rfl, HX, HS3, HA3, HH3⟩ := hcut
        have HE3 := Lib.hid (HE2.out.trans HX.out)
        replace HS1 := Lib.hid (HS1.out.ext HX.out)
        replace HA1 := Lib.hid (HA1.out.ext HX.out)
        replace HH1 := Lib.hid (HH1.out.ext HX.out)
        replace HS2 := Lib.hid (HS2.out.ext HX.out)
        replace HA2 := Lib.hid (HA2.out.ext HX.out)
        replace HH2 := Lib.hid (HH2.out.ext HX.out)
        clear HX HE2
        go_upto_region 6 with fail
        go_cut [13, 14, 15, 16] (fun t1 t2 t3 t4 wn => ∃ ad cap b2, t1 = .slice ad 3 cap ∧ t2 = .pointer (some ⟨b2, 0, none⟩) ∧ t4 = .bool true ∧ Hid (Ext wc wn) ∧ Hid (SlAt wn ad 3 cap (celCells mid)) ∧ Hid (Sl wn t3 3 (offV [0, 0, 1])) ∧ Hid (Holds wn [(b2, 0, .int .i64 90), (b2, 1, .int .u32 0)]))
        case first =>
          go_wp2_with (first | (go_at_call 13; refine (conf_any _).mono ?_; rintro e w1 ⟨rfl, x1, rfl⟩) | (go_at_call 16; refine (done_as confC ⟨13, 1, 0, 0⟩ mid _ run4 ⟨by decide, by decide, by decide, by decide⟩ fit1 _ _ (Tab.ext (Tab.ext HT.out HE3.out) EX) ⟨_, _, rfl, HS1.out.ext EX⟩ (by decide)).mono ?_; rintro e w2 ⟨ad', cap', va', ⟨rfl, HS', HA'⟩, os2, n2, rfl⟩))
          go_meet
          case rel =>
            exact ⟨_, _, _, rfl, rfl, rfl, Lib.hid EX, Lib.hid (HS'.out.ext EX), Lib.hid (HA'.out.sl.ext EX), Lib.hid (by simp [Holds, go_sem])⟩
        case rest =>
          obtain ⟨ad4, cap4, b4, rfl, rfl, rfl, HX, HS4, HA4, HH4⟩ := hcut
          have HE4 := Lib.hid (HE3.out.trans HX.out)
          replace HS1 := Lib.hid (HS1.out.ext HX.out)
          replace HA1 := Lib.hid (HA1.out.ext HX.out)
          replace HH1 := Lib.hid (HH1.out.ext HX.out)
          replace HS2 := Lib.hid (HS2.out.ext HX.out)
          replace HA2 := Lib.hid (HA2.out.ext HX.out)
          replace HH2 := Lib.hid (HH2.out.ext HX.out)
          replace HS3 := Lib.hid (HS3.out.ext HX.out)
          replace HA3 := Lib.hid (HA3.out.ext HX.out)
          replace HH3 := Lib.hid (HH3.out.ext HX.out)
          clear HX HE3
          go_upto_region 7 with fail
          go_cut [17, 18, 19, 20] (fun t1 t2 t3 t4 wn => ∃ ad cap b2, t1 = .slice ad 3 cap ∧ t2 = .pointer (some ⟨b2, 0, none⟩) ∧ t4 = .bool true ∧ Hid (Ext wc wn) ∧ Hid (SlAt wn ad 3 cap (celCells [⟨0, 1, 1, 0⟩, zc, zc])) ∧ Hid (Sl wn t3 7 (offV [0, 0, 1, 0, 1, 2, 1])) ∧ Hid (Holds wn [(b2, 0, .int .i64 0), (b2, 1, .int .u32 8)]))
          case first =>
            go_wp2_with (first | (go_at_call 13; refine (conf_any _).mono ?_; rintro e w1 ⟨rfl, x1, rfl⟩) | (go_at_call 16; refine (done_as confC ⟨13, 131073, 0, 0⟩ mid _ run5 ⟨by decide, by decide, by decide, by decide⟩ fit1 _ _ (Tab.ext (Tab.ext HT.out HE4.out) EX) ⟨_, _, rfl, HS1.out.ext EX⟩ (by decide)).mono ?_; rintro e w2 ⟨ad', cap', va', ⟨rfl, HS', HA'⟩, os2, n2, rfl⟩))
            go_meet
            case rel =>
              exact ⟨_, _, _, rfl, rfl, rfl, Lib.hid EX, Lib.hid (HS'.out.ext EX), Lib.hid (HA'.out.sl.ext EX), Lib.hid (by simp [Holds, go_sem])⟩
          case rest =>
            obtain ⟨ad5, cap5, b5, rfl, rfl, rfl, HX, HS5, HA5, HH5⟩ := hcut
            have HE5 := Lib.hid (HE4.out.trans HX.out)
            replace HS1 := Lib.hid (HS1.out.ext HX.out)
            replace HA1 := Lib.hid (HA1.out.ext HX.out)
            replace HH1 := Lib.hid (HH1.out.ext HX.out)
            replace HS2 := Lib.hid (HS2.out.ext HX.out)
            replace HA2 := Lib.hid (HA2.out.ext HX.out)
            replace HH2 := Lib.hid (HH2.out.ext HX.out)
            replace HS3 := Lib.hid (HS3.out.ext HX.out)
            replace HA3 := Lib.hid (HA3.out.ext HX.out)
            replace HH3 := Lib.hid (HH3.out.ext HX.out)
            replace HS4 := Lib.hid (HS4.out.ext HX.out)
            replace HA4 := Lib.hid (HA4.out.ext HX.out)
            replace HH4 := Lib.hid (HH4.out.ext HX.out)
            clear HX HE4
            obtain ⟨o1, p1, rfl, _, C0⟩ := HS1.out.cel0 (i := 0) (by decide) (by decide)
            obtain ⟨o2, p2, e2, _, C1⟩ := HS1.out.cel0 (i := 1) (by decide) (by decide)
            cases e2
            have K1 := HH1.out
            have K2 := HH2.out
            have K3 := HH3.out
            have K4 := HH4.out
            have K5 := HH5.out
            clear HS1 HS2 HS3 HS4 HS5 HH1 HH2 HH3 HH4 HH5
            simp [Holds] at K1 K2 K3 K4 K5
            simp [CelAt] at C0 C1
            go_upto_region 10 with (first | (go_at_call 30; (with_reducible refine (sameAt_lit _ #[.int .i64 0, .int .i64 1, .int .i64 2, .int .i64 0, .int .i64 1, .int .i64 1] _ _ [0, 1, 2, 0, 1, 1] _ (HA1.out.ext EX) (fun j u hu => by simpa [go_sem] using hu) (by kernel_rfl) (by decide) (by decide)).mono ?_); rintro e w9 ⟨rfl, os9, n9, rfl⟩) | (go_at_call 30; (with_reducible refine (sameAt_lit _ #[.int .i64 0, .int .i64 0, .int .i64 1] _ _ [0, 0, 1] _ (HA2.out.ext EX) (fun j u hu => by simpa [go_sem] using hu) (by kernel_rfl) (by decide) (by decide)).mono ?_); rintro e w9 ⟨rfl, os9, n9, rfl⟩) | (go_at_call 30; (with_reducible refine (sameAt_lit _ #[.int .i64 0, .int .i64 1, .int .i64 2] _ _ [0, 1, 2] _ (HA3.out.ext EX) (fun j u hu => by simpa [go_sem] using hu) (by kernel_rfl) (by decide) (by decide)).mono ?_); rintro e w9 ⟨rfl, os9, n9, rfl⟩) | (go_at_call 30; (with_reducible refine (sameAt_lit _ #[.int .i64 0, .int .i64 0, .int .i64 1] _ _ [0, 0, 1] _ (HA4.out.ext EX) (fun j u hu => by simpa [go_sem] using hu) (by kernel_rfl) (by decide) (by decide)).mono ?_); rintro e w9 ⟨rfl, os9, n9, rfl⟩) | (go_at_call 30; (with_reducible refine (sameAt_lit _ #[.int .i64 0, .int .i64 0, .int .i64 1, .int .i64 0, .int .i64 1, .int .i64 2, .int .i64 1] _ _ [0, 0, 1, 0, 1, 2, 1] _ (HA5.out.ext EX) (fun j u hu => by simpa [go_sem] using hu) (by kernel_rfl) (by decide) (by decide)).mono ?_); rintro e w9 ⟨rfl, os9, n9, rfl⟩))
            refine wp_gen (fun V => Ext wc V) EX ?_
            intro V HV
            have HE6 := Lib.hid (HE5.out.trans HV)
            have M2a := ext_cell HV K2.1
            have M2b := ext_cell HV K2.2
            have M3a := ext_cell HV K3.1
            have M3b := ext_cell HV K3.2
            have M4a := ext_cell HV K4.1
            have M4b := ext_cell HV K4.2
            have M5a := ext_cell HV K5.1
            have M5b := ext_cell HV K5.2
            clear HV K1 K2 K3 K4 K5 C0 C1 HE5
            go_wp2
            go_ret
            exact ⟨rfl, HE6.out⟩
end Go.Proofs.YtmbodooikfmegaaDoor
