/- The walk of 'alive', layer 'tree': the chapter's examples. -/
import Derived.Test.YtkklhhdkokncnaaDoorTreS
import Derived.Test.YtkklhhdkokncnaaDoorRf
import Derived.Deep.DeepCutAuto
namespace Go.Proofs.YtkklhhdkokncnaaDoor
open Go Go.RowKit
set_option maxRecDepth 100000
set_option maxHeartbeats 8000000

theorem sl_lit {W : World} {b n : Nat} {C : Array Value} {cs : List Value} (h : ∀ (j : Nat) (u : Value), C[j]? = some u → W.cell? ⟨b, j, none⟩ = some u) (hC : C = cs.toArray) (hn : n ≤ 1000) : Sl W (.slice (some ⟨b, 0, none⟩) n n) n cs := by
  subst hC
  exact ⟨_, _, rfl, Nat.le_refl _, by unfold maxLen; omega, Or.inr ⟨_, _, rfl, fun j u hu => by rw [Nat.zero_add]; exact h j u (by simpa using hu)⟩⟩
theorem same_rows (v u : Value) (A : List Rw) (w : World) (hv : Rws w v A) (hu : Rws w u A) : Calls Tryd.prog 37 #[v, u] w fun e w' => e = .returned (.bool true) ∧ Ext w w' :=
  (sameRows_any v u A A w hv.sl hu.sl).mono fun e w' h => by simpa using h
theorem rws_one {W : World} {b o cap : Nat} {k v : Int} (h1 : 1 ≤ cap) (h2 : cap ≤ 1000) (c0 : W.cell? ⟨b, o, none⟩ = some (.int .u64 k)) (c1 : W.cell? ⟨b, o + 1, none⟩ = some (.int .u64 v)) : Rws W (.slice (some ⟨b, o, none⟩) 1 cap) [⟨k, v⟩] := by
  refine ⟨_, _, rfl, ⟨h1, by unfold maxLen; omega, Or.inr ⟨_, _, rfl, fun j u hu => ?_⟩⟩, fun h => by cases h⟩
  match j, hu with
  | 0, hu => simp [rwCells, Rw.cells] at hu; subst hu; exact c0
  | 1, hu => simp [rwCells, Rw.cells] at hu; subst hu; exact c1
  | j + 2, hu => simp [rwCells, Rw.cells] at hu
theorem alive_any (w : World) (ht : Tab w) : Calls Tryd.prog 15 #[] w fun e w' => e = .returned (.bool true) ∧ Ext w w' := by
  have HT := Lib.hid ht
  clear ht
  have HC0 : Hid (Sl ((w.alloc (.cells #[.int .u64 2, .int .u64 20, .int .u64 5, .int .u64 50, .int .u64 9, .int .u64 90] 39)).alloc (.cells #[.int .u64 0, .int .u64 3, .int .u64 0, .int .u64 0, .int .u64 0, .int .u64 2, .int .u64 20, .int .u64 0, .int .u64 0, .int .u64 5, .int .u64 50, .int .u64 0, .int .u64 0, .int .u64 9, .int .u64 90, .int .u64 0, .int .u64 0, .int .u64 5, .int .u64 0, .int .u64 0, .int .u64 0, .int .u64 9, .int .u64 0, .int .u64 0] 37)) (.slice (some ⟨w.heap.size + 1, 0, none⟩) 6 6) 6 (celCells cells0)) := Lib.hid (sl_lit (C := #[.int .u64 0, .int .u64 3, .int .u64 0, .int .u64 0, .int .u64 0, .int .u64 2, .int .u64 20, .int .u64 0, .int .u64 0, .int .u64 5, .int .u64 50, .int .u64 0, .int .u64 0, .int .u64 9, .int .u64 90, .int .u64 0, .int .u64 0, .int .u64 5, .int .u64 0, .int .u64 0, .int .u64 0, .int .u64 9, .int .u64 0, .int .u64 0]) (fun j u hu => by simpa [go_sem] using hu) (by kernel_rfl) (by decide))
  have HR0 : Hid (Rws ((w.alloc (.cells #[.int .u64 2, .int .u64 20, .int .u64 5, .int .u64 50, .int .u64 9, .int .u64 90] 39)).alloc (.cells #[.int .u64 0, .int .u64 3, .int .u64 0, .int .u64 0, .int .u64 0, .int .u64 2, .int .u64 20, .int .u64 0, .int .u64 0, .int .u64 5, .int .u64 50, .int .u64 0, .int .u64 0, .int .u64 9, .int .u64 90, .int .u64 0, .int .u64 0, .int .u64 5, .int .u64 0, .int .u64 0, .int .u64 0, .int .u64 9, .int .u64 0, .int .u64 0] 37)) (.slice (some ⟨w.heap.size, 2, none⟩) 1 2) [⟨5, 50⟩]) := Lib.hid (rws_one (by decide) (by decide) (by simp [go_sem]) (by simp [go_sem]))
  go_enter Tryd.func15, Tryd.ntmps15
  go_upto_region 3 with fail
  go_cut [3, 4, 5, 6] (fun t3 t4 t5 t6 wn => ∃ ad cap b4, t3 = .slice ad 6 cap ∧ t4 = .pointer (some ⟨b4, 0, none⟩) ∧ t6 = .bool true ∧ Hid (Ext ((w.alloc (.cells #[.int .u64 2, .int .u64 20, .int .u64 5, .int .u64 50, .int .u64 9, .int .u64 90] 39)).alloc (.cells #[.int .u64 0, .int .u64 3, .int .u64 0, .int .u64 0, .int .u64 0, .int .u64 2, .int .u64 20, .int .u64 0, .int .u64 0, .int .u64 5, .int .u64 50, .int .u64 0, .int .u64 0, .int .u64 9, .int .u64 90, .int .u64 0, .int .u64 0, .int .u64 5, .int .u64 0, .int .u64 0, .int .u64 0, .int .u64 9, .int .u64 0, .int .u64 0] 37)) wn) ∧ Hid (Sl wn t5 4 (offV [0, 4, 1, 2])) ∧ Hid (Holds wn [(b4, 1, .int .u32 51)]))
  case first =>
    go_wp2_with (first | (go_at_call 13; refine (conf_any _).mono ?_; rintro e w1 ⟨rfl, x1, rfl⟩) | (go_at_call 14; refine (done_as confI ⟨6, 5, 0, 0⟩ cells0 _ runI1 ⟨by decide, by decide, by decide, by decide⟩ fitI0 _ _ (Tab.ext (Tab.ext HT.out EX) EX) (HC0.out.ext EX) (by decide)).mono ?_; rintro e w2 ⟨ad2, cap2, va2, r2, ⟨rfl, HS2, HA2, HR2⟩, os2, n2, rfl⟩; obtain ⟨adr, capr, e9, _⟩ := HR2.out; subst e9))
    go_meet
    case rel => exact ⟨_, _, _, rfl, rfl, rfl, Lib.hid EX, Lib.hid (HA2.out.sl.ext EX), Lib.hid (by simp [Holds, go_sem])⟩
  case rest =>
    obtain ⟨ad1, cap1, b4, rfl, rfl, rfl, HE1, HA1, HH1⟩ := hcut
    go_upto_region 4 with fail
    go_cut [7, 8, 9, 10] (fun t7 t8 t9 t10 wn => ∃ ad cap b8 r8, t7 = .slice ad 6 cap ∧ t8 = .pointer (some ⟨b8, 0, none⟩) ∧ t10 = .bool true ∧ Hid (Ext wc wn) ∧ Hid (Sl wn t9 5 (offV [0, 4, 5, 3, 2])) ∧ Hid (Holds wn [(b8, 2, r8)]) ∧ Hid (Rws wn r8 [⟨5, 50⟩]))
    case first =>
      go_wp2_with (first | (go_at_call 13; refine (conf_any _).mono ?_; rintro e w1 ⟨rfl, x1, rfl⟩) | (go_at_call 14; refine (done_as confI ⟨7, 6, 0, 0⟩ cells0 _ runI2 ⟨by decide, by decide, by decide, by decide⟩ fitI0 _ _ (Tab.ext (Tab.ext HT.out (Ext.trans EX HE1.out)) EX) ((HC0.out.ext HE1.out).ext EX) (by decide)).mono ?_; rintro e w2 ⟨ad2, cap2, va2, r2, ⟨rfl, HS2, HA2, HR2⟩, os2, n2, rfl⟩; obtain ⟨adr, capr, e9, _⟩ := HR2.out; subst e9))
      go_meet
      case rel => exact ⟨_, _, _, _, rfl, rfl, rfl, Lib.hid EX, Lib.hid (HA2.out.sl.ext EX), Lib.hid (by simp [Holds, go_sem]), Lib.hid (HR2.out.ext EX)⟩
    case rest =>
      obtain ⟨ad2, cap2, b8, r8, rfl, rfl, rfl, HX2, HA2, HH2, HR2⟩ := hcut
      have HE2 := Lib.hid (HE1.out.trans HX2.out)
      replace HA1 := Lib.hid (HA1.out.ext HX2.out)
      replace HH1 := Lib.hid (HH1.out.ext HX2.out)
      clear HX2 HE1
      go_upto_region 5 with fail
      go_cut [11, 12, 13, 14] (fun t11 t12 t13 t14 wn => ∃ ad cap b12, t11 = .slice ad 6 cap ∧ t12 = .pointer (some ⟨b12, 0, none⟩) ∧ t14 = .bool true ∧ Hid (Ext wc wn) ∧ Hid (Sl wn t13 12 (offV [0, 4, 1, 2, 1, 3, 2, 3, 0, 2, 4, 5])) ∧ Hid (Holds wn [(b12, 1, .int .u32 21)]) ∧ Hid (Sl wn (.slice ad 6 cap) 6 (celCells cells1)))
      case first =>
        go_wp2_with (first | (go_at_call 13; refine (conf_any _).mono ?_; rintro e w1 ⟨rfl, x1, rfl⟩) | (go_at_call 14; refine (done_as confI ⟨5, 2, 0, 0⟩ cells0 _ runI3 ⟨by decide, by decide, by decide, by decide⟩ fitI0 _ _ (Tab.ext (Tab.ext HT.out (Ext.trans EX HE2.out)) EX) ((HC0.out.ext HE2.out).ext EX) (by decide)).mono ?_; rintro e w2 ⟨ad2, cap2, va2, r2, ⟨rfl, HS2, HA2, HR2⟩, os2, n2, rfl⟩; obtain ⟨adr, capr, e9, _⟩ := HR2.out; subst e9))
        go_meet
        case rel => exact ⟨_, _, _, rfl, rfl, rfl, Lib.hid EX, Lib.hid (HA2.out.sl.ext EX), Lib.hid (by simp [Holds, go_sem]), Lib.hid ⟨_, _, rfl, HS2.out.ext EX⟩⟩
      case rest =>
        obtain ⟨ad3, cap3, b12, rfl, rfl, rfl, HX3, HA3, HH3, HS3⟩ := hcut
        have HE3 := Lib.hid (HE2.out.trans HX3.out)
        have HEW : Hid (Ext w wc) := Lib.hid (Ext.trans EX HE3.out)
        replace HA1 := Lib.hid (HA1.out.ext HX3.out)
        replace HA2 := Lib.hid (HA2.out.ext HX3.out)
        have HQ : Hid (Holds wc ([(b4, 1, .int .u32 51)] ++ ([(b8, 2, r8)] ++ [(b12, 1, .int .u32 21)]))) := Lib.hid ((HH1.out.ext HX3.out).app ((HH2.out.ext HX3.out).app HH3.out))
        replace HR2 := Lib.hid (HR2.out.ext HX3.out)
        have HR1 : Hid (Rws wc (.slice (some ⟨w.heap.size, 2, none⟩) 1 2) [⟨5, 50⟩]) := Lib.hid (HR0.out.ext HE3.out)
        clear HH1 HH2 HH3 HX3 HE2 HC0 HR0 HE3
        go_upto_region 7 with (first | (go_at_call 16; (with_reducible refine (sameAt_lit _ #[.int .i64 0, .int .i64 4, .int .i64 1, .int .i64 2] _ _ [0, 4, 1, 2] _ (HA1.out.ext EX) (fun j u hu => by simpa [go_sem] using hu) (by kernel_rfl) (by decide) (by decide)).mono ?_); rintro e w9 ⟨rfl, os9, n9, rfl⟩) | (go_at_call 16; (with_reducible refine (sameAt_lit _ #[.int .i64 0, .int .i64 4, .int .i64 5, .int .i64 3, .int .i64 2] _ _ [0, 4, 5, 3, 2] _ (HA2.out.ext EX) (fun j u hu => by simpa [go_sem] using hu) (by kernel_rfl) (by decide) (by decide)).mono ?_); rintro e w9 ⟨rfl, os9, n9, rfl⟩) | (go_at_call 16; (with_reducible refine (sameAt_lit _ #[.int .i64 0, .int .i64 4, .int .i64 1, .int .i64 2, .int .i64 1, .int .i64 3, .int .i64 2, .int .i64 3, .int .i64 0, .int .i64 2, .int .i64 4, .int .i64 5] _ _ [0, 4, 1, 2, 1, 3, 2, 3, 0, 2, 4, 5] _ (HA3.out.ext EX) (fun j u hu => by simpa [go_sem] using hu) (by kernel_rfl) (by decide) (by decide)).mono ?_); rintro e w9 ⟨rfl, os9, n9, rfl⟩))
        go_region_held3 (fun W => W.cell? ⟨b4, 1, none⟩ = some (.int .u32 51) ∧ W.cell? ⟨b8, 2, none⟩ = some r8 ∧ W.cell? ⟨b12, 1, none⟩ = some (.int .u32 21))
          (exact (by simpa [Holds] using HQ.out.ext EX))
          (first | (go_at_call 37; refine (same_rows _ _ _ _ (HR2.out.ext EX) (HR1.out.ext EX)).mono ?_; rintro e w9 ⟨rfl, os9, n9, rfl⟩) | (go_at_call 28; (with_reducible refine (sameCells_lit _ #[.int .u64 0, .int .u64 2, .int .u64 0, .int .u64 0, .int .u64 0, .int .u64 5, .int .u64 50, .int .u64 0, .int .u64 0, .int .u64 9, .int .u64 90, .int .u64 0, .int .u64 0, .int .u64 0, .int .u64 0, .int .u64 0, .int .u64 0, .int .u64 9, .int .u64 0, .int .u64 0, .int .u64 0, .int .u64 0, .int .u64 0, .int .u64 0] _ _ cells1 _ (HS3.out.ext EX) (fun j u hu => by simpa [go_sem] using hu) (by kernel_rfl) (by decide) (by decide)).mono ?_); rintro e w9 ⟨rfl, os9, n9, rfl⟩))
        go_wp2_with fail
        go_ret
        exact ⟨rfl, HEW.out.trans EX⟩
end Go.Proofs.YtkklhhdkokncnaaDoor
