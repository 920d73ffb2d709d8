/- The walk of 'TrieNames'. -/
import Derived.Test.YtpaplhkjaniafaaDoorTrE
namespace Go.Proofs.YtpaplhkjaniafaaDoor
open Go Go.RowKit

theorem next_as (c : Cfg) (f : Frm) (A : Actn) (E : Int) (hA : trNextA c f = A) (hE : trErr c f = E) (hf : f.Fits) (w : World) (ht : Tab w) : Calls Tryd.prog 8 #[c.v, f.v] w
    fun e w' => e = .returned (.tuple #[A.v, .int .i64 E]) ∧ Ext w w' := by
  subst hA
  subst hE
  exact trNext_any c f hf w ht
theorem after_as (c : Cfg) (f : Frm) (l : Cel) (A : Frm) (E : Int) (hA : trAfterA c f l = A) (hE : trErr c f = E) (hf : f.Fits) (hl : l.Fits) (w : World) (ht : Tab w) : Calls Tryd.prog 10 #[c.v, f.v, l.v] w
    fun e w' => e = .returned (.tuple #[A.v, .int .i64 E]) ∧ Ext w w' := by
  subst hA
  subst hE
  exact trAfter_any c f l hf hl w ht
abbrev zeroCfg : Cfg := ⟨0, 0, 0, 0, 0, 0, 0, 0, 0, 0, 0, 0⟩
theorem fit_frm {f : Frm} (h : (0 ≤ f.kind ∧ f.kind ≤ 255) ∧ (0 ≤ f.a ∧ f.a ≤ 4294967295) ∧ (0 ≤ f.b ∧ f.b ≤ 4294967295) ∧ (0 ≤ f.pc ∧ f.pc ≤ 255) ∧ (0 ≤ f.i ∧ f.i ≤ 255) ∧ (0 ≤ f.j ∧ f.j ≤ 255) ∧ (0 ≤ f.n ∧ f.n ≤ 255) ∧ (0 ≤ f.p ∧ f.p ≤ 255) ∧ (0 ≤ f.h ∧ f.h ≤ 255) ∧ (0 ≤ f.x ∧ f.x ≤ 4294967295) ∧ (0 ≤ f.y ∧ f.y ≤ 4294967295)) : f.Fits :=
  ⟨h.1, h.2.1, h.2.2.1, h.2.2.2.1, h.2.2.2.2.1, h.2.2.2.2.2.1, h.2.2.2.2.2.2.1, h.2.2.2.2.2.2.2.1, h.2.2.2.2.2.2.2.2.1, h.2.2.2.2.2.2.2.2.2.1, h.2.2.2.2.2.2.2.2.2.2⟩

set_option maxRecDepth 100000 in
set_option maxHeartbeats 4000000 in
theorem trieNames_walk (w : World) (ht : Tab w) : Calls Tryd.prog 5 #[] w fun e w' => e = .returned (.bool true) ∧ Ext w w' := by
  have HT := Lib.hid ht
  clear ht
  go_enter Tryd.func5, Tryd.ntmps5
  go_upto_region 2 with (go_at_call 8; refine (next_as zeroCfg zeroFrm zeroAct 40 (by kernel_rfl) (by kernel_rfl) (fit_frm (by decide)) _ (Tab.ext HT.out (by repeat (first | with_reducible exact Ext.refl _ | with_reducible assumption | with_reducible refine Ext.alloc ?_ _ | with_reducible refine Ext.gr ?_ _ | with_reducible refine Ext.drewN ?_ _ | with_reducible refine Ext.drew ?_ | with_reducible refine Ext.setCell ?_ ?_ _ | with_reducible refine Ext.more ?_ _ _ | (show _ ≤ _; dsimp only; omega))))).mono ?_; rintro e w1 ⟨rfl, os1, n1, rfl⟩)
  go_upto_region 3 with (first | (go_at_call 12; refine (conf_any _).mono ?_; rintro e w1 ⟨rfl, x1, rfl⟩) | (go_at_call 8; refine (next_as confC ⟨1, 0, 0, 4, 0, 0, 0, 0, 0, 0, 0⟩ zeroAct 2 (by kernel_rfl) (by kernel_rfl) (fit_frm (by decide)) _ (Tab.ext HT.out (by repeat (first | with_reducible exact Ext.refl _ | with_reducible assumption | with_reducible refine Ext.alloc ?_ _ | with_reducible refine Ext.gr ?_ _ | with_reducible refine Ext.drewN ?_ _ | with_reducible refine Ext.drew ?_ | with_reducible refine Ext.setCell ?_ ?_ _ | with_reducible refine Ext.more ?_ _ _ | (show _ ≤ _; dsimp only; omega))))).mono ?_; rintro e w1 ⟨rfl, os1, n1, rfl⟩))
  go_upto_region 4 with (first | (go_at_call 12; refine (conf_any _).mono ?_; rintro e w1 ⟨rfl, x1, rfl⟩) | (go_at_call 8; refine (next_as confC ⟨1, 0, 0, 0, 0, 0, 0, 0, 1, 0, 0⟩ zeroAct 2 (by kernel_rfl) (by kernel_rfl) (fit_frm (by decide)) _ (Tab.ext HT.out (by repeat (first | with_reducible exact Ext.refl _ | with_reducible assumption | with_reducible refine Ext.alloc ?_ _ | with_reducible refine Ext.gr ?_ _ | with_reducible refine Ext.drewN ?_ _ | with_reducible refine Ext.drew ?_ | with_reducible refine Ext.setCell ?_ ?_ _ | with_reducible refine Ext.more ?_ _ _ | (show _ ≤ _; dsimp only; omega))))).mono ?_; rintro e w1 ⟨rfl, os1, n1, rfl⟩))
  go_upto_region 5 with (first | (go_at_call 12; refine (conf_any _).mono ?_; rintro e w1 ⟨rfl, x1, rfl⟩) | (go_at_call 10; refine (after_as confC ⟨2, 0, 0, 7, 0, 0, 0, 0, 0, 0, 0⟩ zc zeroFrm 2 (by kernel_rfl) (by kernel_rfl) (fit_frm (by decide)) (fit_cel (by decide)) _ (Tab.ext HT.out (by repeat (first | with_reducible exact Ext.refl _ | with_reducible assumption | with_reducible refine Ext.alloc ?_ _ | with_reducible refine Ext.gr ?_ _ | with_reducible refine Ext.drewN ?_ _ | with_reducible refine Ext.drew ?_ | with_reducible refine Ext.setCell ?_ ?_ _ | with_reducible refine Ext.more ?_ _ _ | (show _ ≤ _; dsimp only; omega))))).mono ?_; rintro e w1 ⟨rfl, os1, n1, rfl⟩))
  go_upto_region 6 with (first | (go_at_call 12; refine (conf_any _).mono ?_; rintro e w1 ⟨rfl, x1, rfl⟩) | (go_at_call 10; refine (after_as confC ⟨4, 0, 0, 0, 0, 0, 0, 0, 0, 0, 0⟩ zc zeroFrm 2 (by kernel_rfl) (by kernel_rfl) (fit_frm (by decide)) (fit_cel (by decide)) _ (Tab.ext HT.out (by repeat (first | with_reducible exact Ext.refl _ | with_reducible assumption | with_reducible refine Ext.alloc ?_ _ | with_reducible refine Ext.gr ?_ _ | with_reducible refine Ext.drewN ?_ _ | with_reducible refine Ext.drew ?_ | with_reducible refine Ext.setCell ?_ ?_ _ | with_reducible refine Ext.more ?_ _ _ | (show _ ≤ _; dsimp only; omega))))).mono ?_; rintro e w1 ⟨rfl, os1, n1, rfl⟩))
  go_upto_region 7 with (first | (go_at_call 12; refine (conf_any _).mono ?_; rintro e w1 ⟨rfl, x1, rfl⟩) | (go_at_call 8; refine (next_as confC ⟨1, 0, 0, 0, 0, 0, 0, 0, 0, 0, 2147483648⟩ zeroAct 2 (by kernel_rfl) (by kernel_rfl) (fit_frm (by decide)) _ (Tab.ext HT.out (by repeat (first | with_reducible exact Ext.refl _ | with_reducible assumption | with_reducible refine Ext.alloc ?_ _ | with_reducible refine Ext.gr ?_ _ | with_reducible refine Ext.drewN ?_ _ | with_reducible refine Ext.drew ?_ | with_reducible refine Ext.setCell ?_ ?_ _ | with_reducible refine Ext.more ?_ _ _ | (show _ ≤ _; dsimp only; omega))))).mono ?_; rintro e w1 ⟨rfl, os1, n1, rfl⟩))
  go_upto_region 8 with (first | (go_at_call 12; refine (conf_any _).mono ?_; rintro e w1 ⟨rfl, x1, rfl⟩) | (go_at_call 8; refine (next_as confC ⟨1, 0, 0, 7, 0, 0, 0, 0, 0, 0, 0⟩ ⟨4, 0, 0, 0, 0, 9, 0⟩ 0 (by kernel_rfl) (by kernel_rfl) (fit_frm (by decide)) _ (Tab.ext HT.out (by repeat (first | with_reducible exact Ext.refl _ | with_reducible assumption | with_reducible refine Ext.alloc ?_ _ | with_reducible refine Ext.gr ?_ _ | with_reducible refine Ext.drewN ?_ _ | with_reducible refine Ext.drew ?_ | with_reducible refine Ext.setCell ?_ ?_ _ | with_reducible refine Ext.more ?_ _ _ | (show _ ≤ _; dsimp only; omega))))).mono ?_; rintro e w1 ⟨rfl, os1, n1, rfl⟩))
  go_wp2_with (go_at_call 13; refine (alive_any _ (Tab.ext HT.out (by repeat (first | with_reducible exact Ext.refl _ | with_reducible assumption | with_reducible refine Ext.alloc ?_ _ | with_reducible refine Ext.gr ?_ _ | with_reducible refine Ext.drewN ?_ _ | with_reducible refine Ext.drew ?_ | with_reducible refine Ext.setCell ?_ ?_ _ | with_reducible refine Ext.more ?_ _ _ | (show _ ≤ _; dsimp only; omega))))).mono ?_; rintro e w1 ⟨rfl, os1, n1, rfl⟩)
  go_ret
  exact ⟨rfl, (by repeat (first | with_reducible exact Ext.refl _ | with_reducible assumption | with_reducible refine Ext.alloc ?_ _ | with_reducible refine Ext.gr ?_ _ | with_reducible refine Ext.drewN ?_ _ | with_reducible refine Ext.drew ?_ | with_reducible refine Ext.setCell ?_ ?_ _ | with_reducible refine Ext.more ?_ _ _ | (show _ ≤ _; dsimp only; omega)))⟩
end Go.Proofs.YtpaplhkjaniafaaDoor
