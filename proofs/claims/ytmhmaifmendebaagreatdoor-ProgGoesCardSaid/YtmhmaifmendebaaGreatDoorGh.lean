/- The walks of the reference's 'Step', 'May', 'Next', layer 'tree'. -/
import Derived.Test.YtmhmaifmendebaaGreatDoorA4
import Derived.Test.YtmhmaifmendebaaGreatDoorGr4
import Derived.Test.YtmhmaifmendebaaGreatDoorA1
namespace Go.Proofs.YtmhmaifmendebaaGreatDoor.tree
open Go Go.RowKit
set_option maxRecDepth 100000
set_option maxHeartbeats 8000000

theorem stepR_any (c : Cfg) (f : Frm) (hc : TreOk c) (hf : f.Fits) (hhas : treHas f = true) (hnum : treNum c f = true) (w : World) : Calls Tryz.prog 33 #[c.v, f.v] w
    fun e w' => e = .returned (treStep c f).v ∧ Ext w w' := by
  have hpc : f.pc = 0 ∨ f.pc = 1 ∨ f.pc = 3 ∨ f.pc = 4 ∨ f.pc = 5 ∨ f.pc = 6 ∨ f.pc = 7 ∨ f.pc = 8 ∨ f.pc = 9 ∨ f.pc = 11 ∨ f.pc = 12 ∨ f.pc = 13 ∨ f.pc = 14 ∨ f.pc = 15 ∨ f.pc = 16 ∨ f.pc = 17 ∨ f.pc = 20 ∨ f.pc = 21 ∨ f.pc = 22 ∨ f.pc = 23 ∨ f.pc = 24 ∨ f.pc = 25 := by
    simp only [treHas, Bool.or_eq_true, Bool.and_eq_true, beq_iff_eq] at hhas
    omega
  rcases hpc with h | h | h | h | h | h | h | h | h | h | h | h | h | h | h | h | h | h | h | h | h | h
  · exact stepR_0 c f hc hf hnum h w
  · exact stepR_1 c f hc hf hnum h w
  · exact stepR_3 c f hc hf hnum h w
  · exact stepR_4 c f hc hf hnum h w
  · exact stepR_5 c f hc hf hnum h w
  · exact stepR_6 c f hc hf hnum h w
  · exact stepR_7 c f hc hf hnum h w
  · exact stepR_8 c f hc hf hnum h w
  · exact stepR_9 c f hc hf hnum h w
  · exact stepR_11 c f hc hf hnum h w
  · exact stepR_12 c f hc hf hnum h w
  · exact stepR_13 c f hc hf hnum h w
  · exact stepR_14 c f hc hf hnum h w
  · exact stepR_15 c f hc hf hnum h w
  · exact stepR_16 c f hc hf hnum h w
  · exact stepR_17 c f hc hf hnum h w
  · exact stepR_20 c f hc hf hnum h w
  · exact stepR_21 c f hc hf hnum h w
  · exact stepR_22 c f hc hf hnum h w
  · exact stepR_23 c f hc hf hnum h w
  · exact stepR_24 c f hc hf hnum h w
  · exact stepR_25 c f hc hf hnum h w
end Go.Proofs.YtmhmaifmendebaaGreatDoor.tree
/- The walk of the reference's 'May', layer 'tree'. -/
namespace Go.Proofs.YtmhmaifmendebaaGreatDoor.tree
open Go Go.RowKit
set_option maxRecDepth 100000
set_option maxHeartbeats 8000000

theorem mayR_other (c : Cfg) (f : Frm) (hp : partOk c = true) (ho : c.object = 2) (hf : f.Fits) (hk : (f.kind == 5) = false) (w : World) : Calls Tryz.prog 32 #[c.v, f.v] w
    fun e w' => e = .returned (.bool (treMay c f)) ∧ Ext w w' := by
  have hc := treOk_of hp ho
  have hop : treOp f = ⟨f.kind, f.a, f.b, 0⟩ := by unfold treOp; rw [hk]; rfl
  have HO := Lib.hid (treOp_fits hf)
  rw [hop] at HO
  have HF := Lib.hid hf
  obtain ⟨A, hA⟩ : ∃ A, treStep c f = A := ⟨_, rfl⟩
  have HST := Lib.hid hA
  have HM : Hid (treMay c f = (opErr c ⟨f.kind, f.a, f.b, 0⟩ == 0 && treHas f && treNum c f && decide (0 ≤ (treStep c f).at'))) := Lib.hid (by rw [← hop]; rfl)
  have hfa : ∀ w : World, (Instr.field 30 A.v 1).run Tryz.prog w = .ok (.int .i64 A.at') w := fun _ => by kernel_rfl
  have HKD : Hid (opErr c ⟨f.kind, f.a, f.b, 0⟩ = 0 → f.kind = 4 ∨ f.kind = 5 ∨ f.kind = 6 ∨ f.kind = 7 ∨ f.kind = 8) := Lib.hid fun h => objOf_two ((opErr_kind h).trans ho)
  obtain ⟨E, hE⟩ : ∃ E, opErr c ⟨f.kind, f.a, f.b, 0⟩ = E := ⟨_, rfl⟩
  have HE := Lib.hid hE
  clear hA hE hop hp ho
  cases e0 : (E == 0)
  · go_enter Tryz.func32, Tryz.ntmps32
    go_wp2_with (go_at_call 52; refine (opCheckR_any c ⟨f.kind, f.a, f.b, 0⟩ HO.out _).mono ?_; rintro e w1 ⟨rfl, os1, n1, rfl⟩; rw [HE.out])
    (go_ret; refine ⟨ret_bool ?_, EX⟩)
    rw [HM.out, HE.out, e0]
    rfl
  · obtain rfl : E = 0 := by simpa using e0
    have HK := Lib.hid (HKD.out HE.out)
    cases hb : treHas f
    · have HB := Lib.hid hb
      clear hb
      go_enter Tryz.func32, Tryz.ntmps32
      go_wp2_with (first | (go_at_call 52; refine (opCheckR_any c ⟨f.kind, f.a, f.b, 0⟩ HO.out _).mono ?_; rintro e w1 ⟨rfl, os1, n1, rfl⟩; rw [HE.out]) | (go_at_call 56; refine (thereR_any f HF.out HK.out _).mono ?_; rintro e w2 ⟨rfl, os2, n2, rfl⟩; rw [HB.out]))
      (go_ret; refine ⟨ret_bool ?_, EX⟩)
      rw [HM.out, HE.out, HB.out]
      rfl
    · have HB := Lib.hid hb
      clear hb
      cases hn : treNum c f
      · have HN := Lib.hid hn
        clear hn
        go_enter Tryz.func32, Tryz.ntmps32
        go_wp2_with (first | (go_at_call 52; refine (opCheckR_any c ⟨f.kind, f.a, f.b, 0⟩ HO.out _).mono ?_; rintro e w1 ⟨rfl, os1, n1, rfl⟩; rw [HE.out]) | (go_at_call 56; refine (thereR_any f HF.out HK.out _).mono ?_; rintro e w2 ⟨rfl, os2, n2, rfl⟩; rw [HB.out]) | (go_at_call 57; refine (numbersR_any c f hc HF.out _).mono ?_; rintro e w3 ⟨rfl, os3, n3, rfl⟩; rw [HN.out]))
        (go_ret; refine ⟨ret_bool ?_, EX⟩)
        rw [HM.out, HE.out, HB.out, HN.out]
        rfl
      · have HN := Lib.hid hn
        clear hn
        go_enter Tryz.func32, Tryz.ntmps32
        go_wp2_with (first | (go_at_call 52; refine (opCheckR_any c ⟨f.kind, f.a, f.b, 0⟩ HO.out _).mono ?_; rintro e w1 ⟨rfl, os1, n1, rfl⟩; rw [HE.out]) | (go_at_call 56; refine (thereR_any f HF.out HK.out _).mono ?_; rintro e w2 ⟨rfl, os2, n2, rfl⟩; rw [HB.out]) | (go_at_call 57; refine (numbersR_any c f hc HF.out _).mono ?_; rintro e w3 ⟨rfl, os3, n3, rfl⟩; rw [HN.out]) | (go_at_call 33; refine (stepR_any c f hc HF.out HB.out HN.out _).mono ?_; rintro e w4 ⟨rfl, os4, n4, rfl⟩; rw [HST.out]))
        (go_ret; refine ⟨ret_bool ?_, EX⟩)
        rw [HM.out, HE.out, HB.out, HN.out, HST.out]
        rfl
end Go.Proofs.YtmhmaifmendebaaGreatDoor.tree
/- The walk of the reference's 'May', layer 'tree'. -/
namespace Go.Proofs.YtmhmaifmendebaaGreatDoor.tree
open Go Go.RowKit
set_option maxRecDepth 100000
set_option maxHeartbeats 8000000

theorem mayR_delete (c : Cfg) (f : Frm) (hp : partOk c = true) (ho : c.object = 2) (hf : f.Fits) (hk : (f.kind == 5) = true) (w : World) : Calls Tryz.prog 32 #[c.v, f.v] w
    fun e w' => e = .returned (.bool (treMay c f)) ∧ Ext w w' := by
  have hc := treOk_of hp ho
  have hop : treOp f = ⟨f.kind, f.a, 0, 0⟩ := by unfold treOp; rw [hk]; rfl
  have HO := Lib.hid (treOp_fits hf)
  rw [hop] at HO
  have HF := Lib.hid hf
  obtain ⟨A, hA⟩ : ∃ A, treStep c f = A := ⟨_, rfl⟩
  have HST := Lib.hid hA
  have HM : Hid (treMay c f = (opErr c ⟨f.kind, f.a, 0, 0⟩ == 0 && treHas f && treNum c f && decide (0 ≤ (treStep c f).at'))) := Lib.hid (by rw [← hop]; rfl)
  have hfa : ∀ w : World, (Instr.field 30 A.v 1).run Tryz.prog w = .ok (.int .i64 A.at') w := fun _ => by kernel_rfl
  have HKD : Hid (opErr c ⟨f.kind, f.a, 0, 0⟩ = 0 → f.kind = 4 ∨ f.kind = 5 ∨ f.kind = 6 ∨ f.kind = 7 ∨ f.kind = 8) := Lib.hid fun h => objOf_two ((opErr_kind h).trans ho)
  obtain ⟨E, hE⟩ : ∃ E, opErr c ⟨f.kind, f.a, 0, 0⟩ = E := ⟨_, rfl⟩
  have HE := Lib.hid hE
  clear hA hE hop hp ho
  cases e0 : (E == 0)
  · go_enter Tryz.func32, Tryz.ntmps32
    go_wp2_with (go_at_call 52; refine (opCheckR_any c ⟨f.kind, f.a, 0, 0⟩ HO.out _).mono ?_; rintro e w1 ⟨rfl, os1, n1, rfl⟩; rw [HE.out])
    (go_ret; refine ⟨ret_bool ?_, EX⟩)
    rw [HM.out, HE.out, e0]
    rfl
  · obtain rfl : E = 0 := by simpa using e0
    have HK := Lib.hid (HKD.out HE.out)
    cases hb : treHas f
    · have HB := Lib.hid hb
      clear hb
      go_enter Tryz.func32, Tryz.ntmps32
      go_wp2_with (first | (go_at_call 52; refine (opCheckR_any c ⟨f.kind, f.a, 0, 0⟩ HO.out _).mono ?_; rintro e w1 ⟨rfl, os1, n1, rfl⟩; rw [HE.out]) | (go_at_call 56; refine (thereR_any f HF.out HK.out _).mono ?_; rintro e w2 ⟨rfl, os2, n2, rfl⟩; rw [HB.out]))
      (go_ret; refine ⟨ret_bool ?_, EX⟩)
      rw [HM.out, HE.out, HB.out]
      rfl
    · have HB := Lib.hid hb
      clear hb
      cases hn : treNum c f
      · have HN := Lib.hid hn
        clear hn
        go_enter Tryz.func32, Tryz.ntmps32
        go_wp2_with (first | (go_at_call 52; refine (opCheckR_any c ⟨f.kind, f.a, 0, 0⟩ HO.out _).mono ?_; rintro e w1 ⟨rfl, os1, n1, rfl⟩; rw [HE.out]) | (go_at_call 56; refine (thereR_any f HF.out HK.out _).mono ?_; rintro e w2 ⟨rfl, os2, n2, rfl⟩; rw [HB.out]) | (go_at_call 57; refine (numbersR_any c f hc HF.out _).mono ?_; rintro e w3 ⟨rfl, os3, n3, rfl⟩; rw [HN.out]))
        (go_ret; refine ⟨ret_bool ?_, EX⟩)
        rw [HM.out, HE.out, HB.out, HN.out]
        rfl
      · have HN := Lib.hid hn
        clear hn
        go_enter Tryz.func32, Tryz.ntmps32
        go_wp2_with (first | (go_at_call 52; refine (opCheckR_any c ⟨f.kind, f.a, 0, 0⟩ HO.out _).mono ?_; rintro e w1 ⟨rfl, os1, n1, rfl⟩; rw [HE.out]) | (go_at_call 56; refine (thereR_any f HF.out HK.out _).mono ?_; rintro e w2 ⟨rfl, os2, n2, rfl⟩; rw [HB.out]) | (go_at_call 57; refine (numbersR_any c f hc HF.out _).mono ?_; rintro e w3 ⟨rfl, os3, n3, rfl⟩; rw [HN.out]) | (go_at_call 33; refine (stepR_any c f hc HF.out HB.out HN.out _).mono ?_; rintro e w4 ⟨rfl, os4, n4, rfl⟩; rw [HST.out]))
        (go_ret; refine ⟨ret_bool ?_, EX⟩)
        rw [HM.out, HE.out, HB.out, HN.out, HST.out]
        rfl
end Go.Proofs.YtmhmaifmendebaaGreatDoor.tree
/- The walks of the reference's 'May', 'Next', layer 'tree'. -/
namespace Go.Proofs.YtmhmaifmendebaaGreatDoor.tree
open Go Go.RowKit
set_option maxRecDepth 100000
set_option maxHeartbeats 8000000

theorem mayR13_any (c : Cfg) (f : Frm) (hp : partOk c = true) (ho : c.object = 2) (hf : f.Fits) (w : World) : Calls Tryz.prog 32 #[c.v, f.v] w
    fun e w' => e = .returned (.bool (treMay c f)) ∧ Ext w w' := by
  cases hk : (f.kind == 5)
  · exact mayR_other c f hp ho hf hk w
  · exact mayR_delete c f hp ho hf hk w
theorem treNextR_any (c : Cfg) (f : Frm) (hf : f.Fits) (w : World) : Calls Tryz.prog 13 #[c.v, f.v] w
    fun e w' => e = .returned (.tuple #[(treNextA c f).v, .int .i64 (treErr c f)]) ∧ Ext w w' := by
  have HF := Lib.hid hf
  clear hf
  cases hp : partOk c
  · have HG := Lib.hid (treErr_conf (f := f) hp)
    have HN : Hid (treNextA c f = zeroAct) := Lib.hid (by simp [treNextA, HG.out])
    have HC := Lib.hid hp
    clear hp
    go_enter Tryz.func13, Tryz.ntmps13
    go_wp2_with (go_at_call 11; refine (mayBe_any c _).mono ?_; rintro e w1 ⟨rfl, os1, n1, rfl⟩; rw [HC.out])
    (refine bodyPost_ret (v := .tuple #[(zeroAct).v, .int .i64 40]) (by simp [results, Tryz.results13, go_sem]) rfl ?_)
    exact ⟨by rw [HN.out, HG.out], EX⟩
  · have HC := Lib.hid hp
    cases h2 : (c.object == 2)
    · have HG := Lib.hid (treErr_obj (f := f) h2)
      have HN : Hid (treNextA c f = zeroAct) := Lib.hid (by simp [treNextA, HG.out])
      have h2' : (c.object != 2) = true := by simpa using h2
      clear hp
      go_enter Tryz.func13, Tryz.ntmps13
      go_wp2_with (go_at_call 11; refine (mayBe_any c _).mono ?_; rintro e w1 ⟨rfl, os1, n1, rfl⟩; rw [HC.out])
      (refine bodyPost_ret (v := .tuple #[(zeroAct).v, .int .i64 40]) (by simp [results, Tryz.results13, go_sem]) rfl ?_)
      exact ⟨by rw [HN.out, HG.out], EX⟩
    · have HOB : Hid (c.object = 2) := Lib.hid (by simpa using h2)
      have h2' : (c.object != 2) = false := by simpa using h2
      cases h3 : treMay c f
      · have HG := Lib.hid (treErr_arg hp h2 h3)
        have HN : Hid (treNextA c f = zeroAct) := Lib.hid (by simp [treNextA, HG.out])
        have HM := Lib.hid h3
        clear hp h3
        go_enter Tryz.func13, Tryz.ntmps13
        go_wp2_with (first | (go_at_call 11; refine (mayBe_any c _).mono ?_; rintro e w1 ⟨rfl, os1, n1, rfl⟩; rw [HC.out]) | (go_at_call 32; refine (mayR13_any c f HC.out HOB.out HF.out _).mono ?_; rintro e w2 ⟨rfl, os2, n2, rfl⟩; rw [HM.out]))
        (refine bodyPost_ret (v := .tuple #[(zeroAct).v, .int .i64 2]) (by simp [results, Tryz.results13, go_sem]) rfl ?_)
        exact ⟨by rw [HN.out, HG.out], EX⟩
      · have HG := Lib.hid (treErr_yes hp h2 h3)
        have HN : Hid (treNextA c f = treStep c f) := Lib.hid (by simp [treNextA, HG.out])
        have HM := Lib.hid h3
        have HMF := Lib.hid (treMay_facts h3)
        have HOK := Lib.hid (treOk_of hp HOB.out)
        clear hp h3
        go_enter Tryz.func13, Tryz.ntmps13
        go_wp2_with (first | (go_at_call 11; refine (mayBe_any c _).mono ?_; rintro e w1 ⟨rfl, os1, n1, rfl⟩; rw [HC.out]) | (go_at_call 32; refine (mayR13_any c f HC.out HOB.out HF.out _).mono ?_; rintro e w2 ⟨rfl, os2, n2, rfl⟩; rw [HM.out]) | (go_at_call 33; refine (stepR_any c f HOK.out HF.out HMF.out.2.1 HMF.out.2.2.1 _).mono ?_; rintro e w3 ⟨rfl, os3, n3, rfl⟩))
        (refine bodyPost_ret (v := .tuple #[(treStep c f).v, .int .i64 0]) (by simp [results, Tryz.results13, go_sem]) rfl ?_)
        exact ⟨by rw [HN.out, HG.out], EX⟩
end Go.Proofs.YtmhmaifmendebaaGreatDoor.tree
