/- Proved: 'basculelaw10.ModelRefuses' returns true for every input, whatever the memory: its tied card. No condition. -/
import Derived.Test.YtknfikdignpniaaDoorW
import Derived.Test.YtknfikdignpniaaDoorMz
import Derived.Test.YtknfikdignpniaaDoorCards
import Derived.Test.YtknfikdignpniaaDoorTie
namespace Go.Proofs.YtknfikdignpniaaDoor.modelRefuses
open Go Go.ChangeShapes Go.WideShapes Go.ChangeAt Go.RowKit
set_option maxRecDepth 100000
set_option maxHeartbeats 8000000

theorem lifted (os : Os) (started : os.Started) (H : Type) (enc : TypeId × Value → H) :
    ReturnsInHanded {} Tryd.checked os 3 .any (fun w args => (Rows.modelRefusesSpec.pre enc Tryd.prog Tryd.f3 [] false w args ∧ laidMetH Tryd.prog laidL w) ∧ sizedMet enc Tryd.prog Tryd.f3 (OpenSpec.ofChange Rows.modelRefusesSpec) false w args)
      (Rows.modelRefusesSpec.post enc Tryd.prog Tryd.f3 false true false false) := by
  refine rowShaped (C := Tryd.checked) (X := fun w _ => laidMetH Tryd.prog laidL w) (fun _ _ _ hh h => h.of_heap hh) own started (by kernel_rfl) Tryd.func3
    (ChangeSpec.witness_shaped (enc := enc) (C := Tryd.checked) (os := os) (X := fun w _ => laidMetH Tryd.prog laidL w) false (World.doorLaid Tryd.prog 400 os) #[(Cfg.mk 0 0 0 0 0 0 0 0 0 0 0 0).v, (.slice none 0 0), (Opn.mk 0 0 0 0).v] 8 rfl (World.shaped_of_RefB (by kernel_rfl) (by kernel_rfl)) (by kernel_rfl) (by kernel_rfl) (by kernel_rfl) (door_met os _)) ?_
  intro W base args ds gs before hval0 hW hlaid hsh
  have hval : ∀ (j : Nat) t v, Tryd.f3.params[j]? = some t → args[j]? = some v → Value.okWide Tryd.prog W .any base t v := hval0
  have hW' := hW
  obtain ⟨p, q, hA0, hV, rfl, hfz, hnd⟩ := hW
  have hA : DataW.TrodAll enc Tryd.prog W 0 (fun _ => true) true Tryd.f3.params.toList args.toList ds p := hA0
  rw [Tryd.params3] at hA hval
  obtain ⟨v0, vs0, d0, ds0, p0, q0, hargs, rfl, rfl, h0, r0⟩ := trodAll_cons hA
  obtain ⟨v1, vs1, d1, ds1, p1, q1, rfl, rfl, rfl, h1, r1⟩ := trodAll_cons r0
  obtain ⟨v2, vs2, d2, ds2, p2, q2, rfl, rfl, rfl, h2, r2⟩ := trodAll_cons r1
  obtain ⟨rfl, rfl, rfl⟩ := trodAll_nil r2
  obtain rfl : args = #[v0, v1, v2] := by cases args; simp_all
  obtain ⟨rfl, rfl⟩ := trodVars_none hV
  obtain ⟨c, rfl, rfl⟩ := open_cfg (hval 0 24 v0 rfl rfl) h0
  obtain ⟨all, hall, sall⟩ := open_ops (hval 1 25 v1 rfl rfl) h1
  obtain ⟨o, rfl, rfl, ho⟩ := open_opn (hval 2 28 v2 rfl rfl) h2
  refine (modelRefuses_true c all o hall ho v1 W (tabQ_of hlaid hsh) sall).mono fun e W' ⟨he, hg⟩ => ?_
  exact ⟨_, he, post_law (by kernel_rfl) hW' rfl rfl Tryd.underlying4 rfl (by kernel_rfl) hg.below⟩

theorem over : Rows.ModelRefusesSaid :=
  OpenClaim.holds_of_wide 3 Tryd.f3 rfl rfl rfl rfl rfl rfl rfl ⟨rfl, rfl, rfl, rfl, rfl⟩ rfl rfl rfl rfl rfl (by kernel_rfl) Tryd.func3 (by kernel_rfl)
    (of_decide_eq_true (by kernel_rfl)) (by unfold Func.isWrapper; first | (rw [if_pos (by decide +kernel)]; kernel_rfl) | (rw [if_neg (by decide +kernel)]; exact ⟨rfl, rfl⟩))
    (fun os started H enc _ => lifted os started H enc)

theorem card : Rows.ModelRefusesCardSaid :=
  Claim7.holds_tied_plain_at .later [] [.data] true _ false
    over (fun _ h => by cases h) (by kernel_rfl) (fun _ h => by cases h) modelRefuses_row_tie rfl ⟨rfl, rfl⟩ (by kernel_rfl) rfl
    (fun f fn hf hfn => by
      obtain rfl : f = 3 := Option.some.inj ((show Tryd.prog.funcNamed "bascule/basculelaw10.ModelRefuses" = some 3 by kernel_rfl).symm.trans hf) |>.symm
      obtain rfl : fn = Tryd.f3 := (Option.some.inj (Tryd.func3.symm.trans hfn)).symm
      exact ⟨by kernel_rfl, wants_all (by kernel_rfl)⟩)
    (by kernel_rfl)
#print axioms card
end Go.Proofs.YtknfikdignpniaaDoor.modelRefuses
