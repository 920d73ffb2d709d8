/- A law: a region that draws its order, in a round of a loop over an iterator: as it is walked outside. -/
import Derived.Test.YtmbodooikfmegaaDoorWorld
import Derived.RangeFuncNested
import Derived.RangeFuncLeaves
import Derived.RangeFuncCalls
namespace Go.Proofs.YtmbodooikfmegaaDoor
open Go Go.RowKit

theorem rowsIn_wide' {P : Program} {n r : Nat} {row : String} {args : Array Value} {w : World} {R : Value → World → Prop} (h : Rows P row args w R) : RowsIn (Fence.wide.inRound r) n P row args w R := by
  intro c cs _
  obtain ⟨v, w', hr, hs⟩ := h c cs
  exact ⟨v, w', hr, stepsIn_wide.2 hs⟩
theorem wpOps_round {P : Program} {ops : Array Oper} {Q : Exit → Act → World → Prop} (hQ : ¬ LetsOut Q) (hnd : ∀ (i : Nat) (o : Oper), ops[i]? = some o → ∀ c, o.op ≠ .defer c) (r n : Nat) (l : List Nat) :
    ∀ (a : Act) (w : World), wpOps P ops Q l a w → wpOpsIn (Fence.wide.inRound r) n P ops Q l a w := by
  induction l with
  | nil => intro a w h; exact h
  | cons i l ih =>
    intro a w h
    unfold wpOps at h
    unfold wpOpsIn
    cases hi : ops[i]? with
    | none =>
      rw [hi] at h
      exact ih a w h
    | some o =>
      rw [hi] at h
      dsimp only at h ⊢
      split at h
      · rename_i hw
        rw [if_pos hw]
        rcases h with h | ⟨_, h⟩
        · refine ⟨fun _ _ => trivial, ?_⟩
          rw [show (Fence.wide.inRound r).round = some r from rfl, Oper.semAt_some r _ o (hnd i o hi)]
          unfold Oper.wp at h
          generalize (execOp a.eval o).run P w = res at h
          cases res with
          | ok x w' =>
            cases x with
            | value v => exact ih _ _ h
            | skip => exact ih _ _ h
            | defer d => exact ih _ _ h
            | enter f args =>
              refine ⟨fun h => (by cases h), CallsIn.inRound r (callsIn_wide.2 (Calls.mono h ?_))⟩
              intro e w'' he
              cases e with
              | returned v => exact ih _ _ he
              | panicked ch => exact he
              | outgrown => exact he
            | row row args =>
              refine ⟨fun h => (by cases h), rowsIn_wide' ?_⟩
              intro c cs
              obtain ⟨v, w2, hr, hs⟩ := h c cs
              exact ⟨v, w2, ih _ _ hr, hs⟩
            | _ => exact h.elim
          | halt hl w' =>
            cases hl <;> first | exact h | exact h.elim
        · exact absurd h hQ
      · rename_i hw
        rw [if_neg hw]
        exact ⟨fun _ _ => trivial, ih _ _ h⟩
/-- A region in a round, whose operations read, and whose calls lay new blocks alone: one walk in the text's order. -/
theorem wpIn_region_ext_lit {P : Program} {id r n : Nat} {Q : Exit → Act → World → Prop} {a : Act} {W : World} {l : List Oper} (hQ : ¬ LetsOut Q) (hnd : (l.all fun o => match o.op with | .defer _ => false | _ => true) = true) (hm : P.follows .mixedOrders = true) (hB : Region.lexB .any l.toArray = true)
    (h : wpQuiet P l.toArray (fun w' => ∃ p, w' = gr W p) (fun a' => ∀ w', (∃ p, w' = gr W p) → Q .normal a' w') l a) : (Code.region id l.toArray true).wpIn (Fence.wide.inRound r) n P Q a W := by
  refine wpIn_region_draw fun t => wpOps_round hQ ?_ r n _ _ _ ?_
  · intro i o ho c e
    have := List.all_eq_true.1 hnd o (List.mem_of_getElem? (by simpa using ho))
    rw [e] at this
    cases this
  · simp only [Region.schedule, hm, Bool.true_or, if_true]
    refine wpAny_sound l.toArray.size t _ _ _ ?_
    simp only [Region.lexB, Bool.and_eq_true] at hB
    refine wpAny_of_quiet (Q := fun a' => ∀ w', (∃ p, w' = gr W p) → Q .normal a' w') (fun _ w' hw' h => h w' hw') _ _ _ _ ⟨⟨#[], W.drawn + 1⟩, by simp [gr, grew]⟩ ?_
    have := wpAnyQ_lex (C := fun w' => ∃ p, w' = gr W p) (md := .any) hB.1 l.toArray.toList 0 (Array.replicate l.toArray.size false) a (by simp) (by simpa using hB.2) (by simpa using h)
    simpa using this
/-- The same, where the calls leave a world of a class: 'f p', for some p. -/
theorem wpIn_region_class_lit {P : Program} {T : Type} (f : T → World) {id r n : Nat} {Q : Exit → Act → World → Prop} {a : Act} {W : World} {l : List Oper} (hQ : ¬ LetsOut Q) (hnd : (l.all fun o => match o.op with | .defer _ => false | _ => true) = true) (hm : P.follows .mixedOrders = true) (hB : Region.lexB .any l.toArray = true)
    (hC : ∃ p, W.drew = f p) (h : wpQuiet P l.toArray (fun w' => ∃ p, w' = f p) (fun a' => ∀ w', (∃ p, w' = f p) → Q .normal a' w') l a) : (Code.region id l.toArray true).wpIn (Fence.wide.inRound r) n P Q a W := by
  refine wpIn_region_draw fun t => wpOps_round hQ ?_ r n _ _ _ ?_
  · intro i o ho c e
    have := List.all_eq_true.1 hnd o (List.mem_of_getElem? (by simpa using ho))
    rw [e] at this
    cases this
  · simp only [Region.schedule, hm, Bool.true_or, if_true]
    refine wpAny_sound l.toArray.size t _ _ _ ?_
    simp only [Region.lexB, Bool.and_eq_true] at hB
    refine wpAny_of_quiet (Q := fun a' => ∀ w', (∃ p, w' = f p) → Q .normal a' w') (fun _ w' hw' h => h w' hw') _ _ _ _ hC ?_
    have := wpAnyQ_lex (C := fun w' => ∃ p, w' = f p) (md := .any) hB.1 l.toArray.toList 0 (Array.replicate l.toArray.size false) a (by simp) (by simpa using hB.2) (by simpa using h)
    simpa using this
end Go.Proofs.YtmbodooikfmegaaDoor
