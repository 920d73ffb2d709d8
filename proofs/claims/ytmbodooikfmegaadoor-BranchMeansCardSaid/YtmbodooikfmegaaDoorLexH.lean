/- A region that draws its order and holds calls: one walk in the text's order, where each operation but the calls yields one value in every world of a class, and no other operation may come up beside a call. -/
import Derived.Test.YtmbodooikfmegaaDoorA0
import Derived.Deep.RegionHeld3
namespace Go.Proofs.YtmbodooikfmegaaDoor
open Go Go.RowKit
set_option maxRecDepth 100000
set_option maxHeartbeats 8000000

/-- The walk in the text's order: an operation yields (or is passed over), or is the one that may come up and is run. -/
def wpLexH (P : Program) (ops : Array Oper) (Q : Exit → Act → World → Prop) (S : World → Prop) : List Oper → Nat → Array Bool → Act → World → Prop
  | [], _, _, a, w => Q .normal a w
  | o :: rest, k, listed, a, w => (∃ v, YieldsIf P ops S o v a ∧ wpLexH P ops Q S rest (k + 1) (listed.setIfInBounds k true) (a.put o.dst v) w) ∨
      (Region.ready .any ops listed = [k] ∧ wpOp P ops Q k (fun a' w' => S w' ∧ wpLexH P ops Q S rest (k + 1) (listed.setIfInBounds k true) a' w') a w)
theorem wpAnyH_lex {P : Program} {ops : Array Oper} {Q : Exit → Act → World → Prop} {S : World → Prop} (hs : Region.noSelect ops = true) (hQ : ∀ c a w (d : Option Tmp) (v : Value), Q (.panic c) (a.put d v) w → Q (.panic c) a w) :
    ∀ (l : List Oper) (k : Nat) (listed : Array Bool) (a : Act) (w : World), (∀ j, l[j]? = ops[k + j]?) → Region.lexFrom .any ops l.length k listed = true → S w → wpLexH P ops Q S l k listed a w → wpAnyH P .any ops Q S l.length listed a w
  | [], _, _, _, _, _, hB, _, h => ⟨by simpa [Region.lexFrom] using hB, h⟩
  | o :: l, k, listed, a, w, hl, hB, hS, h => by
    have h0 : ops[k]? = some o := by simpa using (hl 0).symm
    have hn : ∀ j, l[j]? = ops[k + 1 + j]? := fun j => by have := hl (j + 1); simpa [Nat.add_assoc, Nat.add_comm 1 j] using this
    simp only [List.length_cons, Region.lexFrom, Bool.and_eq_true] at hB
    obtain ⟨⟨hr, hf⟩, hB'⟩ := hB
    rcases h with ⟨v, hy, hK⟩ | ⟨hr1, hrun⟩
    · exact wpAnyH_first h0 (Region.noSelect_spec hs) (fun c a w => hQ c a w _ _) l.length listed a w (Region.free_spec h0 hf) (by simpa using hr) hy hS
        (wpAnyH_lex hs hQ l (k + 1) _ _ w hn hB' hS hK)
    · refine wpAnyH_all hr1 (by simp) fun i hi => ?_
      obtain rfl : i = k := by simpa using hi
      exact wpOp_mono (fun a' w' h' => ⟨h'.1, wpAnyH_lex hs hQ l (i + 1) _ a' w' hn hB' h'.1 h'.2⟩) hrun
theorem wp_region_lexH {P : Program} {id : Nat} {Q : Exit → Act → World → Prop} {a : Act} {W : World} {l : List Oper} (S : World → Prop) (hm : P.follows .mixedOrders = true) (hB : Region.lexB .any l.toArray = true) (hS : S W.drew)
    (h : wpLexH P l.toArray (NoPanic Q) S l 0 (Array.replicate l.length false) a W.drew) : (Code.region id l.toArray true).wp P Q a W := by
  simp only [Region.lexB, Bool.and_eq_true] at hB
  refine wp_region_noPanic (wp_region_held (S := S) hm ?_)
  have h2 := wpAnyH_lex (Q := NoPanic Q) (S := S) hB.1 (fun c a w d v h => h) l 0 (Array.replicate l.toArray.size false) a W.drew (by simp) (by simpa using hB.2) hS (by simpa using h)
  simpa using h2
theorem lexH_take {P : Program} {ops : Array Oper} {Q : Exit → Act → World → Prop} {S : World → Prop} {o : Oper} {rest : List Oper} {k : Nat} {listed : Array Bool} {a : Act} {w : World} (v : Value)
    (hw : Region.wanted o (yielded ops a.tmps) = true) (hy : ∀ w, S w → (execOp a.eval o).run P w = .ok (.value v) w) (h : wpLexH P ops Q S rest (k + 1) (listed.setIfInBounds k true) (a.put o.dst v) w) : wpLexH P ops Q S (o :: rest) k listed a w :=
  Or.inl ⟨v, Or.inl ⟨hw, hy⟩, h⟩
theorem lexH_skip {P : Program} {ops : Array Oper} {Q : Exit → Act → World → Prop} {S : World → Prop} {o : Oper} {rest : List Oper} {k : Nat} {listed : Array Bool} {a : Act} {w : World}
    (hw : Region.wanted o (yielded ops a.tmps) = false) (h : wpLexH P ops Q S rest (k + 1) (listed.setIfInBounds k true) (a.put o.dst undef) w) : wpLexH P ops Q S (o :: rest) k listed a w :=
  Or.inl ⟨undef, Or.inr ⟨hw, rfl⟩, h⟩
theorem lexH_move {P : Program} {ops : Array Oper} {Q : Exit → Act → World → Prop} {S : World → Prop} {o : Oper} {rest : List Oper} {k : Nat} {listed : Array Bool} {a : Act} {w : World} (x : Operand) (ho : o.op = .move x ∨ o.op = .assign x)
    (hw : Region.wanted o (yielded ops a.tmps) = true) (h : wpLexH P ops Q S rest (k + 1) (listed.setIfInBounds k true) (a.put o.dst (a.eval x)) w) : wpLexH P ops Q S (o :: rest) k listed a w :=
  lexH_take _ hw (fun w _ => by unfold execOp; rcases ho with ho | ho <;> (rw [ho]; rfl)) h
theorem lexH_run {P : Program} {ops : Array Oper} {Q : Exit → Act → World → Prop} {S : World → Prop} {o : Oper} {rest : List Oper} {k : Nat} {listed : Array Bool} {a : Act} {w : World}
    (hr : Region.ready .any ops listed = [k]) (hi : ops[k]? = some o) (hw : Region.wanted o (yielded ops a.tmps) = true)
    (h : ∀ K' : Act → World → Prop, Shut (∀ a' w', S w' → wpLexH P ops Q S rest (k + 1) (listed.setIfInBounds k true) a' w' → K' a' w') → Oper.wp P o a w K' Q) : wpLexH P ops Q S (o :: rest) k listed a w := by
  refine Or.inr ⟨hr, ?_⟩
  unfold wpOp
  simp only [hi, hw, if_true]
  exact Or.inl (h _ fun a' w' h1 h2 => ⟨h1, h2⟩)
theorem lexH_nil {P : Program} {ops : Array Oper} {Q : Exit → Act → World → Prop} {S : World → Prop} {k : Nat} {listed : Array Bool} {a : Act} {w : World} (h : Q .normal a w) : wpLexH P ops (NoPanic Q) S [] k listed a w := h
/-- The like where an operation may be held back (a call beside which loads may come up): what is held, what is to come in the text's order. -/
def wpRemH (P : Program) (ops : Array Oper) (Q : Exit → Act → World → Prop) (S : World → Prop) (held : List (Nat × Oper)) (k : Nat) (l : List Oper) (listed : Array Bool) (a : Act) (w : World) : Prop :=
  Region.noSelect ops = true → (∀ p ∈ held, ops[p.1]? = some p.2) → (∀ j, l[j]? = ops[k + j]?) → S w → wpAnyH P .any ops (NoPanic Q) S (l.length + held.length) listed a w
theorem wp_region_remH {P : Program} {id : Nat} {Q : Exit → Act → World → Prop} {a : Act} {W : World} {l : List Oper} (S : World → Prop) (hm : P.follows .mixedOrders = true) (hB : Region.noSelect l.toArray = true) (hS : S W.drew)
    (h : wpRemH P l.toArray Q S [] 0 l (Array.replicate l.length false) a W.drew) : (Code.region id l.toArray true).wp P Q a W := by
  refine wp_region_noPanic (wp_region_held (S := S) hm ?_)
  have h2 := h hB (fun p hp => by cases hp) (by simp) hS
  simpa using h2
theorem remH_take {P : Program} {ops : Array Oper} {Q : Exit → Act → World → Prop} {S : World → Prop} {held : List (Nat × Oper)} {o : Oper} {rest : List Oper} {k : Nat} {listed : Array Bool} {a : Act} {w : World} (v : Value)
    (hr : (Region.ready .any ops listed).contains k = true) (hf : Region.free .any ops listed k = true) (hw : Region.wanted o (yielded ops a.tmps) = true) (hy : ∀ w, S w → (execOp a.eval o).run P w = .ok (.value v) w)
    (h : wpRemH P ops Q S held (k + 1) rest (listed.setIfInBounds k true) (a.put o.dst v) w) : wpRemH P ops Q S held k (o :: rest) listed a w := fun h1 h2 h3 h4 => by
  have h0 : ops[k]? = some o := by simpa using (h3 0).symm
  have hn : ∀ j, rest[j]? = ops[k + 1 + j]? := fun j => by have := h3 (j + 1); simpa [Nat.add_assoc, Nat.add_comm 1 j] using this
  have h5 := h h1 h2 hn h4
  rw [show (o :: rest).length + held.length = (rest.length + held.length) + 1 by simp; omega]
  exact wpAnyH_first h0 (Region.noSelect_spec h1) (fun c a w h => h) _ listed a w (Region.free_spec h0 hf) (by simpa using hr) (Or.inl ⟨hw, hy⟩) h4 h5
theorem remH_skip {P : Program} {ops : Array Oper} {Q : Exit → Act → World → Prop} {S : World → Prop} {held : List (Nat × Oper)} {o : Oper} {rest : List Oper} {k : Nat} {listed : Array Bool} {a : Act} {w : World}
    (hr : (Region.ready .any ops listed).contains k = true) (hf : Region.free .any ops listed k = true) (hw : Region.wanted o (yielded ops a.tmps) = false)
    (h : wpRemH P ops Q S held (k + 1) rest (listed.setIfInBounds k true) (a.put o.dst undef) w) : wpRemH P ops Q S held k (o :: rest) listed a w := fun h1 h2 h3 h4 => by
  have h0 : ops[k]? = some o := by simpa using (h3 0).symm
  have hn : ∀ j, rest[j]? = ops[k + 1 + j]? := fun j => by have := h3 (j + 1); simpa [Nat.add_assoc, Nat.add_comm 1 j] using this
  have h5 := h h1 h2 hn h4
  rw [show (o :: rest).length + held.length = (rest.length + held.length) + 1 by simp; omega]
  exact wpAnyH_first h0 (Region.noSelect_spec h1) (fun c a w h => h) _ listed a w (Region.free_spec h0 hf) (by simpa using hr) (Or.inr ⟨hw, rfl⟩) h4 h5
theorem remH_hold {P : Program} {ops : Array Oper} {Q : Exit → Act → World → Prop} {S : World → Prop} {held : List (Nat × Oper)} {o : Oper} {rest : List Oper} {k : Nat} {listed : Array Bool} {a : Act} {w : World}
    (h : wpRemH P ops Q S (held ++ [(k, o)]) (k + 1) rest listed a w) : wpRemH P ops Q S held k (o :: rest) listed a w := fun h1 h2 h3 h4 => by
  have h0 : ops[k]? = some o := by simpa using (h3 0).symm
  have hn : ∀ j, rest[j]? = ops[k + 1 + j]? := fun j => by have := h3 (j + 1); simpa [Nat.add_assoc, Nat.add_comm 1 j] using this
  have h5 := h h1 (fun p hp => by
    rcases List.mem_append.1 hp with hp | hp
    · exact h2 p hp
    · obtain rfl : p = (k, o) := by simpa using hp
      exact h0) hn h4
  rw [show (o :: rest).length + held.length = rest.length + (held ++ [(k, o)]).length by simp; omega]
  exact h5
theorem remH_runHeld {P : Program} {ops : Array Oper} {Q : Exit → Act → World → Prop} {S : World → Prop} {held : List (Nat × Oper)} {o : Oper} {l : List Oper} {i k : Nat} {listed : Array Bool} {a : Act} {w : World}
    (hr : Region.ready .any ops listed = [i]) (hw : Region.wanted o (yielded ops a.tmps) = true)
    (h : ∀ K' : Act → World → Prop, Shut (∀ a' w', S w' → wpRemH P ops Q S held k l (listed.setIfInBounds i true) a' w' → K' a' w') → Oper.wp P o a w K' (NoPanic Q)) : wpRemH P ops Q S ((i, o) :: held) k l listed a w := fun h1 h2 h3 h4 => by
  have h0 : ops[i]? = some o := h2 (i, o) (List.mem_cons_self ..)
  rw [show l.length + ((i, o) :: held).length = (l.length + held.length) + 1 by simp; omega]
  refine wpAnyH_all hr (by simp) fun j hj => ?_
  obtain rfl : j = i := by simpa using hj
  unfold wpOp
  simp only [h0, hw, if_true]
  exact Or.inl (h _ fun a' w' h5 h6 => ⟨h5, h6 h1 (fun p hp => h2 p (List.mem_cons_of_mem _ hp)) h3 h5⟩)
theorem remH_run {P : Program} {ops : Array Oper} {Q : Exit → Act → World → Prop} {S : World → Prop} {held : List (Nat × Oper)} {o : Oper} {rest : List Oper} {k : Nat} {listed : Array Bool} {a : Act} {w : World}
    (hr : Region.ready .any ops listed = [k]) (hw : Region.wanted o (yielded ops a.tmps) = true)
    (h : ∀ K' : Act → World → Prop, Shut (∀ a' w', S w' → wpRemH P ops Q S held (k + 1) rest (listed.setIfInBounds k true) a' w' → K' a' w') → Oper.wp P o a w K' (NoPanic Q)) : wpRemH P ops Q S held k (o :: rest) listed a w := fun h1 h2 h3 h4 => by
  have h0 : ops[k]? = some o := by simpa using (h3 0).symm
  have hn : ∀ j, rest[j]? = ops[k + 1 + j]? := fun j => by have := h3 (j + 1); simpa [Nat.add_assoc, Nat.add_comm 1 j] using this
  rw [show (o :: rest).length + held.length = (rest.length + held.length) + 1 by simp; omega]
  refine wpAnyH_all hr (by simp) fun j hj => ?_
  obtain rfl : j = k := by simpa using hj
  unfold wpOp
  simp only [h0, hw, if_true]
  exact Or.inl (h _ fun a' w' h5 h6 => ⟨h5, h6 h1 h2 hn h5⟩)
theorem remH_nil {P : Program} {ops : Array Oper} {Q : Exit → Act → World → Prop} {S : World → Prop} {k : Nat} {listed : Array Bool} {a : Act} {w : World} (hr : Region.ready .any ops listed = []) (h : Q .normal a w) : wpRemH P ops Q S [] k [] listed a w :=
  fun _ _ _ _ => wpAnyH_done (P := P) (S := S) (Q := NoPanic Q) hr h 0
end Go.Proofs.YtmbodooikfmegaaDoor
