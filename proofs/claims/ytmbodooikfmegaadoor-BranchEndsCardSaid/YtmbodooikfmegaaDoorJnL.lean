/- A law: a range over a function whose iterator keeps what it knows in a cell of its own: so many rounds, and no round leaves the loop. -/
import Derived.RangeFuncNested
import Derived.RangeFuncLeaves
import Derived.RangeFuncCalls
namespace Go.Proofs.YtmbodooikfmegaaDoor
open Go Go.RowKit

variable {F : Fence} {n : Nat} {P : Program}
/-- What the loop's book-keeping asks to be kept: its record, and the block for the rounds' deferred calls. -/
structure Kept (l D : Nat) (r d : Obj) (W : World) : Prop where
  lp : W.heap[l]? = some r
  dfr : W.heap[D]? = some d
/-- A loop over an iterator: round k is handed 'encs k'. I: what is so ahead of round k, as the iterator goes on; Y: what is so where it calls yield. -/
theorem wpIn_range_rounds {g : Operand} {ps : Array Tmp} {assign body : Code} {Q : Exit → Act → World → Prop} {a : Act} {w : World}
    (hro : F.round = none) (h1 : 1 ≤ n) {gf : Nat} {lb : Array Value} (hg : a.eval g = .func (.func gf) #[] lb) (hFg : F.fn gf) (eg : ∀ args w, (callFunc gf args).run P w = .ok (.enter gf args) w)
    (N : Nat) (encs : Nat → Array Value) (hps : ∀ k, (encs k).size = ps.size) (I Y : Nat → World → Prop) (a₁ : Nat → Act)
    (hY : ∀ (k : Nat) (W : World) (l : Nat) (o o' : Obj), Y k W → w.heap.size ≤ l → W.heap[l]? = some o → o.isCells = false → Y k (W.putObj l o'))
    (hI : ∀ (k : Nat) (W : World) (l : Nat) (o o' : Obj), I k W → w.heap.size ≤ l → W.heap[l]? = some o → o.isCells = false → I k (W.putObj l o'))
    (h0 : ∀ o o' : Obj, I 0 ((w.alloc o).alloc o'))
    (hiter : ∀ (l D : Nat) (r d : Obj) (W : World), w.heap.size ≤ l → w.heap.size ≤ D → I 0 W → Kept l D r d W →
      (∀ (k : Nat) (W1 : World), k < N → Y k W1 → Kept l D r d W1 → YieldAt F (n - 1 - 1) P l (encs k) W1 fun e W' => e = .returned (.bool true) ∧ I (k + 1) W' ∧ Kept l D r d W') →
      CallsIn F (n - 1) P gf (#[.func (.yield l) #[] #[]] ++ lb) W fun e W' => (∃ v, e = .returned v) ∧ I N W' ∧ Kept l D r d W')
    (hassign : ∀ (l k : Nat) (W : World) (K : Act → World → Prop), K (a₁ k) W →
      assign.wpIn (F.inRound l) (n - 1 - 1) P (Exit.then K (fun _ _ _ => False)) { tmps := (ps.zip (encs k)).foldl (fun t (p, v) => t.setIfInBounds p v) a.tmps, defers := [] } W)
    (hbody : ∀ (l D : Nat) (r d : Obj) (k : Nat) (W : World), w.heap.size ≤ l → w.heap.size ≤ D → k < N → Y k W → Kept l D r d W →
      body.wpIn (F.inRound l) (n - 1 - 1) P (fun e _ W' => e = .normal ∧ I (k + 1) W' ∧ Kept l D r d W') (a₁ k) W)
    (hdone : ∀ (D : Nat) (W : World), w.heap.size ≤ D → I N W → W.heap[D]? = some (.deferred (some [])) → Q .normal { a with defers := { target := .collected D, args := #[] } :: a.defers } W) :
    (Code.rangeFunc g ps assign body).wpIn F n P Q a w := by
  refine wpIn_rangeFunc fun fn hfn => ?_
  rw [hro]
  let st (s : LoopState) : Obj := .loop { state := s, pending := none, fn, tmps := a.tmps, params := ps, assign, body, defers := w.heap.size }
  let W1 : World := (w.alloc (.deferred (some []))).alloc (st .ready)
  have hk1 : Kept (w.heap.size + 1) w.heap.size (st .ready) (.deferred (some [])) W1 := by
    constructor
    · have h := World.alloc_heap_new (w.alloc (.deferred (some []))) (st .ready)
      rwa [World.size_alloc] at h
    · exact (Below.heap_alloc _ _ _ (by simp)).trans (World.alloc_heap_new w _)
  refine ⟨w.heap.size + 1, [{ target := .collected w.heap.size, args := #[] }], W1, { target := .fn (.func gf) lb, args := #[.func (.yield (w.heap.size + 1)) #[] #[]] }, W1, gf,
    #[.func (.yield (w.heap.size + 1)) #[] #[]] ++ lb, W1, run_enterLoop_outer _ _ _ _ _, ?_, ?_, ?_, fun _ => h1, ?_⟩
  · simp only [resolve, hg]
    simp [go_sem]
  · intro f' hf'
    simp [Target.leads] at hf'
    subst hf'
    exact hFg
  · simp [invoke, go_sem, eg]
  · refine (hiter (w.heap.size + 1) w.heap.size (st .ready) (.deferred (some [])) W1 (Nat.le_succ _) (Nat.le_refl _) (h0 _ _) hk1 ?_).mono ?_
    · intro k W hk hy hr
      have hlt : w.heap.size + 1 < W.heap.size := (Array.getElem?_eq_some_iff.1 hr.lp).1
      refine ⟨fn, _, assign, body, run_yield (P := P) (args := encs k) hr.lp (hps k), roundIn_of_wpIn hfn (hassign _ k W _ ⟨_, run_beginRound hr.lp rfl, ?_⟩)⟩
      have hb : Kept (w.heap.size + 1) w.heap.size (st .busy) (.deferred (some [])) (W.putObj (w.heap.size + 1) (st .busy)) := ⟨World.putObj_heap_same hlt, (World.putObj_heap_other (by omega)).trans hr.dfr⟩
      refine wpIn_mono (hbody (w.heap.size + 1) w.heap.size (st .busy) (.deferred (some [])) k _ (Nat.le_succ _) (Nat.le_refl _) hk (hY k W _ _ _ hy (Nat.le_succ _) hr.lp rfl) hb) ?_
      rintro e a3 W3 ⟨rfl, hi, h3⟩
      have hlt3 : w.heap.size + 1 < W3.heap.size := (Array.getElem?_eq_some_iff.1 h3.lp).1
      exact ⟨_, _, run_endRound (P := P) none h3.lp, rfl, hI _ _ _ _ _ hi (Nat.le_succ _) h3.lp rfl, World.putObj_heap_same hlt3, (World.putObj_heap_other (by omega)).trans h3.dfr⟩
    · rintro e W2 ⟨⟨v, rfl⟩, hi, h2⟩
      exact ⟨none, _, run_endLoop (P := P) h2.lp (by simp), hdone _ _ (Nat.le_refl _) (hI _ _ _ _ _ hi (Nat.le_succ _) h2.lp rfl) ((World.putObj_heap_other (by omega)).trans h2.dfr)⟩
end Go.Proofs.YtmbodooikfmegaaDoor
