/- The walks of the small functions of 'pack'. -/
import Derived.Test.YtkklhhdkokncnaaDoorProg
import Derived.Test.YtkklhhdkokncnaaDoorA0
import Derived.Laws.BitsAllLaws
import Derived.Laws.ShiftsVarLaws
import Derived.Lib.Hide
import Derived.Deep.Light
import Derived.StillTailTactics
import Derived.RangeFuncNested
import Derived.RangeFuncLeaves
import Derived.RangeFuncCalls
import Derived.Test.YtkklhhdkokncnaaDoorA5
import Derived.RangeFuncBound
import Derived.RangeFuncFrom
import Derived.Shelf.Abstract
import Derived.Shelf.RegionOpen
import Derived.WalkKit
import Derived.OwnWalkIn
import Derived.TacticsInMore
import Derived.LoopNIn
import Derived.LoopIn
import Derived.Scope
import Derived.RangeFuncBox
namespace Go.Proofs.YtkklhhdkokncnaaDoor
open Go Go.RowKit
set_option maxRecDepth 100000
set_option maxHeartbeats 8000000

theorem pow_bd {b : Int} (hb : 1 ≤ b ∧ b ≤ 32) : (1 : Int) ≤ 2 ^ b.toNat ∧ (2 : Int) ^ b.toNat ≤ 4294967296 := by
  obtain ⟨n, hn⟩ : ∃ n : Nat, b = n := ⟨b.toNat, by omega⟩
  subst hn
  have h1 : (2 : Nat) ^ n ≤ 4294967296 := Nat.le_trans (Nat.pow_le_pow_right (n := 2) (by decide) (show n ≤ 32 by omega)) (by decide)
  have h2 : 1 ≤ (2 : Nat) ^ n := Nat.one_le_two_pow
  have e : (2 : Int) ^ n = ((2 ^ n : Nat) : Int) := by simp
  rw [Int.toNat_natCast, e]
  generalize (2 : Nat) ^ n = M at *
  omega
theorem mask_still (b : Int) (hb : 1 ≤ b ∧ b ≤ 32) (w : World) : Calls Tryd.prog 104 #[.int .i64 b] w fun e w' => e = .returned (.int .u64 ((2 : Int) ^ b.toNat - 1)) ∧ w' = w := by
  have hP : (1 : Int) ≤ 2 ^ b.toNat ∧ (2 : Int) ^ b.toNat ≤ 4294967296 := pow_bd hb
  obtain ⟨Q, hQ⟩ : ∃ Q, (2 : Int) ^ b.toNat = Q := ⟨_, rfl⟩
  rw [hQ] at hP
  have h64 : (b == 64) = false := by rw [beq_eq_false_iff_ne]; omega
  have hsh : IntKind.u64.wrap (1 * 2 ^ b.toNat) = Q := by rw [Int.one_mul, hQ, IntKind.wrap_u64]; omega
  obtain ⟨R, hR⟩ : ∃ R, Q - 1 = R := ⟨_, rfl⟩
  have hsb : IntKind.u64.wrap (Q - 1) = R := by rw [IntKind.wrap_u64]; omega
  rw [hQ, hR]
  clear hR
  go_enter Tryd.func104, Tryd.ntmps104
  go_wp2
  go_ret
  exact ⟨rfl, rfl⟩
theorem mask_any (b : Int) (hb : 1 ≤ b ∧ b ≤ 32) (w : World) : Calls Tryd.prog 104 #[.int .i64 b] w fun e w' => e = .returned (.int .u64 ((2 : Int) ^ b.toNat - 1)) ∧ Ext w w' :=
  (mask_still b hb w).mono fun _ _ h => ⟨h.1, h.2 ▸ Ext.refl _⟩
theorem may_any (a b : Int) (hb : 1 ≤ b ∧ b ≤ 32) (ha : 0 ≤ a ∧ a ≤ 64 - b) (w : World) : Calls Tryd.prog 112 #[.int .i64 a, .int .i64 b] w fun e w' => e = .returned (.bool true) ∧ w' = w := by
  have h1 : IntKind.i64.wrap (64 - b) = 64 - b := by rw [IntKind.wrap_i64]; omega
  have d1 : decide (1 ≤ b) = true := by rw [decide_eq_true_eq]; omega
  have d2 : decide (b ≤ 64) = true := by rw [decide_eq_true_eq]; omega
  have d3 : decide (0 ≤ a) = true := by rw [decide_eq_true_eq]; omega
  have d4 : decide (a ≤ 64 - b) = true := by rw [decide_eq_true_eq]; omega
  obtain ⟨e1, e2⟩ := hb
  obtain ⟨e3, e4⟩ := ha
  have e5 : b ≤ 64 := by omega
  go_enter Tryd.func112, Tryd.ntmps112
  go_wp2
  go_ret
  exact ⟨rfl, rfl⟩
end Go.Proofs.YtkklhhdkokncnaaDoor
/- The walks of 'put', and of the closures of 'Join', 'places'. -/
namespace Go.Proofs.YtkklhhdkokncnaaDoor
open Go Go.RowKit
set_option maxRecDepth 100000
set_option maxHeartbeats 8000000

theorem put_any (B : Nat) (a b v u : Int) (hb : 1 ≤ b ∧ b ≤ 32) (ha : 0 ≤ a ∧ a ≤ 64) (w : World) (hw : w.cell? ⟨B, 0, none⟩ = some (.int .u64 u)) (hf : w.frozen? ⟨B, 0, none⟩ = false) :
    Calls Tryd.prog 105 #[.pointer (some ⟨B, 0, none⟩), .int .i64 a, .int .i64 b, .int .u64 v] w
    fun e w' => e = .returned (.tuple #[]) ∧ ∃ u', Ext (w.setCell ⟨B, 0, none⟩ (.int .u64 u')) w' := by
  have hlt := World.block_lt_of_cell? _ _ hw
  dsimp only at hlt
  obtain ⟨M, hM⟩ : ∃ M, (2 : Int) ^ b.toNat - 1 = M := ⟨_, rfl⟩
  have HM := Lib.hid hM
  obtain ⟨P1, hP⟩ : ∃ P1, (2 : Int) ^ a.toNat = P1 := ⟨_, rfl⟩
  obtain ⟨S1, hS1⟩ : ∃ S, IntKind.u64.wrap (M * P1) = S := ⟨_, rfl⟩
  obtain ⟨S2, hS2⟩ : ∃ S, IntKind.u64.wrap (v * P1) = S := ⟨_, rfl⟩
  obtain ⟨a0, a1⟩ := ha
  obtain ⟨R1, hR1⟩ : ∃ R, bits .andNot .u64 u S1 = R := ⟨_, rfl⟩
  obtain ⟨R2, hR2⟩ : ∃ R, bits .or .u64 R1 S2 = R := ⟨_, rfl⟩
  have HK := Lib.hid hw
  clear hM
  go_enter Tryd.func105, Tryd.ntmps105
  go_upto_region 0 with fail
  refine wp_region_still_tail 16 (by kernel_rfl) (by kernel_rfl) ?_
  simp only [List.take_succ_cons, List.take_zero, List.drop_succ_cons, List.drop_zero]
  change wpStill _ _ (World.drew _) _ _ _
  repeat (first | still_step | still_call ((mask_still b hb _).mono fun e w' ⟨he, hw⟩ => ⟨he.trans (by rw [HM.out]), hw⟩))
  refine wpStill_nil ?_
  change wpList _ _ _ _ _ (World.drew _)
  go_wp2
  go_end0
  exact ⟨rfl, R2, EX⟩
theorem bits_any (i bl b o n cap : Nat) (x : Int) (hi : i < n) (_hn : n ≤ 1000) (w : World) (hl : w.cell? ⟨bl, 0, none⟩ = some (.slice (some ⟨b, o, none⟩) n cap)) (hc : w.cell? ⟨b, o + i * 2, none⟩ = some (.int .i64 x)) :
    Calls Tryd.prog 103 #[.int .i64 i, .pointer (some ⟨bl, 0, none⟩)] w fun e w' => e = .returned (.int .i64 x) ∧ w' = w := by
  have h0 : (0 : Int) ≤ (i : Int) := by omega
  have h1 : (i : Int) < (n : Int) := by omega
  have l1 := World.block_lt_of_cell? _ _ hl
  have l2 := World.block_lt_of_cell? _ _ hc
  dsimp only at l1 l2
  go_enter Tryd.func103, Tryd.ntmps103
  go_wp2
  go_ret
  exact ⟨rfl, rfl⟩
theorem next_any (B : Nat) (a b : Int) (hb : 1 ≤ b ∧ b ≤ 32) (ha : 0 ≤ a ∧ a ≤ 64 - b) (w : World) (hw : w.cell? ⟨B, 0, none⟩ = some (.int .i64 a)) (hf : w.frozen? ⟨B, 0, none⟩ = false) :
    Calls Tryd.prog 111 #[.int .i64 b, .pointer (some ⟨B, 0, none⟩)] w fun e w' => e = .returned (.int .i64 a) ∧ w' = w.setCell ⟨B, 0, none⟩ (.int .i64 (a + b)) := by
  have hlt := World.block_lt_of_cell? _ _ hw
  dsimp only at hlt
  have hab : IntKind.i64.wrap (a + b) = a + b := by rw [IntKind.wrap_i64]; omega
  go_enter Tryd.func111, Tryd.ntmps111
  go_wp2_with (go_at_call 112; refine (may_any a b hb ha _).mono ?_; rintro e w1 ⟨rfl, rfl⟩)
  go_ret
  exact ⟨rfl, rfl⟩
end Go.Proofs.YtkklhhdkokncnaaDoor
/- A law: a range over a function whose iterator keeps what it knows in a cell of its own: so many rounds, and no round leaves the loop. -/
namespace Go.Proofs.YtkklhhdkokncnaaDoor
open Go Go.RowKit
set_option maxRecDepth 100000
set_option maxHeartbeats 8000000

variable {F : Fence} {n : Nat} {P : Program}
/-- What the loop's book-keeping asks to be kept: its record, and the block for the rounds' deferred calls. -/
structure Kept (l D : Nat) (r d : Obj) (W : World) : Prop where
  lp : W.heap[l]? = some r
  dfr : W.heap[D]? = some d
/-- A loop over an iterator: round k is handed 'encs k'. I: what is so ahead of round k, as the iterator goes on; Y: what is so where it calls yield. -/
theorem wpIn_range_rounds {g : Operand} {ps : Array Tmp} {assign body : Code} {Q : Exit → Act → World → Prop} {a : Act} {w : World}
    (hro : F.round = none) (h1 : 1 ≤ n) {gf : Nat} {lb : Array Value} (hg : a.eval g = .func (.func gf) #[] lb) (hFg : F.fn gf) (eg : ∀ args w, (callFunc gf args).run P w = .ok (.enter gf args) w)
    (N : Nat) (encs : Nat → Array Value) (hps : ∀ k, (encs k).size = ps.size) (I Y : Nat → World → Prop) (a₁ : Nat → Act)
    (hY : ∀ (k : Nat) (W : World) (l : Nat) (o o' : Obj), Y k W → w.heap.size ≤ l → W.heap[l]? = some o → o.isCells = false → Y k (W.putObj l o'))
    (hI : ∀ (k : Nat) (W : World) (l : Nat) (o o' : Obj), I k W → w.heap.size ≤ l → W.heap[l]? = some o → o.isCells = false → I k (W.putObj l o'))
    (h0 : ∀ o o' : Obj, I 0 ((w.alloc o).alloc o'))
    (hiter : ∀ (l D : Nat) (r d : Obj) (W : World), w.heap.size ≤ l → w.heap.size ≤ D → I 0 W → Kept l D r d W →
      (∀ (k : Nat) (W1 : World), k < N → Y k W1 → Kept l D r d W1 → YieldAt F (n - 1 - 1) P l (encs k) W1 fun e W' => e = .returned (.bool true) ∧ I (k + 1) W' ∧ Kept l D r d W') →
      CallsIn F (n - 1) P gf (#[.func (.yield l) #[] #[]] ++ lb) W fun e W' => (∃ v, e = .returned v) ∧ I N W' ∧ Kept l D r d W')
    (hassign : ∀ (l k : Nat) (W : World) (K : Act → World → Prop), K (a₁ k) W →
      assign.wpIn (F.inRound l) (n - 1 - 1) P (Exit.then K (fun _ _ _ => False)) { tmps := (ps.zip (encs k)).foldl (fun t (p, v) => t.setIfInBounds p v) a.tmps, defers := [] } W)
    (hbody : ∀ (l D : Nat) (r d : Obj) (k : Nat) (W : World), w.heap.size ≤ l → w.heap.size ≤ D → k < N → Y k W → Kept l D r d W →
      body.wpIn (F.inRound l) (n - 1 - 1) P (fun e _ W' => e = .normal ∧ I (k + 1) W' ∧ Kept l D r d W') (a₁ k) W)
    (hdone : ∀ (D : Nat) (W : World), w.heap.size ≤ D → I N W → W.heap[D]? = some (.deferred (some [])) → Q .normal { a with defers := { target := .collected D, args := #[] } :: a.defers } W) :
    (Code.rangeFunc g ps assign body).wpIn F n P Q a w := by
  refine wpIn_rangeFunc fun fn hfn => ?_
  rw [hro]
  let st (s : LoopState) : Obj := .loop { state := s, pending := none, fn, tmps := a.tmps, params := ps, assign, body, defers := w.heap.size }
  let W1 : World := (w.alloc (.deferred (some []))).alloc (st .ready)
  have hk1 : Kept (w.heap.size + 1) w.heap.size (st .ready) (.deferred (some [])) W1 := by
    constructor
    · have h := World.alloc_heap_new (w.alloc (.deferred (some []))) (st .ready)
      rwa [World.size_alloc] at h
    · exact (Below.heap_alloc _ _ _ (by simp)).trans (World.alloc_heap_new w _)
  refine ⟨w.heap.size + 1, [{ target := .collected w.heap.size, args := #[] }], W1, { target := .fn (.func gf) lb, args := #[.func (.yield (w.heap.size + 1)) #[] #[]] }, W1, gf,
    #[.func (.yield (w.heap.size + 1)) #[] #[]] ++ lb, W1, run_enterLoop_outer _ _ _ _ _, ?_, ?_, ?_, fun _ => h1, ?_⟩
  · simp only [resolve, hg]
    simp [go_sem]
  · intro f' hf'
    simp [Target.leads] at hf'
    subst hf'
    exact hFg
  · simp [invoke, go_sem, eg]
  · refine (hiter (w.heap.size + 1) w.heap.size (st .ready) (.deferred (some [])) W1 (Nat.le_succ _) (Nat.le_refl _) (h0 _ _) hk1 ?_).mono ?_
    · intro k W hk hy hr
      have hlt : w.heap.size + 1 < W.heap.size := (Array.getElem?_eq_some_iff.1 hr.lp).1
      refine ⟨fn, _, assign, body, run_yield (P := P) (args := encs k) hr.lp (hps k), roundIn_of_wpIn hfn (hassign _ k W _ ⟨_, run_beginRound hr.lp rfl, ?_⟩)⟩
      have hb : Kept (w.heap.size + 1) w.heap.size (st .busy) (.deferred (some [])) (W.putObj (w.heap.size + 1) (st .busy)) := ⟨World.putObj_heap_same hlt, (World.putObj_heap_other (by omega)).trans hr.dfr⟩
      refine wpIn_mono (hbody (w.heap.size + 1) w.heap.size (st .busy) (.deferred (some [])) k _ (Nat.le_succ _) (Nat.le_refl _) hk (hY k W _ _ _ hy (Nat.le_succ _) hr.lp rfl) hb) ?_
      rintro e a3 W3 ⟨rfl, hi, h3⟩
      have hlt3 : w.heap.size + 1 < W3.heap.size := (Array.getElem?_eq_some_iff.1 h3.lp).1
      exact ⟨_, _, run_endRound (P := P) none h3.lp, rfl, hI _ _ _ _ _ hi (Nat.le_succ _) h3.lp rfl, World.putObj_heap_same hlt3, (World.putObj_heap_other (by omega)).trans h3.dfr⟩
    · rintro e W2 ⟨⟨v, rfl⟩, hi, h2⟩
      exact ⟨none, _, run_endLoop (P := P) h2.lp (by simp), hdone _ _ (Nat.le_refl _) (hI _ _ _ _ _ hi (Nat.le_succ _) h2.lp rfl) ((World.putObj_heap_other (by omega)).trans h2.dfr)⟩
end Go.Proofs.YtkklhhdkokncnaaDoor
/- A law: a region that draws its order, in a round of a loop over an iterator: as it is walked outside. -/
namespace Go.Proofs.YtkklhhdkokncnaaDoor
open Go Go.RowKit
set_option maxRecDepth 100000
set_option maxHeartbeats 8000000

theorem rowsIn_wide' {P : Program} {n r : Nat} {row : String} {args : Array Value} {w : World} {R : Value → World → Prop} (h : Rows P row args w R) : RowsIn (Fence.wide.inRound r) n P row args w R := by
  intro c cs _
  obtain ⟨v, w', hr, hs⟩ := h c cs
  exact ⟨v, w', hr, stepsIn_wide.2 hs⟩
theorem wpOps_round {P : Program} {ops : Array Oper} {Q : Exit → Act → World → Prop} (hQ : ¬ LetsOut Q) (hnd : ∀ (i : Nat) (o : Oper), ops[i]? = some o → ∀ c, o.op ≠ .defer c) (r n : Nat) (l : List Nat) :
    ∀ (a : Act) (w : World), wpOps P ops Q l a w → wpOpsIn (Fence.wide.inRound r) n P ops Q l a w := by
  induction l with
  | nil => intro a w h; exact h
  | cons i l ih =>
    intro a w h
    unfold wpOps at h
    unfold wpOpsIn
    cases hi : ops[i]? with
    | none =>
      rw [hi] at h
      exact ih a w h
    | some o =>
      rw [hi] at h
      dsimp only at h ⊢
      split at h
      · rename_i hw
        rw [if_pos hw]
        rcases h with h | ⟨_, h⟩
        · refine ⟨fun _ _ => trivial, ?_⟩
          rw [show (Fence.wide.inRound r).round = some r from rfl, Oper.semAt_some r _ o (hnd i o hi)]
          unfold Oper.wp at h
          generalize (execOp a.eval o).run P w = res at h
          cases res with
          | ok x w' =>
            cases x with
            | value v => exact ih _ _ h
            | skip => exact ih _ _ h
            | defer d => exact ih _ _ h
            | enter f args =>
              refine ⟨fun h => (by cases h), CallsIn.inRound r (callsIn_wide.2 (Calls.mono h ?_))⟩
              intro e w'' he
              cases e with
              | returned v => exact ih _ _ he
              | panicked ch => exact he
              | outgrown => exact he
            | row row args =>
              refine ⟨fun h => (by cases h), rowsIn_wide' ?_⟩
              intro c cs
              obtain ⟨v, w2, hr, hs⟩ := h c cs
              exact ⟨v, w2, ih _ _ hr, hs⟩
            | _ => exact h.elim
          | halt hl w' =>
            cases hl <;> first | exact h | exact h.elim
        · exact absurd h hQ
      · rename_i hw
        rw [if_neg hw]
        exact ⟨fun _ _ => trivial, ih _ _ h⟩
/-- A region in a round, whose operations read, and whose calls lay new blocks alone: one walk in the text's order. -/
theorem wpIn_region_ext_lit {P : Program} {id r n : Nat} {Q : Exit → Act → World → Prop} {a : Act} {W : World} {l : List Oper} (hQ : ¬ LetsOut Q) (hnd : (l.all fun o => match o.op with | .defer _ => false | _ => true) = true) (hm : P.follows .mixedOrders = true) (hB : Region.lexB .any l.toArray = true)
    (h : wpQuiet P l.toArray (fun w' => ∃ p, w' = gr W p) (fun a' => ∀ w', (∃ p, w' = gr W p) → Q .normal a' w') l a) : (Code.region id l.toArray true).wpIn (Fence.wide.inRound r) n P Q a W := by
  refine wpIn_region_draw fun t => wpOps_round hQ ?_ r n _ _ _ ?_
  · intro i o ho c e
    have := List.all_eq_true.1 hnd o (List.mem_of_getElem? (by simpa using ho))
    rw [e] at this
    cases this
  · simp only [Region.schedule, hm, Bool.true_or, if_true]
    refine wpAny_sound l.toArray.size t _ _ _ ?_
    simp only [Region.lexB, Bool.and_eq_true] at hB
    refine wpAny_of_quiet (Q := fun a' => ∀ w', (∃ p, w' = gr W p) → Q .normal a' w') (fun _ w' hw' h => h w' hw') _ _ _ _ ⟨⟨#[], W.drawn + 1⟩, by simp [gr, grew]⟩ ?_
    have := wpAnyQ_lex (C := fun w' => ∃ p, w' = gr W p) (md := .any) hB.1 l.toArray.toList 0 (Array.replicate l.toArray.size false) a (by simp) (by simpa using hB.2) (by simpa using h)
    simpa using this
/-- The same, where the calls leave a world of a class: 'f p', for some p. -/
theorem wpIn_region_class_lit {P : Program} {T : Type} (f : T → World) {id r n : Nat} {Q : Exit → Act → World → Prop} {a : Act} {W : World} {l : List Oper} (hQ : ¬ LetsOut Q) (hnd : (l.all fun o => match o.op with | .defer _ => false | _ => true) = true) (hm : P.follows .mixedOrders = true) (hB : Region.lexB .any l.toArray = true)
    (hC : ∃ p, W.drew = f p) (h : wpQuiet P l.toArray (fun w' => ∃ p, w' = f p) (fun a' => ∀ w', (∃ p, w' = f p) → Q .normal a' w') l a) : (Code.region id l.toArray true).wpIn (Fence.wide.inRound r) n P Q a W := by
  refine wpIn_region_draw fun t => wpOps_round hQ ?_ r n _ _ _ ?_
  · intro i o ho c e
    have := List.all_eq_true.1 hnd o (List.mem_of_getElem? (by simpa using ho))
    rw [e] at this
    cases this
  · simp only [Region.schedule, hm, Bool.true_or, if_true]
    refine wpAny_sound l.toArray.size t _ _ _ ?_
    simp only [Region.lexB, Bool.and_eq_true] at hB
    refine wpAny_of_quiet (Q := fun a' => ∀ w', (∃ p, w' = f p) → Q .normal a' w') (fun _ w' hw' h => h w' hw') _ _ _ _ hC ?_
    have := wpAnyQ_lex (C := fun w' => ∃ p, w' = f p) (md := .any) hB.1 l.toArray.toList 0 (Array.replicate l.toArray.size false) a (by simp) (by simpa using hB.2) (by simpa using h)
    simpa using this
end Go.Proofs.YtkklhhdkokncnaaDoor
/- The walks of 'places', and of its iterator, which keeps where the next field begins in a cell of its own. -/
namespace Go.Proofs.YtkklhhdkokncnaaDoor
open Go Go.RowKit Go.Shelf
set_option maxRecDepth 100000
set_option maxHeartbeats 8000000

attribute [local go_sem] Oper.semAt_some
/-- Where a field begins. -/
def offF (bs : Nat → Int) : Nat → Int
  | 0 => 0
  | k + 1 => offF bs k + bs k
/-- The blocks of a join: the slice's box, the word, 'fits', how many, the function of bits, where the next field begins, 'next', the fields. -/
structure JB where
  bl : Nat
  bx : Nat
  bf : Nat
  bm : Nat
  bb : Nat
  ba : Nat
  bn : Nat
  b2 : Nat
  b3 : Nat
  b : Nat
  o : Nat
  N : Nat
  cap : Nat
  bs : Nat → Int
  vs : Nat → Int
/-- The state of a join, at a field that begins at 'at'. -/
structure Jst (q : JB) (w0 : World) (M0 : Nat) (at' : Int) (W : World) : Prop where
  sl : W.cell? ⟨q.bl, 0, none⟩ = some (.slice (some ⟨q.b, q.o, none⟩) q.N q.cap)
  fit : W.cell? ⟨q.bf, 0, none⟩ = some (.bool true)
  many : W.cell? ⟨q.bm, 0, none⟩ = some (.int .i64 q.N)
  fb : W.cell? ⟨q.bb, 0, none⟩ = some (.func (.func 103) #[] #[.pointer (some ⟨q.bl, 0, none⟩)])
  fn : W.cell? ⟨q.bn, 0, none⟩ = some (.func (.func 111) #[] #[.pointer (some ⟨q.ba, 0, none⟩)])
  fld : ∀ i, i < q.N → W.cell? ⟨q.b, q.o + i * 2, none⟩ = some (.int .i64 (q.bs i)) ∧ W.cell? ⟨q.b, q.o + i * 2 + 1, none⟩ = some (.int .u64 (q.vs i))
  x : ∃ u, W.cell? ⟨q.bx, 0, none⟩ = some (.int .u64 u)
  xf : W.frozen? ⟨q.bx, 0, none⟩ = false
  at' : W.cell? ⟨q.ba, 0, none⟩ = some (.int .i64 at')
  af : W.frozen? ⟨q.ba, 0, none⟩ = false
  r2 : W.cell? ⟨q.b2, 0, none⟩ = some (.int .u64 0)
  r2f : W.frozen? ⟨q.b2, 0, none⟩ = false
  r3 : W.cell? ⟨q.b3, 0, none⟩ = some (.int .i64 0)
  r3f : W.frozen? ⟨q.b3, 0, none⟩ = false
  below : Below w0.heap.size w0 W
  size : M0 ≤ W.heap.size
/-- How the blocks lie. -/
structure JBok (q : JB) (w0 : World) (M0 : Nat) : Prop where
  l : q.bl < M0 ∧ q.bl ≠ q.bx ∧ q.bl ≠ q.ba
  f : q.bf < M0 ∧ q.bf ≠ q.bx ∧ q.bf ≠ q.ba
  m : q.bm < M0 ∧ q.bm ≠ q.bx ∧ q.bm ≠ q.ba
  b : q.bb < M0 ∧ q.bb ≠ q.bx ∧ q.bb ≠ q.ba
  n : q.bn < M0 ∧ q.bn ≠ q.bx ∧ q.bn ≠ q.ba
  e : q.b < M0 ∧ q.b ≠ q.bx ∧ q.b ≠ q.ba
  x : q.bx < M0 ∧ w0.heap.size ≤ q.bx ∧ q.bx ≠ q.ba
  a : q.ba < M0 ∧ w0.heap.size ≤ q.ba
  r2 : q.b2 < M0 ∧ q.b2 ≠ q.bx ∧ q.b2 ≠ q.ba
  r3 : q.b3 < M0 ∧ q.b3 ≠ q.bx ∧ q.b3 ≠ q.ba
  z : w0.heap.size ≤ M0
theorem cell_setO {W : World} {b i : Nat} {p : Nat} {u z : Value} (hne : b ≠ p) (h : W.cell? ⟨b, i, none⟩ = some z) : (W.setCell ⟨p, 0, none⟩ u).cell? ⟨b, i, none⟩ = some z := by
  rw [← h]
  simp [World.cell?, Below.heap_setCell W ⟨p, 0, none⟩ u b hne]
theorem frozen_setO {W : World} {b p : Nat} {u : Value} : (W.setCell ⟨p, 0, none⟩ u).frozen? ⟨b, 0, none⟩ = W.frozen? ⟨b, 0, none⟩ := World.frozen?_setCell _ _ _ _
theorem cell_putO {W : World} {b i l : Nat} {o' : Obj} {z : Value} (hne : b ≠ l) (h : W.cell? ⟨b, i, none⟩ = some z) : (W.putObj l o').cell? ⟨b, i, none⟩ = some z := by
  rw [← h]
  simp only [World.cell?, World.putObj_heap_other hne]
theorem frozen_putO {W : World} {b l : Nat} {o' : Obj} (hne : b ≠ l) : (W.putObj l o').frozen? ⟨b, 0, none⟩ = W.frozen? ⟨b, 0, none⟩ := by
  simp only [World.frozen?, World.putObj_heap_other hne]
theorem Jst.setA {q : JB} {w0 : World} {M0 : Nat} {a : Int} {W : World} (h : Jst q w0 M0 a W) (hq : JBok q w0 M0) (a2 : Int) : Jst q w0 M0 a2 (W.setCell ⟨q.ba, 0, none⟩ (.int .i64 a2)) :=
  ⟨cell_setO hq.l.2.2 h.sl, cell_setO hq.f.2.2 h.fit, cell_setO hq.m.2.2 h.many, cell_setO hq.b.2.2 h.fb, cell_setO hq.n.2.2 h.fn, fun i hi => ⟨cell_setO hq.e.2.2 (h.fld i hi).1, cell_setO hq.e.2.2 (h.fld i hi).2⟩,
    h.x.imp fun _ hu => cell_setO hq.x.2.2 hu, frozen_setO.trans h.xf, World.cell?_setCell_same' _ _ _ (by rw [h.at']; rfl), frozen_setO.trans h.af, cell_setO hq.r2.2.2 h.r2, frozen_setO.trans h.r2f, cell_setO hq.r3.2.2 h.r3, frozen_setO.trans h.r3f, h.below.setCell (p := ⟨q.ba, 0, none⟩) hq.a.2 _, by simpa using h.size⟩
theorem Jst.setX {q : JB} {w0 : World} {M0 : Nat} {a : Int} {W : World} (h : Jst q w0 M0 a W) (hq : JBok q w0 M0) (u : Int) : Jst q w0 M0 a (W.setCell ⟨q.bx, 0, none⟩ (.int .u64 u)) := by
  obtain ⟨u0, hu⟩ := h.x
  exact ⟨cell_setO hq.l.2.1 h.sl, cell_setO hq.f.2.1 h.fit, cell_setO hq.m.2.1 h.many, cell_setO hq.b.2.1 h.fb, cell_setO hq.n.2.1 h.fn, fun i hi => ⟨cell_setO hq.e.2.1 (h.fld i hi).1, cell_setO hq.e.2.1 (h.fld i hi).2⟩,
    ⟨u, World.cell?_setCell_same' _ _ _ (by rw [hu]; rfl)⟩, frozen_setO.trans h.xf, cell_setO (Ne.symm hq.x.2.2) h.at', frozen_setO.trans h.af, cell_setO hq.r2.2.1 h.r2, frozen_setO.trans h.r2f, cell_setO hq.r3.2.1 h.r3, frozen_setO.trans h.r3f, h.below.setCell (p := ⟨q.bx, 0, none⟩) hq.x.2.1 _, by simpa using h.size⟩
theorem frozen_ext {W W' : World} {b : Nat} (e : Ext W W') (hb : b < W.heap.size) : W'.frozen? ⟨b, 0, none⟩ = W.frozen? ⟨b, 0, none⟩ := by
  obtain ⟨os, n, rfl⟩ := e
  exact frozen_grew W os n b 0 hb
theorem Jst.ext {q : JB} {w0 : World} {M0 : Nat} {a : Int} {W W' : World} (h : Jst q w0 M0 a W) (hq : JBok q w0 M0) (e : Ext W W') : Jst q w0 M0 a W' :=
  ⟨ext_cell e h.sl, ext_cell e h.fit, ext_cell e h.many, ext_cell e h.fb, ext_cell e h.fn, fun i hi => ⟨ext_cell e (h.fld i hi).1, ext_cell e (h.fld i hi).2⟩,
    h.x.imp fun _ hu => ext_cell e hu, (frozen_ext e (Nat.lt_of_lt_of_le hq.x.1 h.size)).trans h.xf, ext_cell e h.at', (frozen_ext e (Nat.lt_of_lt_of_le hq.a.1 h.size)).trans h.af, ext_cell e h.r2, (frozen_ext e (Nat.lt_of_lt_of_le hq.r2.1 h.size)).trans h.r2f, ext_cell e h.r3, (frozen_ext e (Nat.lt_of_lt_of_le hq.r3.1 h.size)).trans h.r3f, h.below.trans (e.below.mono h.below.size), Nat.le_trans h.size e.size⟩
theorem Jst.put {q : JB} {w0 : World} {M0 : Nat} {a : Int} {W : World} (h : Jst q w0 M0 a W) (hq : JBok q w0 M0) {l : Nat} {o : Obj} (o' : Obj) (hl : M0 ≤ l) (_ho : W.heap[l]? = some o) : Jst q w0 M0 a (W.putObj l o') := by
  have e : ∀ b, b < M0 → b ≠ l := fun b hb => by omega
  exact ⟨cell_putO (e _ hq.l.1) h.sl, cell_putO (e _ hq.f.1) h.fit, cell_putO (e _ hq.m.1) h.many, cell_putO (e _ hq.b.1) h.fb, cell_putO (e _ hq.n.1) h.fn, fun i hi => ⟨cell_putO (e _ hq.e.1) (h.fld i hi).1, cell_putO (e _ hq.e.1) (h.fld i hi).2⟩,
    h.x.imp fun _ hu => cell_putO (e _ hq.x.1) hu, (frozen_putO (e _ hq.x.1)).trans h.xf, cell_putO (e _ hq.a.1) h.at', (frozen_putO (e _ hq.a.1)).trans h.af, cell_putO (e _ hq.r2.1) h.r2, (frozen_putO (e _ hq.r2.1)).trans h.r2f, cell_putO (e _ hq.r3.1) h.r3, (frozen_putO (e _ hq.r3.1)).trans h.r3f,
    h.below.grown (grownBy_putObj' W l o') h.below.size (fun k hk => by cases hk; exact Nat.le_trans hq.z hl), by simpa using h.size⟩
theorem Kept.ext {l D : Nat} {r d : Obj} {W W' : World} (h : Kept l D r d W) (e : Ext W W') : Kept l D r d W' :=
  ⟨(ext_heap e (Array.getElem?_eq_some_iff.1 h.lp).1).trans h.lp, (ext_heap e (Array.getElem?_eq_some_iff.1 h.dfr).1).trans h.dfr⟩
theorem Kept.set {l D p : Nat} {r d : Obj} {W : World} (h : Kept l D r d W) (u : Value) (h1 : l ≠ p) (h2 : D ≠ p) : Kept l D r d (W.setCell ⟨p, 0, none⟩ u) :=
  ⟨(Below.heap_setCell W ⟨p, 0, none⟩ u l h1).trans h.lp, (Below.heap_setCell W ⟨p, 0, none⟩ u D h2).trans h.dfr⟩
end Go.Proofs.YtkklhhdkokncnaaDoor
