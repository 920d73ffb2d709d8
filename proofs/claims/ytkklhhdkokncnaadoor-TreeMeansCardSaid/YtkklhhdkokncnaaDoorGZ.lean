/- Plain: a program of an index is done within so many acts, whatever it reads; no program in sight. -/
import Derived.Test.YtkklhhdkokncnaaDoorGk
import Derived.Test.YtkklhhdkokncnaaDoorStart
namespace Go.Proofs.YtkklhhdkokncnaaDoor
open Go Go.RowKit
set_option maxRecDepth 100000
set_option maxHeartbeats 8000000

theorem up_mono {n m w h : Int} (hn : 0 ≤ n) (hnm : n ≤ m) (hw : w = 2 ∨ w = 3 ∨ w = 4) (hh : 0 ≤ h ∧ h ≤ 4) : upI n w h ≤ upI m w h := by
  rw [upI_eq hn hw (by omega), upI_eq (by omega) hw (by omega)]
  exact Int.ediv_le_ediv (Int.pow_pos (by omega)) (by omega)
theorem up_pos {n w h : Int} (hn : 1 ≤ n) (hw : w = 2 ∨ w = 3 ∨ w = 4) (hh : 0 ≤ h ∧ h ≤ 4) : 1 ≤ upI n w h := by
  rw [upI_eq (by omega) hw (by omega)]
  have hp : 0 < w ^ h.toNat := Int.pow_pos (by omega)
  exact Int.le_ediv_of_mul_le hp (by rw [Int.one_mul]; omega)
theorem up_zero {n w : Int} (hn : 0 ≤ n) : upI n w 0 = n := by
  simp [upI, itN]
  omega
theorem up_down {n w h i : Int} (hn : 0 ≤ n) (hw : w = 2 ∨ w = 3 ∨ w = 4) (hh : 1 ≤ h ∧ h ≤ 4) (hi : i < upI n w h) : i * w < upI n w (h - 1) := by
  rw [upI_step hn hw (by omega)] at hi
  generalize upI n w (h - 1) = u at hi ⊢
  rcases hw with rfl | rfl | rfl <;> omega
theorem end_in {n w h i : Int} (hn : 0 ≤ n) (hw : w = 2 ∨ w = 3 ∨ w = 4) (hh : 1 ≤ h ∧ h ≤ 4) (h0 : 0 ≤ i) (hi : i < upI n w h) : 0 ≤ endI n w h i ∧ endI n w h i < upI n w (h - 1) := by
  have hd := up_down hn hw hh hi
  unfold endI
  generalize upI n w (h - 1) = u at hd ⊢
  rcases hw with rfl | rfl | rfl <;> (split <;> omega)
theorem sumI_le (n w : Int) {j k : Nat} (h : j ≤ k) : sumI n w j ≤ sumI n w k := by
  induction k with
  | zero =>
    obtain rfl : j = 0 := by omega
    exact Int.le_refl _
  | succ k ih =>
    by_cases e : j = k + 1
    · subst e
      exact Int.le_refl _
    · have h1 := ih (by omega)
      have h2 := upI_nonneg n w (k : Int)
      show sumI n w j ≤ sumI n w k + upI n w k
      omega
/-- How many cells there are. -/
def treGreat (c : Cfg) : Int := 1 + sumI c.cap c.node ((treTop c).toNat + 1)
theorem treOff_lt {c : Cfg} {h i : Int} (h0 : 0 ≤ treOff c h i) : treOff c h i < treGreat c := by
  unfold treOff offI at h0 ⊢
  split at h0
  · rename_i hx
    rw [if_pos hx]
    have h1 := sumI_le c.cap c.node (j := h.toNat + 1) (k := (treTop c).toNat + 1) (by unfold treTop; omega)
    have h2 : sumI c.cap c.node (h.toNat + 1) = sumI c.cap c.node h.toNat + upI c.cap c.node (h.toNat : Int) := rfl
    rw [Int.toNat_of_nonneg hx.1] at h2
    unfold treGreat
    omega
  · omega
theorem treOff_ok {c : Cfg} (hc : TreOk c) {h i : Int} (h0 : 0 ≤ h) (h1 : h ≤ treTop c) (i0 : 0 ≤ i) (i1 : i < treUp c c.cap h) : 0 ≤ treOff c h i := by
  have e := offI_yes (n := c.cap) (w := c.node) h0 h1 i0 i1
  have ht := topI_bd c.cap c.node
  have hcap := hc.cap
  have hs := sumI_bd (n := c.cap) (w := c.node) ⟨by omega, hc.cap.2⟩ hc.node h.toNat (by unfold treTop at h1; omega)
  unfold treOff
  omega
theorem treUp0 {c : Cfg} {n : Int} (hn : 0 ≤ n) : treUp c n 0 = n := up_zero hn
theorem treOff0 {c : Cfg} (hc : TreOk c) {i : Int} (i0 : 0 ≤ i) (i1 : i < c.cap) : 0 ≤ treOff c 0 i :=
  treOff_ok hc (Int.le_refl 0) (topI_bd c.cap c.node).1 i0 (by rw [treUp0 (by omega)]; exact i1)
theorem tre_top (c : Cfg) : 0 ≤ treTop c ∧ treTop c ≤ 4 := topI_bd c.cap c.node

/-- What the way up costs at most, of so many levels from the top on. -/
def lcI (n w T : Int) : Nat → Int
  | 0 => 0
  | k + 1 => lcI n w T k + 2 * upI n w (T - k) + 1
theorem lcI_nonneg (n w T : Int) (k : Nat) : 0 ≤ lcI n w T k := by
  induction k with
  | zero => exact Int.le_refl _
  | succ k ih =>
    have := upI_nonneg n w (T - k)
    show 0 ≤ lcI n w T k + 2 * upI n w (T - k) + 1
    omega
def treLc (c : Cfg) (h : Int) : Int := lcI c.cap c.node (treTop c) (treTop c - h).toNat
theorem treLc_nonneg (c : Cfg) (h : Int) : 0 ≤ treLc c h := lcI_nonneg _ _ _ _
/-- How many acts there may be behind the search. -/
def trePost (c : Cfg) (k : Int) : Int := if k = 7 then 1 else if k = 8 then 2 * c.cap else if k = 4 ∨ k = 5 then 2 * c.cap + 2 + treLc c 0 else 0
theorem trePost_nonneg {c : Cfg} (hc : TreOk c) (k : Int) : 0 ≤ trePost c k := by
  have := treLc_nonneg c 0
  have := hc.cap
  unfold trePost
  split
  · omega
  · split
    · omega
    · split <;> omega
/-- How many acts there may be yet. -/
def treRem (c : Cfg) (f : Frm) : Int :=
  if f.pc = 0 then 1 + (treTop c + 1) * c.node + trePost c f.kind
  else if f.pc = 1 then f.h * c.node + (c.node - f.i % c.node) + trePost c f.kind
  else if f.pc = 3 ∨ f.pc = 4 then 1
  else if f.pc = 5 then 2 * (f.i - f.p) + 2 + treLc c 0
  else if f.pc = 6 then 2 * (f.i - f.p) + 1 + treLc c 0
  else if f.pc = 7 ∨ f.pc = 15 then 2 + treLc c 0
  else if f.pc = 8 then 1 + treLc c 0
  else if f.pc = 9 then 2 * (treUp c f.n f.h - f.i) + 1 + treLc c f.h
  else if f.pc = 11 then 2 * (treUp c f.n f.h - f.i) + treLc c f.h
  else if f.pc = 12 then 1 + treLc c f.h
  else if f.pc = 13 then 2 * (f.n - f.i) + 2 + treLc c 0
  else if f.pc = 14 then 2 * (f.n - f.i) + 1 + treLc c 0
  else if f.pc = 16 then 2 * (f.n - f.p) - 1
  else if f.pc = 17 then 2 * (f.n - f.p)
  else 0
/-- What holds at each place of the program. -/
structure TreInv (c : Cfg) (f : Frm) : Prop where
  s1 : f.pc = 1 → 1 ≤ f.n ∧ f.i < treUp c f.n f.h
  s5 : f.pc = 5 ∨ f.pc = 6 → f.p < f.i ∧ f.i ≤ f.n ∧ f.n < c.cap
  s7 : f.pc = 7 → f.n < c.cap
  s13 : f.pc = 13 ∨ f.pc = 14 → 1 ≤ f.i ∧ f.i < f.n
  s15 : f.pc = 15 → 1 ≤ f.n
  s16 : f.pc = 16 ∨ f.pc = 17 → f.p < f.n
/-- A frame that goes on, of an operation of this kind and these numbers, with so many acts to come at most. -/
structure TreBeh (c : Cfg) (k a b : Int) (g : Frm) (R : Int) : Prop where
  kind : g.kind = k
  a : g.a = a
  b : k = 5 ∨ g.b = b
  has : treHas g = true
  n : g.n ≤ c.cap
  p : g.p ≤ c.cap
  j : g.j < c.chunk ∨ (g.pc = 16 ∧ g.j ≤ c.chunk)
  h : g.h ≤ treTop c
  i6 : g.pc = 6 → 1 ≤ g.i
  i9 : g.pc = 9 ∨ g.pc = 11 → 1 ≤ g.h ∧ g.i < treUp c g.n g.h
  h12 : g.pc = 12 → 1 ≤ g.h
  at' : 0 ≤ (treStep c g).at'
  i : g.i ≤ 64
  inv : TreInv c g
  rem : treRem c g ≤ R
theorem TreBeh.le {c : Cfg} {k a b R S : Int} {g : Frm} (h : TreBeh c k a b g R) (e : R ≤ S) : TreBeh c k a b g S := { h with rem := Int.le_trans h.rem e }
/-- What is known of each frame. -/
structure TzF (c : Cfg) (f : Frm) : Prop where
  ok : TreOk c
  n0 : 0 ≤ f.n
  n : f.n ≤ c.cap
  p0 : 0 ≤ f.p
  p : f.p ≤ c.cap
  j0 : 0 ≤ f.j
  j : f.j < c.chunk
  h0 : 0 ≤ f.h
  h : f.h ≤ treTop c
  i0 : 0 ≤ f.i
  i : f.i ≤ 64
theorem inv_of {c : Cfg} {g : Frm} (h : g.pc ≠ 1 ∧ g.pc ≠ 5 ∧ g.pc ≠ 6 ∧ g.pc ≠ 7 ∧ g.pc ≠ 13 ∧ g.pc ≠ 14 ∧ g.pc ≠ 15 ∧ g.pc ≠ 16 ∧ g.pc ≠ 17) : TreInv c g :=
  ⟨fun e => by omega, fun e => by omega, fun e => by omega, fun e => by omega, fun e => by omega, fun e => by omega⟩
/-- A frame that is done. -/
theorem beh_end {c : Cfg} {k a b R : Int} {g : Frm} (hz : TzF c g) (hk : g.kind = k) (ha : g.a = a) (hb : k = 5 ∨ g.b = b) (hh : treHas g = true) (hp : 20 ≤ g.pc) (hR : 0 ≤ R) : TreBeh c k a b g R := by
  obtain ⟨hc, n0, n1, p0, p1, j0, j1, h0, h1, i0, i1⟩ := hz
  have e : ∀ x : Int, x < 20 → g.pc ≠ x := fun x hx => by omega
  refine ⟨hk, ha, hb, hh, n1, p1, .inl j1, h1, fun e => by omega, fun e => by omega, fun e => by omega, ?_, i1, inv_of ⟨e _ (by omega), e _ (by omega), e _ (by omega), e _ (by omega), e _ (by omega), e _ (by omega), e _ (by omega), e _ (by omega), e _ (by omega)⟩, ?_⟩
  · unfold treStep
    simp only [beq_iff_eq, Bool.or_eq_true, e 0 (by omega), e 1 (by omega), e 3 (by omega), e 4 (by omega), e 5 (by omega), e 6 (by omega), e 7 (by omega), e 8 (by omega), e 9 (by omega), e 11 (by omega), e 12 (by omega), e 13 (by omega), e 14 (by omega), e 15 (by omega), e 16 (by omega), e 17 (by omega), if_false, or_self]
    split
    · exact Int.le_refl _
    · split
      · exact Int.le_refl _
      · split
        · exact Int.le_refl _
        · split <;> exact Int.le_refl _
  · unfold treRem
    simp only [e 0 (by omega), e 1 (by omega), e 3 (by omega), e 4 (by omega), e 5 (by omega), e 6 (by omega), e 7 (by omega), e 8 (by omega), e 9 (by omega), e 11 (by omega), e 12 (by omega), e 13 (by omega), e 14 (by omega), e 15 (by omega), e 16 (by omega), e 17 (by omega), if_false, or_self]
    exact hR
theorem go_beh {c : Cfg} {f : Frm} (hz : TzF c f) (hk : f.kind = 8) (hp : f.p < f.n) : TreBeh c f.kind f.a f.b (treGo f) (2 * (f.n - f.p) - 2) := by
  have HZ := hz
  obtain ⟨hc, n0, n1, p0, p1, j0, j1, h0, h1, i0, i1⟩ := hz
  unfold treGo
  split
  · refine beh_end ⟨hc, n0, n1, p0, p1, j0, j1, h0, h1, i0, i1⟩ rfl rfl (.inr rfl) (by simp [treHas, hk]) (by simp) (by omega)
  · rename_i hn
    refine ⟨rfl, rfl, .inr rfl, by simp [treHas, hk], n1, by (try dsimp only); omega, .inl j1, h1, fun e => absurd e (by simp), fun e => by simp at e, fun e => absurd e (by simp), ?_, i1, ?_, ?_⟩
    · simp only [treStep]
      exact treOff0 hc (by (try dsimp only); omega) (by (try dsimp only); omega)
    · refine ⟨fun e => absurd e (by simp), fun e => by simp at e, fun e => absurd e (by simp), fun e => by simp at e, fun e => absurd e (by simp), fun _ => ?_⟩
      show f.p + 1 < f.n
      omega
    · simp [treRem] <;> omega
theorem on_beh {c : Cfg} {f : Frm} (hz : TzF c f) (hk : f.kind = 8) (hp : f.p < f.n) : TreBeh c f.kind f.a f.b (treOn c f).1 (2 * (f.n - f.p) - 1) := by
  have HZ := hz
  obtain ⟨hc, n0, n1, p0, p1, j0, j1, h0, h1, i0, i1⟩ := hz
  unfold treOn
  split
  · exact beh_end ⟨hc, n0, n1, p0, p1, j0, j1, h0, h1, i0, i1⟩ rfl rfl (.inr rfl) (by simp [treHas, hk]) (by simp) (by omega)
  · split
    · refine ⟨rfl, rfl, .inr rfl, by simp [treHas, hk], n1, p1, .inr ⟨rfl, by (try dsimp only); omega⟩, h1, fun e => absurd e (by simp), fun e => by simp at e, fun e => absurd e (by simp), ?_, i1, ?_, ?_⟩
      · simp [treStep]
      · refine ⟨fun e => absurd e (by simp), fun e => by simp at e, fun e => absurd e (by simp), fun e => by simp at e, fun e => absurd e (by simp), fun _ => hp⟩
      · simp [treRem]
    · rename_i hj
      have := go_beh (c := c) (f := { f with j := f.j + 1 }) ⟨hc, n0, n1, p0, p1, by (try dsimp only); omega, by (try dsimp only); omega, h0, h1, i0, i1⟩ hk hp
      exact this.le (by (try dsimp only); omega)
theorem fresh_beh {c : Cfg} {f : Frm} (hz : TzF c f) (hk : f.kind = 4) (hp : f.p ≤ f.n) : TreBeh c f.kind f.a f.b (treFresh c f) (2 * c.cap + 2 + treLc c 0) := by
  have HZ := hz
  have hl := treLc_nonneg c 0
  obtain ⟨hc, n0, n1, p0, p1, j0, j1, h0, h1, i0, i1⟩ := hz
  have hcap := hc.cap
  unfold treFresh
  split
  · exact beh_end ⟨hc, n0, n1, p0, p1, j0, j1, h0, h1, i0, i1⟩ rfl rfl (.inr rfl) (by simp [treHas, hk]) (by simp) (by omega)
  · split
    · refine ⟨rfl, rfl, .inr rfl, by simp [treHas, hk], n1, p1, .inl j1, h1, fun e => absurd e (by simp), fun e => by simp at e, fun e => absurd e (by simp), ?_, i1, ?_, ?_⟩
      · simp only [treStep]
        exact treOff0 hc p0 (by (try dsimp only); omega)
      · refine ⟨fun e => absurd e (by simp), fun e => by simp at e, fun _ => ?_, fun e => by simp at e, fun e => absurd e (by simp), fun e => by simp at e⟩
        show f.n < c.cap
        omega
      · simp [treRem] <;> omega
    · refine ⟨rfl, rfl, .inr rfl, by simp [treHas, hk], n1, p1, .inl j1, h1, fun e => absurd e (by simp), fun e => by simp at e, fun e => absurd e (by simp), ?_, by (try dsimp only); omega, ?_, ?_⟩
      · simp only [treStep]
        exact treOff0 hc (by (try dsimp only); omega) (by (try dsimp only); omega)
      · refine ⟨fun e => absurd e (by simp), fun _ => ?_, fun e => absurd e (by simp), fun e => by simp at e, fun e => absurd e (by simp), fun e => by simp at e⟩
        show f.p < f.n ∧ f.n ≤ f.n ∧ f.n < c.cap
        omega
      · simp [treRem] <;> omega
theorem post4 (c : Cfg) : trePost c 4 = 2 * c.cap + 2 + treLc c 0 := by simp [trePost]
theorem post5 (c : Cfg) : trePost c 5 = 2 * c.cap + 2 + treLc c 0 := by simp [trePost]
theorem post7 (c : Cfg) : trePost c 7 = 1 := by simp [trePost]
theorem post8 (c : Cfg) : trePost c 8 = 2 * c.cap := by simp [trePost]
theorem found_beh {c : Cfg} {f : Frm} (hz : TzF c f) (hk : f.kind = 4 ∨ f.kind = 5 ∨ f.kind = 6 ∨ f.kind = 7 ∨ f.kind = 8) (hp : f.p < f.n) : TreBeh c f.kind f.a f.b (treFound c f).1 (trePost c f.kind) := by
  have HZ := hz
  have hpost := trePost_nonneg hz.ok f.kind
  have hl := treLc_nonneg c 0
  obtain ⟨hc, n0, n1, p0, p1, j0, j1, h0, h1, i0, i1⟩ := hz
  have hcap := hc.cap
  unfold treFound
  rcases hk with hk | hk | hk | hk | hk
  · simp only [hk, Int.reduceBEq, Bool.false_eq_true, if_false, if_true]
    split
    · rw [post4]
      refine ⟨rfl, rfl, .inr rfl, by simp [treHas], n1, p1, .inl j1, h1, fun e => absurd e (by simp), fun e => by simp at e, fun e => absurd e (by simp), ?_, i1, inv_of (by simp), ?_⟩
      · simp only [treStep]
        exact treOff0 hc p0 (by (try dsimp only); omega)
      · simp [treRem] <;> omega
    · have := fresh_beh HZ hk (by omega)
      rw [hk] at this
      rw [post4]
      exact this
  · simp only [hk, Int.reduceBEq, Bool.false_eq_true, if_false]
    rw [post5]
    split
    · split
      · refine ⟨rfl, rfl, .inl rfl, by simp [treHas], n1, p1, .inl j1, h1, fun e => absurd e (by simp), fun e => by simp at e, fun e => absurd e (by simp), ?_, i1, ?_, ?_⟩
        · simp only [treStep]
          exact treOff0 hc (by (try dsimp only); omega) (by (try dsimp only); omega)
        · refine ⟨fun e => absurd e (by simp), fun e => by simp at e, fun e => absurd e (by simp), fun e => by simp at e, fun _ => ?_, fun e => by simp at e⟩
          show 1 ≤ f.n
          omega
        · simp [treRem] <;> omega
      · refine ⟨rfl, rfl, .inl rfl, by simp [treHas], n1, p1, .inl j1, h1, fun e => absurd e (by simp), fun e => by simp at e, fun e => absurd e (by simp), ?_, by (try dsimp only); omega, ?_, ?_⟩
        · simp only [treStep]
          exact treOff0 hc (by (try dsimp only); omega) (by (try dsimp only); omega)
        · refine ⟨fun e => absurd e (by simp), fun e => by simp at e, fun e => absurd e (by simp), fun _ => ?_, fun e => absurd e (by simp), fun e => by simp at e⟩
          show 1 ≤ f.p + 1 ∧ f.p + 1 < f.n
          omega
        · simp [treRem] <;> omega
    · exact beh_end ⟨hc, n0, n1, p0, p1, j0, j1, h0, h1, i0, i1⟩ rfl rfl (.inr rfl) (by simp [treHas]) (by simp) (by omega)
  · simp only [hk, Int.reduceBEq, if_true]
    rw [hk] at hpost
    split
    · exact beh_end ⟨hc, n0, n1, p0, p1, j0, j1, h0, h1, i0, i1⟩ rfl rfl (.inr rfl) (by simp [treHas]) (by simp) hpost
    · exact beh_end ⟨hc, n0, n1, p0, p1, j0, j1, h0, h1, i0, i1⟩ rfl rfl (.inr rfl) (by simp [treHas]) (by simp) hpost
  · simp only [hk, Int.reduceBEq, Bool.false_eq_true, if_false, if_true]
    rw [post7]
    split
    · exact beh_end ⟨hc, n0, n1, p0, p1, j0, j1, h0, h1, i0, i1⟩ rfl rfl (.inr rfl) (by simp [treHas]) (by simp) (by omega)
    · split
      · exact beh_end ⟨hc, n0, n1, p0, p1, j0, j1, h0, h1, i0, i1⟩ rfl rfl (.inr rfl) (by simp [treHas]) (by simp) (by omega)
      · rename_i hp0
        have hp0' : f.p ≠ 0 := by simpa using hp0
        refine ⟨rfl, rfl, .inr rfl, by simp [treHas], n1, p1, .inl j1, h1, fun e => absurd e (by simp), fun e => by simp at e, fun e => absurd e (by simp), ?_, i1, inv_of (by simp), ?_⟩
        · simp only [treStep]
          exact treOff0 hc (by (try dsimp only); omega) (by (try dsimp only); omega)
        · simp [treRem]
  · simp only [hk, Int.reduceBEq, Bool.false_eq_true, if_false, if_true]
    rw [post8]
    have := on_beh HZ hk hp
    rw [hk] at this
    exact this.le (by omega)
theorem none_beh {c : Cfg} {f : Frm} (hz : TzF c f) (hk : f.kind = 4 ∨ f.kind = 5 ∨ f.kind = 6 ∨ f.kind = 7 ∨ f.kind = 8) : TreBeh c f.kind f.a f.b (treNone c f) (trePost c f.kind) := by
  have hpost := trePost_nonneg hz.ok f.kind
  have hl := treLc_nonneg c 0
  obtain ⟨hc, n0, n1, p0, p1, j0, j1, h0, h1, i0, i1⟩ := hz
  have hcap := hc.cap
  unfold treNone
  rcases hk with hk | hk | hk | hk | hk
  · simp only [hk, Int.reduceBEq, if_true]
    have := fresh_beh (c := c) (f := { f with p := f.n }) ⟨hc, n0, n1, n0, n1, j0, j1, h0, h1, i0, i1⟩ hk (Int.le_refl _)
    dsimp only at this
    rw [hk] at this
    rw [post4]
    exact this
  · simp only [hk, Int.reduceBEq, Bool.false_eq_true, if_false]
    rw [hk] at hpost
    exact beh_end ⟨hc, n0, n1, n0, n1, j0, j1, h0, h1, i0, i1⟩ rfl rfl (.inr rfl) (by simp [treHas]) (by simp) hpost
  · simp only [hk, Int.reduceBEq, Bool.false_eq_true, if_false]
    rw [hk] at hpost
    exact beh_end ⟨hc, n0, n1, n0, n1, j0, j1, h0, h1, i0, i1⟩ rfl rfl (.inr rfl) (by simp [treHas]) (by simp) hpost
  · simp only [hk, Int.reduceBEq, Bool.false_eq_true, if_false, if_true]
    rw [hk] at hpost
    split
    · exact beh_end ⟨hc, n0, n1, n0, n1, j0, j1, h0, h1, i0, i1⟩ rfl rfl (.inr rfl) (by simp [treHas]) (by simp) hpost
    · rename_i hn0
      have hn0' : f.n ≠ 0 := by simpa using hn0
      rw [post7]
      refine ⟨rfl, rfl, .inr rfl, by simp [treHas], n1, n1, .inl j1, h1, fun e => absurd e (by simp), fun e => by simp at e, fun e => absurd e (by simp), ?_, i1, inv_of (by simp), ?_⟩
      · simp only [treStep]
        exact treOff0 hc (by (try dsimp only); omega) (by (try dsimp only); omega)
      · simp [treRem]
  · simp only [hk, Int.reduceBEq, Bool.false_eq_true, if_false, if_true]
    rw [hk] at hpost
    exact beh_end ⟨hc, n0, n1, n0, n1, j0, j1, h0, h1, i0, i1⟩ rfl rfl (.inr rfl) (by simp [treHas]) (by simp) hpost
end Go.Proofs.YtkklhhdkokncnaaDoor
/- Plain: the way up of a program of an index costs so many acts; no program in sight. -/
namespace Go.Proofs.YtkklhhdkokncnaaDoor
open Go Go.RowKit
set_option maxRecDepth 100000
set_option maxHeartbeats 8000000

theorem divI_le {w : Int} (hw : w = 2 ∨ w = 3 ∨ w = 4) (k : Nat) : ∀ x : Int, 0 ≤ x → 0 ≤ divI w k x ∧ divI w k x ≤ x := by
  induction k with
  | zero => intro x h; exact ⟨h, Int.le_refl _⟩
  | succ k ih =>
    intro x h
    have h1 : 0 ≤ x / w ∧ x / w ≤ x := by rcases hw with rfl | rfl | rfl <;> omega
    have h2 := ih (x / w) h1.1
    exact ⟨h2.1, Int.le_trans h2.2 h1.2⟩
theorem climb_beh {c : Cfg} (k : Nat) : ∀ f : Frm, TzF c f → (f.kind = 4 ∨ f.kind = 5) → f.h + k = treTop c → TreBeh c f.kind f.a f.b (treClimb c k f) (lcI c.cap c.node (treTop c) k) := by
  induction k with
  | zero =>
    intro f hz hk _
    obtain ⟨hc, n0, n1, p0, p1, j0, j1, h0, h1, i0, i1⟩ := hz
    unfold treClimb
    rcases hk with hk | hk
    · simp only [hk, beq_self_eq_true, if_true]
      exact beh_end ⟨hc, n0, n1, p0, p1, j0, j1, h0, h1, i0, i1⟩ rfl rfl (.inr rfl) (by simp [treHas]) (by simp) (Int.le_refl _)
    · simp only [hk, Int.reduceBEq, Bool.false_eq_true, if_false]
      exact beh_end ⟨hc, n0, n1, p0, p1, j0, j1, h0, h1, i0, i1⟩ rfl rfl (.inr rfl) (by simp [treHas]) (by simp) (Int.le_refl _)
  | succ k ih =>
    intro f hz hk hl
    have HZ := hz
    obtain ⟨hc, n0, n1, p0, p1, j0, j1, h0, h1, i0, i1⟩ := hz
    have ht := tre_top c
    have hcap := hc.cap
    have hlk : treTop c - (f.h + 1) = k := by omega
    have hlk2 : treTop c - k = f.h + 1 := by omega
    have hlc : treLc c (f.h + 1) = lcI c.cap c.node (treTop c) k := by unfold treLc; rw [hlk]; rfl
    have hls : lcI c.cap c.node (treTop c) (k + 1) = lcI c.cap c.node (treTop c) k + 2 * upI c.cap c.node (f.h + 1) + 1 := by rw [← hlk2]; rfl
    have hln := lcI_nonneg c.cap c.node (treTop c) k
    have hm : treUp c f.n (f.h + 1) ≤ treUp c c.cap (f.h + 1) := up_mono n0 n1 hc.node (by omega)
    have hup := upI_nonneg c.cap c.node (f.h + 1)
    have hd := divI_le hc.node (f.h + 1).toNat f.p p0
    rw [hls]
    unfold treClimb
    generalize divI c.node (f.h + 1).toNat f.p = D at hd ⊢
    split
    · rename_i hlt
      have hin := end_in n0 hc.node (by omega) hd.1 hlt
      refine ⟨rfl, rfl, .inr rfl, by rcases hk with hk | hk <;> simp [treHas, hk], n1, p1, .inl j1, by (try dsimp only); omega, fun e => absurd e (by simp), fun _ => ⟨by (try dsimp only); omega, hlt⟩, fun e => absurd e (by simp), ?_, by (try dsimp only); omega, inv_of (by simp), ?_⟩
      · simp only [treStep]
        refine treOff_ok hc (by omega) (by omega) hin.1 (Int.lt_of_lt_of_le hin.2 (up_mono n0 n1 hc.node (by omega)))
      · have e : treRem c { f with h := f.h + 1, i := D, pc := 9 } = 2 * (treUp c f.n (f.h + 1) - D) + 1 + treLc c (f.h + 1) := by simp [treRem]
        rw [e, hlc]
        change treUp c f.n (f.h + 1) ≤ upI c.cap c.node (f.h + 1) at hm
        omega
    · split
      · rename_i _ hcl
        simp only [treClears, Bool.and_eq_true, beq_iff_eq, decide_eq_true_eq] at hcl
        obtain ⟨hk5, hcl⟩ := hcl
        have hcc : treUp c f.n (f.h + 1) < treUp c c.cap (f.h + 1) := Int.lt_of_lt_of_le hcl (up_mono (by split <;> omega) (by split <;> omega) hc.node (by omega))
        refine ⟨rfl, rfl, .inr rfl, by simp [treHas, hk5], n1, p1, .inl j1, by (try dsimp only); omega, fun e => absurd e (by simp), fun e => by simp at e, fun _ => by (try dsimp only); omega, ?_, by (try dsimp only); omega, inv_of (by simp), ?_⟩
        · simp only [treStep]
          exact treOff_ok hc (by omega) (by omega) (upI_nonneg _ _ _) hcc
        · have e : treRem c { f with h := f.h + 1, i := D, pc := 12 } = 1 + treLc c (f.h + 1) := by simp [treRem]
          rw [e, hlc]
          omega
      · have := ih { f with h := f.h + 1, i := D } ⟨hc, n0, n1, p0, p1, j0, j1, by (try dsimp only); omega, by (try dsimp only); omega, hd.1, by (try dsimp only); omega⟩ hk (by (try dsimp only); omega)
        exact this.le (by omega)
theorem upw_beh {c : Cfg} {f : Frm} (hz : TzF c f) (hk : f.kind = 4 ∨ f.kind = 5) : TreBeh c f.kind f.a f.b (treUpw c f) (treLc c f.h) :=
  climb_beh _ f hz hk (by have := hz.h; omega)

theorem s_pos {h i w : Int} (hw : w = 2 ∨ w = 3 ∨ w = 4) (h0 : 0 ≤ h) : 1 ≤ h * w + (w - i % w) := by
  rcases hw with rfl | rfl | rfl <;> omega
theorem s_next {h i w : Int} (hw : w = 2 ∨ w = 3 ∨ w = 4) (hn : (i + 1) % w ≠ 0) : h * w + (w - (i + 1) % w) + 1 ≤ h * w + (w - i % w) := by
  rcases hw with rfl | rfl | rfl <;> omega
theorem s_down {h i w : Int} (hw : w = 2 ∨ w = 3 ∨ w = 4) : (h - 1) * w + (w - i * w % w) + 1 ≤ h * w + (w - i % w) := by
  rcases hw with rfl | rfl | rfl <;> omega
theorem s_top {T w : Int} (hw : w = 2 ∨ w = 3 ∨ w = 4) (h0 : 0 ≤ T) : T * w + (w - 0 % w) = (T + 1) * w ∧ 1 ≤ (T + 1) * w := by
  rcases hw with rfl | rfl | rfl <;> omega
/-- A frame of an operation that goes on. -/
structure TreZ (c : Cfg) (o : Opn) (f : Frm) : Prop where
  err : treErr c f = 0
  fits : f.Fits
  kind : f.kind = o.kind
  i : f.i ≤ 64
  inv : TreInv c f
theorem tz_pcs {f : Frm} (h : treHas f = true) : f.pc = 0 ∨ f.pc = 1 ∨ (f.pc = 3 ∧ f.kind = 7) ∨ (f.pc = 4 ∧ f.kind = 4) ∨ (f.pc = 5 ∧ f.kind = 4) ∨ (f.pc = 6 ∧ f.kind = 4) ∨ (f.pc = 7 ∧ f.kind = 4) ∨ (f.pc = 8 ∧ (f.kind = 4 ∨ f.kind = 5)) ∨ (f.pc = 9 ∧ (f.kind = 4 ∨ f.kind = 5)) ∨ (f.pc = 11 ∧ (f.kind = 4 ∨ f.kind = 5)) ∨
    (f.pc = 12 ∧ f.kind = 5) ∨ (f.pc = 13 ∧ f.kind = 5) ∨ (f.pc = 14 ∧ f.kind = 5) ∨ (f.pc = 15 ∧ f.kind = 5) ∨ (f.pc = 16 ∧ f.kind = 8) ∨ (f.pc = 17 ∧ f.kind = 8) ∨ 20 ≤ f.pc := by
  by_cases p20 : 20 ≤ f.pc
  · simp [p20]
  by_cases p0 : f.pc = 0
  · simp [p0]
  by_cases p1 : f.pc = 1
  · simp [p1]
  by_cases p3 : f.pc = 3
  · simp [treHas, p3] at h
    simp [p3, h]
  by_cases p4 : f.pc = 4
  · simp [treHas, p4] at h
    simp [p4, h]
  by_cases p5 : f.pc = 5
  · simp [treHas, p5] at h
    simp [p5, h]
  by_cases p6 : f.pc = 6
  · simp [treHas, p6] at h
    simp [p6, h]
  by_cases p7 : f.pc = 7
  · simp [treHas, p7] at h
    simp [p7, h]
  by_cases p8 : f.pc = 8
  · simp [treHas, p8] at h
    simp [p8, h]
  by_cases p9 : f.pc = 9
  · simp [treHas, p9] at h
    simp [p9, h]
  by_cases p11 : f.pc = 11
  · simp [treHas, p11] at h
    simp [p11, h]
  by_cases p12 : f.pc = 12
  · simp [treHas, p12] at h
    simp [p12, h]
  by_cases p13 : f.pc = 13
  · simp [treHas, p13] at h
    simp [p13, h]
  by_cases p14 : f.pc = 14
  · simp [treHas, p14] at h
    simp [p14, h]
  by_cases p15 : f.pc = 15
  · simp [treHas, p15] at h
    simp [p15, h]
  by_cases p16 : f.pc = 16
  · simp [treHas, p16] at h
    simp [p16, h]
  by_cases p17 : f.pc = 17
  · simp [treHas, p17] at h
    simp [p17, h]
  exfalso
  simp [treHas, p0, p1, p3, p4, p5, p6, p7, p8, p9, p11, p12, p13, p14, p15, p16, p17] at h
  omega
end Go.Proofs.YtkklhhdkokncnaaDoor
/- Plain: a step of a program of an index; no program in sight. -/
namespace Go.Proofs.YtkklhhdkokncnaaDoor
open Go Go.RowKit
set_option maxRecDepth 100000
set_option maxHeartbeats 8000000

theorem tz_step {c : Cfg} {o : Opn} {f : Frm} (h : TreZ c o f) (hn4 : f.pc < 20) (l : Cel) (hl : l.Fits) : TreBeh c f.kind f.a f.b (treBehind c f l).1 (treRem c f - 1) := by
  obtain ⟨hp, ho, hm⟩ := treErr_ok h.err
  have hc := treOk_of hp ho
  obtain ⟨_, has, hnum, _⟩ := treMay_facts hm
  obtain ⟨m1, m2, m3, m4, m5, m6, m7, m8⟩ := treNum_facts hnum
  have hks := treKinds ho hm
  have hinv := h.inv
  have hcap := hc.cap
  have hck := hc.chunk
  have ht := tre_top c
  have hpost := trePost_nonneg hc f.kind
  have hlc := treLc_nonneg c 0
  have n0 := h.fits.n.1
  have p0 := h.fits.p.1
  have j0 := h.fits.j.1
  have h0 := h.fits.h.1
  have i0 := h.fits.i.1
  have i1 := h.i
  have tz : f.pc ≠ 16 → TzF c f := fun e => ⟨hc, n0, m1, p0, m2, j0, by rcases m8 with m | m <;> omega, h0, m4, i0, i1⟩
  rcases tz_pcs has with p | p | ⟨p, k⟩ | ⟨p, k⟩ | ⟨p, k⟩ | ⟨p, k⟩ | ⟨p, k⟩ | ⟨p, k⟩ | ⟨p, k⟩ | ⟨p, k⟩ | ⟨p, k⟩ | ⟨p, k⟩ | ⟨p, k⟩ | ⟨p, k⟩ | ⟨p, k⟩ | ⟨p, k⟩ | p
  · have hz := tz (by omega)
    have hr : treRem c f = 1 + (treTop c + 1) * c.node + trePost c f.kind := by simp [treRem, p]
    have hs := s_top hc.node ht.1
    have j1 := hz.j
    rw [hr]
    generalize hM : (if l.a < c.cap then l.a else c.cap) = M
    have hM2 : 0 ≤ M ∧ M ≤ c.cap := by have := hl.a; rw [← hM]; split <;> omega
    by_cases hM0 : M = 0
    · have e : treBehind c f l = (treNone c { f with n := 0 }, false) := by unfold treBehind; simp [p, hM, hM0]
      rw [e]
      have := none_beh (c := c) (f := { f with n := 0 }) ⟨hc, Int.le_refl _, by (try dsimp only); omega, p0, m2, j0, j1, h0, m4, i0, i1⟩ hks
      exact this.le (by (try dsimp only); omega)
    · have e : treBehind c f l = ({ f with n := M, h := treTop c, i := 0, pc := 1 }, false) := by unfold treBehind; simp [p, hM, hM0]
      rw [e]
      refine ⟨rfl, rfl, .inr rfl, by simp [treHas], hM2.2, m2, .inl j1, Int.le_refl _, fun e => absurd e (by simp), fun e => by simp at e, fun e => absurd e (by simp), ?_, by simp, ?_, ?_⟩
      · simp only [treStep]
        exact treOff_ok hc ht.1 (Int.le_refl _) (Int.le_refl _) (up_pos hcap.1 hc.node ht)
      · refine ⟨fun _ => ⟨by (try dsimp only); omega, up_pos (by (try dsimp only); omega) hc.node ht⟩, fun e => by simp at e, fun e => absurd e (by simp), fun e => by simp at e, fun e => absurd e (by simp), fun e => by simp at e⟩
      · have e2 : treRem c { f with n := M, h := treTop c, i := 0, pc := 1 } = treTop c * c.node + (c.node - 0 % c.node) + trePost c f.kind := by simp [treRem]
        rw [e2]
        omega
  · have hz := tz (by omega)
    have hr : treRem c f = f.h * c.node + (c.node - f.i % c.node) + trePost c f.kind := by simp [treRem, p]
    have hs := s_pos (i := f.i) hc.node h0
    have j1 := hz.j
    obtain ⟨q1, q2⟩ := hinv.s1 p
    have e : treBehind c f l = treItem c f l := by unfold treBehind; simp [p]
    rw [hr, e]
    unfold treItem
    split
    · split
      · rename_i hh
        have hh' : f.h = 0 := by simpa using hh
        rw [hh', treUp0 n0] at q2
        have := found_beh (c := c) (f := treOver { f with p := f.i } l) ⟨hc, n0, m1, i0, by (try dsimp only [treOver]); omega, j0, j1, h0, m4, i0, i1⟩ hks q2
        exact this.le (by (try dsimp only [treOver]); omega)
      · rename_i hh
        have hh' : f.h ≠ 0 := by simpa using hh
        have hd := up_down n0 hc.node (by omega) q2
        have hu := upI_le n0 hc.node (h := f.h - 1) (by omega)
        have hu2 : upI f.n c.node (f.h - 1) ≤ upI c.cap c.node (f.h - 1) := up_mono n0 m1 hc.node (by omega)
        have hi3 : 0 ≤ f.i * c.node := Int.mul_nonneg i0 (by rcases hc.node with e | e | e <;> omega)
        have hmod : f.i * c.node % 256 = f.i * c.node := by omega
        have hsd := s_down (h := f.h) (i := f.i) hc.node
        simp only [hmod]
        refine ⟨rfl, rfl, .inr rfl, by simp [treHas, p], m1, m2, .inl j1, by (try dsimp only); omega, fun e => by (try dsimp only at e); omega, fun e => by (try dsimp only at e); omega, fun e => by (try dsimp only at e); omega, ?_, by (try dsimp only); omega, ?_, ?_⟩
        · simp only [treStep, p]
          exact treOff_ok hc (by omega) (by omega) hi3 (Int.lt_of_lt_of_le hd hu2)
        · refine ⟨fun _ => ⟨q1, hd⟩, fun e => by (try dsimp only at e); omega, fun e => by (try dsimp only at e); omega, fun e => by (try dsimp only at e); omega, fun e => by (try dsimp only at e); omega, fun e => by (try dsimp only at e); omega⟩
        · have e2 : treRem c { f with h := f.h - 1, i := f.i * c.node } = (f.h - 1) * c.node + (c.node - f.i * c.node % c.node) + trePost c f.kind := by simp [treRem, p]
          rw [e2]
          omega
    · split
      · have := none_beh hz hks
        exact this.le (by omega)
      · rename_i hcn
        simp only [Bool.or_eq_true, beq_iff_eq, decide_eq_true_eq, not_or] at hcn
        obtain ⟨c1, c2⟩ := hcn
        have hu2 : treUp c f.n f.h ≤ treUp c c.cap f.h := up_mono n0 m1 hc.node (by omega)
        have hsn := s_next (h := f.h) hc.node c1
        have hu3 := (treUp_le hc n0 (h := f.h) (by omega)).2
        refine ⟨rfl, rfl, .inr rfl, by simp [treHas, p], m1, m2, .inl j1, m4, fun e => by (try dsimp only at e); omega, fun e => by (try dsimp only at e); omega, fun e => by (try dsimp only at e); omega, ?_, by (try dsimp only); omega, ?_, ?_⟩
        · simp only [treStep, p]
          exact treOff_ok hc h0 m4 (by omega) (by omega)
        · refine ⟨fun _ => ⟨q1, by (try dsimp only); omega⟩, fun e => by (try dsimp only at e); omega, fun e => by (try dsimp only at e); omega, fun e => by (try dsimp only at e); omega, fun e => by (try dsimp only at e); omega, fun e => by (try dsimp only at e); omega⟩
        · have e2 : treRem c { f with i := f.i + 1 } = f.h * c.node + (c.node - (f.i + 1) % c.node) + trePost c f.kind := by simp [treRem, p]
          rw [e2]
          omega
  · obtain ⟨_, _, _, _, _, _, j1, _, _, _, _⟩ := tz (by omega)
    have hr : treRem c f = 1 := by simp [treRem, p]
    have e : treBehind c f l = ({ treOver f l with pc := 20 }, true) := by unfold treBehind; simp [p]
    rw [hr, e]
    exact beh_end ⟨hc, n0, m1, p0, m2, j0, j1, h0, m4, i0, i1⟩ rfl rfl (.inr rfl) (by simp [treHas, treOver, k]) (by simp) (by omega)
  · obtain ⟨_, _, _, _, _, _, j1, _, _, _, _⟩ := tz (by omega)
    have hr : treRem c f = 1 := by simp [treRem, p]
    have e : treBehind c f l = ({ f with pc := 23 }, false) := by unfold treBehind; simp [p]
    rw [hr, e]
    exact beh_end ⟨hc, n0, m1, p0, m2, j0, j1, h0, m4, i0, i1⟩ rfl rfl (.inr rfl) (by simp [treHas, k]) (by simp) (by omega)
  · obtain ⟨_, _, _, _, _, _, j1, _, _, _, _⟩ := tz (by omega)
    have hr : treRem c f = 2 * (f.i - f.p) + 2 + treLc c 0 := by simp [treRem, p]
    have e : treBehind c f l = ({ treOver f l with pc := 6 }, false) := by unfold treBehind; simp [p]
    have s5 := hinv.s5 (.inl p)
    rw [hr, e]
    refine ⟨rfl, rfl, .inr rfl, by simp [treHas, treOver, k], m1, m2, .inl j1, m4, fun _ => by (try dsimp only [treOver]); omega, fun e => by simp at e, fun e => absurd e (by simp), ?_, i1, ?_, ?_⟩
    · simp only [treStep, treOver]
      exact treOff0 hc i0 (by (try dsimp only); omega)
    · exact ⟨fun e => absurd e (by simp), fun _ => s5, fun e => absurd e (by simp), fun e => by simp at e, fun e => absurd e (by simp), fun e => by simp at e⟩
    · have e2 : treRem c { treOver f l with pc := 6 } = 2 * (f.i - f.p) + 1 + treLc c 0 := by simp [treRem, treOver]
      rw [e2]
      omega
  · obtain ⟨_, _, _, _, _, _, j1, _, _, _, _⟩ := tz (by omega)
    have hr : treRem c f = 2 * (f.i - f.p) + 1 + treLc c 0 := by simp [treRem, p]
    have s5 := hinv.s5 (.inr p)
    by_cases hq : f.i - 1 ≤ f.p
    · have e : treBehind c f l = ({ f with i := f.i - 1, pc := 7 }, false) := by unfold treBehind; simp [p, hq]
      rw [hr, e]
      refine ⟨rfl, rfl, .inr rfl, by simp [treHas, k], m1, m2, .inl j1, m4, fun e => absurd e (by simp), fun e => by simp at e, fun e => absurd e (by simp), ?_, by (try dsimp only); omega, ?_, ?_⟩
      · simp only [treStep]
        exact treOff0 hc p0 (by (try dsimp only); omega)
      · exact ⟨fun e => absurd e (by simp), fun e => by simp at e, fun _ => s5.2.2, fun e => by simp at e, fun e => absurd e (by simp), fun e => by simp at e⟩
      · have e2 : treRem c { f with i := f.i - 1, pc := 7 } = 2 + treLc c 0 := by simp [treRem]
        rw [e2]
        omega
    · have e : treBehind c f l = ({ f with i := f.i - 1, pc := 5 }, false) := by unfold treBehind; simp [p, hq]
      rw [hr, e]
      refine ⟨rfl, rfl, .inr rfl, by simp [treHas, k], m1, m2, .inl j1, m4, fun e => absurd e (by simp), fun e => by simp at e, fun e => absurd e (by simp), ?_, by (try dsimp only); omega, ?_, ?_⟩
      · simp only [treStep]
        exact treOff0 hc (by (try dsimp only); omega) (by (try dsimp only); omega)
      · exact ⟨fun e => absurd e (by simp), fun _ => by (try dsimp only); omega, fun e => absurd e (by simp), fun e => by simp at e, fun e => absurd e (by simp), fun e => by simp at e⟩
      · have e2 : treRem c { f with i := f.i - 1, pc := 5 } = 2 * (f.i - 1 - f.p) + 2 + treLc c 0 := by simp [treRem]
        rw [e2]
        omega
  · obtain ⟨_, _, _, _, _, _, j1, _, _, _, _⟩ := tz (by omega)
    have hr : treRem c f = 2 + treLc c 0 := by simp [treRem, p]
    have s7 := hinv.s7 p
    have e : treBehind c f l = ({ f with n := f.n + 1, pc := 8 }, false) := by unfold treBehind; simp [p]
    rw [hr, e]
    refine ⟨rfl, rfl, .inr rfl, by simp [treHas, k], by (try dsimp only); omega, m2, .inl j1, m4, fun e => absurd e (by simp), fun e => by simp at e, fun e => absurd e (by simp), by simp [treStep], i1, inv_of (by simp), ?_⟩
    have e2 : treRem c { f with n := f.n + 1, pc := 8 } = 1 + treLc c 0 := by simp [treRem]
    rw [e2]
    omega
  · obtain ⟨_, _, _, _, _, _, j1, _, _, _, _⟩ := tz (by omega)
    have hr : treRem c f = 1 + treLc c 0 := by simp [treRem, p]
    have e : treBehind c f l = (treUpw c { f with h := 0 }, false) := by unfold treBehind; simp [p]
    rw [hr, e]
    have := upw_beh (c := c) (f := { f with h := 0 }) ⟨hc, n0, m1, p0, m2, j0, j1, Int.le_refl _, ht.1, i0, i1⟩ k
    exact this.le (by (try dsimp only); omega)
  · obtain ⟨_, _, _, _, _, _, j1, _, _, _, _⟩ := tz (by omega)
    have hr : treRem c f = 2 * (treUp c f.n f.h - f.i) + 1 + treLc c f.h := by simp [treRem, p]
    have s9 := m6 (.inl p)
    have hu2 : treUp c f.n f.h ≤ treUp c c.cap f.h := up_mono n0 m1 hc.node (by omega)
    have e : treBehind c f l = ({ treOver f l with pc := 11 }, false) := by unfold treBehind; simp [p]
    rw [hr, e]
    refine ⟨rfl, rfl, .inr rfl, by rcases k with k | k <;> simp [treHas, treOver, k], m1, m2, .inl j1, m4, fun e => absurd e (by simp), fun _ => s9, fun e => absurd e (by simp), ?_, i1, inv_of (by simp), ?_⟩
    · simp only [treStep, treOver]
      exact treOff_ok hc h0 m4 i0 (by (try dsimp only); omega)
    · have e2 : treRem c { treOver f l with pc := 11 } = 2 * (treUp c f.n f.h - f.i) + treLc c f.h := by simp [treRem, treOver]
      rw [e2]
      omega
  · have hz := tz (by omega)
    have j1 := hz.j
    have hr : treRem c f = 2 * (treUp c f.n f.h - f.i) + treLc c f.h := by simp [treRem, p]
    have s9 := m6 (.inr p)
    have hu2 : treUp c f.n f.h ≤ treUp c c.cap f.h := up_mono n0 m1 hc.node (by omega)
    have hu3 := (treUp_le hc n0 (h := f.h) (by omega)).2
    by_cases hq : f.i + 1 < treUp c f.n f.h
    · have e : treBehind c f l = ({ f with i := f.i + 1, pc := 9 }, false) := by unfold treBehind; simp [p, hq]
      have hin := end_in n0 hc.node (h := f.h) (i := f.i + 1) (by omega) (by omega) hq
      rw [hr, e]
      refine ⟨rfl, rfl, .inr rfl, by rcases k with k | k <;> simp [treHas, k], m1, m2, .inl j1, m4, fun e => absurd e (by simp), fun _ => ⟨s9.1, hq⟩, fun e => absurd e (by simp), ?_, by (try dsimp only); omega, inv_of (by simp), ?_⟩
      · simp only [treStep]
        exact treOff_ok hc (by (try dsimp only); omega) (by (try dsimp only); omega) hin.1 (Int.lt_of_lt_of_le hin.2 (up_mono n0 m1 hc.node (by (try dsimp only); omega)))
      · have e2 : treRem c { f with i := f.i + 1, pc := 9 } = 2 * (treUp c f.n f.h - (f.i + 1)) + 1 + treLc c f.h := by simp [treRem]
        rw [e2]
        omega
    · cases hcl : treClears c f
      · have e : treBehind c f l = (treUpw c { f with i := f.i + 1, pc := 9 }, false) := by unfold treBehind; simp [p, hq, hcl]
        rw [hr, e]
        have := upw_beh (c := c) (f := { f with i := f.i + 1, pc := 9 }) ⟨hc, n0, m1, p0, m2, j0, j1, h0, m4, by (try dsimp only); omega, by (try dsimp only); omega⟩ k
        exact this.le (by (try dsimp only); omega)
      · have e : treBehind c f l = ({ f with i := f.i + 1, pc := 12 }, false) := by unfold treBehind; simp [p, hq, hcl]
        simp only [treClears, Bool.and_eq_true, beq_iff_eq, decide_eq_true_eq] at hcl
        obtain ⟨hk5, hcl⟩ := hcl
        have hcc : treUp c f.n f.h < treUp c c.cap f.h := Int.lt_of_lt_of_le hcl (up_mono (by split <;> omega) (by split <;> omega) hc.node (by omega))
        rw [hr, e]
        refine ⟨rfl, rfl, .inr rfl, by simp [treHas, hk5], m1, m2, .inl j1, m4, fun e => absurd e (by simp), fun e => by simp at e, fun _ => s9.1, ?_, by (try dsimp only); omega, inv_of (by simp), ?_⟩
        · simp only [treStep]
          exact treOff_ok hc h0 m4 (upI_nonneg _ _ _) hcc
        · have e2 : treRem c { f with i := f.i + 1, pc := 12 } = 1 + treLc c f.h := by simp [treRem]
          rw [e2]
          omega
  · have hz := tz (by omega)
    have hr : treRem c f = 1 + treLc c f.h := by simp [treRem, p]
    have e : treBehind c f l = (treUpw c f, false) := by unfold treBehind; simp [p]
    rw [hr, e]
    exact (upw_beh hz (.inr k)).le (by omega)
  · obtain ⟨_, _, _, _, _, _, j1, _, _, _, _⟩ := tz (by omega)
    have hr : treRem c f = 2 * (f.n - f.i) + 2 + treLc c 0 := by simp [treRem, p]
    have s13 := hinv.s13 (.inl p)
    have e : treBehind c f l = ({ treOver f l with pc := 14 }, false) := by unfold treBehind; simp [p]
    rw [hr, e]
    refine ⟨rfl, rfl, .inr rfl, by simp [treHas, treOver, k], m1, m2, .inl j1, m4, fun e => absurd e (by simp), fun e => by simp at e, fun e => absurd e (by simp), ?_, i1, ?_, ?_⟩
    · simp only [treStep, treOver]
      exact treOff0 hc (by (try dsimp only); omega) (by (try dsimp only); omega)
    · exact ⟨fun e => absurd e (by simp), fun e => by simp at e, fun e => absurd e (by simp), fun _ => s13, fun e => absurd e (by simp), fun e => by simp at e⟩
    · have e2 : treRem c { treOver f l with pc := 14 } = 2 * (f.n - f.i) + 1 + treLc c 0 := by simp [treRem, treOver]
      rw [e2]
      omega
  · obtain ⟨_, _, _, _, _, _, j1, _, _, _, _⟩ := tz (by omega)
    have hr : treRem c f = 2 * (f.n - f.i) + 1 + treLc c 0 := by simp [treRem, p]
    have s13 := hinv.s13 (.inr p)
    by_cases hq : f.n ≤ f.i + 1
    · have e : treBehind c f l = ({ f with i := f.i + 1, pc := 15 }, false) := by unfold treBehind; simp [p, hq]
      rw [hr, e]
      refine ⟨rfl, rfl, .inr rfl, by simp [treHas, k], m1, m2, .inl j1, m4, fun e => absurd e (by simp), fun e => by simp at e, fun e => absurd e (by simp), ?_, by (try dsimp only); omega, ?_, ?_⟩
      · simp only [treStep]
        exact treOff0 hc (by (try dsimp only); omega) (by (try dsimp only); omega)
      · exact ⟨fun e => absurd e (by simp), fun e => by simp at e, fun e => absurd e (by simp), fun e => by simp at e, fun _ => by (try dsimp only); omega, fun e => by simp at e⟩
      · have e2 : treRem c { f with i := f.i + 1, pc := 15 } = 2 + treLc c 0 := by simp [treRem]
        rw [e2]
        omega
    · have e : treBehind c f l = ({ f with i := f.i + 1, pc := 13 }, false) := by unfold treBehind; simp [p, hq]
      rw [hr, e]
      refine ⟨rfl, rfl, .inr rfl, by simp [treHas, k], m1, m2, .inl j1, m4, fun e => absurd e (by simp), fun e => by simp at e, fun e => absurd e (by simp), ?_, by (try dsimp only); omega, ?_, ?_⟩
      · simp only [treStep]
        exact treOff0 hc (by (try dsimp only); omega) (by (try dsimp only); omega)
      · exact ⟨fun e => absurd e (by simp), fun e => by simp at e, fun e => absurd e (by simp), fun _ => by (try dsimp only); omega, fun e => absurd e (by simp), fun e => by simp at e⟩
      · have e2 : treRem c { f with i := f.i + 1, pc := 13 } = 2 * (f.n - (f.i + 1)) + 2 + treLc c 0 := by simp [treRem]
        rw [e2]
        omega
  · obtain ⟨_, _, _, _, _, _, j1, _, _, _, _⟩ := tz (by omega)
    have hr : treRem c f = 2 + treLc c 0 := by simp [treRem, p]
    have s15 := hinv.s15 p
    have e : treBehind c f l = ({ f with n := f.n - 1, pc := 8 }, false) := by unfold treBehind; simp [p]
    rw [hr, e]
    refine ⟨rfl, rfl, .inr rfl, by simp [treHas, k], by (try dsimp only); omega, m2, .inl j1, m4, fun e => absurd e (by simp), fun e => by simp at e, fun e => absurd e (by simp), by simp [treStep], i1, inv_of (by simp), ?_⟩
    have e2 : treRem c { f with n := f.n - 1, pc := 8 } = 1 + treLc c 0 := by simp [treRem]
    rw [e2]
    omega
  · have hr : treRem c f = 2 * (f.n - f.p) - 1 := by simp [treRem, p]
    have s16 := hinv.s16 (.inl p)
    have e : treBehind c f l = (treGo { f with j := 0 }, false) := by unfold treBehind; simp [p]
    rw [hr, e]
    have := go_beh (c := c) (f := { f with j := 0 }) ⟨hc, n0, m1, p0, m2, Int.le_refl _, by (try dsimp only); omega, h0, m4, i0, i1⟩ k s16
    exact this.le (by (try dsimp only); omega)
  · obtain ⟨_, _, _, _, _, _, j1, _, _, _, _⟩ := tz (by omega)
    have hr : treRem c f = 2 * (f.n - f.p) := by simp [treRem, p]
    have s16 := hinv.s16 (.inr p)
    have e : treBehind c f l = treOn c (treOver f l) := by unfold treBehind; simp [p]
    rw [hr, e]
    have := on_beh (c := c) (f := treOver f l) ⟨hc, n0, m1, p0, m2, j0, j1, h0, m4, i0, i1⟩ k s16
    exact this.le (by (try dsimp only [treOver]); omega)
  · omega
/-- An act of a frame: it is the last, or touches what there is, and the frame behind it goes on, with fewer acts to come. -/
theorem TreZ.new {c : Cfg} {o : Opn} {f g : Frm} {R : Int} (h : TreZ c o f) (b : TreBeh c f.kind f.a f.b g R) (hg : g.Fits) : TreZ c o g := by
  obtain ⟨hp, ho, hm⟩ := treErr_ok h.err
  obtain ⟨hop, _, _, _⟩ := treMay_facts hm
  refine ⟨treErr_yes hp (by simp [ho]) ?_, hg, b.kind.trans h.kind, b.i, b.inv⟩
  have e : treOp g = treOp f := by
    unfold treOp
    rw [b.kind, b.a]
    rcases b.b with q | q
    · simp [q]
    · rw [q]
  have hnum : treNum c g = true := by
    have hj := b.j
    have h1 := b.n
    have h2 := b.p
    have h4 := b.h
    have h6 := b.i6
    have h9 := b.i9
    have h12 := b.h12
    simp only [treNum, Bool.and_eq_true, decide_eq_true_eq, Bool.not_eq_true', Bool.and_eq_false_iff]
    refine ⟨⟨⟨⟨⟨h1, h2⟩, by rcases hj with q | q <;> omega⟩, h4⟩, ?_⟩, ?_⟩
    · rcases hj with q | q
      · right
        simp
        omega
      · left
        simp [q.1]
    · by_cases p6 : g.pc = 6
      · simp [p6, h6 p6]
      · by_cases p9 : g.pc = 9 ∨ g.pc = 11
        · have := h9 p9
          rcases p9 with q | q <;> simp [q, this]
        · by_cases p12 : g.pc = 12
          · simp [p12, h12 p12]
          · simp [p6, p12]
            exact .inl ⟨fun q => p9 (.inl q), fun q => p9 (.inr q)⟩
  simp [treMay, e, hop, b.has, hnum, b.at']
end Go.Proofs.YtkklhhdkokncnaaDoor
/- Plain: a program of an index ends within the document's number of acts; no program in sight. -/
namespace Go.Proofs.YtkklhhdkokncnaaDoor
open Go Go.RowKit
set_option maxRecDepth 100000
set_option maxHeartbeats 8000000

theorem treGreat_pos (c : Cfg) : 1 ≤ treGreat c := by
  have := sumI_le c.cap c.node (j := 0) (k := (treTop c).toNat + 1) (Nat.zero_le _)
  have h0 : sumI c.cap c.node 0 = 0 := rfl
  unfold treGreat
  omega
/-- How many acts there may be yet is no number below nought. -/
theorem tre_rem {c : Cfg} {o : Opn} {f : Frm} (h : TreZ c o f) : 0 ≤ treRem c f := by
  obtain ⟨hp, ho, hm⟩ := treErr_ok h.err
  have hc := treOk_of hp ho
  obtain ⟨_, has, hnum, _⟩ := treMay_facts hm
  obtain ⟨m1, m2, m3, m4, m5, m6, m7, m8⟩ := treNum_facts hnum
  have ht := tre_top c
  have hpost := trePost_nonneg hc f.kind
  have hlc := treLc_nonneg c 0
  have hlh := treLc_nonneg c f.h
  have h0 := h.fits.h.1
  have hinv := h.inv
  rcases tz_pcs has with p | p | ⟨p, k⟩ | ⟨p, k⟩ | ⟨p, k⟩ | ⟨p, k⟩ | ⟨p, k⟩ | ⟨p, k⟩ | ⟨p, k⟩ | ⟨p, k⟩ | ⟨p, k⟩ | ⟨p, k⟩ | ⟨p, k⟩ | ⟨p, k⟩ | ⟨p, k⟩ | ⟨p, k⟩ | p
  · have hr : treRem c f = 1 + (treTop c + 1) * c.node + trePost c f.kind := by simp [treRem, p]
    have hs := s_top hc.node ht.1
    omega
  · have hr : treRem c f = f.h * c.node + (c.node - f.i % c.node) + trePost c f.kind := by simp [treRem, p]
    have hs := s_pos (i := f.i) hc.node h0
    omega
  · have hr : treRem c f = 1 := by simp [treRem, p]
    omega
  · have hr : treRem c f = 1 := by simp [treRem, p]
    omega
  · have hr : treRem c f = 2 * (f.i - f.p) + 2 + treLc c 0 := by simp [treRem, p]
    have := hinv.s5 (.inl p)
    omega
  · have hr : treRem c f = 2 * (f.i - f.p) + 1 + treLc c 0 := by simp [treRem, p]
    have := hinv.s5 (.inr p)
    omega
  · have hr : treRem c f = 2 + treLc c 0 := by simp [treRem, p]
    omega
  · have hr : treRem c f = 1 + treLc c 0 := by simp [treRem, p]
    omega
  · have hr : treRem c f = 2 * (treUp c f.n f.h - f.i) + 1 + treLc c f.h := by simp [treRem, p]
    have := m6 (.inl p)
    omega
  · have hr : treRem c f = 2 * (treUp c f.n f.h - f.i) + treLc c f.h := by simp [treRem, p]
    have := m6 (.inr p)
    omega
  · have hr : treRem c f = 1 + treLc c f.h := by simp [treRem, p]
    omega
  · have hr : treRem c f = 2 * (f.n - f.i) + 2 + treLc c 0 := by simp [treRem, p]
    have := hinv.s13 (.inl p)
    omega
  · have hr : treRem c f = 2 * (f.n - f.i) + 1 + treLc c 0 := by simp [treRem, p]
    have := hinv.s13 (.inr p)
    omega
  · have hr : treRem c f = 2 + treLc c 0 := by simp [treRem, p]
    omega
  · have hr : treRem c f = 2 * (f.n - f.p) - 1 := by simp [treRem, p]
    have := hinv.s16 (.inl p)
    omega
  · have hr : treRem c f = 2 * (f.n - f.p) := by simp [treRem, p]
    have := hinv.s16 (.inr p)
    omega
  · have e : ∀ x : Int, x < 20 → f.pc ≠ x := fun x hx => by omega
    have hr : treRem c f = 0 := by
      unfold treRem
      simp only [e 0 (by omega), e 1 (by omega), e 3 (by omega), e 4 (by omega), e 5 (by omega), e 6 (by omega), e 7 (by omega), e 8 (by omega), e 9 (by omega), e 11 (by omega), e 12 (by omega), e 13 (by omega), e 14 (by omega), e 15 (by omega), e 16 (by omega), e 17 (by omega), if_false, or_self]
    omega
theorem step_end {c : Cfg} {f : Frm} (h : 20 ≤ f.pc) : (treStep c f).kind = 4 := by
  have e : ∀ x : Int, x < 20 → f.pc ≠ x := fun x hx => by omega
  unfold treStep
  simp only [beq_iff_eq, Bool.or_eq_true, e 0 (by omega), e 1 (by omega), e 3 (by omega), e 4 (by omega), e 5 (by omega), e 6 (by omega), e 7 (by omega), e 8 (by omega), e 9 (by omega), e 11 (by omega), e 12 (by omega), e 13 (by omega), e 14 (by omega), e 15 (by omega), e 16 (by omega), e 17 (by omega), if_false, or_self]
  split
  · rfl
  · split
    · rfl
    · split
      · rfl
      · split <;> rfl
/-- An act that is not the last: what it is, and where. -/
theorem step_act {c : Cfg} {f : Frm} (has : treHas f = true) (hat : 0 ≤ (treStep c f).at') (h : f.pc < 20) : (treStep c f).at' < treGreat c ∧ ((treStep c f).kind = 1 ∨ ((treStep c f).kind = 2 ∧ (f.kind = 4 ∨ f.kind = 5)) ∨ ((treStep c f).kind = 3 ∧ f.kind = 8)) := by
  have hg := treGreat_pos c
  have key : ∀ A : Actn, treStep c f = A → 0 ≤ A.at' → ((∃ h i, A.at' = treOff c h i) ∨ A.at' = 0) → A.kind = 1 ∨ (A.kind = 2 ∧ (f.kind = 4 ∨ f.kind = 5)) ∨ (A.kind = 3 ∧ f.kind = 8) → (treStep c f).at' < treGreat c ∧ ((treStep c f).kind = 1 ∨ ((treStep c f).kind = 2 ∧ (f.kind = 4 ∨ f.kind = 5)) ∨ ((treStep c f).kind = 3 ∧ f.kind = 8)) := by
    intro A e ha hx hk
    rw [e]
    refine ⟨?_, hk⟩
    rcases hx with ⟨x, i, hx⟩ | hx
    · rw [hx] at ha ⊢
      exact treOff_lt ha
    · omega
  rcases tz_pcs has with p | p | ⟨p, k⟩ | ⟨p, k⟩ | ⟨p, k⟩ | ⟨p, k⟩ | ⟨p, k⟩ | ⟨p, k⟩ | ⟨p, k⟩ | ⟨p, k⟩ | ⟨p, k⟩ | ⟨p, k⟩ | ⟨p, k⟩ | ⟨p, k⟩ | ⟨p, k⟩ | ⟨p, k⟩ | p
  · exact key _ rfl hat (.inr (by simp [treStep, p])) (.inl (by simp [treStep, p]))
  · exact key _ rfl hat (.inl ⟨f.h, f.i, by simp [treStep, p]⟩) (.inl (by simp [treStep, p]))
  · exact key _ rfl hat (.inl ⟨0, f.p - 1, by simp [treStep, p]⟩) (.inl (by simp [treStep, p]))
  · exact key _ rfl hat (.inl ⟨0, f.p, by simp [treStep, p]⟩) (.inr (.inl ⟨by simp [treStep, p], .inl k⟩))
  · exact key _ rfl hat (.inl ⟨0, f.i - 1, by simp [treStep, p]⟩) (.inl (by simp [treStep, p]))
  · exact key _ rfl hat (.inl ⟨0, f.i, by simp [treStep, p]⟩) (.inr (.inl ⟨by simp [treStep, p], .inl k⟩))
  · exact key _ rfl hat (.inl ⟨0, f.p, by simp [treStep, p]⟩) (.inr (.inl ⟨by simp [treStep, p], .inl k⟩))
  · exact key _ rfl hat (.inr (by simp [treStep, p])) (.inr (.inl ⟨by simp [treStep, p], k⟩))
  · exact key _ rfl hat (.inl ⟨f.h - 1, endI f.n c.node f.h f.i, by simp [treStep, p]⟩) (.inl (by simp [treStep, p]))
  · exact key _ rfl hat (.inl ⟨f.h, f.i, by simp [treStep, p]⟩) (.inr (.inl ⟨by simp [treStep, p], k⟩))
  · exact key _ rfl hat (.inl ⟨f.h, treUp c f.n f.h, by simp [treStep, p]⟩) (.inr (.inl ⟨by simp [treStep, p], .inr k⟩))
  · exact key _ rfl hat (.inl ⟨0, f.i, by simp [treStep, p]⟩) (.inl (by simp [treStep, p]))
  · exact key _ rfl hat (.inl ⟨0, f.i - 1, by simp [treStep, p]⟩) (.inr (.inl ⟨by simp [treStep, p], .inr k⟩))
  · exact key _ rfl hat (.inl ⟨0, f.n - 1, by simp [treStep, p]⟩) (.inr (.inl ⟨by simp [treStep, p], .inr k⟩))
  · exact key _ rfl hat (.inr (by simp [treStep, p])) (.inr (.inr ⟨by simp [treStep, p], k⟩))
  · exact key _ rfl hat (.inl ⟨0, f.p, by simp [treStep, p]⟩) (.inl (by simp [treStep, p]))
  · omega
/-- An act of a frame: it is the last, or touches what there is, and the frame behind it goes on, with fewer acts to come. -/
theorem tz_goes {c : Cfg} {o : Opn} {f : Frm} (h : TreZ c o f) : (treStep c f).kind = 4 ∨
    ((treStep c f).kind ≠ 4 ∧ 0 ≤ (treStep c f).at' ∧ (treStep c f).at' < treGreat c ∧ ((treStep c f).kind = 1 ∨ ((treStep c f).kind = 2 ∧ (o.kind = 4 ∨ o.kind = 5)) ∨ ((treStep c f).kind = 3 ∧ o.kind = 8)) ∧
      ∀ l : Cel, l.Fits → TreZ c o (treBehind c f l).1 ∧ treRem c (treBehind c f l).1 + 1 ≤ treRem c f) := by
  obtain ⟨hp, ho, hm⟩ := treErr_ok h.err
  have hc := treOk_of hp ho
  obtain ⟨_, has, hnum, hat⟩ := treMay_facts hm
  by_cases hq : f.pc < 20
  · right
    obtain ⟨a1, a2⟩ := step_act has hat hq
    rw [h.kind] at a2
    refine ⟨by omega, hat, a1, a2, fun l hl => ?_⟩
    have b := tz_step h hq l hl
    have hb := treBound hc h.fits hm
    exact ⟨h.new b (behind_fits hc h.fits hl hnum hb.1 hb.2), by have := b.rem; omega⟩
  · exact .inl (step_end (by omega))
theorem tz_start {c : Cfg} {o : Opn} (ho : o.Fits) (he : treErr c (startF o) = 0) : TreZ c o (startF o) ∧ treRem c (startF o) = 1 + (treTop c + 1) * c.node + trePost c o.kind :=
  ⟨⟨he, startF_fits ho, rfl, by simp [startF], inv_of (by simp [startF])⟩, by simp [treRem, startF]⟩
theorem TreZ.small {c : Cfg} {o : Opn} {f : Frm} (h : TreZ c o f) : f.kind ≤ 15 ∧ f.pc ≤ 31 ∧ f.i ≤ 127 ∧ f.j ≤ 127 ∧ f.n ≤ 63 ∧ f.p ≤ 63 ∧ f.h ≤ 7 := by
  obtain ⟨hp, ho, hm⟩ := treErr_ok h.err
  have hc := treOk_of hp ho
  obtain ⟨_, has, hnum, _⟩ := treMay_facts hm
  obtain ⟨m1, m2, m3, m4, m5, m6, m7, m8⟩ := treNum_facts hnum
  have ht := tre_top c
  have hk := treKinds ho hm
  have hi := h.i
  have hcap := hc.cap
  have hck := hc.chunk
  simp only [treHas, Bool.or_eq_true, Bool.and_eq_true, beq_iff_eq] at has
  refine ⟨by omega, by omega, by omega, by omega, by omega, by omega, by omega⟩
theorem lc_all : ∀ n : Fin 33, ∀ w : Fin 5, 2 ≤ w.val → lcI n.val w.val (topI n.val w.val) (topI n.val w.val).toNat ≤ 2 * n.val + 18 := by decide +kernel
theorem treLc_le {c : Cfg} (hc : TreOk c) : treLc c 0 ≤ 2 * c.cap + 18 := by
  obtain ⟨c1, c2⟩ := hc.cap
  have hw := hc.node
  have h := lc_all ⟨c.cap.toNat, by omega⟩ ⟨c.node.toNat, by omega⟩ (by show 2 ≤ c.node.toNat; omega)
  dsimp only at h
  rw [Int.toNat_of_nonneg (by omega : 0 ≤ c.cap), Int.toNat_of_nonneg (by omega : 0 ≤ c.node)] at h
  unfold treLc treTop
  rw [Int.sub_zero]
  exact h
/-- The document's number of acts. -/
def treMost (c : Cfg) (k : Int) : Int := 1 + c.node * (treTop c + 1) + (if k = 7 then 1 else if k = 8 then 2 * c.cap else if k = 4 ∨ k = 5 then 4 * c.cap + 20 else 0)
theorem tre_most {c : Cfg} {o : Opn} (ho : o.Fits) (he : treErr c (startF o) = 0) : treRem c (startF o) ≤ treMost c o.kind ∧ 0 ≤ treMost c o.kind ∧ treMost c o.kind ≤ 1000 := by
  obtain ⟨hp, hob, hm⟩ := treErr_ok he
  have hc := treOk_of hp hob
  have h1 := (tz_start ho he).2
  have h2 := treLc_le hc
  have h3 := treLc_nonneg c 0
  have ht := tre_top c
  have hcap := hc.cap
  have hm : (treTop c + 1) * c.node = c.node * (treTop c + 1) := Int.mul_comm _ _
  have hm2 : 0 ≤ c.node * (treTop c + 1) ∧ c.node * (treTop c + 1) ≤ 20 := by
    rcases hc.node with e | e | e <;> rw [e] <;> omega
  rw [h1]
  unfold treMost trePost
  split
  · omega
  · split
    · omega
    · split <;> omega
end Go.Proofs.YtkklhhdkokncnaaDoor
