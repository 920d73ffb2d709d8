/- Plain: the cells of a set of access rules as rows; no program in sight. -/
import Derived.Test.YtaijkpfgnlkppaaDoorRowsP
import Derived.Test.YtaijkpfgnlkppaaDoorCells
import Derived.Test.YtaijkpfgnlkppaaDoorGateZ
import Derived.Test.YtaijkpfgnlkppaaDoorRulS
import Derived.Test.YtaijkpfgnlkppaaDoorGateT
import Derived.Test.YtaijkpfgnlkppaaDoorRef6b
import Derived.Test.YtaijkpfgnlkppaaDoorLawP
import Derived.Deep.LoopGhost
namespace Go.Proofs.YtaijkpfgnlkppaaDoor
open Go Go.RowKit

def keyC (x : Cel) : Int := x.b * 65536 + x.c
def hitC (x : Cel) (k : Int) : Bool := !(x.a == 0) && keyC x == k
def lookC : List Cel → Int → Option Int
  | [], _ => none
  | x :: L, k => if hitC x k then some x.a else lookC L k
def rowStep (S : List Rw) (x : Cel) : List Rw := if x.a == 0 then S else withK (keyC x) x.a S
def rowsOf (L : List Cel) : List Rw := L.foldl rowStep []
/-- No two cells are of one rule. -/
def Once (L : List Cel) : Prop := L.Pairwise fun x y => x.a ≠ 0 → y.a ≠ 0 → keyC x ≠ keyC y
theorem hitC_iff {x : Cel} {k : Int} : hitC x k = true ↔ x.a ≠ 0 ∧ keyC x = k := by simp [hitC]
theorem hitC_no {x : Cel} {k : Int} (h : hitC x k = false) : ¬ (x.a ≠ 0 ∧ keyC x = k) := fun e => by rw [hitC_iff.2 e] at h; cases h
theorem lookC_cons (x : Cel) (L : List Cel) (k : Int) : lookC (x :: L) k = if hitC x k then some x.a else lookC L k := rfl
theorem lookC_none {L : List Cel} {k : Int} (h : ∀ x ∈ L, hitC x k = false) : lookC L k = none := by
  induction L with
  | nil => rfl
  | cons x L ih =>
    rw [lookC_cons, h x (by simp)]
    exact ih fun y hy => h y (by simp [hy])
theorem lookC_hit {L : List Cel} {k : Int} (h : lookC L k = none) : ∀ x ∈ L, hitC x k = false := by
  induction L with
  | nil => intro x hx; cases hx
  | cons y L ih =>
    intro x hx
    rw [lookC_cons] at h
    cases hy : hitC y k
    · rw [hy] at h
      rcases List.mem_cons.1 hx with rfl | hx
      · exact hy
      · exact ih h x hx
    · rw [hy] at h
      cases h
theorem lookC_mem {L : List Cel} {k v : Int} (h : lookC L k = some v) : ∃ x ∈ L, hitC x k = true ∧ x.a = v := by
  induction L with
  | nil => cases h
  | cons y L ih =>
    rw [lookC_cons] at h
    cases hy : hitC y k
    · rw [hy] at h
      obtain ⟨x, hx, e⟩ := ih h
      exact ⟨x, by simp [hx], e⟩
    · rw [hy] at h
      exact ⟨y, by simp, hy, by simpa using h⟩
theorem once_head {x : Cel} {L : List Cel} (h : Once (x :: L)) {k : Int} (hx : hitC x k = true) : ∀ y ∈ L, hitC y k = false := by
  intro y hy
  have h1 := (List.pairwise_cons.1 h).1 y hy
  obtain ⟨a1, a2⟩ := hitC_iff.1 hx
  cases e : hitC y k
  · rfl
  · obtain ⟨b1, b2⟩ := hitC_iff.1 e
    exact absurd (a2.trans b2.symm) (h1 a1 b1)
theorem lookC_in {L : List Cel} (h : Once L) {k : Int} {x : Cel} (hx : x ∈ L) (hh : hitC x k = true) : lookC L k = some x.a := by
  induction L with
  | nil => cases hx
  | cons y L ih =>
    rw [lookC_cons]
    rcases List.mem_cons.1 hx with rfl | hx
    · rw [hh]
      rfl
    · cases hy : hitC y k
      · exact ih (List.pairwise_cons.1 h).2 hx
      · have := once_head h hy x hx
        rw [hh] at this
        cases this
theorem rises_step (S : List Rw) (x : Cel) (h : Rises S) : Rises (rowStep S x) := by
  unfold rowStep
  split
  · exact h
  · exact rises_withK _ _ h
theorem rises_rows (L : List Cel) : ∀ {S : List Rw}, Rises S → Rises (L.foldl rowStep S) := by
  induction L with
  | nil => intro S h; exact h
  | cons x L ih => intro S h; exact ih (rises_step S x h)
theorem look_fold {L : List Cel} : ∀ {S : List Rw}, Rises S → Once L → (∀ x ∈ L, x.a ≠ 0 → look S (keyC x) = none) →
    (∀ k, look (L.foldl rowStep S) k = (lookC L k).or (look S k)) ∧ (L.foldl rowStep S).length = S.length + (L.filter fun x => !(x.a == 0)).length := by
  induction L with
  | nil => intro S _ _ _; exact ⟨fun k => rfl, rfl⟩
  | cons x L ih =>
    intro S hS hL hn
    have hL2 := (List.pairwise_cons.1 hL).2
    cases ha : (x.a == 0)
    · have ha' : x.a ≠ 0 := by simpa using ha
      have e : rowStep S x = withK (keyC x) x.a S := by simp [rowStep, ha']
      have hx : hitC x (keyC x) = true := hitC_iff.2 ⟨ha', rfl⟩
      have hk := once_head hL hx
      obtain ⟨h1, h2⟩ := ih (S := rowStep S x) (rises_step S x hS) hL2 (fun y hy hy0 => by
        rw [e, look_withK _ _ hS, if_neg (fun c => by have := hk y hy; rw [hitC_iff.2 ⟨hy0, c.symm⟩] at this; cases this)]
        exact hn y (by simp [hy]) hy0)
      refine ⟨fun k => ?_, ?_⟩
      · rw [List.foldl_cons, h1 k, e, look_withK _ _ hS, lookC_cons]
        by_cases hkk : keyC x = k
        · subst hkk
          rw [hx, if_pos rfl, lookC_none hk]
          rfl
        · have : hitC x k = false := by cases q : hitC x k; · rfl
                                        · exact absurd (hitC_iff.1 q).2 hkk
          rw [this, if_neg hkk]
          rfl
      · rw [List.foldl_cons, h2, e, withK_len _ _ (hn x (by simp) ha'), List.filter_cons]
        simp [ha']
        omega
    · have ha' : x.a = 0 := by simpa using ha
      have e : rowStep S x = S := by simp [rowStep, ha']
      have hx : ∀ k, hitC x k = false := fun k => by simp [hitC, ha']
      obtain ⟨h1, h2⟩ := ih (S := S) hS hL2 (fun y hy hy0 => hn y (by simp [hy]) hy0)
      refine ⟨fun k => ?_, ?_⟩
      · rw [List.foldl_cons, e, h1 k, lookC_cons, hx k]
        rfl
      · rw [List.foldl_cons, e, h2, List.filter_cons]
        simp [ha']
theorem rises_nil : Rises ([] : List Rw) := List.Pairwise.nil
theorem rises_of_cells (L : List Cel) : Rises (rowsOf L) := rises_rows L rises_nil
theorem look_rows {L : List Cel} (h : Once L) (k : Int) : look (rowsOf L) k = lookC L k := by
  have := (look_fold (S := []) rises_nil h (fun _ _ _ => rfl)).1 k
  unfold rowsOf
  rw [this, look_nil]
  simp
theorem len_rows {L : List Cel} (h : Once L) : (rowsOf L).length = (L.filter fun x => !(x.a == 0)).length := by
  have := (look_fold (S := []) rises_nil h (fun _ _ _ => rfl)).2
  simpa [rowsOf] using this
theorem lookC_set {L : List Cel} {x' : Cel} (k : Int) : ∀ {j : Nat} (hj : j < L.length), Once L → Once (L.set j x') →
    lookC (L.set j x') k = if hitC x' k then some x'.a else if hitC L[j] k then none else lookC L k := by
  induction L with
  | nil => intro j hj; simp at hj
  | cons y L ih =>
    intro j hj h h2
    cases j with
    | zero =>
      simp only [List.set_cons_zero, lookC_cons, List.getElem_cons_zero]
      cases hx : hitC x' k
      · simp only [Bool.false_eq_true, if_false]
        by_cases hy : hitC y k = true
        · simp [hy, lookC_none (once_head h hy)]
        · simp [hy]
      · rfl
    | succ j =>
      have hj' : j < L.length := by simpa using hj
      simp only [List.set_cons_succ, lookC_cons, List.getElem_cons_succ] at h2 ⊢
      rw [ih hj' (List.pairwise_cons.1 h).2 (List.pairwise_cons.1 h2).2]
      cases hy : hitC y k
      · rfl
      · have e1 := once_head h2 hy x' (List.mem_iff_getElem.2 ⟨j, by simpa using hj', by simp⟩)
        have e2 := once_head h hy L[j] (List.getElem_mem hj')
        simp [e1, e2]
theorem once_set {L : List Cel} {x' : Cel} {j : Nat} (h : Once L) (hx : x'.a ≠ 0 → ∀ i (hi : i < L.length), i ≠ j → hitC L[i] (keyC x') = false) : Once (L.set j x') := by
  unfold Once at h ⊢
  rw [List.pairwise_iff_getElem] at h ⊢
  intro a b ha hb hab
  simp only [List.length_set] at ha hb
  intro h1 h2
  by_cases ea : j = a
  · subst ea
    have eb : j ≠ b := by omega
    rw [List.getElem_set_self] at h1 ⊢
    rw [List.getElem_set_ne eb] at h2 ⊢
    intro e
    have := hx h1 b hb (by omega)
    rw [hitC_iff.2 ⟨h2, e.symm⟩] at this
    cases this
  · rw [List.getElem_set_ne ea] at h1 ⊢
    by_cases eb : j = b
    · subst eb
      rw [List.getElem_set_self] at h2 ⊢
      intro e
      have := hx h2 a ha (by omega)
      rw [hitC_iff.2 ⟨h1, e⟩] at this
      cases this
    · rw [List.getElem_set_ne eb] at h2 ⊢
      exact h a b ha hb hab h1 h2
/-- A rule is put in where it stands, or where nothing stands. -/
theorem rows_put {L : List Cel} {x' : Cel} {j : Nat} (hj : j < L.length) (h : Once L) (ha : x'.a ≠ 0) (hx : ∀ i (hi : i < L.length), i ≠ j → hitC L[i] (keyC x') = false) (hy : L[j].a = 0 ∨ hitC L[j] (keyC x') = true) :
    Once (L.set j x') ∧ rowsOf (L.set j x') = withK (keyC x') x'.a (rowsOf L) := by
  have h2 := once_set (x' := x') h (fun _ => hx)
  refine ⟨h2, rows_ext (rises_of_cells _) (rises_withK _ _ (rises_of_cells _)) fun k => ?_⟩
  rw [look_rows h2, look_withK _ _ (rises_of_cells _), look_rows h, lookC_set k hj h h2]
  by_cases hk : keyC x' = k
  · rw [if_pos hk, if_pos (hitC_iff.2 ⟨ha, hk⟩)]
  · have e : ¬ hitC x' k = true := fun c => hk (hitC_iff.1 c).2
    rw [if_neg hk, if_neg e]
    have e2 : ¬ hitC L[j] k = true := by
      intro c
      obtain ⟨c1, c2⟩ := hitC_iff.1 c
      rcases hy with hy | hy
      · exact c1 hy
      · exact hk ((hitC_iff.1 hy).2.symm.trans c2)
    rw [if_neg e2]
/-- A rule is taken out. -/
theorem rows_drop {L : List Cel} {x' : Cel} {j : Nat} {q : Int} (hj : j < L.length) (h : Once L) (ha : x'.a = 0) (hy : hitC L[j] q = true) :
    Once (L.set j x') ∧ rowsOf (L.set j x') = withoutK q (rowsOf L) := by
  have h2 := once_set (x' := x') (j := j) h (fun c => absurd ha c)
  refine ⟨h2, rows_ext (rises_of_cells _) (rises_withoutK _ (rises_of_cells _)) fun k => ?_⟩
  have e : hitC x' k = false := by simp [hitC, ha]
  rw [look_rows h2, look_withoutK, look_rows h, lookC_set k hj h h2, e]
  simp only [Bool.false_eq_true, if_false]
  obtain ⟨_, c2⟩ := hitC_iff.1 hy
  by_cases hk : q = k
  · subst hk
    rw [hy]
    simp
  · have e2 : ¬ hitC L[j] k = true := fun c => hk (c2.symm.trans (hitC_iff.1 c).2)
    rw [if_neg e2, if_neg hk]
/-- How many rules there are, where a cell is free, and where none is. -/
theorem len_free {L : List Cel} (h : Once L) {j : Nat} (hj : j < L.length) (ha : L[j].a = 0) : (rowsOf L).length < L.length := by
  rw [len_rows h]
  have := List.length_filter_lt_length_iff_exists (p := fun x : Cel => !(x.a == 0)) (l := L)
  exact this.2 ⟨L[j], List.getElem_mem hj, by simp [ha]⟩
theorem len_full {L : List Cel} (h : Once L) (hn : ∀ x ∈ L, x.a ≠ 0) : (rowsOf L).length = L.length := by
  rw [len_rows h, List.filter_eq_self.2 (fun x hx => by simpa using hn x hx)]
theorem len_le {L : List Cel} (h : Once L) : (rowsOf L).length ≤ L.length := by
  rw [len_rows h]
  exact List.length_filter_le _ _
end Go.Proofs.YtaijkpfgnlkppaaDoor
/- Plain: an operation of a set of access rules that is done alone, cell by cell; no program in sight. -/
namespace Go.Proofs.YtaijkpfgnlkppaaDoor
open Go Go.RowKit

abbrev zcl : Cel := ⟨0, 0, 0, 0⟩
/-- What is written. -/
def wrC (f : Frm) : Cel := if f.kind == 9 then ⟨0, f.y, f.a, f.b⟩ else ⟨0, 0, 0, 0⟩
theorem in_next {c : Cfg} {o : Opn} {f : Frm} (h : GateIn c o f) (hp : f.pc = 0 ∨ f.pc = 2) {l : Cel} (hl : l.Fits) : GateIn c o (gateBehind c f l) := by
  have h4 : ¬ (gateStep f).kind = 4 := by
    rcases hp with p | p
    · simp [gateStep, p]
    · simp [gateStep, p]
      split <;> simp
  exact (((gate_goes h).resolve_left h4).2.2.2.2 l hl).1
theorem in_cap {c : Cfg} {o : Opn} {f : Frm} (h : GateIn c o f) : f.i < c.cap ∧ f.j < c.cap := by
  obtain ⟨_, _, _, _, hi, hj, _, _⟩ := h.facts
  exact ⟨hi, hj⟩
theorem run_seek {c : Cfg} {o : Opn} {f : Frm} {L : List Cel} (h : GateIn c o f) (h0 : f.pc = 0) (hl : (L.length : Int) = c.cap) (k : Nat) (r n : Int) :
    gateRun c (k + 1) f L r n = gateRun c k (gateSeek c f (L.getD f.i.toNat zcl)) L (r + 1) n := by
  have hs : gateStep f = ⟨1, f.i, 0, 0, 0, 0, 0⟩ := by simp [gateStep, h0]
  have hi := (in_cap h).1
  rw [gateRun_read k L r n h.err (by rw [hs]; rfl) (by rw [hs]; exact h.fits.i.1) (by rw [hs]; show f.i < _; omega) (by rw [hs]; rfl), hs, gateAfter_yes (by rw [h.err]; rfl)]
  simp [gateBehind, h0]
theorem run_end {c : Cfg} {o : Opn} {f : Frm} (h : GateIn c o f) (k : Nat) (L : List Cel) (r n : Int) :
    (f.pc = 20 → gateRun c (k + 1) f L r n = ⟨L, 0, f.x, r, n, true⟩) ∧ (f.pc = 21 → gateRun c (k + 1) f L r n = ⟨L, 6, 0, r, n, true⟩) ∧ (f.pc = 22 → gateRun c (k + 1) f L r n = ⟨L, 9, 0, r, n, true⟩) := by
  refine ⟨fun p => ?_, fun p => ?_, fun p => ?_⟩
  · have hs : gateStep f = ⟨4, 0, 0, 0, 0, 0, f.x⟩ := by simp [gateStep, p]
    rw [gateRun_done k L r n h.err (by rw [hs]; rfl), hs]
  · have hs : gateStep f = ⟨4, 0, 0, 0, 0, 6, 0⟩ := by simp [gateStep, p]
    rw [gateRun_done k L r n h.err (by rw [hs]; rfl), hs]
  · have hs : gateStep f = ⟨4, 0, 0, 0, 0, 9, 0⟩ := by simp [gateStep, p]
    rw [gateRun_done k L r n h.err (by rw [hs]; rfl), hs]
theorem wr_fits {f : Frm} (h : f.Fits) : (wrC f).Fits := by
  have := h.y; have := h.a; have := h.b
  unfold wrC
  split
  · exact ⟨by dsimp only; omega, by dsimp only; omega, by dsimp only; omega, by dsimp only; omega⟩
  · exact ⟨by simp, by simp, by simp, by simp⟩
theorem run_write {c : Cfg} {o : Opn} {f : Frm} {L : List Cel} (h : GateIn c o f) (h2 : f.pc = 2) (hl : (L.length : Int) = c.cap) (k : Nat) (r n : Int) :
    gateRun c (k + 2) f L r n = ⟨L.set f.j.toNat (wrC f), 0, f.x, r, n + 1, true⟩ := by
  have hj := (in_cap h).2
  have hs : (gateStep f).kind = 2 ∧ (gateStep f).at' = f.j ∧ Cel.mk 0 (gateStep f).a (gateStep f).b (gateStep f).c = wrC f := by
    unfold wrC
    by_cases k9 : f.kind = 9
    · simp [gateStep, h2, k9]
    · simp [gateStep, h2, k9]
  rw [gateRun_write (k + 1) L r n h.err (by rw [hs.1]; rfl) (by rw [hs.2.1]; exact h.fits.j.1) (by rw [hs.2.1]; omega) (by rw [hs.1]; rfl), hs.2.1, hs.2.2, gateAfter_yes (by rw [h.err]; rfl)]
  have hn := in_next h (.inr h2) (wr_fits h.fits)
  have e : gateBehind c f (wrC f) = { f with pc := 20 } := by simp [gateBehind, h2]
  rw [e] at hn ⊢
  exact (run_end hn k _ r (n + 1)).1 rfl
theorem getD_at {L : List Cel} {i : Nat} (h : i < L.length) : L.getD i zcl = L[i] := by simp [h]
/-- A cell that may lie there. -/
def okC (x : Cel) : Prop := x.a = 0 ∨ ((x.a = 1 ∨ x.a = 2) ∧ (0 ≤ x.b ∧ x.b ≤ 65535) ∧ (0 ≤ x.c ∧ x.c ≤ 65535))
theorem there_hit {f : Frm} {x : Cel} (hx : okC x) (_ha : 0 ≤ f.a ∧ f.a ≤ 65535) (hb : 0 ≤ f.b ∧ f.b ≤ 65535) : gateThere f x = hitC x (f.a * 65536 + f.b) := by
  unfold gateThere hitC keyC
  rcases hx with e | ⟨e, e1, e2⟩
  · simp [e]
  · rw [Bool.eq_iff_iff]
    simp
    omega
/-- The cell of the rule is found. -/
theorem scan_hit {c : Cfg} {o : Opn} {L : List Cel} (hl : (L.length : Int) = c.cap) (hf : CelsFit L) (hok : ∀ x ∈ L, okC x) {t : Nat} (ht : t < L.length) (m : Nat) :
    ∀ (f : Frm) (i fuel : Nat) (r n : Int), GateIn c o f → f.pc = 0 → f.kind ≠ 11 → (0 ≤ f.a ∧ f.a ≤ 65535) → (0 ≤ f.b ∧ f.b ≤ 65535) → f.i = i → i + m = t → (∀ s (hs : s < L.length), i ≤ s → s < t → hitC L[s] (f.a * 65536 + f.b) = false) →
      hitC L[t] (f.a * 65536 + f.b) = true → m + 3 ≤ fuel → ∃ r', gateRun c fuel f L r n = ⟨L.set t (wrC f), 0, L[t].a, r', n + 1, true⟩ := by
  induction m with
  | zero =>
    intro f i fuel r n h h0 hk ha hb hi him _ hh hfu
    obtain rfl : i = t := by omega
    (obtain ⟨k, rfl⟩ : ∃ k, fuel = k + 1 := ⟨fuel - 1, by omega⟩; rw [run_seek h h0 hl])
    have e1 : L.getD f.i.toNat zcl = L[i] := by rw [hi, Int.toNat_natCast, getD_at ht]
    have hx := hok L[i] (List.getElem_mem ht)
    have e2 : gateSeek c f L[i] = { f with x := L[i].a % 4294967296, j := f.i, pc := 2 } := by
      have h11 : (f.kind == 11) = false := by simpa using hk
      simp only [gateSeek, h11, there_hit hx ha hb, hh, Bool.false_eq_true, if_false, if_true]
    have hn := in_next h (.inl h0) (hf L[i] (List.getElem_mem ht))
    have e3 : gateBehind c f L[i] = gateSeek c f L[i] := by simp [gateBehind, h0]
    rw [e3, e2] at hn
    rw [e1, e2]
    obtain ⟨k, rfl⟩ : ∃ k', k = k' + 2 := ⟨k - 2, by omega⟩
    refine ⟨r + 1, ?_⟩
    rw [run_write hn rfl hl]
    have e4 : L[i].a % 4294967296 = L[i].a := by rcases hx with e | e <;> omega
    have e5 : f.i.toNat = i := by omega
    have e6 : wrC { f with x := L[i].a % 4294967296, j := f.i, pc := 2 } = wrC f := rfl
    rw [e6]
    simp only [e4, e5]
  | succ m ih =>
    intro f i fuel r n h h0 hk ha hb hi him hs hh hfu
    have hil : i < L.length := by omega
    (obtain ⟨k, rfl⟩ : ∃ k, fuel = k + 1 := ⟨fuel - 1, by omega⟩; rw [run_seek h h0 hl])
    have e1 : L.getD f.i.toNat zcl = L[i] := by rw [hi, Int.toNat_natCast, getD_at hil]
    have hx := hok L[i] (List.getElem_mem hil)
    have hn := in_next h (.inl h0) (hf L[i] (List.getElem_mem hil))
    have e3 : gateBehind c f L[i] = gateSeek c f L[i] := by simp [gateBehind, h0]
    have h11 : (f.kind == 11) = false := by simpa using hk
    have hno := hs i hil (Nat.le_refl _) (by omega)
    have hmore : ∀ g : Frm, g.i = f.i → gateMore c g = { g with i := g.i + 1 } := fun g hg => by
      have : ¬ g.i + 1 = c.cap := by omega
      simp [gateMore, this]
    rw [e1]
    rw [e3] at hn
    by_cases hc : (f.kind == 9 && L[i].a == 0 && f.h == 0) = true
    · have e2 : gateSeek c f L[i] = { f with j := f.i, h := 1, i := f.i + 1 } := by
        simp only [gateSeek, h11, there_hit hx ha hb, hno, hc, Bool.false_eq_true, if_false, if_true]
        rw [hmore { f with j := f.i, h := 1 } rfl]
      rw [e2] at hn ⊢
      obtain ⟨r', hr⟩ := ih _ (i + 1) k (r + 1) n hn h0 hk ha hb (by dsimp only; omega) (by omega) (fun s hs1 hs2 hs3 => hs s hs1 (by omega) hs3) hh (by omega)
      exact ⟨r', hr⟩
    · have e2 : gateSeek c f L[i] = { f with i := f.i + 1 } := by
        simp only [gateSeek, h11, there_hit hx ha hb, hno, hc, Bool.false_eq_true, if_false]
        rw [hmore f rfl]
      rw [e2] at hn ⊢
      obtain ⟨r', hr⟩ := ih _ (i + 1) k (r + 1) n hn h0 hk ha hb (by dsimp only; omega) (by omega) (fun s hs1 hs2 hs3 => hs s hs1 (by omega) hs3) hh (by omega)
      exact ⟨r', hr⟩
/-- What comes of a frame that has read all, and found none. -/
def endR (L : List Cel) (f : Frm) : Option Nat → Int × List Cel
  | some j => (0, L.set j (wrC f))
  | none => (9, L)
/-- The cell that a rule is put into that stands nowhere: the one that was noted, or the first that is free. -/
def freeC (f : Frm) (L : List Cel) (i : Nat) : Option Nat := if f.h = 1 then some f.j.toNat else (L.drop i).findIdx? (fun x => x.a == 0) |>.map (· + i)
/-- The rule is not found. -/
theorem scan_none {c : Cfg} {o : Opn} {L : List Cel} (hl : (L.length : Int) = c.cap) (hf : CelsFit L) (hok : ∀ x ∈ L, okC x) (m : Nat) :
    ∀ (f : Frm) (i fuel : Nat) (r n : Int), GateIn c o f → f.pc = 0 → (f.kind = 9 ∨ f.kind = 10) → (0 ≤ f.a ∧ f.a ≤ 65535) → (0 ≤ f.b ∧ f.b ≤ 65535) → f.i = i → i + m + 1 = L.length → (∀ s (hs : s < L.length), i ≤ s → hitC L[s] (f.a * 65536 + f.b) = false) →
      m + 4 ≤ fuel → ∃ r' n', gateRun c fuel f L r n = (if f.kind = 9 then ⟨(endR L f (freeC f L i)).2, (endR L f (freeC f L i)).1, 0, r', n', true⟩ else ⟨L, 6, 0, r', n', true⟩) := by
  induction m with
  | zero =>
    intro f i fuel r n h h0 hk ha hb hi him hs hfu
    have hil : i < L.length := by omega
    (obtain ⟨k, rfl⟩ : ∃ k, fuel = k + 1 := ⟨fuel - 1, by omega⟩; rw [run_seek h h0 hl])
    have e1 : L.getD f.i.toNat zcl = L[i] := by rw [hi, Int.toNat_natCast, getD_at hil]
    have hx := hok L[i] (List.getElem_mem hil)
    have hn := in_next h (.inl h0) (hf L[i] (List.getElem_mem hil))
    have e3 : gateBehind c f L[i] = gateSeek c f L[i] := by simp [gateBehind, h0]
    have h11 : (f.kind == 11) = false := by rcases hk with e | e <;> simp [e]
    have hno := hs i hil (Nat.le_refl _)
    have hmore : ∀ g : Frm, g.i = f.i → gateMore c g = gateOver g := fun g hg => by
      have : g.i + 1 = c.cap := by omega
      simp [gateMore, this]
    have hdrop : L.drop i = [L[i]] := by
      rw [List.drop_eq_getElem_cons hil, List.drop_eq_nil_of_le (by omega)]
    rw [e1]
    rw [e3] at hn
    obtain ⟨k, rfl⟩ : ∃ k', k = k' + 2 := ⟨k - 2, by omega⟩
    rcases hk with k9 | k10
    · simp only [if_pos k9]
      have b9 : (f.kind == 9) = true := by simp [k9]
      by_cases hh1 : f.h = 1
      · have e2 : gateSeek c f L[i] = { f with x := 0, pc := 2 } := by
          have : (f.h == 0) = false := by simp [hh1]
          simp only [gateSeek, h11, there_hit hx ha hb, hno, this, Bool.and_false, Bool.false_eq_true, if_false]
          rw [hmore f rfl]
          simp [gateOver, k9, hh1]
        rw [e2] at hn ⊢
        rw [run_write hn rfl hl]
        exact ⟨r + 1, n + 1, by simp [endR, freeC, hh1]; rfl⟩
      · have hh0 : f.h = 0 := by
          obtain ⟨_, _, _, _, _, _, hh, _⟩ := h.facts
          have := h.fits.h.1
          omega
        cases ha0 : (L[i].a == 0)
        · have e2 : gateSeek c f L[i] = { f with x := 0, pc := 22 } := by
            simp only [gateSeek, h11, there_hit hx ha hb, hno, ha0, Bool.and_false, Bool.false_and, Bool.false_eq_true, if_false]
            rw [hmore f rfl]
            simp [gateOver, k9, hh0]
          rw [e2] at hn ⊢
          refine ⟨r + 1, n, ?_⟩
          rw [(run_end hn (k + 1) L (r + 1) n).2.2 rfl]
          simp [endR, freeC, hh0, hdrop, List.findIdx?_cons, ha0]
        · have e2 : gateSeek c f L[i] = { f with j := f.i, h := 1, x := 0, pc := 2 } := by
            have : (f.h == 0) = true := by simp [hh0]
            simp only [gateSeek, h11, there_hit hx ha hb, hno, ha0, b9, this, Bool.and_true, Bool.false_eq_true, if_false, if_true]
            rw [hmore { f with j := f.i, h := 1 } rfl]
            simp [gateOver, k9]
          rw [e2] at hn ⊢
          rw [run_write hn rfl hl]
          refine ⟨r + 1, n + 1, ?_⟩
          have e5 : f.i.toNat = i := by omega
          simp [endR, freeC, hh0, hdrop, List.findIdx?_cons, ha0, e5]
          rfl
    · have n9 : ¬ f.kind = 9 := by omega
      simp only [if_neg n9]
      have b9 : (f.kind == 9) = false := by simp [k10]
      have e2 : gateSeek c f L[i] = { f with pc := 21 } := by
        simp only [gateSeek, h11, there_hit hx ha hb, hno, b9, Bool.false_and, Bool.false_eq_true, if_false]
        rw [hmore f rfl]
        simp [gateOver, k10]
      rw [e2] at hn ⊢
      exact ⟨r + 1, n, (run_end hn (k + 1) L (r + 1) n).2.1 rfl⟩
  | succ m ih =>
    intro f i fuel r n h h0 hk ha hb hi him hs hfu
    have hil : i < L.length := by omega
    (obtain ⟨k, rfl⟩ : ∃ k, fuel = k + 1 := ⟨fuel - 1, by omega⟩; rw [run_seek h h0 hl])
    have e1 : L.getD f.i.toNat zcl = L[i] := by rw [hi, Int.toNat_natCast, getD_at hil]
    have hx := hok L[i] (List.getElem_mem hil)
    have hn := in_next h (.inl h0) (hf L[i] (List.getElem_mem hil))
    have e3 : gateBehind c f L[i] = gateSeek c f L[i] := by simp [gateBehind, h0]
    have h11 : (f.kind == 11) = false := by rcases hk with e | e <;> simp [e]
    have hno := hs i hil (Nat.le_refl _)
    have hmore : ∀ g : Frm, g.i = f.i → gateMore c g = { g with i := g.i + 1 } := fun g hg => by
      have : ¬ g.i + 1 = c.cap := by omega
      simp [gateMore, this]
    have hdrop : L.drop i = L[i] :: L.drop (i + 1) := List.drop_eq_getElem_cons hil
    rw [e1]
    rw [e3] at hn
    by_cases hc : (f.kind == 9 && L[i].a == 0 && f.h == 0) = true
    · have e2 : gateSeek c f L[i] = { f with j := f.i, h := 1, i := f.i + 1 } := by
        simp only [gateSeek, h11, there_hit hx ha hb, hno, hc, Bool.false_eq_true, if_false, if_true]
        rw [hmore { f with j := f.i, h := 1 } rfl]
      rw [e2] at hn ⊢
      obtain ⟨r', n', hr⟩ := ih _ (i + 1) k (r + 1) n hn h0 hk ha hb (by dsimp only; omega) (by omega) (fun s hs1 hs2 => hs s hs1 (by omega)) (by omega)
      refine ⟨r', n', ?_⟩
      rw [hr]
      simp only [Bool.and_eq_true, beq_iff_eq] at hc
      have e5 : f.i.toNat = i := by omega
      have e6 : freeC { f with j := f.i, h := 1, i := f.i + 1 } L (i + 1) = freeC f L i := by
        have q1 : freeC { f with j := f.i, h := 1, i := f.i + 1 } L (i + 1) = some i := by
          unfold freeC
          rw [if_pos rfl]
          exact congrArg some e5
        have q2 : (L[i].a == 0) = true := by simp [hc.1.2]
        rw [q1]
        unfold freeC
        rw [if_neg (by omega), hdrop, List.findIdx?_cons, if_pos q2]
        simp
      rw [e6]
      rfl
    · have e2 : gateSeek c f L[i] = { f with i := f.i + 1 } := by
        simp only [gateSeek, h11, there_hit hx ha hb, hno, hc, Bool.false_eq_true, if_false]
        rw [hmore f rfl]
      rw [e2] at hn ⊢
      obtain ⟨r', n', hr⟩ := ih _ (i + 1) k (r + 1) n hn h0 hk ha hb (by dsimp only; omega) (by omega) (fun s hs1 hs2 => hs s hs1 (by omega)) (by omega)
      refine ⟨r', n', ?_⟩
      rw [hr]
      by_cases k9 : f.kind = 9
      · have e6 : freeC { f with i := f.i + 1 } L (i + 1) = freeC f L i := by
          unfold freeC
          by_cases hh1 : f.h = 1
          · simp [hh1]
          · have hh0 : f.h = 0 := by
              obtain ⟨_, _, _, _, _, _, hh, _⟩ := h.facts
              have := h.fits.h.1
              omega
            have ha0 : (L[i].a == 0) = false := by
              cases q : (L[i].a == 0)
              · rfl
              · exact absurd (by simp [k9, q, hh0]) hc
            have n1 : ¬ f.h = 1 := by omega
            rw [if_neg n1, if_neg n1, hdrop, List.findIdx?_cons, ha0]
            cases (L.drop (i + 1)).findIdx? (fun x => x.a == 0) with
            | none => rfl
            | some y =>
              simp
              omega
        rw [e6]
        rfl
      · rw [if_neg (by dsimp only; exact k9), if_neg k9]
end Go.Proofs.YtaijkpfgnlkppaaDoor
/- Plain: done alone, an operation of a set of access rules leaves, and answers, what the model says; no program in sight. -/
namespace Go.Proofs.YtaijkpfgnlkppaaDoor
open Go Go.RowKit

def speakC (a b : Int) (l : Cel) : Bool := !(l.a == 0) && (l.b == 0 || l.b == a) && (l.c == 0 || l.c == b)
def sayC (a b : Int) : List Cel → Int → Int
  | [], x => x
  | l :: L, x => if speakC a b l then (if l.a == 2 then 2 else sayC a b L 1) else sayC a b L x
theorem scan_check {c : Cfg} {o : Opn} {L : List Cel} (hl : (L.length : Int) = c.cap) (hf : CelsFit L) (m : Nat) :
    ∀ (f : Frm) (i fuel : Nat) (r n : Int), GateIn c o f → f.pc = 0 → f.kind = 11 → f.i = i → i + m + 1 = L.length → m + 3 ≤ fuel →
      ∃ r', gateRun c fuel f L r n = ⟨L, 0, sayC f.a f.b (L.drop i) f.x, r', n, true⟩ := by
  induction m with
  | zero =>
    intro f i fuel r n h h0 hk hi him hfu
    have hil : i < L.length := by omega
    obtain ⟨k, rfl⟩ : ∃ k, fuel = k + 2 := ⟨fuel - 2, by omega⟩
    rw [run_seek h h0 hl]
    have e1 : L.getD f.i.toNat zcl = L[i] := by rw [hi, Int.toNat_natCast, getD_at hil]
    have hn := in_next h (.inl h0) (hf L[i] (List.getElem_mem hil))
    have e3 : gateBehind c f L[i] = gateSeek c f L[i] := by simp [gateBehind, h0]
    have hmore : ∀ g : Frm, g.i = f.i → g.kind = 11 → gateMore c g = { g with pc := 20 } := fun g hg hk => by
      have : g.i + 1 = c.cap := by omega
      simp [gateMore, this, gateOver, hk]
    have hdrop : L.drop i = [L[i]] := by
      rw [List.drop_eq_getElem_cons hil, List.drop_eq_nil_of_le (by omega)]
    have hsp : gateSpeaks f L[i] = speakC f.a f.b L[i] := rfl
    rw [e1]
    rw [e3] at hn
    refine ⟨r + 1, ?_⟩
    have h11 : (f.kind == 11) = true := by simp [hk]
    cases hs : speakC f.a f.b L[i]
    · have e2 : gateSeek c f L[i] = { f with pc := 20 } := by
        simp only [gateSeek, h11, hsp, hs, Bool.false_eq_true, if_false, if_true]
        exact hmore f rfl hk
      rw [e2] at hn ⊢
      rw [(run_end hn k L (r + 1) n).1 rfl, hdrop]
      simp [sayC, hs]
    · cases h2 : (L[i].a == 2)
      · have e2 : gateSeek c f L[i] = { f with x := 1, pc := 20 } := by
          simp only [gateSeek, h11, hsp, hs, h2, Bool.false_eq_true, if_false, if_true]
          exact hmore { f with x := 1 } rfl hk
        rw [e2] at hn ⊢
        rw [(run_end hn k L (r + 1) n).1 rfl, hdrop]
        simp [sayC, hs, h2]
      · have e2 : gateSeek c f L[i] = { f with x := 2, pc := 20 } := by
          simp only [gateSeek, h11, hsp, hs, h2, if_true]
        rw [e2] at hn ⊢
        rw [(run_end hn k L (r + 1) n).1 rfl, hdrop]
        simp [sayC, hs, h2]
  | succ m ih =>
    intro f i fuel r n h h0 hk hi him hfu
    have hil : i < L.length := by omega
    obtain ⟨k, rfl⟩ : ∃ k, fuel = k + 2 := ⟨fuel - 2, by omega⟩
    rw [run_seek h h0 hl]
    have e1 : L.getD f.i.toNat zcl = L[i] := by rw [hi, Int.toNat_natCast, getD_at hil]
    have hn := in_next h (.inl h0) (hf L[i] (List.getElem_mem hil))
    have e3 : gateBehind c f L[i] = gateSeek c f L[i] := by simp [gateBehind, h0]
    have hmore : ∀ g : Frm, g.i = f.i → gateMore c g = { g with i := g.i + 1 } := fun g hg => by
      have : ¬ g.i + 1 = c.cap := by omega
      simp [gateMore, this]
    have hdrop : L.drop i = L[i] :: L.drop (i + 1) := List.drop_eq_getElem_cons hil
    have hsp : gateSpeaks f L[i] = speakC f.a f.b L[i] := rfl
    rw [e1]
    rw [e3] at hn
    have h11 : (f.kind == 11) = true := by simp [hk]
    cases hs : speakC f.a f.b L[i]
    · have e2 : gateSeek c f L[i] = { f with i := f.i + 1 } := by
        simp only [gateSeek, h11, hsp, hs, Bool.false_eq_true, if_false, if_true]
        exact hmore f rfl
      rw [e2] at hn ⊢
      obtain ⟨r', hr⟩ := ih _ (i + 1) (k + 1) (r + 1) n hn h0 hk (by dsimp only; omega) (by omega) (by omega)
      refine ⟨r', ?_⟩
      rw [hr, hdrop, sayC, hs]
      rfl
    · cases h2 : (L[i].a == 2)
      · have e2 : gateSeek c f L[i] = { f with x := 1, i := f.i + 1 } := by
          simp only [gateSeek, h11, hsp, hs, h2, Bool.false_eq_true, if_false, if_true]
          exact hmore { f with x := 1 } rfl
        rw [e2] at hn ⊢
        obtain ⟨r', hr⟩ := ih _ (i + 1) (k + 1) (r + 1) n hn h0 hk (by dsimp only; omega) (by omega) (by omega)
        refine ⟨r', ?_⟩
        rw [hr, hdrop, sayC, hs, h2]
        rfl
      · have e2 : gateSeek c f L[i] = { f with x := 2, pc := 20 } := by
          simp only [gateSeek, h11, hsp, hs, h2, if_true]
        rw [e2] at hn ⊢
        refine ⟨r + 1, ?_⟩
        rw [(run_end hn k L (r + 1) n).1 rfl, hdrop, sayC, hs, h2]
        rfl
theorem sayC_of {L : List Cel} (hok : ∀ x ∈ L, okC x) (a b : Int) : ∀ x : Int, ((∃ l ∈ L, speakC a b l = true ∧ l.a = 2) → sayC a b L x = 2) ∧ (¬ (∃ l ∈ L, speakC a b l = true ∧ l.a = 2) → (∃ l ∈ L, speakC a b l = true ∧ l.a = 1) → sayC a b L x = 1) ∧
    (¬ (∃ l ∈ L, speakC a b l = true ∧ l.a = 2) → ¬ (∃ l ∈ L, speakC a b l = true ∧ l.a = 1) → sayC a b L x = x) := by
  induction L with
  | nil => intro x; exact ⟨fun ⟨l, hl, _⟩ => (by cases hl), fun _ ⟨l, hl, _⟩ => (by cases hl), fun _ _ => rfl⟩
  | cons y L ih =>
    intro x
    have ih' := ih (fun z hz => hok z (by simp [hz]))
    have hy := hok y (by simp)
    unfold sayC
    cases hs : speakC a b y
    · obtain ⟨h1, h2, h3⟩ := ih' x
      have key : ∀ v : Int, (∃ l ∈ y :: L, speakC a b l = true ∧ l.a = v) ↔ (∃ l ∈ L, speakC a b l = true ∧ l.a = v) := fun v => by simp [hs]
      rw [key 2, key 1]
      exact ⟨h1, h2, h3⟩
    · have hya : y.a = 1 ∨ y.a = 2 := by
        rcases hy with e | e
        · simp [speakC, e] at hs
        · exact e.1
      rcases hya with e | e
      · obtain ⟨h1, h2, h3⟩ := ih' 1
        have key : (∃ l ∈ y :: L, speakC a b l = true ∧ l.a = 2) ↔ (∃ l ∈ L, speakC a b l = true ∧ l.a = 2) := by simp [e]
        have k2 : (y.a == 2) = false := by simp [e]
        rw [key, k2]
        refine ⟨h1, fun n2 _ => ?_, fun _ n1 => absurd ⟨y, by simp, hs, e⟩ n1⟩
        by_cases q : ∃ l ∈ L, speakC a b l = true ∧ l.a = 1
        · exact h2 n2 q
        · exact h3 n2 q
      · have k2 : (y.a == 2) = true := by simp [e]
        rw [k2]
        exact ⟨fun _ => rfl, fun n2 _ => absurd ⟨y, by simp, hs, e⟩ n2, fun n2 _ => absurd ⟨y, by simp, hs, e⟩ n2⟩
theorem look_iff {S : List Rw} (h : Rises S) {x : Rw} : x ∈ S ↔ look S x.k = some x.v := by
  induction S with
  | nil => simp [look_nil]
  | cons y S ih =>
    obtain ⟨hy, hS⟩ := List.pairwise_cons.1 h
    rw [look_cons]
    constructor
    · intro hx
      rcases List.mem_cons.1 hx with rfl | hx
      · simp
      · have : (y.k == x.k) = false := by have := hy x hx; simp; omega
        rw [this]
        exact (ih hS).1 hx
    · intro hx
      cases e : (y.k == x.k)
      · rw [e] at hx
        exact List.mem_cons_of_mem _ ((ih hS).2 hx)
      · rw [e] at hx
        have e1 : y.k = x.k := by simpa using e
        have e2 : y.v = x.v := by simpa using hx
        have : x = y := by cases x; cases y; simp_all
        simp [this]
theorem key_parts {x : Cel} (h : (0 ≤ x.b ∧ x.b ≤ 65535) ∧ (0 ≤ x.c ∧ x.c ≤ 65535)) : keyC x / 65536 = x.b ∧ keyC x % 65536 = x.c := by
  unfold keyC
  omega
theorem speaks_cel {x : Cel} (hx : okC x) (h0 : x.a ≠ 0) (a b : Int) : speakC a b x = rules.speaksB (keyC x) a b := by
  rcases hx with e | ⟨_, e⟩
  · exact absurd e h0
  · obtain ⟨e1, e2⟩ := key_parts e
    have : (x.a == 0) = false := by simpa using h0
    simp [speakC, rules.speaksB, e1, e2, this]
theorem tells_rows {L : List Cel} (h : Once L) (hok : ∀ x ∈ L, okC x) (a b v : Int) : rules.Tells (rowsOf L) a b v ↔ ∃ l ∈ L, speakC a b l = true ∧ l.a = v := by
  constructor
  · rintro ⟨x, hx, hs, hv⟩
    have h1 := (look_iff (rises_of_cells L)).1 hx
    rw [look_rows h] at h1
    obtain ⟨y, hy, hh, ha⟩ := lookC_mem h1
    obtain ⟨a0, ak⟩ := hitC_iff.1 hh
    refine ⟨y, hy, ?_, ha.trans hv⟩
    rw [speaks_cel (hok y hy) a0, ak]
    exact hs
  · rintro ⟨y, hy, hs, hv⟩
    have a0 : y.a ≠ 0 := by intro e; simp [speakC, e] at hs
    refine ⟨⟨keyC y, y.a⟩, (look_iff (rises_of_cells L)).2 ?_, ?_, hv⟩
    · rw [look_rows h]
      exact lookC_in h hy (hitC_iff.2 ⟨a0, rfl⟩)
    · rw [← speaks_cel (hok y hy) a0]
      exact hs
theorem rows_ok {L : List Cel} (h : Once L) (hok : ∀ x ∈ L, okC x) : ∀ x ∈ rowsOf L, rules.RuleOk x := by
  intro x hx
  have h1 := (look_iff (rises_of_cells L)).1 hx
  rw [look_rows h] at h1
  obtain ⟨y, hy, hh, ha⟩ := lookC_mem h1
  obtain ⟨a0, ak⟩ := hitC_iff.1 hh
  unfold rules.RuleOk
  unfold keyC at ak
  rcases hok y hy with e | ⟨e1, e2, e3⟩
  · exact absurd e a0
  · omega
theorem say_rows {L : List Cel} (h : Once L) (hok : ∀ x ∈ L, okC x) (a b : Int) : sayC a b L 0 = rules.rulesSay (rowsOf L) a b := by
  obtain ⟨h1, h2, h3⟩ := sayC_of hok a b 0
  obtain ⟨g1, g2, g3⟩ := rules.say_of (rows_ok h hok) a b
  rw [tells_rows h hok, tells_rows h hok] at g2 g3
  rw [tells_rows h hok] at g1
  by_cases q2 : ∃ l ∈ L, speakC a b l = true ∧ l.a = 2
  · rw [h1 q2, g1 q2]
  · by_cases q1 : ∃ l ∈ L, speakC a b l = true ∧ l.a = 1
    · rw [h2 q2 q1, g2 q2 q1]
    · rw [h3 q2 q1, g3 q2 q1]
theorem once_idx {L : List Cel} (h : Once L) {k : Int} {t : Nat} (ht : t < L.length) (hh : hitC L[t] k = true) {s : Nat} (hs : s < L.length) (hne : s ≠ t) : hitC L[s] k = false := by
  cases q : hitC L[s] k
  · rfl
  · obtain ⟨a1, a2⟩ := hitC_iff.1 hh
    obtain ⟨b1, b2⟩ := hitC_iff.1 q
    unfold Once at h
    rw [List.pairwise_iff_getElem] at h
    rcases Nat.lt_or_gt_of_ne hne with hlt | hgt
    · exact absurd (b2.trans a2.symm) (h s t hs ht hlt b1 a1)
    · exact absurd (a2.trans b2.symm) (h t s ht hs hgt a1 b1)
/-- Cells of a set of access rules. -/
structure CelsOk (c : Cfg) (L : List Cel) : Prop where
  len : (L.length : Int) = c.cap
  fit : CelsFit L
  ok : ∀ x ∈ L, okC x
  once : Once L
theorem CelsOk.set {c : Cfg} {L : List Cel} (h : CelsOk c L) {j : Nat} {x : Cel} (hx : x.Fits) (hk : okC x) (ho : Once (L.set j x)) : CelsOk c (L.set j x) :=
  ⟨by rw [List.length_set]; exact h.len, h.fit.set j hx, fun y hy => by
    rcases List.mem_or_eq_of_mem_set hy with hy | rfl
    · exact h.ok y hy
    · exact hk, ho⟩
theorem gate_start_in {c : Cfg} {o : Opn} (ho : o.Fits) (hp : partOk c = true) (h3 : c.object = 3) (he : opErr c o = 0) : GateIn c o (startF o) ∧ (o.kind = 9 ∨ o.kind = 10 ∨ o.kind = 11) ∧ fitsB c o = true := by
  obtain ⟨_, hk, hft⟩ := rules.rules_kind h3 (by simp [he] : (opErr c o == 0) = true)
  refine ⟨(gate_start ho (gateErr_yes hp (by simp [h3]) ?_)).1, hk, hft⟩
  have hcap := cap_of_part hp
  have e : gateOp (startF o) = o := by
    obtain ⟨k, a, b, c'⟩ := o
    rcases hk with q | q | q
    · simp only at q
      simp [gateOp, startF, q]
    · simp only at q
      have : c' = 0 := by simp [fitsB, q] at hft; exact hft.1.1
      simp [gateOp, startF, q, this]
    · simp only at q
      have : c' = 0 := by simp [fitsB, q] at hft; exact hft.1.1.1.1
      simp [gateOp, startF, q, this]
  unfold gateMay
  rw [e]
  have hc0 : decide (0 < c.cap) = true := decide_eq_true (by omega)
  simp [he, gatePc, startF]
  exact ⟨hc0, hc0⟩
/-- THE STAGE'S THEOREM, of one operation. -/
theorem gate_means {c : Cfg} {o : Opn} {L : List Cel} (ho : o.Fits) (hp : partOk c = true) (h3 : c.object = 3) (he : opErr c o = 0) (hL : CelsOk c L) :
    (gateRun c 80 (startF o) L 0 0).ok = true ∧ (gateRun c 80 (startF o) L 0 0).code = (rules.rulesDone c (rowsOf L) o).code ∧ (gateRun c 80 (startF o) L 0 0).word = (rules.rulesDone c (rowsOf L) o).word ∧
      rowsOf (gateRun c 80 (startF o) L 0 0).cells = (rules.rulesDone c (rowsOf L) o).rows ∧ CelsOk c (gateRun c 80 (startF o) L 0 0).cells := by
  obtain ⟨hin, hk, hft⟩ := gate_start_in ho hp h3 he
  have hcap := cap_of_part hp
  have hlen := hL.len
  have hpos : 0 < L.length := by omega
  by_cases k11 : o.kind = 11
  · obtain ⟨r', hr⟩ := scan_check hL.len hL.fit (L.length - 1) (startF o) 0 80 0 0 hin rfl k11 rfl (by omega) (by omega)
    rw [hr]
    have hd : rules.rulesDone c (rowsOf L) o = ⟨rowsOf L, 0, rules.rulesSay (rowsOf L) o.a o.b, 0⟩ := by simp [rules.rulesDone, k11]
    rw [hd]
    refine ⟨rfl, rfl, ?_, rfl, hL⟩
    rw [← say_rows hL.once hL.ok]
    rfl
  have hk2 : o.kind = 9 ∨ o.kind = 10 := by omega
  have hab : (0 ≤ o.a ∧ o.a ≤ 65535) ∧ (0 ≤ o.b ∧ o.b ≤ 65535) := by
    have := ho.a; have := ho.b
    rcases hk2 with q | q
    · have := rules.fits_add hft q; omega
    · simp [fitsB, q] at hft; omega
  have hn11 : (startF o).kind ≠ 11 := k11
  have hb11 : (o.kind == 11) = false := by simpa using k11
  have hq : (startF o).a * 65536 + (startF o).b = rules.ruleKey o := rfl
  cases hlk : lookC L (rules.ruleKey o) with
  | some u =>
    obtain ⟨x, hx, hh, hu⟩ := lookC_mem hlk
    obtain ⟨t, ht, rfl⟩ := List.mem_iff_getElem.1 hx
    obtain ⟨r', hr⟩ := scan_hit (o := o) hL.len hL.fit hL.ok ht t (startF o) 0 80 0 0 hin rfl hn11 hab.1 hab.2 rfl (by omega) (fun s hs _ hst => once_idx hL.once ht hh hs (by omega)) hh (by omega)
    rw [hr]
    have hlook : look (rowsOf L) (rules.ruleKey o) = some u := by rw [look_rows hL.once]; exact hlk
    rcases hk2 with q | q
    · have hd : rules.rulesDone c (rowsOf L) o = ⟨withK (rules.ruleKey o) o.c (rowsOf L), 0, u, 0⟩ := by simp [rules.rulesDone, q, hlook]
      rw [hd]
      have hoc := rules.fits_add hft q
      have hw : wrC (startF o) = ⟨0, o.c, o.a, o.b⟩ := by simp [wrC, startF, q]
      have hkey : keyC (wrC (startF o)) = rules.ruleKey o := by rw [hw]; rfl
      have hok' : okC (wrC (startF o)) := by rw [hw]; exact .inr ⟨hoc.1, hab.1, hab.2⟩
      obtain ⟨p1, p2⟩ := rows_put (x' := wrC (startF o)) ht hL.once (by rw [hw]; dsimp only; omega) (fun s hs hst => by rw [hkey]; exact once_idx hL.once ht hh hs hst) (.inr (by rw [hkey]; exact hh))
      refine ⟨rfl, rfl, hu, ?_, hL.set (wr_fits hin.fits) hok' p1⟩
      show rowsOf (L.set t (wrC (startF o))) = _
      rw [p2, hkey, hw]
    · have hd : rules.rulesDone c (rowsOf L) o = ⟨withoutK (rules.ruleKey o) (rowsOf L), 0, u, 0⟩ := by simp [rules.rulesDone, q, hlook]
      rw [hd]
      have hw : wrC (startF o) = ⟨0, 0, 0, 0⟩ := by simp [wrC, startF, q]
      obtain ⟨p1, p2⟩ := rows_drop (x' := wrC (startF o)) ht hL.once (by rw [hw]) hh
      exact ⟨rfl, rfl, hu, p2, hL.set (wr_fits hin.fits) (by rw [hw]; exact .inl rfl) p1⟩
  | none =>
    have hall := lookC_hit hlk
    have hlook : look (rowsOf L) (rules.ruleKey o) = none := by rw [look_rows hL.once]; exact hlk
    obtain ⟨r', n', hr⟩ := scan_none (o := o) hL.len hL.fit hL.ok (L.length - 1) (startF o) 0 80 0 0 hin rfl hk2 hab.1 hab.2 rfl (by omega) (fun s hs _ => hall _ (List.getElem_mem hs)) (by omega)
    rw [hr]
    rcases hk2 with q | q
    · rw [if_pos (show (startF o).kind = 9 from q)]
      have hfr : freeC (startF o) L 0 = L.findIdx? (fun x => x.a == 0) := by
        unfold freeC
        rw [if_neg (by simp [startF]), List.drop_zero]
        cases L.findIdx? (fun x => x.a == 0) <;> rfl
      rw [hfr]
      have hoc := rules.fits_add hft q
      cases hfi : L.findIdx? (fun x => x.a == 0) with
      | none =>
        have hno : ∀ x ∈ L, x.a ≠ 0 := fun x hx => by
          have := List.findIdx?_eq_none_iff.1 hfi x hx
          simpa using this
        have hfull := len_full hL.once hno
        have hc : c.cap ≤ ((rowsOf L).length : Int) := by omega
        have hd : rules.rulesDone c (rowsOf L) o = ⟨rowsOf L, 9, 0, 0⟩ := by simp [rules.rulesDone, q, hlook, hc]
        rw [hd]
        exact ⟨rfl, rfl, rfl, rfl, hL⟩
      | some j =>
        obtain ⟨hj, hj0, _⟩ := List.findIdx?_eq_some_iff_getElem.1 hfi
        have hj0' : L[j].a = 0 := by simpa using hj0
        have hfree := len_free hL.once hj hj0'
        have hc : ¬ c.cap ≤ ((rowsOf L).length : Int) := by omega
        have hd : rules.rulesDone c (rowsOf L) o = ⟨withK (rules.ruleKey o) o.c (rowsOf L), 0, 0, 0⟩ := by simp [rules.rulesDone, q, hlook, hc]
        rw [hd]
        have hw : wrC (startF o) = ⟨0, o.c, o.a, o.b⟩ := by simp [wrC, startF, q]
        have hkey : keyC (wrC (startF o)) = rules.ruleKey o := by rw [hw]; rfl
        have hok' : okC (wrC (startF o)) := by rw [hw]; exact .inr ⟨hoc.1, hab.1, hab.2⟩
        obtain ⟨p1, p2⟩ := rows_put (x' := wrC (startF o)) hj hL.once (by rw [hw]; dsimp only; omega) (fun s hs _ => by rw [hkey]; exact hall _ (List.getElem_mem hs)) (.inl hj0')
        refine ⟨rfl, rfl, rfl, ?_, hL.set (wr_fits hin.fits) hok' p1⟩
        show rowsOf (L.set j (wrC (startF o))) = _
        rw [p2, hkey, hw]
    · rw [if_neg (show ¬ (startF o).kind = 9 by show ¬ o.kind = 9; omega)]
      have hd : rules.rulesDone c (rowsOf L) o = ⟨rowsOf L, 6, 0, 0⟩ := by simp [rules.rulesDone, q, hlook]
      rw [hd]
      exact ⟨rfl, rfl, rfl, rfl, hL⟩
end Go.Proofs.YtaijkpfgnlkppaaDoor
/- The walk of 'rows', layer 'gate': the rows of an instance's cells. -/
namespace Go.Proofs.YtaijkpfgnlkppaaDoor
open Go Go.RowKit

theorem ofInt_nat16 (a : Nat) (ha : a < 4611686018427387904) : (BitVec.ofInt 64 (a : Int)).toNat = a := by
  rw [BitVec.ofInt_natCast, BitVec.toNat_ofNat]; exact Nat.mod_eq_of_lt (by omega)
theorem or16 (a b : Int) (ha : 0 ≤ a ∧ a ≤ 65535) (hb : 0 ≤ b ∧ b ≤ 65535) : bits .or .u64 (a * 65536) b = a * 65536 + b := by
  obtain ⟨m, rfl⟩ := Int.eq_ofNat_of_zero_le ha.1
  obtain ⟨n, rfl⟩ := Int.eq_ofNat_of_zero_le hb.1
  have h1 : (m : Int) * 65536 = ((65536 * m : Nat) : Int) := by omega
  have ho : 65536 * m ||| n = 65536 * m + n := (Nat.two_pow_add_eq_or_of_lt (i := 16) (b := n) (by omega) m).symm
  rw [h1]
  show IntKind.u64.wrap ((BitVec.ofInt 64 ((65536 * m : Nat) : Int) ||| BitVec.ofInt 64 (n : Int)).toNat : Int) = _
  rw [BitVec.toNat_or, ofInt_nat16 _ (by omega), ofInt_nat16 _ (by omega), ho, IntKind.wrap_u64]
  omega
theorem take_rows {L : List Cel} {i : Nat} (h : i < L.length) : (L.take (i + 1)).foldl rowStep [] = rowStep ((L.take i).foldl rowStep []) L[i] := by
  rw [List.take_add_one, List.getElem?_eq_getElem h, List.foldl_append]
  rfl
theorem take_look {L : List Cel} (h : Once L) {i : Nat} (hi : i < L.length) (h0 : L[i].a ≠ 0) : look ((L.take i).foldl rowStep []) (keyC L[i]) = none := by
  have ho : Once (L.take i) := List.Pairwise.sublist (List.take_sublist i L) h
  have := look_rows ho (keyC L[i])
  unfold rowsOf at this
  rw [this]
  refine lookC_none fun x hx => ?_
  obtain ⟨s, hs, rfl⟩ := List.mem_iff_getElem.1 hx
  have hs2 : s < i := by have := hs; simp only [List.length_take] at this; omega
  rw [List.getElem_take]
  cases q : hitC L[s] (keyC L[i])
  · rfl
  · obtain ⟨b1, b2⟩ := hitC_iff.1 q
    unfold Once at h
    rw [List.pairwise_iff_getElem] at h
    exact absurd b2 (h s i (by omega) hi hs2 b1 h0)
theorem findK_none {S : List Rw} {k : Int} (h : look S k = none) : ¬ 0 ≤ findK S k := by
  have := findK_neg (L := S) (k := k)
  rw [h] at this
  simpa using this
theorem take_len {L : List Cel} (h : Once L) (i : Nat) (hi : i ≤ L.length) : ((L.take i).foldl rowStep []).length ≤ L.length := by
  have ho : Once (L.take i) := List.Pairwise.sublist (List.take_sublist i L) h
  have h1 := len_le ho
  unfold rowsOf at h1
  simp only [List.length_take] at h1
  omega
set_option maxRecDepth 100000 in
set_option maxHeartbeats 4000000 in
theorem rows_any (v : Value) (L : List Cel) (hok : ∀ x ∈ L, okC x) (h1 : Once L) (w : World) (hv : Sl w v L.length (celCells L)) (hlen : L.length ≤ 1000) : Calls Tryd.prog 20 #[v] w
    fun e w' => ∃ r, e = .returned (.tuple #[r, .bool true]) ∧ Hid (Rws w' r (rowsOf L)) ∧ Ext w w' := by
  obtain ⟨ad, cap, rfl, hs⟩ := hv
  have HS := Lib.hid hs
  have HOK := Lib.hid hok
  have HON := Lib.hid h1
  clear hs hok h1
  go_enter Tryd.func20, Tryd.ntmps20
  go_wp2
  go_loopw [4, 5, 6] (fun t4 t5 _ wr => ∃ i : Nat, i ≤ L.length ∧ t5 = .int .i64 i ∧ Hid (Rws wr t4 ((L.take i).foldl rowStep [])) ∧ Hid (Ext w wr)) (fun _ t5 _ _ => L.length - (intOf t5).toNat)
  case atStart => exact ⟨0, Nat.zero_le _, rfl, Lib.hid (Rws.nil _), Lib.hid (Ext.refl _)⟩
  case round =>
    obtain ⟨i, hi, rfl, HR0, HE⟩ := hrel
    by_cases hlt : i < L.length
    · have hlt' : (i : Int) < (L.length : Int) := by omega
      obtain ⟨b, o', rfl, c0, c1, c2, c3⟩ := HS.out.cel (i := (i : Int)) (by omega) hlt'
      rw [Int.toNat_natCast] at c0 c1 c2 c3
      have hx := HOK.out L[i] (List.getElem_mem hlt)
      obtain ⟨x, hxe⟩ : ∃ x, L[i] = x := ⟨_, rfl⟩
      have hgd : L.getD i ⟨0, 0, 0, 0⟩ = x := by simp [hlt, hxe]
      rw [hgd] at c0 c1 c2 c3
      have d1 := ext_cell HE.out c1
      have d2 := ext_cell HE.out c2
      have d3 := ext_cell HE.out c3
      have hb := World.block_lt_of_cell? _ _ d1
      dsimp only at hb
      have hb1 : ∀ n1 : Nat, b < wr.heap.size + n1 := by intros; omega
      obtain ⟨S, hS⟩ : ∃ S, (L.take i).foldl rowStep [] = S := ⟨_, rfl⟩
      have HR : Hid (Rws wr u4 S) := Lib.hid (by rw [← hS]; exact HR0.out)
      have HSS := Lib.hid hS
      have hSl : S.length ≤ 10000 := by
        rw [← hS]
        exact Nat.le_trans (take_len HON.out i hi) (by omega)
      rw [hxe] at hx
      have HXE := Lib.hid hxe
      clear c0 c1 c2 c3 hgd hxe hS HR0
      cases ha : (x.a == 0)
      · have ha0 : x.a ≠ 0 := by simpa using ha
        obtain ⟨V, hV⟩ : ∃ V, x.a = V := ⟨_, rfl⟩
        obtain ⟨_, hb2, hc2⟩ := hx.resolve_left ha0
        obtain ⟨Q, hQ⟩ : ∃ Q, x.b * 65536 + x.c = Q := ⟨_, rfl⟩
        have hor := or16 x.b x.c hb2 hc2
        rw [hQ] at hor
        have hsh : IntKind.u64.wrap (x.b * 65536) = x.b * 65536 := by rw [IntKind.wrap_u64]; omega
        have hmod : x.b * 65536 % 18446744073709551616 = x.b * 65536 := by omega
        obtain ⟨D, hD⟩ : ∃ D, findK S Q = D := ⟨_, rfl⟩
        have hD0 : ¬ 0 ≤ D := by
          rw [← hD, ← HSS.out, ← hQ]
          have := take_look HON.out hlt (by rw [HXE.out]; exact ha0)
          rw [HXE.out] at this
          exact findK_none this
        have hD1 : decide (0 ≤ D) = false := decide_eq_false hD0
        have HD := Lib.hid hD
        have HQ := Lib.hid hQ
        have HV := Lib.hid hV
        have HA0 := Lib.hid ha0
        rw [hV] at d1 ha
        clear hD hQ hV ha0 hx hb2 hc2
        go_upto_region 6 with fail
        (refine wp_region_ext_lit (by kernel_rfl) (by kernel_rfl) ?_)
        (repeat (go_big_quiet_step (fail)))
        (refine wpQuiet_nil ?_; intro _ hw'; obtain ⟨⟨osq, nq⟩, hw''⟩ := hw'; replace hw'' : _ = grew _ osq nq := hw''; subst hw'')
        go_wp2_with (first | (go_at_call 41; refine (find_any _ S Q _ (HR.out.sl.ext (by first | ((repeat (first | with_reducible exact Ext.refl _ | with_reducible assumption | with_reducible refine Ext.alloc ?_ _ | with_reducible refine Ext.gr ?_ _ | with_reducible refine Ext.drewN ?_ _ | with_reducible refine Ext.drew ?_ | with_reducible refine Ext.setCell ?_ ?_ _ | with_reducible refine Ext.more ?_ _ _ | (show _ ≤ _; dsimp only; omega))); done) | ((repeat (first | with_reducible exact Ext.refl _ | with_reducible assumption | with_reducible apply Ext.bothR | with_reducible refine Ext.alloc ?_ _ | with_reducible refine Ext.gr ?_ _ | with_reducible refine Ext.drewN ?_ _ | with_reducible refine Ext.drew ?_ | with_reducible refine Ext.setCell ?_ ?_ _ | with_reducible refine Ext.more ?_ _ _ | (show _ ≤ _; dsimp only; omega))); done)))).mono ?_; rintro e w1 ⟨rfl, os1, n1, rfl⟩; rw [HD.out]) | (go_at_call 42; refine (with_any _ S hSl Q V _ (HR.out.ext (by first | ((repeat (first | with_reducible exact Ext.refl _ | with_reducible assumption | with_reducible refine Ext.alloc ?_ _ | with_reducible refine Ext.gr ?_ _ | with_reducible refine Ext.drewN ?_ _ | with_reducible refine Ext.drew ?_ | with_reducible refine Ext.setCell ?_ ?_ _ | with_reducible refine Ext.more ?_ _ _ | (show _ ≤ _; dsimp only; omega))); done) | ((repeat (first | with_reducible exact Ext.refl _ | with_reducible assumption | with_reducible apply Ext.bothR | with_reducible refine Ext.alloc ?_ _ | with_reducible refine Ext.gr ?_ _ | with_reducible refine Ext.drewN ?_ _ | with_reducible refine Ext.drew ?_ | with_reducible refine Ext.setCell ?_ ?_ _ | with_reducible refine Ext.more ?_ _ _ | (show _ ≤ _; dsimp only; omega))); done)))).mono ?_; rintro e w2 ⟨r, rfl, HO, os2, n2, rfl⟩; have hs := own_rws HO; (try simp only [grew_grew] at hs); clear HO; have HW := Lib.hid hs; clear hs))
        go_roundw
        case rel =>
          refine ⟨i + 1, by omega, by go_num, Lib.hid ?_, Lib.hid (Ext.trans HE.out (by first | ((repeat (first | with_reducible exact Ext.refl _ | with_reducible assumption | with_reducible refine Ext.alloc ?_ _ | with_reducible refine Ext.gr ?_ _ | with_reducible refine Ext.drewN ?_ _ | with_reducible refine Ext.drew ?_ | with_reducible refine Ext.setCell ?_ ?_ _ | with_reducible refine Ext.more ?_ _ _ | (show _ ≤ _; dsimp only; omega))); done) | ((repeat (first | with_reducible exact Ext.refl _ | with_reducible assumption | with_reducible apply Ext.bothR | with_reducible refine Ext.alloc ?_ _ | with_reducible refine Ext.gr ?_ _ | with_reducible refine Ext.drewN ?_ _ | with_reducible refine Ext.drew ?_ | with_reducible refine Ext.setCell ?_ ?_ _ | with_reducible refine Ext.more ?_ _ _ | (show _ ≤ _; dsimp only; omega))); done)))⟩
          have e : (L.take (i + 1)).foldl rowStep [] = withF Q V false S := by
            have hr : Rises S := by rw [← HSS.out]; exact rises_rows _ rises_nil
            rw [take_rows hlt, HSS.out, HXE.out, withF_eq Q V hr, ← HQ.out, ← HV.out]
            simp [rowStep, HA0.out, keyC]
          rw [e]
          exact HW.out.ext (by first | ((repeat (first | with_reducible exact Ext.refl _ | with_reducible assumption | with_reducible refine Ext.alloc ?_ _ | with_reducible refine Ext.gr ?_ _ | with_reducible refine Ext.drewN ?_ _ | with_reducible refine Ext.drew ?_ | with_reducible refine Ext.setCell ?_ ?_ _ | with_reducible refine Ext.more ?_ _ _ | (show _ ≤ _; dsimp only; omega))); done) | ((repeat (first | with_reducible exact Ext.refl _ | with_reducible assumption | with_reducible apply Ext.bothR | with_reducible refine Ext.alloc ?_ _ | with_reducible refine Ext.gr ?_ _ | with_reducible refine Ext.drewN ?_ _ | with_reducible refine Ext.drew ?_ | with_reducible refine Ext.setCell ?_ ?_ _ | with_reducible refine Ext.more ?_ _ _ | (show _ ≤ _; dsimp only; omega))); done))
        case measure => simp [intOf]; omega
      · have ha0 : x.a = 0 := by simpa using ha
        rw [ha0] at d1
        have HA0 := Lib.hid ha0
        clear ha ha0 hx
        go_wp2
        go_roundw
        case rel =>
          refine ⟨i + 1, by omega, by go_num, Lib.hid ?_, Lib.hid (Ext.trans HE.out (by first | ((repeat (first | with_reducible exact Ext.refl _ | with_reducible assumption | with_reducible refine Ext.alloc ?_ _ | with_reducible refine Ext.gr ?_ _ | with_reducible refine Ext.drewN ?_ _ | with_reducible refine Ext.drew ?_ | with_reducible refine Ext.setCell ?_ ?_ _ | with_reducible refine Ext.more ?_ _ _ | (show _ ≤ _; dsimp only; omega))); done) | ((repeat (first | with_reducible exact Ext.refl _ | with_reducible assumption | with_reducible apply Ext.bothR | with_reducible refine Ext.alloc ?_ _ | with_reducible refine Ext.gr ?_ _ | with_reducible refine Ext.drewN ?_ _ | with_reducible refine Ext.drew ?_ | with_reducible refine Ext.setCell ?_ ?_ _ | with_reducible refine Ext.more ?_ _ _ | (show _ ≤ _; dsimp only; omega))); done)))⟩
          have e : (L.take (i + 1)).foldl rowStep [] = S := by
            rw [take_rows hlt, HSS.out, HXE.out]
            simp [rowStep, HA0.out]
          rw [e]
          exact HR.out.ext (by first | ((repeat (first | with_reducible exact Ext.refl _ | with_reducible assumption | with_reducible refine Ext.alloc ?_ _ | with_reducible refine Ext.gr ?_ _ | with_reducible refine Ext.drewN ?_ _ | with_reducible refine Ext.drew ?_ | with_reducible refine Ext.setCell ?_ ?_ _ | with_reducible refine Ext.more ?_ _ _ | (show _ ≤ _; dsimp only; omega))); done) | ((repeat (first | with_reducible exact Ext.refl _ | with_reducible assumption | with_reducible apply Ext.bothR | with_reducible refine Ext.alloc ?_ _ | with_reducible refine Ext.gr ?_ _ | with_reducible refine Ext.drewN ?_ _ | with_reducible refine Ext.drew ?_ | with_reducible refine Ext.setCell ?_ ?_ _ | with_reducible refine Ext.more ?_ _ _ | (show _ ≤ _; dsimp only; omega))); done))
        case measure => simp [intOf]; omega
    · obtain rfl : i = L.length := by omega
      have HR : Hid (Rws wr u4 (rowsOf L)) := Lib.hid (by
        have := HR0.out
        rw [List.take_length] at this
        exact this)
      clear HR0
      go_wp2
      refine bodyPost_ret (v := .tuple #[u4, .bool true]) (by simp [results, Tryd.results20, go_sem]) rfl ⟨_, rfl, Lib.hid (HR.out.ext (by first | ((repeat (first | with_reducible exact Ext.refl _ | with_reducible assumption | with_reducible refine Ext.alloc ?_ _ | with_reducible refine Ext.gr ?_ _ | with_reducible refine Ext.drewN ?_ _ | with_reducible refine Ext.drew ?_ | with_reducible refine Ext.setCell ?_ ?_ _ | with_reducible refine Ext.more ?_ _ _ | (show _ ≤ _; dsimp only; omega))); done) | ((repeat (first | with_reducible exact Ext.refl _ | with_reducible assumption | with_reducible apply Ext.bothR | with_reducible refine Ext.alloc ?_ _ | with_reducible refine Ext.gr ?_ _ | with_reducible refine Ext.drewN ?_ _ | with_reducible refine Ext.drew ?_ | with_reducible refine Ext.setCell ?_ ?_ _ | with_reducible refine Ext.more ?_ _ _ | (show _ ≤ _; dsimp only; omega))); done))), Ext.trans HE.out (by first | ((repeat (first | with_reducible exact Ext.refl _ | with_reducible assumption | with_reducible refine Ext.alloc ?_ _ | with_reducible refine Ext.gr ?_ _ | with_reducible refine Ext.drewN ?_ _ | with_reducible refine Ext.drew ?_ | with_reducible refine Ext.setCell ?_ ?_ _ | with_reducible refine Ext.more ?_ _ _ | (show _ ≤ _; dsimp only; omega))); done) | ((repeat (first | with_reducible exact Ext.refl _ | with_reducible assumption | with_reducible apply Ext.bothR | with_reducible refine Ext.alloc ?_ _ | with_reducible refine Ext.gr ?_ _ | with_reducible refine Ext.drewN ?_ _ | with_reducible refine Ext.drew ?_ | with_reducible refine Ext.setCell ?_ ?_ _ | with_reducible refine Ext.more ?_ _ _ | (show _ ≤ _; dsimp only; omega))); done))⟩
end Go.Proofs.YtaijkpfgnlkppaaDoor
