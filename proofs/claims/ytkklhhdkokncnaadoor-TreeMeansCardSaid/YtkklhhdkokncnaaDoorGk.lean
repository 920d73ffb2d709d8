/- The walk of 'after', the layer 'tree'. -/
import Derived.Test.YtkklhhdkokncnaaDoorGi
import Derived.Test.YtkklhhdkokncnaaDoorTreUF
import Derived.Test.YtkklhhdkokncnaaDoorTreUT
import Derived.Test.YtkklhhdkokncnaaDoorGr
namespace Go.Proofs.YtkklhhdkokncnaaDoor
open Go Go.RowKit
set_option maxRecDepth 100000
set_option maxHeartbeats 8000000

/-- What 'after' leaves. -/
def tAfter (c : Cfg) (R : TR) (l : Cel) : TR :=
  if R.f.pc == 0 then
    (if (if l.a < c.cap then l.a else c.cap) == 0 then tNone c { R with f := { R.f with n := 0 } }
     else { R with f := { R.f with n := (if l.a < c.cap then l.a else c.cap), h := treTop c, i := 0, pc := 1 } })
  else if R.f.pc == 1 then tItem c R l
  else if R.f.pc == 3 then { f := { treOver R.f l with pc := 20 }, k := l.a % 4294967296, v := l.b % 4294967296, t := true }
  else if R.f.pc == 17 then tScan c { R with f := treOver R.f l }
  else { R with f := (treBehind c R.f l).1 }
/-- A run's end as the document has it. -/
def tOut (x : Frm × Bool) : TR := ⟨x.1, if x.2 then x.1.x else 0, if x.2 then x.1.y else 0, x.2⟩
theorem tFound_out (c : Cfg) (f : Frm) : tFound c ⟨f, 0, 0, false⟩ = tOut (treFound c f) := by
  unfold tFound treFound tScan treOn tFresh tOut
  simp only [treGo]
  (repeat' split) <;> simp_all
theorem tScan_out (c : Cfg) (f : Frm) : tScan c ⟨f, 0, 0, false⟩ = tOut (treOn c f) := by
  unfold tScan treOn tOut
  simp only [treGo]
  (repeat' split) <;> simp_all
theorem tItem_out (c : Cfg) (f : Frm) (l : Cel) : tItem c ⟨f, 0, 0, false⟩ l = tOut (treItem c f l) := by
  unfold tItem treItem
  split
  · split
    · exact tFound_out c _
    · rfl
  · split <;> rfl
end Go.Proofs.YtkklhhdkokncnaaDoor
/- Plain: what a frame of the layer 'tree' goes on by keeps its bounds. -/
namespace Go.Proofs.YtkklhhdkokncnaaDoor
open Go Go.RowKit
set_option maxRecDepth 100000
set_option maxHeartbeats 8000000

theorem treBound {c : Cfg} {f : Frm} (hc : TreOk c) (hf : f.Fits) (h : treMay c f = true) : (f.pc = 1 ∨ f.pc = 14 → f.i ≤ 32) ∧ (f.pc = 15 → 1 ≤ f.n) := by
  obtain ⟨_, _, hnum, hat⟩ := treMay_facts h
  obtain ⟨m1, m2, m3, m4, m5, m6, m7, m8⟩ := treNum_facts hnum
  have htop := topI_bd c.cap c.node
  change 0 ≤ treTop c ∧ treTop c ≤ 4 at htop
  have hcap := hc.cap
  have hh := hf.h
  have key : ∀ h i : Int, 0 ≤ h ∧ h ≤ 4 → 0 ≤ treOff c h i → 0 ≤ i ∧ i < 32 := by
    intro h i h4 ho
    have hle := treUp_le hc (n := c.cap) (h := h) (by omega) h4
    unfold treOff offI at ho
    split at ho
    · rename_i hx
      have h5 : i < treUp c c.cap h := hx.2.2.2
      omega
    · omega
  refine ⟨fun e => ?_, fun e => ?_⟩
  · rcases e with e | e
    · have h1 : (treStep c f).at' = treOff c f.h f.i := by simp [treStep, e]
      rw [h1] at hat
      have := key _ _ (by omega) hat
      omega
    · have h1 : (treStep c f).at' = treOff c 0 (f.i - 1) := by simp [treStep, e]
      rw [h1] at hat
      have := key _ _ (by omega) hat
      omega
  · have h1 : (treStep c f).at' = treOff c 0 (f.n - 1) := by simp [treStep, e]
    rw [h1] at hat
    have := key _ _ (by omega) hat
    omega
theorem treKinds {c : Cfg} {f : Frm} (ho : c.object = 2) (h : treMay c f = true) : f.kind = 4 ∨ f.kind = 5 ∨ f.kind = 6 ∨ f.kind = 7 ∨ f.kind = 8 :=
  objOf_two ((opErr_kind (o := treOp f) (treMay_facts h).1).trans ho)
theorem tAfter_out (c : Cfg) (f : Frm) (l : Cel) : tAfter c ⟨f, 0, 0, false⟩ l = tOut (treBehind c f l) := by
  unfold tAfter
  split
  · rename_i h
    unfold treBehind
    rw [if_pos h]
    generalize (if l.a < c.cap then l.a else c.cap) = M
    split <;> rfl
  · rename_i h0
    split
    · rename_i h
      unfold treBehind
      rw [if_neg h0, if_pos h]
      exact tItem_out c f l
    · rename_i h1
      split
      · rename_i h
        unfold treBehind
        rw [if_neg h0, if_neg h1, if_pos h]
        rfl
      · rename_i h3
        split
        · rename_i h
          have h' : f.pc = 17 := by simpa using h
          have e : treBehind c f l = treOn c (treOver f l) := by unfold treBehind; simp [h']
          rw [e]
          exact tScan_out c _
        · rename_i h17
          have e : (treBehind c f l).2 = false := by
            have h0' : (f.pc == 0) = false := by simpa using h0
            have h1' : (f.pc == 1) = false := by simpa using h1
            have h3' : (f.pc == 3) = false := by simpa using h3
            have h17' : (f.pc == 17) = false := by simpa using h17
            unfold treBehind
            rw [h0', h1', h3']
            simp only [Bool.false_eq_true, if_false]
            by_cases hq : (f.pc == 4) = true
            · rw [if_pos hq]
            rw [if_neg hq]
            clear hq
            by_cases hq : (f.pc == 5) = true
            · rw [if_pos hq]
            rw [if_neg hq]
            clear hq
            by_cases hq : (f.pc == 6) = true
            · rw [if_pos hq]
              split <;> rfl
            rw [if_neg hq]
            clear hq
            by_cases hq : (f.pc == 7) = true
            · rw [if_pos hq]
            rw [if_neg hq]
            clear hq
            by_cases hq : (f.pc == 8) = true
            · rw [if_pos hq]
            rw [if_neg hq]
            clear hq
            by_cases hq : (f.pc == 9) = true
            · rw [if_pos hq]
            rw [if_neg hq]
            clear hq
            by_cases hq : (f.pc == 11) = true
            · rw [if_pos hq]
              split
              · rfl
              · split <;> rfl
            rw [if_neg hq]
            clear hq
            by_cases hq : (f.pc == 12) = true
            · rw [if_pos hq]
            rw [if_neg hq]
            clear hq
            by_cases hq : (f.pc == 13) = true
            · rw [if_pos hq]
            rw [if_neg hq]
            clear hq
            by_cases hq : (f.pc == 14) = true
            · rw [if_pos hq]
              split <;> rfl
            rw [if_neg hq]
            clear hq
            by_cases hq : (f.pc == 15) = true
            · rw [if_pos hq]
            rw [if_neg hq]
            clear hq
            by_cases hq : (f.pc == 16) = true
            · rw [if_pos hq]
            rw [if_neg hq]
            clear hq
            rw [h17']
            rfl
          unfold tOut
          rw [e]
          rfl

theorem fresh_fits {c : Cfg} {f : Frm} (hf : f.Fits) : (treFresh c f).Fits := by
  obtain ⟨k0, a0, b0, p0, i0, j0, n0, q0, h0, x0, y0⟩ := hf
  unfold treFresh
  split
  · (refine ⟨?_, ?_, ?_, ?_, ?_, ?_, ?_, ?_, ?_, ?_, ?_⟩ <;> (try dsimp only) <;> omega)
  · split <;> (refine ⟨?_, ?_, ?_, ?_, ?_, ?_, ?_, ?_, ?_, ?_, ?_⟩ <;> (try dsimp only) <;> omega)
theorem go_fits {f : Frm} (hf : f.Fits) (hp : f.p ≤ 32) : (treGo f).Fits := by
  obtain ⟨k0, a0, b0, p0, i0, j0, n0, q0, h0, x0, y0⟩ := hf
  unfold treGo
  split <;> (refine ⟨?_, ?_, ?_, ?_, ?_, ?_, ?_, ?_, ?_, ?_, ?_⟩ <;> (try dsimp only) <;> omega)
theorem on_fits {c : Cfg} {f : Frm} (hf : f.Fits) (hp : f.p ≤ 32) (hj : f.j ≤ 40) : (treOn c f).1.Fits := by
  have HF := hf
  obtain ⟨k0, a0, b0, p0, i0, j0, n0, q0, h0, x0, y0⟩ := hf
  unfold treOn
  split
  · (refine ⟨?_, ?_, ?_, ?_, ?_, ?_, ?_, ?_, ?_, ?_, ?_⟩ <;> (try dsimp only) <;> omega)
  · split
    · (refine ⟨?_, ?_, ?_, ?_, ?_, ?_, ?_, ?_, ?_, ?_, ?_⟩ <;> (try dsimp only) <;> omega)
    · exact go_fits (by (refine ⟨?_, ?_, ?_, ?_, ?_, ?_, ?_, ?_, ?_, ?_, ?_⟩ <;> (try dsimp only) <;> omega)) hp
theorem found_fits {c : Cfg} {f : Frm} (hf : f.Fits) (hp : f.p ≤ 32) (hj : f.j ≤ 40) : (treFound c f).1.Fits := by
  have HF := hf
  obtain ⟨k0, a0, b0, p0, i0, j0, n0, q0, h0, x0, y0⟩ := hf
  unfold treFound
  repeat' (first | exact on_fits HF hp hj | exact fresh_fits HF | split)
  all_goals (refine ⟨?_, ?_, ?_, ?_, ?_, ?_, ?_, ?_, ?_, ?_, ?_⟩ <;> (try dsimp only) <;> omega)
theorem none_fits {c : Cfg} {f : Frm} (hf : f.Fits) : (treNone c f).Fits := by
  obtain ⟨k0, a0, b0, p0, i0, j0, n0, q0, h0, x0, y0⟩ := hf
  unfold treNone
  split
  · exact fresh_fits (by (refine ⟨?_, ?_, ?_, ?_, ?_, ?_, ?_, ?_, ?_, ?_, ?_⟩ <;> (try dsimp only) <;> omega))
  · repeat' split
    all_goals (refine ⟨?_, ?_, ?_, ?_, ?_, ?_, ?_, ?_, ?_, ?_, ?_⟩ <;> (try dsimp only) <;> omega)
theorem divI_fits {w : Int} (hw : w = 2 ∨ w = 3 ∨ w = 4) (k : Nat) : ∀ x : Int, 0 ≤ x ∧ x ≤ 255 → 0 ≤ divI w k x ∧ divI w k x ≤ 255 := by
  induction k with
  | zero => intro x h; exact h
  | succ k ih => intro x h; exact ih _ (divI_bd hw h)
theorem climb_fits {c : Cfg} (hc : TreOk c) (k : Nat) : ∀ f : Frm, f.Fits → f.h + k ≤ 200 → (treClimb c k f).Fits := by
  induction k with
  | zero =>
    intro f hf _
    obtain ⟨k0, a0, b0, p0, i0, j0, n0, q0, h0, x0, y0⟩ := hf
    unfold treClimb
    split <;> (refine ⟨?_, ?_, ?_, ?_, ?_, ?_, ?_, ?_, ?_, ?_, ?_⟩ <;> (try dsimp only) <;> omega)
  | succ k ih =>
    intro f hf hk
    have hd := divI_fits hc.node (f.h + 1).toNat f.p hf.p
    obtain ⟨k0, a0, b0, p0, i0, j0, n0, q0, h0, x0, y0⟩ := hf
    unfold treClimb
    split
    · (refine ⟨?_, ?_, ?_, ?_, ?_, ?_, ?_, ?_, ?_, ?_, ?_⟩ <;> (try dsimp only) <;> omega)
    · split
      · (refine ⟨?_, ?_, ?_, ?_, ?_, ?_, ?_, ?_, ?_, ?_, ?_⟩ <;> (try dsimp only) <;> omega)
      · refine ih _ ?_ (by dsimp only; omega)
        (refine ⟨?_, ?_, ?_, ?_, ?_, ?_, ?_, ?_, ?_, ?_, ?_⟩ <;> (try dsimp only) <;> omega)
theorem upw_fits {c : Cfg} (hc : TreOk c) {f : Frm} (hf : f.Fits) (hh : f.h ≤ 4) : (treUpw c f).Fits := by
  have htop := topI_bd c.cap c.node
  change 0 ≤ treTop c ∧ treTop c ≤ 4 at htop
  have h0 := hf.h
  exact climb_fits hc _ f hf (by omega)
theorem item_fits {c : Cfg} {f : Frm} {l : Cel} (hf : f.Fits) (hi : f.i ≤ 32) (hj : f.j ≤ 40) : (treItem c f l).1.Fits := by
  have HF := hf
  obtain ⟨k0, a0, b0, p0, i0, j0, n0, q0, h0, x0, y0⟩ := hf
  unfold treItem
  split
  · split
    · exact found_fits (over_fits HF l f.i i0) hi hj
    · rename_i hz
      have hz' : f.h ≠ 0 := by simpa using hz
      (refine ⟨?_, ?_, ?_, ?_, ?_, ?_, ?_, ?_, ?_, ?_, ?_⟩ <;> (try dsimp only) <;> omega)
  · split
    · exact none_fits HF
    · (refine ⟨?_, ?_, ?_, ?_, ?_, ?_, ?_, ?_, ?_, ?_, ?_⟩ <;> (try dsimp only) <;> omega)
theorem behind_fits {c : Cfg} {f : Frm} {l : Cel} (hc : TreOk c) (hf : f.Fits) (hl : l.Fits) (hnum : treNum c f = true) (hi : f.pc = 1 ∨ f.pc = 14 → f.i ≤ 32) (h15 : f.pc = 15 → 1 ≤ f.n) : (treBehind c f l).1.Fits := by
  have HF := hf
  obtain ⟨m1, m2, m3, m4, m5, m6, m7, m8⟩ := treNum_facts hnum
  have htop := topI_bd c.cap c.node
  change 0 ≤ treTop c ∧ treTop c ≤ 4 at htop
  have hcap := hc.cap
  have hchunk := hc.chunk
  have hul := treUp_le hc (n := f.n) (h := f.h) hf.n.1 ⟨hf.h.1, by omega⟩
  have la := hl.a
  obtain ⟨k0, a0, b0, p0, i0, j0, n0, q0, h0, x0, y0⟩ := hf
  unfold treBehind
  by_cases hq : (f.pc == 0) = true
  · rw [if_pos hq]
    generalize hM : (if l.a < c.cap then l.a else c.cap) = M
    have hM2 : 0 ≤ M ∧ M ≤ 32 := by rw [← hM]; split <;> omega
    split
    · refine none_fits ?_
      (refine ⟨?_, ?_, ?_, ?_, ?_, ?_, ?_, ?_, ?_, ?_, ?_⟩ <;> (try dsimp only) <;> omega)
    · (refine ⟨?_, ?_, ?_, ?_, ?_, ?_, ?_, ?_, ?_, ?_, ?_⟩ <;> (try dsimp only) <;> omega)
  rw [if_neg hq]
  clear hq
  by_cases hq : (f.pc == 1) = true
  · rw [if_pos hq]
    exact item_fits HF (hi (Or.inl (by simpa using hq))) (by omega)
  rw [if_neg hq]
  clear hq
  by_cases hq : (f.pc == 3) = true
  · rw [if_pos hq]
    simp only [treOver]
    (refine ⟨?_, ?_, ?_, ?_, ?_, ?_, ?_, ?_, ?_, ?_, ?_⟩ <;> (try dsimp only) <;> omega)
  rw [if_neg hq]
  clear hq
  by_cases hq : (f.pc == 4) = true
  · rw [if_pos hq]
    (refine ⟨?_, ?_, ?_, ?_, ?_, ?_, ?_, ?_, ?_, ?_, ?_⟩ <;> (try dsimp only) <;> omega)
  rw [if_neg hq]
  clear hq
  by_cases hq : (f.pc == 5) = true
  · rw [if_pos hq]
    simp only [treOver]
    (refine ⟨?_, ?_, ?_, ?_, ?_, ?_, ?_, ?_, ?_, ?_, ?_⟩ <;> (try dsimp only) <;> omega)
  rw [if_neg hq]
  clear hq
  by_cases hq : (f.pc == 6) = true
  · rw [if_pos hq]
    have := m5 (by simpa using hq)
    split <;> (refine ⟨?_, ?_, ?_, ?_, ?_, ?_, ?_, ?_, ?_, ?_, ?_⟩ <;> (try dsimp only) <;> omega)
  rw [if_neg hq]
  clear hq
  by_cases hq : (f.pc == 7) = true
  · rw [if_pos hq]
    (refine ⟨?_, ?_, ?_, ?_, ?_, ?_, ?_, ?_, ?_, ?_, ?_⟩ <;> (try dsimp only) <;> omega)
  rw [if_neg hq]
  clear hq
  by_cases hq : (f.pc == 8) = true
  · rw [if_pos hq]
    exact upw_fits hc (by (refine ⟨?_, ?_, ?_, ?_, ?_, ?_, ?_, ?_, ?_, ?_, ?_⟩ <;> (try dsimp only) <;> omega)) (by dsimp only; omega)
  rw [if_neg hq]
  clear hq
  by_cases hq : (f.pc == 9) = true
  · rw [if_pos hq]
    simp only [treOver]
    (refine ⟨?_, ?_, ?_, ?_, ?_, ?_, ?_, ?_, ?_, ?_, ?_⟩ <;> (try dsimp only) <;> omega)
  rw [if_neg hq]
  clear hq
  by_cases hq : (f.pc == 11) = true
  · rw [if_pos hq]
    have := m6 (Or.inr (by simpa using hq))
    split
    · (refine ⟨?_, ?_, ?_, ?_, ?_, ?_, ?_, ?_, ?_, ?_, ?_⟩ <;> (try dsimp only) <;> omega)
    · split
      · (refine ⟨?_, ?_, ?_, ?_, ?_, ?_, ?_, ?_, ?_, ?_, ?_⟩ <;> (try dsimp only) <;> omega)
      · exact upw_fits hc (by (refine ⟨?_, ?_, ?_, ?_, ?_, ?_, ?_, ?_, ?_, ?_, ?_⟩ <;> (try dsimp only) <;> omega)) (by dsimp only; omega)
  rw [if_neg hq]
  clear hq
  by_cases hq : (f.pc == 12) = true
  · rw [if_pos hq]
    exact upw_fits hc HF (by omega)
  rw [if_neg hq]
  clear hq
  by_cases hq : (f.pc == 13) = true
  · rw [if_pos hq]
    simp only [treOver]
    (refine ⟨?_, ?_, ?_, ?_, ?_, ?_, ?_, ?_, ?_, ?_, ?_⟩ <;> (try dsimp only) <;> omega)
  rw [if_neg hq]
  clear hq
  by_cases hq : (f.pc == 14) = true
  · rw [if_pos hq]
    have := hi (Or.inr (by simpa using hq))
    split <;> (refine ⟨?_, ?_, ?_, ?_, ?_, ?_, ?_, ?_, ?_, ?_, ?_⟩ <;> (try dsimp only) <;> omega)
  rw [if_neg hq]
  clear hq
  by_cases hq : (f.pc == 15) = true
  · rw [if_pos hq]
    have := h15 (by simpa using hq)
    (refine ⟨?_, ?_, ?_, ?_, ?_, ?_, ?_, ?_, ?_, ?_, ?_⟩ <;> (try dsimp only) <;> omega)
  rw [if_neg hq]
  clear hq
  by_cases hq : (f.pc == 16) = true
  · rw [if_pos hq]
    exact go_fits (by (refine ⟨?_, ?_, ?_, ?_, ?_, ?_, ?_, ?_, ?_, ?_, ?_⟩ <;> (try dsimp only) <;> omega)) (by dsimp only; omega)
  rw [if_neg hq]
  clear hq
  by_cases hq : (f.pc == 17) = true
  · rw [if_pos hq]
    exact on_fits (over_fits HF l f.p q0) (by dsimp only [treOver]; omega) (by dsimp only [treOver]; omega)
  rw [if_neg hq]
  clear hq
  exact HF
end Go.Proofs.YtkklhhdkokncnaaDoor
