/- Plain: an operation that only reads never writes; a frame keeps its operation's kind, and its A. -/
import Derived.Test.YtmhmaifmendebaaDoorA1
namespace Go.Proofs.YtmhmaifmendebaaDoor
open Go Go.RowKit
set_option maxRecDepth 100000
set_option maxHeartbeats 8000000

/-- A frame keeps the kind and the A of another. -/
def Same (f g : Frm) : Prop := g.kind = f.kind ∧ g.a = f.a
theorem Same.refl (f : Frm) : Same f f := ⟨rfl, rfl⟩
theorem keep_tr (c : Cfg) (f : Frm) (l : Cel) : Same f (trie.trBehind c f l) := by
  unfold trie.trBehind trie.trLook trie.trLooked
  repeat' split
  all_goals exact ⟨rfl, rfl⟩
theorem keep_gate (c : Cfg) (f : Frm) (l : Cel) : Same f (gate.gateBehind c f l) := by
  unfold gate.gateBehind gate.gateSeek gate.gateMore gate.gateOver
  repeat' split
  all_goals exact ⟨rfl, rfl⟩
theorem keep_br (c : Cfg) (f : Frm) (l : Cel) : Same f (branch.brBehind c f l) := by
  unfold branch.brBehind branch.brFound branch.brOther branch.brMade branch.brMore
  repeat' split
  all_goals exact ⟨rfl, rfl⟩
theorem keep_fresh (c : Cfg) (f : Frm) : Same f (tree.treFresh c f) := by
  unfold tree.treFresh
  repeat' split
  all_goals exact ⟨rfl, rfl⟩
theorem keep_go (f : Frm) : Same f (tree.treGo f) := by
  unfold tree.treGo
  split <;> exact ⟨rfl, rfl⟩
theorem keep_on (c : Cfg) (f : Frm) : Same f (tree.treOn c f).1 := by
  unfold tree.treOn
  split
  · exact ⟨rfl, rfl⟩
  · split
    · exact ⟨rfl, rfl⟩
    · exact keep_go { f with j := f.j + 1 }
theorem keep_found (c : Cfg) (f : Frm) : Same f (tree.treFound c f).1 := by
  unfold tree.treFound
  repeat' (first | exact keep_on c f | exact keep_fresh c f | exact ⟨rfl, rfl⟩ | split)
theorem keep_none (c : Cfg) (f : Frm) : Same f (tree.treNone c f) := by
  unfold tree.treNone
  split
  · exact keep_fresh c { f with p := f.n }
  · repeat' split
    all_goals exact ⟨rfl, rfl⟩
theorem keep_climb (c : Cfg) (k : Nat) : ∀ f : Frm, Same f (tree.treClimb c k f) := by
  induction k with
  | zero => intro f; unfold tree.treClimb; split <;> exact ⟨rfl, rfl⟩
  | succ k ih =>
    intro f
    unfold tree.treClimb
    split
    · exact ⟨rfl, rfl⟩
    · split
      · exact ⟨rfl, rfl⟩
      · exact ih { f with h := f.h + 1, i := tree.divI c.node (f.h + 1).toNat f.p }
theorem keep_item (c : Cfg) (f : Frm) (l : Cel) : Same f (tree.treItem c f l).1 := by
  unfold tree.treItem
  split
  · split
    · exact keep_found c (tree.treOver { f with p := f.i } l)
    · exact ⟨rfl, rfl⟩
  · split
    · exact keep_none c f
    · exact ⟨rfl, rfl⟩
theorem keep_tre (c : Cfg) (f : Frm) (l : Cel) : Same f (tree.treBehind c f l).1 := by
  unfold tree.treBehind
  by_cases hq : (f.pc == 0) = true
  · rw [if_pos hq]
    generalize (if l.a < c.cap then l.a else c.cap) = M
    split
    · exact keep_none c { f with n := 0 }
    · exact ⟨rfl, rfl⟩
  rw [if_neg hq]
  clear hq
  by_cases hq : (f.pc == 1) = true
  · rw [if_pos hq]
    exact keep_item c f l
  rw [if_neg hq]
  clear hq
  by_cases hq : (f.pc == 3) = true
  · rw [if_pos hq]
    exact ⟨rfl, rfl⟩
  rw [if_neg hq]
  clear hq
  by_cases hq : (f.pc == 4) = true
  · rw [if_pos hq]
    exact ⟨rfl, rfl⟩
  rw [if_neg hq]
  clear hq
  by_cases hq : (f.pc == 5) = true
  · rw [if_pos hq]
    exact ⟨rfl, rfl⟩
  rw [if_neg hq]
  clear hq
  by_cases hq : (f.pc == 6) = true
  · rw [if_pos hq]
    split <;> exact ⟨rfl, rfl⟩
  rw [if_neg hq]
  clear hq
  by_cases hq : (f.pc == 7) = true
  · rw [if_pos hq]
    exact ⟨rfl, rfl⟩
  rw [if_neg hq]
  clear hq
  by_cases hq : (f.pc == 8) = true
  · rw [if_pos hq]
    exact keep_climb c _ { f with h := 0 }
  rw [if_neg hq]
  clear hq
  by_cases hq : (f.pc == 9) = true
  · rw [if_pos hq]
    exact ⟨rfl, rfl⟩
  rw [if_neg hq]
  clear hq
  by_cases hq : (f.pc == 11) = true
  · rw [if_pos hq]
    split
    · exact ⟨rfl, rfl⟩
    · split
      · exact ⟨rfl, rfl⟩
      · exact keep_climb c _ { f with i := f.i + 1, pc := 9 }
  rw [if_neg hq]
  clear hq
  by_cases hq : (f.pc == 12) = true
  · rw [if_pos hq]
    exact keep_climb c _ f
  rw [if_neg hq]
  clear hq
  by_cases hq : (f.pc == 13) = true
  · rw [if_pos hq]
    exact ⟨rfl, rfl⟩
  rw [if_neg hq]
  clear hq
  by_cases hq : (f.pc == 14) = true
  · rw [if_pos hq]
    split <;> exact ⟨rfl, rfl⟩
  rw [if_neg hq]
  clear hq
  by_cases hq : (f.pc == 15) = true
  · rw [if_pos hq]
    exact ⟨rfl, rfl⟩
  rw [if_neg hq]
  clear hq
  by_cases hq : (f.pc == 16) = true
  · rw [if_pos hq]
    exact keep_go { f with j := 0 }
  rw [if_neg hq]
  clear hq
  by_cases hq : (f.pc == 17) = true
  · rw [if_pos hq]
    exact keep_on c (tree.treOver f l)
  rw [if_neg hq]
  clear hq
  exact ⟨rfl, rfl⟩

/-- Behind a frame that may be. -/
theorem pg_reads {c : Cfg} {f : Frm} (l : Cel) (h : pgErr c f = 0) :
    (writesB f.kind = false → (pgNextA c f).kind ≠ 2) ∧ Same f (pgAfterA c f l).1 ∧ ((pgNextA c f).kind = 4 → pgAfterA c f l = (f, false)) := by
  unfold pgErr at h
  unfold pgNextA pgAfterA
  split at h
  · rename_i hp
    simp only [if_pos hp]
    split at h
    · rename_i h1
      have ho : c.object = 1 := by simpa using h1
      simp only [if_pos h1, trie.trNextA, trie.trAfterA, h, beq_self_eq_true, if_true]
      obtain ⟨_, _, hm⟩ := trie.trErr_ok h
      have hm' : (opErr c (trie.trOp f) == 0) = true ∧ trie.trThere f.kind f.pc = true := by
        simp only [trie.trMay, Bool.and_eq_true] at hm
        exact hm.1
      have hk : f.kind = 1 ∨ f.kind = 2 ∨ f.kind = 3 := by
        have h0 := trie.opErr_kind (o := trie.trOp f) (c := c) (by simpa using hm'.1)
        have h3 := h0.trans ho
        change objOf f.kind = 1 at h3
        unfold objOf at h3
        split at h3 <;> (try split at h3) <;> (try split at h3) <;> (try split at h3) <;> (try split at h3) <;> omega
      refine ⟨fun hw => ?_, keep_tr c f l, fun e => ?_⟩
      · have k3 : f.kind = 3 := by
          rcases hk with k | k | k
          · rw [k] at hw; cases hw
          · rw [k] at hw; cases hw
          · exact k
        have ht := hm'.2
        rw [k3] at ht
        simp [trie.trThere] at ht
        unfold trie.trStep
        have ht2 : f.pc = 0 ∨ f.pc = 6 ∨ f.pc = 8 := by omega
        rcases ht2 with p | p | p <;> simp [p]
      · have hpc : f.pc ≠ 0 ∧ f.pc ≠ 1 ∧ f.pc ≠ 2 ∧ f.pc ≠ 3 ∧ f.pc ≠ 5 := by
          refine ⟨?_, ?_, ?_, ?_, ?_⟩ <;> intro p <;> simp [trie.trStep, p] at e
        have : trie.trBehind c f l = f := by simp [trie.trBehind, hpc]
        rw [this]
    · rename_i h1
      simp only [if_neg h1]
      split at h
      · rename_i h2
        simp only [if_pos h2, tree.treNextA, tree.treAfterA, h, beq_self_eq_true, if_true]
        obtain ⟨_, _, hm⟩ := tree.treErr_ok h
        have hh := (tree.treMay_facts hm).2.1
        refine ⟨fun hw => ?_, keep_tre c f l, fun e => ?_⟩
        · have k4 : f.kind ≠ 4 ∧ f.kind ≠ 5 := by constructor <;> intro k <;> rw [k] at hw <;> cases hw
          have hpc : f.pc = 0 ∨ f.pc = 1 ∨ f.pc = 3 ∨ f.pc = 16 ∨ f.pc = 17 ∨ f.pc = 20 ∨ f.pc = 21 ∨ f.pc = 23 := by
            simp [tree.treHas] at hh
            omega
          rcases hpc with p | p | p | p | p | p | p | p <;> simp [tree.treStep, p]
        · have hpc : f.pc ≠ 0 ∧ f.pc ≠ 1 ∧ f.pc ≠ 3 ∧ f.pc ≠ 4 ∧ f.pc ≠ 5 ∧ f.pc ≠ 6 ∧ f.pc ≠ 7 ∧ f.pc ≠ 8 ∧ f.pc ≠ 9 ∧ f.pc ≠ 11 ∧ f.pc ≠ 12 ∧ f.pc ≠ 13 ∧ f.pc ≠ 14 ∧ f.pc ≠ 15 ∧ f.pc ≠ 16 ∧ f.pc ≠ 17 := by
            refine ⟨?_, ?_, ?_, ?_, ?_, ?_, ?_, ?_, ?_, ?_, ?_, ?_, ?_, ?_, ?_, ?_⟩ <;> intro p <;> simp [tree.treStep, p] at e
          simp [tree.treBehind, hpc]
      · rename_i h2
        simp only [if_neg h2]
        split at h
        · rename_i h3
          simp only [if_pos h3, gate.gateNextA, gate.gateAfterA, h, beq_self_eq_true, if_true]
          obtain ⟨_, _, hm⟩ := gate.gateErr_ok (c := c) (f := f) (by simpa using h)
          have hpc := gate.gateMay_pc hm
          refine ⟨fun hw => ?_, keep_gate c f l, fun e => ?_⟩
          · have k9 : f.kind ≠ 9 ∧ f.kind ≠ 10 := by constructor <;> intro k <;> rw [k] at hw <;> cases hw
            have hkd := gate.gateMay_kind hm hp h3
            have hpc2 : f.pc = 0 ∨ f.pc = 20 := by omega
            rcases hpc2 with p | p <;> simp [gate.gateStep, p]
          · have hz : f.pc ≠ 0 ∧ f.pc ≠ 2 := by
              constructor <;> intro p <;> simp [gate.gateStep, p] at e
              split at e <;> cases e
            simp [gate.gateBehind, hz]
        · rename_i h3
          simp only [if_neg h3, branch.brNextA, branch.brAfterA, h, beq_self_eq_true, if_true]
          have hm : branch.brMay c f = true := by
            unfold branch.brErr at h
            split at h
            · split at h
              · assumption
              · cases h
            · cases h
          have hh : branch.brHas f = true := by
            simp only [branch.brMay, Bool.and_eq_true] at hm
            exact hm.1.1.1.1.1.1.1.1.1.2
          refine ⟨fun hw => ?_, keep_br c f l, fun e => ?_⟩
          · have k12 : f.kind ≠ 12 ∧ f.kind ≠ 13 := by constructor <;> intro k <;> rw [k] at hw <;> cases hw
            have hpc : f.pc = 0 ∨ f.pc = 20 ∨ f.pc = 21 := by
              simp [branch.brHas] at hh
              omega
            rcases hpc with p | p | p <;> simp [branch.brStep, p]
          · have hz : f.pc ≠ 0 ∧ f.pc ≠ 2 ∧ f.pc ≠ 3 ∧ f.pc ≠ 4 ∧ f.pc ≠ 5 ∧ f.pc ≠ 6 := by
              refine ⟨?_, ?_, ?_, ?_, ?_, ?_⟩ <;> intro p <;> simp [branch.brStep, p] at e
            simp [branch.brBehind, hz]
  · cases h
end Go.Proofs.YtmhmaifmendebaaDoor
