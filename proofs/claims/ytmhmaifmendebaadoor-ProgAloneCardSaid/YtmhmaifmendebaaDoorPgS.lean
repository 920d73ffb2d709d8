/- Plain: which frames may start a program of any of the four objects. -/
import Derived.Test.YtmhmaifmendebaaDoorA1
import Derived.Test.YtmhmaifmendebaaDoorGk
namespace Go.Proofs.YtmhmaifmendebaaDoor
open Go Go.RowKit
set_option maxRecDepth 100000
set_option maxHeartbeats 8000000

/-- An operation without the numbers that its program has no use of, and the frame that starts it. -/
def pgOp (o : Opn) : Opn := ⟨o.kind, o.a, if o.kind == 5 then 0 else o.b, if o.kind == 1 || o.kind == 9 || o.kind == 12 then o.c else 0⟩
abbrev pgStart (o : Opn) : Frm := ⟨o.kind, o.a, o.b, 0, 0, 0, 0, 0, 0, 0, o.c⟩
theorem objOf_kinds {k j : Int} (h : objOf k = j) : (j = 1 → k = 1 ∨ k = 2 ∨ k = 3) ∧ (j = 2 → k = 4 ∨ k = 5 ∨ k = 6 ∨ k = 7 ∨ k = 8) ∧ (j = 3 → k = 9 ∨ k = 10 ∨ k = 11) ∧ (j = 4 → k = 12 ∨ k = 13 ∨ k = 14) := by
  unfold objOf at h
  split at h
  · omega
  · split at h
    · omega
    · split at h
      · omega
      · split at h
        · omega
        · split at h <;> omega
theorem opErr_other {c : Cfg} {p q : Opn} (hk : p.kind = q.kind) (h : objOf p.kind = c.object → p = q) : opErr c p = opErr c q := by
  by_cases e : objOf p.kind = c.object
  · rw [h e]
  · unfold opErr
    rw [← hk]
    have : (objOf p.kind == c.object) = false := by simpa using e
    rw [this]
    rfl
theorem start_tr {c : Cfg} {o : Opn} (ho : o.Fits) (hp : partOk c = true) (h1 : c.object = 1) : trie.trMay c (pgStart o) = (opErr c (pgOp o) == 0) := by
  have e : opErr c (trie.trOp (pgStart o)) = opErr c (pgOp o) := opErr_other rfl fun hk => by
    have := (objOf_kinds (hk.trans h1)).1 rfl
    simp only [trie.trOp, pgOp] at this ⊢
    rcases this with h | h | h <;> rw [h] <;> rfl
  have hb := ho.b
  have hbits : 0 ≤ c.bits := by
    simp [partOk, within, h1] at hp
    omega
  have h2 : trie.trThere o.kind 0 = true := by
    unfold trie.trThere
    split
    · rfl
    · split <;> rfl
  have h3 : (0 : Int) ≤ trie.trMost c (pgStart o) := by
    unfold trie.trMost
    split
    · exact hbits
    · exact hb.1
  simp only [trie.trMay, e, h2, pgStart, Bool.and_true]
  rw [decide_eq_true (by exact h3), Bool.and_true]
theorem start_tre {c : Cfg} {o : Opn} (hp : partOk c = true) (h1 : c.object = 2) : tree.treMay c (pgStart o) = (opErr c (pgOp o) == 0) := by
  have e : opErr c (tree.treOp (pgStart o)) = opErr c (pgOp o) := opErr_other rfl fun hk => by
    have := (objOf_kinds (hk.trans h1)).2.1 rfl
    simp only [tree.treOp, pgOp] at this ⊢
    rcases this with h | h | h | h | h <;> rw [h] <;> rfl
  have hc := tree.treOk_of hp h1
  have hcap := hc.cap
  have hchunk := hc.chunk
  have htop := tree.topI_bd c.cap c.node
  change 0 ≤ tree.treTop c ∧ tree.treTop c ≤ 4 at htop
  have h2 : tree.treHas (pgStart o) = true := rfl
  have h3 : tree.treNum c (pgStart o) = true := by
    have e1 : decide ((0 : Int) ≤ c.cap) = true := by simp; omega
    have e2 : decide ((0 : Int) ≤ c.chunk) = true := by simp; omega
    have e3 : decide ((0 : Int) ≤ tree.treTop c) = true := by simp; omega
    have e4 : ((0 : Int) == c.chunk) = false := by simp; omega
    simp only [tree.treNum, e1, e2, e3, e4]
    rfl
  have h4 : (tree.treStep c (pgStart o)).at' = 0 := rfl
  simp [tree.treMay, e, h2, h3, h4]
theorem start_gate {c : Cfg} {o : Opn} (hp : partOk c = true) (h1 : c.object = 3) : gate.gateMay c (pgStart o) = (opErr c (pgOp o) == 0) := by
  have e : opErr c (gate.gateOp (pgStart o)) = opErr c (pgOp o) := opErr_other rfl fun hk => by
    have := (objOf_kinds (hk.trans h1)).2.2.1 rfl
    simp only [gate.gateOp, pgOp] at this ⊢
    rcases this with h | h | h <;> rw [h] <;> rfl
  have hcap : 0 < c.cap := by
    simp [partOk, within, h1] at hp
    omega
  have e1 : decide ((0 : Int) < c.cap) = true := by simpa using hcap
  simp only [gate.gateMay, e, pgStart, e1, gate.gatePc, Bool.and_true]
  simp
theorem start_br {c : Cfg} {o : Opn} (_ho : o.Fits) (hp : partOk c = true) (h1 : c.object = 4) : branch.brMay c (pgStart o) = (opErr c (pgOp o) == 0) := by
  have e : opErr c (branch.brOp (pgStart o)) = opErr c (pgOp o) := opErr_other rfl fun hk => by
    have := (objOf_kinds (hk.trans h1)).2.2.2 rfl
    simp only [branch.brOp, pgOp] at this ⊢
    rcases this with h | h | h <;> rw [h] <;> rfl
  have hcap : 0 < c.cap := by
    simp [partOk, within, h1] at hp
    omega
  cases h0 : (opErr c (pgOp o) == 0)
  · simp only [branch.brMay, e, h0, Bool.false_and]
  · have hz : opErr c (pgOp o) = 0 := by simpa using h0
    have hk : objOf o.kind = c.object := by
      cases q : (objOf (pgOp o).kind == c.object)
      · rw [opErr_op hp q] at hz
        omega
      · have q' : objOf (pgOp o).kind = c.object := by simpa using q
        exact q'
    have hft : fitsB c (pgOp o) = true := by
      cases q : fitsB c (pgOp o)
      · rw [opErr_over (o := pgOp o) hp (beq_iff_eq.2 hk) q] at hz
        omega
      · rfl
    have hkd := (objOf_kinds (hk.trans h1)).2.2.2 rfl
    have hpath := branch.fits_path hft (by show 12 ≤ o.kind; omega)
    have hb5 : (o.kind == 5) = false := by simp; omega
    have hpa : pathB o.a o.b = true := by simpa [pgOp, hb5] using hpath
    have hl : 1 ≤ branch.brLong (pgStart o) := by
      unfold branch.brLong
      simp [pathB] at hpa
      split
      · rename_i h; simp only [beq_iff_eq] at h; omega
      · split
        · omega
        · split <;> omega
    have e1 : decide ((0 : Int) ≤ c.cap) = true := by simp; omega
    have e2 : decide ((0 : Int) ≤ branch.brLong (pgStart o)) = true := by simp; omega
    have e3 : ((0 : Int) == branch.brLong (pgStart o)) = false := by simp; omega
    have e4 : decide ((0 : Int) < c.cap) = true := by simpa using hcap
    have h5 : branch.brHas (pgStart o) = true := rfl
    have h6 : branch.brAt (pgStart o) = 0 := rfl
    simp only [branch.brMay, e, h0, h5, h6, e2, e3, e1, e4]
    rfl
/-- What a frame that starts does. -/
theorem pgStart_err {c : Cfg} {o : Opn} (ho : o.Fits) : pgErr c (pgStart o) = if opErr c (pgOp o) == 40 then 40 else if opErr c (pgOp o) == 0 then 0 else 2 := by
  cases hp : partOk c
  · have e : opErr c (pgOp o) = 40 := by unfold opErr; rw [hp]; rfl
    rw [e]
    simp [pgErr, hp]
  · have e : (opErr c (pgOp o) == 40) = false := by
      cases q : (objOf (pgOp o).kind == c.object)
      · rw [opErr_op hp q]; rfl
      · cases q2 : fitsB c (pgOp o)
        · rw [opErr_over hp q q2]; rfl
        · rw [opErr_ok hp q q2]; rfl
    rw [e]
    have key : ∀ b : Bool, (if b then (0 : Int) else 2) = if b then 0 else 2 := fun _ => rfl
    rcases pg_obj hp with h1 | ⟨h1, h2⟩ | ⟨h1, h2, h3⟩ | ⟨h1, h2, h3, h4⟩
    · have := start_tr ho hp (by simpa using h1)
      simp only [pgErr, hp, h1, trie.trErr, this]
      simp
    · have := start_tre (o := o) hp (by simpa using h2)
      simp only [pgErr, hp, h1, h2, tree.treErr, this]
      simp
    · have := start_gate (o := o) hp (by simpa using h3)
      simp only [pgErr, hp, h1, h2, h3, gate.gateErr, this]
      simp
    · have := start_br ho hp (by simpa using h4)
      simp only [pgErr, hp, h1, h2, h3, h4, branch.brErr, this]
      simp
theorem pgStart_reads {c : Cfg} {o : Opn} (h : pgErr c (pgStart o) = 0) : (pgNextA c (pgStart o)).kind = 1 := by
  unfold pgErr at h
  unfold pgNextA
  split at h
  · rename_i hp
    rw [if_pos hp]
    split at h
    · rename_i h1
      rw [if_pos h1]
      simp [trie.trNextA, h, trie.trStep]
    · rename_i h1
      rw [if_neg h1]
      split at h
      · rename_i h2
        rw [if_pos h2]
        simp [tree.treNextA, h, tree.treStep]
      · rename_i h2
        rw [if_neg h2]
        split at h
        · rename_i h3
          rw [if_pos h3]
          simp [gate.gateNextA, h, gate.gateStep]
        · rename_i h3
          rw [if_neg h3]
          simp [branch.brNextA, h, branch.brStep]
  · cases h

/-- What a program does hangs on its object, and that one's sizes, alone. -/
theorem pg_alone {c d : Cfg} {f : Frm} (l : Cel) (hd : d.object = c.object ∧ d.bits = c.bits ∧ d.cap = c.cap ∧ d.node = c.node ∧ d.chunk = c.chunk) (hc : partOk c = true) (hq : partOk d = true) :
    pgErr d f = pgErr c f ∧ pgNextA d f = pgNextA c f ∧ pgAfterA d f l = pgAfterA c f l := by
  obtain ⟨h1, h2, h3, h4, h5⟩ := hd
  have hop : ∀ o, opErr d o = opErr c o := fun o => by
    unfold opErr fitsB
    rw [hc, hq, h1, h2]
  have t1 : trie.trErr d f = trie.trErr c f := by
    have hm : trie.trMay d f = trie.trMay c f := by unfold trie.trMay trie.trMost; rw [hop, h2]
    unfold trie.trErr
    rw [hc, hq, h1, hm]
  have ts : trie.trStep d f = trie.trStep c f := by
    have hm : trie.trMost d f = trie.trMost c f := by unfold trie.trMost; rw [h2]
    have hM : trie.trM d f = trie.trM c f := by unfold trie.trM; rw [hm]
    have hD : trie.trD d f = trie.trD c f := by unfold trie.trD; rw [hM, hm]
    unfold trie.trStep
    rw [hM, hD]
  have tb : trie.trBehind d f l = trie.trBehind c f l := by
    unfold trie.trBehind trie.trLook trie.trLooked
    rw [h2, h3]
  have g1 : gate.gateErr d f = gate.gateErr c f := by
    unfold gate.gateErr gate.gateMay
    rw [hc, hq, h1, h3, hop]
  have gb : gate.gateBehind d f l = gate.gateBehind c f l := by
    unfold gate.gateBehind gate.gateSeek gate.gateMore
    rw [h3]
  have b1 : branch.brErr d f = branch.brErr c f := by
    unfold branch.brErr branch.brMay
    rw [hc, hq, h1, h3, hop]
  have bb : branch.brBehind d f l = branch.brBehind c f l := by
    unfold branch.brBehind branch.brOther branch.brMade branch.brMore
    rw [h3]
  have u1 : ∀ n h, tree.treUp d n h = tree.treUp c n h := fun n h => by unfold tree.treUp; rw [h4]
  have u2 : tree.treTop d = tree.treTop c := by unfold tree.treTop; rw [h3, h4]
  have u3 : ∀ h i, tree.treOff d h i = tree.treOff c h i := fun h i => by unfold tree.treOff; rw [h3, h4]
  have us : tree.treStep d f = tree.treStep c f := by
    unfold tree.treStep
    simp only [u1, u3, h4]
  have um : tree.treMay d f = tree.treMay c f := by
    unfold tree.treMay tree.treNum
    rw [hop, h3, h5, u2, u1, us]
  have e1 : tree.treErr d f = tree.treErr c f := by
    unfold tree.treErr
    rw [hc, hq, h1, um]
  have ucl : ∀ g, tree.treClears d g = tree.treClears c g := fun g => by
    unfold tree.treClears
    simp only [u1, h3]
  have uk : ∀ (k : Nat) (g : Frm), tree.treClimb d k g = tree.treClimb c k g := by
    intro k
    induction k with
    | zero => intro g; rfl
    | succ k ih =>
      intro g
      unfold tree.treClimb
      simp only [u1, h4, ucl, ih]
  have uu : ∀ g, tree.treUpw d g = tree.treUpw c g := fun g => by
    unfold tree.treUpw
    rw [u2, uk]
  have uf : ∀ g, tree.treFresh d g = tree.treFresh c g := fun g => by unfold tree.treFresh; rw [h3]
  have uo : ∀ g, tree.treOn d g = tree.treOn c g := fun g => by unfold tree.treOn; rw [h5]
  have ufd : ∀ g, tree.treFound d g = tree.treFound c g := fun g => by unfold tree.treFound; rw [uo, uf]
  have un : ∀ g, tree.treNone d g = tree.treNone c g := fun g => by unfold tree.treNone; rw [uf]
  have ui : tree.treItem d f l = tree.treItem c f l := by
    unfold tree.treItem
    rw [ufd, un, h4, u1]
  have ub : tree.treBehind d f l = tree.treBehind c f l := by
    unfold tree.treBehind
    simp only [un, uu, uo, ui, ucl, u1, u2, h3]
  refine ⟨?_, ?_, ?_⟩
  · simp only [pgErr, hc, hq, h1, t1, g1, b1, e1]
  · simp only [pgNextA, hc, hq, h1, trie.trNextA, gate.gateNextA, branch.brNextA, tree.treNextA, t1, g1, b1, e1, ts, us]
  · simp only [pgAfterA, hc, hq, h1, trie.trAfterA, gate.gateAfterA, branch.brAfterA, tree.treAfterA, t1, g1, b1, e1, tb, gb, bb, ub]
end Go.Proofs.YtmhmaifmendebaaDoor
