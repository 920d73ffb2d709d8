/- Plain: a set of access rules, and what an operation does with it; no program in sight. -/
import Derived.Test.YtaijkpfgnlkppaaDoorRws
namespace Go.Proofs.YtaijkpfgnlkppaaDoor.rules
open Go Go.RowKit

/-- What a rule may be. -/
def RuleOk (x : Rw) : Prop := (0 ≤ x.k ∧ x.k < 4294967296) ∧ 1 ≤ x.v ∧ x.v ≤ 2
def ruleB (x : Rw) : Bool := decide (x.k < 4294967296) && (x.v == 1 || x.v == 2)
/-- May rows be rules? -/
def rulesIs (c : Cfg) (L : List Rw) : Bool := partOk c && (c.object == 3) && decide ((L.length : Int) ≤ c.cap) && risesB L && L.all ruleB
theorem rulesIs_ok {c : Cfg} {L : List Rw} (hf : RwsFit L) (h : rulesIs c L = true) : partOk c = true ∧ c.object = 3 ∧ (L.length : Int) ≤ c.cap ∧ Rises L ∧ ∀ x ∈ L, RuleOk x := by
  simp only [rulesIs, Bool.and_eq_true, decide_eq_true_eq, List.all_eq_true, beq_iff_eq, risesB_iff] at h
  obtain ⟨⟨⟨⟨h1, h2⟩, h3⟩, h4⟩, h5⟩ := h
  refine ⟨h1, h2, h3, h4, fun x hx => ?_⟩
  have h6 := h5 x hx
  have h7 := hf x hx
  simp [ruleB] at h6
  exact ⟨⟨h7.k.1, h6.1⟩, by omega, by omega⟩
/-- Does a rule speak of somebody, and something? -/
def speaksB (k who what : Int) : Bool := (k / 65536 == 0 || k / 65536 == who) && (k % 65536 == 0 || k % 65536 == what)
def sayStep (who what : Int) (v : Int) (x : Rw) : Int := if speaksB x.k who what && decide (v < x.v) then x.v else v
/-- What all rules say. -/
def rulesSay (L : List Rw) (who what : Int) : Int := L.foldl (sayStep who what) 0
/-- What comes of an operation: the rows, the code, the word, the error. -/
structure Outc where
  rows : List Rw
  code : Int
  word : Int
  err : Int
def ruleKey (o : Opn) : Int := o.a * 65536 + o.b
def rulesDone (c : Cfg) (L : List Rw) (o : Opn) : Outc :=
  if o.kind == 11 then ⟨L, 0, rulesSay L o.a o.b, 0⟩
  else if o.kind == 9 then
    (match look L (ruleKey o) with
     | some u => ⟨withK (ruleKey o) o.c L, 0, u, 0⟩
     | none => if c.cap ≤ (L.length : Int) then ⟨L, 9, 0, 0⟩ else ⟨withK (ruleKey o) o.c L, 0, 0, 0⟩)
  else
    (match look L (ruleKey o) with
     | some u => ⟨withoutK (ruleKey o) L, 0, u, 0⟩
     | none => ⟨L, 6, 0, 0⟩)
def rulesDo (c : Cfg) (L : List Rw) (o : Opn) : Outc :=
  if partOk c && (c.object == 3) then
    (if rulesIs c L then (if opErr c o == 0 then rulesDone c L o else ⟨L, opErr c o, 0, 0⟩) else ⟨[], 0, 0, 2⟩)
  else ⟨[], 0, 0, 40⟩
theorem rulesDo_conf {c : Cfg} (L : List Rw) (o : Opn) (h : (partOk c && (c.object == 3)) = false) : rulesDo c L o = ⟨[], 0, 0, 40⟩ := by simp [rulesDo, h]
theorem rulesDo_arg {c : Cfg} {L : List Rw} (o : Opn) (h : (partOk c && (c.object == 3)) = true) (h2 : rulesIs c L = false) : rulesDo c L o = ⟨[], 0, 0, 2⟩ := by simp [rulesDo, h, h2]
theorem rulesDo_bad {c : Cfg} {L : List Rw} {o : Opn} (h : (partOk c && (c.object == 3)) = true) (h2 : rulesIs c L = true) (h3 : (opErr c o == 0) = false) : rulesDo c L o = ⟨L, opErr c o, 0, 0⟩ := by simp [rulesDo, h, h2, h3]
theorem rulesDo_ok {c : Cfg} {L : List Rw} {o : Opn} (h : (partOk c && (c.object == 3)) = true) (h2 : rulesIs c L = true) (h3 : (opErr c o == 0) = true) : rulesDo c L o = rulesDone c L o := by simp [rulesDo, h, h2, h3]
theorem rulesSay_take {L : List Rw} (who what : Int) (k : Nat) (h : k < L.length) : (L.take (k + 1)).foldl (sayStep who what) 0 = sayStep who what ((L.take k).foldl (sayStep who what) 0) (L.getD k zrw) := by
  rw [List.take_add_one, List.getElem?_eq_getElem h, getD_rw L k h, List.foldl_append]
  rfl
theorem say_bd {L : List Rw} (h : ∀ x ∈ L, RuleOk x) (who what : Int) (v : Int) (hv : 0 ≤ v ∧ v ≤ 2) : 0 ≤ L.foldl (sayStep who what) v ∧ L.foldl (sayStep who what) v ≤ 2 := by
  induction L generalizing v with
  | nil => exact hv
  | cons x l ih =>
    refine ih (fun y hy => h y (by simp [hy])) _ ?_
    have := h x (by simp)
    unfold RuleOk at this
    unfold sayStep
    split <;> omega
/-- The kinds of an operation on rules. -/
theorem rules_kind {c : Cfg} {o : Opn} (hc : c.object = 3) (h : (opErr c o == 0) = true) : partOk c = true ∧ (o.kind = 9 ∨ o.kind = 10 ∨ o.kind = 11) ∧ fitsB c o = true := by
  have h' : opErr c o = 0 := by simpa using h
  unfold opErr at h'
  split at h'
  · rename_i hp
    split at h'
    · rename_i hk
      split at h'
      · rename_i hf
        refine ⟨hp, ?_, hf⟩
        have hk' : objOf o.kind = c.object := by simpa using hk
        rw [hc] at hk'
        unfold objOf at hk'
        split at hk' <;> (try split at hk') <;> (try split at hk') <;> (try split at hk') <;> (try split at hk') <;> omega
      · omega
    · omega
  · omega
theorem fits_add {c : Cfg} {o : Opn} (h : fitsB c o = true) (k : o.kind = 9) : (o.c = 1 ∨ o.c = 2) ∧ o.a ≤ 65535 ∧ o.b ≤ 65535 := by
  simp [fitsB, k] at h; omega
theorem fits_drop {c : Cfg} {o : Opn} (h : fitsB c o = true) (k : o.kind = 10) : o.a ≤ 65535 ∧ o.b ≤ 65535 := by
  simp [fitsB, k] at h; omega
theorem fits_check {c : Cfg} {o : Opn} (h : fitsB c o = true) (k : o.kind = 11) : (1 ≤ o.a ∧ o.a ≤ 65535) ∧ 1 ≤ o.b ∧ o.b ≤ 65535 := by
  simp [fitsB, k] at h; omega
end Go.Proofs.YtaijkpfgnlkppaaDoor.rules
