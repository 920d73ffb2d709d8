/- Plain: a set of access rules, and what an operation does with it; no program in sight. -/
import Derived.Test.YtknfikdignpniaaDoorRws
import Derived.Test.YtknfikdignpniaaDoorRef6b
import Derived.Test.YtknfikdignpniaaDoorCheck
import Derived.Deep.QuietTactic
import Derived.BigQuiet
import Derived.Deep.RegionHeld3
import Derived.Outline
import Derived.Test.YtknfikdignpniaaDoorLawP
namespace Go.Proofs.YtknfikdignpniaaDoor.rules
open Go Go.RowKit
set_option maxRecDepth 100000
set_option maxHeartbeats 8000000

/-- What a rule may be. -/
def RuleOk (x : Rw) : Prop := (0 ≤ x.k ∧ x.k < 4294967296) ∧ 1 ≤ x.v ∧ x.v ≤ 2
def ruleB (x : Rw) : Bool := decide (x.k < 4294967296) && (x.v == 1 || x.v == 2)
/-- May rows be rules? -/
def rulesIs (c : Cfg) (L : List Rw) : Bool := partOk c && (c.object == 3) && decide ((L.length : Int) ≤ c.cap) && risesB L && L.all ruleB
theorem rulesIs_ok {c : Cfg} {L : List Rw} (hf : RwsFit L) (h : rulesIs c L = true) : partOk c = true ∧ c.object = 3 ∧ (L.length : Int) ≤ c.cap ∧ Rises L ∧ ∀ x ∈ L, RuleOk x := by
  simp only [rulesIs, Bool.and_eq_true, decide_eq_true_eq, List.all_eq_true, beq_iff_eq, risesB_iff] at h
  obtain ⟨⟨⟨⟨h1, h2⟩, h3⟩, h4⟩, h5⟩ := h
  refine ⟨h1, h2, h3, h4, fun x hx => ?_⟩
  have h6 := h5 x hx
  have h7 := hf x hx
  simp [ruleB] at h6
  exact ⟨⟨h7.k.1, h6.1⟩, by omega, by omega⟩
/-- Does a rule speak of somebody, and something? -/
def speaksB (k who what : Int) : Bool := (k / 65536 == 0 || k / 65536 == who) && (k % 65536 == 0 || k % 65536 == what)
def sayStep (who what : Int) (v : Int) (x : Rw) : Int := if speaksB x.k who what && decide (v < x.v) then x.v else v
/-- What all rules say. -/
def rulesSay (L : List Rw) (who what : Int) : Int := L.foldl (sayStep who what) 0
/-- What comes of an operation: the rows, the code, the word, the error. -/
structure Outc where
  rows : List Rw
  code : Int
  word : Int
  err : Int
def ruleKey (o : Opn) : Int := o.a * 65536 + o.b
def rulesDone (c : Cfg) (L : List Rw) (o : Opn) : Outc :=
  if o.kind == 11 then ⟨L, 0, rulesSay L o.a o.b, 0⟩
  else if o.kind == 9 then
    (match look L (ruleKey o) with
     | some u => ⟨withK (ruleKey o) o.c L, 0, u, 0⟩
     | none => if c.cap ≤ (L.length : Int) then ⟨L, 9, 0, 0⟩ else ⟨withK (ruleKey o) o.c L, 0, 0, 0⟩)
  else
    (match look L (ruleKey o) with
     | some u => ⟨withoutK (ruleKey o) L, 0, u, 0⟩
     | none => ⟨L, 6, 0, 0⟩)
def rulesDo (c : Cfg) (L : List Rw) (o : Opn) : Outc :=
  if partOk c && (c.object == 3) then
    (if rulesIs c L then (if opErr c o == 0 then rulesDone c L o else ⟨L, opErr c o, 0, 0⟩) else ⟨[], 0, 0, 2⟩)
  else ⟨[], 0, 0, 40⟩
theorem rulesDo_conf {c : Cfg} (L : List Rw) (o : Opn) (h : (partOk c && (c.object == 3)) = false) : rulesDo c L o = ⟨[], 0, 0, 40⟩ := by simp [rulesDo, h]
theorem rulesDo_arg {c : Cfg} {L : List Rw} (o : Opn) (h : (partOk c && (c.object == 3)) = true) (h2 : rulesIs c L = false) : rulesDo c L o = ⟨[], 0, 0, 2⟩ := by simp [rulesDo, h, h2]
theorem rulesDo_bad {c : Cfg} {L : List Rw} {o : Opn} (h : (partOk c && (c.object == 3)) = true) (h2 : rulesIs c L = true) (h3 : (opErr c o == 0) = false) : rulesDo c L o = ⟨L, opErr c o, 0, 0⟩ := by simp [rulesDo, h, h2, h3]
theorem rulesDo_ok {c : Cfg} {L : List Rw} {o : Opn} (h : (partOk c && (c.object == 3)) = true) (h2 : rulesIs c L = true) (h3 : (opErr c o == 0) = true) : rulesDo c L o = rulesDone c L o := by simp [rulesDo, h, h2, h3]
theorem rulesSay_take {L : List Rw} (who what : Int) (k : Nat) (h : k < L.length) : (L.take (k + 1)).foldl (sayStep who what) 0 = sayStep who what ((L.take k).foldl (sayStep who what) 0) (L.getD k zrw) := by
  rw [List.take_add_one, List.getElem?_eq_getElem h, getD_rw L k h, List.foldl_append]
  rfl
theorem say_bd {L : List Rw} (h : ∀ x ∈ L, RuleOk x) (who what : Int) (v : Int) (hv : 0 ≤ v ∧ v ≤ 2) : 0 ≤ L.foldl (sayStep who what) v ∧ L.foldl (sayStep who what) v ≤ 2 := by
  induction L generalizing v with
  | nil => exact hv
  | cons x l ih =>
    refine ih (fun y hy => h y (by simp [hy])) _ ?_
    have := h x (by simp)
    unfold RuleOk at this
    unfold sayStep
    split <;> omega
/-- The kinds of an operation on rules. -/
theorem rules_kind {c : Cfg} {o : Opn} (hc : c.object = 3) (h : (opErr c o == 0) = true) : partOk c = true ∧ (o.kind = 9 ∨ o.kind = 10 ∨ o.kind = 11) ∧ fitsB c o = true := by
  have h' : opErr c o = 0 := by simpa using h
  unfold opErr at h'
  split at h'
  · rename_i hp
    split at h'
    · rename_i hk
      split at h'
      · rename_i hf
        refine ⟨hp, ?_, hf⟩
        have hk' : objOf o.kind = c.object := by simpa using hk
        rw [hc] at hk'
        unfold objOf at hk'
        split at hk' <;> (try split at hk') <;> (try split at hk') <;> (try split at hk') <;> (try split at hk') <;> omega
      · omega
    · omega
  · omega
theorem fits_add {c : Cfg} {o : Opn} (h : fitsB c o = true) (k : o.kind = 9) : (o.c = 1 ∨ o.c = 2) ∧ o.a ≤ 65535 ∧ o.b ≤ 65535 := by
  simp [fitsB, k] at h; omega
theorem fits_drop {c : Cfg} {o : Opn} (h : fitsB c o = true) (k : o.kind = 10) : o.a ≤ 65535 ∧ o.b ≤ 65535 := by
  simp [fitsB, k] at h; omega
theorem fits_check {c : Cfg} {o : Opn} (h : fitsB c o = true) (k : o.kind = 11) : (1 ≤ o.a ∧ o.a ≤ 65535) ∧ 1 ≤ o.b ∧ o.b ≤ 65535 := by
  simp [fitsB, k] at h; omega
end Go.Proofs.YtknfikdignpniaaDoor.rules
/- The walks of the document's answer for a set of rules (layer 8): 'Done', 'Do'. -/
namespace Go.Proofs.YtknfikdignpniaaDoor.rules
open Go Go.RowKit
set_option maxRecDepth 100000
set_option maxHeartbeats 8000000

abbrev resV (code word : Int) : Value := .agg #[.int .i64 code, .int .u32 word, .slice none 0 0]
def DoneP (w : World) (Z : Outc) (e : Ending) (w' : World) : Prop := ∃ r, e = .returned (.tuple #[r, resV Z.code Z.word]) ∧ Rws w' r Z.rows ∧ Ext w w'
theorem done_p {w w' : World} {Z : Outc} {r : Value} {rows : List Rw} {code word err : Int} (hZ : Z = ⟨rows, code, word, err⟩) (h1 : Rws w' r rows) (h2 : Ext w w') : DoneP w Z (.returned (.tuple #[r, resV code word])) w' := by
  subst hZ
  exact ⟨r, rfl, h1, h2⟩
theorem own_swap {B B' : World} (hs : B'.heap.size = B.heap.size) {os : Array Obj} {d d' base : Nat} {e : TypeId} {size n : Nat} {v : Value} {xs : List Value} (h : (grew B os d).ownsRow base e size v n xs) (hb : B.heap.size ≤ base) : (grew B' os d').ownsRow base e size v n xs :=
  own_of h fun _ hg _ => heap_grew_ge hs os d d' (by omega)
theorem rws_swap {B B' : World} (hs : B'.heap.size = B.heap.size) {os : Array Obj} {d d' base : Nat} {e : TypeId} {v : Value} {L : List Rw} (h : (grew B os d).ownsRow base e 2 v L.length (rwCells L)) (hb : B.heap.size ≤ base) : Rws (grew B' os d') v L :=
  own_rws (own_swap hs h hb)
end Go.Proofs.YtknfikdignpniaaDoor.rules
/- The walk of the document's answer for a set of rules (layer 8): 'Do'. -/
namespace Go.Proofs.YtknfikdignpniaaDoor.rules
open Go Go.RowKit
set_option maxRecDepth 100000
set_option maxHeartbeats 8000000

def DoP (w : World) (Z : Outc) (e : Ending) (w' : World) : Prop := ∃ r, e = .returned (.tuple #[r, resV Z.code Z.word, .int .i64 Z.err]) ∧ w'.ownsRow w.heap.size 44 2 r Z.rows.length (rwCells Z.rows) ∧ Ext w w'
theorem do_p {w w' : World} {Z : Outc} {r : Value} {rows : List Rw} {code word err : Int} (hZ : Z = ⟨rows, code, word, err⟩) (h1 : w'.ownsRow w.heap.size 44 2 r rows.length (rwCells rows)) (h2 : Ext w w') : DoP w Z (.returned (.tuple #[r, resV code word, .int .i64 err])) w' := by
  subst hZ
  exact ⟨r, rfl, h1, h2⟩
theorem own_low {w : World} {base lo : Nat} {e : TypeId} {size n : Nat} {v : Value} {xs : List Value} (h : w.ownsRow base e size v n xs) (hl : lo ≤ base) : w.ownsRow lo e size v n xs := by
  obtain ⟨h1, h2⟩ := h
  refine ⟨h1, ?_⟩
  rcases h2 with h | ⟨g, cap, cur, hv, hg, hr⟩
  · exact Or.inl h
  · exact Or.inr ⟨g, cap, cur, hv, by omega, hr⟩
theorem rulesDone_len (c : Cfg) (L : List Rw) (o : Opn) : (rulesDone c L o).rows.length ≤ L.length + 1 := by
  unfold rulesDone
  have h1 := withK_len_le (ruleKey o) o.c L
  have h2 := withoutK_len (ruleKey o) L
  split
  · dsimp only; omega
  · split
    · split
      · dsimp only; omega
      · split <;> dsimp only <;> omega
    · split <;> dsimp only <;> omega
theorem rulesDone_err (c : Cfg) (L : List Rw) (o : Opn) : (rulesDone c L o).err = 0 := by
  unfold rulesDone
  split
  · rfl
  · split
    · split
      · rfl
      · split <;> rfl
    · split <;> rfl
def DoneAs (c : Cfg) (L : List Rw) (o : Opn) (M : List Rw) (dc dw : Int) : Prop := o.Fits ∧ (∀ x ∈ L, RuleOk x) ∧ Rises L ∧ L.length ≤ 10000 ∧ (o.kind = 9 ∨ o.kind = 10 ∨ o.kind = 11) ∧ o.a ≤ 65535 ∧ o.b ≤ 65535 ∧ rulesDone c L o = ⟨M, dc, dw, 0⟩
end Go.Proofs.YtknfikdignpniaaDoor.rules
/- Plain: what the laws of a set of access rules say of its answers; no program in sight. -/
namespace Go.Proofs.YtknfikdignpniaaDoor.rules
open Go Go.RowKit
set_option maxRecDepth 100000
set_option maxHeartbeats 8000000

theorem rul_err {c : Cfg} {L : List Rw} {o : Opn} {M : List Rw} {dc dw de : Int} (h : rulesDo c L o = ⟨M, dc, dw, de⟩) (he : ¬ de = 0) : M = [] ∧ rulesIs c L = false := by
  cases h1 : (partOk c && (c.object == 3))
  · rw [rulesDo_conf L o h1] at h
    cases h
    exact ⟨rfl, by simp [rulesIs, h1]⟩
  · cases h2 : rulesIs c L
    · rw [rulesDo_arg o h1 h2] at h
      cases h
      exact ⟨rfl, rfl⟩
    · exfalso
      cases h3 : (opErr c o == 0)
      · rw [rulesDo_bad h1 h2 h3] at h
        cases h
        exact he rfl
      · rw [rulesDo_ok h1 h2 h3] at h
        unfold rulesDone at h
        split at h
        · cases h; exact he rfl
        · split at h
          · split at h
            · cases h; exact he rfl
            · split at h <;> (cases h; exact he rfl)
          · split at h <;> (cases h; exact he rfl)
/-- What an answer without an error is. -/
theorem rul_ways {c : Cfg} {L : List Rw} {o : Opn} {M : List Rw} {dc dw : Int} (hf : RwsFit L) (h : rulesDo c L o = ⟨M, dc, dw, 0⟩) :
    rulesIs c L = true ∧ ((M = L ∧ (¬ dc = 0 ∨ o.kind = 11) ∧ (o.kind = 11 → dc = 0 → dw = rulesSay L o.a o.b ∧ 1 ≤ o.a ∧ o.a ≤ 65535 ∧ 1 ≤ o.b ∧ o.b ≤ 65535)) ∨
      (dc = 0 ∧ o.kind = 9 ∧ M = withK (ruleKey o) o.c L ∧ (o.c = 1 ∨ o.c = 2) ∧ o.a ≤ 65535 ∧ o.b ≤ 65535 ∧ (M.length : Int) ≤ c.cap ∧ ((look L (ruleKey o) = none ∧ dw = 0) ∨ look L (ruleKey o) = some dw)) ∨
      (dc = 0 ∧ o.kind = 10 ∧ M = withoutK (ruleKey o) L ∧ o.a ≤ 65535 ∧ o.b ≤ 65535)) := by
  cases h1 : (partOk c && (c.object == 3))
  · rw [rulesDo_conf L o h1] at h
    cases h
  · cases h2 : rulesIs c L
    · rw [rulesDo_arg o h1 h2] at h
      cases h
    · refine ⟨rfl, ?_⟩
      obtain ⟨_, hobj, hcap, hr, _⟩ := rulesIs_ok hf h2
      cases h3 : (opErr c o == 0)
      · rw [rulesDo_bad h1 h2 h3] at h
        cases h
        have h3' : ¬ opErr c o = 0 := by simpa using h3
        exact Or.inl ⟨rfl, Or.inl h3', fun _ e => absurd e h3'⟩
      · rw [rulesDo_ok h1 h2 h3] at h
        obtain ⟨_, hk, hft⟩ := rules_kind hobj h3
        unfold rulesDone at h
        split at h
        · rename_i h11
          have h11' : o.kind = 11 := by simpa using h11
          cases h
          have := fits_check hft h11'
          exact Or.inl ⟨rfl, Or.inr h11', fun _ _ => ⟨rfl, by omega⟩⟩
        · rename_i h11
          split at h
          · rename_i h9
            have h9' : o.kind = 9 := by simpa using h9
            obtain ⟨f1, f2, f3⟩ := fits_add hft h9'
            split at h
            · rename_i u hu
              cases h
              exact Or.inr (Or.inl ⟨rfl, h9', rfl, f1, f2, f3, by rw [withK_len_some _ _ hr hu]; exact hcap, Or.inr hu⟩)
            · rename_i hu
              split at h
              · cases h
                exact Or.inl ⟨rfl, Or.inl (by decide), fun e => by omega⟩
              · rename_i hc
                cases h
                exact Or.inr (Or.inl ⟨rfl, h9', rfl, f1, f2, f3, by rw [withK_len _ _ hu]; omega, Or.inl ⟨hu, rfl⟩⟩)
          · rename_i h9
            have h10 : o.kind = 10 := by simp at h9 h11; omega
            obtain ⟨f2, f3⟩ := fits_drop hft h10
            split at h
            · rename_i u hu
              cases h
              exact Or.inr (Or.inr ⟨rfl, h10, rfl, f2, f3⟩)
            · cases h
              exact Or.inl ⟨rfl, Or.inl (by decide), fun e => by omega⟩
theorem rulesIs_mk {c : Cfg} {L M : List Rw} (hf : RwsFit L) (h : rulesIs c L = true) (h1 : (M.length : Int) ≤ c.cap) (h2 : Rises M) (h3 : ∀ x ∈ M, RuleOk x) : rulesIs c M = true := by
  obtain ⟨hp, ho, _, _, _⟩ := rulesIs_ok hf h
  simp only [rulesIs, Bool.and_eq_true, decide_eq_true_eq, List.all_eq_true, beq_iff_eq, risesB_iff]
  refine ⟨⟨⟨⟨hp, ho⟩, h1⟩, h2⟩, fun x hx => ?_⟩
  obtain ⟨⟨a, b⟩, d, e⟩ := h3 x hx
  simp [ruleB, b]
  omega
theorem key_bd {o : Opn} (ho : o.Fits) (ha : o.a ≤ 65535) (hb : o.b ≤ 65535) : 0 ≤ ruleKey o ∧ ruleKey o < 4294967296 := by
  have := ho.a; have := ho.b
  unfold ruleKey; omega
theorem rul_is {c : Cfg} {L : List Rw} {o : Opn} {M : List Rw} {dc dw : Int} (hf : RwsFit L) (ho : o.Fits) (h : rulesDo c L o = ⟨M, dc, dw, 0⟩) : rulesIs c M = true := by
  obtain ⟨hi, hw⟩ := rul_ways hf h
  obtain ⟨_, _, hcap, hr, hk⟩ := rulesIs_ok hf hi
  rcases hw with ⟨rfl, _⟩ | ⟨_, _, rfl, h1, h2, h3, h4, _⟩ | ⟨_, _, rfl, _⟩
  · exact hi
  · refine rulesIs_mk hf hi h4 (rises_withK _ _ hr) fun x hx => ?_
    rcases withK_mem hx with rfl | hx
    · exact ⟨key_bd ho h2 h3, by dsimp only; omega⟩
    · exact hk x hx
  · refine rulesIs_mk hf hi ?_ (rises_withoutK _ hr) fun x hx => hk x (withoutK_sub _ _ x hx)
    have := withoutK_len (ruleKey o) L
    omega
theorem rul_same {c : Cfg} {L : List Rw} {o : Opn} {M : List Rw} {dc dw : Int} (hf : RwsFit L) (h : rulesDo c L o = ⟨M, dc, dw, 0⟩) (hs : ¬ dc = 0 ∨ o.kind = 11) : M = L := by
  obtain ⟨_, hw⟩ := rul_ways hf h
  rcases hw with ⟨h, _⟩ | ⟨h1, h2, _⟩ | ⟨h1, h2, _⟩
  · exact h
  · omega
  · omega
theorem rul_other {c : Cfg} {L : List Rw} {o : Opn} {M : List Rw} {dw : Int} (hf : RwsFit L) (h : rulesDo c L o = ⟨M, 0, dw, 0⟩) (hs : ¬ o.kind = 11) :
    o.a ≤ 65535 ∧ o.b ≤ 65535 ∧ withoutK (ruleKey o) M = withoutK (ruleKey o) L ∧ decide (0 ≤ findK M (ruleKey o)) = (o.kind == 9) := by
  obtain ⟨hi, hw⟩ := rul_ways hf h
  obtain ⟨_, _, _, hr, _⟩ := rulesIs_ok hf hi
  rw [findK_neg]
  rcases hw with ⟨_, h1, _⟩ | ⟨_, h1, rfl, _, h2, h3, _⟩ | ⟨_, h1, rfl, h2, h3⟩
  · omega
  · exact ⟨h2, h3, withoutK_withK _ _ hr, by rw [look_withK _ _ hr, h1]; simp⟩
  · exact ⟨h2, h3, withoutK_idem _ _, by rw [look_withoutK, h1]; simp⟩
theorem rul_len {c : Cfg} {L : List Rw} {o : Opn} {M : List Rw} {dc dw de : Int} (hf : RwsFit L) (h : rulesDo c L o = ⟨M, dc, dw, de⟩) : M.length ≤ L.length + 1 := by
  by_cases he : de = 0
  · subst he
    obtain ⟨_, hw⟩ := rul_ways hf h
    rcases hw with ⟨rfl, _⟩ | ⟨_, _, rfl, _⟩ | ⟨_, _, rfl, _⟩
    · omega
    · exact (withK_len_le _ _ _).2
    · have := withoutK_len (ruleKey o) L; omega
  · rw [(rul_err h he).1]; simp
theorem rul_fit {c : Cfg} {L : List Rw} {o : Opn} {M : List Rw} {dc dw de : Int} (hf : RwsFit L) (ho : o.Fits) (h : rulesDo c L o = ⟨M, dc, dw, de⟩) : RwsFit M := by
  by_cases he : de = 0
  · subst he
    obtain ⟨_, hw⟩ := rul_ways hf h
    rcases hw with ⟨rfl, _⟩ | ⟨_, _, rfl, _, h2, h3, _⟩ | ⟨_, _, rfl, _⟩
    · exact hf
    · have := key_bd ho h2 h3
      have := ho.c
      exact fits_withK hf (by omega) (by omega)
    · exact fits_withoutK hf
  · rw [(rul_err h he).1]; exact fun x hx => by cases hx
/-- A check's answer; 9: an error. -/
def saysOf (c : Cfg) (L : List Rw) (who what : Int) : Int :=
  if (rulesDo c L ⟨11, who, what, 0⟩).err == 0 && (rulesDo c L ⟨11, who, what, 0⟩).code == 0 then (rulesDo c L ⟨11, who, what, 0⟩).word else 9
def okWho (who what : Int) : Bool := decide (1 ≤ who) && decide (who ≤ 65535) && decide (1 ≤ what) && decide (what ≤ 65535)
theorem opErr_check {c : Cfg} (h : partOk c = true) (ho : c.object = 3) (who what : Int) : opErr c ⟨11, who, what, 0⟩ = if okWho who what then 0 else 10 := by
  have e : (objOf 11 == c.object) = true := by rw [ho]; rfl
  have e2 : fitsB c ⟨11, who, what, 0⟩ = okWho who what := by simp [fitsB, okWho]
  simp [opErr, h, e, e2]
theorem saysOf_eq {c : Cfg} {L : List Rw} (hf : RwsFit L) (who what : Int) : saysOf c L who what = if rulesIs c L && okWho who what then rulesSay L who what else 9 := by
  unfold saysOf
  cases h1 : (partOk c && (c.object == 3))
  · have h2 : rulesIs c L = false := by simp [rulesIs, h1]
    rw [rulesDo_conf L _ h1, h2]
    rfl
  · cases h2 : rulesIs c L
    · rw [rulesDo_arg _ h1 h2]
      rfl
    · obtain ⟨hp, ho, _, _, _⟩ := rulesIs_ok hf h2
      have h4 := opErr_check hp ho who what
      cases h3 : okWho who what
      · rw [h3] at h4
        rw [rulesDo_bad h1 h2 (by rw [h4]; rfl), h4]
        rfl
      · rw [h3] at h4
        rw [rulesDo_ok h1 h2 (by rw [h4]; rfl)]
        rfl
/-- Some rule of this word speaks of them. -/
def Tells (L : List Rw) (who what v : Int) : Prop := ∃ x ∈ L, speaksB x.k who what = true ∧ x.v = v
theorem tells_cons (x : Rw) (L : List Rw) (who what v : Int) : Tells (x :: L) who what v ↔ (speaksB x.k who what = true ∧ x.v = v) ∨ Tells L who what v := by
  simp [Tells]
theorem say_from {L : List Rw} (h : ∀ x ∈ L, RuleOk x) (who what s : Int) (hs : 0 ≤ s ∧ s ≤ 2) :
    ((s = 2 ∨ Tells L who what 2) → L.foldl (sayStep who what) s = 2) ∧ (¬ s = 2 → ¬ Tells L who what 2 → (s = 1 ∨ Tells L who what 1) → L.foldl (sayStep who what) s = 1) ∧
      (¬ s = 2 → ¬ Tells L who what 2 → ¬ s = 1 → ¬ Tells L who what 1 → L.foldl (sayStep who what) s = 0) := by
  induction L generalizing s with
  | nil =>
    have e : ∀ v, ¬ Tells [] who what v := fun v ⟨x, hx, _⟩ => by cases hx
    refine ⟨fun h => ?_, fun _ _ h => ?_, fun h1 _ h2 _ => ?_⟩
    · rcases h with h | h
      · exact h
      · exact absurd h (e 2)
    · rcases h with h | h
      · exact h
      · exact absurd h (e 1)
    · show s = 0
      omega
  | cons x l ih =>
    have hx := h x (by simp)
    have hl : ∀ y ∈ l, RuleOk y := fun y hy => h y (by simp [hy])
    unfold RuleOk at hx
    simp only [tells_cons, List.foldl_cons]
    cases hq : speaksB x.k who what
    · have e : sayStep who what s x = s := by simp [sayStep, hq]
      rw [e]
      simpa using ih hl s hs
    · by_cases hv : s < x.v
      · have e : sayStep who what s x = x.v := by simp [sayStep, hq, hv]
        rw [e]
        obtain ⟨i1, i2, i3⟩ := ih hl x.v (by omega)
        refine ⟨fun hh => i1 ?_, fun h1 h2 h3 => i2 (fun e => h2 (Or.inl ⟨rfl, e⟩)) (fun e => h2 (Or.inr e)) ?_, fun h1 h2 h3 h4 => ?_⟩
        · rcases hh with hh | ⟨_, hh⟩ | hh
          · omega
          · exact Or.inl hh
          · exact Or.inr hh
        · rcases h3 with h3 | ⟨_, h3⟩ | h3
          · have : ¬ x.v = 2 := fun e => h2 (Or.inl ⟨rfl, e⟩)
            omega
          · exact Or.inl h3
          · exact Or.inr h3
        · exfalso
          have a1 : ¬ x.v = 2 := fun e => h2 (Or.inl ⟨rfl, e⟩)
          have a2 : ¬ x.v = 1 := fun e => h4 (Or.inl ⟨rfl, e⟩)
          omega
      · have e : sayStep who what s x = s := by simp [sayStep, hv]
        rw [e]
        obtain ⟨i1, i2, i3⟩ := ih hl s hs
        refine ⟨fun hh => i1 ?_, fun h1 h2 h3 => i2 h1 (fun e => h2 (Or.inr e)) ?_, fun h1 h2 h3 h4 => i3 h1 (fun e => h2 (Or.inr e)) h3 (fun e => h4 (Or.inr e))⟩
        · rcases hh with hh | ⟨_, hh⟩ | hh
          · exact Or.inl hh
          · exact Or.inl (by omega)
          · exact Or.inr hh
        · rcases h3 with h3 | ⟨_, h3⟩ | h3
          · exact Or.inl h3
          · exact Or.inl (by omega)
          · exact Or.inr h3
theorem say_of {L : List Rw} (h : ∀ x ∈ L, RuleOk x) (who what : Int) :
    (Tells L who what 2 → rulesSay L who what = 2) ∧ (¬ Tells L who what 2 → Tells L who what 1 → rulesSay L who what = 1) ∧ (¬ Tells L who what 2 → ¬ Tells L who what 1 → rulesSay L who what = 0) := by
  obtain ⟨h1, h2, h3⟩ := say_from h who what 0 (by decide)
  exact ⟨fun e => h1 (Or.inr e), fun a b => h2 (by decide) a (Or.inr b), fun a b => h3 (by decide) a (by decide) b⟩
theorem mem_withK {k v : Int} {L : List Rw} (h : Rises L) (x : Rw) : x ∈ withK k v L ↔ x = ⟨k, v⟩ ∨ (x ∈ L ∧ ¬ x.k = k) := by
  constructor
  · intro hx
    by_cases e : x.k = k
    · have := look_of_mem (rises_withK k v h) hx
      rw [look_withK k v h, if_pos e.symm] at this
      cases x
      simp at this e
      left
      rw [e, this]
    · rcases withK_mem hx with rfl | hx
      · exact absurd rfl e
      · exact Or.inr ⟨hx, e⟩
  · rintro (rfl | ⟨hx, e⟩)
    · exact look_mem (by rw [look_withK k v h, if_pos rfl])
    · have := look_of_mem h hx
      exact look_mem (by rw [look_withK k v h, if_neg (fun h => e h.symm)]; exact this)
theorem tells_withK {k v : Int} {L : List Rw} (h : Rises L) (who what z : Int) : Tells (withK k v L) who what z ↔ (speaksB k who what = true ∧ v = z) ∨ ∃ x ∈ L, ¬ x.k = k ∧ speaksB x.k who what = true ∧ x.v = z := by
  constructor
  · rintro ⟨x, hx, h1, h2⟩
    rcases (mem_withK h x).1 hx with rfl | ⟨hx, e⟩
    · exact Or.inl ⟨h1, h2⟩
    · exact Or.inr ⟨x, hx, e, h1, h2⟩
  · rintro (⟨h1, h2⟩ | ⟨x, hx, e, h1, h2⟩)
    · exact ⟨_, (mem_withK h _).2 (Or.inl rfl), h1, h2⟩
    · exact ⟨x, (mem_withK h _).2 (Or.inr ⟨hx, e⟩), h1, h2⟩
/-- Where the rule that is put in does not speak, nothing is told otherwise. -/
theorem tells_quiet {k v : Int} {L : List Rw} (h : Rises L) (who what z : Int) (hq : speaksB k who what = false) : Tells (withK k v L) who what z ↔ Tells L who what z := by
  rw [tells_withK h]
  constructor
  · rintro (⟨h1, _⟩ | ⟨x, hx, _, h1⟩)
    · rw [hq] at h1; cases h1
    · exact ⟨x, hx, h1⟩
  · rintro ⟨x, hx, h1, h2⟩
    exact Or.inr ⟨x, hx, (fun e => by rw [e, hq] at h1; cases h1), h1, h2⟩
theorem say_bd2 {L : List Rw} (h : ∀ x ∈ L, RuleOk x) (who what : Int) : 0 ≤ rulesSay L who what ∧ rulesSay L who what ≤ 2 := say_bd h who what 0 (by decide)
theorem say_quiet {k v : Int} {L : List Rw} (h : Rises L) (hL : ∀ x ∈ L, RuleOk x) (hM : ∀ x ∈ withK k v L, RuleOk x) (who what : Int) (hq : speaksB k who what = false) : rulesSay (withK k v L) who what = rulesSay L who what := by
  obtain ⟨a1, a2, a3⟩ := say_of hL who what
  obtain ⟨b1, b2, b3⟩ := say_of hM who what
  rw [tells_quiet h who what _ hq] at b1 b2 b3
  rw [tells_quiet h who what _ hq] at b2 b3
  by_cases h2 : Tells L who what 2
  · rw [a1 h2, b1 h2]
  · by_cases h1 : Tells L who what 1
    · rw [a2 h2 h1, b2 h2 h1]
    · rw [a3 h2 h1, b3 h2 h1]
theorem say_deny {k : Int} {L : List Rw} (h : Rises L) (hM : ∀ x ∈ withK k 2 L, RuleOk x) (who what : Int) (hq : speaksB k who what = true) : rulesSay (withK k 2 L) who what = 2 :=
  (say_of hM who what).1 ((tells_withK h who what 2).2 (Or.inl ⟨hq, rfl⟩))
/-- Where a rule is put in that allows. -/
theorem say_allow {k d : Int} {L : List Rw} (h : Rises L) (hL : ∀ x ∈ L, RuleOk x) (hM : ∀ x ∈ withK k 1 L, RuleOk x) (who what : Int) (hq : speaksB k who what = true) (hd : (look L k = none ∧ d = 0) ∨ look L k = some d) :
    (rulesSay (withK k 1 L) who what = 1 ∧ (rulesSay L who what = 0 ∨ rulesSay L who what = 1)) ∨ (rulesSay L who what = 2 ∧ (rulesSay (withK k 1 L) who what = 2 ∨ (d = 2 ∧ rulesSay (withK k 1 L) who what = 1))) := by
  obtain ⟨a1, a2, a3⟩ := say_of hL who what
  obtain ⟨b1, b2, _⟩ := say_of hM who what
  have t1 : Tells (withK k 1 L) who what 1 := (tells_withK h who what 1).2 (Or.inl ⟨hq, rfl⟩)
  by_cases h2 : Tells (withK k 1 L) who what 2
  · have h3 : Tells L who what 2 := by
      rcases (tells_withK h who what 2).1 h2 with ⟨_, e⟩ | ⟨x, hx, _, e⟩
      · cases e
      · exact ⟨x, hx, e⟩
    exact Or.inr ⟨a1 h3, Or.inl (b1 h2)⟩
  · have hb := b2 h2 t1
    by_cases h3 : Tells L who what 2
    · refine Or.inr ⟨a1 h3, Or.inr ⟨?_, hb⟩⟩
      obtain ⟨x, hx, e1, e2⟩ := h3
      have hk : x.k = k := by
        refine Classical.byContradiction fun hk => h2 ((tells_withK h who what 2).2 (Or.inr ⟨x, hx, hk, e1, e2⟩))
      have := look_of_mem h hx
      rw [hk] at this
      rcases hd with ⟨hd, _⟩ | hd
      · rw [hd] at this; cases this
      · rw [hd] at this; cases this; exact e2
    · left
      refine ⟨hb, ?_⟩
      by_cases h4 : Tells L who what 1
      · exact Or.inr (a2 h3 h4)
      · exact Or.inl (a3 h3 h4)
theorem speaks_key {o : Opn} (ho : o.Fits) (hb : o.b ≤ 65535) (who what : Int) : speaksB (ruleKey o) who what = ((o.a == 0 || o.a == who) && (o.b == 0 || o.b == what)) := by
  have := ho.a; have := ho.b
  have e1 : ruleKey o / 65536 = o.a := by unfold ruleKey; omega
  have e2 : ruleKey o % 65536 = o.b := by unfold ruleKey; omega
  simp [speaksB, e1, e2]
end Go.Proofs.YtknfikdignpniaaDoor.rules
