/- Plain: a tree of settings by their paths (layer 9), and what an operation does with it; no program in sight. -/
import Derived.Test.YtknfikdignpniaaDoorRws
import Derived.Laws.BitsAllLaws
import Derived.Test.YtknfikdignpniaaDoorBin
import Derived.Test.YtknfikdignpniaaDoorCheck
namespace Go.Proofs.YtknfikdignpniaaDoor.paths
open Go Go.RowKit
set_option maxRecDepth 100000
set_option maxHeartbeats 8000000

def parK (k : Int) : Int := if k % 65536 = 0 then (if k / 65536 % 65536 = 0 then 0 else k / 4294967296 * 4294967296) else k / 4294967296 * 4294967296 + k / 65536 % 65536 * 65536
def wholeK (k : Int) : Bool := decide (1 ≤ k / 4294967296) && decide (k / 4294967296 ≤ 65535) && (!(k / 65536 % 65536 == 0) || k % 65536 == 0)
theorem whole_iff (k : Int) : wholeK k = true ↔ 1 ≤ k / 4294967296 ∧ k / 4294967296 ≤ 65535 ∧ (k / 65536 % 65536 = 0 → k % 65536 = 0) := by
  simp only [wholeK, Bool.and_eq_true, decide_eq_true_eq, Bool.or_eq_true, Bool.not_eq_true', beq_eq_false_iff_ne, ne_eq, beq_iff_eq]
  constructor
  · rintro ⟨⟨h1, h2⟩, h3⟩
    exact ⟨h1, h2, fun h => by rcases h3 with h3 | h3; exact absurd h h3; exact h3⟩
  · rintro ⟨h1, h2, h3⟩
    exact ⟨⟨h1, h2⟩, by by_cases h : k / 65536 % 65536 = 0; exact Or.inr (h3 h); exact Or.inl h⟩
theorem whole_bd {k : Int} (h : wholeK k = true) : 4294967296 ≤ k ∧ k < 281474976710656 := by
  have := (whole_iff k).1 h
  omega
/-- The path's keys, from the top. -/
def lineK (k : Int) : List Int := if parK k = 0 then [k] else if parK (parK k) = 0 then [parK k, k] else [parK (parK k), parK k, k]
theorem par_bd {k : Int} (h : 0 ≤ k) : 0 ≤ parK k ∧ parK k ≤ k := by
  unfold parK
  split
  · split <;> omega
  · omega
theorem par_lt {k : Int} (h : wholeK k = true) : 0 ≤ parK k ∧ parK k < k := by
  have h' := (whole_iff k).1 h
  unfold parK
  split
  · split <;> omega
  · omega
theorem par_whole {k : Int} (h : wholeK k = true) (h0 : ¬ parK k = 0) : wholeK (parK k) = true := by
  have h' := (whole_iff k).1 h
  rw [whole_iff]
  unfold parK at h0 ⊢
  split
  · split <;> omega
  · omega
theorem par_par {k : Int} (h : wholeK k = true) : parK (parK (parK k)) = 0 := by
  have h' := (whole_iff k).1 h
  have z : parK 0 = 0 := rfl
  by_cases g2 : k % 65536 = 0
  · by_cases g1 : k / 65536 % 65536 = 0
    · have e : parK k = 0 := by unfold parK; rw [if_pos g2, if_pos g1]
      rw [e, z, z]
    · have e : parK k = k / 4294967296 * 4294967296 := by unfold parK; rw [if_pos g2, if_neg g1]
      have e2 : parK (parK k) = 0 := by rw [e]; unfold parK; rw [if_pos (by omega), if_pos (by omega)]
      rw [e2, z]
  · have e : parK k = k / 4294967296 * 4294967296 + k / 65536 % 65536 * 65536 := by unfold parK; rw [if_neg g2]
    have e2 : parK (parK k) = k / 4294967296 * 4294967296 := by
      rw [e]; unfold parK; rw [if_pos (by omega), if_neg (by omega)]; omega
    rw [e2]; unfold parK; rw [if_pos (by omega), if_pos (by omega)]
theorem line_mem {k j : Int} : j ∈ lineK k ↔ j = k ∨ (¬ parK k = 0 ∧ (j = parK k ∨ (¬ parK (parK k) = 0 ∧ j = parK (parK k)))) := by
  unfold lineK
  split
  · rename_i h; simp [h]
  · rename_i h
    split
    · rename_i h2; simp [h, h2, or_comm]
    · rename_i h2
      simp only [List.mem_cons, List.not_mem_nil, or_false, h, h2, not_false_eq_true, true_and]
      constructor
      · rintro (h | h | h)
        · exact Or.inr (Or.inr h)
        · exact Or.inr (Or.inl h)
        · exact Or.inl h
      · rintro (h | h | h)
        · exact Or.inr (Or.inr h)
        · exact Or.inr (Or.inl h)
        · exact Or.inl h
theorem line_whole {k j : Int} (h : wholeK k = true) (hj : j ∈ lineK k) : wholeK j = true := by
  rw [line_mem] at hj
  rcases hj with rfl | ⟨h1, rfl | ⟨h2, rfl⟩⟩
  · exact h
  · exact par_whole h h1
  · exact par_whole (par_whole h h1) h2
theorem line_nodup {k : Int} (h : wholeK k = true) : (lineK k).Pairwise (· < ·) := by
  have h1 := par_lt h
  unfold lineK
  split
  · simp
  · rename_i g
    have h2 := par_lt (par_whole h g)
    split
    · simp; omega
    · simp; omega
theorem line_len {k : Int} : 1 ≤ (lineK k).length ∧ (lineK k).length ≤ 3 := by
  unfold lineK
  split
  · simp
  · split <;> simp
theorem line_self (k : Int) : k ∈ lineK k := line_mem.2 (Or.inl rfl)
theorem line_sub {k j : Int} (h : wholeK k = true) (hj : j ∈ lineK k) : ∀ i ∈ lineK j, i ∈ lineK k := by
  intro i hi
  have h3 := par_par h
  rw [line_mem] at hj hi ⊢
  rcases hj with rfl | ⟨h1, rfl | ⟨h2, rfl⟩⟩
  · exact hi
  · rcases hi with rfl | ⟨g1, rfl | ⟨g2, rfl⟩⟩
    · exact Or.inr ⟨h1, Or.inl rfl⟩
    · exact Or.inr ⟨h1, Or.inr ⟨g1, rfl⟩⟩
    · exact absurd h3 g2
  · rcases hi with rfl | ⟨g1, _⟩
    · exact Or.inr ⟨h1, Or.inr ⟨h2, rfl⟩⟩
    · exact absurd h3 g1
/-- A key's path without its last name: what 'unset' looks at in another one's path. -/
def abovB (k x : Int) : Bool := decide ((lineK k).length < (lineK x).length) && ((lineK x).getD ((lineK k).length - 1) 0 == k)
theorem line_par {k : Int} (h0 : ¬ parK k = 0) (h : wholeK k = true) : lineK k = lineK (parK k) ++ [k] := by
  have h3 := par_par h
  unfold lineK
  rw [if_neg h0]
  split <;> rfl
theorem abov_par {k x : Int} (hx : wholeK x = true) (h : parK x = k) (hk : wholeK k = true) : abovB k x = true := by
  subst h
  have h0 : ¬ parK x = 0 := fun e => by rw [e] at hk; simp [wholeK] at hk
  have e := line_par h0 hx
  unfold abovB
  rw [e]
  have hl := (line_len (k := parK x)).1
  simp only [List.length_append, List.length_cons, List.length_nil, Bool.and_eq_true, decide_eq_true_eq, beq_iff_eq]
  refine ⟨by omega, ?_⟩
  rw [List.getD_eq_getElem?_getD, List.getElem?_append_left (by omega)]
  unfold lineK
  split
  · rfl
  · split <;> rfl
theorem abov_mem {k x : Int} (h : abovB k x = true) : k = parK x ∨ (k = parK (parK x) ∧ ¬ parK x = 0 ∧ ¬ k = 0) := by
  unfold abovB at h
  simp only [Bool.and_eq_true, decide_eq_true_eq, beq_iff_eq] at h
  obtain ⟨h1, h2⟩ := h
  have hl := (line_len (k := k)).1
  unfold lineK at h1 h2
  by_cases a1 : parK k = 0
  · simp only [a1, if_true, List.length_cons, List.length_nil] at h1 h2
    by_cases b1 : parK x = 0
    · simp [b1] at h1
    · by_cases b2 : parK (parK x) = 0
      · simp [b1, b2] at h2; exact Or.inl h2.symm
      · simp [b1, b2] at h2; exact Or.inr ⟨h2.symm, b1, h2 ▸ b2⟩
  · by_cases a2 : parK (parK k) = 0
    · simp only [a1, a2, if_true, if_false, List.length_cons, List.length_nil] at h1 h2
      by_cases b1 : parK x = 0
      · simp [b1] at h1
      · by_cases b2 : parK (parK x) = 0
        · simp [b1, b2] at h1
        · simp [b1, b2] at h2; exact Or.inl h2.symm
    · simp only [a1, a2, if_false, List.length_cons, List.length_nil] at h1
      split at h1
      · simp at h1
      · split at h1 <;> simp at h1
/-- May rows be a tree's? -/
def nodeB (L : List Rw) (x : Rw) : Bool := wholeK x.k && decide (x.v ≤ 2147483648) && (parK x.k == 0 || (look L (parK x.k)).isSome)
def pathIs (c : Cfg) (L : List Rw) : Bool := partOk c && (c.object == 4) && decide ((L.length : Int) ≤ c.cap) && risesB L && L.all (nodeB L)
/-- What a row of a tree is. -/
def NodeOk (L : List Rw) (x : Rw) : Prop := wholeK x.k = true ∧ (0 ≤ x.v ∧ x.v ≤ 2147483648) ∧ (parK x.k = 0 ∨ (look L (parK x.k)).isSome = true)
theorem pathIs_ok {c : Cfg} {L : List Rw} (hf : RwsFit L) (h : pathIs c L = true) : partOk c = true ∧ c.object = 4 ∧ (L.length : Int) ≤ c.cap ∧ Rises L ∧ ∀ x ∈ L, NodeOk L x := by
  simp only [pathIs, Bool.and_eq_true, decide_eq_true_eq, List.all_eq_true, beq_iff_eq, risesB_iff] at h
  obtain ⟨⟨⟨⟨h1, h2⟩, h3⟩, h4⟩, h5⟩ := h
  refine ⟨h1, h2, h3, h4, fun x hx => ?_⟩
  have h6 := h5 x hx
  have h7 := hf x hx
  simp only [nodeB, Bool.and_eq_true, decide_eq_true_eq, Bool.or_eq_true, beq_iff_eq] at h6
  exact ⟨h6.1.1, ⟨h7.v.1, h6.1.2⟩, h6.2⟩
theorem pathIs_mk {c : Cfg} {M : List Rw} (hp : partOk c = true) (ho : c.object = 4) (h1 : (M.length : Int) ≤ c.cap) (h2 : Rises M) (h3 : ∀ x ∈ M, NodeOk M x) : pathIs c M = true := by
  simp only [pathIs, Bool.and_eq_true, decide_eq_true_eq, List.all_eq_true, beq_iff_eq, risesB_iff]
  refine ⟨⟨⟨⟨hp, ho⟩, h1⟩, h2⟩, fun x hx => ?_⟩
  obtain ⟨a, b, d⟩ := h3 x hx
  simp only [nodeB, Bool.and_eq_true, decide_eq_true_eq, Bool.or_eq_true, beq_iff_eq]
  exact ⟨⟨a, b.2⟩, d⟩
theorem look_some_mem {L : List Rw} {k : Int} (h : (look L k).isSome = true) : ∃ v, look L k = some v ∧ Rw.mk k v ∈ L := by
  cases hl : look L k with
  | none => rw [hl] at h; cases h
  | some v => exact ⟨v, rfl, look_mem hl⟩
/-- In a tree all of a node's path is there. -/
theorem line_there {L : List Rw} (hn : ∀ x ∈ L, NodeOk L x) {k : Int} (h : (look L k).isSome = true) : ∀ j ∈ lineK k, (look L j).isSome = true := by
  intro j hj
  rw [line_mem] at hj
  obtain ⟨v, _, hm⟩ := look_some_mem h
  rcases hj with rfl | ⟨h1, hj⟩
  · exact h
  · have hp := ((hn _ hm).2.2).resolve_left h1
    rcases hj with rfl | ⟨h2, rfl⟩
    · exact hp
    · obtain ⟨v', _, hm'⟩ := look_some_mem hp
      exact ((hn _ hm').2.2).resolve_left h2
/-- Is a key's path lacking in rows? -/
def lackB (L : List Rw) (k : Int) : Bool := (lineK k).any fun j => !(look L j).isSome
theorem lack_not {L : List Rw} (hr : Rises L) (hn : ∀ x ∈ L, NodeOk L x) {x : Rw} (hx : x ∈ L) : lackB L x.k = false := by
  have hl : (look L x.k).isSome = true := by rw [look_of_mem hr hx]; rfl
  rw [Bool.eq_false_iff]
  intro h
  obtain ⟨j, hj, hb⟩ := List.any_eq_true.1 h
  rw [line_there hn hl j hj] at hb
  cases hb
theorem lack_par {L : List Rw} {k : Int} (h : lackB L k = false) : parK k = 0 ∨ (look L (parK k)).isSome = true := by
  by_cases h0 : parK k = 0
  · exact Or.inl h0
  · refine Or.inr ?_
    rw [Bool.eq_false_iff] at h
    cases hs : (look L (parK k)).isSome
    · exact absurd (List.any_eq_true.2 ⟨parK k, line_mem.2 (Or.inr ⟨h0, Or.inl rfl⟩), by rw [hs]; rfl⟩) h
    · rfl
/-- What comes of an operation: the rows, the code, the word, the error. -/
structure Outc where
  rows : List Rw
  code : Int
  word : Int
  err : Int
/-- The key of an operation's path. -/
def pathKey (o : Opn) : Int := o.a % 65536 * 4294967296 + o.a / 65536 * 65536 + o.b
/-- A node that is there. -/
def ins0 (L : List Rw) (p : Int) : List Rw := if (look L p).isSome then L else withK p 0 L
def madeK (k : Int) (L : List Rw) : List Rw := (lineK k).foldl ins0 L
def usedB (k : Int) (L : List Rw) : Bool := L.any fun x => parK x.k == k
def pathDone (c : Cfg) (L : List Rw) (o : Opn) : Outc :=
  if o.kind == 12 then
    (if c.cap < ((madeK (pathKey o) L).length : Int) then ⟨L, 9, 0, 0⟩ else ⟨withK (pathKey o) (o.c + 1) (madeK (pathKey o) L), 0, (look L (pathKey o)).getD 0, 0⟩)
  else match look L (pathKey o) with
    | none => ⟨L, 6, 0, 0⟩
    | some u =>
      if o.kind == 14 then (if u == 0 then ⟨L, 6, 0, 0⟩ else ⟨L, 0, u, 0⟩)
      else if usedB (pathKey o) L then ⟨L, 90, 0, 0⟩ else ⟨withoutK (pathKey o) L, 0, u, 0⟩
def pathDo (c : Cfg) (L : List Rw) (o : Opn) : Outc :=
  if partOk c && (c.object == 4) then
    (if pathIs c L then (if opErr c o == 0 then pathDone c L o else ⟨L, opErr c o, 0, 0⟩) else ⟨[], 0, 0, 2⟩)
  else ⟨[], 0, 0, 40⟩
theorem pathDo_conf {c : Cfg} (L : List Rw) (o : Opn) (h : (partOk c && (c.object == 4)) = false) : pathDo c L o = ⟨[], 0, 0, 40⟩ := by simp [pathDo, h]
theorem pathDo_arg {c : Cfg} {L : List Rw} (o : Opn) (h : (partOk c && (c.object == 4)) = true) (h2 : pathIs c L = false) : pathDo c L o = ⟨[], 0, 0, 2⟩ := by simp [pathDo, h, h2]
theorem pathDo_bad {c : Cfg} {L : List Rw} {o : Opn} (h : (partOk c && (c.object == 4)) = true) (h2 : pathIs c L = true) (h3 : (opErr c o == 0) = false) : pathDo c L o = ⟨L, opErr c o, 0, 0⟩ := by simp [pathDo, h, h2, h3]
theorem pathDo_ok {c : Cfg} {L : List Rw} {o : Opn} (h : (partOk c && (c.object == 4)) = true) (h2 : pathIs c L = true) (h3 : (opErr c o == 0) = true) : pathDo c L o = pathDone c L o := by simp [pathDo, h, h2, h3]
theorem rises_ins0 {L : List Rw} (h : Rises L) (p : Int) : Rises (ins0 L p) := by
  unfold ins0
  split
  · exact h
  · exact rises_withK p 0 h
theorem look_ins0 {L : List Rw} (h : Rises L) (p j : Int) : look (ins0 L p) j = if p = j then some ((look L j).getD 0) else look L j := by
  unfold ins0
  split
  · rename_i hs
    split
    · rename_i e
      subst e
      cases hl : look L p with
      | none => rw [hl] at hs; cases hs
      | some u => rfl
    · rfl
  · rename_i hs
    rw [look_withK p 0 h]
    split
    · rename_i e
      subst e
      cases hl : look L p with
      | none => rfl
      | some u => rw [hl] at hs; exact absurd rfl hs
    · rfl
theorem len_ins0 (L : List Rw) (p : Int) : (ins0 L p).length = L.length + (if (look L p).isSome then 0 else 1) := by
  unfold ins0
  split
  · rename_i hs; rfl
  · rename_i hs
    rw [withK_len p 0 (by cases hl : look L p with | none => rfl | some u => rw [hl] at hs; exact absurd rfl hs)]
theorem rises_fold {ps : List Int} : ∀ {L : List Rw}, Rises L → Rises (ps.foldl ins0 L) := by
  induction ps with
  | nil => exact fun h => h
  | cons p ps ih => exact fun h => ih (rises_ins0 h p)
theorem look_fold {ps : List Int} : ∀ {L : List Rw}, Rises L → ∀ j, look (ps.foldl ins0 L) j = if j ∈ ps then some ((look L j).getD 0) else look L j := by
  induction ps with
  | nil => intro L h j; simp
  | cons p ps ih =>
    intro L h j
    rw [List.foldl_cons, ih (rises_ins0 h p), look_ins0 h]
    by_cases e : p = j
    · subst e
      simp
    · by_cases m : j ∈ ps
      · simp [m, e]
      · have : ¬ j = p := fun e' => e e'.symm
        simp [m, e, this]
theorem len_fold {ps : List Int} : ∀ {L : List Rw}, Rises L → ps.Pairwise (· < ·) → (ps.foldl ins0 L).length = L.length + (ps.filter fun p => !(look L p).isSome).length := by
  induction ps with
  | nil => intro L _ _; simp
  | cons p ps ih =>
    intro L h hp
    obtain ⟨h1, h2⟩ := List.pairwise_cons.1 hp
    rw [List.foldl_cons, ih (rises_ins0 h p) h2, len_ins0, List.filter_cons]
    have e : (ps.filter fun q => !(look (ins0 L p) q).isSome) = ps.filter fun q => !(look L q).isSome := List.filter_congr fun q hq => by
      rw [look_ins0 h, if_neg (by have := h1 q hq; omega)]
    rw [e]
    cases (look L p).isSome <;> simp <;> omega
theorem made_rev {L : List Rw} (h : Rises L) (k : Int) : (lineK k).reverse.foldl ins0 L = madeK k L :=
  rows_ext (rises_fold h) (rises_fold h) fun j => by unfold madeK; rw [look_fold h, look_fold h]; simp only [List.mem_reverse]
theorem fits_ins0 {L : List Rw} (h : RwsFit L) {p : Int} (hp : 0 ≤ p ∧ p ≤ 18446744073709551615) : RwsFit (ins0 L p) := by
  unfold ins0
  split
  · exact h
  · exact fits_withK h hp (by omega)
theorem fits_fold {ps : List Int} : ∀ {L : List Rw}, RwsFit L → (∀ p ∈ ps, 0 ≤ p ∧ p ≤ 18446744073709551615) → RwsFit (ps.foldl ins0 L) := by
  induction ps with
  | nil => exact fun h _ => h
  | cons p ps ih => exact fun h hp => ih (fits_ins0 h (hp p (List.mem_cons_self ..))) fun q hq => hp q (List.mem_cons_of_mem _ hq)
theorem fits_made {k : Int} {L : List Rw} (hk : wholeK k = true) (h : RwsFit L) : RwsFit (madeK k L) :=
  fits_fold h fun p hp => by have := whole_bd (line_whole hk hp); omega
/-- Is a node another one's parent? 'unset' looks at whole paths. -/
theorem used_abov {L : List Rw} (hn : ∀ x ∈ L, NodeOk L x) {k : Int} (hk : wholeK k = true) : (L.any fun x => abovB k x.k) = usedB k L := by
  rw [Bool.eq_iff_iff, usedB, List.any_eq_true, List.any_eq_true]
  constructor
  · rintro ⟨x, hx, h⟩
    obtain ⟨h1, _, h3⟩ := hn x hx
    rcases abov_mem h with e | ⟨e, h4, h5⟩
    · exact ⟨x, hx, by simp [e]⟩
    · obtain ⟨v, _, hm⟩ := look_some_mem (h3.resolve_left h4)
      exact ⟨_, hm, by simp [e]⟩
  · rintro ⟨x, hx, h⟩
    exact ⟨x, hx, abov_par (hn x hx).1 (by simpa using h) hk⟩
theorem look_made {k : Int} {L : List Rw} (h : Rises L) : look (madeK k L) k = some ((look L k).getD 0) := by
  unfold madeK
  rw [look_fold h, if_pos (line_self k)]
end Go.Proofs.YtknfikdignpniaaDoor.paths
/- Plain: masks and shifts of a path's key. -/
namespace Go.Proofs.YtknfikdignpniaaDoor.paths
open Go Go.RowKit
set_option maxRecDepth 100000
set_option maxHeartbeats 8000000

theorem and_split (x m s : Nat) : x &&& m = 2 ^ s * ((x / 2 ^ s) &&& (m / 2 ^ s)) + (x % 2 ^ s &&& (m % 2 ^ s)) := by
  have h := Nat.div_add_mod (x &&& m) (2 ^ s)
  rw [Nat.and_div_two_pow, Nat.and_mod_two_pow] at h
  exact h.symm
theorem and_w16 (x : Nat) : x &&& 65535 = x % 65536 := Nat.and_two_pow_sub_one_eq_mod x 16
theorem and_w32 (x : Nat) : x &&& 4294967295 = x % 4294967296 := Nat.and_two_pow_sub_one_eq_mod x 32
theorem and_w48 (x : Nat) : x &&& 281474976710655 = x % 281474976710656 := Nat.and_two_pow_sub_one_eq_mod x 48
theorem mask_a (k : Int) (h0 : 0 ≤ k) (h1 : k ≤ 18446744073709551615) : bits .and .u64 k 65535 = k % 65536 := by
  rw [u64_and k 65535 h0 (by omega) (by omega) (by omega)]
  have h := and_w16 k.toNat
  show ((k.toNat &&& 65535 : Nat) : Int) = _
  rw [h]; omega
theorem mask_0 (k : Int) (h0 : 0 ≤ k) (h1 : k < 281474976710656) : bits .and .u64 k 281470681743360 = k / 4294967296 * 4294967296 := by
  rw [u64_and k 281470681743360 h0 (by omega) (by omega) (by omega)]
  have h := and_split k.toNat 281470681743360 32
  rw [show (281470681743360 / 2 ^ 32 : Nat) = 65535 from rfl, show (281470681743360 % 2 ^ 32 : Nat) = 0 from rfl, and_w16, Nat.and_zero] at h
  show ((k.toNat &&& 281470681743360 : Nat) : Int) = _
  rw [h]; omega
theorem mask_1 (k : Int) (h0 : 0 ≤ k) (h1 : k < 281474976710656) : bits .and .u64 k 281474976645120 = k / 65536 * 65536 := by
  rw [u64_and k 281474976645120 h0 (by omega) (by omega) (by omega)]
  have h := and_split k.toNat 281474976645120 16
  rw [show (281474976645120 / 2 ^ 16 : Nat) = 4294967295 from rfl, show (281474976645120 % 2 ^ 16 : Nat) = 0 from rfl, and_w32, Nat.and_zero] at h
  show ((k.toNat &&& 281474976645120 : Nat) : Int) = _
  rw [h]; omega
theorem mask_2 (k : Int) (h0 : 0 ≤ k) (h1 : k < 281474976710656) : bits .and .u64 k 281474976710655 = k := by
  rw [u64_and k 281474976710655 h0 (by omega) (by omega) (by omega)]
  have h := and_w48 k.toNat
  show ((k.toNat &&& 281474976710655 : Nat) : Int) = _
  rw [h]; omega
theorem join_u64 (i : Nat) (x y : Int) (hx0 : 0 ≤ x) (hx1 : x < 18446744073709551616) (hx : x.toNat % 2 ^ i = 0) (hy0 : 0 ≤ y) (hy1 : y < 18446744073709551616) (hy : y.toNat < 2 ^ i) : bits .or .u64 x y = x + y := by
  rw [u64_or x y hx0 hx1 hy0 hy1, nat_join i _ _ hx hy]
  omega
theorem key_or (a b : Int) (ha : 0 ≤ a ∧ a ≤ 4294967295) (hb : 0 ≤ b ∧ b ≤ 65535) : bits .or .u64 (bits .or .u64 (a % 65536 * 4294967296) (a / 65536 * 65536)) b = a % 65536 * 4294967296 + a / 65536 * 65536 + b := by
  rw [join_u64 32 (a % 65536 * 4294967296) (a / 65536 * 65536) (by omega) (by omega) (by omega) (by omega) (by omega) (by omega)]
  exact join_u64 16 _ _ (by omega) (by omega) (by omega) (by omega) (by omega) (by omega)
end Go.Proofs.YtknfikdignpniaaDoor.paths
/- 'slices.BinarySearchFunc' at rows by key, as 'paths.find' calls it, in a seat where 'table.find' does, too. -/
namespace Go.Proofs.YtknfikdignpniaaDoor.paths
open Go Go.RowKit
set_option maxRecDepth 100000
set_option maxHeartbeats 8000000

theorem cl34_any (x : Rw) (q : Int) (w : World) : Calls Tryd.prog 90 #[x.val, .int .u64 q] w fun e w' => e = .returned (.int .i64 (cmpI x.k q)) ∧ Ext w w' := by
  go_enter Tryd.func90, Tryd.ntmps90
  go_wp2_with (go_at_call 48; refine (cmp_any _ _ _).mono ?_; rintro e w1 ⟨rfl, os1, n1, rfl⟩)
  go_ret
  exact ⟨rfl, EX⟩
theorem bin_any (v : Value) (L : List Rw) (q : Int) (hr : Rises L) (hn : L.length ≤ 1000000) (w : World) (hv : Sl w v L.length (rwCells L)) :
    Calls Tryd.prog 46 #[v, .int .u64 q, .func (.func 90) #[] #[]] w
    fun e w' => (∃ i : Nat, e = .returned (.tuple #[.int .i64 i, .bool (decide (i < L.length) && decide ((L.getD i zrw).k = q))]) ∧ At L q i) ∧ Ext w w' := by
  obtain ⟨ad, cap, rfl, hv⟩ := hv
  have hm := hv.len
  have HV := Lib.hid hv
  have HR := Lib.hid hr
  clear hv hr
  go_enter Tryd.func46, Tryd.ntmps46
  go_wp2
  go_loopw [9, 10] (fun a b wr => ∃ lo hi : Nat, lo ≤ hi ∧ hi ≤ L.length ∧ a = .int .i64 lo ∧ b = .int .i64 hi ∧ Hid (Ext w wr) ∧ Hid (∀ j, j < lo → (L.getD j zrw).k < q) ∧ Hid (∀ j, hi ≤ j → j < L.length → q ≤ (L.getD j zrw).k)) (fun a b _ => (intOf b).toNat - (intOf a).toNat)
  case atStart => exact ⟨0, L.length, Nat.zero_le _, Nat.le_refl _, rfl, rfl, Lib.hid (Ext.refl _), Lib.hid fun j hj => absurd hj (Nat.not_lt_zero _), Lib.hid fun j hj hj2 => absurd hj2 (Nat.not_lt.2 hj)⟩
  case round =>
    obtain ⟨lo, hi, h1, h2, rfl, rfl, HE, HA, HB⟩ := hrel
    by_cases hlt : lo < hi
    · have hm2 : lo ≤ (lo + hi) / 2 := by omega
      have hm3 : (lo + hi) / 2 < hi := by omega
      obtain ⟨b, o, rfl, _, r1, r2⟩ := (HV.out.ext HE.out).rw (show (lo + hi) / 2 < L.length by omega)
      obtain ⟨x, hx⟩ : ∃ x, L.getD ((lo + hi) / 2) zrw = x := ⟨_, rfl⟩
      rw [hx] at r1 r2
      have HX := Lib.hid hx
      have i0 : (0 : Int) ≤ ((lo : Int) + (hi : Int)) / 2 := by omega
      have i1 : ((lo : Int) + (hi : Int)) / 2 < (L.length : Int) := by omega
      have i2 : (lo : Int) < (hi : Int) := by omega
      clear hx
      by_cases hc : x.k < q
      · have hq : cmpI x.k q = -1 := by simp [cmpI, hc]
        have HQ := Lib.hid hq
        have HA2 : Hid (∀ j, j < (lo + hi) / 2 + 1 → (L.getD j zrw).k < q) := Lib.hid fun j hj => by
          by_cases e : j = (lo + hi) / 2
          · rw [e, HX.out]
            exact hc
          · have h5 := rises_lt HR.out (i := j) (j := (lo + hi) / 2) (by omega) (by omega)
            rw [HX.out] at h5
            omega
        clear hq hc
        go_wp2_with (go_at_call 90; refine (cl34_any x q _).mono ?_; rintro e w1 ⟨rfl, os1, n1, rfl⟩; rw [HQ.out])
        go_roundw
        case rel => exact ⟨(lo + hi) / 2 + 1, hi, by omega, h2, by first | go_num | (congr 1; omega), rfl, Lib.hid (HE.out.trans EX), HA2, HB⟩
        case measure => simp [intOf]; omega
      · obtain ⟨Q, hq, h0⟩ : ∃ Q, cmpI x.k q = Q ∧ ¬ Q < 0 := ⟨_, rfl, cmpI_ge hc⟩
        have HQ := Lib.hid hq
        have HB2 : Hid (∀ j, (lo + hi) / 2 ≤ j → j < L.length → q ≤ (L.getD j zrw).k) := Lib.hid fun j hj hj2 => by
          by_cases e : j = (lo + hi) / 2
          · rw [e, HX.out]
            omega
          · have h5 := rises_lt HR.out (i := (lo + hi) / 2) (j := j) (by omega) hj2
            rw [HX.out] at h5
            omega
        clear hq hc
        go_wp2_with (go_at_call 90; refine (cl34_any x q _).mono ?_; rintro e w1 ⟨rfl, os1, n1, rfl⟩; rw [HQ.out])
        go_roundw
        case rel => exact ⟨lo, (lo + hi) / 2, by omega, by omega, rfl, by first | go_num | (congr 1; omega), Lib.hid (HE.out.trans EX), HA, HB2⟩
        case measure => simp [intOf]; omega
    · obtain rfl : lo = hi := by omega
      have HP : Hid (At L q lo) := Lib.hid ⟨h2, HA.out, HB.out⟩
      have i2 : ¬ (lo : Int) < (lo : Int) := by omega
      by_cases hn2 : lo < L.length
      · obtain ⟨b, o, rfl, _, r1, r2⟩ := (HV.out.ext HE.out).rw hn2
        obtain ⟨x, hx⟩ : ∃ x, L.getD lo zrw = x := ⟨_, rfl⟩
        rw [hx] at r1 r2
        have HX := Lib.hid hx
        have i0 : (0 : Int) ≤ (lo : Int) := by omega
        have i1 : (lo : Int) < (L.length : Int) := by omega
        by_cases hc : x.k = q
        · have HQ : Hid (cmpI x.k q = 0) := Lib.hid (by simp [cmpI, hc])
          have HC := Lib.hid hc
          clear hx hc
          go_wp2_with (go_at_call 90; refine (cl34_any x q _).mono ?_; rintro e w1 ⟨rfl, os1, n1, rfl⟩; rw [HQ.out])
          refine bodyPost_ret (v := (.tuple #[.int .i64 lo, .bool true])) (by simp [results, Tryd.results46, go_sem]) rfl ?_
          exact ⟨⟨lo, by rw [HX.out, HC.out]; simp [hn2], HP.out⟩, HE.out.trans EX⟩
        · have h5 := HB.out lo (Nat.le_refl _) hn2
          rw [HX.out] at h5
          have HQ : Hid (cmpI x.k q = 1) := Lib.hid (by unfold cmpI; rw [if_neg (by omega), if_pos (by omega)])
          have HC := Lib.hid hc
          clear hx hc h5
          go_wp2_with (go_at_call 90; refine (cl34_any x q _).mono ?_; rintro e w1 ⟨rfl, os1, n1, rfl⟩; rw [HQ.out])
          refine bodyPost_ret (v := (.tuple #[.int .i64 lo, .bool false])) (by simp [results, Tryd.results46, go_sem]) rfl ?_
          exact ⟨⟨lo, by rw [HX.out]; simp [HC.out], HP.out⟩, HE.out.trans EX⟩
      · obtain rfl : lo = L.length := by omega
        go_wp2
        refine bodyPost_ret (v := (.tuple #[.int .i64 L.length, .bool false])) (by simp [results, Tryd.results46, go_sem]) rfl ?_
        exact ⟨⟨L.length, by simp, HP.out⟩, HE.out.trans EX⟩
end Go.Proofs.YtknfikdignpniaaDoor.paths
/- The walks of the layer 'paths': 'of', 'names', 'key', 'whole', 'find'. -/
namespace Go.Proofs.YtknfikdignpniaaDoor.paths
open Go Go.RowKit
set_option maxRecDepth 100000
set_option maxHeartbeats 8000000

theorem of_any (c : Cfg) (w : World) : Calls Tryd.prog 81 #[c.v] w fun e w' => e = .returned (.bool (partOk c && (c.object == 4))) ∧ Ext w w' := by
  cases hp : partOk c
  · have HC := Lib.hid (conf_no hp)
    go_enter Tryd.func81, Tryd.ntmps81
    go_wp2_with (go_at_call 11; refine (partCheck_any c _).mono ?_; rintro e w1 ⟨rfl, os1, n1, rfl⟩; rw [HC.out])
    go_ret
    exact ⟨rfl, EX⟩
  · have HC := Lib.hid (conf_ok hp)
    cases h1 : (c.object == 4)
    all_goals
      go_enter Tryd.func81, Tryd.ntmps81
      go_wp2_with (go_at_call 11; refine (partCheck_any c _).mono ?_; rintro e w1 ⟨rfl, os1, n1, rfl⟩; rw [HC.out])
      go_ret
      exact ⟨rfl, EX⟩
/-- A key's names. -/
abbrev namesV (k : Int) : Value := .agg #[.int .u64 (k / 4294967296), .int .u64 (k / 65536 % 65536), .int .u64 (k % 65536)]
theorem pnames_any (k : Int) (hk : 0 ≤ k ∧ k ≤ 18446744073709551615) (w : World) : Calls Tryd.prog 91 #[.int .u64 k] w fun e w' => e = .returned (namesV k) ∧ Ext w w' := by
  have m1 : bits .and .u64 (k / 65536) 65535 = k / 65536 % 65536 := mask_a _ (by omega) (by omega)
  have m2 : bits .and .u64 k 65535 = k % 65536 := mask_a _ hk.1 hk.2
  obtain ⟨A, hA⟩ : ∃ A, k / 65536 % 65536 = A := ⟨_, rfl⟩
  obtain ⟨B, hB⟩ : ∃ B, k % 65536 = B := ⟨_, rfl⟩
  unfold namesV
  rw [hA] at m1 ⊢
  rw [hB] at m2 ⊢
  clear hA hB
  go_enter Tryd.func91, Tryd.ntmps91
  go_wp2
  exact bodyPost_ret (v := .agg #[.int .u64 (k / 4294967296), .int .u64 A, .int .u64 B]) (by simp [results, Tryd.results91, go_sem]) rfl ⟨rfl, EX⟩
theorem pkey_any (o : Opn) (ho : o.Fits) (hb : o.b ≤ 65535) (w : World) : Calls Tryd.prog 84 #[o.v] w fun e w' => e = .returned (.int .u64 (pathKey o)) ∧ Ext w w' := by
  have ha := ho.a
  have hb0 := ho.b.1
  have m1 : bits .and .u32 o.a 65535 = o.a % 65536 := and_mask o.a ha.1 ha.2
  have m2 := key_or o.a o.b ha ⟨hb0, hb⟩
  have e1 : IntKind.u64.wrap (o.a % 65536) = o.a % 65536 := by rw [IntKind.wrap_u64]; omega
  have e2 : IntKind.u64.wrap (o.a % 65536 * 4294967296) = o.a % 65536 * 4294967296 := by rw [IntKind.wrap_u64]; omega
  have e3 : IntKind.u64.wrap (o.a / 65536) = o.a / 65536 := by rw [IntKind.wrap_u64]; omega
  have e4 : IntKind.u64.wrap (o.a / 65536 * 65536) = o.a / 65536 * 65536 := by rw [IntKind.wrap_u64]; omega
  have e5 : IntKind.u64.wrap o.b = o.b := by rw [IntKind.wrap_u64]; omega
  clear ho
  go_enter Tryd.func84, Tryd.ntmps84
  go_wp2
  go_ret
  exact ⟨rfl, EX⟩
theorem whole_any (k : Int) (hk : 0 ≤ k ∧ k ≤ 18446744073709551615) (w : World) : Calls Tryd.prog 87 #[.int .u64 k] w fun e w' => e = .returned (.bool (wholeK k)) ∧ Ext w w' := by
  have hw := whole_iff k
  go_enter Tryd.func87, Tryd.ntmps87
  go_wp2_with (go_at_call 91; refine (pnames_any k hk _).mono ?_; rintro e w1 ⟨rfl, os1, n1, rfl⟩)
  all_goals
    go_ret
    refine ⟨ret_bool ?_, EX⟩
    rw [Bool.eq_iff_iff, hw]
    simp
    try omega
theorem tfind_any (v : Value) (L : List Rw) (q : Int) (hr : Rises L) (hn : L.length ≤ 1000000) (w : World) (hv : Sl w v L.length (rwCells L)) :
    Calls Tryd.prog 86 #[v, .int .u64 q] w
    fun e w' => (∃ i : Nat, e = .returned (.tuple #[.int .i64 i, .bool (decide (i < L.length) && decide ((L.getD i zrw).k = q))]) ∧ At L q i) ∧ Ext w w' := by
  have HV := Lib.hid hv
  have HR := Lib.hid hr
  obtain ⟨ad, cap, rfl, hs⟩ := hv
  have hm := hs.len
  clear hs hr
  go_enter Tryd.func86, Tryd.ntmps86
  go_wp2_with (go_at_call 46; (with_reducible refine (bin_any _ L q HR.out hn _ (HV.out.ext EX)).mono ?_); rintro e w1 ⟨⟨i, rfl, HP⟩, os1, n1, rfl⟩)
  refine bodyPost_ret (v := .tuple #[.int .i64 i, .bool (decide (i < L.length) && decide ((L.getD i zrw).k = q))]) (by simp [results, Tryd.results86, go_sem]) rfl ?_
  exact ⟨⟨i, rfl, HP⟩, EX⟩
end Go.Proofs.YtknfikdignpniaaDoor.paths
