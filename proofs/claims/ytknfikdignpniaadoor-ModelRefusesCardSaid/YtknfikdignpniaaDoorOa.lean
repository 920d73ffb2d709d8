/- Plain: an index in order, and what an operation does with it; no program in sight. -/
import Derived.Test.YtknfikdignpniaaDoorPosP
import Derived.Test.YtknfikdignpniaaDoorLawP
import Derived.Test.YtknfikdignpniaaDoorRef6b
import Derived.Test.YtknfikdignpniaaDoorCheck
import Derived.Deep.QuietTactic
import Derived.BigQuiet
import Derived.Test.YtknfikdignpniaaDoorOwnP
import Derived.RangeFuncNested
import Derived.RangeFuncBound
import Derived.RangeFuncCalls
import Derived.RangeFuncLeaves
import Derived.RangeFuncFrom
import Derived.Shelf.Abstract
import Derived.Shelf.RegionOpen
import Derived.WalkKit
import Derived.OwnWalkIn
import Derived.TacticsInMore
import Derived.LoopNIn
import Derived.LoopIn
import Derived.Scope
import Derived.RangeFuncBox
import Derived.Deep.RegionHeld3
namespace Go.Proofs.YtknfikdignpniaaDoor.order
open Go Go.RowKit
set_option maxRecDepth 100000
set_option maxHeartbeats 8000000

/-- What a row of an index may be. -/
def RowOk (x : Rw) : Prop := (0 ≤ x.k ∧ x.k ≤ 2147483647) ∧ 0 ≤ x.v ∧ x.v ≤ 2147483647
def ordB (x : Rw) : Bool := decide (x.k ≤ 2147483647) && decide (x.v ≤ 2147483647)
/-- May rows be an index's? -/
def ordIs (c : Cfg) (L : List Rw) : Bool := partOk c && (c.object == 2) && decide ((L.length : Int) ≤ c.cap) && risesB L && L.all ordB
theorem ordIs_ok {c : Cfg} {L : List Rw} (hf : RwsFit L) (h : ordIs c L = true) : partOk c = true ∧ c.object = 2 ∧ (L.length : Int) ≤ c.cap ∧ Rises L ∧ ∀ x ∈ L, RowOk x := by
  simp only [ordIs, Bool.and_eq_true, decide_eq_true_eq, List.all_eq_true, beq_iff_eq, risesB_iff] at h
  obtain ⟨⟨⟨⟨h1, h2⟩, h3⟩, h4⟩, h5⟩ := h
  refine ⟨h1, h2, h3, h4, fun x hx => ?_⟩
  have h6 := h5 x hx
  have h7 := hf x hx
  simp [ordB] at h6
  exact ⟨⟨h7.k.1, h6.1⟩, h7.v.1, h6.2⟩
theorem ordIs_mk {c : Cfg} {L M : List Rw} (hf : RwsFit L) (h : ordIs c L = true) (h1 : (M.length : Int) ≤ c.cap) (h2 : Rises M) (h3 : ∀ x ∈ M, RowOk x) : ordIs c M = true := by
  obtain ⟨hp, ho, _, _, _⟩ := ordIs_ok hf h
  simp only [ordIs, Bool.and_eq_true, decide_eq_true_eq, List.all_eq_true, beq_iff_eq, risesB_iff]
  refine ⟨⟨⟨⟨hp, ho⟩, h1⟩, h2⟩, fun x hx => ?_⟩
  obtain ⟨⟨a, b⟩, d, e⟩ := h3 x hx
  simp [ordB, b, e]
/-- What comes of an operation: the rows, the code, the word, the rows that are answered, the error. -/
structure Outc where
  rows : List Rw
  code : Int
  word : Int
  res : List Rw
  err : Int
def ordScan (L : List Rw) (a b : Int) : List Rw := L.filter fun x => decide (a ≤ x.k) && decide (x.k ≤ b)
/-- The last row whose key is not greater. -/
def ordFloor (L : List Rw) (a : Int) : List Rw := L.foldl (fun r x => if x.k ≤ a then [x] else r) []
def ordRead (L : List Rw) (o : Opn) : Outc :=
  if o.kind == 6 then (match look L o.a with | some u => ⟨L, 0, u + 1, [], 0⟩ | none => ⟨L, 6, 0, [], 0⟩)
  else if o.kind == 8 then ⟨L, 0, 0, ordScan L o.a o.b, 0⟩
  else if (ordFloor L o.a).isEmpty then ⟨L, 6, 0, [], 0⟩ else ⟨L, 0, 0, ordFloor L o.a, 0⟩
def ordDone (c : Cfg) (L : List Rw) (o : Opn) : Outc :=
  if decide (6 ≤ o.kind) then ordRead L o
  else if o.kind == 4 then
    (match look L o.a with
     | some u => ⟨withK o.a o.b L, 0, u + 1, [], 0⟩
     | none => if c.cap ≤ (L.length : Int) then ⟨L, 9, 0, [], 0⟩ else ⟨withK o.a o.b L, 0, 0, [], 0⟩)
  else
    (match look L o.a with
     | some u => ⟨withoutK o.a L, 0, u + 1, [], 0⟩
     | none => ⟨L, 6, 0, [], 0⟩)
def ordDo (c : Cfg) (L : List Rw) (o : Opn) : Outc :=
  if partOk c && (c.object == 2) then
    (if ordIs c L then (if opErr c o == 0 then ordDone c L o else ⟨L, opErr c o, 0, [], 0⟩) else ⟨[], 0, 0, [], 2⟩)
  else ⟨[], 0, 0, [], 40⟩
theorem ordDo_conf {c : Cfg} (L : List Rw) (o : Opn) (h : (partOk c && (c.object == 2)) = false) : ordDo c L o = ⟨[], 0, 0, [], 40⟩ := by simp [ordDo, h]
theorem ordDo_arg {c : Cfg} {L : List Rw} (o : Opn) (h : (partOk c && (c.object == 2)) = true) (h2 : ordIs c L = false) : ordDo c L o = ⟨[], 0, 0, [], 2⟩ := by simp [ordDo, h, h2]
theorem ordDo_bad {c : Cfg} {L : List Rw} {o : Opn} (h : (partOk c && (c.object == 2)) = true) (h2 : ordIs c L = true) (h3 : (opErr c o == 0) = false) : ordDo c L o = ⟨L, opErr c o, 0, [], 0⟩ := by simp [ordDo, h, h2, h3]
theorem ordDo_ok {c : Cfg} {L : List Rw} {o : Opn} (h : (partOk c && (c.object == 2)) = true) (h2 : ordIs c L = true) (h3 : (opErr c o == 0) = true) : ordDo c L o = ordDone c L o := by simp [ordDo, h, h2, h3]
/-- The kinds of an operation on an index. -/
theorem ord_kind {c : Cfg} {o : Opn} (hc : c.object = 2) (h : (opErr c o == 0) = true) : partOk c = true ∧ (o.kind = 4 ∨ o.kind = 5 ∨ o.kind = 6 ∨ o.kind = 7 ∨ o.kind = 8) ∧ fitsB c o = true := by
  have h' : opErr c o = 0 := by simpa using h
  unfold opErr at h'
  split at h'
  · rename_i hp
    split at h'
    · rename_i hk
      split at h'
      · rename_i hf
        refine ⟨hp, ?_, hf⟩
        have hk' : objOf o.kind = c.object := by simpa using hk
        rw [hc] at hk'
        unfold objOf at hk'
        split at hk' <;> (try split at hk') <;> (try split at hk') <;> (try split at hk') <;> (try split at hk') <;> omega
      · omega
    · omega
  · omega
theorem ord_fits {c : Cfg} {o : Opn} (h : fitsB c o = true) (k : o.kind = 4 ∨ o.kind = 5 ∨ o.kind = 6 ∨ o.kind = 7 ∨ o.kind = 8) : o.a ≤ 2147483647 ∧ ((o.kind = 4 ∨ o.kind = 8) → o.b ≤ 2147483647) := by
  rcases k with k | k | k | k | k <;> simp [fitsB, k] at h <;> omega
theorem ordScan_take {L : List Rw} (a b : Int) (k : Nat) (h : k < L.length) : ordScan (L.take (k + 1)) a b = ordScan (L.take k) a b ++ (if decide (a ≤ (L.getD k zrw).k) && decide ((L.getD k zrw).k ≤ b) then [L.getD k zrw] else []) := by
  unfold ordScan
  rw [List.take_add_one, List.getElem?_eq_getElem h, getD_rw L k h, List.filter_append]
  simp only [Option.toList_some, List.filter_cons, List.filter_nil]
theorem ordFloor_take {L : List Rw} (a : Int) (k : Nat) (h : k < L.length) : ordFloor (L.take (k + 1)) a = if (L.getD k zrw).k ≤ a then [L.getD k zrw] else ordFloor (L.take k) a := by
  unfold ordFloor
  rw [List.take_add_one, List.getElem?_eq_getElem h, getD_rw L k h, List.foldl_append]
  rfl
theorem ordScan_len (L : List Rw) (a b : Int) : (ordScan L a b).length ≤ L.length := List.length_filter_le _ _
theorem ordFloor_len (L : List Rw) (a : Int) : (ordFloor L a).length ≤ 1 := by
  have key : ∀ r : List Rw, r.length ≤ 1 → (L.foldl (fun r x => if x.k ≤ a then [x] else r) r).length ≤ 1 := by
    induction L with
    | nil => exact fun r hr => hr
    | cons x l ih =>
      intro r hr
      rw [List.foldl_cons]
      refine ih _ ?_
      split
      · simp
      · exact hr
  exact key [] (by simp)
/-- The floor is the row ahead of the first greater key. -/
theorem ordFloor_at {L : List Rw} (a : Int) {i : Nat} (hi : i ≤ L.length) (h1 : ∀ j, j < i → (L.getD j zrw).k ≤ a) (h2 : ∀ j, i ≤ j → j < L.length → a < (L.getD j zrw).k) : ordFloor L a = if i = 0 then [] else [L.getD (i - 1) zrw] := by
  have key : ∀ k, k ≤ L.length → ordFloor (L.take k) a = if min k i = 0 then [] else [L.getD (min k i - 1) zrw] := by
    intro k
    induction k with
    | zero => intro _; simp [ordFloor]
    | succ k ih =>
      intro hk
      rw [ordFloor_take a k (by omega), ih (by omega)]
      by_cases h : k < i
      · rw [if_pos (h1 k h), if_neg (by omega), show min (k + 1) i - 1 = k by omega]
      · rw [if_neg (by have := h2 k (by omega) (by omega); omega), show min k i = min (k + 1) i by omega]
  have := key L.length (Nat.le_refl _)
  rw [List.take_length] at this
  rw [this, show min L.length i = i by omega]
theorem ordScan_mem (L : List Rw) (a b : Int) : ∀ x ∈ ordScan L a b, x ∈ L := fun _ hx => (List.mem_filter.1 hx).1
theorem ordScan_fit {L : List Rw} (hf : RwsFit L) (a b : Int) : RwsFit (ordScan L a b) := fun x hx => hf x (ordScan_mem L a b x hx)
end Go.Proofs.YtknfikdignpniaaDoor.order
/- Plain: an index in order, whatever the table of writers says; no program in sight. -/
namespace Go.Proofs.YtknfikdignpniaaDoor.order
open Go Go.RowKit
set_option maxRecDepth 100000
set_option maxHeartbeats 8000000

/-- What is answered where the table says that a kind does not write. -/
def ordReadW (L : List Rw) (o : Opn) : Outc := if o.kind == 4 || o.kind == 5 then ⟨L, 6, 0, [], 0⟩ else ordRead L o
/-- What comes of an operation that fits, where the table says 'b'. -/
def ordDoneW (b : Bool) (c : Cfg) (L : List Rw) (o : Opn) : Outc :=
  if b then
    (if o.kind == 4 then
      (match look L o.a with
       | some u => ⟨withK o.a o.b L, 0, u + 1, [], 0⟩
       | none => if c.cap ≤ (L.length : Int) then ⟨L, 9, 0, [], 0⟩ else ⟨withK o.a o.b L, 0, 0, [], 0⟩)
    else
      (match look L o.a with
       | some u => ⟨withoutK o.a L, 0, u + 1, [], 0⟩
       | none => ⟨L, 6, 0, [], 0⟩))
  else ordReadW L o
def ordDoW (b : Bool) (c : Cfg) (L : List Rw) (o : Opn) : Outc :=
  if partOk c && (c.object == 2) then
    (if ordIs c L then (if opErr c o == 0 then ordDoneW b c L o else ⟨L, opErr c o, 0, [], 0⟩) else ⟨[], 0, 0, [], 2⟩)
  else ⟨[], 0, 0, [], 40⟩
theorem ordDoW_conf (b : Bool) {c : Cfg} (L : List Rw) (o : Opn) (h : (partOk c && (c.object == 2)) = false) : ordDoW b c L o = ⟨[], 0, 0, [], 40⟩ := by simp [ordDoW, h]
theorem ordDoW_arg (b : Bool) {c : Cfg} {L : List Rw} (o : Opn) (h : (partOk c && (c.object == 2)) = true) (h2 : ordIs c L = false) : ordDoW b c L o = ⟨[], 0, 0, [], 2⟩ := by simp [ordDoW, h, h2]
theorem ordDoW_bad (b : Bool) {c : Cfg} {L : List Rw} {o : Opn} (h : (partOk c && (c.object == 2)) = true) (h2 : ordIs c L = true) (h3 : (opErr c o == 0) = false) : ordDoW b c L o = ⟨L, opErr c o, 0, [], 0⟩ := by simp [ordDoW, h, h2, h3]
theorem ordDoW_ok (b : Bool) {c : Cfg} {L : List Rw} {o : Opn} (h : (partOk c && (c.object == 2)) = true) (h2 : ordIs c L = true) (h3 : (opErr c o == 0) = true) : ordDoW b c L o = ordDoneW b c L o := by simp [ordDoW, h, h2, h3]
theorem ordReadW_as (L : List Rw) (o : Opn) : ∃ code word res, ordReadW L o = ⟨L, code, word, res, 0⟩ ∧ (code = 0 ∨ code = 6) := by
  unfold ordReadW
  split
  · exact ⟨_, _, _, rfl, .inr rfl⟩
  · unfold ordRead
    split
    · split
      · exact ⟨_, _, _, rfl, .inl rfl⟩
      · exact ⟨_, _, _, rfl, .inr rfl⟩
    · split
      · exact ⟨_, _, _, rfl, .inl rfl⟩
      · split
        · exact ⟨_, _, _, rfl, .inr rfl⟩
        · exact ⟨_, _, _, rfl, .inl rfl⟩
/-- What an operation that fits leaves of a state is a state, and its code is none of those of the malformed. -/
theorem ordW_done (b : Bool) {c : Cfg} {L : List Rw} {o : Opn} {M res : List Rw} {dc dw de : Int} (hf : RwsFit L) (ho : o.Fits) (hi : ordIs c L = true) (h3 : (opErr c o == 0) = true) (h : ordDoneW b c L o = ⟨M, dc, dw, res, de⟩) :
    de = 0 ∧ ordIs c M = true ∧ RwsFit M ∧ (dc = 0 ∨ dc = 6 ∨ dc = 9) := by
  obtain ⟨_, hobj, hcap, hr, hk⟩ := ordIs_ok hf hi
  obtain ⟨_, hkind, hft⟩ := ord_kind hobj h3
  obtain ⟨f1, f2⟩ := ord_fits hft hkind
  have a0 := ho.a
  have b0 := ho.b
  unfold ordDoneW at h
  split at h
  · split at h
    · rename_i h4
      have h4' : o.kind = 4 := by simpa using h4
      have f3 := f2 (Or.inl h4')
      have hm : ∀ x ∈ withK o.a o.b L, RowOk x := fun x hx => by
        rcases withK_mem hx with rfl | hx
        · exact ⟨⟨a0.1, f1⟩, b0.1, f3⟩
        · exact hk x hx
      split at h
      · rename_i u hu
        cases h
        exact ⟨rfl, ordIs_mk hf hi (by rw [withK_len_some _ _ hr hu]; exact hcap) (rises_withK _ _ hr) hm, fits_withK hf (by omega) (by omega), .inl rfl⟩
      · rename_i hu
        split at h
        · cases h
          exact ⟨rfl, hi, hf, .inr (.inr rfl)⟩
        · cases h
          exact ⟨rfl, ordIs_mk hf hi (by rw [withK_len _ _ hu]; omega) (rises_withK _ _ hr) hm, fits_withK hf (by omega) (by omega), .inl rfl⟩
    · split at h
      · cases h
        refine ⟨rfl, ordIs_mk hf hi ?_ (rises_withoutK _ hr) (fun x hx => hk x (withoutK_sub _ _ x hx)), fits_withoutK hf, .inl rfl⟩
        have := withoutK_len o.a L
        omega
      · cases h
        exact ⟨rfl, hi, hf, .inr (.inl rfl)⟩
  · obtain ⟨_, _, _, hh, hc⟩ := ordReadW_as L o
    rw [hh] at h
    cases h
    exact ⟨rfl, hi, hf, by rcases hc with q | q <;> omega⟩
end Go.Proofs.YtknfikdignpniaaDoor.order
/- The walks of 'order.of', 'order.Is', 'first', 'has', and of 'op.Writes'. -/
namespace Go.Proofs.YtknfikdignpniaaDoor.order
open Go Go.RowKit
set_option maxRecDepth 100000
set_option maxHeartbeats 8000000
theorem Tab.base {w : World} (h : Tab w) : Tab w := h

theorem of_any (c : Cfg) (w : World) : Calls Tryd.prog 57 #[c.v] w fun e w' => e = .returned (.bool (partOk c && (c.object == 2))) ∧ Ext w w' := by
  cases hp : partOk c
  · have HC := Lib.hid (conf_no hp)
    go_enter Tryd.func57, Tryd.ntmps57
    go_wp2_with (go_at_call 11; refine (partCheck_any c _).mono ?_; rintro e w1 ⟨rfl, os1, n1, rfl⟩; rw [HC.out])
    go_ret
    exact ⟨rfl, EX⟩
  · have HC := Lib.hid (conf_ok hp)
    cases h1 : (c.object == 2)
    all_goals
      go_enter Tryd.func57, Tryd.ntmps57
      go_wp2_with (go_at_call 11; refine (partCheck_any c _).mono ?_; rintro e w1 ⟨rfl, os1, n1, rfl⟩; rw [HC.out])
      go_ret
      exact ⟨rfl, EX⟩
/-- What the table of writers says of a kind. -/
def WrAt (w : World) (k : Int) (b : Bool) : Prop := 1 < w.heap.size ∧ w.cell? ⟨1, k.toNat, none⟩ = some (.bool b)
theorem WrAt.ext {w w' : World} {k : Int} {b : Bool} (h : WrAt w k b) (e : Ext w w') : WrAt w' k b := ⟨Nat.lt_of_lt_of_le h.1 e.size, (e.cell.1 _ _ h.1).trans h.2⟩
theorem wrAt_of {w : World} (h : TabQ w) {k : Int} (hk0 : 0 ≤ k) (hk : k < 15) : ∃ b, WrAt w k b := by
  obtain ⟨b, hb⟩ := h.wr hk0 hk
  exact ⟨b, h.2.1, hb⟩
theorem writes_any (k : Int) (hk : 1 ≤ k ∧ k ≤ 14) (b : Bool) (w : World) (ht : WrAt w k b) : Calls Tryd.prog 59 #[.int .u8 k] w fun e w' => e = .returned (.bool b) ∧ Ext w w' := by
  obtain ⟨h0, h1⟩ := ht
  have h2 : k < 15 := by omega
  have h3 : 0 ≤ k := by omega
  go_enter Tryd.func59, Tryd.ntmps59
  go_wp2
  go_ret
  exact ⟨rfl, EX⟩
def okAt (L : List Rw) (j : Nat) : Prop := ordB (L.getD j zrw) = true ∧ (0 < j → (L.getD (j - 1) zrw).k < (L.getD j zrw).k)
theorem ok_all {L : List Rw} (h : ∀ j, j < L.length → okAt L j) : (risesB L && L.all ordB) = true := by
  rw [Bool.and_eq_true]
  refine ⟨(risesB_iff L).2 (rises_of fun i hi => ?_), all_of fun j hj => (h j hj).1⟩
  have := (h (i + 1) hi).2 (by omega)
  simpa using this
theorem ok_not {L : List Rw} {j : Nat} (hj : j < L.length) (h : ¬ okAt L j) : (risesB L && L.all ordB) = false := by
  rw [← Bool.not_eq_true, Bool.and_eq_true]
  rintro ⟨h1, h2⟩
  refine h ⟨?_, fun h0 => rises_at ((risesB_iff L).1 h1) (by omega) hj⟩
  rw [getD_rw L j hj]
  exact List.all_eq_true.1 h2 _ (List.getElem_mem hj)
theorem ok_step {L : List Rw} {k : Nat} (h : ∀ j, j < k → okAt L j) (hk : okAt L k) : ∀ j, j < k + 1 → okAt L j := fun j hj => by
  by_cases e : j = k
  · subst e; exact hk
  · exact h j (by omega)
theorem is_any (c : Cfg) (v : Value) (L : List Rw) (hf : RwsFit L) (w : World) (hv : Sl w v L.length (rwCells L)) : Calls Tryd.prog 58 #[c.v, v] w
    fun e w' => e = .returned (.bool (ordIs c L)) ∧ Ext w w' := by
  have HF := Lib.hid hf
  clear hf
  obtain ⟨ad, cap, rfl, hs⟩ := hv
  have hm := hs.len
  have HS := Lib.hid hs
  clear hs
  obtain ⟨R, hR⟩ : ∃ R, ordIs c L = R := ⟨_, rfl⟩
  rw [hR]
  unfold ordIs at hR
  cases hp : (partOk c && (c.object == 2))
  · have HC := Lib.hid hp
    have HR : Hid (false = R) := Lib.hid (by rw [← hR, hp]; rfl)
    clear hp hR
    go_enter Tryd.func58, Tryd.ntmps58
    go_wp2_with (go_at_call 57; refine (of_any c _).mono ?_; rintro e w1 ⟨rfl, os1, n1, rfl⟩; rw [HC.out])
    go_ret
    exact ⟨by rw [← HR.out] <;> rfl, EX⟩
  · have HC := Lib.hid hp
    rw [hp] at hR
    clear hp
    by_cases h2 : (L.length : Int) ≤ c.cap
    · have h2' : ¬ c.cap < (L.length : Int) := by omega
      simp only [h2, decide_true, Bool.and_true, Bool.true_and] at hR
      have HR : Hid ((risesB L && L.all ordB) = R) := Lib.hid hR
      clear hR
      go_enter Tryd.func58, Tryd.ntmps58
      go_wp2_with (go_at_call 57; refine (of_any c _).mono ?_; rintro e w1 ⟨rfl, os1, n1, rfl⟩; rw [HC.out])
      go_loopw [5, 6, 19] (fun _ _ i wr => ∃ k : Nat, k ≤ L.length ∧ i = .int .i64 k ∧ Ext w wr ∧ Hid (∀ j, j < k → okAt L j)) (fun _ _ i _ => L.length - (intOf i).toNat)
      case atStart => exact ⟨0, Nat.zero_le _, rfl, EX, Lib.hid fun j hj => absurd hj (Nat.not_lt_zero _)⟩
      case round =>
        obtain ⟨k, hk, rfl, he, HT⟩ := hrel
        have HE := Lib.hid he
        clear he
        by_cases hlt : k < L.length
        · obtain ⟨b, o, rfl, hbl, r1, r2⟩ := (HS.out.ext HE.out).rw hlt
          obtain ⟨x, hx⟩ : ∃ x, L.getD k zrw = x := ⟨_, rfl⟩
          rw [hx] at r1 r2
          have HX := Lib.hid hx
          have i0 : (0 : Int) ≤ (k : Int) := by omega
          have i1 : (k : Int) < (L.length : Int) := by omega
          clear hx
          have hbad : (¬ (x.k ≤ 2147483647 ∧ x.v ≤ 2147483647)) → Hid (false = R) := fun hb => Lib.hid (by
            rw [← HR.out]
            refine (ok_not hlt fun h => hb ?_).symm
            have := h.1
            rw [HX.out] at this
            simp [ordB] at this
            omega)
          have HBAD := Lib.hid hbad
          clear hbad
          by_cases h5 : 2147483647 < x.k
          · have HR2 := HBAD.out (by omega)
            have g5 : decide (2147483647 < x.k) = true := by simpa using h5
            go_wp2
            (refine wp_region_ext_lit (by kernel_rfl) (by kernel_rfl) ?_); (repeat (go_big_quiet_step (fail))); (refine wpQuiet_nil ?_; intro _ hw'; obtain ⟨⟨osq, nq⟩, hw''⟩ := hw'; replace hw'' : _ = grew _ osq nq := hw''; subst hw'')
            go_wp2
            go_ret
            exact ⟨by rw [← HR2.out] <;> rfl, HE.out.trans EX⟩
          · have g5 : decide (2147483647 < x.k) = false := by simp; omega
            by_cases h6 : 2147483647 < x.v
            · have HR2 := HBAD.out (by omega)
              have g6 : decide (2147483647 < x.v) = true := by simpa using h6
              go_wp2
              (refine wp_region_ext_lit (by kernel_rfl) (by kernel_rfl) ?_); (repeat (go_big_quiet_step (fail))); (refine wpQuiet_nil ?_; intro _ hw'; obtain ⟨⟨osq, nq⟩, hw''⟩ := hw'; replace hw'' : _ = grew _ osq nq := hw''; subst hw'')
              go_wp2
              go_ret
              exact ⟨by rw [← HR2.out] <;> rfl, HE.out.trans EX⟩
            · have g6 : decide (2147483647 < x.v) = false := by simp; omega
              have hrb : ordB x = true := by simp [ordB]; omega
              by_cases h8 : k = 0
              · have HT2 : Hid (∀ j, j < k + 1 → okAt L j) := Lib.hid (ok_step HT.out ⟨by rw [HX.out]; exact hrb, fun h => by omega⟩)
                have g8 : decide ((0 : Int) < (k : Int)) = false := by simp; omega
                have g8n : decide (0 < k) = false := by simp; omega
                clear hrb h8
                go_wp2
                (refine wp_region_ext_lit (by kernel_rfl) (by kernel_rfl) ?_); (repeat (go_big_quiet_step (fail))); (refine wpQuiet_nil ?_; intro _ hw'; obtain ⟨⟨osq, nq⟩, hw''⟩ := hw'; replace hw'' : _ = grew _ osq nq := hw''; subst hw'')
                go_wp2
                go_roundw
                case rel => exact ⟨k + 1, by omega, by go_num, HE.out.trans EX, HT2⟩
                case measure => simp [intOf]; omega
              · obtain ⟨j, rfl⟩ : ∃ j, k = j + 1 := ⟨k - 1, by omega⟩
                obtain ⟨b', o', e2, _, s1, s2⟩ := (HS.out.ext HE.out).rw (i := j) (by omega)
                cases e2
                obtain ⟨y, hy⟩ : ∃ y, L.getD j zrw = y := ⟨_, rfl⟩
                rw [hy] at s1 s2
                have HY := Lib.hid hy
                have i3 : (0 : Int) ≤ (j : Int) := by omega
                have i4 : (j : Int) < (L.length : Int) := by omega
                have i2 : IntKind.i64.wrap (((j + 1 : Nat) : Int) - 1) = (j : Int) := by rw [IntKind.wrap_i64]; omega
                have i5 : (0 : Int) < ((j + 1 : Nat) : Int) := by omega
                have g8 : decide ((0 : Int) < ((j + 1 : Nat) : Int)) = true := decide_eq_true i5
                clear hy s2
                by_cases h9 : x.k ≤ y.k
                · have HR2 : Hid (false = R) := Lib.hid (by
                    rw [← HR.out]
                    refine (ok_not hlt fun h => ?_).symm
                    have := h.2 (by omega)
                    rw [Nat.add_sub_cancel, HX.out, HY.out] at this
                    omega)
                  clear hrb
                  go_wp2
                  (refine wp_region_ext_lit (by kernel_rfl) (by kernel_rfl) ?_); (repeat (go_big_quiet_step (fail))); (refine wpQuiet_nil ?_; intro _ hw'; obtain ⟨⟨osq, nq⟩, hw''⟩ := hw'; replace hw'' : _ = grew _ osq nq := hw''; subst hw'')
                  go_wp2
                  go_ret
                  exact ⟨by rw [← HR2.out] <;> rfl, HE.out.trans EX⟩
                · have g9 : decide (x.k ≤ y.k) = false := by simp; omega
                  have HT2 : Hid (∀ i, i < j + 1 + 1 → okAt L i) := Lib.hid (ok_step HT.out ⟨by rw [HX.out]; exact hrb, fun _ => by rw [Nat.add_sub_cancel, HX.out, HY.out]; omega⟩)
                  clear hrb
                  go_wp2
                  (refine wp_region_ext_lit (by kernel_rfl) (by kernel_rfl) ?_); (repeat (go_big_quiet_step (fail))); (refine wpQuiet_nil ?_; intro _ hw'; obtain ⟨⟨osq, nq⟩, hw''⟩ := hw'; replace hw'' : _ = grew _ osq nq := hw''; subst hw'')
                  go_wp2
                  go_roundw
                  case rel => exact ⟨j + 1 + 1, by omega, by go_num, HE.out.trans EX, HT2⟩
                  case measure => simp [intOf]; omega
        · obtain rfl : k = L.length := by omega
          have HR2 : Hid (true = R) := Lib.hid (by rw [← HR.out]; exact (ok_all HT.out).symm)
          go_wp2
          go_ret
          exact ⟨by rw [← HR2.out] <;> rfl, HE.out⟩
    · have h2' : c.cap < (L.length : Int) := by omega
      have HR : Hid (false = R) := Lib.hid (by rw [← hR]; simp [h2])
      clear hR
      go_enter Tryd.func58, Tryd.ntmps58
      go_wp2_with (go_at_call 57; refine (of_any c _).mono ?_; rintro e w1 ⟨rfl, os1, n1, rfl⟩; rw [HC.out])
      go_ret
      exact ⟨by rw [← HR.out] <;> rfl, EX⟩

theorem first_any (v : Value) (L : List Rw) (q : Int) (hq : 0 ≤ q ∧ q ≤ 4294967295) (w : World) (hv : Sl w v L.length (rwCells L)) (n : Nat) (hn : n ≤ L.length) (h1 : ∀ j, j < n → (L.getD j zrw).k < q) (h2 : n < L.length → q ≤ (L.getD n zrw).k) : Calls Tryd.prog 61 #[v, .int .u32 q] w
    fun e w' => e = .returned (.int .i64 n) ∧ Ext w w' := by
  obtain ⟨ad, cap, rfl, hs⟩ := hv
  have hm := hs.len
  have HS := Lib.hid hs
  have H1 := Lib.hid h1
  have H2 := Lib.hid h2
  clear hs h1 h2
  go_enter Tryd.func61, Tryd.ntmps61
  go_wp2
  go_loopw [9] (fun i wr => ∃ k : Nat, k ≤ n ∧ i = .int .i64 k ∧ Hid (Ext w wr)) (fun i _ => L.length - (intOf i).toNat)
  case atStart => exact ⟨0, Nat.zero_le _, rfl, Lib.hid (Ext.refl _)⟩
  case round =>
    obtain ⟨k, hk, rfl, HE⟩ := hrel
    by_cases hlt : k < L.length
    · obtain ⟨b, o, rfl, hbl, r1, r2⟩ := (HS.out.ext HE.out).rw hlt
      have hlo := H1.out k
      have hhi : k = n → q ≤ (L.getD k zrw).k := fun e => by subst e; exact H2.out hlt
      obtain ⟨x, hx⟩ : ∃ x, L.getD k zrw = x := ⟨_, rfl⟩
      rw [hx] at r1 r2 hlo hhi
      have i0 : (0 : Int) ≤ (k : Int) := by omega
      have i1 : (k : Int) < (L.length : Int) := by omega
      clear hx
      by_cases h : k < n
      · have g : ¬ q ≤ x.k := by have := hlo h; omega
        clear hlo hhi
        go_wp2
        go_roundw
        case rel => exact ⟨k + 1, by omega, by go_num, Lib.hid (HE.out.trans EX)⟩
        case measure => simp [intOf]; omega
      · obtain rfl : k = n := by omega
        have g : q ≤ x.k := hhi rfl
        clear hlo hhi
        go_wp2
        go_ret
        exact ⟨rfl, HE.out.trans EX⟩
    · obtain rfl : k = L.length := by omega
      obtain rfl : n = L.length := by omega
      go_wp2
      go_ret
      exact ⟨rfl, HE.out⟩
theorem has_any (v : Value) (L : List Rw) (q : Int) (hq : 0 ≤ q ∧ q ≤ 4294967295) (w : World) (hv : Sl w v L.length (rwCells L)) (n : Nat) (hn : n ≤ L.length) (R : Bool) (hR : (decide (n < L.length) && ((L.getD n zrw).k == q)) = R) : Calls Tryd.prog 62 #[v, .int .i64 n, .int .u32 q] w
    fun e w' => e = .returned (.bool R) ∧ Ext w w' := by
  obtain ⟨ad, cap, rfl, hs⟩ := hv
  have hm := hs.len
  by_cases hlt : n < L.length
  · obtain ⟨b, o, rfl, hbl, r1, r2⟩ := hs.rw hlt
    obtain ⟨x, hx⟩ : ∃ x, L.getD n zrw = x := ⟨_, rfl⟩
    rw [hx] at r1 r2 hR
    simp only [hlt, decide_true, Bool.true_and] at hR
    have i0 : (0 : Int) ≤ (n : Int) := by omega
    have i1 : (n : Int) < (L.length : Int) := by omega
    clear hx hs
    go_enter Tryd.func62, Tryd.ntmps62
    go_wp2
    go_ret
    exact ⟨by rw [← hR] <;> rfl, EX⟩
  · obtain rfl : R = false := by rw [← hR]; simp [hlt]
    have i1 : ¬ (n : Int) < (L.length : Int) := by omega
    clear hR hs hlt
    go_enter Tryd.func62, Tryd.ntmps62
    go_wp2
    go_ret
    exact ⟨rfl, EX⟩
end Go.Proofs.YtknfikdignpniaaDoor.order
/- The walks of 'order.between', of what it yields, and of 'gathered'. -/
namespace Go.Proofs.YtknfikdignpniaaDoor.order
open Go Go.RowKit Go.Shelf
set_option maxRecDepth 100000
set_option maxHeartbeats 8000000

attribute [local go_sem] Oper.semAt_some

theorem grown_ext {w w' : World} (h : Ext w w') : w.grownBy w' none := by
  obtain ⟨os, n, rfl⟩ := h
  exact ⟨rfl, rfl, rfl, by rw [size_grew]; omega, fun k hk _ => heap_grew w os n hk⟩
theorem between_any (ad : Option Addr) (n cap : Nat) (a b : Int) (w : World) : Calls Tryd.prog 64 #[.slice ad n cap, .int .u32 a, .int .u32 b] w
    fun e w' => e = .returned (.func (.func 65) #[] #[.pointer (some ⟨w.heap.size, 0, none⟩), .pointer (some ⟨w.heap.size + 1, 0, none⟩), .pointer (some ⟨w.heap.size + 1 + 1, 0, none⟩)]) ∧
      ∃ t1 t2 t3, w' = ((w.alloc (.cells #[.slice ad n cap] t1)).alloc (.cells #[.int .u32 a] t2)).alloc (.cells #[.int .u32 b] t3) := by
  go_enter Tryd.func64, Tryd.ntmps64
  go_wp2
  go_ret
  exact ⟨rfl, _, _, _, rfl⟩
/-- A scan is a stretch of the rows. -/
theorem scan_at {L : List Rw} (hr : Rises L) (a b : Int) {i n : Nat} (_hi : i ≤ L.length) (h1 : ∀ j, j < i → (L.getD j zrw).k < a) (h2 : ∀ j, i ≤ j → j < L.length → a ≤ (L.getD j zrw).k) (hn : i + n ≤ L.length)
    (h3 : ∀ j, i ≤ j → j < i + n → (L.getD j zrw).k ≤ b) (h4 : i + n < L.length → b < (L.getD (i + n) zrw).k) : ordScan L a b = (L.drop i).take n := by
  have h5 : ∀ j, i + n ≤ j → j < L.length → b < (L.getD j zrw).k := fun j hj hl => by
    have h6 := h4 (by omega)
    by_cases e : j = i + n
    · subst e; exact h6
    · have := rises_at hr (i := i + n) (j := j) (by omega) hl
      omega
  have key : ∀ k, k ≤ L.length → ordScan (L.take k) a b = (L.drop i).take (min k (i + n) - i) := by
    intro k
    induction k with
    | zero => intro _; simp [ordScan]
    | succ k ih =>
      intro hk
      rw [ordScan_take a b k (by omega), ih (by omega)]
      by_cases c1 : k < i
      · have := h1 k c1
        have c2 : ¬ a ≤ (L.getD k zrw).k := by omega
        rw [if_neg (by simp only [c2, decide_false, Bool.false_and]; decide), show min (k + 1) (i + n) - i = 0 by omega, show min k (i + n) - i = 0 by omega]
        simp
      · have c2 := h2 k (by omega) (by omega)
        by_cases c3 : k < i + n
        · have c4 := h3 k (by omega) c3
          rw [if_pos (by simp only [c2, c4, decide_true, Bool.and_self]), show min (k + 1) (i + n) - i = (k - i) + 1 by omega, show min k (i + n) - i = k - i by omega, List.take_add_one, List.getElem?_drop, show i + (k - i) = k by omega,
            List.getElem?_eq_getElem (by omega), getD_rw L k (by omega)]
          simp
        · have c4 := h5 k (by omega) (by omega)
          have c5 : ¬ (L.getD k zrw).k ≤ b := by omega
          rw [if_neg (by simp only [c5, decide_false, Bool.and_false]; decide), show min (k + 1) (i + n) = min k (i + n) by omega]
          simp
  have := key L.length (Nat.le_refl _)
  rw [List.take_length, show min L.length (i + n) - i = n by omega] at this
  exact this
theorem drop_take_succ {L : List Rw} {i n : Nat} (h : i + n < L.length) : (L.drop i).take (n + 1) = (L.drop i).take n ++ [L.getD (i + n) zrw] := by
  rw [List.take_add_one, List.getElem?_drop, List.getElem?_eq_getElem h, getD_rw L _ h]
  rfl

theorem rwCells_drop (L : List Rw) (i : Nat) : rwCells (L.drop i) = (rwCells L).drop (i * 2) := by
  induction i generalizing L with
  | zero => simp
  | succ i ih =>
    cases L with
    | nil => simp [rwCells]
    | cons x L =>
      have e : (i + 1) * 2 = i * 2 + 2 := by omega
      rw [List.drop_succ_cons, ih, rwCells_cons, e]
      simp
/-- Where a slice begins that leaves out so many rows. -/
def dropAd (ad : Option Addr) (cap i : Nat) : Option Addr := match ad with | none => none | some A => if cap = i then some A else some (A.add (i * 2))
theorem SlNo.dropIf {S : Nat → Prop} {w : World} {ad : Option Addr} {cap : Nat} {L : List Rw} (h : SlNo S w ad L.length cap (rwCells L)) {i : Nat} (hi : i ≤ L.length) :
    SlNo S w (dropAd ad cap i) (L.length - i) (cap - i) (rwCells (L.drop i)) := by
  obtain ⟨h1, h2, h3⟩ := h
  refine ⟨by omega, by omega, ?_⟩
  by_cases e : L.length - i = 0
  · left
    refine ⟨e, ?_⟩
    rw [List.drop_eq_nil_of_le (by omega)]
    rfl
  · right
    rcases h3 with ⟨h3, _⟩ | ⟨b, o, rfl, h4⟩
    · omega
    · refine ⟨b, o + i * 2, ?_, fun j u hu => ?_⟩
      · simp only [dropAd]
        rw [if_neg (by omega), Addr.add_lit]
      · rw [rwCells_drop, List.getElem?_drop] at hu
        rw [Nat.add_assoc]
        exact h4 _ _ hu
theorem between1_in (l B1 B2 B3 N0 : Nat) (a b : Int) (ha : 0 ≤ a ∧ a ≤ 4294967295) (hb : 0 ≤ b ∧ b ≤ 4294967295) (L : List Rw) (hr : Rises L) (hl : L.length ≤ 1000) (ad : Option Addr) (cap : Nat) (J Jx : List Rw → World → Prop)
    (hJ : ∀ pre A B, J pre A → Ext A B → J pre B)
    (hY : ∀ pre (x : Rw) W, J pre W → pre.length < 2000 → YieldAt Fence.wide 2 Tryd.prog l #[x.val] W fun e W' => (e = .returned (.bool true) ∧ J (pre ++ [x]) W' ∧ Below N0 W W') ∨ (e = .returned (.bool false) ∧ Jx (pre ++ [x]) W'))
    (W : World) (h1 : W.cell? ⟨B1, 0, none⟩ = some (.slice ad L.length cap)) (h2 : W.cell? ⟨B2, 0, none⟩ = some (.int .u32 a)) (h3 : W.cell? ⟨B3, 0, none⟩ = some (.int .u32 b)) (_hB1 : B1 < N0) (_hB2 : B2 < N0) (hB3 : B3 < N0) (hN : N0 ≤ W.heap.size)
    (hs : SlNo (fun b => b < N0) W ad L.length cap (rwCells L)) (h0 : J [] W) :
    CallsIn Fence.wide 3 Tryd.prog 65 #[.func (.yield l) #[] #[], .pointer (some ⟨B1, 0, none⟩), .pointer (some ⟨B2, 0, none⟩), .pointer (some ⟨B3, 0, none⟩)] W fun e W' => (∃ v, e = .returned v) ∧
      ((∃ xs, xs = ordScan L a b ∧ J xs W') ∨ (∃ pre, True ∧ Jx pre W')) := by
  obtain ⟨i, hi, hlo, hhi⟩ := at_any a hr
  have HJ := Lib.hid hJ
  have HY := Lib.hid hY
  have HS := Lib.hid hs
  have H0 := Lib.hid h0
  have H123 := Lib.hid (And.intro h1 (And.intro h2 h3))
  have HR := Lib.hid hr
  have HLO := Lib.hid hlo
  have HHI := Lib.hid hhi
  have hln := hs.at.len
  clear hJ hY h0 hr hlo hhi
  have l1 := World.block_lt_of_cell? _ _ h1
  have l2 := World.block_lt_of_cell? _ _ h2
  have l3 := World.block_lt_of_cell? _ _ h3
  dsimp only at l1 l2 l3
  refine callsIn_of_wp Tryd.func65 rfl trivial ?_ rfl
  simp only [Tryd.ntmps65, List.size_toArray, List.length_cons, List.length_nil, Nat.reduceAdd, Nat.reduceSub, Array.replicate_succ, Array.replicate_zero, List.push_toArray, List.append_toArray, List.nil_append, List.cons_append]
  have hi0 : (0 : Int) ≤ (i : Int) := by omega
  have hi1 : (i : Int) ≤ (L.length : Int) := by omega
  have hcap := hs.1
  clear hs
  have HD : Hid (SlNo (fun b => b < N0) W (dropAd ad cap i) (L.length - i) (cap - i) (rwCells (L.drop i))) := Lib.hid (SlNo.dropIf HS.out hi)
  rcases ad with _ | ⟨bb, oo, sp⟩
  all_goals
    gi_wp2
    refine wpIn_wide.2 ?_
    (refine wp_region_ext_lit (by kernel_rfl) (by kernel_rfl) ?_); (repeat (go_big_quiet_step ((first | (go_at_call 61; exact quiet_ext ((first_any _ L a ha _ ⟨_, cap, rfl, HS.out.at.ext EXX⟩ i hi HLO.out (fun h => HHI.out i (Nat.le_refl _) h)).mono fun e w' h => h)))))); (refine wpQuiet_nil ?_; intro _ hw'; obtain ⟨⟨osq, nq⟩, hw''⟩ := hw'; replace hw'' : _ = grew _ osq nq := hw''; subst hw'')
    have hD := HD.out
    simp only [dropAd] at hD
    clear HD
  · obtain ⟨adS, hadS⟩ : ∃ adS : Option Addr, none = adS := ⟨_, rfl⟩
    rw [hadS] at hD
    have HD := Lib.hid hD
    clear hD
    gi_wp2
    subst hadS
    have HXW : Hid (Ext W (grew W osq nq)) := Lib.hid EX
    gi_loopw [13] (fun iv wr => ∃ n : Nat, n ≤ L.length - i ∧ iv = .int .i64 n ∧ Hid (J ((L.drop i).take n) wr) ∧ Hid (Below N0 W wr) ∧ Hid (∀ j, i ≤ j → j < i + n → (L.getD j zrw).k ≤ b)) (fun iv _ => (L.length - i) - (intOf iv).toNat)
    case atStart => exact ⟨0, Nat.zero_le _, rfl, Lib.hid (HJ.out _ _ _ H0.out HXW.out), Lib.hid (HXW.out.below.mono hN), Lib.hid fun j h1 h2 => by omega⟩
    case round =>
      obtain ⟨n, hn, rfl, HJ1, HB, HT⟩ := hrel
      have hwz := HB.out.size
      have c3 : wr.cell? ⟨B3, 0, none⟩ = some (.int .u32 b) := (Below.cell HB.out (p := ⟨B3, 0, none⟩) hB3).trans h3
      have l3' := World.block_lt_of_cell? _ _ c3
      dsimp only at l3'
      have HSr := Lib.hid (HD.out.to (S' := fun b => b < N0) (w' := wr) fun b i v hb hc => ⟨hb, (Below.cell HB.out (p := ⟨b, i, none⟩) hb).trans hc⟩)
      by_cases hlt : n < L.length - i
      · obtain ⟨b0, o0, e0, hbl, r1, r2⟩ := HSr.out.at.rw (L := L.drop i) (i := n) (by simp; omega)
        cases e0
      · obtain rfl : n = L.length - i := by omega
        have HDONE : Hid (ordScan L a b = (L.drop i).take (L.length - i)) := Lib.hid (scan_at HR.out a b hi HLO.out HHI.out (by omega) HT.out (fun h => by omega))
        gi_wp2
        go_end0
        exact ⟨⟨_, rfl⟩, .inl ⟨_, rfl, by rw [HDONE.out]; exact HJ1.out⟩⟩
  · obtain ⟨adS, hadS⟩ : ∃ adS, (if cap = i then some { block := bb, off := oo, spot := sp } else some (({ block := bb, off := oo, spot := sp } : Addr).add (i * 2))) = adS := ⟨_, rfl⟩
    rw [hadS] at hD
    rw [hadS]
    have HD := Lib.hid hD
    clear hD hadS
    gi_wp2
    have HXW : Hid (Ext W (grew W osq nq)) := Lib.hid EX
    gi_loopw [13] (fun iv wr => ∃ n : Nat, n ≤ L.length - i ∧ iv = .int .i64 n ∧ Hid (J ((L.drop i).take n) wr) ∧ Hid (Below N0 W wr) ∧ Hid (∀ j, i ≤ j → j < i + n → (L.getD j zrw).k ≤ b)) (fun iv _ => (L.length - i) - (intOf iv).toNat)
    case atStart => exact ⟨0, Nat.zero_le _, rfl, Lib.hid (HJ.out _ _ _ H0.out HXW.out), Lib.hid (HXW.out.below.mono hN), Lib.hid fun j h1 h2 => by omega⟩
    case round =>
      obtain ⟨n, hn, rfl, HJ1, HB, HT⟩ := hrel
      have hwz := HB.out.size
      have c3 : wr.cell? ⟨B3, 0, none⟩ = some (.int .u32 b) := (Below.cell HB.out (p := ⟨B3, 0, none⟩) hB3).trans h3
      have l3' := World.block_lt_of_cell? _ _ c3
      dsimp only at l3'
      have HSr := Lib.hid (HD.out.to (S' := fun b => b < N0) (w' := wr) fun b i v hb hc => ⟨hb, (Below.cell HB.out (p := ⟨b, i, none⟩) hb).trans hc⟩)
      by_cases hlt : n < L.length - i
      · obtain ⟨b0, o0, e0, hbl, r1, r2⟩ := HSr.out.at.rw (L := L.drop i) (i := n) (by simp; omega)
        subst e0
        have hgd : (L.drop i).getD n zrw = L.getD (i + n) zrw := by simp [List.getD_eq_getElem?_getD, List.getElem?_drop]
        rw [hgd] at r1 r2
        have hts := drop_take_succ (L := L) (i := i) (n := n) (by omega)
        obtain ⟨x, hx⟩ : ∃ x, L.getD (i + n) zrw = x := ⟨_, rfl⟩
        rw [hx] at r1 r2 hts
        have HXX := Lib.hid hx
        have HTS := Lib.hid hts
        have i0 : (0 : Int) ≤ (n : Int) := by omega
        have i1 : (n : Int) < ((L.length - i : Nat) : Int) := by omega
        clear hx hts hgd
        by_cases hq : b < x.k
        · have HDONE : Hid (ordScan L a b = (L.drop i).take n) := Lib.hid (scan_at HR.out a b hi HLO.out HHI.out (by omega) HT.out (fun _ => by rw [HXX.out]; exact hq))
          gi_wp2
          refine ⟨fun _ h => (by cases h), ?_⟩
          gi_wp2
          refine bodyPost_ret (results_none rfl _ _ _) rfl ?_
          exact ⟨⟨_, rfl⟩, .inl ⟨_, rfl, by rw [HDONE.out]; exact HJ.out _ _ _ HJ1.out EXX⟩⟩
        · have hq' : x.k ≤ b := by omega
          have HT2 : Hid (∀ j, i ≤ j → j < i + (n + 1) → (L.getD j zrw).k ≤ b) := Lib.hid (by
            intro j j1 j2
            by_cases e : j = i + n
            · subst e; rw [HXX.out]; exact hq'
            · exact HT.out j j1 (by omega))
          obtain ⟨fn, tmps, assign, body, hy, hR⟩ := HY.out _ x (wr.alloc (.cells #[.int .u64 x.k, .int .u64 x.v] 44)) (HJ.out _ _ _ HJ1.out EXX) (by simp; omega)
          gi_wp2
          refine hR.mono ?_
          rintro e W3 (⟨rfl, hJ3, hk3⟩ | ⟨rfl, hJx3⟩)
          · have HJ3 := Lib.hid hJ3
            have HK3 := Lib.hid hk3
            clear hJ3 hk3
            gi_wp2
            go_roundw
            case rel => exact ⟨n + 1, by omega, by go_num, Lib.hid (by rw [HTS.out]; exact HJ3.out), Lib.hid (HB.out.trans (((Ext.below EXX).mono (by omega)).trans HK3.out)), HT2⟩
            case measure => simp [intOf]; omega
          · have HJ3 := Lib.hid hJx3
            clear hJx3
            gi_wp2
            refine bodyPost_ret (results_none rfl _ _ _) rfl ?_
            exact ⟨⟨_, rfl⟩, .inr ⟨_, trivial, HJ3.out⟩⟩
      · obtain rfl : n = L.length - i := by omega
        have HDONE : Hid (ordScan L a b = (L.drop i).take (L.length - i)) := Lib.hid (scan_at HR.out a b hi HLO.out HHI.out (by omega) HT.out (fun h => by omega))
        gi_wp2
        go_end0
        exact ⟨⟨_, rfl⟩, .inl ⟨_, rfl, by rw [HDONE.out]; exact HJ1.out⟩⟩

/-- What the iterator of 'between' does for a range over it. -/
theorem between_stops (B1 B2 B3 N0 : Nat) (a b : Int) (ha : 0 ≤ a ∧ a ≤ 4294967295) (hb : 0 ≤ b ∧ b ≤ 4294967295) (L : List Rw) (hr : Rises L) (hl : L.length ≤ 1000) (ad : Option Addr) (cap : Nat) (w : World)
    (h1 : w.cell? ⟨B1, 0, none⟩ = some (.slice ad L.length cap)) (h2 : w.cell? ⟨B2, 0, none⟩ = some (.int .u32 a)) (h3 : w.cell? ⟨B3, 0, none⟩ = some (.int .u32 b)) (hB1 : B1 < N0) (hB2 : B2 < N0) (hB3 : B3 < N0) (hN : N0 ≤ w.heap.size)
    (hs : SlNo (fun b => b < N0) w ad L.length cap (rwCells L)) :
    SeqStopsK Fence.wide 3 Tryd.prog 65 #[.pointer (some ⟨B1, 0, none⟩), .pointer (some ⟨B2, 0, none⟩), .pointer (some ⟨B3, 0, none⟩)] (fun x : Rw => #[x.val]) (Below N0) (fun ys => ys = ordScan L a b) (fun _ => True) 2000 w :=
  fun l J Jx W hW hJ _ hY h0 => by
    have hx : Ext w W := Ext.of_below hW
    exact between1_in l B1 B2 B3 N0 a b ha hb L hr hl ad cap J Jx (fun pre A B hj hab => hJ pre A B none hj (grown_ext hab) (fun r e => by cases e)) hY W (ext_cell hx h1) (ext_cell hx h2) (ext_cell hx h3) hB1 hB2 hB3 (Nat.le_trans hN hx.size) (hs.ext hx) h0

/-- A row of the call's own, where only other things' blocks changed. -/
theorem own_kept {A B : World} {row : Option Nat} {base : Nat} {e : TypeId} {size n : Nat} {v : Value} {xs : List Value} (h : A.ownsRow base e size v n xs) (hg : A.grownBy B row) (hr : ∀ r, row = some r → ∃ o : Obj, A.heap[r]? = some o ∧ o.isCells = false) : B.ownsRow base e size v n xs := by
  obtain ⟨h1, h2⟩ := h
  refine ⟨h1, ?_⟩
  rcases h2 with h | ⟨g, cap, cur, hv, hb, hc, hk⟩
  · exact Or.inl h
  · exact Or.inr ⟨g, cap, cur, hv, hb, (grownBy_keeps_cells hg hr hc rfl).trans hc, hk⟩
theorem gathered_any (B1 B2 B3 : Nat) (a b : Int) (ha : 0 ≤ a ∧ a ≤ 4294967295) (hb : 0 ≤ b ∧ b ≤ 4294967295) (L : List Rw) (hr : Rises L) (hl : L.length ≤ 1000) (ad : Option Addr) (cap : Nat) (w : World)
    (h1 : w.cell? ⟨B1, 0, none⟩ = some (.slice ad L.length cap)) (h2 : w.cell? ⟨B2, 0, none⟩ = some (.int .u32 a)) (h3 : w.cell? ⟨B3, 0, none⟩ = some (.int .u32 b)) (hs : SlAt w ad L.length cap (rwCells L)) :
    Calls Tryd.prog 63 #[.func (.func 65) #[] #[.pointer (some ⟨B1, 0, none⟩), .pointer (some ⟨B2, 0, none⟩), .pointer (some ⟨B3, 0, none⟩)]] w fun e w' => ∃ r, e = .returned r ∧ w'.ownsRow w.heap.size 44 2 r (ordScan L a b).length (rwCells (ordScan L a b)) ∧ Ext w w' := by
  have l1 := World.block_lt_of_cell? _ _ h1
  have l2 := World.block_lt_of_cell? _ _ h2
  have l3 := World.block_lt_of_cell? _ _ h3
  dsimp only at l1 l2 l3
  have HSTOP : Hid (SeqStopsK Fence.wide 3 Tryd.prog 65 #[.pointer (some ⟨B1, 0, none⟩), .pointer (some ⟨B2, 0, none⟩), .pointer (some ⟨B3, 0, none⟩)] (fun x : Rw => #[x.val]) (Below w.heap.size) (fun ys => ys = ordScan L a b) (fun _ => True) 2000 w) :=
    Lib.hid (between_stops B1 B2 B3 w.heap.size a b ha hb L hr hl ad cap w h1 h2 h3 l1 l2 l3 (Nat.le_refl _) (hs.no fun b i v hc => ⟨World.block_lt_of_cell? w _ hc, hc⟩))
  have hlen := ordScan_len L a b
  clear h1 h2 h3 hs
  obtain ⟨ti, HI1, HI2, HI3, HI4⟩ := info_parts info_row; have HI := Lib.hid (And.intro HI1 (And.intro HI2 (And.intro HI3 HI4))); clear HI1 HI2 HI3 HI4
  refine (callsIn_wide (n := 4)).1 ?_
  refine callsIn_of_wp_marks Tryd.func63 rfl trivial ?_ rfl
  simp only [Tryd.ntmps63, List.size_toArray, List.length_cons, List.length_nil, Nat.reduceAdd, Nat.reduceSub, Array.replicate_succ, Array.replicate_zero, List.push_toArray, List.append_toArray, List.nil_append, List.cons_append]
  gi_wp2
  have hB0 : Below w.heap.size w (w.alloc (.cells #[.slice none 0 0] 30)) := Ext.below EX
  refine wpIn_rangeFunc_ownH rfl (by decide) (gf := 65) (lb := #[.pointer (some ⟨B1, 0, none⟩), .pointer (some ⟨B2, 0, none⟩), .pointer (some ⟨B3, 0, none⟩)]) rfl trivial (enters_of Tryd.func65 (by kernel_rfl) rfl)
    HSTOP.out (fun h k => h.trans k) (fun W l o o' hl h hc hw => belowK_b (w := w) (Nat.le_refl _) W l o o' (by simp at hl; omega) h hc hw) hB0 (fun _ => rfl)
    (fun pre W => (∃ v, Boxed W w.heap.size 30 v ∧ W.ownsRow w.heap.size 44 2 v pre.length (rwCells pre) ∧ True) ∧ Below w.heap.size w W)
    (fun _ _ _ => False)
    (OwnFrom.and ((holdsRow_own w.heap.size w.heap.size 30 44 2 (fun pre : List Rw => pre.length) rwCells (fun _ _ => True)).from _) (ownFrom_below (Nat.le_refl _) (by simp)))
    (fun _ _ _ _ _ h _ _ => h)
    ⟨⟨_, Boxed.new w 30 _, own_nil _ _ _ _, trivial⟩, hB0⟩
    (fun (x : Rw) a' W => ∃ B, a' = { tmps := #[.func (.func 65) #[] #[.pointer (some ⟨B1, 0, none⟩), .pointer (some ⟨B2, 0, none⟩), .pointer (some ⟨B3, 0, none⟩)], undef, .pointer (some ⟨w.heap.size, 0, none⟩), .pointer (some ⟨B, 0, none⟩), .func (.func 65) #[] #[.pointer (some ⟨B1, 0, none⟩), .pointer (some ⟨B2, 0, none⟩), .pointer (some ⟨B3, 0, none⟩)], x.val, undef, undef, undef, undef, undef], defers := [] } ∧ W.cell? ⟨B, 0, none⟩ = some (.int .u64 x.k) ∧ W.cell? ⟨B, 1, none⟩ = some (.int .u64 x.v))
    (fun x a' => fun _ A B' row hs hg hr => by
      obtain ⟨B, h1, h2, h3⟩ := hs
      exact ⟨B, h1, cell_kept h2 hg (fun r e => (hr r e).2), cell_kept h3 hg (fun r e => (hr r e).2)⟩) ?assign ?body ?done ?stop
  case assign =>
    rintro l pre x W K ⟨⟨v, hv, hr, _⟩, hB⟩ hK
    have HK := Lib.hid hK
    have HV := Lib.hid hv
    have HR := Lib.hid hr
    have HB := Lib.hid hB
    have hsz := hB.size
    clear hK hv hr hB
    have ez : (#[5] : Array Tmp).zip #[x.val] = #[(5, x.val)] := by simp
    simp only [ez]
    show Code.wpIn _ _ _ _ _ { tmps := #[.func (.func 65) #[] #[.pointer (some ⟨B1, 0, none⟩), .pointer (some ⟨B2, 0, none⟩), .pointer (some ⟨B3, 0, none⟩)], undef, .pointer (some ⟨w.heap.size, 0, none⟩), undef, .func (.func 65) #[] #[.pointer (some ⟨B1, 0, none⟩), .pointer (some ⟨B2, 0, none⟩), .pointer (some ⟨B3, 0, none⟩)], x.val, undef, undef, undef, undef, undef], defers := [] } _
    gi_wp2
    refine HK.out _ _ ((KeepsOthers.alloc W _).from _) ((Ext.below EX).mono hsz) ⟨⟨v, HV.out.alloc _, own_ext HR.out EX, trivial⟩, HB.out.trans ((Ext.below EX).mono hsz)⟩ ⟨W.heap.size, rfl, by simp [go_sem], by simp [go_sem]⟩
  case body =>
    rintro l pre x a' W hwl _ ⟨⟨v, hv, hr, _⟩, hB⟩ ⟨B, rfl, c0, c1⟩ hlen2
    have HV := Lib.hid hv
    have HR := Lib.hid hr
    have HB := Lib.hid hB
    have hsz := hB.size
    have hvc := hv.cell
    have hvl := hv.lt
    obtain ⟨ad2, cap2, rfl⟩ := own_form hr
    have l0 := World.block_lt_of_cell? _ _ c0
    dsimp only at l0
    clear hv hr hB
    gi_wp2_with (gi_at_builtin; refine wpListIn_append_own _ rfl _ _ 30 rfl w.heap.size 44 ti (.agg #[.int .u64 0, .int .u64 0]) 2 16 Tryd.underlying30 HI.out.1 HI.out.2.1 HI.out.2.2.1 HI.out.2.2.2 rfl (by decide) (.slice ad2 pre.length cap2) pre.length (rwCells pre) (by rfl) (by exact own_ext HR.out EX) ⟨W.heap.size, 0, none⟩ 1 1 (rwCells [x]) (by rfl) (by rfl) (by exact rows_one ⟨by simp [go_sem], by simp [go_sem]⟩) (rwCells_one _) (by unfold maxLen; omega) (by omega) (by simp; omega) ?_; intro v' w3 hown3 hg3 _; have HA := Lib.hid (Boxed.appended HV.out (by decide) HR.out hsz (Nat.le_refl _) hown3 hg3); obtain ⟨g', cap', rfl⟩ := ownsRow_succ hown3; have hvc3 := HA.out.1.cell; have hvf3 := HA.out.1.frozen; have hvl3 := HA.out.1.lt; clear hown3 hg3; go_frame)
    exact ⟨HA.out.2.2.2.1.from _, HA.out.2.2.2.2, ⟨_, HA.out.2.1, by rw [rwCells_app, List.length_append]; exact HA.out.2.2.1, trivial⟩, HB.out.trans HA.out.2.2.2.2⟩
  case done =>
    rintro D ys W hD rfl ⟨⟨v, hv, hr, _⟩, hB⟩ hK
    have HV := Lib.hid hv
    have HR := Lib.hid hr
    have HB := Lib.hid hB
    have hvc := hv.cell
    have hvf := hv.frozen
    have hvl := hv.lt
    obtain ⟨ad2, cap2, rfl⟩ := own_form hr
    clear hv hr hB
    gi_wp2
    have hK' := (KeepsOthers.setCell W ⟨w.heap.size, 0, none⟩ (.slice ad2 (ordScan L a b).length cap2)).same D _ hK rfl
    refine ⟨by simp, .inl ⟨_, _, rfl, run_takeDeferred hK', ?_⟩⟩
    have hc5 := cell_kept (World.cell?_setCell_same' W ⟨w.heap.size, 0, none⟩ (.slice ad2 (ordScan L a b).length cap2) (by rw [hvc]; rfl)) (grownBy_putObj' _ D (.deferred none)) (fun r e => by cases e; exact ⟨_, hK', rfl⟩)
    have hB2 := (HB.out.setCell (p := ⟨w.heap.size, 0, none⟩) (Nat.le_refl _) (.slice ad2 (ordScan L a b).length cap2)).trans (belowK_b (w := w) (Nat.le_refl _) _ D _ (.deferred none) (by simp at hD; omega) hK' rfl rfl)
    refine ⟨.slice ad2 (ordScan L a b).length cap2, ?_, _, rfl, ?_, Ext.of_below hB2⟩
    · simp [results, Tryd.f63, go_sem, hc5]
    · exact ownsRow_putObj (HR.out.kept (grownBy_setCell' W w.heap.size _) (.inr (HV.out.not_row (by decide) HR.out).symm)) _ hK' rfl
  case stop =>
    rintro D c pre W hD hpre h hK
    exact absurd h id
end Go.Proofs.YtknfikdignpniaaDoor.order
