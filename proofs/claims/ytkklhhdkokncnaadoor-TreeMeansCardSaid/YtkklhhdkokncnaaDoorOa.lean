/- Plain: an index in order, and what an operation does with it; no program in sight. -/
import Derived.Test.YtkklhhdkokncnaaDoorA5
import Derived.Test.YtkklhhdkokncnaaDoorRf
import Derived.Test.YtkklhhdkokncnaaDoorLO
import Derived.Test.YtkklhhdkokncnaaDoorPO
import Derived.Deep.QuietTactic
import Derived.BigQuiet
namespace Go.Proofs.YtkklhhdkokncnaaDoor.order
open Go Go.RowKit
set_option maxRecDepth 100000
set_option maxHeartbeats 8000000

/-- What a row of an index may be. -/
def RowOk (x : Rw) : Prop := (0 ≤ x.k ∧ x.k ≤ 2147483647) ∧ 0 ≤ x.v ∧ x.v ≤ 2147483647
def ordB (x : Rw) : Bool := decide (x.k ≤ 2147483647) && decide (x.v ≤ 2147483647)
/-- May rows be an index's? -/
def ordIs (c : Cfg) (L : List Rw) : Bool := partOk c && (c.object == 2) && decide ((L.length : Int) ≤ c.cap) && risesB L && L.all ordB
theorem ordIs_ok {c : Cfg} {L : List Rw} (hf : RwsFit L) (h : ordIs c L = true) : partOk c = true ∧ c.object = 2 ∧ (L.length : Int) ≤ c.cap ∧ Rises L ∧ ∀ x ∈ L, RowOk x := by
  simp only [ordIs, Bool.and_eq_true, decide_eq_true_eq, List.all_eq_true, beq_iff_eq, risesB_iff] at h
  obtain ⟨⟨⟨⟨h1, h2⟩, h3⟩, h4⟩, h5⟩ := h
  refine ⟨h1, h2, h3, h4, fun x hx => ?_⟩
  have h6 := h5 x hx
  have h7 := hf x hx
  simp [ordB] at h6
  exact ⟨⟨h7.k.1, h6.1⟩, h7.v.1, h6.2⟩
theorem ordIs_mk {c : Cfg} {L M : List Rw} (hf : RwsFit L) (h : ordIs c L = true) (h1 : (M.length : Int) ≤ c.cap) (h2 : Rises M) (h3 : ∀ x ∈ M, RowOk x) : ordIs c M = true := by
  obtain ⟨hp, ho, _, _, _⟩ := ordIs_ok hf h
  simp only [ordIs, Bool.and_eq_true, decide_eq_true_eq, List.all_eq_true, beq_iff_eq, risesB_iff]
  refine ⟨⟨⟨⟨hp, ho⟩, h1⟩, h2⟩, fun x hx => ?_⟩
  obtain ⟨⟨a, b⟩, d, e⟩ := h3 x hx
  simp [ordB, b, e]
/-- What comes of an operation: the rows, the code, the word, the rows that are answered, the error. -/
structure Outc where
  rows : List Rw
  code : Int
  word : Int
  res : List Rw
  err : Int
def ordScan (L : List Rw) (a b : Int) : List Rw := L.filter fun x => decide (a ≤ x.k) && decide (x.k ≤ b)
/-- The last row whose key is not greater. -/
def ordFloor (L : List Rw) (a : Int) : List Rw := L.foldl (fun r x => if x.k ≤ a then [x] else r) []
def ordRead (L : List Rw) (o : Opn) : Outc :=
  if o.kind == 6 then (match look L o.a with | some u => ⟨L, 0, u + 1, [], 0⟩ | none => ⟨L, 6, 0, [], 0⟩)
  else if o.kind == 8 then ⟨L, 0, 0, ordScan L o.a o.b, 0⟩
  else if (ordFloor L o.a).isEmpty then ⟨L, 6, 0, [], 0⟩ else ⟨L, 0, 0, ordFloor L o.a, 0⟩
def ordDone (c : Cfg) (L : List Rw) (o : Opn) : Outc :=
  if decide (6 ≤ o.kind) then ordRead L o
  else if o.kind == 4 then
    (match look L o.a with
     | some u => ⟨withK o.a o.b L, 0, u + 1, [], 0⟩
     | none => if c.cap ≤ (L.length : Int) then ⟨L, 9, 0, [], 0⟩ else ⟨withK o.a o.b L, 0, 0, [], 0⟩)
  else
    (match look L o.a with
     | some u => ⟨withoutK o.a L, 0, u + 1, [], 0⟩
     | none => ⟨L, 6, 0, [], 0⟩)
def ordDo (c : Cfg) (L : List Rw) (o : Opn) : Outc :=
  if partOk c && (c.object == 2) then
    (if ordIs c L then (if opErr c o == 0 then ordDone c L o else ⟨L, opErr c o, 0, [], 0⟩) else ⟨[], 0, 0, [], 2⟩)
  else ⟨[], 0, 0, [], 40⟩
theorem ordDo_conf {c : Cfg} (L : List Rw) (o : Opn) (h : (partOk c && (c.object == 2)) = false) : ordDo c L o = ⟨[], 0, 0, [], 40⟩ := by simp [ordDo, h]
theorem ordDo_arg {c : Cfg} {L : List Rw} (o : Opn) (h : (partOk c && (c.object == 2)) = true) (h2 : ordIs c L = false) : ordDo c L o = ⟨[], 0, 0, [], 2⟩ := by simp [ordDo, h, h2]
theorem ordDo_bad {c : Cfg} {L : List Rw} {o : Opn} (h : (partOk c && (c.object == 2)) = true) (h2 : ordIs c L = true) (h3 : (opErr c o == 0) = false) : ordDo c L o = ⟨L, opErr c o, 0, [], 0⟩ := by simp [ordDo, h, h2, h3]
theorem ordDo_ok {c : Cfg} {L : List Rw} {o : Opn} (h : (partOk c && (c.object == 2)) = true) (h2 : ordIs c L = true) (h3 : (opErr c o == 0) = true) : ordDo c L o = ordDone c L o := by simp [ordDo, h, h2, h3]
/-- The kinds of an operation on an index. -/
theorem ord_kind {c : Cfg} {o : Opn} (hc : c.object = 2) (h : (opErr c o == 0) = true) : partOk c = true ∧ (o.kind = 4 ∨ o.kind = 5 ∨ o.kind = 6 ∨ o.kind = 7 ∨ o.kind = 8) ∧ fitsB c o = true := by
  have h' : opErr c o = 0 := by simpa using h
  unfold opErr at h'
  split at h'
  · rename_i hp
    split at h'
    · rename_i hk
      split at h'
      · rename_i hf
        refine ⟨hp, ?_, hf⟩
        have hk' : objOf o.kind = c.object := by simpa using hk
        rw [hc] at hk'
        unfold objOf at hk'
        split at hk' <;> (try split at hk') <;> (try split at hk') <;> (try split at hk') <;> (try split at hk') <;> omega
      · omega
    · omega
  · omega
theorem ord_fits {c : Cfg} {o : Opn} (h : fitsB c o = true) (k : o.kind = 4 ∨ o.kind = 5 ∨ o.kind = 6 ∨ o.kind = 7 ∨ o.kind = 8) : o.a ≤ 2147483647 ∧ ((o.kind = 4 ∨ o.kind = 8) → o.b ≤ 2147483647) := by
  rcases k with k | k | k | k | k <;> simp [fitsB, k] at h <;> omega
theorem ordScan_take {L : List Rw} (a b : Int) (k : Nat) (h : k < L.length) : ordScan (L.take (k + 1)) a b = ordScan (L.take k) a b ++ (if decide (a ≤ (L.getD k zrw).k) && decide ((L.getD k zrw).k ≤ b) then [L.getD k zrw] else []) := by
  unfold ordScan
  rw [List.take_add_one, List.getElem?_eq_getElem h, getD_rw L k h, List.filter_append]
  simp only [Option.toList_some, List.filter_cons, List.filter_nil]
theorem ordFloor_take {L : List Rw} (a : Int) (k : Nat) (h : k < L.length) : ordFloor (L.take (k + 1)) a = if (L.getD k zrw).k ≤ a then [L.getD k zrw] else ordFloor (L.take k) a := by
  unfold ordFloor
  rw [List.take_add_one, List.getElem?_eq_getElem h, getD_rw L k h, List.foldl_append]
  rfl
theorem ordScan_len (L : List Rw) (a b : Int) : (ordScan L a b).length ≤ L.length := List.length_filter_le _ _
theorem ordFloor_len (L : List Rw) (a : Int) : (ordFloor L a).length ≤ 1 := by
  have key : ∀ r : List Rw, r.length ≤ 1 → (L.foldl (fun r x => if x.k ≤ a then [x] else r) r).length ≤ 1 := by
    induction L with
    | nil => exact fun r hr => hr
    | cons x l ih =>
      intro r hr
      rw [List.foldl_cons]
      refine ih _ ?_
      split
      · simp
      · exact hr
  exact key [] (by simp)
/-- The floor is the row ahead of the first greater key. -/
theorem ordFloor_at {L : List Rw} (a : Int) {i : Nat} (hi : i ≤ L.length) (h1 : ∀ j, j < i → (L.getD j zrw).k ≤ a) (h2 : ∀ j, i ≤ j → j < L.length → a < (L.getD j zrw).k) : ordFloor L a = if i = 0 then [] else [L.getD (i - 1) zrw] := by
  have key : ∀ k, k ≤ L.length → ordFloor (L.take k) a = if min k i = 0 then [] else [L.getD (min k i - 1) zrw] := by
    intro k
    induction k with
    | zero => intro _; simp [ordFloor]
    | succ k ih =>
      intro hk
      rw [ordFloor_take a k (by omega), ih (by omega)]
      by_cases h : k < i
      · rw [if_pos (h1 k h), if_neg (by omega), show min (k + 1) i - 1 = k by omega]
      · rw [if_neg (by have := h2 k (by omega) (by omega); omega), show min k i = min (k + 1) i by omega]
  have := key L.length (Nat.le_refl _)
  rw [List.take_length] at this
  rw [this, show min L.length i = i by omega]
theorem ordScan_mem (L : List Rw) (a b : Int) : ∀ x ∈ ordScan L a b, x ∈ L := fun _ hx => (List.mem_filter.1 hx).1
theorem ordScan_fit {L : List Rw} (hf : RwsFit L) (a b : Int) : RwsFit (ordScan L a b) := fun x hx => hf x (ordScan_mem L a b x hx)
end Go.Proofs.YtkklhhdkokncnaaDoor.order
/- The walks of 'order.of', 'order.Is', 'first', 'has', and of 'op.Writes'. -/
namespace Go.Proofs.YtkklhhdkokncnaaDoor.order
open Go Go.RowKit
set_option maxRecDepth 100000
set_option maxHeartbeats 8000000
/-- What is known of the package variables here. -/
def Tab (w : World) : Prop := TabW w
theorem Tab.ext {w w' : World} (h : Tab w) (e : Ext w w') : Tab w' := TabW.ext h e
theorem Tab.wr {w : World} (h : Tab w) {k : Int} (hk0 : 0 ≤ k) (hk : k < 15) : w.cell? ⟨0, k.toNat, none⟩ = some (.bool (writesB k)) := TabW.wr h hk0 hk
theorem Tab.base {w : World} (h : Tab w) : _root_.Go.Proofs.YtkklhhdkokncnaaDoor.Tab w := h.1

theorem of_any (c : Cfg) (w : World) : Calls Tryd.prog 39 #[c.v] w fun e w' => e = .returned (.bool (partOk c && (c.object == 2))) ∧ Ext w w' := by
  cases hp : partOk c
  · have HC := Lib.hid (conf_no hp)
    go_enter Tryd.func39, Tryd.ntmps39
    go_wp2_with (go_at_call 53; refine (partCheck_any c _).mono ?_; rintro e w1 ⟨rfl, os1, n1, rfl⟩; rw [HC.out])
    go_ret
    exact ⟨rfl, EX⟩
  · have HC := Lib.hid (conf_ok hp)
    cases h1 : (c.object == 2)
    all_goals
      go_enter Tryd.func39, Tryd.ntmps39
      go_wp2_with (go_at_call 53; refine (partCheck_any c _).mono ?_; rintro e w1 ⟨rfl, os1, n1, rfl⟩; rw [HC.out])
      go_ret
      exact ⟨rfl, EX⟩
theorem writes_any (k : Int) (hk : 1 ≤ k ∧ k ≤ 14) (w : World) (ht : Tab w) : Calls Tryd.prog 47 #[.int .u8 k] w fun e w' => e = .returned (.bool (writesB k)) ∧ Ext w w' := by
  have h1 := ht.wr (k := k) (by omega) (by omega)
  have h2 : k < 15 := by omega
  have h3 : 0 ≤ k := by omega
  clear ht
  go_enter Tryd.func47, Tryd.ntmps47
  go_wp2
  go_ret
  exact ⟨rfl, EX⟩
def okAt (L : List Rw) (j : Nat) : Prop := ordB (L.getD j zrw) = true ∧ (0 < j → (L.getD (j - 1) zrw).k < (L.getD j zrw).k)
theorem ok_all {L : List Rw} (h : ∀ j, j < L.length → okAt L j) : (risesB L && L.all ordB) = true := by
  rw [Bool.and_eq_true]
  refine ⟨(risesB_iff L).2 (rises_of fun i hi => ?_), all_of fun j hj => (h j hj).1⟩
  have := (h (i + 1) hi).2 (by omega)
  simpa using this
theorem ok_not {L : List Rw} {j : Nat} (hj : j < L.length) (h : ¬ okAt L j) : (risesB L && L.all ordB) = false := by
  rw [← Bool.not_eq_true, Bool.and_eq_true]
  rintro ⟨h1, h2⟩
  refine h ⟨?_, fun h0 => rises_at ((risesB_iff L).1 h1) (by omega) hj⟩
  rw [getD_rw L j hj]
  exact List.all_eq_true.1 h2 _ (List.getElem_mem hj)
theorem ok_step {L : List Rw} {k : Nat} (h : ∀ j, j < k → okAt L j) (hk : okAt L k) : ∀ j, j < k + 1 → okAt L j := fun j hj => by
  by_cases e : j = k
  · subst e; exact hk
  · exact h j (by omega)
theorem is_any (c : Cfg) (v : Value) (L : List Rw) (hf : RwsFit L) (w : World) (hv : Sl w v L.length (rwCells L)) : Calls Tryd.prog 17 #[c.v, v] w
    fun e w' => e = .returned (.bool (ordIs c L)) ∧ Ext w w' := by
  have HF := Lib.hid hf
  clear hf
  obtain ⟨ad, cap, rfl, hs⟩ := hv
  have hm := hs.len
  have HS := Lib.hid hs
  clear hs
  obtain ⟨R, hR⟩ : ∃ R, ordIs c L = R := ⟨_, rfl⟩
  rw [hR]
  unfold ordIs at hR
  cases hp : (partOk c && (c.object == 2))
  · have HC := Lib.hid hp
    have HR : Hid (false = R) := Lib.hid (by rw [← hR, hp]; rfl)
    clear hp hR
    go_enter Tryd.func17, Tryd.ntmps17
    go_wp2_with (go_at_call 39; refine (of_any c _).mono ?_; rintro e w1 ⟨rfl, os1, n1, rfl⟩; rw [HC.out])
    go_ret
    exact ⟨by rw [← HR.out] <;> rfl, EX⟩
  · have HC := Lib.hid hp
    rw [hp] at hR
    clear hp
    by_cases h2 : (L.length : Int) ≤ c.cap
    · have h2' : ¬ c.cap < (L.length : Int) := by omega
      simp only [h2, decide_true, Bool.and_true, Bool.true_and] at hR
      have HR : Hid ((risesB L && L.all ordB) = R) := Lib.hid hR
      clear hR
      go_enter Tryd.func17, Tryd.ntmps17
      go_wp2_with (go_at_call 39; refine (of_any c _).mono ?_; rintro e w1 ⟨rfl, os1, n1, rfl⟩; rw [HC.out])
      go_loopw [5, 6, 19] (fun _ _ i wr => ∃ k : Nat, k ≤ L.length ∧ i = .int .i64 k ∧ Ext w wr ∧ Hid (∀ j, j < k → okAt L j)) (fun _ _ i _ => L.length - (intOf i).toNat)
      case atStart => exact ⟨0, Nat.zero_le _, rfl, EX, Lib.hid fun j hj => absurd hj (Nat.not_lt_zero _)⟩
      case round =>
        obtain ⟨k, hk, rfl, he, HT⟩ := hrel
        have HE := Lib.hid he
        clear he
        by_cases hlt : k < L.length
        · obtain ⟨b, o, rfl, hbl, r1, r2⟩ := (HS.out.ext HE.out).rw hlt
          obtain ⟨x, hx⟩ : ∃ x, L.getD k zrw = x := ⟨_, rfl⟩
          rw [hx] at r1 r2
          have HX := Lib.hid hx
          have i0 : (0 : Int) ≤ (k : Int) := by omega
          have i1 : (k : Int) < (L.length : Int) := by omega
          clear hx
          have hbad : (¬ (x.k ≤ 2147483647 ∧ x.v ≤ 2147483647)) → Hid (false = R) := fun hb => Lib.hid (by
            rw [← HR.out]
            refine (ok_not hlt fun h => hb ?_).symm
            have := h.1
            rw [HX.out] at this
            simp [ordB] at this
            omega)
          have HBAD := Lib.hid hbad
          clear hbad
          by_cases h5 : 2147483647 < x.k
          · have HR2 := HBAD.out (by omega)
            have g5 : decide (2147483647 < x.k) = true := by simpa using h5
            go_wp2
            (refine wp_region_ext_lit (by kernel_rfl) (by kernel_rfl) ?_); (repeat (go_big_quiet_step (fail))); (refine wpQuiet_nil ?_; intro _ hw'; obtain ⟨⟨osq, nq⟩, hw''⟩ := hw'; replace hw'' : _ = grew _ osq nq := hw''; subst hw'')
            go_wp2
            go_ret
            exact ⟨by rw [← HR2.out] <;> rfl, HE.out.trans EX⟩
          · have g5 : decide (2147483647 < x.k) = false := by simp; omega
            by_cases h6 : 2147483647 < x.v
            · have HR2 := HBAD.out (by omega)
              have g6 : decide (2147483647 < x.v) = true := by simpa using h6
              go_wp2
              (refine wp_region_ext_lit (by kernel_rfl) (by kernel_rfl) ?_); (repeat (go_big_quiet_step (fail))); (refine wpQuiet_nil ?_; intro _ hw'; obtain ⟨⟨osq, nq⟩, hw''⟩ := hw'; replace hw'' : _ = grew _ osq nq := hw''; subst hw'')
              go_wp2
              go_ret
              exact ⟨by rw [← HR2.out] <;> rfl, HE.out.trans EX⟩
            · have g6 : decide (2147483647 < x.v) = false := by simp; omega
              have hrb : ordB x = true := by simp [ordB]; omega
              by_cases h8 : k = 0
              · have HT2 : Hid (∀ j, j < k + 1 → okAt L j) := Lib.hid (ok_step HT.out ⟨by rw [HX.out]; exact hrb, fun h => by omega⟩)
                have g8 : decide ((0 : Int) < (k : Int)) = false := by simp; omega
                have g8n : decide (0 < k) = false := by simp; omega
                clear hrb h8
                go_wp2
                (refine wp_region_ext_lit (by kernel_rfl) (by kernel_rfl) ?_); (repeat (go_big_quiet_step (fail))); (refine wpQuiet_nil ?_; intro _ hw'; obtain ⟨⟨osq, nq⟩, hw''⟩ := hw'; replace hw'' : _ = grew _ osq nq := hw''; subst hw'')
                go_wp2
                go_roundw
                case rel => exact ⟨k + 1, by omega, by go_num, HE.out.trans EX, HT2⟩
                case measure => simp [intOf]; omega
              · obtain ⟨j, rfl⟩ : ∃ j, k = j + 1 := ⟨k - 1, by omega⟩
                obtain ⟨b', o', e2, _, s1, s2⟩ := (HS.out.ext HE.out).rw (i := j) (by omega)
                cases e2
                obtain ⟨y, hy⟩ : ∃ y, L.getD j zrw = y := ⟨_, rfl⟩
                rw [hy] at s1 s2
                have HY := Lib.hid hy
                have i3 : (0 : Int) ≤ (j : Int) := by omega
                have i4 : (j : Int) < (L.length : Int) := by omega
                have i2 : IntKind.i64.wrap (((j + 1 : Nat) : Int) - 1) = (j : Int) := by rw [IntKind.wrap_i64]; omega
                have i5 : (0 : Int) < ((j + 1 : Nat) : Int) := by omega
                have g8 : decide ((0 : Int) < ((j + 1 : Nat) : Int)) = true := decide_eq_true i5
                clear hy s2
                by_cases h9 : x.k ≤ y.k
                · have HR2 : Hid (false = R) := Lib.hid (by
                    rw [← HR.out]
                    refine (ok_not hlt fun h => ?_).symm
                    have := h.2 (by omega)
                    rw [Nat.add_sub_cancel, HX.out, HY.out] at this
                    omega)
                  clear hrb
                  go_wp2
                  (refine wp_region_ext_lit (by kernel_rfl) (by kernel_rfl) ?_); (repeat (go_big_quiet_step (fail))); (refine wpQuiet_nil ?_; intro _ hw'; obtain ⟨⟨osq, nq⟩, hw''⟩ := hw'; replace hw'' : _ = grew _ osq nq := hw''; subst hw'')
                  go_wp2
                  go_ret
                  exact ⟨by rw [← HR2.out] <;> rfl, HE.out.trans EX⟩
                · have g9 : decide (x.k ≤ y.k) = false := by simp; omega
                  have HT2 : Hid (∀ i, i < j + 1 + 1 → okAt L i) := Lib.hid (ok_step HT.out ⟨by rw [HX.out]; exact hrb, fun _ => by rw [Nat.add_sub_cancel, HX.out, HY.out]; omega⟩)
                  clear hrb
                  go_wp2
                  (refine wp_region_ext_lit (by kernel_rfl) (by kernel_rfl) ?_); (repeat (go_big_quiet_step (fail))); (refine wpQuiet_nil ?_; intro _ hw'; obtain ⟨⟨osq, nq⟩, hw''⟩ := hw'; replace hw'' : _ = grew _ osq nq := hw''; subst hw'')
                  go_wp2
                  go_roundw
                  case rel => exact ⟨j + 1 + 1, by omega, by go_num, HE.out.trans EX, HT2⟩
                  case measure => simp [intOf]; omega
        · obtain rfl : k = L.length := by omega
          have HR2 : Hid (true = R) := Lib.hid (by rw [← HR.out]; exact (ok_all HT.out).symm)
          go_wp2
          go_ret
          exact ⟨by rw [← HR2.out] <;> rfl, HE.out⟩
    · have h2' : c.cap < (L.length : Int) := by omega
      have HR : Hid (false = R) := Lib.hid (by rw [← hR]; simp [h2])
      clear hR
      go_enter Tryd.func17, Tryd.ntmps17
      go_wp2_with (go_at_call 39; refine (of_any c _).mono ?_; rintro e w1 ⟨rfl, os1, n1, rfl⟩; rw [HC.out])
      go_ret
      exact ⟨by rw [← HR.out] <;> rfl, EX⟩

theorem first_any (v : Value) (L : List Rw) (q : Int) (hq : 0 ≤ q ∧ q ≤ 4294967295) (w : World) (hv : Sl w v L.length (rwCells L)) (n : Nat) (hn : n ≤ L.length) (h1 : ∀ j, j < n → (L.getD j zrw).k < q) (h2 : n < L.length → q ≤ (L.getD n zrw).k) : Calls Tryd.prog 49 #[v, .int .u32 q] w
    fun e w' => e = .returned (.int .i64 n) ∧ Ext w w' := by
  obtain ⟨ad, cap, rfl, hs⟩ := hv
  have hm := hs.len
  have HS := Lib.hid hs
  have H1 := Lib.hid h1
  have H2 := Lib.hid h2
  clear hs h1 h2
  go_enter Tryd.func49, Tryd.ntmps49
  go_wp2
  go_loopw [9] (fun i wr => ∃ k : Nat, k ≤ n ∧ i = .int .i64 k ∧ Hid (Ext w wr)) (fun i _ => L.length - (intOf i).toNat)
  case atStart => exact ⟨0, Nat.zero_le _, rfl, Lib.hid (Ext.refl _)⟩
  case round =>
    obtain ⟨k, hk, rfl, HE⟩ := hrel
    by_cases hlt : k < L.length
    · obtain ⟨b, o, rfl, hbl, r1, r2⟩ := (HS.out.ext HE.out).rw hlt
      have hlo := H1.out k
      have hhi : k = n → q ≤ (L.getD k zrw).k := fun e => by subst e; exact H2.out hlt
      obtain ⟨x, hx⟩ : ∃ x, L.getD k zrw = x := ⟨_, rfl⟩
      rw [hx] at r1 r2 hlo hhi
      have i0 : (0 : Int) ≤ (k : Int) := by omega
      have i1 : (k : Int) < (L.length : Int) := by omega
      clear hx
      by_cases h : k < n
      · have g : ¬ q ≤ x.k := by have := hlo h; omega
        clear hlo hhi
        go_wp2
        go_roundw
        case rel => exact ⟨k + 1, by omega, by go_num, Lib.hid (HE.out.trans EX)⟩
        case measure => simp [intOf]; omega
      · obtain rfl : k = n := by omega
        have g : q ≤ x.k := hhi rfl
        clear hlo hhi
        go_wp2
        go_ret
        exact ⟨rfl, HE.out.trans EX⟩
    · obtain rfl : k = L.length := by omega
      obtain rfl : n = L.length := by omega
      go_wp2
      go_ret
      exact ⟨rfl, HE.out⟩
theorem has_any (v : Value) (L : List Rw) (q : Int) (hq : 0 ≤ q ∧ q ≤ 4294967295) (w : World) (hv : Sl w v L.length (rwCells L)) (n : Nat) (hn : n ≤ L.length) (R : Bool) (hR : (decide (n < L.length) && ((L.getD n zrw).k == q)) = R) : Calls Tryd.prog 50 #[v, .int .i64 n, .int .u32 q] w
    fun e w' => e = .returned (.bool R) ∧ Ext w w' := by
  obtain ⟨ad, cap, rfl, hs⟩ := hv
  have hm := hs.len
  by_cases hlt : n < L.length
  · obtain ⟨b, o, rfl, hbl, r1, r2⟩ := hs.rw hlt
    obtain ⟨x, hx⟩ : ∃ x, L.getD n zrw = x := ⟨_, rfl⟩
    rw [hx] at r1 r2 hR
    simp only [hlt, decide_true, Bool.true_and] at hR
    have i0 : (0 : Int) ≤ (n : Int) := by omega
    have i1 : (n : Int) < (L.length : Int) := by omega
    clear hx hs
    go_enter Tryd.func50, Tryd.ntmps50
    go_wp2
    go_ret
    exact ⟨by rw [← hR] <;> rfl, EX⟩
  · obtain rfl : R = false := by rw [← hR]; simp [hlt]
    have i1 : ¬ (n : Int) < (L.length : Int) := by omega
    clear hR hs hlt
    go_enter Tryd.func50, Tryd.ntmps50
    go_wp2
    go_ret
    exact ⟨rfl, EX⟩
end Go.Proofs.YtkklhhdkokncnaaDoor.order
