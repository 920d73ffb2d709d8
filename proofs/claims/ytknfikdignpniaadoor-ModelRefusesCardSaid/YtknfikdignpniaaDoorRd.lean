/- Plain: where a key stands among rows whose keys rise; no program in sight. -/
import Derived.Test.YtknfikdignpniaaDoorRb
import Derived.Test.YtknfikdignpniaaDoorRa
import Derived.Test.YtknfikdignpniaaDoorRc
import Derived.Test.YtknfikdignpniaaDoorDel
namespace Go.Proofs.YtknfikdignpniaaDoor.rules
open Go Go.RowKit
set_option maxRecDepth 100000
set_option maxHeartbeats 8000000

theorem findP_pos {L : List Rw} (q : Int) (hr : Rises L) : ∃ i, i ≤ L.length ∧ (∀ j, j < i → (L.getD j zrw).k < q) ∧ (∀ j, i ≤ j → j < L.length → q ≤ (L.getD j zrw).k) ∧ findP (fun x => decide (q ≤ x.k)) L = if i < L.length then (i : Int) else -1 := by
  induction L with
  | nil => exact ⟨0, Nat.le_refl _, fun j hj => absurd hj (Nat.not_lt_zero _), fun j _ hj => absurd hj (Nat.not_lt_zero _), rfl⟩
  | cons x l ih =>
    obtain ⟨hx, hl⟩ := List.pairwise_cons.1 hr
    by_cases h : q ≤ x.k
    · refine ⟨0, Nat.zero_le _, fun j hj => absurd hj (Nat.not_lt_zero _), fun j _ hj => ?_, ?_⟩
      · cases j with
        | zero => simpa using h
        | succ j =>
          have hj' : j < l.length := by simpa using hj
          have := hx _ (List.getElem_mem hj')
          rw [List.getD_cons_succ, getD_rw l j hj']
          omega
      · rw [if_pos (by simp)]
        exact findP_hit (k := 0) (by simp) (by simpa using h) (fun j hj => absurd hj (Nat.not_lt_zero _))
    · obtain ⟨i, h1, h2, h3, h4⟩ := ih hl
      have h2' : ∀ j, j < i + 1 → ((x :: l).getD j zrw).k < q := fun j hj => by
        cases j with
        | zero => simp; omega
        | succ j => rw [List.getD_cons_succ]; exact h2 j (by omega)
      refine ⟨i + 1, by simp; omega, h2', fun j hj hjl => ?_, ?_⟩
      · cases j with
        | zero => omega
        | succ j => rw [List.getD_cons_succ]; exact h3 j (by omega) (by simpa using hjl)
      · by_cases hi : i < l.length
        · rw [if_pos (by simpa using hi)]
          refine findP_hit (by simpa using hi) ?_ fun j hj => ?_
          · rw [List.getD_cons_succ]; simpa using h3 i (Nat.le_refl _) hi
          · have := h2' j hj
            simp only [decide_eq_false_iff_not]
            omega
        · rw [if_neg (by simpa using hi)]
          refine findP_miss fun j hj => ?_
          have := h2' j (by simp at hj; omega)
          simp only [decide_eq_false_iff_not]
          omega
theorem with_pos {L : List Rw} {q u : Int} {i : Nat} (hi : i ≤ L.length) (h1 : ∀ j, j < i → (L.getD j zrw).k < q) (h2 : ∀ j, i ≤ j → j < L.length → q < (L.getD j zrw).k) : withK q u L = L.take i ++ ⟨q, u⟩ :: L.drop i := by
  induction L generalizing i with
  | nil => obtain rfl : i = 0 := by simpa using hi
           rfl
  | cons x l ih =>
    cases i with
    | zero =>
      have := h2 0 (Nat.le_refl _) (by simp)
      simp only [List.getD_cons_zero] at this
      have a : ¬ x.k < q := by omega
      have b : ¬ x.k = q := by omega
      simp [withK, a, b]
    | succ i =>
      have := h1 0 (by omega)
      simp only [List.getD_cons_zero] at this
      simp only [withK, this, if_true]
      rw [ih (by simpa using hi) (fun j hj => by have := h1 (j + 1) (by omega); rwa [List.getD_cons_succ] at this) (fun j hj hjl => by have := h2 (j + 1) (by omega) (by simpa using hjl); rwa [List.getD_cons_succ] at this)]
      simp
theorem with_at {L : List Rw} {q u z : Int} {i : Nat} (hi : i < L.length) (h1 : ∀ j, j < i → (L.getD j zrw).k < q) (h2 : L.getD i zrw = ⟨q, z⟩) : withK q u L = L.set i ⟨q, u⟩ := by
  induction L generalizing i with
  | nil => simp at hi
  | cons x l ih =>
    cases i with
    | zero =>
      simp only [List.getD_cons_zero] at h2
      subst h2
      simp [withK]
    | succ i =>
      have := h1 0 (by omega)
      simp only [List.getD_cons_zero] at this
      simp only [withK, this, if_true]
      rw [ih (by simpa using hi) (fun j hj => by have := h1 (j + 1) (by omega); rwa [List.getD_cons_succ] at this) (by rwa [List.getD_cons_succ] at h2)]
      rfl
theorem without_at {L : List Rw} {q z : Int} {i : Nat} (hr : Rises L) (hi : i < L.length) (h2 : L.getD i zrw = ⟨q, z⟩) : withoutK q L = L.take i ++ L.drop (i + 1) := by
  induction L generalizing i with
  | nil => simp at hi
  | cons x l ih =>
    obtain ⟨hx, hl⟩ := List.pairwise_cons.1 hr
    rw [withoutK_cons]
    cases i with
    | zero =>
      simp only [List.getD_cons_zero] at h2
      subst h2
      simp only [beq_self_eq_true, if_true, List.nil_append, List.take_zero, List.drop_succ_cons, List.drop_zero]
      unfold withoutK
      rw [List.filter_eq_self]
      intro y hy
      have := hx y hy
      simp only at this
      simp; omega
    | succ i =>
      rw [List.getD_cons_succ] at h2
      have hi' : i < l.length := by simpa using hi
      have := hx _ (List.getElem_mem hi')
      rw [getD_rw l i hi'] at h2
      rw [h2] at this
      have hf : (x.k == q) = false := by simp; simp only at this; omega
      rw [hf, ih hl hi' (by rw [getD_rw l i hi']; exact h2)]
      simp
/-- A key that is there. -/
theorem pos_some {L : List Rw} {q u : Int} (hr : Rises L) (h : look L q = some u) : ∃ i, i < L.length ∧ findP (fun x => decide (q ≤ x.k)) L = i ∧ L.getD i zrw = ⟨q, u⟩ ∧ (∀ z, withK q z L = L.set i ⟨q, z⟩) ∧ withoutK q L = L.take i ++ L.drop (i + 1) := by
  obtain ⟨i, h1, h2, h3, h4⟩ := findP_pos q hr
  obtain ⟨j, hj, _, hg⟩ := findK_look h
  have hij : i ≤ j := by
    rcases Nat.lt_or_ge j i with h | h
    · have := h2 j h
      rw [hg] at this
      simp only at this
      omega
    · exact h
  have e : i = j := by
    rcases Nat.lt_or_ge i j with h | h
    · have a := h3 i (Nat.le_refl _) (by omega)
      have b := rises_at hr h hj
      rw [hg] at b
      simp only at b
      omega
    · omega
  subst e
  exact ⟨i, hj, by rw [h4, if_pos hj], hg, fun z => with_at hj h2 hg, without_at hr hj hg⟩
/-- A key that is not there. -/
theorem pos_none {L : List Rw} {q : Int} (hr : Rises L) (h : look L q = none) : ∃ i, i ≤ L.length ∧ findP (fun x => decide (q ≤ x.k)) L = (if i < L.length then (i : Int) else -1) ∧ (i < L.length → ¬ (L.getD i zrw).k = q) ∧ (∀ z, withK q z L = L.take i ++ ⟨q, z⟩ :: L.drop i) := by
  obtain ⟨i, h1, h2, h3, h4⟩ := findP_pos q hr
  have hne : ∀ j, j < L.length → ¬ (L.getD j zrw).k = q := fun j hj => by
    rw [getD_rw L j hj]
    exact look_none h _ (List.getElem_mem hj)
  exact ⟨i, h1, h4, fun hi => hne i hi, fun z => with_pos h1 h2 fun j hj hjl => by have a := h3 j hj hjl; have b := hne j hjl; omega⟩
end Go.Proofs.YtknfikdignpniaaDoor.rules
/- The walk of 'rules.Do': refused, or read alone. -/
namespace Go.Proofs.YtknfikdignpniaaDoor.rules
open Go Go.RowKit
set_option maxRecDepth 100000
set_option maxHeartbeats 8000000

theorem own_fin {B B' : World} (hs : B'.heap.size = B.heap.size) {os os2 : Array Obj} {d d' base : Nat} {e : TypeId} {size n : Nat} {v : Value} {xs : List Value} (h : (grew B os d).ownsRow base e size v n xs) (hb : B.heap.size ≤ base) : (grew B' (both os os2) d').ownsRow base e size v n xs := by
  rw [← grew_grew B' os os2 d d']
  exact own_ext (own_swap hs h hb) ⟨os2, d', rfl⟩
theorem own_fin2 {B B' : World} (hs : B'.heap.size = B.heap.size) {os p1 p2 : Array Obj} {d d' base : Nat} {e : TypeId} {size n : Nat} {v : Value} {xs : List Value} (h : (grew B os d).ownsRow base e size v n xs) (hb : B.heap.size ≤ base) : (grew B' (both (both os p1) p2) d').ownsRow base e size v n xs :=
  own_fin (B := B') rfl (own_fin (d' := d') hs h hb) (by rw [hs]; exact hb)
theorem own_fin3 {B B' : World} (hs : B'.heap.size = B.heap.size) {os p1 p2 p3 : Array Obj} {d d' base : Nat} {e : TypeId} {size n : Nat} {v : Value} {xs : List Value} (h : (grew B os d).ownsRow base e size v n xs) (hb : B.heap.size ≤ base) : (grew B' (both (both (both os p1) p2) p3) d').ownsRow base e size v n xs :=
  own_fin (B := B') rfl (own_fin2 (d' := d') hs h hb) (by rw [hs]; exact hb)
theorem own_fin4 {B B' : World} (hs : B'.heap.size = B.heap.size) {os p1 p2 p3 p4 : Array Obj} {d d' base : Nat} {e : TypeId} {size n : Nat} {v : Value} {xs : List Value} (h : (grew B os d).ownsRow base e size v n xs) (hb : B.heap.size ≤ base) : (grew B' (both (both (both (both os p1) p2) p3) p4) d').ownsRow base e size v n xs :=
  own_fin (B := B') rfl (own_fin3 (d' := d') hs h hb) (by rw [hs]; exact hb)
theorem own_fin5 {B B' : World} (hs : B'.heap.size = B.heap.size) {os p1 p2 p3 p4 p5 : Array Obj} {d d' base : Nat} {e : TypeId} {size n : Nat} {v : Value} {xs : List Value} (h : (grew B os d).ownsRow base e size v n xs) (hb : B.heap.size ≤ base) : (grew B' (both (both (both (both (both os p1) p2) p3) p4) p5) d').ownsRow base e size v n xs :=
  own_fin (B := B') rfl (own_fin4 (d' := d') hs h hb) (by rw [hs]; exact hb)
theorem do_no (c : Cfg) (v : Value) (L : List Rw) (hf : RwsFit L) (o : Opn) (w : World) (hv : Rws w v L) (h : rulesIs c L = false) :
    Calls Tryd.prog 68 #[c.v, v, o.v] w (DoP w (rulesDo c L o)) := by
  obtain ⟨Z, hZ⟩ : ∃ Z, Z = rulesDo c L o := ⟨_, rfl⟩
  rw [← hZ]
  have HV := Lib.hid hv
  have HF := Lib.hid hf
  clear hv hf
  cases hp : (partOk c && (c.object == 3))
  · have HC := Lib.hid hp
    have HZ := Lib.hid (hZ.trans (rulesDo_conf L o hp))
    clear hp hZ h
    go_enter Tryd.func68, Tryd.ntmps68
    go_wp2_with (go_at_call 69; refine (of_any c _).mono ?_; rintro e w1 ⟨rfl, os1, n1, rfl⟩; rw [HC.out])
    go_region
    all_goals go_wp2
    all_goals refine bodyPost_ret (v := .tuple #[.slice none 0 0, resV 0 0, .int .i64 40]) (by simp [results, Tryd.results68, go_sem]) rfl ?_
    all_goals exact do_p HZ.out (World.ownsRow_nil _ _ _ _) EXX
  · have HC := Lib.hid hp
    have HI := Lib.hid h
    have HZ := Lib.hid (hZ.trans (rulesDo_arg o hp h))
    clear hp hZ h
    go_enter Tryd.func68, Tryd.ntmps68
    go_wp2_with (first | (go_at_call 69; refine (of_any c _).mono ?_; rintro e w1 ⟨rfl, os1, n1, rfl⟩; rw [HC.out]) | (go_at_call 70; refine (is_any c _ L HF.out _ (HV.out.sl.ext EXX)).mono ?_; rintro e w2 ⟨rfl, os2, n2, rfl⟩; rw [HI.out]))
    go_region
    all_goals go_wp2
    all_goals refine bodyPost_ret (v := .tuple #[.slice none 0 0, resV 0 0, .int .i64 2]) (by simp [results, Tryd.results68, go_sem]) rfl ?_
    all_goals exact do_p HZ.out (World.ownsRow_nil _ _ _ _) EXX

theorem do_read (c : Cfg) (v : Value) (L : List Rw) (hf : RwsFit L) (o : Opn) (ho : o.Fits) (w : World) (ht : Tab w) (hv : Rws w v L) (hn : L.length ≤ 1000) (h : rulesIs c L = true) (hk : (opErr c o == 0) = false ∨ o.kind = 11) :
    Calls Tryd.prog 68 #[c.v, v, o.v] w (DoP w (rulesDo c L o)) := by
  obtain ⟨Z, hZ⟩ : ∃ Z, Z = rulesDo c L o := ⟨_, rfl⟩
  rw [← hZ]
  have HV := Lib.hid hv
  have HF := Lib.hid hf
  have HO := Lib.hid ho
  have HT := Lib.hid ht
  obtain ⟨hp, hc, _, hrs, hok⟩ := rulesIs_ok hf h
  have hp2 : (partOk c && (c.object == 3)) = true := by rw [hp, hc]; rfl
  have HC := Lib.hid hp2
  have HI := Lib.hid h
  cases h3 : (opErr c o == 0)
  · have HZ := Lib.hid (hZ.trans (rulesDo_bad hp2 h h3))
    obtain ⟨E, hE⟩ : ∃ E, opErr c o = E := ⟨_, rfl⟩
    have hE2 : (E != 0) = true := by rw [← hE]; simpa [bne] using h3
    have HE := Lib.hid hE
    rw [hE] at HZ
    clear hv hf ho ht hp hc hrs hok hp2 h hk h3 hZ hE
    go_enter Tryd.func68, Tryd.ntmps68
    go_wp2_with (first | (go_at_call 69; refine (of_any c _).mono ?_; rintro e w1 ⟨rfl, os1, n1, rfl⟩; rw [HC.out]) | (go_at_call 70; refine (is_any c _ L HF.out _ (HV.out.sl.ext EXX)).mono ?_; rintro e w2 ⟨rfl, os2, n2, rfl⟩; rw [HI.out]) | (go_at_call 39; refine (clone_any _ L (by omega) _ (HV.out.ext EXX)).mono ?_; rintro e w3 ⟨r, rfl, HO3, os3, n3, rfl⟩; have ho3 := own_low (lo := w.heap.size + 3) HO3 (by first | (simp [go_sem]; done) | (simp [go_sem]; omega)); simp only [grew_grew] at ho3; have HOW := Lib.hid ho3; clear HO3 ho3) | (go_at_call 7; refine (opCheck_any c o HO.out _ (Tab.ext HT.out EXX)).mono ?_; rintro e w4 ⟨rfl, os4, n4, rfl⟩; rw [HE.out]))
    all_goals refine bodyPost_ret (v := .tuple #[r, resV E 0, .int .i64 0]) (by simp [results, Tryd.results68, go_sem]) rfl ?_
    all_goals exact do_p HZ.out (own_low (own_fin (by simp [go_sem]) HOW.out (by first | (simp [go_sem]; done) | (simp [go_sem]; omega))) (by omega)) EXX
  · have hk11 : o.kind = 11 := by rcases hk with hk | hk; · rw [hk] at h3; cases h3
                                  · exact hk
    have HE : Hid (opErr c o = 0) := Lib.hid (by simpa using h3)
    obtain ⟨_, _, hft⟩ := rules_kind hc h3
    obtain ⟨ha, hb⟩ := fits_check hft hk11
    have HWA : Hid (0 ≤ o.a ∧ o.a ≤ 65535) := Lib.hid (by omega)
    have HWB : Hid (0 ≤ o.b ∧ o.b ≤ 65535) := Lib.hid (by omega)
    have HOK := Lib.hid hok
    have HRS := Lib.hid hrs
    obtain ⟨s, hs⟩ : ∃ s, rulesSay L o.a o.b = s := ⟨_, rfl⟩
    have HS := Lib.hid hs
    have h11 : (o.kind == 11) = true := by simpa using hk11
    have HZ : Hid (Z = ⟨L, 0, s, 0⟩) := Lib.hid (by rw [hZ, rulesDo_ok hp2 h h3, rulesDone, h11, ← hs]; rfl)
    clear hv hf ho ht hp hc hrs hok hp2 h hk h3 hZ hk11 hft ha hb hs
    go_enter Tryd.func68, Tryd.ntmps68
    go_wp2_with (first | (go_at_call 69; refine (of_any c _).mono ?_; rintro e w1 ⟨rfl, os1, n1, rfl⟩; rw [HC.out]) | (go_at_call 70; refine (is_any c _ L HF.out _ (HV.out.sl.ext EXX)).mono ?_; rintro e w2 ⟨rfl, os2, n2, rfl⟩; rw [HI.out]) | (go_at_call 39; refine (clone_any _ L (by omega) _ (HV.out.ext EXX)).mono ?_; rintro e w3 ⟨r, rfl, HO3, os3, n3, rfl⟩; have ho3 := own_low (lo := w.heap.size + 3) HO3 (by first | (simp [go_sem]; done) | (simp [go_sem]; omega)); simp only [grew_grew] at ho3; have HOW := Lib.hid ho3; clear HO3 ho3) | (go_at_call 7; refine (opCheck_any c o HO.out _ (Tab.ext HT.out EXX)).mono ?_; rintro e w4 ⟨rfl, os4, n4, rfl⟩; rw [HE.out]) | (go_at_call 71; refine (check_any _ _ _ HWA.out HWB.out L HOK.out HRS.out _ (HV.out.sl.ext EXX)).mono ?_; rintro e w5 ⟨rfl, os5, n5, rfl⟩; rw [HS.out]))
    all_goals refine bodyPost_ret (v := .tuple #[r, resV 0 s, .int .i64 0]) (by simp [results, Tryd.results68, go_sem]) rfl ?_
    all_goals exact do_p HZ.out (own_low (own_fin2 (by simp [go_sem]) HOW.out (by first | (simp [go_sem]; done) | (simp [go_sem]; omega))) (by omega)) EXX
end Go.Proofs.YtknfikdignpniaaDoor.rules
