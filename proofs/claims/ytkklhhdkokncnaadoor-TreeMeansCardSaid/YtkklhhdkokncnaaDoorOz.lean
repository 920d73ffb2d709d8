/- The walks of the document's answer for an index in order (layer 7): 'Done', 'Do'. -/
import Derived.Test.YtkklhhdkokncnaaDoorOs
import Derived.Test.YtkklhhdkokncnaaDoorOd
namespace Go.Proofs.YtkklhhdkokncnaaDoor.order
open Go Go.RowKit
set_option maxRecDepth 100000
set_option maxHeartbeats 8000000

end Go.Proofs.YtkklhhdkokncnaaDoor.order
/- The walk of the document's answer for an index in order (layer 7): 'Do'. -/
namespace Go.Proofs.YtkklhhdkokncnaaDoor.order
open Go Go.RowKit
set_option maxRecDepth 100000
set_option maxHeartbeats 8000000

theorem ordRead_as (L : List Rw) (o : Opn) : ∃ code word res, ordRead L o = ⟨L, code, word, res, 0⟩ := by
  unfold ordRead
  split
  · split <;> exact ⟨_, _, _, rfl⟩
  · split
    · exact ⟨_, _, _, rfl⟩
    · split <;> exact ⟨_, _, _, rfl⟩
theorem ordDone_as (c : Cfg) (L : List Rw) (o : Opn) : ∃ M dc dw res, ordDone c L o = ⟨M, dc, dw, res, 0⟩ ∧ M.length ≤ L.length + 1 := by
  unfold ordDone
  have h1 := withK_len_le o.a o.b L
  have h2 := withoutK_len o.a L
  split
  · obtain ⟨_, _, _, h⟩ := ordRead_as L o
    rw [h]
    exact ⟨_, _, _, _, rfl, by omega⟩
  · split
    · split
      · exact ⟨_, _, _, _, rfl, by omega⟩
      · split
        · exact ⟨_, _, _, _, rfl, by omega⟩
        · exact ⟨_, _, _, _, rfl, by omega⟩
    · split
      · exact ⟨_, _, _, _, rfl, by omega⟩
      · exact ⟨_, _, _, _, rfl, by omega⟩
end Go.Proofs.YtkklhhdkokncnaaDoor.order
/- 'order.Do', all ways together; and answers given by name. -/
namespace Go.Proofs.YtkklhhdkokncnaaDoor.order
open Go Go.RowKit
set_option maxRecDepth 100000
set_option maxHeartbeats 8000000

theorem do_any (c : Cfg) (v : Value) (L : List Rw) (hf : RwsFit L) (o : Opn) (ho : o.Fits) (w : World) (ht : Tab w) (hv : Rws w v L) (hn : L.length ≤ 1000) :
    Calls Tryd.prog 26 #[c.v, v, o.v] w (DoP w (ordDo c L o)) := by
  cases h : ordIs c L
  · exact do_no c v L hf o w hv h
  · cases h3 : (opErr c o == 0)
    · exact do_bad c v L hf o ho w ht hv hn h h3
    · obtain ⟨hp, hc, _, hrs, hok⟩ := ordIs_ok hf h
      obtain ⟨_, hk, hft⟩ := ord_kind hc h3
      by_cases h6 : 6 ≤ o.kind
      · exact do_read c v L hf o ho w ht hv hn h h3 (by omega)
      · have hp2 : (partOk c && (c.object == 2)) = true := by rw [hp, hc]; rfl
        have he : opErr c o = 0 := by simpa using h3
        have hz := ordDo_ok hp2 h h3
        have hw : WPre c v L o w := ⟨hv, hf, ho, ht, hp2, h, he, by omega, (ord_fits hft hk).1, hrs, hok⟩
        rw [ordDone, if_neg (by simpa using h6)] at hz
        cases h4 : (o.kind == 4)
        · rw [h4] at hz
          cases hl : look L o.a with
          | some u => exact do_del_there c v L o w hw hn h4 u hl _ (Lib.hid (by rw [hz, hl]; rfl))
          | none => exact do_del_none c v L o w hw hn h4 hl _ (Lib.hid (by rw [hz, hl]; rfl))
        · rw [h4] at hz
          cases hl : look L o.a with
          | some u => exact do_put_there c v L o w hw hn h4 u hl _ (Lib.hid (by rw [hz, hl]; rfl))
          | none =>
            by_cases hcap : c.cap ≤ (L.length : Int)
            · exact do_put_full c v L o w hw hn h4 hl hcap _ (Lib.hid (by rw [hz, hl]; simp [hcap]))
            · exact do_put_new c v L o w hw hn h4 hl (by omega) _ (Lib.hid (by rw [hz, hl]; simp [hcap]))
theorem is_as (c : Cfg) (v : Value) (L : List Rw) (hf : RwsFit L) (w : World) (hv : Rws w v L) (R : Bool) (hR : ordIs c L = R) : Calls Tryd.prog 17 #[c.v, v] w fun e w' => e = .returned (.bool R) ∧ Ext w w' := by
  subst hR
  exact is_any c v L hf w hv.sl
theorem do_hid (c : Cfg) (v : Value) (L : List Rw) (hf : RwsFit L) (o : Opn) (ho : o.Fits) (w : World) (ht : Tab w) (hv : Rws w v L) (hn : L.length ≤ 1000) {M res : List Rw} {dc dw de : Int} (hz : ordDo c L o = ⟨M, dc, dw, res, de⟩) :
    Calls Tryd.prog 26 #[c.v, v, o.v] w fun e w' => ∃ r ad cap, e = .returned (.tuple #[r, resV dc dw (.slice ad res.length cap), .int .i64 de]) ∧ Hid (Rws w' r M) ∧ Hid (Rws w' (.slice ad res.length cap) res) ∧ Ext w w' := by
  refine (do_any c v L hf o ho w ht hv hn).mono fun e w' h => ?_
  rw [hz] at h
  obtain ⟨r, ad, cap, rfl, h1, h2, _, h3⟩ := h
  exact ⟨r, ad, cap, rfl, Lib.hid (own_rws h1), Lib.hid (own_rws h2), h3⟩
theorem do_own (c : Cfg) (v : Value) (L : List Rw) (hf : RwsFit L) (o : Opn) (ho : o.Fits) (w : World) (ht : Tab w) (hv : Rws w v L) (hn : L.length ≤ 1000) {M res : List Rw} {dc dw de : Int} (hz : ordDo c L o = ⟨M, dc, dw, res, de⟩) :
    Calls Tryd.prog 26 #[c.v, v, o.v] w fun e w' => ∃ r ad cap, e = .returned (.tuple #[r, resV dc dw (.slice ad res.length cap), .int .i64 de]) ∧ Hid (w'.ownsRow w.heap.size 39 2 r M.length (rwCells M)) ∧ Hid (w'.ownsRow w.heap.size 39 2 (.slice ad res.length cap) res.length (rwCells res)) ∧
      Hid (∀ g, r.ownBlock = some g → (Value.slice ad res.length cap).ownBlock ≠ some g) ∧ Ext w w' := by
  refine (do_any c v L hf o ho w ht hv hn).mono fun e w' h => ?_
  rw [hz] at h
  obtain ⟨r, ad, cap, rfl, h1, h2, h4, h3⟩ := h
  exact ⟨r, ad, cap, rfl, Lib.hid h1, Lib.hid h2, Lib.hid h4, h3⟩
end Go.Proofs.YtkklhhdkokncnaaDoor.order
/- Plain: what the laws of an index in order say of its answers; no program in sight. -/
namespace Go.Proofs.YtkklhhdkokncnaaDoor.order
open Go Go.RowKit
set_option maxRecDepth 100000
set_option maxHeartbeats 8000000

theorem ord_err {c : Cfg} {L : List Rw} {o : Opn} {M res : List Rw} {dc dw de : Int} (h : ordDo c L o = ⟨M, dc, dw, res, de⟩) (he : ¬ de = 0) : M = [] ∧ res = [] ∧ ordIs c L = false := by
  cases h1 : (partOk c && (c.object == 2))
  · rw [ordDo_conf L o h1] at h
    cases h
    exact ⟨rfl, rfl, by simp [ordIs, h1]⟩
  · cases h2 : ordIs c L
    · rw [ordDo_arg o h1 h2] at h
      cases h
      exact ⟨rfl, rfl, rfl⟩
    · exfalso
      cases h3 : (opErr c o == 0)
      · rw [ordDo_bad h1 h2 h3] at h
        cases h
        exact he rfl
      · rw [ordDo_ok h1 h2 h3] at h
        obtain ⟨_, _, _, _, hh, _⟩ := ordDone_as c L o
        rw [hh] at h
        cases h
        exact he rfl
/-- What an answer without an error is. -/
theorem ord_ways {c : Cfg} {L : List Rw} {o : Opn} {M res : List Rw} {dc dw : Int} (hf : RwsFit L) (h : ordDo c L o = ⟨M, dc, dw, res, 0⟩) :
    ordIs c L = true ∧ ((opErr c o ≠ 0 ∧ M = L ∧ dc = opErr c o ∧ dw = 0 ∧ res = []) ∨ (opErr c o = 0 ∧ o.a ≤ 2147483647 ∧
      (((o.kind = 6 ∨ o.kind = 7 ∨ o.kind = 8) ∧ M = L ∧ ordRead L o = ⟨M, dc, dw, res, 0⟩) ∨
        (o.kind = 4 ∧ o.b ≤ 2147483647 ∧ res = [] ∧ ((dc ≠ 0 ∧ M = L) ∨ (dc = 0 ∧ M = withK o.a o.b L ∧ (M.length : Int) ≤ c.cap ∧ ((look L o.a = none ∧ dw = 0) ∨ ∃ u, look L o.a = some u ∧ dw = u + 1)))) ∨
        (o.kind = 5 ∧ res = [] ∧ ((dc = 6 ∧ M = L ∧ look L o.a = none) ∨ (dc = 0 ∧ M = withoutK o.a L ∧ ∃ u, look L o.a = some u ∧ dw = u + 1)))))) := by
  cases h1 : (partOk c && (c.object == 2))
  · rw [ordDo_conf L o h1] at h
    cases h
  · cases h2 : ordIs c L
    · rw [ordDo_arg o h1 h2] at h
      cases h
    · refine ⟨rfl, ?_⟩
      obtain ⟨_, hobj, hcap, hr, _⟩ := ordIs_ok hf h2
      cases h3 : (opErr c o == 0)
      · rw [ordDo_bad h1 h2 h3] at h
        cases h
        exact Or.inl ⟨by simpa using h3, rfl, rfl, rfl, rfl⟩
      · rw [ordDo_ok h1 h2 h3] at h
        obtain ⟨_, hk, hft⟩ := ord_kind hobj h3
        obtain ⟨f1, f2⟩ := ord_fits hft hk
        refine Or.inr ⟨by simpa using h3, f1, ?_⟩
        unfold ordDone at h
        split at h
        · rename_i h6
          have h6' : 6 ≤ o.kind := by simpa using h6
          obtain ⟨_, _, _, hh⟩ := ordRead_as L o
          have hh' := hh
          rw [h] at hh'
          cases hh'
          exact Or.inl ⟨by omega, rfl, h⟩
        · rename_i h6
          split at h
          · rename_i h4
            have h4' : o.kind = 4 := by simpa using h4
            right; left
            split at h
            · rename_i u hu
              cases h
              exact ⟨h4', f2 (Or.inl h4'), rfl, Or.inr ⟨rfl, rfl, by rw [withK_len_some _ _ hr hu]; exact hcap, Or.inr ⟨u, hu, rfl⟩⟩⟩
            · rename_i hu
              split at h
              · cases h
                exact ⟨h4', f2 (Or.inl h4'), rfl, Or.inl ⟨by decide, rfl⟩⟩
              · rename_i hc
                cases h
                exact ⟨h4', f2 (Or.inl h4'), rfl, Or.inr ⟨rfl, rfl, by rw [withK_len _ _ hu]; omega, Or.inl ⟨hu, rfl⟩⟩⟩
          · rename_i h4
            have h5 : o.kind = 5 := by simp at h4 h6; omega
            right; right
            split at h
            · rename_i u hu
              cases h
              exact ⟨h5, rfl, Or.inr ⟨rfl, rfl, u, hu, rfl⟩⟩
            · rename_i hu
              cases h
              exact ⟨h5, rfl, Or.inl ⟨rfl, rfl, hu⟩⟩
theorem ord_is {c : Cfg} {L : List Rw} {o : Opn} {M res : List Rw} {dc dw : Int} (hf : RwsFit L) (ho : o.Fits) (h : ordDo c L o = ⟨M, dc, dw, res, 0⟩) : ordIs c M = true := by
  obtain ⟨hi, hw⟩ := ord_ways hf h
  obtain ⟨_, _, hcap, hr, hk⟩ := ordIs_ok hf hi
  rcases hw with ⟨_, rfl, _⟩ | ⟨_, ha, ⟨_, rfl, _⟩ | ⟨_, hb, _, ⟨_, rfl⟩ | ⟨_, rfl, h4, _⟩⟩ | ⟨_, _, ⟨_, rfl, _⟩ | ⟨_, rfl, _⟩⟩⟩
  · exact hi
  · exact hi
  · exact hi
  · refine ordIs_mk hf hi h4 (rises_withK _ _ hr) fun x hx => ?_
    rcases withK_mem hx with rfl | hx
    · exact ⟨⟨ho.a.1, ha⟩, ho.b.1, hb⟩
    · exact hk x hx
  · exact hi
  · refine ordIs_mk hf hi ?_ (rises_withoutK _ hr) fun x hx => hk x (withoutK_sub _ _ x hx)
    have := withoutK_len o.a L
    omega
theorem ord_same {c : Cfg} {L : List Rw} {o : Opn} {M res : List Rw} {dc dw : Int} (hf : RwsFit L) (h : ordDo c L o = ⟨M, dc, dw, res, 0⟩) (hs : ¬ (dc = 0 ∧ (o.kind = 4 ∨ o.kind = 5))) : M = L := by
  obtain ⟨_, hw⟩ := ord_ways hf h
  rcases hw with ⟨_, rfl, _⟩ | ⟨_, ha, ⟨_, rfl, _⟩ | ⟨h1, hb, _, ⟨_, rfl⟩ | ⟨h2, _⟩⟩ | ⟨h1, _, ⟨_, rfl, _⟩ | ⟨h2, _⟩⟩⟩
  · rfl
  · rfl
  · rfl
  · exact absurd ⟨h2, Or.inl h1⟩ hs
  · rfl
  · exact absurd ⟨h2, Or.inr h1⟩ hs
theorem ord_len {c : Cfg} {L : List Rw} {o : Opn} {M res : List Rw} {dc dw de : Int} (hf : RwsFit L) (h : ordDo c L o = ⟨M, dc, dw, res, de⟩) : M.length ≤ L.length + 1 ∧ res.length ≤ L.length + 1 := by
  by_cases he : de = 0
  · subst he
    have hres : ∀ c' w', ordRead L o = ⟨L, c', w', res, 0⟩ → res.length ≤ L.length + 1 := by
      intro c' w' hh
      unfold ordRead at hh
      split at hh
      · split at hh <;> (cases hh; simp)
      · split at hh
        · cases hh
          have := ordScan_len L o.a o.b; omega
        · split at hh
          · cases hh; simp
          · cases hh
            have := ordFloor_len L o.a; omega
    obtain ⟨_, hw⟩ := ord_ways hf h
    have h1 := withK_len_le o.a o.b L
    have h2 := withoutK_len o.a L
    rcases hw with ⟨_, rfl, _, _, rfl⟩ | ⟨_, ha, ⟨_, rfl, h3⟩ | ⟨_, hb, rfl, ⟨_, rfl⟩ | ⟨_, rfl, _⟩⟩ | ⟨_, rfl, ⟨_, rfl, _⟩ | ⟨_, rfl, _⟩⟩⟩
    · simp
    · exact ⟨by omega, hres _ _ h3⟩
    · simp
    · exact ⟨h1.2, by simp⟩
    · simp
    · exact ⟨by omega, by simp⟩
  · obtain ⟨rfl, rfl, _⟩ := ord_err h he
    simp
theorem ord_fit {c : Cfg} {L : List Rw} {o : Opn} {M res : List Rw} {dc dw de : Int} (hf : RwsFit L) (ho : o.Fits) (h : ordDo c L o = ⟨M, dc, dw, res, de⟩) : RwsFit M := by
  by_cases he : de = 0
  · subst he
    obtain ⟨_, hw⟩ := ord_ways hf h
    have := ho.a; have := ho.b
    rcases hw with ⟨_, rfl, _⟩ | ⟨_, ha, ⟨_, rfl, _⟩ | ⟨_, hb, _, ⟨_, rfl⟩ | ⟨_, rfl, _⟩⟩ | ⟨_, _, ⟨_, rfl, _⟩ | ⟨_, rfl, _⟩⟩⟩
    · exact hf
    · exact hf
    · exact hf
    · exact fits_withK hf (by omega) (by omega)
    · exact hf
    · exact fits_withoutK hf
  · obtain ⟨rfl, _, _⟩ := ord_err h he
    exact fun x hx => by cases hx
/-- An operation that fits. -/
theorem opErr_ord {c : Cfg} (h : partOk c = true) (ho : c.object = 2) {o : Opn} (hk : o.kind = 4 ∨ o.kind = 5 ∨ o.kind = 6 ∨ o.kind = 7 ∨ o.kind = 8) (hc : o.c = 0) (hb : (o.kind = 5 ∨ o.kind = 6 ∨ o.kind = 7) → o.b = 0) :
    opErr c o = if decide (o.a ≤ 2147483647) && decide (o.b ≤ 2147483647) then 0 else 10 := by
  have e : (objOf o.kind == c.object) = true := by rw [ho]; rcases hk with k | k | k | k | k <;> rw [k] <;> rfl
  have e2 : fitsB c o = (decide (o.a ≤ 2147483647) && decide (o.b ≤ 2147483647)) := by
    rcases hk with k | k | k | k | k
    · simp [fitsB, k, hc]
    · simp [fitsB, k, hc, hb (Or.inl k)]
    · simp [fitsB, k, hc, hb (Or.inr (Or.inl k))]
    · simp [fitsB, k, hc, hb (Or.inr (Or.inr k))]
    · simp [fitsB, k, hc]
  simp [opErr, h, e, e2]
/-- An answer to an operation of the index's own kinds, whose last number is 0. -/
theorem ord_do {c : Cfg} {L : List Rw} (h : ordIs c L = true) (hf : RwsFit L) {o : Opn} (hk : o.kind = 4 ∨ o.kind = 5 ∨ o.kind = 6 ∨ o.kind = 7 ∨ o.kind = 8) (hc : o.c = 0) (hb : (o.kind = 5 ∨ o.kind = 6 ∨ o.kind = 7) → o.b = 0) :
    ordDo c L o = if decide (o.a ≤ 2147483647) && decide (o.b ≤ 2147483647) then ordDone c L o else ⟨L, 10, 0, [], 0⟩ := by
  obtain ⟨hp, ho, _, _, _⟩ := ordIs_ok hf h
  have hp2 : (partOk c && (c.object == 2)) = true := by rw [hp, ho]; rfl
  have e := opErr_ord hp ho hk hc hb
  cases hq : (decide (o.a ≤ 2147483647) && decide (o.b ≤ 2147483647))
  · rw [hq] at e
    rw [ordDo_bad hp2 h (by rw [e]; rfl), e]
    rfl
  · rw [hq] at e
    rw [ordDo_ok hp2 h (by rw [e]; rfl)]
    rfl
theorem ord_no {c : Cfg} {L : List Rw} (h : ordIs c L = false) (o o' : Opn) : ordDo c L o = ordDo c L o' := by
  cases h1 : (partOk c && (c.object == 2))
  · rw [ordDo_conf L o h1, ordDo_conf L o' h1]
  · rw [ordDo_arg o h1 h, ordDo_arg o' h1 h]
theorem scan_app {L : List Rw} (hr : Rises L) {a b d : Int} (h1 : a ≤ b) (h2 : b < d) : ordScan L a b ++ ordScan L (b + 1) d = ordScan L a d := by
  induction L with
  | nil => rfl
  | cons x l ih =>
    obtain ⟨hx, hl⟩ := List.pairwise_cons.1 hr
    have hcons : ∀ p q, ordScan (x :: l) p q = (if decide (p ≤ x.k) && decide (x.k ≤ q) then [x] else []) ++ ordScan l p q := by
      intro p q
      unfold ordScan
      rw [List.filter_cons]
      split <;> rfl
    rw [hcons, hcons, hcons]
    by_cases c1 : a ≤ x.k
    · by_cases c2 : x.k ≤ b
      · have c3 : ¬ b + 1 ≤ x.k := by omega
        have c4 : x.k ≤ d := by omega
        simp only [c1, c2, c3, c4, decide_true, decide_false, Bool.and_self, Bool.false_and, if_true, List.nil_append, List.cons_append]
        rw [if_neg (by decide)]
        simp [ih hl]
      · -- all keys behind are greater, too
        have e : ordScan l a b = [] := by
          unfold ordScan
          rw [List.filter_eq_nil_iff]
          intro y hy
          have := hx y hy
          simp; omega
        have e3 := ih hl
        rw [e, List.nil_append] at e3
        have c3 : b + 1 ≤ x.k := by omega
        rw [e, e3]
        simp [c1, c2, c3]
    · have c2 : ¬ b + 1 ≤ x.k := by omega
      simp only [c1, c2, decide_false, Bool.false_and]
      simp [ih hl]
theorem floor_scan {L : List Rw} (hf : ∀ x ∈ L, 0 ≤ x.k) (a : Int) : ordFloor L a = match (ordScan L 0 a).getLast? with | some x => [x] | none => [] := by
  have key : ∀ (l : List Rw) (hl : ∀ x ∈ l, 0 ≤ x.k) (r : List Rw), l.foldl (fun r x => if x.k ≤ a then [x] else r) r = match (ordScan l 0 a).getLast? with | some x => [x] | none => r := by
    intro l
    induction l with
    | nil => intro _ r; rfl
    | cons x l ih =>
      intro hl r
      have h0 := hl x (by simp)
      have hcons : ordScan (x :: l) 0 a = (if decide (x.k ≤ a) then [x] else []) ++ ordScan l 0 a := by
        unfold ordScan
        rw [List.filter_cons]
        simp only [h0, decide_true, Bool.true_and]
        split <;> rfl
      rw [List.foldl_cons, ih (fun y hy => hl y (by simp [hy])), hcons]
      by_cases c : x.k ≤ a
      · simp only [c, decide_true, if_true]
        cases hh : (ordScan l 0 a).getLast? with
        | none =>
          rw [List.getLast?_eq_none_iff] at hh
          rw [hh]; rfl
        | some y => rw [List.getLast?_append, hh]; rfl
      · simp [c]
  exact key L hf []
end Go.Proofs.YtkklhhdkokncnaaDoor.order
