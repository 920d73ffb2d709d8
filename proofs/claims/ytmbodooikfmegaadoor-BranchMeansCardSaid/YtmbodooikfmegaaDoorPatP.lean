/- Plain: what the laws of a tree by paths need; no program in sight. -/
import Derived.Test.YtmbodooikfmegaaDoorPat0
import Derived.Test.YtmbodooikfmegaaDoorLawP
namespace Go.Proofs.YtmbodooikfmegaaDoor.paths
open Go Go.RowKit
set_option maxRecDepth 100000
set_option maxHeartbeats 8000000

theorem path_err {c : Cfg} {L : List Rw} {o : Opn} {M : List Rw} {dc dw de : Int} (h : pathDo c L o = ⟨M, dc, dw, de⟩) (he : ¬ de = 0) : M = [] ∧ dc = 0 ∧ pathIs c L = false := by
  cases h1 : (partOk c && (c.object == 4))
  · rw [pathDo_conf L o h1] at h
    cases h
    exact ⟨rfl, rfl, by simp [pathIs, h1]⟩
  · cases h2 : pathIs c L
    · rw [pathDo_arg o h1 h2] at h
      cases h
      exact ⟨rfl, rfl, rfl⟩
    · exfalso
      cases h3 : (opErr c o == 0)
      · rw [pathDo_bad h1 h2 h3] at h
        cases h
        exact he rfl
      · rw [pathDo_ok h1 h2 h3] at h
        unfold pathDone at h
        split at h
        · split at h <;> (cases h; exact he rfl)
        · split at h
          · cases h; exact he rfl
          · split at h
            · split at h <;> (cases h; exact he rfl)
            · split at h <;> (cases h; exact he rfl)
/-- What kinds of operations a tree has. -/
theorem path_kind {c : Cfg} {o : Opn} (hc : c.object = 4) (h : (opErr c o == 0) = true) : partOk c = true ∧ (o.kind = 12 ∨ o.kind = 13 ∨ o.kind = 14) ∧ fitsB c o = true := by
  have h' : opErr c o = 0 := by simpa using h
  unfold opErr at h'
  split at h'
  · rename_i hp
    split at h'
    · rename_i hk
      split at h'
      · rename_i hf
        refine ⟨hp, ?_, hf⟩
        have hk' : objOf o.kind = c.object := by simpa using hk
        rw [hc] at hk'
        unfold objOf at hk'
        split at hk' <;> (try split at hk') <;> (try split at hk') <;> (try split at hk') <;> (try split at hk') <;> omega
      · omega
    · omega
  · omega
/-- What an operation's numbers are. -/
theorem path_fits {c : Cfg} {o : Opn} (ho : o.Fits) (h : fitsB c o = true) (k : o.kind = 12 ∨ o.kind = 13 ∨ o.kind = 14) : pathB o.a o.b = true ∧ o.b ≤ 65535 ∧ (o.kind = 12 → o.c ≤ 2147483647) ∧ (¬ o.kind = 12 → o.c = 0) ∧ wholeK (pathKey o) = true := by
  have ha := ho.a
  have hb := ho.b
  have hp : pathB o.a o.b = true ∧ (o.kind = 12 → o.c ≤ 2147483647) ∧ (¬ o.kind = 12 → o.c = 0) := by
    rcases k with k | k | k
    · simp [fitsB, k] at h
      exact ⟨h.2, fun _ => h.1, fun e => absurd k e⟩
    · simp [fitsB, k] at h
      exact ⟨h.2, fun e => by omega, fun _ => h.1⟩
    · simp [fitsB, k] at h
      exact ⟨h.2, fun e => by omega, fun _ => h.1⟩
  refine ⟨hp.1, ?_, hp.2.1, hp.2.2, ?_⟩
  · have h1 := hp.1
    simp only [pathB, Bool.and_eq_true, decide_eq_true_eq] at h1
    exact h1.2
  · have h1 := hp.1
    simp only [pathB, Bool.and_eq_true, decide_eq_true_eq, Bool.or_eq_true, Bool.not_eq_true', beq_eq_false_iff_ne, ne_eq, beq_iff_eq] at h1
    obtain ⟨⟨h2, h3⟩, h4⟩ := h1
    rw [whole_iff]
    unfold pathKey
    refine ⟨by omega, by omega, fun h5 => ?_⟩
    rcases h3 with h3 | h3
    · omega
    · omega
/-- What an answer without an error is. -/
theorem path_ways {c : Cfg} {L : List Rw} {o : Opn} {M : List Rw} {dc dw : Int} (hf : RwsFit L) (h : pathDo c L o = ⟨M, dc, dw, 0⟩) :
    pathIs c L = true ∧ ((opErr c o ≠ 0 ∧ M = L ∧ dc = opErr c o ∧ dw = 0) ∨ (opErr c o = 0 ∧ (o.kind = 12 ∨ o.kind = 13 ∨ o.kind = 14) ∧ fitsB c o = true ∧ pathDone c L o = ⟨M, dc, dw, 0⟩)) := by
  cases h1 : (partOk c && (c.object == 4))
  · rw [pathDo_conf L o h1] at h
    cases h
  · cases h2 : pathIs c L
    · rw [pathDo_arg o h1 h2] at h
      cases h
    · refine ⟨rfl, ?_⟩
      cases h3 : (opErr c o == 0)
      · rw [pathDo_bad h1 h2 h3] at h
        have h3' : ¬ opErr c o = 0 := by simpa using h3
        cases h
        exact Or.inl ⟨h3', rfl, rfl, rfl⟩
      · rw [pathDo_ok h1 h2 h3] at h
        obtain ⟨_, hc, _⟩ := pathIs_ok hf h2
        obtain ⟨_, hk, hft⟩ := path_kind hc h3
        exact Or.inr ⟨by simpa using h3, hk, hft, h⟩
theorem rises_made {k : Int} {L : List Rw} (h : Rises L) : Rises (madeK k L) := rises_fold h
theorem set_look {k v : Int} {L : List Rw} (h : Rises L) (j : Int) : look (withK k v (madeK k L)) j = if k = j then some v else if j ∈ lineK k then some ((look L j).getD 0) else look L j := by
  rw [look_withK k v (rises_made h)]
  split
  · rfl
  · unfold madeK
    rw [look_fold h]
theorem set_len {k v : Int} {L : List Rw} (h : Rises L) : (withK k v (madeK k L)).length = (madeK k L).length := withK_len_some k v (rises_fold h) (look_made h)
theorem made_len {k : Int} {L : List Rw} (h : Rises L) (hk : wholeK k = true) : L.length ≤ (madeK k L).length ∧ (madeK k L).length ≤ L.length + 3 := by
  unfold madeK
  rw [len_fold h (line_nodup hk)]
  have h1 := List.length_filter_le (fun p => !(look L p).isSome) (lineK k)
  have h2 := (line_len (k := k)).2
  omega
theorem node_ok_of {M : List Rw} (hr : Rises M) (h : ∀ j v, look M j = some v → wholeK j = true ∧ (0 ≤ v ∧ v ≤ 2147483648) ∧ (parK j = 0 ∨ (look M (parK j)).isSome = true)) : ∀ x ∈ M, NodeOk M x := fun x hx => h x.k x.v (look_of_mem hr hx)
theorem of_node_ok {M : List Rw} (h : ∀ x ∈ M, NodeOk M x) {j v : Int} (hl : look M j = some v) : wholeK j = true ∧ (0 ≤ v ∧ v ≤ 2147483648) ∧ (parK j = 0 ∨ (look M (parK j)).isSome = true) := h _ (look_mem hl)
theorem nodes_set {k v : Int} {L : List Rw} (hr : Rises L) (hn : ∀ x ∈ L, NodeOk L x) (hk : wholeK k = true) (hv : 0 ≤ v ∧ v ≤ 2147483648) : ∀ x ∈ withK k v (madeK k L), NodeOk (withK k v (madeK k L)) x := by
  have hr2 : Rises (withK k v (madeK k L)) := rises_withK _ _ (rises_fold hr)
  have hl := set_look (k := k) (v := v) hr
  have hin : ∀ j, j ∈ lineK k → (look (withK k v (madeK k L)) j).isSome = true := fun j hj => by
    rw [hl]
    simp only [hj, if_true]
    split <;> rfl
  have hup : ∀ j, (look L j).isSome = true → (look (withK k v (madeK k L)) j).isSome = true := fun j hj => by
    rw [hl]
    split
    · rfl
    · split
      · rfl
      · exact hj
  have hline : ∀ j, j ∈ lineK k → wholeK j = true ∧ (parK j = 0 ∨ (look (withK k v (madeK k L)) (parK j)).isSome = true) := fun j hj => by
    refine ⟨line_whole hk hj, ?_⟩
    by_cases h0 : parK j = 0
    · exact Or.inl h0
    · exact Or.inr (hin _ (line_sub hk hj _ (line_mem.2 (Or.inr ⟨h0, Or.inl rfl⟩))))
  refine node_ok_of hr2 fun j u hu => ?_
  rw [hl] at hu
  split at hu
  · rename_i e
    subst e
    cases hu
    obtain ⟨a, b⟩ := hline k (line_self k)
    exact ⟨a, hv, b⟩
  · split at hu
    · rename_i hm
      obtain ⟨a, b⟩ := hline j hm
      refine ⟨a, ?_, b⟩
      cases hlj : look L j with
      | none => rw [hlj] at hu; cases hu; simp
      | some z =>
        rw [hlj] at hu
        cases hu
        exact (of_node_ok hn hlj).2.1
    · obtain ⟨a, b, d⟩ := of_node_ok hn hu
      exact ⟨a, b, d.imp id (hup _)⟩
theorem nodes_take {k : Int} {L : List Rw} (hn : ∀ x ∈ L, NodeOk L x) (hu : usedB k L = false) : ∀ x ∈ withoutK k L, NodeOk (withoutK k L) x := by
  intro x hx
  have hm := withoutK_sub k L x hx
  obtain ⟨a, b, d⟩ := hn x hm
  refine ⟨a, b, d.imp id fun h => ?_⟩
  rw [look_withoutK]
  have hne : ¬ k = parK x.k := fun e => by
    rw [usedB, Bool.eq_false_iff] at hu
    exact hu (List.any_eq_true.2 ⟨x, hm, by simp [e]⟩)
  rw [if_neg hne]
  exact h
theorem path_is {c : Cfg} {L : List Rw} {o : Opn} {M : List Rw} {dc dw : Int} (hf : RwsFit L) (ho : o.Fits) (h : pathDo c L o = ⟨M, dc, dw, 0⟩) : pathIs c M = true ∧ RwsFit M := by
  obtain ⟨hi, hw⟩ := path_ways hf h
  rcases hw with ⟨_, rfl, _, _⟩ | ⟨_, hk, hft, hd⟩
  · exact ⟨hi, hf⟩
  · obtain ⟨_, _, hc1, _, hwk⟩ := path_fits ho hft hk
    obtain ⟨hp, hob, hlc, hr, hn⟩ := pathIs_ok hf hi
    have hcc := ho.c
    have hbd := whole_bd hwk
    unfold pathDone at hd
    split at hd
    · rename_i h12
      have h12' : o.kind = 12 := by simpa using h12
      have := hc1 h12'
      split at hd
      · cases hd; exact ⟨hi, hf⟩
      · rename_i hcap
        cases hd
        refine ⟨pathIs_mk hp hob (by rw [set_len hr]; omega) (rises_withK _ _ (rises_fold hr)) (nodes_set hr hn hwk (by omega)), fits_withK (fits_made hwk hf) (by omega) (by omega)⟩
    · split at hd
      · cases hd; exact ⟨hi, hf⟩
      · split at hd
        · split at hd <;> (cases hd; exact ⟨hi, hf⟩)
        · split at hd
          · cases hd; exact ⟨hi, hf⟩
          · rename_i hu
            cases hd
            have := withoutK_len (pathKey o) L
            exact ⟨pathIs_mk hp hob (by omega) (rises_withoutK _ hr) (nodes_take hn (by simpa using hu)), fits_withoutK hf⟩
theorem path_len {c : Cfg} {L : List Rw} {o : Opn} {M : List Rw} {dc dw de : Int} (hf : RwsFit L) (ho : o.Fits) (h : pathDo c L o = ⟨M, dc, dw, de⟩) : M.length ≤ L.length + 3 := by
  by_cases he : de = 0
  · subst he
    obtain ⟨hi, hw⟩ := path_ways hf h
    rcases hw with ⟨_, rfl, _, _⟩ | ⟨_, hk, hft, hd⟩
    · omega
    · obtain ⟨_, _, _, _, hwk⟩ := path_fits ho hft hk
      obtain ⟨_, _, _, hr, _⟩ := pathIs_ok hf hi
      unfold pathDone at hd
      split at hd
      · split at hd
        · cases hd; omega
        · cases hd
          rw [set_len hr]
          exact (made_len hr hwk).2
      · split at hd
        · cases hd; omega
        · split at hd
          · split at hd <;> (cases hd; omega)
          · split at hd
            · cases hd; omega
            · cases hd
              have := withoutK_len (pathKey o) L
              omega
  · obtain ⟨rfl, _⟩ := path_err h he
    simp
theorem path_fit {c : Cfg} {L : List Rw} {o : Opn} {M : List Rw} {dc dw de : Int} (hf : RwsFit L) (ho : o.Fits) (h : pathDo c L o = ⟨M, dc, dw, de⟩) : RwsFit M := by
  by_cases he : de = 0
  · subst he; exact (path_is hf ho h).2
  · obtain ⟨rfl, _⟩ := path_err h he
    exact fun x hx => by cases hx
theorem path_same {c : Cfg} {L : List Rw} {o : Opn} {M : List Rw} {dc dw : Int} (hf : RwsFit L) (h : pathDo c L o = ⟨M, dc, dw, 0⟩) (hk : ¬ dc = 0 ∨ o.kind = 14) : M = L := by
  obtain ⟨_, hw⟩ := path_ways hf h
  rcases hw with ⟨_, rfl, _, _⟩ | ⟨_, _, _, hd⟩
  · rfl
  · unfold pathDone at hd
    split at hd
    · rename_i h12
      have h12' : o.kind = 12 := by simpa using h12
      split at hd
      · cases hd; rfl
      · cases hd; omega
    · split at hd
      · cases hd; rfl
      · split at hd
        · split at hd <;> (cases hd; rfl)
        · rename_i h14
          have h14' : ¬ o.kind = 14 := by simpa using h14
          split at hd
          · cases hd; rfl
          · cases hd; omega
end Go.Proofs.YtmbodooikfmegaaDoor.paths
