/- Plain: what is set is read; taking out takes one node; no program in sight. -/
import Derived.Test.YtmbodooikfmegaaDoorPatP
namespace Go.Proofs.YtmbodooikfmegaaDoor.paths
open Go Go.RowKit
set_option maxRecDepth 100000
set_option maxHeartbeats 8000000

theorem path_no_err {c : Cfg} {L : List Rw} (_hf : RwsFit L) (h : pathIs c L = true) (o : Opn) : ∃ M dc dw, pathDo c L o = ⟨M, dc, dw, 0⟩ := by
  obtain ⟨M, dc, dw, de, hz⟩ : ∃ M dc dw de, pathDo c L o = ⟨M, dc, dw, de⟩ := ⟨_, _, _, _, rfl⟩
  by_cases he : de = 0
  · subst he; exact ⟨M, dc, dw, hz⟩
  · have := (path_err hz he).2.2
    rw [h] at this
    cases this
theorem path_read {c : Cfg} {M : List Rw} (hf : RwsFit M) (h : pathIs c M = true) {a b v : Int} (hp : pathB a b = true) (hl : look M (pathKey ⟨14, a, b, 0⟩) = some (v + 1)) (hv : 0 ≤ v) : pathDo c M ⟨14, a, b, 0⟩ = ⟨M, 0, v + 1, 0⟩ := by
  obtain ⟨hpo, hob, _⟩ := pathIs_ok hf h
  have hp2 : (partOk c && (c.object == 4)) = true := by rw [hpo, hob]; rfl
  have he : opErr c ⟨14, a, b, 0⟩ = 0 := by simp [opErr, hpo, hob, objOf, fitsB, hp]
  rw [pathDo_ok hp2 h (by rw [he]; rfl)]
  have e : ¬ v + 1 = 0 := by omega
  simp [pathDone, hl, e]
theorem key_inj {a b a' b' : Int} (h0 : 0 ≤ a) (h1 : 0 ≤ b) (h2 : b ≤ 65535) (h3 : a ≤ 4294967295) (h0' : 0 ≤ a') (h1' : 0 ≤ b') (h2' : b' ≤ 65535) (h3' : a' ≤ 4294967295) (h : a % 65536 * 4294967296 + a / 65536 * 65536 + b = a' % 65536 * 4294967296 + a' / 65536 * 65536 + b') : a = a' ∧ b = b' := by omega
/-- What is set is there, its path too; the other rows are as they were. -/
theorem read_plain {c : Cfg} {L : List Rw} {o : Opn} {M : List Rw} {dw : Int} (hf : RwsFit L) (ho : o.Fits) (hk : o.kind = 12) (h : pathDo c L o = ⟨M, 0, dw, 0⟩) :
    wholeK (pathKey o) = true ∧ (pathB o.a o.b = true ∧ o.b ≤ 65535 ∧ o.c ≤ 2147483647) ∧ L.length ≤ M.length ∧
    (∀ x ∈ M, (look L x.k = none → x.k ∈ lineK (pathKey o)) ∧ ∀ u, look L x.k = some u → x.v = u ∨ x.k = pathKey o) ∧
    pathDo c M ⟨14, o.a, o.b, 0⟩ = ⟨M, 0, o.c + 1, 0⟩ ∧
    (∀ t N dcn dwn, t.Fits → pathDo c M t = ⟨N, dcn, dwn, 0⟩ → (t.a = o.a ∧ t.b = o.b) ∨ pathDo c N ⟨14, o.a, o.b, 0⟩ = ⟨N, 0, o.c + 1, 0⟩) := by
  obtain ⟨hMi, hMf⟩ := path_is hf ho h
  obtain ⟨hi, hw⟩ := path_ways hf h
  have hoa := ho.a
  have hobb := ho.b
  have hoc := ho.c
  rcases hw with ⟨he, _, e, _⟩ | ⟨he, hkk, hft, hd⟩
  · exact absurd e.symm he
  · obtain ⟨hpb, hb, hc1, _, hwk⟩ := path_fits ho hft hkk
    have hc := hc1 hk
    obtain ⟨hp, hob, hlc, hr, hn⟩ := pathIs_ok hf hi
    unfold pathDone at hd
    rw [if_pos (by simp [hk])] at hd
    split at hd
    · cases hd
    · cases hd
      have hrM : Rises (withK (pathKey o) (o.c + 1) (madeK (pathKey o) L)) := rises_withK _ _ (rises_made hr)
      have hlk := set_look (k := pathKey o) (v := o.c + 1) hr
      have hself : look (withK (pathKey o) (o.c + 1) (madeK (pathKey o) L)) (pathKey o) = some (o.c + 1) := by rw [hlk, if_pos rfl]
      have ekey : pathKey ⟨14, o.a, o.b, 0⟩ = pathKey o := rfl
      refine ⟨hwk, ⟨hpb, hb, hc⟩, ?_, ?_, ?_, ?_⟩
      · rw [set_len hr]
        exact (made_len hr hwk).1
      · intro x hx
        have hxl := look_of_mem hrM hx
        rw [hlk] at hxl
        constructor
        · intro hnone
          split at hxl
          · rename_i e; rw [← e]; exact line_self _
          · split at hxl
            · assumption
            · rw [hnone] at hxl; cases hxl
        · intro u hu
          split at hxl
          · rename_i e; exact Or.inr e.symm
          · left
            split at hxl
            · rw [hu] at hxl
              exact (Option.some.inj hxl).symm
            · rw [hu] at hxl
              exact (Option.some.inj hxl).symm
      · exact path_read hMf hMi hpb (by rw [ekey]; exact hself) hoc.1
      · intro t N dcn dwn htf ht
        obtain ⟨hNi, hNf⟩ := path_is hMf htf ht
        obtain ⟨_, hwt⟩ := path_ways hMf ht
        have fin : look N (pathKey o) = some (o.c + 1) → pathDo c N ⟨14, o.a, o.b, 0⟩ = ⟨N, 0, o.c + 1, 0⟩ := fun hl => path_read hNf hNi hpb (by rw [ekey]; exact hl) hoc.1
        rcases hwt with ⟨_, rfl, _, _⟩ | ⟨_, hkt, hftt, hdt⟩
        · exact Or.inr (fin hself)
        · obtain ⟨_, htb, _, _, hwkt⟩ := path_fits htf hftt hkt
          have hta := htf.a
          have htb0 := htf.b
          by_cases e : pathKey t = pathKey o
          · exact Or.inl (key_inj hta.1 htb0.1 htb hta.2 hoa.1 hobb.1 hb hoa.2 e)
          · right
            refine fin ?_
            unfold pathDone at hdt
            split at hdt
            · split at hdt
              · cases hdt; exact hself
              · cases hdt
                rw [set_look hrM, if_neg e]
                split
                · rw [hself]; rfl
                · exact hself
            · split at hdt
              · cases hdt; exact hself
              · split at hdt
                · split at hdt <;> (cases hdt; exact hself)
                · split at hdt
                  · cases hdt; exact hself
                  · cases hdt
                    rw [look_withoutK, if_neg e]
                    exact hself
/-- What taking out answers. -/
theorem take_plain {c : Cfg} {L : List Rw} {a b : Int} {M : List Rw} {dc dw : Int} (hf : RwsFit L) (ho : Opn.Fits ⟨13, a, b, 0⟩) (h : pathDo c L ⟨13, a, b, 0⟩ = ⟨M, dc, dw, 0⟩) (hd : ¬ dc = 10) :
    (wholeK (pathKey ⟨13, a, b, 0⟩) = true ∧ b ≤ 65535) ∧ (∀ x ∈ L, NodeOk L x) ∧ Rises L ∧ ((look L (pathKey ⟨13, a, b, 0⟩) = none ∧ dc = 6) ∨ ∃ u, look L (pathKey ⟨13, a, b, 0⟩) = some u ∧ ((usedB (pathKey ⟨13, a, b, 0⟩) L = true ∧ dc = 90) ∨ (usedB (pathKey ⟨13, a, b, 0⟩) L = false ∧ dc = 0 ∧ dw = u ∧ M = withoutK (pathKey ⟨13, a, b, 0⟩) L))) := by
  obtain ⟨hi, hw⟩ := path_ways hf h
  obtain ⟨hp, hob, hlc, hr, hn⟩ := pathIs_ok hf hi
  rcases hw with ⟨he, _, e, _⟩ | ⟨_, hkk, hft, hdn⟩
  · exfalso
    subst e
    simp [opErr, hp, hob, objOf] at he hd
    simp [hd] at he
  · obtain ⟨_, hb, _, _, hwk⟩ := path_fits ho hft hkk
    refine ⟨⟨hwk, hb⟩, hn, hr, ?_⟩
    unfold pathDone at hdn
    rw [if_neg (by simp)] at hdn
    cases hl : look L (pathKey ⟨13, a, b, 0⟩) with
    | none => rw [hl] at hdn; cases hdn; exact Or.inl ⟨rfl, rfl⟩
    | some u =>
      rw [hl] at hdn
      simp only [show ((13 : Int) == 14) = false from rfl, if_neg (Bool.false_ne_true)] at hdn
      right
      refine ⟨u, rfl, ?_⟩
      cases hu : usedB (pathKey ⟨13, a, b, 0⟩) L
      · rw [hu] at hdn; cases hdn; exact Or.inr ⟨rfl, rfl, rfl, rfl⟩
      · rw [hu] at hdn; cases hdn; exact Or.inl ⟨rfl, rfl⟩
end Go.Proofs.YtmbodooikfmegaaDoor.paths
