/- 'rules.Do', all ways together. -/
import Derived.Test.YtaijkpfgnlkppaaDoorDoW2
import Derived.Test.YtaijkpfgnlkppaaDoorDoW3
namespace Go.Proofs.YtaijkpfgnlkppaaDoor.rules
open Go Go.RowKit

theorem do_any (c : Cfg) (v : Value) (L : List Rw) (hf : RwsFit L) (o : Opn) (ho : o.Fits) (w : World) (ht : Tab w) (hv : Rws w v L) (hn : L.length ≤ 1000) :
    Calls Tryd.prog 19 #[c.v, v, o.v] w (DoP w (rulesDo c L o)) := by
  cases h : rulesIs c L
  · exact do_no c v L hf o w hv h
  · cases h3 : (opErr c o == 0)
    · exact do_read c v L hf o ho w ht hv hn h (Or.inl h3)
    · obtain ⟨hp, hc, _, hrs, hok⟩ := rulesIs_ok hf h
      obtain ⟨_, hk, hft⟩ := rules_kind hc h3
      have hp2 : (partOk c && (c.object == 3)) = true := by rw [hp, hc]; rfl
      have he : opErr c o = 0 := by simpa using h3
      have hz := rulesDo_ok hp2 h h3
      rcases hk with hk | hk | hk
      · obtain ⟨_, ha, hb⟩ := fits_add hft hk
        have hw : WPre c v L o w (ruleKey o) := ⟨hv, hf, ho, ht, hp2, h, he, ⟨ho.a.1, ha⟩, ⟨ho.b.1, hb⟩, rfl, hrs, hok⟩
        have h9 : (o.kind == 9) = true := by simpa using hk
        have h11 : (o.kind == 11) = false := by simp; omega
        rw [rulesDone, h11, h9] at hz
        cases hl : look L (ruleKey o) with
        | some u => exact do_add_there c v L o w _ hw hn h9 h11 u hl _ (Lib.hid (by rw [hz, hl]; rfl))
        | none =>
          by_cases hcap : c.cap ≤ (L.length : Int)
          · exact do_add_full c v L o w _ hw hn h9 h11 hl hcap _ (Lib.hid (by rw [hz, hl]; simp [hcap]))
          · exact do_add_new c v L o w _ hw hn h9 h11 hl (by omega) _ (Lib.hid (by rw [hz, hl]; simp [hcap]))
      · obtain ⟨ha, hb⟩ := fits_drop hft hk
        have hw : WPre c v L o w (ruleKey o) := ⟨hv, hf, ho, ht, hp2, h, he, ⟨ho.a.1, ha⟩, ⟨ho.b.1, hb⟩, rfl, hrs, hok⟩
        have h9 : (o.kind == 9) = false := by simp; omega
        have h11 : (o.kind == 11) = false := by simp; omega
        rw [rulesDone, h11, h9] at hz
        cases hl : look L (ruleKey o) with
        | some u => exact do_drop_there c v L o w _ hw hn h9 h11 u hl _ (Lib.hid (by rw [hz, hl]; rfl))
        | none => exact do_drop_none c v L o w _ hw hn h9 h11 hl _ (Lib.hid (by rw [hz, hl]; rfl))
      · exact do_read c v L hf o ho w ht hv hn h (Or.inr hk)
end Go.Proofs.YtaijkpfgnlkppaaDoor.rules
