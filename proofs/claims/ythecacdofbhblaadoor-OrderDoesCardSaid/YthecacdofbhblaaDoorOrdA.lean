/- 'order.Do', all ways together; and answers given by name. -/
import Derived.Test.YthecacdofbhblaaDoorOrdW
import Derived.Test.YthecacdofbhblaaDoorOrdR4
namespace Go.Proofs.YthecacdofbhblaaDoor
open Go Go.RowKit

theorem do_any (c : Cfg) (v : Value) (L : List Rw) (hf : RwsFit L) (o : Opn) (ho : o.Fits) (w : World) (ht : Tab w) (hv : Rws w v L) (hn : L.length ≤ 1000) :
    Calls Tryd.prog 11 #[c.v, v, o.v] w (DoP w (ordDo c L o)) := by
  cases h : ordIs c L
  · exact do_no c v L hf o w hv h
  · cases h3 : (opErr c o == 0)
    · exact do_bad c v L hf o ho w ht hv hn h h3
    · obtain ⟨hp, hc, _, hrs, hok⟩ := ordIs_ok hf h
      obtain ⟨_, hk, hft⟩ := ord_kind hc h3
      by_cases h6 : 6 ≤ o.kind
      · exact do_read c v L hf o ho w ht hv hn h h3 (by omega)
      · have hp2 : (partOk c && (c.object == 2)) = true := by rw [hp, hc]; rfl
        have he : opErr c o = 0 := by simpa using h3
        have hz := ordDo_ok hp2 h h3
        have hw : WPre c v L o w := ⟨hv, hf, ho, ht, hp2, h, he, by omega, (ord_fits hft hk).1, hrs, hok⟩
        rw [ordDone, if_neg (by simpa using h6)] at hz
        cases h4 : (o.kind == 4)
        · rw [h4] at hz
          cases hl : look L o.a with
          | some u => exact do_del_there c v L o w hw hn h4 u hl _ (Lib.hid (by rw [hz, hl]; rfl))
          | none => exact do_del_none c v L o w hw hn h4 hl _ (Lib.hid (by rw [hz, hl]; rfl))
        · rw [h4] at hz
          cases hl : look L o.a with
          | some u => exact do_put_there c v L o w hw hn h4 u hl _ (Lib.hid (by rw [hz, hl]; rfl))
          | none =>
            by_cases hcap : c.cap ≤ (L.length : Int)
            · exact do_put_full c v L o w hw hn h4 hl hcap _ (Lib.hid (by rw [hz, hl]; simp [hcap]))
            · exact do_put_new c v L o w hw hn h4 hl (by omega) _ (Lib.hid (by rw [hz, hl]; simp [hcap]))
theorem is_as (c : Cfg) (v : Value) (L : List Rw) (hf : RwsFit L) (w : World) (hv : Rws w v L) (R : Bool) (hR : ordIs c L = R) : Calls Tryd.prog 15 #[c.v, v] w fun e w' => e = .returned (.bool R) ∧ Ext w w' := by
  subst hR
  exact is_any c v L hf w hv.sl
theorem isR_as (c : Cfg) (v : Value) (L : List Rw) (hf : RwsFit L) (w : World) (hv : Rws w v L) (R : Bool) (hR : ordIs c L = R) : Calls Tryd.prog 17 #[c.v, v] w fun e w' => e = .returned (.bool R) ∧ Ext w w' := by
  subst hR
  exact isR_any c v L hf w hv.sl
theorem do_hid (c : Cfg) (v : Value) (L : List Rw) (hf : RwsFit L) (o : Opn) (ho : o.Fits) (w : World) (ht : Tab w) (hv : Rws w v L) (hn : L.length ≤ 1000) {M res : List Rw} {dc dw de : Int} (hz : ordDo c L o = ⟨M, dc, dw, res, de⟩) :
    Calls Tryd.prog 11 #[c.v, v, o.v] w fun e w' => ∃ r ad cap, e = .returned (.tuple #[r, resV dc dw (.slice ad res.length cap), .int .i64 de]) ∧ Hid (Rws w' r M) ∧ Hid (Rws w' (.slice ad res.length cap) res) ∧ Ext w w' := by
  refine (do_any c v L hf o ho w ht hv hn).mono fun e w' h => ?_
  rw [hz] at h
  obtain ⟨r, ad, cap, rfl, h1, h2, _, h3⟩ := h
  exact ⟨r, ad, cap, rfl, Lib.hid (own_rws h1), Lib.hid (own_rws h2), h3⟩
theorem do_own (c : Cfg) (v : Value) (L : List Rw) (hf : RwsFit L) (o : Opn) (ho : o.Fits) (w : World) (ht : Tab w) (hv : Rws w v L) (hn : L.length ≤ 1000) {M res : List Rw} {dc dw de : Int} (hz : ordDo c L o = ⟨M, dc, dw, res, de⟩) :
    Calls Tryd.prog 11 #[c.v, v, o.v] w fun e w' => ∃ r ad cap, e = .returned (.tuple #[r, resV dc dw (.slice ad res.length cap), .int .i64 de]) ∧ Hid (w'.ownsRow w.heap.size 37 2 r M.length (rwCells M)) ∧ Hid (w'.ownsRow w.heap.size 37 2 (.slice ad res.length cap) res.length (rwCells res)) ∧
      Hid (∀ g, r.ownBlock = some g → (Value.slice ad res.length cap).ownBlock ≠ some g) ∧ Ext w w' := by
  refine (do_any c v L hf o ho w ht hv hn).mono fun e w' h => ?_
  rw [hz] at h
  obtain ⟨r, ad, cap, rfl, h1, h2, h4, h3⟩ := h
  exact ⟨r, ad, cap, rfl, Lib.hid h1, Lib.hid h2, Lib.hid h4, h3⟩
theorem doR_own (c : Cfg) (v : Value) (L : List Rw) (hf : RwsFit L) (o : Opn) (ho : o.Fits) (w : World) (hv : Rws w v L) (hn : L.length ≤ 1000) {M res : List Rw} {dc dw de : Int} (hz : ordDo c L o = ⟨M, dc, dw, res, de⟩) :
    Calls Tryd.prog 16 #[c.v, v, o.v] w fun e w' => ∃ r ad cap, e = .returned (.tuple #[r, resV dc dw (.slice ad res.length cap), .int .i64 de]) ∧ Hid (w'.ownsRow w.heap.size 37 2 r M.length (rwCells M)) ∧ Hid (w'.ownsRow w.heap.size 37 2 (.slice ad res.length cap) res.length (rwCells res)) ∧ Ext w w' := by
  refine (doR_any c v L hf o ho w hv hn).mono fun e w' h => ?_
  rw [hz] at h
  obtain ⟨r, ad, cap, rfl, h1, h2, h3⟩ := h
  exact ⟨r, ad, cap, rfl, Lib.hid h1, Lib.hid h2, h3⟩
end Go.Proofs.YthecacdofbhblaaDoor
