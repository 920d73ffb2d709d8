/- The walks of the document's answer for an index in order (layer 7): 'Done', 'Do'. -/
import Derived.Test.YtknfikdignpniaaDoorOb
import Derived.Test.YtknfikdignpniaaDoorOrdW
namespace Go.Proofs.YtknfikdignpniaaDoor.order
open Go Go.RowKit
set_option maxRecDepth 100000
set_option maxHeartbeats 8000000

end Go.Proofs.YtknfikdignpniaaDoor.order
/- The walk of the document's answer for an index in order (layer 7): 'Do'. -/
namespace Go.Proofs.YtknfikdignpniaaDoor.order
open Go Go.RowKit
set_option maxRecDepth 100000
set_option maxHeartbeats 8000000

theorem ordRead_as (L : List Rw) (o : Opn) : ∃ code word res, ordRead L o = ⟨L, code, word, res, 0⟩ := by
  unfold ordRead
  split
  · split <;> exact ⟨_, _, _, rfl⟩
  · split
    · exact ⟨_, _, _, rfl⟩
    · split <;> exact ⟨_, _, _, rfl⟩
theorem ordDone_as (c : Cfg) (L : List Rw) (o : Opn) : ∃ M dc dw res, ordDone c L o = ⟨M, dc, dw, res, 0⟩ ∧ M.length ≤ L.length + 1 := by
  unfold ordDone
  have h1 := withK_len_le o.a o.b L
  have h2 := withoutK_len o.a L
  split
  · obtain ⟨_, _, _, h⟩ := ordRead_as L o
    rw [h]
    exact ⟨_, _, _, _, rfl, by omega⟩
  · split
    · split
      · exact ⟨_, _, _, _, rfl, by omega⟩
      · split
        · exact ⟨_, _, _, _, rfl, by omega⟩
        · exact ⟨_, _, _, _, rfl, by omega⟩
    · split
      · exact ⟨_, _, _, _, rfl, by omega⟩
      · exact ⟨_, _, _, _, rfl, by omega⟩
end Go.Proofs.YtknfikdignpniaaDoor.order
/- 'order.Do', all ways together; and answers given by name. -/
namespace Go.Proofs.YtknfikdignpniaaDoor.order
open Go Go.RowKit
set_option maxRecDepth 100000
set_option maxHeartbeats 8000000

theorem do_any (c : Cfg) (v : Value) (L : List Rw) (hf : RwsFit L) (o : Opn) (ho : o.Fits) (w : World) (ht : Tab w) (b : Bool) (hw : 1 ≤ o.kind → o.kind ≤ 14 → WrAt w o.kind b) (hv : Rws w v L) (hn : L.length ≤ 1000) :
    Calls Tryd.prog 56 #[c.v, v, o.v] w (DoP w (ordDoW b c L o)) := by
  cases h : ordIs c L
  · have hz : ordDoW b c L o = ordDo c L o := by simp [ordDoW, ordDo, h]
    rw [hz]
    exact do_no c v L hf o w hv h
  · cases h3 : (opErr c o == 0)
    · have hz : ordDoW b c L o = ordDo c L o := by simp [ordDoW, ordDo, h, h3]
      rw [hz]
      exact do_bad c v L hf o ho w ht hv hn h h3
    · obtain ⟨hp, hc, _, hrs, hok⟩ := ordIs_ok hf h
      obtain ⟨_, hk, hft⟩ := ord_kind hc h3
      have hk2 : 4 ≤ o.kind ∧ o.kind ≤ 8 := by omega
      have hw1 := hw (by omega) (by omega)
      cases b
      · exact do_read c v L hf o ho w ht hv hn h h3 hk2 hw1
      · have hp2 : (partOk c && (c.object == 2)) = true := by rw [hp, hc]; rfl
        have he : opErr c o = 0 := by simpa using h3
        have hz := ordDoW_ok true hp2 h h3
        have hw : WPre c v L o w := ⟨hv, hf, ho, ht, hp2, h, he, hk2, hw1, (ord_fits hft hk).1, hrs, hok⟩
        rw [ordDoneW, if_pos rfl] at hz
        cases h4 : (o.kind == 4)
        · rw [h4] at hz
          cases hl : look L o.a with
          | some u => exact do_del_there c v L o w hw hn h4 u hl _ (Lib.hid (by rw [hz, hl]; rfl))
          | none => exact do_del_none c v L o w hw hn h4 hl _ (Lib.hid (by rw [hz, hl]; rfl))
        · rw [h4] at hz
          cases hl : look L o.a with
          | some u => exact do_put_there c v L o w hw hn h4 u hl _ (Lib.hid (by rw [hz, hl]; rfl))
          | none =>
            by_cases hcap : c.cap ≤ (L.length : Int)
            · exact do_put_full c v L o w hw hn h4 hl hcap _ (Lib.hid (by rw [hz, hl]; simp [hcap]))
            · exact do_put_new c v L o w hw hn h4 hl (by omega) _ (Lib.hid (by rw [hz, hl]; simp [hcap]))
theorem is_as (c : Cfg) (v : Value) (L : List Rw) (hf : RwsFit L) (w : World) (hv : Rws w v L) (R : Bool) (hR : ordIs c L = R) : Calls Tryd.prog 58 #[c.v, v] w fun e w' => e = .returned (.bool R) ∧ Ext w w' := by
  subst hR
  exact is_any c v L hf w hv.sl
theorem do_own (c : Cfg) (v : Value) (L : List Rw) (hf : RwsFit L) (o : Opn) (ho : o.Fits) (w : World) (ht : Tab w) (b : Bool) (hw : 1 ≤ o.kind → o.kind ≤ 14 → WrAt w o.kind b) (hv : Rws w v L) (hn : L.length ≤ 1000) {M res : List Rw} {dc dw de : Int} (hz : ordDoW b c L o = ⟨M, dc, dw, res, de⟩) :
    Calls Tryd.prog 56 #[c.v, v, o.v] w fun e w' => ∃ r ad cap, e = .returned (.tuple #[r, resV dc dw (.slice ad res.length cap), .int .i64 de]) ∧ Hid (w'.ownsRow w.heap.size 44 2 r M.length (rwCells M)) ∧ Hid (w'.ownsRow w.heap.size 44 2 (.slice ad res.length cap) res.length (rwCells res)) ∧
      Hid (∀ g, r.ownBlock = some g → (Value.slice ad res.length cap).ownBlock ≠ some g) ∧ Ext w w' := by
  refine (do_any c v L hf o ho w ht b hw hv hn).mono fun e w' h => ?_
  rw [hz] at h
  obtain ⟨r, ad, cap, rfl, h1, h2, h4, h3⟩ := h
  exact ⟨r, ad, cap, rfl, Lib.hid h1, Lib.hid h2, Lib.hid h4, h3⟩
end Go.Proofs.YtknfikdignpniaaDoor.order
