/- 'table.Do', all ways together; and answers given by name. -/
import Derived.Test.YtpaplhkjaniafaaDoorTabW
import Derived.Test.YtpaplhkjaniafaaDoorTabW2
namespace Go.Proofs.YtpaplhkjaniafaaDoor
open Go Go.RowKit
set_option maxRecDepth 100000
set_option maxHeartbeats 8000000

theorem do_any (c : Cfg) (v : Value) (L : List Rw) (hf : RwsFit L) (o : Opn) (ho : o.Fits) (w : World) (ht : Tab w) (hv : Rws w v L) (hn : L.length ≤ 1000) :
    Calls Tryd.prog 18 #[c.v, v, o.v] w (DoP w (tabDo c L o)) := by
  cases h : tabIs c L
  · exact do_no c v L hf o w hv h
  · cases h3 : (opErr c o == 0)
    · exact do_bad c v L hf o ho w ht hv hn h h3
    · obtain ⟨hp, hc, hlc, hrs, hok⟩ := tabIs_ok hf h
      obtain ⟨_, hk, hft⟩ := tab_kind hc h3
      by_cases h6 : o.kind = 3
      · exact do_look c v L hf o ho w ht hv hn h h3 h6
      · have hp2 : (partOk c && (c.object == 1)) = true := by rw [hp, hc]; rfl
        have he : opErr c o = 0 := by simpa using h3
        have hz := tabDo_ok hp2 h h3
        obtain ⟨r1, r2, _⟩ := tab_route hft (by omega)
        have hw : WPre c v L o w := ⟨hv, hf, ho, ht, hp2, h, he, by omega, (partOk_bits hp).2, r1, r2, hrs, hok⟩
        rw [tabDone, if_neg (by simpa using h6)] at hz
        cases h4 : (o.kind == 1)
        · rw [h4] at hz
          cases hl : look L (tabKey o) with
          | some u => exact do_del_there c v L o w hw hn h4 u hl _ (Lib.hid (by rw [hz, hl]; rfl))
          | none => exact do_del_none c v L o w hw hn h4 hl _ (Lib.hid (by rw [hz, hl]; rfl))
        · rw [h4] at hz
          cases hl : look L (tabKey o) with
          | some u => exact do_put_there c v L o w hw hn h4 u hl _ (Lib.hid (by rw [hz, hl]; rfl))
          | none =>
            by_cases hcap : c.cap ≤ (L.length : Int)
            · exact do_put_full c v L o w hw hn h4 hl (by simp only [beq_iff_eq]; omega) _ (Lib.hid (by rw [hz, hl]; simp [hcap]))
            · exact do_put_new c v L o w hw hn h4 hl (by simp only [beq_eq_false_iff_ne, ne_eq]; omega) _ (Lib.hid (by rw [hz, hl]; simp [hcap]))
theorem is_as (c : Cfg) (v : Value) (L : List Rw) (hf : RwsFit L) (w : World) (hv : Rws w v L) (R : Bool) (hR : tabIs c L = R) : Calls Tryd.prog 17 #[c.v, v] w fun e w' => e = .returned (.bool R) ∧ Ext w w' := by
  subst hR
  exact is_any c v L hf w hv.sl
theorem do_own (c : Cfg) (v : Value) (L : List Rw) (hf : RwsFit L) (o : Opn) (ho : o.Fits) (w : World) (ht : Tab w) (hv : Rws w v L) (hn : L.length ≤ 1000) {M : List Rw} {dc dw de : Int} (hz : tabDo c L o = ⟨M, dc, dw, de⟩) :
    Calls Tryd.prog 18 #[c.v, v, o.v] w fun e w' => ∃ r, e = .returned (.tuple #[r, resV dc dw, .int .i64 de]) ∧ Hid (w'.ownsRow w.heap.size 84 2 r M.length (rwCells M)) ∧ Ext w w' := by
  refine (do_any c v L hf o ho w ht hv hn).mono fun e w' h => ?_
  rw [hz] at h
  obtain ⟨r, rfl, h1, h2⟩ := h
  exact ⟨r, rfl, Lib.hid h1, h2⟩
theorem do_hid (c : Cfg) (v : Value) (L : List Rw) (hf : RwsFit L) (o : Opn) (ho : o.Fits) (w : World) (ht : Tab w) (hv : Rws w v L) (hn : L.length ≤ 1000) {M : List Rw} {dc dw de : Int} (hz : tabDo c L o = ⟨M, dc, dw, de⟩) :
    Calls Tryd.prog 18 #[c.v, v, o.v] w fun e w' => ∃ r, e = .returned (.tuple #[r, resV dc dw, .int .i64 de]) ∧ Hid (Rws w' r M) ∧ Ext w w' :=
  (do_own c v L hf o ho w ht hv hn hz).mono fun _ _ ⟨r, h1, h2, h3⟩ => ⟨r, h1, Lib.hid (own_rws h2.out), h3⟩
theorem sameRes_any (c1 v1 c2 v2 : Int) (s1 s2 : Value) (A B : List Rw) (w : World) (h1 : Rws w s1 A) (h2 : Rws w s2 B) : Calls Tryd.prog 20 #[.agg #[.int .i64 c1, .int .u32 v1, s1], .agg #[.int .i64 c2, .int .u32 v2, s2]] w
    fun e w' => e = .returned (.bool ((c1 == c2) && (v1 == v2) && decide (A = B))) ∧ Ext w w' := by
  have HA := Lib.hid h1
  have HB := Lib.hid h2
  obtain ⟨ad1, cp1, rfl, _, _⟩ := h1
  obtain ⟨ad2, cp2, rfl, _, _⟩ := h2
  obtain ⟨q, hq⟩ : ∃ q, decide (A = B) = q := ⟨_, rfl⟩
  rw [hq]
  have HQ := Lib.hid hq
  clear hq
  cases g1 : (c1 == c2)
  · go_enter Tryd.func20, Tryd.ntmps20
    go_wp2
    go_ret
    exact ⟨rfl, EX⟩
  · cases g2 : (v1 == v2)
    · go_enter Tryd.func20, Tryd.ntmps20
      go_wp2
      go_ret
      exact ⟨rfl, EX⟩
    · go_enter Tryd.func20, Tryd.ntmps20
      go_wp2_with (go_at_call 21; refine (sameRows_any _ _ A B _ (HA.out.sl.ext EXX) (HB.out.sl.ext EXX)).mono ?_; rintro e w1 ⟨rfl, os1, n1, rfl⟩; rw [HQ.out])
      go_ret
      exact ⟨by rw [Bool.true_and, Bool.true_and] <;> rfl, EX⟩
theorem sameRes_refl (c v : Int) (w : World) : Calls Tryd.prog 20 #[resV c v, resV c v] w fun e w' => e = .returned (.bool true) ∧ Ext w w' :=
  (sameRes_any c v c v _ _ [] [] w (Rws.nil w) (Rws.nil w)).mono fun e w' h => by simpa using h
end Go.Proofs.YtpaplhkjaniafaaDoor
