/- 'paths.Do', 'Is' and the document's answers, by name. -/
import Derived.Test.YtmbodooikfmegaaDoorPatO
namespace Go.Proofs.YtmbodooikfmegaaDoor.paths
open Go Go.RowKit
set_option maxRecDepth 100000
set_option maxHeartbeats 8000000

theorem is_as (c : Cfg) (v : Value) (L : List Rw) (hf : RwsFit L) (w : World) (hv : Rws w v L) (R : Bool) (hR : pathIs c L = R) : Calls Tryd.prog 18 #[c.v, v] w fun e w' => e = .returned (.bool R) ∧ Ext w w' := by
  subst hR
  exact is_any c v L hf w hv
theorem do_own (c : Cfg) (v : Value) (L : List Rw) (hf : RwsFit L) (o : Opn) (ho : o.Fits) (w : World) (ht : Tab w) (hv : Rws w v L) (hn : L.length ≤ 800) {M : List Rw} {dc dw de : Int} (hz : pathDo c L o = ⟨M, dc, dw, de⟩) :
    Calls Tryd.prog 19 #[c.v, v, o.v] w fun e w' => ∃ r, e = .returned (.tuple #[r, resV dc dw, .int .i64 de]) ∧ Hid (w'.ownsRow w.heap.size 88 2 r M.length (rwCells M)) ∧ Ext w w' := by
  refine (do_any c v L hf o ho w ht hv (by omega)).mono fun e w' h => ?_
  rw [hz] at h
  obtain ⟨r, rfl, h1, h2⟩ := h
  exact ⟨r, rfl, Lib.hid h1, h2⟩
theorem do_hid (c : Cfg) (v : Value) (L : List Rw) (hf : RwsFit L) (o : Opn) (ho : o.Fits) (w : World) (ht : Tab w) (hv : Rws w v L) (hn : L.length ≤ 800) {M : List Rw} {dc dw de : Int} (hz : pathDo c L o = ⟨M, dc, dw, de⟩) :
    Calls Tryd.prog 19 #[c.v, v, o.v] w fun e w' => ∃ r, e = .returned (.tuple #[r, resV dc dw, .int .i64 de]) ∧ Hid (Rws w' r M) ∧ Ext w w' :=
  (do_own c v L hf o ho w ht hv hn hz).mono fun _ _ ⟨r, h1, h2, h3⟩ => ⟨r, h1, Lib.hid (own_rws h2.out), h3⟩
theorem sameRes_any (c1 v1 c2 v2 : Int) (s1 s2 : Value) (A B : List Rw) (w : World) (h1 : Rws w s1 A) (h2 : Rws w s2 B) : Calls Tryd.prog 21 #[.agg #[.int .i64 c1, .int .u32 v1, s1], .agg #[.int .i64 c2, .int .u32 v2, s2]] w
    fun e w' => e = .returned (.bool ((c1 == c2) && (v1 == v2) && decide (A = B))) ∧ Ext w w' := by
  have HA := Lib.hid h1
  have HB := Lib.hid h2
  obtain ⟨ad1, cp1, rfl, _, _⟩ := h1
  obtain ⟨ad2, cp2, rfl, _, _⟩ := h2
  obtain ⟨q, hq⟩ : ∃ q, decide (A = B) = q := ⟨_, rfl⟩
  rw [hq]
  have HQ := Lib.hid hq
  clear hq
  cases g1 : (c1 == c2)
  · go_enter Tryd.func21, Tryd.ntmps21
    go_wp2
    go_ret
    exact ⟨rfl, EX⟩
  · cases g2 : (v1 == v2)
    · go_enter Tryd.func21, Tryd.ntmps21
      go_wp2
      go_ret
      exact ⟨rfl, EX⟩
    · go_enter Tryd.func21, Tryd.ntmps21
      go_wp2_with (go_at_call 22; refine (sameRows_any _ _ A B _ (HA.out.sl.ext EXX) (HB.out.sl.ext EXX)).mono ?_; rintro e w1 ⟨rfl, os1, n1, rfl⟩; rw [HQ.out])
      go_ret
      exact ⟨by rw [Bool.true_and, Bool.true_and] <;> rfl, EX⟩
theorem sameRes_refl (c v : Int) (w : World) : Calls Tryd.prog 21 #[resV c v, resV c v] w fun e w' => e = .returned (.bool true) ∧ Ext w w' :=
  (sameRes_any c v c v _ _ [] [] w (Rws.nil w) (Rws.nil w)).mono fun e w' h => by simpa using h
theorem fit_opn {o : Opn} (h : (0 ≤ o.kind ∧ o.kind ≤ 255) ∧ (0 ≤ o.a ∧ o.a ≤ 4294967295) ∧ (0 ≤ o.b ∧ o.b ≤ 4294967295) ∧ (0 ≤ o.c ∧ o.c ≤ 4294967295)) : o.Fits := ⟨h.1, h.2.1, h.2.2.1, h.2.2.2⟩
theorem fit_rws {L : List Rw} (h : (L.all fun x => decide (0 ≤ x.k) && decide (x.k ≤ 18446744073709551615) && decide (0 ≤ x.v) && decide (x.v ≤ 18446744073709551615)) = true) : RwsFit L := fun x hx => by
  have := List.all_eq_true.1 h x hx
  simp only [Bool.and_eq_true, decide_eq_true_eq] at this
  exact ⟨⟨this.1.1.1, this.1.1.2⟩, this.1.2, this.2⟩
theorem do_lit (c : Cfg) (L : List Rw) (o : Opn) (M : List Rw) (dc dw de : Int) (v : Value) (w : World) (hl : (L.all fun x => decide (0 ≤ x.k) && decide (x.k ≤ 18446744073709551615) && decide (0 ≤ x.v) && decide (x.v ≤ 18446744073709551615)) = true)
    (hop : (0 ≤ o.kind ∧ o.kind ≤ 255) ∧ (0 ≤ o.a ∧ o.a ≤ 4294967295) ∧ (0 ≤ o.b ∧ o.b ≤ 4294967295) ∧ (0 ≤ o.c ∧ o.c ≤ 4294967295)) (ht : Tab w) (hv : Rws w v L) (hn : L.length ≤ 800) (hz : pathDo c L o = ⟨M, dc, dw, de⟩) :
    Calls Tryd.prog 19 #[c.v, v, o.v] w fun e w' => ∃ r, e = .returned (.tuple #[r, resV dc dw, .int .i64 de]) ∧ Hid (Rws w' r M) ∧ Ext w w' := do_hid c v L (fit_rws hl) o (fit_opn hop) w ht hv hn hz
end Go.Proofs.YtmbodooikfmegaaDoor.paths
