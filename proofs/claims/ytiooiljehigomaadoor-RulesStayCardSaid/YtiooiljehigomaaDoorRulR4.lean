/- The walk of the document's answer for a set of rules (layer 8): 'Do'. -/
import Derived.Test.YtiooiljehigomaaDoorRulR3
namespace Go.Proofs.YtiooiljehigomaaDoor
open Go Go.RowKit

def DoP (w : World) (Z : Outc) (e : Ending) (w' : World) : Prop := ∃ r, e = .returned (.tuple #[r, resV Z.code Z.word, .int .i64 Z.err]) ∧ w'.ownsRow w.heap.size 24 2 r Z.rows.length (rwCells Z.rows) ∧ Ext w w'
theorem do_p {w w' : World} {Z : Outc} {r : Value} {rows : List Rw} {code word err : Int} (hZ : Z = ⟨rows, code, word, err⟩) (h1 : w'.ownsRow w.heap.size 24 2 r rows.length (rwCells rows)) (h2 : Ext w w') : DoP w Z (.returned (.tuple #[r, resV code word, .int .i64 err])) w' := by
  subst hZ
  exact ⟨r, rfl, h1, h2⟩
theorem own_low {w : World} {base lo : Nat} {e : TypeId} {size n : Nat} {v : Value} {xs : List Value} (h : w.ownsRow base e size v n xs) (hl : lo ≤ base) : w.ownsRow lo e size v n xs := by
  obtain ⟨h1, h2⟩ := h
  refine ⟨h1, ?_⟩
  rcases h2 with h | ⟨g, cap, cur, hv, hg, hr⟩
  · exact Or.inl h
  · exact Or.inr ⟨g, cap, cur, hv, by omega, hr⟩
theorem rulesDone_len (c : Cfg) (L : List Rw) (o : Opn) : (rulesDone c L o).rows.length ≤ L.length + 1 := by
  unfold rulesDone
  have h1 := withK_len_le (ruleKey o) o.c L
  have h2 := withoutK_len (ruleKey o) L
  split
  · dsimp only; omega
  · split
    · split
      · dsimp only; omega
      · split <;> dsimp only <;> omega
    · split <;> dsimp only <;> omega
theorem rulesDone_err (c : Cfg) (L : List Rw) (o : Opn) : (rulesDone c L o).err = 0 := by
  unfold rulesDone
  split
  · rfl
  · split
    · split
      · rfl
      · split <;> rfl
    · split <;> rfl
def DoneAs (c : Cfg) (L : List Rw) (o : Opn) (M : List Rw) (dc dw : Int) : Prop := o.Fits ∧ (∀ x ∈ L, RuleOk x) ∧ Rises L ∧ L.length ≤ 10000 ∧ (o.kind = 9 ∨ o.kind = 10 ∨ o.kind = 11) ∧ o.a ≤ 65535 ∧ o.b ≤ 65535 ∧ rulesDone c L o = ⟨M, dc, dw, 0⟩
theorem doneR_as (c : Cfg) (v : Value) (L : List Rw) (o : Opn) (M : List Rw) (dc dw : Int) (h : DoneAs c L o M dc dw) (w : World) (hv : Rws w v L) :
    Calls Tryd.prog 32 #[c.v, v, o.v] w fun e w' => ∃ r, e = .returned (.tuple #[r, resV dc dw]) ∧ Hid (Rws w' r M) ∧ Ext w w' := by
  obtain ⟨h1, h2, h3, h4, h5, h6, h7, h8⟩ := h
  refine (doneR_any c v L o h1 h2 h3 h4 h5 h6 h7 w hv).mono fun e w' hh => ?_
  rw [h8] at hh
  exact hh
set_option maxRecDepth 100000 in
set_option maxHeartbeats 4000000 in
theorem doR_ok (c : Cfg) (v : Value) (L : List Rw) (o : Opn) (w : World) (Z : Outc) (HC : Hid (partOk c = true)) (_h1 : (c.object == 3) = true) (h1' : (c.object != 3) = false) (HI : Hid (rulesIs c L = true)) (HE : Hid (opErr c o = 0))
    {M : List Rw} {dc dw : Int} (HOD : Hid (DoneAs c L o M dc dw)) (HZ2 : Hid (Z = ⟨M, dc, dw, 0⟩)) (HLD : Hid (M.length ≤ 10000)) (HV : Hid (Rws w v L)) (HF : Hid (RwsFit L)) (HO : Hid o.Fits) (_hn : L.length ≤ 1000) :
    Calls Tryd.prog 14 #[c.v, v, o.v] w (DoP w Z) := by
  go_enter Tryd.func14, Tryd.ntmps14
  go_wp2_with (first | (go_at_call 29; refine (mayBe_any c _).mono ?_; rintro e w1 ⟨rfl, os1, n1, rfl⟩; rw [HC.out]) | (go_at_call 15; refine (isR_any c _ L HF.out _ (HV.out.sl.ext (by first | ((repeat (first | with_reducible exact Ext.refl _ | with_reducible assumption | with_reducible refine Ext.alloc ?_ _ | with_reducible refine Ext.gr ?_ _ | with_reducible refine Ext.drewN ?_ _ | with_reducible refine Ext.drew ?_ | with_reducible refine Ext.setCell ?_ ?_ _ | with_reducible refine Ext.more ?_ _ _ | (show _ ≤ _; dsimp only; omega))); done) | ((repeat (first | with_reducible exact Ext.refl _ | with_reducible assumption | with_reducible apply Ext.bothR | with_reducible refine Ext.alloc ?_ _ | with_reducible refine Ext.gr ?_ _ | with_reducible refine Ext.drewN ?_ _ | with_reducible refine Ext.drew ?_ | with_reducible refine Ext.setCell ?_ ?_ _ | with_reducible refine Ext.more ?_ _ _ | (show _ ≤ _; dsimp only; omega))); done)))).mono ?_; rintro e w2 ⟨rfl, os2, n2, rfl⟩; rw [HI.out]) | (go_at_call 30; refine (opCheckR_any c o HO.out _).mono ?_; rintro e w3 ⟨rfl, os3, n3, rfl⟩; rw [HE.out]) | (go_at_call 32; refine (doneR_as c _ L o M dc dw HOD.out _ (HV.out.ext (by first | ((repeat (first | with_reducible exact Ext.refl _ | with_reducible assumption | with_reducible refine Ext.alloc ?_ _ | with_reducible refine Ext.gr ?_ _ | with_reducible refine Ext.drewN ?_ _ | with_reducible refine Ext.drew ?_ | with_reducible refine Ext.setCell ?_ ?_ _ | with_reducible refine Ext.more ?_ _ _ | (show _ ≤ _; dsimp only; omega))); done) | ((repeat (first | with_reducible exact Ext.refl _ | with_reducible assumption | with_reducible apply Ext.bothR | with_reducible refine Ext.alloc ?_ _ | with_reducible refine Ext.gr ?_ _ | with_reducible refine Ext.drewN ?_ _ | with_reducible refine Ext.drew ?_ | with_reducible refine Ext.setCell ?_ ?_ _ | with_reducible refine Ext.more ?_ _ _ | (show _ ≤ _; dsimp only; omega))); done)))).mono ?_; rintro e w4 ⟨rd, rfl, HRD, os4, n4, rfl⟩; have hrd := HRD.out; simp only [grew_grew] at hrd; clear HRD; have HRD := Lib.hid hrd; clear hrd))
  go_region_held3 (fun W => W.cell? ⟨w.heap.size + 1 + 1 + 1 + cnt (both (both (both os1 os2) os3) os4), 0, none⟩ = some (.int .i64 dc) ∧ W.cell? ⟨w.heap.size + 1 + 1 + 1 + cnt (both (both (both os1 os2) os3) os4), 1, none⟩ = some (.int .u32 dw) ∧ W.cell? ⟨w.heap.size + 1 + 1 + 1 + cnt (both (both (both os1 os2) os3) os4), 2, none⟩ = some (.slice none 0 0)) (simp [go_sem]) (first | (go_at_call 31; refine (copy_any _ M HLD.out _ (HRD.out.ext (by first | ((repeat (first | with_reducible exact Ext.refl _ | with_reducible assumption | with_reducible refine Ext.alloc ?_ _ | with_reducible refine Ext.gr ?_ _ | with_reducible refine Ext.drewN ?_ _ | with_reducible refine Ext.drew ?_ | with_reducible refine Ext.setCell ?_ ?_ _ | with_reducible refine Ext.more ?_ _ _ | (show _ ≤ _; dsimp only; omega))); done) | ((repeat (first | with_reducible exact Ext.refl _ | with_reducible assumption | with_reducible apply Ext.bothR | with_reducible refine Ext.alloc ?_ _ | with_reducible refine Ext.gr ?_ _ | with_reducible refine Ext.drewN ?_ _ | with_reducible refine Ext.drew ?_ | with_reducible refine Ext.setCell ?_ ?_ _ | with_reducible refine Ext.more ?_ _ _ | (show _ ≤ _; dsimp only; omega))); done)))).mono ?_; rintro e w5 ⟨r, rfl, HC4, os5, n5, rfl⟩; have HOW := Lib.hid HC4; clear HC4))
  all_goals go_wp2
  all_goals refine bodyPost_ret (v := .tuple #[r, resV dc dw, .int .i64 0]) (by simp [results, Tryd.results14, go_sem]) rfl ?_
  all_goals
    have HO' := HOW.out
    simp only [drew_grew] at HO'
    exact do_p HZ2.out (own_low (own_swap (by simp [go_sem]) HO' (by first | (simp [go_sem]; done) | (simp [go_sem]; omega))) (by first | (simp [go_sem]; done) | (simp [go_sem]; omega))) (by first | ((repeat (first | with_reducible exact Ext.refl _ | with_reducible assumption | with_reducible refine Ext.alloc ?_ _ | with_reducible refine Ext.gr ?_ _ | with_reducible refine Ext.drewN ?_ _ | with_reducible refine Ext.drew ?_ | with_reducible refine Ext.setCell ?_ ?_ _ | with_reducible refine Ext.more ?_ _ _ | (show _ ≤ _; dsimp only; omega))); done) | ((repeat (first | with_reducible exact Ext.refl _ | with_reducible assumption | with_reducible apply Ext.bothR | with_reducible refine Ext.alloc ?_ _ | with_reducible refine Ext.gr ?_ _ | with_reducible refine Ext.drewN ?_ _ | with_reducible refine Ext.drew ?_ | with_reducible refine Ext.setCell ?_ ?_ _ | with_reducible refine Ext.more ?_ _ _ | (show _ ≤ _; dsimp only; omega))); done))
set_option maxRecDepth 100000 in
set_option maxHeartbeats 8000000 in
theorem doR_any (c : Cfg) (v : Value) (L : List Rw) (hf : RwsFit L) (o : Opn) (ho : o.Fits) (w : World) (hv : Rws w v L) (hn : L.length ≤ 1000) :
    Calls Tryd.prog 14 #[c.v, v, o.v] w (DoP w (rulesDo c L o)) := by
  obtain ⟨Z, hZ⟩ : ∃ Z, Z = rulesDo c L o := ⟨_, rfl⟩
  rw [← hZ]
  have HV := Lib.hid hv
  have HF := Lib.hid hf
  have HO := Lib.hid ho
  clear hv hf ho
  cases hp : partOk c
  · have HC := Lib.hid hp
    have HZ := Lib.hid (hZ.trans (rulesDo_conf L o (by rw [hp]; rfl)))
    clear hp hZ
    go_enter Tryd.func14, Tryd.ntmps14
    go_wp2_with (go_at_call 29; refine (mayBe_any c _).mono ?_; rintro e w1 ⟨rfl, os1, n1, rfl⟩; rw [HC.out])
    refine bodyPost_ret (v := .tuple #[.slice none 0 0, resV 0 0, .int .i64 40]) (by simp [results, Tryd.results14, go_sem]) rfl ?_
    exact do_p HZ.out (World.ownsRow_nil _ _ _ _) (by first | ((repeat (first | with_reducible exact Ext.refl _ | with_reducible assumption | with_reducible refine Ext.alloc ?_ _ | with_reducible refine Ext.gr ?_ _ | with_reducible refine Ext.drewN ?_ _ | with_reducible refine Ext.drew ?_ | with_reducible refine Ext.setCell ?_ ?_ _ | with_reducible refine Ext.more ?_ _ _ | (show _ ≤ _; dsimp only; omega))); done) | ((repeat (first | with_reducible exact Ext.refl _ | with_reducible assumption | with_reducible apply Ext.bothR | with_reducible refine Ext.alloc ?_ _ | with_reducible refine Ext.gr ?_ _ | with_reducible refine Ext.drewN ?_ _ | with_reducible refine Ext.drew ?_ | with_reducible refine Ext.setCell ?_ ?_ _ | with_reducible refine Ext.more ?_ _ _ | (show _ ≤ _; dsimp only; omega))); done))
  · have HC := Lib.hid hp
    cases h1 : (c.object == 3)
    · have h1' : (c.object != 3) = true := by simpa [bne] using h1
      have HZ := Lib.hid (hZ.trans (rulesDo_conf L o (by rw [hp, h1]; rfl)))
      clear hp hZ
      go_enter Tryd.func14, Tryd.ntmps14
      go_wp2_with (go_at_call 29; refine (mayBe_any c _).mono ?_; rintro e w1 ⟨rfl, os1, n1, rfl⟩; rw [HC.out])
      refine bodyPost_ret (v := .tuple #[.slice none 0 0, resV 0 0, .int .i64 40]) (by simp [results, Tryd.results14, go_sem]) rfl ?_
      exact do_p HZ.out (World.ownsRow_nil _ _ _ _) (by first | ((repeat (first | with_reducible exact Ext.refl _ | with_reducible assumption | with_reducible refine Ext.alloc ?_ _ | with_reducible refine Ext.gr ?_ _ | with_reducible refine Ext.drewN ?_ _ | with_reducible refine Ext.drew ?_ | with_reducible refine Ext.setCell ?_ ?_ _ | with_reducible refine Ext.more ?_ _ _ | (show _ ≤ _; dsimp only; omega))); done) | ((repeat (first | with_reducible exact Ext.refl _ | with_reducible assumption | with_reducible apply Ext.bothR | with_reducible refine Ext.alloc ?_ _ | with_reducible refine Ext.gr ?_ _ | with_reducible refine Ext.drewN ?_ _ | with_reducible refine Ext.drew ?_ | with_reducible refine Ext.setCell ?_ ?_ _ | with_reducible refine Ext.more ?_ _ _ | (show _ ≤ _; dsimp only; omega))); done))
    · have h1' : (c.object != 3) = false := by simpa [bne] using h1
      cases h2 : rulesIs c L
      · have HI := Lib.hid h2
        have HZ := Lib.hid (hZ.trans (rulesDo_arg o (by rw [hp, h1]; rfl) h2))
        clear hp hZ h2
        go_enter Tryd.func14, Tryd.ntmps14
        go_wp2_with (first | (go_at_call 29; refine (mayBe_any c _).mono ?_; rintro e w1 ⟨rfl, os1, n1, rfl⟩; rw [HC.out]) | (go_at_call 15; refine (isR_any c _ L HF.out _ (HV.out.sl.ext (by first | ((repeat (first | with_reducible exact Ext.refl _ | with_reducible assumption | with_reducible refine Ext.alloc ?_ _ | with_reducible refine Ext.gr ?_ _ | with_reducible refine Ext.drewN ?_ _ | with_reducible refine Ext.drew ?_ | with_reducible refine Ext.setCell ?_ ?_ _ | with_reducible refine Ext.more ?_ _ _ | (show _ ≤ _; dsimp only; omega))); done) | ((repeat (first | with_reducible exact Ext.refl _ | with_reducible assumption | with_reducible apply Ext.bothR | with_reducible refine Ext.alloc ?_ _ | with_reducible refine Ext.gr ?_ _ | with_reducible refine Ext.drewN ?_ _ | with_reducible refine Ext.drew ?_ | with_reducible refine Ext.setCell ?_ ?_ _ | with_reducible refine Ext.more ?_ _ _ | (show _ ≤ _; dsimp only; omega))); done)))).mono ?_; rintro e w2 ⟨rfl, os2, n2, rfl⟩; rw [HI.out]))
        refine bodyPost_ret (v := .tuple #[.slice none 0 0, resV 0 0, .int .i64 2]) (by simp [results, Tryd.results14, go_sem]) rfl ?_
        exact do_p HZ.out (World.ownsRow_nil _ _ _ _) (by first | ((repeat (first | with_reducible exact Ext.refl _ | with_reducible assumption | with_reducible refine Ext.alloc ?_ _ | with_reducible refine Ext.gr ?_ _ | with_reducible refine Ext.drewN ?_ _ | with_reducible refine Ext.drew ?_ | with_reducible refine Ext.setCell ?_ ?_ _ | with_reducible refine Ext.more ?_ _ _ | (show _ ≤ _; dsimp only; omega))); done) | ((repeat (first | with_reducible exact Ext.refl _ | with_reducible assumption | with_reducible apply Ext.bothR | with_reducible refine Ext.alloc ?_ _ | with_reducible refine Ext.gr ?_ _ | with_reducible refine Ext.drewN ?_ _ | with_reducible refine Ext.drew ?_ | with_reducible refine Ext.setCell ?_ ?_ _ | with_reducible refine Ext.more ?_ _ _ | (show _ ≤ _; dsimp only; omega))); done))
      · have HI := Lib.hid h2
        cases h3 : (opErr c o == 0)
        · have HZ := Lib.hid (hZ.trans (rulesDo_bad (by rw [hp, h1]; rfl) h2 h3))
          obtain ⟨E, hE⟩ : ∃ E, opErr c o = E := ⟨_, rfl⟩
          have hE2 : (E != 0) = true := by rw [← hE]; simpa using h3
          have HE := Lib.hid hE
          rw [hE] at HZ
          clear hp hZ h2 h3 hE
          go_enter Tryd.func14, Tryd.ntmps14
          go_wp2_with (first | (go_at_call 29; refine (mayBe_any c _).mono ?_; rintro e w1 ⟨rfl, os1, n1, rfl⟩; rw [HC.out]) | (go_at_call 15; refine (isR_any c _ L HF.out _ (HV.out.sl.ext (by first | ((repeat (first | with_reducible exact Ext.refl _ | with_reducible assumption | with_reducible refine Ext.alloc ?_ _ | with_reducible refine Ext.gr ?_ _ | with_reducible refine Ext.drewN ?_ _ | with_reducible refine Ext.drew ?_ | with_reducible refine Ext.setCell ?_ ?_ _ | with_reducible refine Ext.more ?_ _ _ | (show _ ≤ _; dsimp only; omega))); done) | ((repeat (first | with_reducible exact Ext.refl _ | with_reducible assumption | with_reducible apply Ext.bothR | with_reducible refine Ext.alloc ?_ _ | with_reducible refine Ext.gr ?_ _ | with_reducible refine Ext.drewN ?_ _ | with_reducible refine Ext.drew ?_ | with_reducible refine Ext.setCell ?_ ?_ _ | with_reducible refine Ext.more ?_ _ _ | (show _ ≤ _; dsimp only; omega))); done)))).mono ?_; rintro e w2 ⟨rfl, os2, n2, rfl⟩; rw [HI.out]) | (go_at_call 30; refine (opCheckR_any c o HO.out _).mono ?_; rintro e w3 ⟨rfl, os3, n3, rfl⟩; rw [HE.out]) | (go_at_call 31; refine (copy_any _ L (by omega) _ (HV.out.ext (by first | ((repeat (first | with_reducible exact Ext.refl _ | with_reducible assumption | with_reducible refine Ext.alloc ?_ _ | with_reducible refine Ext.gr ?_ _ | with_reducible refine Ext.drewN ?_ _ | with_reducible refine Ext.drew ?_ | with_reducible refine Ext.setCell ?_ ?_ _ | with_reducible refine Ext.more ?_ _ _ | (show _ ≤ _; dsimp only; omega))); done) | ((repeat (first | with_reducible exact Ext.refl _ | with_reducible assumption | with_reducible apply Ext.bothR | with_reducible refine Ext.alloc ?_ _ | with_reducible refine Ext.gr ?_ _ | with_reducible refine Ext.drewN ?_ _ | with_reducible refine Ext.drew ?_ | with_reducible refine Ext.setCell ?_ ?_ _ | with_reducible refine Ext.more ?_ _ _ | (show _ ≤ _; dsimp only; omega))); done)))).mono ?_; rintro e w4 ⟨r, rfl, HC4, os4, n4, rfl⟩; have HOW := Lib.hid HC4; clear HC4))
          all_goals refine bodyPost_ret (v := .tuple #[r, resV E 0, .int .i64 0]) (by simp [results, Tryd.results14, go_sem]) rfl ?_
          all_goals
            have HO' := HOW.out
            simp only [grew_grew] at HO'
            exact do_p HZ.out (own_low (own_swap (by simp [go_sem]) HO' (by first | (simp [go_sem]; done) | (simp [go_sem]; omega))) (by first | (simp [go_sem]; done) | (simp [go_sem]; omega))) (by first | ((repeat (first | with_reducible exact Ext.refl _ | with_reducible assumption | with_reducible refine Ext.alloc ?_ _ | with_reducible refine Ext.gr ?_ _ | with_reducible refine Ext.drewN ?_ _ | with_reducible refine Ext.drew ?_ | with_reducible refine Ext.setCell ?_ ?_ _ | with_reducible refine Ext.more ?_ _ _ | (show _ ≤ _; dsimp only; omega))); done) | ((repeat (first | with_reducible exact Ext.refl _ | with_reducible assumption | with_reducible apply Ext.bothR | with_reducible refine Ext.alloc ?_ _ | with_reducible refine Ext.gr ?_ _ | with_reducible refine Ext.drewN ?_ _ | with_reducible refine Ext.drew ?_ | with_reducible refine Ext.setCell ?_ ?_ _ | with_reducible refine Ext.more ?_ _ _ | (show _ ≤ _; dsimp only; omega))); done))
        · have HE : Hid (opErr c o = 0) := Lib.hid (by simpa using h3)
          obtain ⟨hpp, hk, hft⟩ := rules_kind (by simpa using h1) h3
          obtain ⟨_, _, _, hrs, hok⟩ := rulesIs_ok HF.out h2
          obtain ⟨hoa, hob⟩ : o.a ≤ 65535 ∧ o.b ≤ 65535 := by
            rcases hk with k | k | k
            · exact (fits_add hft k).2
            · exact fits_drop hft k
            · have := fits_check hft k; omega
          obtain ⟨M, dc, dw, hD⟩ : ∃ M dc dw, rulesDone c L o = ⟨M, dc, dw, 0⟩ := ⟨_, _, _, by rw [← rulesDone_err c L o]⟩
          have HOD : Hid (DoneAs c L o M dc dw) := Lib.hid ⟨HO.out, hok, hrs, by omega, hk, hoa, hob, hD⟩
          have HZ2 : Hid (Z = ⟨M, dc, dw, 0⟩) := Lib.hid ((hZ.trans (rulesDo_ok (by rw [hp, h1]; rfl) h2 h3)).trans hD)
          have HLD : Hid (M.length ≤ 10000) := Lib.hid (by have := rulesDone_len c L o; rw [hD] at this; dsimp only at this; omega)
          clear hp hZ h2 h3 hk hft hrs hok hD hpp hoa hob
          exact doR_ok c v L o w Z HC h1 h1' HI HE HOD HZ2 HLD HV HF HO hn
end Go.Proofs.YtiooiljehigomaaDoor
