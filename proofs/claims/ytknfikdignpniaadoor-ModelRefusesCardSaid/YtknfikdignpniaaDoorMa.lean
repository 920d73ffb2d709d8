/- 'table.Do', all ways together; and answers given by name. -/
import Derived.Test.YtknfikdignpniaaDoorTabW
import Derived.Test.YtknfikdignpniaaDoorTabW2
import Derived.Test.YtknfikdignpniaaDoorTab2
import Derived.Test.YtknfikdignpniaaDoorOa
import Derived.Test.YtknfikdignpniaaDoorRa
import Derived.Test.YtknfikdignpniaaDoorPb
import Derived.Test.YtknfikdignpniaaDoorW
import Derived.Test.YtknfikdignpniaaDoorOc
import Derived.Test.YtknfikdignpniaaDoorRe
import Derived.Test.YtknfikdignpniaaDoorPatO
import Derived.Handy
namespace Go.Proofs.YtknfikdignpniaaDoor.table
open Go Go.RowKit
set_option maxRecDepth 100000
set_option maxHeartbeats 8000000

theorem do_any (c : Cfg) (v : Value) (L : List Rw) (hf : RwsFit L) (o : Opn) (ho : o.Fits) (w : World) (ht : Tab w) (hv : Rws w v L) (hn : L.length ≤ 1000) :
    Calls Tryd.prog 36 #[c.v, v, o.v] w (DoP w (tabDo c L o)) := by
  cases h : tabIs c L
  · exact do_no c v L hf o w hv h
  · cases h3 : (opErr c o == 0)
    · exact do_bad c v L hf o ho w ht hv hn h h3
    · obtain ⟨hp, hc, hlc, hrs, hok⟩ := tabIs_ok hf h
      obtain ⟨_, hk, hft⟩ := tab_kind hc h3
      by_cases h6 : o.kind = 3
      · exact do_look c v L hf o ho w ht hv hn h h3 h6
      · have hp2 : (partOk c && (c.object == 1)) = true := by rw [hp, hc]; rfl
        have he : opErr c o = 0 := by simpa using h3
        have hz := tabDo_ok hp2 h h3
        obtain ⟨r1, r2, _⟩ := tab_route hft (by omega)
        have hw : WPre c v L o w := ⟨hv, hf, ho, ht, hp2, h, he, by omega, (partOk_bits hp).2, r1, r2, hrs, hok⟩
        rw [tabDone, if_neg (by simpa using h6)] at hz
        cases h4 : (o.kind == 1)
        · rw [h4] at hz
          cases hl : look L (tabKey o) with
          | some u => exact do_del_there c v L o w hw hn h4 u hl _ (Lib.hid (by rw [hz, hl]; rfl))
          | none => exact do_del_none c v L o w hw hn h4 hl _ (Lib.hid (by rw [hz, hl]; rfl))
        · rw [h4] at hz
          cases hl : look L (tabKey o) with
          | some u => exact do_put_there c v L o w hw hn h4 u hl _ (Lib.hid (by rw [hz, hl]; rfl))
          | none =>
            by_cases hcap : c.cap ≤ (L.length : Int)
            · exact do_put_full c v L o w hw hn h4 hl (by simp only [beq_iff_eq]; omega) _ (Lib.hid (by rw [hz, hl]; simp [hcap]))
            · exact do_put_new c v L o w hw hn h4 hl (by simp only [beq_eq_false_iff_ne, ne_eq]; omega) _ (Lib.hid (by rw [hz, hl]; simp [hcap]))
theorem is_as (c : Cfg) (v : Value) (L : List Rw) (hf : RwsFit L) (w : World) (hv : Rws w v L) (R : Bool) (hR : tabIs c L = R) : Calls Tryd.prog 38 #[c.v, v] w fun e w' => e = .returned (.bool R) ∧ Ext w w' := by
  subst hR
  exact is_any c v L hf w hv.sl
theorem do_own (c : Cfg) (v : Value) (L : List Rw) (hf : RwsFit L) (o : Opn) (ho : o.Fits) (w : World) (ht : Tab w) (hv : Rws w v L) (hn : L.length ≤ 1000) {M : List Rw} {dc dw de : Int} (hz : tabDo c L o = ⟨M, dc, dw, de⟩) :
    Calls Tryd.prog 36 #[c.v, v, o.v] w fun e w' => ∃ r, e = .returned (.tuple #[r, resV dc dw, .int .i64 de]) ∧ Hid (w'.ownsRow w.heap.size 44 2 r M.length (rwCells M)) ∧ Ext w w' := by
  refine (do_any c v L hf o ho w ht hv hn).mono fun e w' h => ?_
  rw [hz] at h
  obtain ⟨r, rfl, h1, h2⟩ := h
  exact ⟨r, rfl, Lib.hid h1, h2⟩
theorem do_hid (c : Cfg) (v : Value) (L : List Rw) (hf : RwsFit L) (o : Opn) (ho : o.Fits) (w : World) (ht : Tab w) (hv : Rws w v L) (hn : L.length ≤ 1000) {M : List Rw} {dc dw de : Int} (hz : tabDo c L o = ⟨M, dc, dw, de⟩) :
    Calls Tryd.prog 36 #[c.v, v, o.v] w fun e w' => ∃ r, e = .returned (.tuple #[r, resV dc dw, .int .i64 de]) ∧ Hid (Rws w' r M) ∧ Ext w w' :=
  (do_own c v L hf o ho w ht hv hn hz).mono fun _ _ ⟨r, h1, h2, h3⟩ => ⟨r, h1, Lib.hid (own_rws h2.out), h3⟩
theorem sameRes_any (c1 v1 c2 v2 : Int) (s1 s2 : Value) (A B : List Rw) (w : World) (h1 : Rws w s1 A) (h2 : Rws w s2 B) : Calls Tryd.prog 15 #[.agg #[.int .i64 c1, .int .u32 v1, s1], .agg #[.int .i64 c2, .int .u32 v2, s2]] w
    fun e w' => e = .returned (.bool ((c1 == c2) && (v1 == v2) && decide (A = B))) ∧ Ext w w' := by
  have HA := Lib.hid h1
  have HB := Lib.hid h2
  obtain ⟨ad1, cp1, rfl, _, _⟩ := h1
  obtain ⟨ad2, cp2, rfl, _, _⟩ := h2
  obtain ⟨q, hq⟩ : ∃ q, decide (A = B) = q := ⟨_, rfl⟩
  rw [hq]
  have HQ := Lib.hid hq
  clear hq
  cases g1 : (c1 == c2)
  · go_enter Tryd.func15, Tryd.ntmps15
    go_wp2
    go_ret
    exact ⟨rfl, EX⟩
  · cases g2 : (v1 == v2)
    · go_enter Tryd.func15, Tryd.ntmps15
      go_wp2
      go_ret
      exact ⟨rfl, EX⟩
    · go_enter Tryd.func15, Tryd.ntmps15
      go_wp2_with (go_at_call 8; refine (sameRows_any _ _ A B _ (HA.out.sl.ext EXX) (HB.out.sl.ext EXX)).mono ?_; rintro e w1 ⟨rfl, os1, n1, rfl⟩; rw [HQ.out])
      go_ret
      exact ⟨by rw [Bool.true_and, Bool.true_and] <;> rfl, EX⟩
theorem sameRes_refl (c v : Int) (w : World) : Calls Tryd.prog 15 #[resV c v, resV c v] w fun e w' => e = .returned (.bool true) ∧ Ext w w' :=
  (sameRes_any c v c v _ _ [] [] w (Rws.nil w) (Rws.nil w)).mono fun e w' h => by simpa using h
end Go.Proofs.YtknfikdignpniaaDoor.table
/- Plain: what the four objects mean, whatever the table of writers says of an index; no program in sight. -/
namespace Go.Proofs.YtknfikdignpniaaDoor
open Go Go.RowKit
set_option maxRecDepth 100000
set_option maxHeartbeats 8000000

/-- What comes of an operation: the rows, the code, the word, the rows that are answered, the error. -/
structure MOut where
  rows : List Rw
  code : Int
  word : Int
  res : List Rw
  err : Int
def mdIs (c : Cfg) (L : List Rw) : Bool :=
  if c.object == 1 then table.tabIs c L else if c.object == 2 then order.ordIs c L else if c.object == 3 then rules.rulesIs c L else paths.pathIs c L
def mdDo (B : Int → Bool) (c : Cfg) (L : List Rw) (o : Opn) : MOut :=
  if c.object == 1 then ⟨(table.tabDo c L o).rows, (table.tabDo c L o).code, (table.tabDo c L o).word, [], (table.tabDo c L o).err⟩
  else if c.object == 2 then ⟨(order.ordDoW (B o.kind) c L o).rows, (order.ordDoW (B o.kind) c L o).code, (order.ordDoW (B o.kind) c L o).word, (order.ordDoW (B o.kind) c L o).res, (order.ordDoW (B o.kind) c L o).err⟩
  else if c.object == 3 then ⟨(rules.rulesDo c L o).rows, (rules.rulesDo c L o).code, (rules.rulesDo c L o).word, [], (rules.rulesDo c L o).err⟩
  else ⟨(paths.pathDo c L o).rows, (paths.pathDo c L o).code, (paths.pathDo c L o).word, [], (paths.pathDo c L o).err⟩
theorem md_obj {c : Cfg} (h : partOk c = true) : (c.object == 1) = true ∨ ((c.object == 1) = false ∧ (c.object == 2) = true) ∨ ((c.object == 1) = false ∧ (c.object == 2) = false ∧ (c.object == 3) = true) ∨
    ((c.object == 1) = false ∧ (c.object == 2) = false ∧ (c.object == 3) = false ∧ (c.object == 4) = true) := by
  simp only [partOk, Bool.and_eq_true, decide_eq_true_eq] at h
  simp only [beq_iff_eq, beq_eq_false_iff_ne, ne_eq]
  omega
theorem mdIs_no {c : Cfg} (h : partOk c = false) (L : List Rw) : mdIs c L = false := by
  unfold mdIs table.tabIs order.ordIs rules.rulesIs paths.pathIs
  simp [h]
theorem mdDo_no (B : Int → Bool) {c : Cfg} (h : partOk c = false) (L : List Rw) (o : Opn) : mdDo B c L o = ⟨[], 0, 0, [], 40⟩ := by
  unfold mdDo table.tabDo order.ordDoW rules.rulesDo paths.pathDo
  simp [h]
theorem mdDo_arg (B : Int → Bool) {c : Cfg} (hp : partOk c = true) {L : List Rw} (h : mdIs c L = false) (o : Opn) : mdDo B c L o = ⟨[], 0, 0, [], 2⟩ := by
  unfold mdIs at h
  unfold mdDo
  rcases md_obj hp with h1 | ⟨h1, h2⟩ | ⟨h1, h2, h3⟩ | ⟨h1, h2, h3, h4⟩
  · simp only [h1, if_true] at h ⊢
    rw [table.tabDo_arg o (by rw [hp, h1]; rfl) h]
  · simp only [h1, h2, if_true, Bool.false_eq_true, if_false] at h ⊢
    rw [order.ordDoW_arg _ o (by rw [hp, h2]; rfl) h]
  · simp only [h1, h2, h3, if_true, Bool.false_eq_true, if_false] at h ⊢
    rw [rules.rulesDo_arg o (by rw [hp, h3]; rfl) h]
  · simp only [h1, h2, h3, Bool.false_eq_true, if_false] at h ⊢
    rw [paths.pathDo_arg o (by rw [hp, h4]; rfl) h]
theorem mdDo_bad (B : Int → Bool) {c : Cfg} (hp : partOk c = true) {L : List Rw} (h : mdIs c L = true) {o : Opn} (he : (opErr c o == 0) = false) : mdDo B c L o = ⟨L, opErr c o, 0, [], 0⟩ := by
  unfold mdIs at h
  unfold mdDo
  rcases md_obj hp with h1 | ⟨h1, h2⟩ | ⟨h1, h2, h3⟩ | ⟨h1, h2, h3, h4⟩
  · simp only [h1, if_true] at h ⊢
    rw [table.tabDo_bad (by rw [hp, h1]; rfl) h he]
  · simp only [h1, h2, if_true, Bool.false_eq_true, if_false] at h ⊢
    rw [order.ordDoW_bad _ (by rw [hp, h2]; rfl) h he]
  · simp only [h1, h2, h3, if_true, Bool.false_eq_true, if_false] at h ⊢
    rw [rules.rulesDo_bad (by rw [hp, h3]; rfl) h he]
  · simp only [h1, h2, h3, Bool.false_eq_true, if_false] at h ⊢
    rw [paths.pathDo_bad (by rw [hp, h4]; rfl) h he]
theorem md_nil {c : Cfg} (hp : partOk c = true) : mdIs c [] = true := by
  have hcap : 0 ≤ c.cap := by
    have := partOk_cap hp
    omega
  unfold mdIs table.tabIs order.ordIs rules.rulesIs paths.pathIs
  rcases md_obj hp with h1 | ⟨h1, h2⟩ | ⟨h1, h2, h3⟩ | ⟨h1, h2, h3, h4⟩
  · simp [h1, hp, hcap, risesB]
  · simp [h1, h2, hp, hcap, risesB]
  · simp [h1, h2, h3, hp, hcap, risesB]
  · simp [h1, h2, h3, h4, hp, hcap, risesB]
/-- What an operation leaves of a state is a state. -/
theorem md_is (B : Int → Bool) {c : Cfg} (hp : partOk c = true) {L : List Rw} (hf : RwsFit L) {o : Opn} (ho : o.Fits) (h : mdIs c L = true) {M res : List Rw} {dc dw de : Int} (hz : mdDo B c L o = ⟨M, dc, dw, res, de⟩) : de = 0 ∧ mdIs c M = true ∧ RwsFit M := by
  unfold mdIs at h ⊢
  unfold mdDo at hz
  rcases md_obj hp with h1 | ⟨h1, h2⟩ | ⟨h1, h2, h3⟩ | ⟨h1, h2, h3, h4⟩
  · simp only [h1, if_true] at h hz ⊢
    obtain ⟨M', dc', dw', de', hd⟩ : ∃ M' dc' dw' de', table.tabDo c L o = ⟨M', dc', dw', de'⟩ := ⟨_, _, _, _, rfl⟩
    rw [hd] at hz
    cases hz
    have he : de' = 0 := Classical.byContradiction fun q => by
      have := (table.tab_err hd q).2.2
      rw [h] at this
      cases this
    subst he
    exact ⟨rfl, table.tab_is hf ho hd, table.tab_fit hf ho hd⟩
  · simp only [h1, h2, if_true, Bool.false_eq_true, if_false] at h hz ⊢
    have hp2 : (partOk c && (c.object == 2)) = true := by rw [hp, h2]; rfl
    cases he : (opErr c o == 0)
    · rw [order.ordDoW_bad _ hp2 h he] at hz
      cases hz
      exact ⟨rfl, h, hf⟩
    · rw [order.ordDoW_ok _ hp2 h he] at hz
      obtain ⟨M', dc', dw', res', de', hd⟩ : ∃ M' dc' dw' res' de', order.ordDoneW (B o.kind) c L o = ⟨M', dc', dw', res', de'⟩ := ⟨_, _, _, _, _, rfl⟩
      rw [hd] at hz
      cases hz
      obtain ⟨q1, q2, q3, _⟩ := order.ordW_done _ hf ho h he hd
      exact ⟨q1, q2, q3⟩
  · simp only [h1, h2, h3, if_true, Bool.false_eq_true, if_false] at h hz ⊢
    obtain ⟨M', dc', dw', de', hd⟩ : ∃ M' dc' dw' de', rules.rulesDo c L o = ⟨M', dc', dw', de'⟩ := ⟨_, _, _, _, rfl⟩
    rw [hd] at hz
    cases hz
    have he : de' = 0 := Classical.byContradiction fun q => by
      have := (rules.rul_err hd q).2
      rw [h] at this
      cases this
    subst he
    exact ⟨rfl, rules.rul_is hf ho hd, rules.rul_fit hf ho hd⟩
  · simp only [h1, h2, h3, Bool.false_eq_true, if_false] at h hz ⊢
    obtain ⟨M', dc', dw', hd⟩ := paths.path_no_err hf h o
    rw [hd] at hz
    cases hz
    exact ⟨rfl, (paths.path_is hf ho hd).1, (paths.path_is hf ho hd).2⟩
theorem md_len {c : Cfg} {L : List Rw} (hf : RwsFit L) (h : mdIs c L = true) : partOk c = true ∧ L.length ≤ 32 := by
  have hp : partOk c = true := by
    cases hq : partOk c
    · rw [mdIs_no hq] at h
      cases h
    · rfl
  have hcap := partOk_cap hp
  unfold mdIs at h
  rcases md_obj hp with h1 | ⟨h1, h2⟩ | ⟨h1, h2, h3⟩ | ⟨h1, h2, h3, h4⟩
  · simp only [h1, if_true] at h
    obtain ⟨_, _, h5, _⟩ := table.tabIs_ok hf h
    exact ⟨hp, by omega⟩
  · simp only [h1, h2, if_true, Bool.false_eq_true, if_false] at h
    obtain ⟨_, _, h5, _⟩ := order.ordIs_ok hf h
    exact ⟨hp, by omega⟩
  · simp only [h1, h2, h3, if_true, Bool.false_eq_true, if_false] at h
    obtain ⟨_, _, h5, _⟩ := rules.rulesIs_ok hf h
    exact ⟨hp, by omega⟩
  · simp only [h1, h2, h3, Bool.false_eq_true, if_false] at h
    obtain ⟨_, _, h5, _⟩ := paths.pathIs_ok hf h
    exact ⟨hp, by omega⟩
/-- What is not malformed never answers so. -/
theorem md_code (B : Int → Bool) {c : Cfg} (hp : partOk c = true) {L : List Rw} (hf : RwsFit L) {o : Opn} (ho : o.Fits) (h : mdIs c L = true) (he : (opErr c o == 0) = true) {M res : List Rw} {dc dw de : Int} (hz : mdDo B c L o = ⟨M, dc, dw, res, de⟩) : dc ≠ 50 ∧ dc ≠ 10 ∧ dc ≠ 40 := by
  unfold mdIs at h
  unfold mdDo at hz
  rcases md_obj hp with h1 | ⟨h1, h2⟩ | ⟨h1, h2, h3⟩ | ⟨h1, h2, h3, h4⟩
  · simp only [h1, if_true] at h hz
    rw [table.tabDo_ok (by rw [hp, h1]; rfl) h he] at hz
    have : (table.tabDone c L o).code = dc := by rw [MOut.mk.injEq] at hz; exact hz.2.1
    rw [← this]
    unfold table.tabDone
    repeat' split
    all_goals simp
  · simp only [h1, h2, if_true, Bool.false_eq_true, if_false] at h hz
    rw [order.ordDoW_ok _ (by rw [hp, h2]; rfl) h he] at hz
    obtain ⟨M', dc', dw', res', de', hd⟩ : ∃ M' dc' dw' res' de', order.ordDoneW (B o.kind) c L o = ⟨M', dc', dw', res', de'⟩ := ⟨_, _, _, _, _, rfl⟩
    rw [hd] at hz
    dsimp only at hz
    cases hz
    obtain ⟨_, _, _, q⟩ := order.ordW_done _ hf ho h he hd
    omega
  · simp only [h1, h2, h3, if_true, Bool.false_eq_true, if_false] at h hz
    rw [rules.rulesDo_ok (by rw [hp, h3]; rfl) h he] at hz
    have : (rules.rulesDone c L o).code = dc := by rw [MOut.mk.injEq] at hz; exact hz.2.1
    rw [← this]
    unfold rules.rulesDone
    repeat' split
    all_goals simp
  · simp only [h1, h2, h3, Bool.false_eq_true, if_false] at h hz
    rw [paths.pathDo_ok (by rw [hp, h4]; rfl) h he] at hz
    have : (paths.pathDone c L o).code = dc := by rw [MOut.mk.injEq] at hz; exact hz.2.1
    rw [← this]
    unfold paths.pathDone
    repeat' split
    all_goals simp

/-- One answer. -/
structure ARes where
  code : Int
  word : Int
  rows : List Rw
/-- What operations leave, and answer. -/
def mdFold (B : Int → Bool) (c : Cfg) : List Opn → List Rw → List Rw × List ARes
  | [], L => (L, [])
  | o :: A, L => ((mdFold B c A (mdDo B c L o).rows).1, ⟨(mdDo B c L o).code, (mdDo B c L o).word, (mdDo B c L o).res⟩ :: (mdFold B c A (mdDo B c L o).rows).2)
theorem fold_snoc (B : Int → Bool) (c : Cfg) (A : List Opn) (o : Opn) : ∀ L, mdFold B c (A ++ [o]) L = ((mdDo B c (mdFold B c A L).1 o).rows, (mdFold B c A L).2 ++ [⟨(mdDo B c (mdFold B c A L).1 o).code, (mdDo B c (mdFold B c A L).1 o).word, (mdDo B c (mdFold B c A L).1 o).res⟩]) := by
  induction A with
  | nil => intro L; rfl
  | cons x A ih =>
    intro L
    rw [List.cons_append]
    show ((mdFold B c (A ++ [o]) _).1, _ :: (mdFold B c (A ++ [o]) _).2) = _
    rw [ih]
    rfl
theorem fold_len (B : Int → Bool) (c : Cfg) (A : List Opn) : ∀ L, (mdFold B c A L).2.length = A.length := by
  induction A with
  | nil => intro L; rfl
  | cons x A ih =>
    intro L
    show (_ :: (mdFold B c A _).2).length = _
    rw [List.length_cons, ih, List.length_cons]
theorem fold_is (B : Int → Bool) {c : Cfg} (hp : partOk c = true) (A : List Opn) (hA : OpsFit A) : ∀ {L : List Rw}, RwsFit L → mdIs c L = true → mdIs c (mdFold B c A L).1 = true ∧ RwsFit (mdFold B c A L).1 := by
  induction A with
  | nil => exact fun hf h => ⟨h, hf⟩
  | cons x A ih =>
    intro L hf h
    obtain ⟨_, h2, h3⟩ := md_is B hp hf (hA x (List.mem_cons_self ..)) h rfl
    exact ih (fun y hy => hA y (List.mem_cons_of_mem _ hy)) h3 h2
end Go.Proofs.YtknfikdignpniaaDoor
/- The walks of the layer 'model': 'of', the four objects' 'do'. -/
namespace Go.Proofs.YtknfikdignpniaaDoor
open Go Go.RowKit
set_option maxRecDepth 100000
set_option maxHeartbeats 8000000

abbrev resM (code word : Int) (rs : Value) : Value := .agg #[.int .i64 code, .int .u32 word, rs]
theorem of_1 (c : Cfg) (h : (c.object == 1) = true) (w : World) : Calls Tryd.prog 12 #[c.v] w fun e w' => e = .returned (.iface 55 (.agg #[])) ∧ Ext w w' := by
  go_enter Tryd.func12, Tryd.ntmps12
  go_wp2
  go_ret
  exact ⟨rfl, EX⟩
theorem of_2 (c : Cfg) (h1 : (c.object == 1) = false) (h : (c.object == 2) = true) (w : World) : Calls Tryd.prog 12 #[c.v] w fun e w' => e = .returned (.iface 56 (.agg #[])) ∧ Ext w w' := by
  go_enter Tryd.func12, Tryd.ntmps12
  go_wp2
  go_ret
  exact ⟨rfl, EX⟩
theorem of_3 (c : Cfg) (h1 : (c.object == 1) = false) (h2 : (c.object == 2) = false) (h : (c.object == 3) = true) (w : World) : Calls Tryd.prog 12 #[c.v] w fun e w' => e = .returned (.iface 57 (.agg #[])) ∧ Ext w w' := by
  go_enter Tryd.func12, Tryd.ntmps12
  go_wp2
  go_ret
  exact ⟨rfl, EX⟩
theorem of_4 (c : Cfg) (h1 : (c.object == 1) = false) (h2 : (c.object == 2) = false) (h3 : (c.object == 3) = false) (w : World) : Calls Tryd.prog 12 #[c.v] w fun e w' => e = .returned (.iface 58 (.agg #[])) ∧ Ext w w' := by
  go_enter Tryd.func12, Tryd.ntmps12
  go_wp2
  go_ret
  exact ⟨rfl, EX⟩

/-- What an object's 'do' answers. -/
def DoM (w : World) (o2 : Bool) (M : List Rw) (dc dw : Int) (res : List Rw) (de : Int) (e : Ending) (w' : World) : Prop := ∃ r ad cap, e = .returned (.tuple #[r, resM dc dw (.slice ad res.length cap), .int .i64 de]) ∧
  Hid (w'.ownsRow w.heap.size 44 2 r M.length (rwCells M)) ∧ Hid (w'.ownsRow w.heap.size 44 2 (.slice ad res.length cap) res.length (rwCells res)) ∧ Hid (o2 = false → ad = none ∧ cap = 0 ∧ res = []) ∧ Ext w w'
theorem m1_any (B : Int → Bool) (c : Cfg) (v : Value) (L : List Rw) (hf : RwsFit L) (o : Opn) (ho : o.Fits) (w : World) (ht : Tab w) (hv : Rws w v L) (hn : L.length ≤ 900) (h1 : (c.object == 1) = true)
    {M res : List Rw} {dc dw de : Int} (hz : mdDo B c L o = ⟨M, dc, dw, res, de⟩) : Calls Tryd.prog 34 #[.agg #[], c.v, v, o.v] w (DoM w (c.object == 2) M dc dw res de) := by
  unfold mdDo at hz
  rw [if_pos h1] at hz
  obtain ⟨M', dc', dw', de', hd⟩ : ∃ M' dc' dw' de', table.tabDo c L o = ⟨M', dc', dw', de'⟩ := ⟨_, _, _, _, rfl⟩
  rw [hd] at hz
  cases hz
  have HD := Lib.hid hd
  have HF := Lib.hid hf
  have HO := Lib.hid ho
  have HT := Lib.hid ht
  have HV := Lib.hid hv
  clear hd hf ho ht hv
  go_enter Tryd.func34, Tryd.ntmps34
  go_wp2_with (go_at_call 36; (with_reducible refine (table.do_own c _ L HF.out o HO.out _ (Tab.ext HT.out EXY) (HV.out.ext EXY) (by omega) HD.out).mono ?_); rintro e w1 ⟨r, rfl, HA, os1, n1, rfl⟩)
  refine bodyPost_ret (v := .tuple #[r, resM dc' dw' (.slice none 0 0), .int .i64 de']) (by simp [results, Tryd.results34, go_sem]) rfl ?_
  have ha := HA.out
  (try simp only [drew_grew, grew_grew] at ha)
  refine ⟨r, none, 0, rfl, Lib.hid (own_low (own_swap (by first | (simp [go_sem]; done) | (simp [go_sem]; omega) | omega) ha (by first | (simp [go_sem]; done) | (simp [go_sem]; omega) | omega)) (by first | (simp [go_sem]; done) | (simp [go_sem]; omega) | omega)), Lib.hid (World.ownsRow_nil _ _ _ _), Lib.hid (fun _ => ⟨rfl, rfl, rfl⟩), EXY⟩
theorem m3_any (B : Int → Bool) (c : Cfg) (v : Value) (L : List Rw) (hf : RwsFit L) (o : Opn) (ho : o.Fits) (w : World) (ht : Tab w) (hv : Rws w v L) (hn : L.length ≤ 900) (h1 : (c.object == 1) = false) (h2 : (c.object == 2) = false) (h3 : (c.object == 3) = true)
    {M res : List Rw} {dc dw de : Int} (hz : mdDo B c L o = ⟨M, dc, dw, res, de⟩) : Calls Tryd.prog 66 #[.agg #[], c.v, v, o.v] w (DoM w (c.object == 2) M dc dw res de) := by
  unfold mdDo at hz
  rw [h1, h2, if_neg (by simp), if_neg (by simp), if_pos h3] at hz
  obtain ⟨M', dc', dw', de', hd⟩ : ∃ M' dc' dw' de', rules.rulesDo c L o = ⟨M', dc', dw', de'⟩ := ⟨_, _, _, _, rfl⟩
  rw [hd] at hz
  cases hz
  have HD := Lib.hid hd
  have HF := Lib.hid hf
  have HO := Lib.hid ho
  have HT := Lib.hid ht
  have HV := Lib.hid hv
  have key : ∀ W, Tab W → Rws W v L → Calls Tryd.prog 68 #[c.v, v, o.v] W fun e w' => ∃ r, e = .returned (.tuple #[r, resM dc' dw' (.slice none 0 0), .int .i64 de']) ∧ Hid (w'.ownsRow W.heap.size 44 2 r M'.length (rwCells M')) ∧ Ext W w' := fun W hT hV => by
    refine (rules.do_any c v L HF.out o HO.out W hT hV (by omega)).mono fun e w' h => ?_
    rw [HD.out] at h
    obtain ⟨r, rfl, h1, h2⟩ := h
    exact ⟨r, rfl, Lib.hid h1, h2⟩
  have HK := Lib.hid key
  clear hd hf ho ht hv key
  go_enter Tryd.func66, Tryd.ntmps66
  go_wp2_with (go_at_call 68; (with_reducible refine (HK.out _ (Tab.ext HT.out EXY) (HV.out.ext EXY)).mono ?_); rintro e w1 ⟨r, rfl, HA, os1, n1, rfl⟩)
  refine bodyPost_ret (v := .tuple #[r, resM dc' dw' (.slice none 0 0), .int .i64 de']) (by simp [results, Tryd.results66, go_sem]) rfl ?_
  have ha := HA.out
  (try simp only [drew_grew, grew_grew] at ha)
  refine ⟨r, none, 0, rfl, Lib.hid (own_low (own_swap (by first | (simp [go_sem]; done) | (simp [go_sem]; omega) | omega) ha (by first | (simp [go_sem]; done) | (simp [go_sem]; omega) | omega)) (by first | (simp [go_sem]; done) | (simp [go_sem]; omega) | omega)), Lib.hid (World.ownsRow_nil _ _ _ _), Lib.hid (fun _ => ⟨rfl, rfl, rfl⟩), EXY⟩
theorem m4_any (B : Int → Bool) (c : Cfg) (v : Value) (L : List Rw) (hf : RwsFit L) (o : Opn) (ho : o.Fits) (w : World) (ht : Tab w) (hv : Rws w v L) (hn : L.length ≤ 900) (h1 : (c.object == 1) = false) (h2 : (c.object == 2) = false) (h3 : (c.object == 3) = false)
    {M res : List Rw} {dc dw de : Int} (hz : mdDo B c L o = ⟨M, dc, dw, res, de⟩) : Calls Tryd.prog 78 #[.agg #[], c.v, v, o.v] w (DoM w (c.object == 2) M dc dw res de) := by
  unfold mdDo at hz
  rw [h1, h2, h3, if_neg (by simp), if_neg (by simp), if_neg (by simp)] at hz
  obtain ⟨M', dc', dw', de', hd⟩ : ∃ M' dc' dw' de', paths.pathDo c L o = ⟨M', dc', dw', de'⟩ := ⟨_, _, _, _, rfl⟩
  rw [hd] at hz
  cases hz
  have HD := Lib.hid hd
  have HF := Lib.hid hf
  have HO := Lib.hid ho
  have HT := Lib.hid ht
  have HV := Lib.hid hv
  have key : ∀ W, Tab W → Rws W v L → Calls Tryd.prog 80 #[c.v, v, o.v] W fun e w' => ∃ r, e = .returned (.tuple #[r, resM dc' dw' (.slice none 0 0), .int .i64 de']) ∧ Hid (w'.ownsRow W.heap.size 44 2 r M'.length (rwCells M')) ∧ Ext W w' := fun W hT hV => by
    refine (paths.do_any c v L HF.out o HO.out W hT hV (by omega)).mono fun e w' h => ?_
    rw [HD.out] at h
    obtain ⟨r, rfl, h1, h2⟩ := h
    exact ⟨r, rfl, Lib.hid h1, h2⟩
  have HK := Lib.hid key
  clear hd hf ho ht hv key
  go_enter Tryd.func78, Tryd.ntmps78
  go_wp2_with (go_at_call 80; (with_reducible refine (HK.out _ (Tab.ext HT.out EXY) (HV.out.ext EXY)).mono ?_); rintro e w1 ⟨r, rfl, HA, os1, n1, rfl⟩)
  refine bodyPost_ret (v := .tuple #[r, resM dc' dw' (.slice none 0 0), .int .i64 de']) (by simp [results, Tryd.results78, go_sem]) rfl ?_
  have ha := HA.out
  (try simp only [drew_grew, grew_grew] at ha)
  refine ⟨r, none, 0, rfl, Lib.hid (own_low (own_swap (by first | (simp [go_sem]; done) | (simp [go_sem]; omega) | omega) ha (by first | (simp [go_sem]; done) | (simp [go_sem]; omega) | omega)) (by first | (simp [go_sem]; done) | (simp [go_sem]; omega) | omega)), Lib.hid (World.ownsRow_nil _ _ _ _), Lib.hid (fun _ => ⟨rfl, rfl, rfl⟩), EXY⟩
theorem m2_any (B : Int → Bool) (c : Cfg) (v : Value) (L : List Rw) (hf : RwsFit L) (o : Opn) (ho : o.Fits) (w : World) (ht : Tab w) (hw : 1 ≤ o.kind → o.kind ≤ 14 → order.WrAt w o.kind (B o.kind)) (hv : Rws w v L) (hn : L.length ≤ 900) (h1 : (c.object == 1) = false) (h2 : (c.object == 2) = true)
    {M res : List Rw} {dc dw de : Int} (hz : mdDo B c L o = ⟨M, dc, dw, res, de⟩) : Calls Tryd.prog 54 #[.agg #[], c.v, v, o.v] w (DoM w (c.object == 2) M dc dw res de) := by
  unfold mdDo at hz
  rw [h1, if_neg (by simp), if_pos h2] at hz
  obtain ⟨M', dc', dw', res', de', hd⟩ : ∃ M' dc' dw' res' de', order.ordDoW (B o.kind) c L o = ⟨M', dc', dw', res', de'⟩ := ⟨_, _, _, _, _, rfl⟩
  rw [hd] at hz
  cases hz
  have HD := Lib.hid hd
  have HF := Lib.hid hf
  have HO := Lib.hid ho
  have HT := Lib.hid ht
  have HV := Lib.hid hv
  have HW := Lib.hid hw
  clear hd hf ho ht hv hw
  go_enter Tryd.func54, Tryd.ntmps54
  go_wp2_with (go_at_call 56; (with_reducible refine (order.do_own c _ L HF.out o HO.out _ (Tab.ext HT.out EXY) (B o.kind) (fun q1 q2 => (HW.out q1 q2).ext EXY) (HV.out.ext EXY) (by omega) HD.out).mono ?_); rintro e w1 ⟨r, ad, cap, rfl, HA, HQ, _, os1, n1, rfl⟩)
  refine bodyPost_ret (v := .tuple #[r, resM dc' dw' (.slice ad res'.length cap), .int .i64 de']) (by simp [results, Tryd.results54, go_sem]) rfl ?_
  have ha := HA.out
  have hq := HQ.out
  (try simp only [drew_grew, grew_grew] at ha)
  (try simp only [drew_grew, grew_grew] at hq)
  refine ⟨r, ad, cap, rfl, Lib.hid (own_low (own_swap (by first | (simp [go_sem]; done) | (simp [go_sem]; omega) | omega) ha (by first | (simp [go_sem]; done) | (simp [go_sem]; omega) | omega)) (by first | (simp [go_sem]; done) | (simp [go_sem]; omega) | omega)), Lib.hid (own_low (own_swap (by first | (simp [go_sem]; done) | (simp [go_sem]; omega) | omega) hq (by first | (simp [go_sem]; done) | (simp [go_sem]; omega) | omega)) (by first | (simp [go_sem]; done) | (simp [go_sem]; omega) | omega)), Lib.hid (fun q => by rw [h2] at q; cases q), EXY⟩
end Go.Proofs.YtknfikdignpniaaDoor
