/- The walk of 'rules.Do': refused, or read alone. -/
import Derived.Test.YtaijkpfgnlkppaaDoorRulR4
import Derived.Test.YtaijkpfgnlkppaaDoorIsP
import Derived.Test.YtaijkpfgnlkppaaDoorSx
import Derived.Test.YtaijkpfgnlkppaaDoorPos
import Derived.Test.YtaijkpfgnlkppaaDoorDel
namespace Go.Proofs.YtaijkpfgnlkppaaDoor.rules
open Go Go.RowKit

theorem own_fin {B B' : World} (hs : B'.heap.size = B.heap.size) {os os2 : Array Obj} {d d' base : Nat} {e : TypeId} {size n : Nat} {v : Value} {xs : List Value} (h : (grew B os d).ownsRow base e size v n xs) (hb : B.heap.size ≤ base) : (grew B' (both os os2) d').ownsRow base e size v n xs := by
  rw [← grew_grew B' os os2 d d']
  exact own_ext (own_swap hs h hb) ⟨os2, d', rfl⟩
theorem own_fin2 {B B' : World} (hs : B'.heap.size = B.heap.size) {os p1 p2 : Array Obj} {d d' base : Nat} {e : TypeId} {size n : Nat} {v : Value} {xs : List Value} (h : (grew B os d).ownsRow base e size v n xs) (hb : B.heap.size ≤ base) : (grew B' (both (both os p1) p2) d').ownsRow base e size v n xs :=
  own_fin (B := B') rfl (own_fin (d' := d') hs h hb) (by rw [hs]; exact hb)
theorem own_fin3 {B B' : World} (hs : B'.heap.size = B.heap.size) {os p1 p2 p3 : Array Obj} {d d' base : Nat} {e : TypeId} {size n : Nat} {v : Value} {xs : List Value} (h : (grew B os d).ownsRow base e size v n xs) (hb : B.heap.size ≤ base) : (grew B' (both (both (both os p1) p2) p3) d').ownsRow base e size v n xs :=
  own_fin (B := B') rfl (own_fin2 (d' := d') hs h hb) (by rw [hs]; exact hb)
theorem own_fin4 {B B' : World} (hs : B'.heap.size = B.heap.size) {os p1 p2 p3 p4 : Array Obj} {d d' base : Nat} {e : TypeId} {size n : Nat} {v : Value} {xs : List Value} (h : (grew B os d).ownsRow base e size v n xs) (hb : B.heap.size ≤ base) : (grew B' (both (both (both (both os p1) p2) p3) p4) d').ownsRow base e size v n xs :=
  own_fin (B := B') rfl (own_fin3 (d' := d') hs h hb) (by rw [hs]; exact hb)
theorem own_fin5 {B B' : World} (hs : B'.heap.size = B.heap.size) {os p1 p2 p3 p4 p5 : Array Obj} {d d' base : Nat} {e : TypeId} {size n : Nat} {v : Value} {xs : List Value} (h : (grew B os d).ownsRow base e size v n xs) (hb : B.heap.size ≤ base) : (grew B' (both (both (both (both (both os p1) p2) p3) p4) p5) d').ownsRow base e size v n xs :=
  own_fin (B := B') rfl (own_fin4 (d' := d') hs h hb) (by rw [hs]; exact hb)
set_option maxRecDepth 100000 in
set_option maxHeartbeats 8000000 in
theorem do_no (c : Cfg) (v : Value) (L : List Rw) (hf : RwsFit L) (o : Opn) (w : World) (hv : Rws w v L) (h : rulesIs c L = false) :
    Calls Tryd.prog 19 #[c.v, v, o.v] w (DoP w (rulesDo c L o)) := by
  obtain ⟨Z, hZ⟩ : ∃ Z, Z = rulesDo c L o := ⟨_, rfl⟩
  rw [← hZ]
  have HV := Lib.hid hv
  have HF := Lib.hid hf
  clear hv hf
  cases hp : (partOk c && (c.object == 3))
  · have HC := Lib.hid hp
    have HZ := Lib.hid (hZ.trans (rulesDo_conf L o hp))
    clear hp hZ h
    go_enter Tryd.func19, Tryd.ntmps19
    go_wp2_with (go_at_call 32; refine (of_any c _).mono ?_; rintro e w1 ⟨rfl, os1, n1, rfl⟩; rw [HC.out])
    go_region
    all_goals go_wp2
    all_goals refine bodyPost_ret (v := .tuple #[.slice none 0 0, resV 0 0, .int .i64 40]) (by simp [results, Tryd.results19, go_sem]) rfl ?_
    all_goals exact do_p HZ.out (World.ownsRow_nil _ _ _ _) (by first | ((repeat (first | with_reducible exact Ext.refl _ | with_reducible assumption | with_reducible refine Ext.alloc ?_ _ | with_reducible refine Ext.gr ?_ _ | with_reducible refine Ext.drewN ?_ _ | with_reducible refine Ext.drew ?_ | with_reducible refine Ext.setCell ?_ ?_ _ | with_reducible refine Ext.more ?_ _ _ | (show _ ≤ _; dsimp only; omega))); done) | ((repeat (first | with_reducible exact Ext.refl _ | with_reducible assumption | with_reducible apply Ext.bothR | with_reducible refine Ext.alloc ?_ _ | with_reducible refine Ext.gr ?_ _ | with_reducible refine Ext.drewN ?_ _ | with_reducible refine Ext.drew ?_ | with_reducible refine Ext.setCell ?_ ?_ _ | with_reducible refine Ext.more ?_ _ _ | (show _ ≤ _; dsimp only; omega))); done))
  · have HC := Lib.hid hp
    have HI := Lib.hid h
    have HZ := Lib.hid (hZ.trans (rulesDo_arg o hp h))
    clear hp hZ h
    go_enter Tryd.func19, Tryd.ntmps19
    go_wp2_with (first | (go_at_call 32; refine (of_any c _).mono ?_; rintro e w1 ⟨rfl, os1, n1, rfl⟩; rw [HC.out]) | (go_at_call 18; refine (is_any c _ L HF.out _ (HV.out.sl.ext (by first | ((repeat (first | with_reducible exact Ext.refl _ | with_reducible assumption | with_reducible refine Ext.alloc ?_ _ | with_reducible refine Ext.gr ?_ _ | with_reducible refine Ext.drewN ?_ _ | with_reducible refine Ext.drew ?_ | with_reducible refine Ext.setCell ?_ ?_ _ | with_reducible refine Ext.more ?_ _ _ | (show _ ≤ _; dsimp only; omega))); done) | ((repeat (first | with_reducible exact Ext.refl _ | with_reducible assumption | with_reducible apply Ext.bothR | with_reducible refine Ext.alloc ?_ _ | with_reducible refine Ext.gr ?_ _ | with_reducible refine Ext.drewN ?_ _ | with_reducible refine Ext.drew ?_ | with_reducible refine Ext.setCell ?_ ?_ _ | with_reducible refine Ext.more ?_ _ _ | (show _ ≤ _; dsimp only; omega))); done)))).mono ?_; rintro e w2 ⟨rfl, os2, n2, rfl⟩; rw [HI.out]))
    go_region
    all_goals go_wp2
    all_goals refine bodyPost_ret (v := .tuple #[.slice none 0 0, resV 0 0, .int .i64 2]) (by simp [results, Tryd.results19, go_sem]) rfl ?_
    all_goals exact do_p HZ.out (World.ownsRow_nil _ _ _ _) (by first | ((repeat (first | with_reducible exact Ext.refl _ | with_reducible assumption | with_reducible refine Ext.alloc ?_ _ | with_reducible refine Ext.gr ?_ _ | with_reducible refine Ext.drewN ?_ _ | with_reducible refine Ext.drew ?_ | with_reducible refine Ext.setCell ?_ ?_ _ | with_reducible refine Ext.more ?_ _ _ | (show _ ≤ _; dsimp only; omega))); done) | ((repeat (first | with_reducible exact Ext.refl _ | with_reducible assumption | with_reducible apply Ext.bothR | with_reducible refine Ext.alloc ?_ _ | with_reducible refine Ext.gr ?_ _ | with_reducible refine Ext.drewN ?_ _ | with_reducible refine Ext.drew ?_ | with_reducible refine Ext.setCell ?_ ?_ _ | with_reducible refine Ext.more ?_ _ _ | (show _ ≤ _; dsimp only; omega))); done))

set_option maxRecDepth 100000 in
set_option maxHeartbeats 8000000 in
theorem do_read (c : Cfg) (v : Value) (L : List Rw) (hf : RwsFit L) (o : Opn) (ho : o.Fits) (w : World) (ht : Tab w) (hv : Rws w v L) (hn : L.length ≤ 1000) (h : rulesIs c L = true) (hk : (opErr c o == 0) = false ∨ o.kind = 11) :
    Calls Tryd.prog 19 #[c.v, v, o.v] w (DoP w (rulesDo c L o)) := by
  obtain ⟨Z, hZ⟩ : ∃ Z, Z = rulesDo c L o := ⟨_, rfl⟩
  rw [← hZ]
  have HV := Lib.hid hv
  have HF := Lib.hid hf
  have HO := Lib.hid ho
  have HT := Lib.hid ht
  obtain ⟨hp, hc, _, hrs, hok⟩ := rulesIs_ok hf h
  have hp2 : (partOk c && (c.object == 3)) = true := by rw [hp, hc]; rfl
  have HC := Lib.hid hp2
  have HI := Lib.hid h
  cases h3 : (opErr c o == 0)
  · have HZ := Lib.hid (hZ.trans (rulesDo_bad hp2 h h3))
    obtain ⟨E, hE⟩ : ∃ E, opErr c o = E := ⟨_, rfl⟩
    have hE2 : (E != 0) = true := by rw [← hE]; simpa [bne] using h3
    have HE := Lib.hid hE
    rw [hE] at HZ
    clear hv hf ho ht hp hc hrs hok hp2 h hk h3 hZ hE
    go_enter Tryd.func19, Tryd.ntmps19
    go_wp2_with (first | (go_at_call 32; refine (of_any c _).mono ?_; rintro e w1 ⟨rfl, os1, n1, rfl⟩; rw [HC.out]) | (go_at_call 18; refine (is_any c _ L HF.out _ (HV.out.sl.ext (by first | ((repeat (first | with_reducible exact Ext.refl _ | with_reducible assumption | with_reducible refine Ext.alloc ?_ _ | with_reducible refine Ext.gr ?_ _ | with_reducible refine Ext.drewN ?_ _ | with_reducible refine Ext.drew ?_ | with_reducible refine Ext.setCell ?_ ?_ _ | with_reducible refine Ext.more ?_ _ _ | (show _ ≤ _; dsimp only; omega))); done) | ((repeat (first | with_reducible exact Ext.refl _ | with_reducible assumption | with_reducible apply Ext.bothR | with_reducible refine Ext.alloc ?_ _ | with_reducible refine Ext.gr ?_ _ | with_reducible refine Ext.drewN ?_ _ | with_reducible refine Ext.drew ?_ | with_reducible refine Ext.setCell ?_ ?_ _ | with_reducible refine Ext.more ?_ _ _ | (show _ ≤ _; dsimp only; omega))); done)))).mono ?_; rintro e w2 ⟨rfl, os2, n2, rfl⟩; rw [HI.out]) | (go_at_call 33; refine (clone_any _ L (by omega) _ (HV.out.ext (by first | ((repeat (first | with_reducible exact Ext.refl _ | with_reducible assumption | with_reducible refine Ext.alloc ?_ _ | with_reducible refine Ext.gr ?_ _ | with_reducible refine Ext.drewN ?_ _ | with_reducible refine Ext.drew ?_ | with_reducible refine Ext.setCell ?_ ?_ _ | with_reducible refine Ext.more ?_ _ _ | (show _ ≤ _; dsimp only; omega))); done) | ((repeat (first | with_reducible exact Ext.refl _ | with_reducible assumption | with_reducible apply Ext.bothR | with_reducible refine Ext.alloc ?_ _ | with_reducible refine Ext.gr ?_ _ | with_reducible refine Ext.drewN ?_ _ | with_reducible refine Ext.drew ?_ | with_reducible refine Ext.setCell ?_ ?_ _ | with_reducible refine Ext.more ?_ _ _ | (show _ ≤ _; dsimp only; omega))); done)))).mono ?_; rintro e w3 ⟨r, rfl, HO3, os3, n3, rfl⟩; have ho3 := own_low (lo := w.heap.size + 3) HO3 (by first | (simp [go_sem]; done) | (simp [go_sem]; omega)); simp only [grew_grew] at ho3; have HOW := Lib.hid ho3; clear HO3 ho3) | (go_at_call 34; refine (opCheck_any c o HO.out _ (Tab.ext HT.out (by first | ((repeat (first | with_reducible exact Ext.refl _ | with_reducible assumption | with_reducible refine Ext.alloc ?_ _ | with_reducible refine Ext.gr ?_ _ | with_reducible refine Ext.drewN ?_ _ | with_reducible refine Ext.drew ?_ | with_reducible refine Ext.setCell ?_ ?_ _ | with_reducible refine Ext.more ?_ _ _ | (show _ ≤ _; dsimp only; omega))); done) | ((repeat (first | with_reducible exact Ext.refl _ | with_reducible assumption | with_reducible apply Ext.bothR | with_reducible refine Ext.alloc ?_ _ | with_reducible refine Ext.gr ?_ _ | with_reducible refine Ext.drewN ?_ _ | with_reducible refine Ext.drew ?_ | with_reducible refine Ext.setCell ?_ ?_ _ | with_reducible refine Ext.more ?_ _ _ | (show _ ≤ _; dsimp only; omega))); done)))).mono ?_; rintro e w4 ⟨rfl, os4, n4, rfl⟩; rw [HE.out]))
    all_goals refine bodyPost_ret (v := .tuple #[r, resV E 0, .int .i64 0]) (by simp [results, Tryd.results19, go_sem]) rfl ?_
    all_goals exact do_p HZ.out (own_low (own_fin (by simp [go_sem]) HOW.out (by first | (simp [go_sem]; done) | (simp [go_sem]; omega))) (by omega)) (by first | ((repeat (first | with_reducible exact Ext.refl _ | with_reducible assumption | with_reducible refine Ext.alloc ?_ _ | with_reducible refine Ext.gr ?_ _ | with_reducible refine Ext.drewN ?_ _ | with_reducible refine Ext.drew ?_ | with_reducible refine Ext.setCell ?_ ?_ _ | with_reducible refine Ext.more ?_ _ _ | (show _ ≤ _; dsimp only; omega))); done) | ((repeat (first | with_reducible exact Ext.refl _ | with_reducible assumption | with_reducible apply Ext.bothR | with_reducible refine Ext.alloc ?_ _ | with_reducible refine Ext.gr ?_ _ | with_reducible refine Ext.drewN ?_ _ | with_reducible refine Ext.drew ?_ | with_reducible refine Ext.setCell ?_ ?_ _ | with_reducible refine Ext.more ?_ _ _ | (show _ ≤ _; dsimp only; omega))); done))
  · have hk11 : o.kind = 11 := by rcases hk with hk | hk; · rw [hk] at h3; cases h3
                                  · exact hk
    have HE : Hid (opErr c o = 0) := Lib.hid (by simpa using h3)
    obtain ⟨_, _, hft⟩ := rules_kind hc h3
    obtain ⟨ha, hb⟩ := fits_check hft hk11
    have HWA : Hid (0 ≤ o.a ∧ o.a ≤ 65535) := Lib.hid (by omega)
    have HWB : Hid (0 ≤ o.b ∧ o.b ≤ 65535) := Lib.hid (by omega)
    have HOK := Lib.hid hok
    have HRS := Lib.hid hrs
    obtain ⟨s, hs⟩ : ∃ s, rulesSay L o.a o.b = s := ⟨_, rfl⟩
    have HS := Lib.hid hs
    have h11 : (o.kind == 11) = true := by simpa using hk11
    have HZ : Hid (Z = ⟨L, 0, s, 0⟩) := Lib.hid (by rw [hZ, rulesDo_ok hp2 h h3, rulesDone, h11, ← hs]; rfl)
    clear hv hf ho ht hp hc hrs hok hp2 h hk h3 hZ hk11 hft ha hb hs
    go_enter Tryd.func19, Tryd.ntmps19
    go_wp2_with (first | (go_at_call 32; refine (of_any c _).mono ?_; rintro e w1 ⟨rfl, os1, n1, rfl⟩; rw [HC.out]) | (go_at_call 18; refine (is_any c _ L HF.out _ (HV.out.sl.ext (by first | ((repeat (first | with_reducible exact Ext.refl _ | with_reducible assumption | with_reducible refine Ext.alloc ?_ _ | with_reducible refine Ext.gr ?_ _ | with_reducible refine Ext.drewN ?_ _ | with_reducible refine Ext.drew ?_ | with_reducible refine Ext.setCell ?_ ?_ _ | with_reducible refine Ext.more ?_ _ _ | (show _ ≤ _; dsimp only; omega))); done) | ((repeat (first | with_reducible exact Ext.refl _ | with_reducible assumption | with_reducible apply Ext.bothR | with_reducible refine Ext.alloc ?_ _ | with_reducible refine Ext.gr ?_ _ | with_reducible refine Ext.drewN ?_ _ | with_reducible refine Ext.drew ?_ | with_reducible refine Ext.setCell ?_ ?_ _ | with_reducible refine Ext.more ?_ _ _ | (show _ ≤ _; dsimp only; omega))); done)))).mono ?_; rintro e w2 ⟨rfl, os2, n2, rfl⟩; rw [HI.out]) | (go_at_call 33; refine (clone_any _ L (by omega) _ (HV.out.ext (by first | ((repeat (first | with_reducible exact Ext.refl _ | with_reducible assumption | with_reducible refine Ext.alloc ?_ _ | with_reducible refine Ext.gr ?_ _ | with_reducible refine Ext.drewN ?_ _ | with_reducible refine Ext.drew ?_ | with_reducible refine Ext.setCell ?_ ?_ _ | with_reducible refine Ext.more ?_ _ _ | (show _ ≤ _; dsimp only; omega))); done) | ((repeat (first | with_reducible exact Ext.refl _ | with_reducible assumption | with_reducible apply Ext.bothR | with_reducible refine Ext.alloc ?_ _ | with_reducible refine Ext.gr ?_ _ | with_reducible refine Ext.drewN ?_ _ | with_reducible refine Ext.drew ?_ | with_reducible refine Ext.setCell ?_ ?_ _ | with_reducible refine Ext.more ?_ _ _ | (show _ ≤ _; dsimp only; omega))); done)))).mono ?_; rintro e w3 ⟨r, rfl, HO3, os3, n3, rfl⟩; have ho3 := own_low (lo := w.heap.size + 3) HO3 (by first | (simp [go_sem]; done) | (simp [go_sem]; omega)); simp only [grew_grew] at ho3; have HOW := Lib.hid ho3; clear HO3 ho3) | (go_at_call 34; refine (opCheck_any c o HO.out _ (Tab.ext HT.out (by first | ((repeat (first | with_reducible exact Ext.refl _ | with_reducible assumption | with_reducible refine Ext.alloc ?_ _ | with_reducible refine Ext.gr ?_ _ | with_reducible refine Ext.drewN ?_ _ | with_reducible refine Ext.drew ?_ | with_reducible refine Ext.setCell ?_ ?_ _ | with_reducible refine Ext.more ?_ _ _ | (show _ ≤ _; dsimp only; omega))); done) | ((repeat (first | with_reducible exact Ext.refl _ | with_reducible assumption | with_reducible apply Ext.bothR | with_reducible refine Ext.alloc ?_ _ | with_reducible refine Ext.gr ?_ _ | with_reducible refine Ext.drewN ?_ _ | with_reducible refine Ext.drew ?_ | with_reducible refine Ext.setCell ?_ ?_ _ | with_reducible refine Ext.more ?_ _ _ | (show _ ≤ _; dsimp only; omega))); done)))).mono ?_; rintro e w4 ⟨rfl, os4, n4, rfl⟩; rw [HE.out]) | (go_at_call 35; refine (check_any _ _ _ HWA.out HWB.out L HOK.out HRS.out _ (HV.out.sl.ext (by first | ((repeat (first | with_reducible exact Ext.refl _ | with_reducible assumption | with_reducible refine Ext.alloc ?_ _ | with_reducible refine Ext.gr ?_ _ | with_reducible refine Ext.drewN ?_ _ | with_reducible refine Ext.drew ?_ | with_reducible refine Ext.setCell ?_ ?_ _ | with_reducible refine Ext.more ?_ _ _ | (show _ ≤ _; dsimp only; omega))); done) | ((repeat (first | with_reducible exact Ext.refl _ | with_reducible assumption | with_reducible apply Ext.bothR | with_reducible refine Ext.alloc ?_ _ | with_reducible refine Ext.gr ?_ _ | with_reducible refine Ext.drewN ?_ _ | with_reducible refine Ext.drew ?_ | with_reducible refine Ext.setCell ?_ ?_ _ | with_reducible refine Ext.more ?_ _ _ | (show _ ≤ _; dsimp only; omega))); done)))).mono ?_; rintro e w5 ⟨rfl, os5, n5, rfl⟩; rw [HS.out]))
    all_goals refine bodyPost_ret (v := .tuple #[r, resV 0 s, .int .i64 0]) (by simp [results, Tryd.results19, go_sem]) rfl ?_
    all_goals exact do_p HZ.out (own_low (own_fin2 (by simp [go_sem]) HOW.out (by first | (simp [go_sem]; done) | (simp [go_sem]; omega))) (by omega)) (by first | ((repeat (first | with_reducible exact Ext.refl _ | with_reducible assumption | with_reducible refine Ext.alloc ?_ _ | with_reducible refine Ext.gr ?_ _ | with_reducible refine Ext.drewN ?_ _ | with_reducible refine Ext.drew ?_ | with_reducible refine Ext.setCell ?_ ?_ _ | with_reducible refine Ext.more ?_ _ _ | (show _ ≤ _; dsimp only; omega))); done) | ((repeat (first | with_reducible exact Ext.refl _ | with_reducible assumption | with_reducible apply Ext.bothR | with_reducible refine Ext.alloc ?_ _ | with_reducible refine Ext.gr ?_ _ | with_reducible refine Ext.drewN ?_ _ | with_reducible refine Ext.drew ?_ | with_reducible refine Ext.setCell ?_ ?_ _ | with_reducible refine Ext.more ?_ _ _ | (show _ ≤ _; dsimp only; omega))); done))
end Go.Proofs.YtaijkpfgnlkppaaDoor.rules
