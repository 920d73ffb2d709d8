/- The walks of the document's answer for a set of rules (layer 8): 'Done', 'Do'. -/
import Derived.Test.YtiooiljehigomaaDoorRulR2
namespace Go.Proofs.YtiooiljehigomaaDoor
open Go Go.RowKit

abbrev resV (code word : Int) : Value := .agg #[.int .i64 code, .int .u32 word, .slice none 0 0]
def DoneP (w : World) (Z : Outc) (e : Ending) (w' : World) : Prop := ∃ r, e = .returned (.tuple #[r, resV Z.code Z.word]) ∧ Rws w' r Z.rows ∧ Ext w w'
theorem done_p {w w' : World} {Z : Outc} {r : Value} {rows : List Rw} {code word err : Int} (hZ : Z = ⟨rows, code, word, err⟩) (h1 : Rws w' r rows) (h2 : Ext w w') : DoneP w Z (.returned (.tuple #[r, resV code word])) w' := by
  subst hZ
  exact ⟨r, rfl, h1, h2⟩
theorem own_swap {B B' : World} (hs : B'.heap.size = B.heap.size) {os : Array Obj} {d d' base : Nat} {e : TypeId} {size n : Nat} {v : Value} {xs : List Value} (h : (grew B os d).ownsRow base e size v n xs) (hb : B.heap.size ≤ base) : (grew B' os d').ownsRow base e size v n xs :=
  own_of h fun _ hg _ => heap_grew_ge hs os d d' (by omega)
theorem rws_swap {B B' : World} (hs : B'.heap.size = B.heap.size) {os : Array Obj} {d d' base : Nat} {e : TypeId} {v : Value} {L : List Rw} (h : (grew B os d).ownsRow base e 2 v L.length (rwCells L)) (hb : B.heap.size ≤ base) : Rws (grew B' os d') v L :=
  own_rws (own_swap hs h hb)
set_option maxRecDepth 100000 in
set_option maxHeartbeats 8000000 in
theorem doneR_any (c : Cfg) (v : Value) (L : List Rw) (o : Opn) (ho : o.Fits) (hL : ∀ x ∈ L, RuleOk x) (hr : Rises L) (hn : L.length ≤ 10000) (_hk : o.kind = 9 ∨ o.kind = 10 ∨ o.kind = 11) (ha : o.a ≤ 65535) (hb : o.b ≤ 65535) (w : World) (hv : Rws w v L) :
    Calls Tryd.prog 32 #[c.v, v, o.v] w (DoneP w (rulesDone c L o)) := by
  obtain ⟨Z, hZ⟩ : ∃ Z, Z = rulesDone c L o := ⟨_, rfl⟩
  rw [← hZ]
  unfold rulesDone at hZ
  have HV := Lib.hid hv
  have HL := Lib.hid hL
  have HR := Lib.hid hr
  have hba := ho.a
  have hbb := ho.b
  have hbc := ho.c
  clear hv hL hr
  cases h11 : (o.kind == 11)
  · rw [h11] at hZ
    obtain ⟨q, hq⟩ : ∃ q, o.a * 65536 + o.b = q := ⟨_, rfl⟩
    have q1 : IntKind.u64.wrap (o.a * 65536) = o.a * 65536 := by rw [IntKind.wrap_u64]; omega
    have q2 : IntKind.u64.wrap (q) = q := by rw [IntKind.wrap_u64]; omega
    have q4 : IntKind.u64.wrap o.c = o.c := by rw [IntKind.wrap_u64]; omega
    have hq' : ruleKey o = q := hq
    rw [hq'] at hZ
    cases h9 : (o.kind == 9)
    · rw [h9] at hZ
      cases hlk : look L q with
      | none =>
        have HD := Lib.hid (look_findK hlk)
        have HZ : Hid (Z = ⟨L, 6, 0, 0⟩) := Lib.hid (by rw [hZ, hlk]; rfl)
        clear hZ hlk _hk
        obtain ⟨ad, cap, rfl, hs, hs2⟩ := HV.out
        go_enter Tryd.func32, Tryd.ntmps32
        go_wp2_with (go_at_call 18; refine (find_any _ L _ _ (HV.out.sl.ext (by first | ((repeat (first | with_reducible exact Ext.refl _ | with_reducible assumption | with_reducible refine Ext.alloc ?_ _ | with_reducible refine Ext.gr ?_ _ | with_reducible refine Ext.drewN ?_ _ | with_reducible refine Ext.drew ?_ | with_reducible refine Ext.setCell ?_ ?_ _ | with_reducible refine Ext.more ?_ _ _ | (show _ ≤ _; dsimp only; omega))); done) | ((repeat (first | with_reducible exact Ext.refl _ | with_reducible assumption | with_reducible apply Ext.bothR | with_reducible refine Ext.alloc ?_ _ | with_reducible refine Ext.gr ?_ _ | with_reducible refine Ext.drewN ?_ _ | with_reducible refine Ext.drew ?_ | with_reducible refine Ext.setCell ?_ ?_ _ | with_reducible refine Ext.more ?_ _ _ | (show _ ≤ _; dsimp only; omega))); done)))).mono ?_; rintro e w1 ⟨rfl, os1, n1, rfl⟩; rw [HD.out])
        refine bodyPost_ret (v := .tuple #[.slice ad L.length cap, resV 6 0]) (by simp [results, Tryd.results32, go_sem]) rfl ?_
        exact done_p HZ.out (HV.out.ext (by first | ((repeat (first | with_reducible exact Ext.refl _ | with_reducible assumption | with_reducible refine Ext.alloc ?_ _ | with_reducible refine Ext.gr ?_ _ | with_reducible refine Ext.drewN ?_ _ | with_reducible refine Ext.drew ?_ | with_reducible refine Ext.setCell ?_ ?_ _ | with_reducible refine Ext.more ?_ _ _ | (show _ ≤ _; dsimp only; omega))); done) | ((repeat (first | with_reducible exact Ext.refl _ | with_reducible assumption | with_reducible apply Ext.bothR | with_reducible refine Ext.alloc ?_ _ | with_reducible refine Ext.gr ?_ _ | with_reducible refine Ext.drewN ?_ _ | with_reducible refine Ext.drew ?_ | with_reducible refine Ext.setCell ?_ ?_ _ | with_reducible refine Ext.more ?_ _ _ | (show _ ≤ _; dsimp only; omega))); done))) (by first | ((repeat (first | with_reducible exact Ext.refl _ | with_reducible assumption | with_reducible refine Ext.alloc ?_ _ | with_reducible refine Ext.gr ?_ _ | with_reducible refine Ext.drewN ?_ _ | with_reducible refine Ext.drew ?_ | with_reducible refine Ext.setCell ?_ ?_ _ | with_reducible refine Ext.more ?_ _ _ | (show _ ≤ _; dsimp only; omega))); done) | ((repeat (first | with_reducible exact Ext.refl _ | with_reducible assumption | with_reducible apply Ext.bothR | with_reducible refine Ext.alloc ?_ _ | with_reducible refine Ext.gr ?_ _ | with_reducible refine Ext.drewN ?_ _ | with_reducible refine Ext.drew ?_ | with_reducible refine Ext.setCell ?_ ?_ _ | with_reducible refine Ext.more ?_ _ _ | (show _ ≤ _; dsimp only; omega))); done))
      | some u =>
        obtain ⟨i, hi, hfi, hgi⟩ := findK_look hlk
        have HD := Lib.hid hfi
        have HZ : Hid (Z = ⟨withoutK q L, 0, u, 0⟩) := Lib.hid (by rw [hZ, hlk]; rfl)
        obtain ⟨M, hM⟩ : ∃ M, withoutK q L = M := ⟨_, rfl⟩
        have HW := Lib.hid hM
        obtain ⟨ad, cap, rfl, hs, hs2⟩ := HV.out
        obtain ⟨b, f, rfl, hbl, hrw⟩ := hs.rw hi
        rw [hgi] at hrw
        have hu := (HL.out _ (look_mem hlk)).2
        have q3 : IntKind.u32.wrap u = u := by rw [IntKind.wrap_u32]; dsimp only at hu; omega
        have i0 : (0 : Int) ≤ (i : Int) := by omega
        have i1 : (i : Int) < (L.length : Int) := by omega
        have hln := hs.len
        have HK : Hid (∀ R : Obj, Holds (((w.alloc (.cells #[.int .u8 c.object, .int .i64 c.instances, .int .i64 c.threads, .int .u8 c.kind, .int .i64 c.stripes, .int .i64 c.bits, .int .i64 c.cap, .int .i64 c.node, .int .i64 c.batch, .int .i64 c.chunk, .int .u64 c.limit, .int .u64 c.most] 33)).alloc (.cells #[.int .u8 o.kind, .int .u32 o.a, .int .u32 o.b, .int .u32 o.c] 35)).alloc R) [(w.heap.size + 1, 3, .int .u32 o.c), (b, f + i * 2 + 1, .int .u64 u)]) := Lib.hid fun R => ⟨by simp [go_sem], ext_cell (by first | ((repeat (first | with_reducible exact Ext.refl _ | with_reducible assumption | with_reducible refine Ext.alloc ?_ _ | with_reducible refine Ext.gr ?_ _ | with_reducible refine Ext.drewN ?_ _ | with_reducible refine Ext.drew ?_ | with_reducible refine Ext.setCell ?_ ?_ _ | with_reducible refine Ext.more ?_ _ _ | (show _ ≤ _; dsimp only; omega))); done) | ((repeat (first | with_reducible exact Ext.refl _ | with_reducible assumption | with_reducible apply Ext.bothR | with_reducible refine Ext.alloc ?_ _ | with_reducible refine Ext.gr ?_ _ | with_reducible refine Ext.drewN ?_ _ | with_reducible refine Ext.drew ?_ | with_reducible refine Ext.setCell ?_ ?_ _ | with_reducible refine Ext.more ?_ _ _ | (show _ ≤ _; dsimp only; omega))); done)) hrw.2⟩
        clear hZ hlk _hk hM hfi hs hs2 hrw hgi hbl
        go_enter Tryd.func32, Tryd.ntmps32
        go_wp2_with (go_at_call 18; refine (find_any _ L _ _ (HV.out.sl.ext (by first | ((repeat (first | with_reducible exact Ext.refl _ | with_reducible assumption | with_reducible refine Ext.alloc ?_ _ | with_reducible refine Ext.gr ?_ _ | with_reducible refine Ext.drewN ?_ _ | with_reducible refine Ext.drew ?_ | with_reducible refine Ext.setCell ?_ ?_ _ | with_reducible refine Ext.more ?_ _ _ | (show _ ≤ _; dsimp only; omega))); done) | ((repeat (first | with_reducible exact Ext.refl _ | with_reducible assumption | with_reducible apply Ext.bothR | with_reducible refine Ext.alloc ?_ _ | with_reducible refine Ext.gr ?_ _ | with_reducible refine Ext.drewN ?_ _ | with_reducible refine Ext.drew ?_ | with_reducible refine Ext.setCell ?_ ?_ _ | with_reducible refine Ext.more ?_ _ _ | (show _ ≤ _; dsimp only; omega))); done)))).mono ?_; rintro e w1 ⟨rfl, os1, n1, rfl⟩; rw [HD.out])
        go_region_held3 (fun W => W.cell? ⟨w.heap.size + 1, 3, none⟩ = some (.int .u32 o.c) ∧ W.cell? ⟨b, f + i * 2 + 1, none⟩ = some (.int .u64 u)) (exact (HK.out _).ext (by (repeat (first | with_reducible exact Ext.refl _ | with_reducible assumption | with_reducible refine Ext.alloc ?_ _ | with_reducible refine Ext.gr ?_ _ | with_reducible refine Ext.drewN ?_ _ | with_reducible refine Ext.drew ?_ | with_reducible refine Ext.setCell ?_ ?_ _ | with_reducible refine Ext.more ?_ _ _ | (show _ ≤ _; dsimp only; omega))))) (first | (go_at_call 17; refine (without_any _ L (by omega) _ _ (HV.out.ext (by first | ((repeat (first | with_reducible exact Ext.refl _ | with_reducible assumption | with_reducible refine Ext.alloc ?_ _ | with_reducible refine Ext.gr ?_ _ | with_reducible refine Ext.drewN ?_ _ | with_reducible refine Ext.drew ?_ | with_reducible refine Ext.setCell ?_ ?_ _ | with_reducible refine Ext.more ?_ _ _ | (show _ ≤ _; dsimp only; omega))); done) | ((repeat (first | with_reducible exact Ext.refl _ | with_reducible assumption | with_reducible apply Ext.bothR | with_reducible refine Ext.alloc ?_ _ | with_reducible refine Ext.gr ?_ _ | with_reducible refine Ext.drewN ?_ _ | with_reducible refine Ext.drew ?_ | with_reducible refine Ext.setCell ?_ ?_ _ | with_reducible refine Ext.more ?_ _ _ | (show _ ≤ _; dsimp only; omega))); done)))).mono ?_; rintro e w2 ⟨r, rfl, HO, os2, n2, rfl⟩; rw [HW.out] at HO; have HOW := Lib.hid HO; clear HO))
        all_goals go_wp2
        all_goals refine bodyPost_ret (v := .tuple #[r, resV 0 u]) (by simp [results, Tryd.results32, go_sem]) rfl ?_
        all_goals
          have HO' := HOW.out
          simp only [drew_grew, grew_grew] at HO'
          refine done_p HZ.out ?_ (by first | ((repeat (first | with_reducible exact Ext.refl _ | with_reducible assumption | with_reducible refine Ext.alloc ?_ _ | with_reducible refine Ext.gr ?_ _ | with_reducible refine Ext.drewN ?_ _ | with_reducible refine Ext.drew ?_ | with_reducible refine Ext.setCell ?_ ?_ _ | with_reducible refine Ext.more ?_ _ _ | (show _ ≤ _; dsimp only; omega))); done) | ((repeat (first | with_reducible exact Ext.refl _ | with_reducible assumption | with_reducible apply Ext.bothR | with_reducible refine Ext.alloc ?_ _ | with_reducible refine Ext.gr ?_ _ | with_reducible refine Ext.drewN ?_ _ | with_reducible refine Ext.drew ?_ | with_reducible refine Ext.setCell ?_ ?_ _ | with_reducible refine Ext.more ?_ _ _ | (show _ ≤ _; dsimp only; omega))); done))
          rw [HW.out]
          exact rws_swap (by simp [go_sem]) HO' (by simp [go_sem])
    · rw [h9] at hZ
      cases hlk : look L q with
      | none =>
        have HD := Lib.hid (look_findK hlk)
        obtain ⟨ad, cap, rfl, hs, hs2⟩ := HV.out
        by_cases hcap : c.cap ≤ (L.length : Int)
        · have HZ : Hid (Z = ⟨L, 9, 0, 0⟩) := Lib.hid (by rw [hZ, hlk]; simp [hcap])
          clear hZ hlk _hk
          go_enter Tryd.func32, Tryd.ntmps32
          go_wp2_with (go_at_call 18; refine (find_any _ L _ _ (HV.out.sl.ext (by first | ((repeat (first | with_reducible exact Ext.refl _ | with_reducible assumption | with_reducible refine Ext.alloc ?_ _ | with_reducible refine Ext.gr ?_ _ | with_reducible refine Ext.drewN ?_ _ | with_reducible refine Ext.drew ?_ | with_reducible refine Ext.setCell ?_ ?_ _ | with_reducible refine Ext.more ?_ _ _ | (show _ ≤ _; dsimp only; omega))); done) | ((repeat (first | with_reducible exact Ext.refl _ | with_reducible assumption | with_reducible apply Ext.bothR | with_reducible refine Ext.alloc ?_ _ | with_reducible refine Ext.gr ?_ _ | with_reducible refine Ext.drewN ?_ _ | with_reducible refine Ext.drew ?_ | with_reducible refine Ext.setCell ?_ ?_ _ | with_reducible refine Ext.more ?_ _ _ | (show _ ≤ _; dsimp only; omega))); done)))).mono ?_; rintro e w1 ⟨rfl, os1, n1, rfl⟩; rw [HD.out])
          refine bodyPost_ret (v := .tuple #[.slice ad L.length cap, resV 9 0]) (by simp [results, Tryd.results32, go_sem]) rfl ?_
          exact done_p HZ.out (HV.out.ext (by first | ((repeat (first | with_reducible exact Ext.refl _ | with_reducible assumption | with_reducible refine Ext.alloc ?_ _ | with_reducible refine Ext.gr ?_ _ | with_reducible refine Ext.drewN ?_ _ | with_reducible refine Ext.drew ?_ | with_reducible refine Ext.setCell ?_ ?_ _ | with_reducible refine Ext.more ?_ _ _ | (show _ ≤ _; dsimp only; omega))); done) | ((repeat (first | with_reducible exact Ext.refl _ | with_reducible assumption | with_reducible apply Ext.bothR | with_reducible refine Ext.alloc ?_ _ | with_reducible refine Ext.gr ?_ _ | with_reducible refine Ext.drewN ?_ _ | with_reducible refine Ext.drew ?_ | with_reducible refine Ext.setCell ?_ ?_ _ | with_reducible refine Ext.more ?_ _ _ | (show _ ≤ _; dsimp only; omega))); done))) (by first | ((repeat (first | with_reducible exact Ext.refl _ | with_reducible assumption | with_reducible refine Ext.alloc ?_ _ | with_reducible refine Ext.gr ?_ _ | with_reducible refine Ext.drewN ?_ _ | with_reducible refine Ext.drew ?_ | with_reducible refine Ext.setCell ?_ ?_ _ | with_reducible refine Ext.more ?_ _ _ | (show _ ≤ _; dsimp only; omega))); done) | ((repeat (first | with_reducible exact Ext.refl _ | with_reducible assumption | with_reducible apply Ext.bothR | with_reducible refine Ext.alloc ?_ _ | with_reducible refine Ext.gr ?_ _ | with_reducible refine Ext.drewN ?_ _ | with_reducible refine Ext.drew ?_ | with_reducible refine Ext.setCell ?_ ?_ _ | with_reducible refine Ext.more ?_ _ _ | (show _ ≤ _; dsimp only; omega))); done))
        · have HZ : Hid (Z = ⟨withK q o.c L, 0, 0, 0⟩) := Lib.hid (by rw [hZ, hlk]; simp [hcap])
          have hcap' : (L.length : Int) < c.cap := by omega
          have HW := Lib.hid (withF_eq q o.c HR.out)
          clear hZ hlk _hk
          go_enter Tryd.func32, Tryd.ntmps32
          go_wp2_with (first | (go_at_call 18; refine (find_any _ L _ _ (HV.out.sl.ext (by first | ((repeat (first | with_reducible exact Ext.refl _ | with_reducible assumption | with_reducible refine Ext.alloc ?_ _ | with_reducible refine Ext.gr ?_ _ | with_reducible refine Ext.drewN ?_ _ | with_reducible refine Ext.drew ?_ | with_reducible refine Ext.setCell ?_ ?_ _ | with_reducible refine Ext.more ?_ _ _ | (show _ ≤ _; dsimp only; omega))); done) | ((repeat (first | with_reducible exact Ext.refl _ | with_reducible assumption | with_reducible apply Ext.bothR | with_reducible refine Ext.alloc ?_ _ | with_reducible refine Ext.gr ?_ _ | with_reducible refine Ext.drewN ?_ _ | with_reducible refine Ext.drew ?_ | with_reducible refine Ext.setCell ?_ ?_ _ | with_reducible refine Ext.more ?_ _ _ | (show _ ≤ _; dsimp only; omega))); done)))).mono ?_; rintro e w1 ⟨rfl, os1, n1, rfl⟩; rw [HD.out]) | (go_at_call 44; refine (with_any _ L (by omega) _ _ _ (HV.out.ext (by first | ((repeat (first | with_reducible exact Ext.refl _ | with_reducible assumption | with_reducible refine Ext.alloc ?_ _ | with_reducible refine Ext.gr ?_ _ | with_reducible refine Ext.drewN ?_ _ | with_reducible refine Ext.drew ?_ | with_reducible refine Ext.setCell ?_ ?_ _ | with_reducible refine Ext.more ?_ _ _ | (show _ ≤ _; dsimp only; omega))); done) | ((repeat (first | with_reducible exact Ext.refl _ | with_reducible assumption | with_reducible apply Ext.bothR | with_reducible refine Ext.alloc ?_ _ | with_reducible refine Ext.gr ?_ _ | with_reducible refine Ext.drewN ?_ _ | with_reducible refine Ext.drew ?_ | with_reducible refine Ext.setCell ?_ ?_ _ | with_reducible refine Ext.more ?_ _ _ | (show _ ≤ _; dsimp only; omega))); done)))).mono ?_; rintro e w2 ⟨r, rfl, HO, os2, n2, rfl⟩; rw [HW.out] at HO; have HOW := Lib.hid HO; clear HO))
          refine bodyPost_ret (v := .tuple #[r, resV 0 0]) (by simp [results, Tryd.results32, go_sem]) rfl ?_
          have HO' := HOW.out
          simp only [grew_grew] at HO'
          exact done_p HZ.out (rws_swap (by simp [go_sem]) HO' (by simp [go_sem])) (by first | ((repeat (first | with_reducible exact Ext.refl _ | with_reducible assumption | with_reducible refine Ext.alloc ?_ _ | with_reducible refine Ext.gr ?_ _ | with_reducible refine Ext.drewN ?_ _ | with_reducible refine Ext.drew ?_ | with_reducible refine Ext.setCell ?_ ?_ _ | with_reducible refine Ext.more ?_ _ _ | (show _ ≤ _; dsimp only; omega))); done) | ((repeat (first | with_reducible exact Ext.refl _ | with_reducible assumption | with_reducible apply Ext.bothR | with_reducible refine Ext.alloc ?_ _ | with_reducible refine Ext.gr ?_ _ | with_reducible refine Ext.drewN ?_ _ | with_reducible refine Ext.drew ?_ | with_reducible refine Ext.setCell ?_ ?_ _ | with_reducible refine Ext.more ?_ _ _ | (show _ ≤ _; dsimp only; omega))); done))
      | some u =>
        obtain ⟨i, hi, hfi, hgi⟩ := findK_look hlk
        have HD := Lib.hid hfi
        have HZ : Hid (Z = ⟨withK q o.c L, 0, u, 0⟩) := Lib.hid (by rw [hZ, hlk]; rfl)
        obtain ⟨M, hM⟩ : ∃ M, withF q o.c false L = M := ⟨_, rfl⟩
        have HW := Lib.hid hM
        have HM : Hid (withK q o.c L = M) := Lib.hid (by rw [← hM, withF_eq q o.c HR.out])
        obtain ⟨ad, cap, rfl, hs, hs2⟩ := HV.out
        obtain ⟨b, f, rfl, hbl, hrw⟩ := hs.rw hi
        rw [hgi] at hrw
        have hu := (HL.out _ (look_mem hlk)).2
        have q3 : IntKind.u32.wrap u = u := by rw [IntKind.wrap_u32]; dsimp only at hu; omega
        have i0 : (0 : Int) ≤ (i : Int) := by omega
        have i1 : (i : Int) < (L.length : Int) := by omega
        have hln := hs.len
        have HK : Hid (∀ R : Obj, Holds (((w.alloc (.cells #[.int .u8 c.object, .int .i64 c.instances, .int .i64 c.threads, .int .u8 c.kind, .int .i64 c.stripes, .int .i64 c.bits, .int .i64 c.cap, .int .i64 c.node, .int .i64 c.batch, .int .i64 c.chunk, .int .u64 c.limit, .int .u64 c.most] 33)).alloc (.cells #[.int .u8 o.kind, .int .u32 o.a, .int .u32 o.b, .int .u32 o.c] 35)).alloc R) [(w.heap.size + 1, 3, .int .u32 o.c), (b, f + i * 2 + 1, .int .u64 u)]) := Lib.hid fun R => ⟨by simp [go_sem], ext_cell (by first | ((repeat (first | with_reducible exact Ext.refl _ | with_reducible assumption | with_reducible refine Ext.alloc ?_ _ | with_reducible refine Ext.gr ?_ _ | with_reducible refine Ext.drewN ?_ _ | with_reducible refine Ext.drew ?_ | with_reducible refine Ext.setCell ?_ ?_ _ | with_reducible refine Ext.more ?_ _ _ | (show _ ≤ _; dsimp only; omega))); done) | ((repeat (first | with_reducible exact Ext.refl _ | with_reducible assumption | with_reducible apply Ext.bothR | with_reducible refine Ext.alloc ?_ _ | with_reducible refine Ext.gr ?_ _ | with_reducible refine Ext.drewN ?_ _ | with_reducible refine Ext.drew ?_ | with_reducible refine Ext.setCell ?_ ?_ _ | with_reducible refine Ext.more ?_ _ _ | (show _ ≤ _; dsimp only; omega))); done)) hrw.2⟩
        clear hZ hlk _hk hM hfi hs hs2 hrw hgi hbl
        go_enter Tryd.func32, Tryd.ntmps32
        go_wp2_with (go_at_call 18; refine (find_any _ L _ _ (HV.out.sl.ext (by first | ((repeat (first | with_reducible exact Ext.refl _ | with_reducible assumption | with_reducible refine Ext.alloc ?_ _ | with_reducible refine Ext.gr ?_ _ | with_reducible refine Ext.drewN ?_ _ | with_reducible refine Ext.drew ?_ | with_reducible refine Ext.setCell ?_ ?_ _ | with_reducible refine Ext.more ?_ _ _ | (show _ ≤ _; dsimp only; omega))); done) | ((repeat (first | with_reducible exact Ext.refl _ | with_reducible assumption | with_reducible apply Ext.bothR | with_reducible refine Ext.alloc ?_ _ | with_reducible refine Ext.gr ?_ _ | with_reducible refine Ext.drewN ?_ _ | with_reducible refine Ext.drew ?_ | with_reducible refine Ext.setCell ?_ ?_ _ | with_reducible refine Ext.more ?_ _ _ | (show _ ≤ _; dsimp only; omega))); done)))).mono ?_; rintro e w1 ⟨rfl, os1, n1, rfl⟩; rw [HD.out])
        go_region_held3 (fun W => W.cell? ⟨w.heap.size + 1, 3, none⟩ = some (.int .u32 o.c) ∧ W.cell? ⟨b, f + i * 2 + 1, none⟩ = some (.int .u64 u)) (exact (HK.out _).ext (by (repeat (first | with_reducible exact Ext.refl _ | with_reducible assumption | with_reducible refine Ext.alloc ?_ _ | with_reducible refine Ext.gr ?_ _ | with_reducible refine Ext.drewN ?_ _ | with_reducible refine Ext.drew ?_ | with_reducible refine Ext.setCell ?_ ?_ _ | with_reducible refine Ext.more ?_ _ _ | (show _ ≤ _; dsimp only; omega))))) (first | (go_at_call 44; refine (with_any _ L (by omega) _ _ _ (HV.out.ext (by first | ((repeat (first | with_reducible exact Ext.refl _ | with_reducible assumption | with_reducible refine Ext.alloc ?_ _ | with_reducible refine Ext.gr ?_ _ | with_reducible refine Ext.drewN ?_ _ | with_reducible refine Ext.drew ?_ | with_reducible refine Ext.setCell ?_ ?_ _ | with_reducible refine Ext.more ?_ _ _ | (show _ ≤ _; dsimp only; omega))); done) | ((repeat (first | with_reducible exact Ext.refl _ | with_reducible assumption | with_reducible apply Ext.bothR | with_reducible refine Ext.alloc ?_ _ | with_reducible refine Ext.gr ?_ _ | with_reducible refine Ext.drewN ?_ _ | with_reducible refine Ext.drew ?_ | with_reducible refine Ext.setCell ?_ ?_ _ | with_reducible refine Ext.more ?_ _ _ | (show _ ≤ _; dsimp only; omega))); done)))).mono ?_; rintro e w2 ⟨r, rfl, HO, os2, n2, rfl⟩; rw [HW.out] at HO; have HOW := Lib.hid HO; clear HO))
        all_goals go_wp2
        all_goals refine bodyPost_ret (v := .tuple #[r, resV 0 u]) (by simp [results, Tryd.results32, go_sem]) rfl ?_
        all_goals
          have HO' := HOW.out
          simp only [drew_grew, grew_grew] at HO'
          refine done_p HZ.out ?_ (by first | ((repeat (first | with_reducible exact Ext.refl _ | with_reducible assumption | with_reducible refine Ext.alloc ?_ _ | with_reducible refine Ext.gr ?_ _ | with_reducible refine Ext.drewN ?_ _ | with_reducible refine Ext.drew ?_ | with_reducible refine Ext.setCell ?_ ?_ _ | with_reducible refine Ext.more ?_ _ _ | (show _ ≤ _; dsimp only; omega))); done) | ((repeat (first | with_reducible exact Ext.refl _ | with_reducible assumption | with_reducible apply Ext.bothR | with_reducible refine Ext.alloc ?_ _ | with_reducible refine Ext.gr ?_ _ | with_reducible refine Ext.drewN ?_ _ | with_reducible refine Ext.drew ?_ | with_reducible refine Ext.setCell ?_ ?_ _ | with_reducible refine Ext.more ?_ _ _ | (show _ ≤ _; dsimp only; omega))); done))
          rw [HM.out]
          exact rws_swap (by simp [go_sem]) HO' (by simp [go_sem])
  · rw [h11] at hZ
    obtain ⟨s, hs⟩ : ∃ s, rulesSay L o.a o.b = s := ⟨_, rfl⟩
    have HS := Lib.hid hs
    have HZ : Hid (Z = ⟨L, 0, s, 0⟩) := Lib.hid (by rw [hZ, ← hs]; rfl)
    clear hZ hs _hk
    obtain ⟨ad, cap, rfl, hs, hs2⟩ := HV.out
    clear hs hs2
    go_enter Tryd.func32, Tryd.ntmps32
    go_wp2_with (go_at_call 43; refine (saysR_any _ L HL.out _ _ _ (HV.out.sl.ext (by first | ((repeat (first | with_reducible exact Ext.refl _ | with_reducible assumption | with_reducible refine Ext.alloc ?_ _ | with_reducible refine Ext.gr ?_ _ | with_reducible refine Ext.drewN ?_ _ | with_reducible refine Ext.drew ?_ | with_reducible refine Ext.setCell ?_ ?_ _ | with_reducible refine Ext.more ?_ _ _ | (show _ ≤ _; dsimp only; omega))); done) | ((repeat (first | with_reducible exact Ext.refl _ | with_reducible assumption | with_reducible apply Ext.bothR | with_reducible refine Ext.alloc ?_ _ | with_reducible refine Ext.gr ?_ _ | with_reducible refine Ext.drewN ?_ _ | with_reducible refine Ext.drew ?_ | with_reducible refine Ext.setCell ?_ ?_ _ | with_reducible refine Ext.more ?_ _ _ | (show _ ≤ _; dsimp only; omega))); done)))).mono ?_; rintro e w1 ⟨rfl, os1, n1, rfl⟩; rw [HS.out])
    refine bodyPost_ret (v := .tuple #[.slice ad L.length cap, resV 0 s]) (by simp [results, Tryd.results32, go_sem]) rfl ?_
    exact done_p HZ.out (HV.out.ext (by first | ((repeat (first | with_reducible exact Ext.refl _ | with_reducible assumption | with_reducible refine Ext.alloc ?_ _ | with_reducible refine Ext.gr ?_ _ | with_reducible refine Ext.drewN ?_ _ | with_reducible refine Ext.drew ?_ | with_reducible refine Ext.setCell ?_ ?_ _ | with_reducible refine Ext.more ?_ _ _ | (show _ ≤ _; dsimp only; omega))); done) | ((repeat (first | with_reducible exact Ext.refl _ | with_reducible assumption | with_reducible apply Ext.bothR | with_reducible refine Ext.alloc ?_ _ | with_reducible refine Ext.gr ?_ _ | with_reducible refine Ext.drewN ?_ _ | with_reducible refine Ext.drew ?_ | with_reducible refine Ext.setCell ?_ ?_ _ | with_reducible refine Ext.more ?_ _ _ | (show _ ≤ _; dsimp only; omega))); done))) (by first | ((repeat (first | with_reducible exact Ext.refl _ | with_reducible assumption | with_reducible refine Ext.alloc ?_ _ | with_reducible refine Ext.gr ?_ _ | with_reducible refine Ext.drewN ?_ _ | with_reducible refine Ext.drew ?_ | with_reducible refine Ext.setCell ?_ ?_ _ | with_reducible refine Ext.more ?_ _ _ | (show _ ≤ _; dsimp only; omega))); done) | ((repeat (first | with_reducible exact Ext.refl _ | with_reducible assumption | with_reducible apply Ext.bothR | with_reducible refine Ext.alloc ?_ _ | with_reducible refine Ext.gr ?_ _ | with_reducible refine Ext.drewN ?_ _ | with_reducible refine Ext.drew ?_ | with_reducible refine Ext.setCell ?_ ?_ _ | with_reducible refine Ext.more ?_ _ _ | (show _ ≤ _; dsimp only; omega))); done))
end Go.Proofs.YtiooiljehigomaaDoor
