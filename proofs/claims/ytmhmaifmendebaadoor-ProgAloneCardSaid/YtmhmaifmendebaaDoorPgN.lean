/- The walk of 'prog.Next'. -/
import Derived.Test.YtmhmaifmendebaaDoorA1
import Derived.Test.YtmhmaifmendebaaDoorGA
import Derived.Test.YtmhmaifmendebaaDoorBA
import Derived.Test.YtmhmaifmendebaaDoorTr6
import Derived.Test.YtmhmaifmendebaaDoorGg
import Derived.Laws.EntriesVeiled
namespace Go.Proofs.YtmhmaifmendebaaDoor
open Go Go.RowKit
set_option maxRecDepth 100000
set_option maxHeartbeats 8000000

theorem pgOf_1 (o : Int) (h1 : (o == 1) = true) (w : World) : Calls Tryd.prog 15 #[.int .u8 o] w
    fun e w' => e = .returned (.tuple #[.agg #[.func (.func 20) #[] #[], .func (.func 21) #[] #[]], .bool true]) ∧ Ext w w' := by
  go_enter Tryd.func15, Tryd.ntmps15
  go_wp2
  refine bodyPost_ret (v := .tuple #[.agg #[.func (.func 20) #[] #[], .func (.func 21) #[] #[]], .bool true]) (by simp [results, Tryd.results15, go_sem]) rfl ⟨rfl, EX⟩
theorem pgOf_2 (o : Int) (h1 : (o == 1) = false) (h2 : (o == 2) = true) (w : World) : Calls Tryd.prog 15 #[.int .u8 o] w
    fun e w' => e = .returned (.tuple #[.agg #[.func (.func 26) #[] #[], .nilFunc], .bool false]) ∧ Ext w w' := by
  have h3 : (o == 3) = false := by simp at *; omega
  have h4 : (o == 4) = false := by simp at *; omega
  go_enter Tryd.func15, Tryd.ntmps15
  go_wp2
  refine bodyPost_ret (v := .tuple #[.agg #[.func (.func 26) #[] #[], .nilFunc], .bool false]) (by simp [results, Tryd.results15, go_sem]) rfl ⟨rfl, EX⟩
theorem pgOf_3 (o : Int) (h1 : (o == 1) = false) (h3 : (o == 3) = true) (w : World) : Calls Tryd.prog 15 #[.int .u8 o] w
    fun e w' => e = .returned (.tuple #[.agg #[.func (.func 22) #[] #[], .func (.func 23) #[] #[]], .bool true]) ∧ Ext w w' := by
  go_enter Tryd.func15, Tryd.ntmps15
  go_wp2
  refine bodyPost_ret (v := .tuple #[.agg #[.func (.func 22) #[] #[], .func (.func 23) #[] #[]], .bool true]) (by simp [results, Tryd.results15, go_sem]) rfl ⟨rfl, EX⟩
theorem pgOf_4 (o : Int) (h1 : (o == 1) = false) (h3 : (o == 3) = false) (h4 : (o == 4) = true) (w : World) : Calls Tryd.prog 15 #[.int .u8 o] w
    fun e w' => e = .returned (.tuple #[.agg #[.func (.func 24) #[] #[], .func (.func 25) #[] #[]], .bool true]) ∧ Ext w w' := by
  go_enter Tryd.func15, Tryd.ntmps15
  go_wp2
  refine bodyPost_ret (v := .tuple #[.agg #[.func (.func 24) #[] #[], .func (.func 25) #[] #[]], .bool true]) (by simp [results, Tryd.results15, go_sem]) rfl ⟨rfl, EX⟩

theorem pgNext_any (c : Cfg) (f : Frm) (hf : f.Fits) (w : World) (ht : Tab w) : Calls Tryd.prog 8 #[c.v, f.v] w
    fun e w' => e = .returned (.tuple #[(pgNextA c f).v, .int .i64 (pgErr c f)]) ∧ Ext w w' := by
  have HF := Lib.hid hf
  have HT := Lib.hid ht
  clear hf ht
  cases hp : partOk c
  · have HC := Lib.hid (conf_no hp)
    have HR : Hid (pgErr c f = 40 ∧ pgNextA c f = zeroAct) := Lib.hid (by simp [pgErr, pgNextA, hp])
    clear hp
    go_enter Tryd.func8, Tryd.ntmps8
    go_wp2_with (go_at_call 14; refine (partCheck_any c _).mono ?_; rintro e w1 ⟨rfl, os1, n1, rfl⟩; rw [HC.out])
    (refine bodyPost_ret (v := .tuple #[(zeroAct).v, .int .i64 40]) (by simp [results, Tryd.results8, go_sem]) rfl ?_)
    exact ⟨by rw [HR.out.1, HR.out.2], EX⟩
  · have HC := Lib.hid (conf_ok hp)
    rcases pg_obj hp with h1 | ⟨h1, h2⟩ | ⟨h1, h2, h3⟩ | ⟨h1, h2, h3, h4⟩
    · obtain ⟨A, hA⟩ : ∃ A, trie.trNextA c f = A := ⟨_, rfl⟩
      obtain ⟨E, hE⟩ : ∃ E, trie.trErr c f = E := ⟨_, rfl⟩
      have HA := Lib.hid hA
      have HE := Lib.hid hE
      have HR : Hid (pgErr c f = E ∧ pgNextA c f = A) := Lib.hid (by simp only [pgErr, pgNextA, hp, h1, if_true]; exact ⟨hE, hA⟩)
      clear hp hA hE
      go_enter Tryd.func8, Tryd.ntmps8
      go_wp2_with (first | (go_at_call 14; refine (partCheck_any c _).mono ?_; rintro e w1 ⟨rfl, os1, n1, rfl⟩; rw [HC.out]) | (go_at_call 15; refine (pgOf_1 c.object h1 _).mono ?_; rintro e w1 ⟨rfl, os2, n2, rfl⟩) | (go_at_call 20; (refine (trie.trNext_any c f HF.out _ (Tab.ext HT.out EX)).mono ?_; rintro e w1 ⟨rfl, os3, n3, rfl⟩; rw [HA.out, HE.out])))
      (refine bodyPost_ret (v := .tuple #[A.v, .int .i64 E]) (by simp [results, Tryd.results8, go_sem]) rfl ?_)
      exact ⟨by rw [HR.out.1, HR.out.2], EX⟩
    · obtain ⟨A, hA⟩ : ∃ A, tree.treNextA c f = A := ⟨_, rfl⟩
      obtain ⟨E, hE⟩ : ∃ E, tree.treErr c f = E := ⟨_, rfl⟩
      have HA := Lib.hid hA
      have HE := Lib.hid hE
      have HR : Hid (pgErr c f = E ∧ pgNextA c f = A) := Lib.hid (by simp only [pgErr, pgNextA, hp, h1, h2, if_true, Bool.false_eq_true, if_false]; exact ⟨hE, hA⟩)
      clear hp hA hE
      go_enter Tryd.func8, Tryd.ntmps8
      go_wp2_with (first | (go_at_call 14; refine (partCheck_any c _).mono ?_; rintro e w1 ⟨rfl, os1, n1, rfl⟩; rw [HC.out]) | (go_at_call 15; refine (pgOf_2 c.object h1 h2 _).mono ?_; rintro e w1 ⟨rfl, os2, n2, rfl⟩) | (go_at_call 26; (refine (tree.treNext_any c f HF.out _ (Tab.ext HT.out EX)).mono ?_; rintro e w1 ⟨rfl, os3, n3, rfl⟩; rw [HA.out, HE.out])))
      (refine bodyPost_ret (v := .tuple #[A.v, .int .i64 E]) (by simp [results, Tryd.results8, go_sem]) rfl ?_)
      exact ⟨by rw [HR.out.1, HR.out.2], EX⟩
    · obtain ⟨A, hA⟩ : ∃ A, gate.gateNextA c f = A := ⟨_, rfl⟩
      obtain ⟨E, hE⟩ : ∃ E, gate.gateErr c f = E := ⟨_, rfl⟩
      have HA := Lib.hid hA
      have HE := Lib.hid hE
      have HR : Hid (pgErr c f = E ∧ pgNextA c f = A) := Lib.hid (by simp only [pgErr, pgNextA, hp, h1, h2, h3, if_true, Bool.false_eq_true, if_false]; exact ⟨hE, hA⟩)
      clear hp hA hE
      go_enter Tryd.func8, Tryd.ntmps8
      go_wp2_with (first | (go_at_call 14; refine (partCheck_any c _).mono ?_; rintro e w1 ⟨rfl, os1, n1, rfl⟩; rw [HC.out]) | (go_at_call 15; refine (pgOf_3 c.object h1 h3 _).mono ?_; rintro e w1 ⟨rfl, os2, n2, rfl⟩) | (go_at_call 22; (refine (gate.gateNext_any c f HF.out _ (Tab.ext HT.out EX)).mono ?_; rintro e w1 ⟨rfl, os3, n3, rfl⟩; rw [HA.out, HE.out])))
      (refine bodyPost_ret (v := .tuple #[A.v, .int .i64 E]) (by simp [results, Tryd.results8, go_sem]) rfl ?_)
      exact ⟨by rw [HR.out.1, HR.out.2], EX⟩
    · obtain ⟨A, hA⟩ : ∃ A, branch.brNextA c f = A := ⟨_, rfl⟩
      obtain ⟨E, hE⟩ : ∃ E, branch.brErr c f = E := ⟨_, rfl⟩
      have HA := Lib.hid hA
      have HE := Lib.hid hE
      have HR : Hid (pgErr c f = E ∧ pgNextA c f = A) := Lib.hid (by simp only [pgErr, pgNextA, hp, h1, h2, h3, if_true, Bool.false_eq_true, if_false]; exact ⟨hE, hA⟩)
      clear hp hA hE
      go_enter Tryd.func8, Tryd.ntmps8
      go_wp2_with (first | (go_at_call 14; refine (partCheck_any c _).mono ?_; rintro e w1 ⟨rfl, os1, n1, rfl⟩; rw [HC.out]) | (go_at_call 15; refine (pgOf_4 c.object h1 h3 h4 _).mono ?_; rintro e w1 ⟨rfl, os2, n2, rfl⟩) | (go_at_call 24; (refine (branch.brNext_any c f HF.out _ (Tab.ext HT.out EX)).mono ?_; rintro e w1 ⟨rfl, os3, n3, rfl⟩; rw [HA.out, HE.out])))
      (refine bodyPost_ret (v := .tuple #[A.v, .int .i64 E]) (by simp [results, Tryd.results8, go_sem]) rfl ?_)
      exact ⟨by rw [HR.out.1, HR.out.2], EX⟩
end Go.Proofs.YtmhmaifmendebaaDoor
