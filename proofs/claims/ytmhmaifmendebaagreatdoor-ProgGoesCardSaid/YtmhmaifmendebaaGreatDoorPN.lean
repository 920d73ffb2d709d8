/- The walk of 'prog.Next'. -/
import Derived.Test.YtmhmaifmendebaaGreatDoorA1
import Derived.Test.YtmhmaifmendebaaGreatDoorGA
import Derived.Test.YtmhmaifmendebaaGreatDoorBA
import Derived.Test.YtmhmaifmendebaaGreatDoorTr6
import Derived.Test.YtmhmaifmendebaaGreatDoorGg
import Derived.Laws.EntriesVeiled
import Derived.Test.YtmhmaifmendebaaGreatDoorBB
import Derived.Test.YtmhmaifmendebaaGreatDoorTF
import Derived.Test.YtmhmaifmendebaaGreatDoorGh
namespace Go.Proofs.YtmhmaifmendebaaGreatDoor
open Go Go.RowKit
set_option maxRecDepth 100000
set_option maxHeartbeats 8000000

theorem pgOf_1 (o : Int) (h1 : (o == 1) = true) (w : World) : Calls Tryz.prog 10 #[.int .u8 o] w
    fun e w' => e = .returned (.tuple #[.agg #[.func (.func 22) #[] #[], .func (.func 23) #[] #[]], .bool true]) ∧ Ext w w' := by
  go_enter Tryz.func10, Tryz.ntmps10
  go_wp2
  refine bodyPost_ret (v := .tuple #[.agg #[.func (.func 22) #[] #[], .func (.func 23) #[] #[]], .bool true]) (by simp [results, Tryz.results10, go_sem]) rfl ⟨rfl, EX⟩
theorem pgOf_2 (o : Int) (h1 : (o == 1) = false) (h2 : (o == 2) = true) (w : World) : Calls Tryz.prog 10 #[.int .u8 o] w
    fun e w' => e = .returned (.tuple #[.agg #[.func (.func 28) #[] #[], .nilFunc], .bool false]) ∧ Ext w w' := by
  have h3 : (o == 3) = false := by simp at *; omega
  have h4 : (o == 4) = false := by simp at *; omega
  go_enter Tryz.func10, Tryz.ntmps10
  go_wp2
  refine bodyPost_ret (v := .tuple #[.agg #[.func (.func 28) #[] #[], .nilFunc], .bool false]) (by simp [results, Tryz.results10, go_sem]) rfl ⟨rfl, EX⟩
theorem pgOf_3 (o : Int) (h1 : (o == 1) = false) (h3 : (o == 3) = true) (w : World) : Calls Tryz.prog 10 #[.int .u8 o] w
    fun e w' => e = .returned (.tuple #[.agg #[.func (.func 24) #[] #[], .func (.func 25) #[] #[]], .bool true]) ∧ Ext w w' := by
  go_enter Tryz.func10, Tryz.ntmps10
  go_wp2
  refine bodyPost_ret (v := .tuple #[.agg #[.func (.func 24) #[] #[], .func (.func 25) #[] #[]], .bool true]) (by simp [results, Tryz.results10, go_sem]) rfl ⟨rfl, EX⟩
theorem pgOf_4 (o : Int) (h1 : (o == 1) = false) (h3 : (o == 3) = false) (h4 : (o == 4) = true) (w : World) : Calls Tryz.prog 10 #[.int .u8 o] w
    fun e w' => e = .returned (.tuple #[.agg #[.func (.func 26) #[] #[], .func (.func 27) #[] #[]], .bool true]) ∧ Ext w w' := by
  go_enter Tryz.func10, Tryz.ntmps10
  go_wp2
  refine bodyPost_ret (v := .tuple #[.agg #[.func (.func 26) #[] #[], .func (.func 27) #[] #[]], .bool true]) (by simp [results, Tryz.results10, go_sem]) rfl ⟨rfl, EX⟩

theorem pgNext_any (c : Cfg) (f : Frm) (hf : f.Fits) (w : World) (ht : Tab w) : Calls Tryz.prog 5 #[c.v, f.v] w
    fun e w' => e = .returned (.tuple #[(pgNextA c f).v, .int .i64 (pgErr c f)]) ∧ Ext w w' := by
  have HF := Lib.hid hf
  have HT := Lib.hid ht
  clear hf ht
  cases hp : partOk c
  · have HC := Lib.hid (conf_no hp)
    have HR : Hid (pgErr c f = 40 ∧ pgNextA c f = zeroAct) := Lib.hid (by simp [pgErr, pgNextA, hp])
    clear hp
    go_enter Tryz.func5, Tryz.ntmps5
    go_wp2_with (go_at_call 9; refine (partCheck_any c _).mono ?_; rintro e w1 ⟨rfl, os1, n1, rfl⟩; rw [HC.out])
    (refine bodyPost_ret (v := .tuple #[(zeroAct).v, .int .i64 40]) (by simp [results, Tryz.results5, go_sem]) rfl ?_)
    exact ⟨by rw [HR.out.1, HR.out.2], EX⟩
  · have HC := Lib.hid (conf_ok hp)
    rcases pg_obj hp with h1 | ⟨h1, h2⟩ | ⟨h1, h2, h3⟩ | ⟨h1, h2, h3, h4⟩
    · obtain ⟨A, hA⟩ : ∃ A, trie.trNextA c f = A := ⟨_, rfl⟩
      obtain ⟨E, hE⟩ : ∃ E, trie.trErr c f = E := ⟨_, rfl⟩
      have HA := Lib.hid hA
      have HE := Lib.hid hE
      have HR : Hid (pgErr c f = E ∧ pgNextA c f = A) := Lib.hid (by simp only [pgErr, pgNextA, hp, h1, if_true]; exact ⟨hE, hA⟩)
      clear hp hA hE
      go_enter Tryz.func5, Tryz.ntmps5
      go_wp2_with (first | (go_at_call 9; refine (partCheck_any c _).mono ?_; rintro e w1 ⟨rfl, os1, n1, rfl⟩; rw [HC.out]) | (go_at_call 10; refine (pgOf_1 c.object h1 _).mono ?_; rintro e w1 ⟨rfl, os2, n2, rfl⟩) | (go_at_call 22; (refine (trie.trNext_any c f HF.out _ (Tab.ext HT.out EX)).mono ?_; rintro e w1 ⟨rfl, os3, n3, rfl⟩; rw [HA.out, HE.out])))
      (refine bodyPost_ret (v := .tuple #[A.v, .int .i64 E]) (by simp [results, Tryz.results5, go_sem]) rfl ?_)
      exact ⟨by rw [HR.out.1, HR.out.2], EX⟩
    · obtain ⟨A, hA⟩ : ∃ A, tree.treNextA c f = A := ⟨_, rfl⟩
      obtain ⟨E, hE⟩ : ∃ E, tree.treErr c f = E := ⟨_, rfl⟩
      have HA := Lib.hid hA
      have HE := Lib.hid hE
      have HR : Hid (pgErr c f = E ∧ pgNextA c f = A) := Lib.hid (by simp only [pgErr, pgNextA, hp, h1, h2, if_true, Bool.false_eq_true, if_false]; exact ⟨hE, hA⟩)
      clear hp hA hE
      go_enter Tryz.func5, Tryz.ntmps5
      go_wp2_with (first | (go_at_call 9; refine (partCheck_any c _).mono ?_; rintro e w1 ⟨rfl, os1, n1, rfl⟩; rw [HC.out]) | (go_at_call 10; refine (pgOf_2 c.object h1 h2 _).mono ?_; rintro e w1 ⟨rfl, os2, n2, rfl⟩) | (go_at_call 28; (refine (tree.treNext_any c f HF.out _ (Tab.ext HT.out EX)).mono ?_; rintro e w1 ⟨rfl, os3, n3, rfl⟩; rw [HA.out, HE.out])))
      (refine bodyPost_ret (v := .tuple #[A.v, .int .i64 E]) (by simp [results, Tryz.results5, go_sem]) rfl ?_)
      exact ⟨by rw [HR.out.1, HR.out.2], EX⟩
    · obtain ⟨A, hA⟩ : ∃ A, gate.gateNextA c f = A := ⟨_, rfl⟩
      obtain ⟨E, hE⟩ : ∃ E, gate.gateErr c f = E := ⟨_, rfl⟩
      have HA := Lib.hid hA
      have HE := Lib.hid hE
      have HR : Hid (pgErr c f = E ∧ pgNextA c f = A) := Lib.hid (by simp only [pgErr, pgNextA, hp, h1, h2, h3, if_true, Bool.false_eq_true, if_false]; exact ⟨hE, hA⟩)
      clear hp hA hE
      go_enter Tryz.func5, Tryz.ntmps5
      go_wp2_with (first | (go_at_call 9; refine (partCheck_any c _).mono ?_; rintro e w1 ⟨rfl, os1, n1, rfl⟩; rw [HC.out]) | (go_at_call 10; refine (pgOf_3 c.object h1 h3 _).mono ?_; rintro e w1 ⟨rfl, os2, n2, rfl⟩) | (go_at_call 24; (refine (gate.gateNext_any c f HF.out _ (Tab.ext HT.out EX)).mono ?_; rintro e w1 ⟨rfl, os3, n3, rfl⟩; rw [HA.out, HE.out])))
      (refine bodyPost_ret (v := .tuple #[A.v, .int .i64 E]) (by simp [results, Tryz.results5, go_sem]) rfl ?_)
      exact ⟨by rw [HR.out.1, HR.out.2], EX⟩
    · obtain ⟨A, hA⟩ : ∃ A, branch.brNextA c f = A := ⟨_, rfl⟩
      obtain ⟨E, hE⟩ : ∃ E, branch.brErr c f = E := ⟨_, rfl⟩
      have HA := Lib.hid hA
      have HE := Lib.hid hE
      have HR : Hid (pgErr c f = E ∧ pgNextA c f = A) := Lib.hid (by simp only [pgErr, pgNextA, hp, h1, h2, h3, if_true, Bool.false_eq_true, if_false]; exact ⟨hE, hA⟩)
      clear hp hA hE
      go_enter Tryz.func5, Tryz.ntmps5
      go_wp2_with (first | (go_at_call 9; refine (partCheck_any c _).mono ?_; rintro e w1 ⟨rfl, os1, n1, rfl⟩; rw [HC.out]) | (go_at_call 10; refine (pgOf_4 c.object h1 h3 h4 _).mono ?_; rintro e w1 ⟨rfl, os2, n2, rfl⟩) | (go_at_call 26; (refine (branch.brNext_any c f HF.out _ (Tab.ext HT.out EX)).mono ?_; rintro e w1 ⟨rfl, os3, n3, rfl⟩; rw [HA.out, HE.out])))
      (refine bodyPost_ret (v := .tuple #[A.v, .int .i64 E]) (by simp [results, Tryz.results5, go_sem]) rfl ?_)
      exact ⟨by rw [HR.out.1, HR.out.2], EX⟩
end Go.Proofs.YtmhmaifmendebaaGreatDoor
/- The walk of the reference's 'Next', of all four objects. -/
namespace Go.Proofs.YtmhmaifmendebaaGreatDoor
open Go Go.RowKit
set_option maxRecDepth 100000
set_option maxHeartbeats 8000000

theorem pgNextR_any (c : Cfg) (f : Frm) (hf : f.Fits) (w : World) : Calls Tryz.prog 6 #[c.v, f.v] w
    fun e w' => e = .returned (.tuple #[(pgNextA c f).v, .int .i64 (pgErr c f)]) ∧ Ext w w' := by
  have HF := Lib.hid hf
  clear hf
  cases hp : partOk c
  · have HC := Lib.hid hp
    have HR : Hid (pgErr c f = 40 ∧ pgNextA c f = zeroAct) := Lib.hid (by simp [pgErr, pgNextA, hp])
    clear hp
    go_enter Tryz.func6, Tryz.ntmps6
    go_wp2_with (go_at_call 11; refine (mayBe_any c _).mono ?_; rintro e w1 ⟨rfl, os1, n1, rfl⟩; rw [HC.out])
    (refine bodyPost_ret (v := .tuple #[(zeroAct).v, .int .i64 40]) (by simp [results, Tryz.results6, go_sem]) rfl ?_)
    exact ⟨by rw [HR.out.1, HR.out.2], EX⟩
  · have HC := Lib.hid hp
    rcases pg_obj hp with h1 | ⟨h1, h2⟩ | ⟨h1, h2, h3⟩ | ⟨h1, h2, h3, h4⟩
    · obtain ⟨A, hA⟩ : ∃ A, trie.trNextA c f = A := ⟨_, rfl⟩
      obtain ⟨E, hE⟩ : ∃ E, trie.trErr c f = E := ⟨_, rfl⟩
      have HA := Lib.hid hA
      have HE := Lib.hid hE
      have HR : Hid (pgErr c f = E ∧ pgNextA c f = A) := Lib.hid (by simp only [pgErr, pgNextA, hp, h1, if_true]; exact ⟨hE, hA⟩)
      clear hp hA hE
      go_enter Tryz.func6, Tryz.ntmps6
      go_wp2_with (first | (go_at_call 11; refine (mayBe_any c _).mono ?_; rintro e w1 ⟨rfl, os1, n1, rfl⟩; rw [HC.out]) | (go_at_call 12; (refine (trie.trNextR_any c f HF.out _).mono ?_; rintro e w1 ⟨rfl, os3, n3, rfl⟩; rw [HA.out, HE.out])))
      (refine bodyPost_ret (v := .tuple #[A.v, .int .i64 E]) (by simp [results, Tryz.results6, go_sem]) rfl ?_)
      exact ⟨by rw [HR.out.1, HR.out.2], EX⟩
    · obtain ⟨A, hA⟩ : ∃ A, tree.treNextA c f = A := ⟨_, rfl⟩
      obtain ⟨E, hE⟩ : ∃ E, tree.treErr c f = E := ⟨_, rfl⟩
      have HA := Lib.hid hA
      have HE := Lib.hid hE
      have HR : Hid (pgErr c f = E ∧ pgNextA c f = A) := Lib.hid (by simp only [pgErr, pgNextA, hp, h1, h2, if_true, Bool.false_eq_true, if_false]; exact ⟨hE, hA⟩)
      clear hp hA hE
      go_enter Tryz.func6, Tryz.ntmps6
      go_wp2_with (first | (go_at_call 11; refine (mayBe_any c _).mono ?_; rintro e w1 ⟨rfl, os1, n1, rfl⟩; rw [HC.out]) | (go_at_call 13; (refine (tree.treNextR_any c f HF.out _).mono ?_; rintro e w1 ⟨rfl, os3, n3, rfl⟩; rw [HA.out, HE.out])))
      (refine bodyPost_ret (v := .tuple #[A.v, .int .i64 E]) (by simp [results, Tryz.results6, go_sem]) rfl ?_)
      exact ⟨by rw [HR.out.1, HR.out.2], EX⟩
    · obtain ⟨A, hA⟩ : ∃ A, gate.gateNextA c f = A := ⟨_, rfl⟩
      obtain ⟨E, hE⟩ : ∃ E, gate.gateErr c f = E := ⟨_, rfl⟩
      have HA := Lib.hid hA
      have HE := Lib.hid hE
      have HR : Hid (pgErr c f = E ∧ pgNextA c f = A) := Lib.hid (by simp only [pgErr, pgNextA, hp, h1, h2, h3, if_true, Bool.false_eq_true, if_false]; exact ⟨hE, hA⟩)
      clear hp hA hE
      go_enter Tryz.func6, Tryz.ntmps6
      go_wp2_with (first | (go_at_call 11; refine (mayBe_any c _).mono ?_; rintro e w1 ⟨rfl, os1, n1, rfl⟩; rw [HC.out]) | (go_at_call 14; (refine (gate.gateNextR_any c f HF.out _).mono ?_; rintro e w1 ⟨rfl, os3, n3, rfl⟩; rw [HA.out, HE.out])))
      (refine bodyPost_ret (v := .tuple #[A.v, .int .i64 E]) (by simp [results, Tryz.results6, go_sem]) rfl ?_)
      exact ⟨by rw [HR.out.1, HR.out.2], EX⟩
    · obtain ⟨A, hA⟩ : ∃ A, branch.brNextA c f = A := ⟨_, rfl⟩
      obtain ⟨E, hE⟩ : ∃ E, branch.brErr c f = E := ⟨_, rfl⟩
      have HA := Lib.hid hA
      have HE := Lib.hid hE
      have HR : Hid (pgErr c f = E ∧ pgNextA c f = A) := Lib.hid (by simp only [pgErr, pgNextA, hp, h1, h2, h3, if_true, Bool.false_eq_true, if_false]; exact ⟨hE, hA⟩)
      clear hp hA hE
      go_enter Tryz.func6, Tryz.ntmps6
      go_wp2_with (first | (go_at_call 11; refine (mayBe_any c _).mono ?_; rintro e w1 ⟨rfl, os1, n1, rfl⟩; rw [HC.out]) | (go_at_call 15; (refine (branch.brNextR_any c f HF.out _).mono ?_; rintro e w1 ⟨rfl, os3, n3, rfl⟩; rw [HA.out, HE.out])))
      (refine bodyPost_ret (v := .tuple #[A.v, .int .i64 E]) (by simp [results, Tryz.results6, go_sem]) rfl ?_)
      exact ⟨by rw [HR.out.1, HR.out.2], EX⟩
end Go.Proofs.YtmhmaifmendebaaGreatDoor
