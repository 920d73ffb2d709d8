/- The walk of 'prog.After'. -/
import Derived.Test.YtmhmaifmendebaaGreatDoorPN
import Derived.Test.YtmhmaifmendebaaGreatDoorGB
import Derived.Test.YtmhmaifmendebaaGreatDoorBD
import Derived.Test.YtmhmaifmendebaaGreatDoorTreA
import Derived.Test.YtmhmaifmendebaaGreatDoorBE
import Derived.Test.YtmhmaifmendebaaGreatDoorTrR3
import Derived.Test.YtmhmaifmendebaaGreatDoorGm
namespace Go.Proofs.YtmhmaifmendebaaGreatDoor
open Go Go.RowKit
set_option maxRecDepth 100000
set_option maxHeartbeats 8000000

/-- What 'After' answers. -/
abbrev pgOutV (x : Frm × Bool) (e : Int) : Value := tree.treOutV x e
theorem pgAfter_any (c : Cfg) (f : Frm) (l : Cel) (hf : f.Fits) (hl : l.Fits) (w : World) (ht : Tab w) : Calls Tryz.prog 7 #[c.v, f.v, l.v] w
    fun e w' => e = .returned (pgOutV (pgAfterA c f l) (pgErr c f)) ∧ Ext w w' := by
  have HF := Lib.hid hf
  have HL := Lib.hid hl
  have HT := Lib.hid ht
  clear ht
  clear hf hl
  cases hp : partOk c
  · have HC := Lib.hid (conf_no hp)
    have HR : Hid (pgErr c f = 40 ∧ pgAfterA c f l = (zeroFrm, false)) := Lib.hid (by simp [pgErr, pgAfterA, hp])
    clear hp
    go_enter Tryz.func7, Tryz.ntmps7
    go_wp2_with (go_at_call 9; refine (partCheck_any c _).mono ?_; rintro e w1 ⟨rfl, os1, n1, rfl⟩; rw [HC.out])
    go_region
    go_wp2
    (refine bodyPost_ret (v := pgOutV (zeroFrm, false) 40) (by simp [results, Tryz.results7, go_sem]) rfl ?_)
    exact ⟨by rw [HR.out.1, HR.out.2], EX⟩
  · have HC := Lib.hid (conf_ok hp)
    rcases pg_obj hp with h1 | ⟨h1, h2⟩ | ⟨h1, h2, h3⟩ | ⟨h1, h2, h3, h4⟩
    · obtain ⟨A, hA⟩ : ∃ A, trie.trAfterA c f l = A := ⟨_, rfl⟩
      obtain ⟨E, hE⟩ : ∃ E, trie.trErr c f = E := ⟨_, rfl⟩
      have HA := Lib.hid hA
      have HE := Lib.hid hE
      have HR : Hid (pgErr c f = E ∧ pgAfterA c f l = (A, false)) := Lib.hid (by simp only [pgErr, pgAfterA, hp, h1, if_true]; exact ⟨hE, by rw [hA]⟩)
      clear hp hA hE
      go_enter Tryz.func7, Tryz.ntmps7
      go_wp2_with (first | (go_at_call 9; refine (partCheck_any c _).mono ?_; rintro e w1 ⟨rfl, os1, n1, rfl⟩; rw [HC.out]) | (go_at_call 10; refine (pgOf_1 c.object h1 _).mono ?_; rintro e w1 ⟨rfl, os2, n2, rfl⟩) | (go_at_call 23; (refine (trie.trAfter_any c f l HF.out HL.out _ (Tab.ext HT.out EX)).mono ?_; rintro e w1 ⟨rfl, os3, n3, rfl⟩; rw [HA.out, HE.out])))
      go_region
      go_wp2
      (refine bodyPost_ret (v := pgOutV (A, false) E) (by simp [results, Tryz.results7, go_sem]) rfl ?_)
      exact ⟨by rw [HR.out.1, HR.out.2], EX⟩
    · obtain ⟨Z, hZ⟩ : ∃ Z, tree.treOutV (tree.treAfterA c f l) (tree.treErr c f) = Z := ⟨_, rfl⟩
      obtain ⟨G, K, U, T, E, rfl⟩ : ∃ (G : Frm) (K U : Int) (T : Bool) (E : Int), Z = .tuple #[G.v, .agg #[.int .u64 K, .int .u64 U], .bool T, .int .i64 E] := ⟨_, _, _, _, _, hZ.symm⟩
      have HA := Lib.hid hZ
      have HR : Hid (pgErr c f = tree.treErr c f ∧ pgAfterA c f l = tree.treAfterA c f l) := Lib.hid (by simp only [pgErr, pgAfterA, hp, h1, h2, if_true, Bool.false_eq_true, if_false]; exact ⟨trivial, trivial⟩)
      clear hp hZ
      go_enter Tryz.func7, Tryz.ntmps7
      go_wp2_with (first | (go_at_call 9; refine (partCheck_any c _).mono ?_; rintro e w1 ⟨rfl, os1, n1, rfl⟩; rw [HC.out]) | (go_at_call 10; refine (pgOf_2 c.object h1 h2 _).mono ?_; rintro e w1 ⟨rfl, os2, n2, rfl⟩) | (go_at_call 16; (refine (tree.treAfter_any c f l HF.out HL.out _ (Tab.ext HT.out EX)).mono ?_; rintro e w1 ⟨rfl, os3, n3, rfl⟩; rw [HA.out])))
      (refine bodyPost_ret (v := .tuple #[G.v, .agg #[.int .u64 K, .int .u64 U], .bool T, .int .i64 E]) (by simp [results, Tryz.results7, go_sem]) rfl ?_)
      exact ⟨by rw [HR.out.1, HR.out.2]; exact congrArg Ending.returned HA.out.symm, EX⟩
    · obtain ⟨A, hA⟩ : ∃ A, gate.gateAfterA c f l = A := ⟨_, rfl⟩
      obtain ⟨E, hE⟩ : ∃ E, gate.gateErr c f = E := ⟨_, rfl⟩
      have HA := Lib.hid hA
      have HE := Lib.hid hE
      have HR : Hid (pgErr c f = E ∧ pgAfterA c f l = (A, false)) := Lib.hid (by simp only [pgErr, pgAfterA, hp, h1, h2, h3, if_true, Bool.false_eq_true, if_false]; exact ⟨hE, by rw [hA]⟩)
      clear hp hA hE
      go_enter Tryz.func7, Tryz.ntmps7
      go_wp2_with (first | (go_at_call 9; refine (partCheck_any c _).mono ?_; rintro e w1 ⟨rfl, os1, n1, rfl⟩; rw [HC.out]) | (go_at_call 10; refine (pgOf_3 c.object h1 h3 _).mono ?_; rintro e w1 ⟨rfl, os2, n2, rfl⟩) | (go_at_call 25; (refine (gate.gateAfter_any c f l HF.out _ (Tab.ext HT.out EX)).mono ?_; rintro e w1 ⟨rfl, os3, n3, rfl⟩; rw [HA.out, HE.out])))
      go_region
      go_wp2
      (refine bodyPost_ret (v := pgOutV (A, false) E) (by simp [results, Tryz.results7, go_sem]) rfl ?_)
      exact ⟨by rw [HR.out.1, HR.out.2], EX⟩
    · obtain ⟨A, hA⟩ : ∃ A, branch.brAfterA c f l = A := ⟨_, rfl⟩
      obtain ⟨E, hE⟩ : ∃ E, branch.brErr c f = E := ⟨_, rfl⟩
      have HA := Lib.hid hA
      have HE := Lib.hid hE
      have HR : Hid (pgErr c f = E ∧ pgAfterA c f l = (A, false)) := Lib.hid (by simp only [pgErr, pgAfterA, hp, h1, h2, h3, if_true, Bool.false_eq_true, if_false]; exact ⟨hE, by rw [hA]⟩)
      clear hp hA hE
      go_enter Tryz.func7, Tryz.ntmps7
      go_wp2_with (first | (go_at_call 9; refine (partCheck_any c _).mono ?_; rintro e w1 ⟨rfl, os1, n1, rfl⟩; rw [HC.out]) | (go_at_call 10; refine (pgOf_4 c.object h1 h3 h4 _).mono ?_; rintro e w1 ⟨rfl, os2, n2, rfl⟩) | (go_at_call 27; (refine (branch.brAfter_any c f l HF.out HL.out _ (Tab.ext HT.out EX)).mono ?_; rintro e w1 ⟨rfl, os3, n3, rfl⟩; rw [HA.out, HE.out])))
      go_region
      go_wp2
      (refine bodyPost_ret (v := pgOutV (A, false) E) (by simp [results, Tryz.results7, go_sem]) rfl ?_)
      exact ⟨by rw [HR.out.1, HR.out.2], EX⟩
end Go.Proofs.YtmhmaifmendebaaGreatDoor
/- The walk of the reference's 'After', of all four objects. -/
namespace Go.Proofs.YtmhmaifmendebaaGreatDoor
open Go Go.RowKit
set_option maxRecDepth 100000
set_option maxHeartbeats 8000000

theorem pgAfterR_any (c : Cfg) (f : Frm) (l : Cel) (hf : f.Fits) (hl : l.Fits) (w : World) : Calls Tryz.prog 8 #[c.v, f.v, l.v] w
    fun e w' => e = .returned (pgOutV (pgAfterA c f l) (pgErr c f)) ∧ Ext w w' := by
  have HF := Lib.hid hf
  have HL := Lib.hid hl
  clear hf hl
  cases hp : partOk c
  · have HC := Lib.hid hp
    have HR : Hid (pgErr c f = 40 ∧ pgAfterA c f l = (zeroFrm, false)) := Lib.hid (by simp [pgErr, pgAfterA, hp])
    clear hp
    go_enter Tryz.func8, Tryz.ntmps8
    go_wp2_with (go_at_call 11; refine (mayBe_any c _).mono ?_; rintro e w1 ⟨rfl, os1, n1, rfl⟩; rw [HC.out])
    (refine bodyPost_ret (v := pgOutV (zeroFrm, false) 40) (by simp [results, Tryz.results8, go_sem]) rfl ?_)
    exact ⟨by rw [HR.out.1, HR.out.2], EX⟩
  · have HC := Lib.hid hp
    rcases pg_obj hp with h1 | ⟨h1, h2⟩ | ⟨h1, h2, h3⟩ | ⟨h1, h2, h3, h4⟩
    · obtain ⟨A, hA⟩ : ∃ A, trie.trAfterA c f l = A := ⟨_, rfl⟩
      obtain ⟨E, hE⟩ : ∃ E, trie.trErr c f = E := ⟨_, rfl⟩
      have HA := Lib.hid hA
      have HE := Lib.hid hE
      have HR : Hid (pgErr c f = E ∧ pgAfterA c f l = (A, false)) := Lib.hid (by simp only [pgErr, pgAfterA, hp, h1, if_true]; exact ⟨hE, by rw [hA]⟩)
      clear hp hA hE
      go_enter Tryz.func8, Tryz.ntmps8
      go_wp2_with (first | (go_at_call 11; refine (mayBe_any c _).mono ?_; rintro e w1 ⟨rfl, os1, n1, rfl⟩; rw [HC.out]) | (go_at_call 17; (refine (trie.trAfterR_any c f l HF.out HL.out _).mono ?_; rintro e w1 ⟨rfl, os3, n3, rfl⟩; rw [HA.out, HE.out])))
      (refine bodyPost_ret (v := pgOutV (A, false) E) (by simp [results, Tryz.results8, go_sem]) rfl ?_)
      exact ⟨by rw [HR.out.1, HR.out.2], EX⟩
    · obtain ⟨Z, hZ⟩ : ∃ Z, tree.treOutV (tree.treAfterA c f l) (tree.treErr c f) = Z := ⟨_, rfl⟩
      obtain ⟨G, K, U, T, E, rfl⟩ : ∃ (G : Frm) (K U : Int) (T : Bool) (E : Int), Z = .tuple #[G.v, .agg #[.int .u64 K, .int .u64 U], .bool T, .int .i64 E] := ⟨_, _, _, _, _, hZ.symm⟩
      have HA := Lib.hid hZ
      have HR : Hid (pgErr c f = tree.treErr c f ∧ pgAfterA c f l = tree.treAfterA c f l) := Lib.hid (by simp only [pgErr, pgAfterA, hp, h1, h2, if_true, Bool.false_eq_true, if_false]; exact ⟨trivial, trivial⟩)
      clear hp hZ
      go_enter Tryz.func8, Tryz.ntmps8
      go_wp2_with (first | (go_at_call 11; refine (mayBe_any c _).mono ?_; rintro e w1 ⟨rfl, os1, n1, rfl⟩; rw [HC.out]) | (go_at_call 18; (refine (tree.treAfterR_any c f l HF.out HL.out _).mono ?_; rintro e w1 ⟨rfl, os3, n3, rfl⟩; rw [HA.out])))
      (refine bodyPost_ret (v := .tuple #[G.v, .agg #[.int .u64 K, .int .u64 U], .bool T, .int .i64 E]) (by simp [results, Tryz.results8, go_sem]) rfl ?_)
      exact ⟨by rw [HR.out.1, HR.out.2]; exact congrArg Ending.returned HA.out.symm, EX⟩
    · obtain ⟨A, hA⟩ : ∃ A, gate.gateAfterA c f l = A := ⟨_, rfl⟩
      obtain ⟨E, hE⟩ : ∃ E, gate.gateErr c f = E := ⟨_, rfl⟩
      have HA := Lib.hid hA
      have HE := Lib.hid hE
      have HR : Hid (pgErr c f = E ∧ pgAfterA c f l = (A, false)) := Lib.hid (by simp only [pgErr, pgAfterA, hp, h1, h2, h3, if_true, Bool.false_eq_true, if_false]; exact ⟨hE, by rw [hA]⟩)
      clear hp hA hE
      go_enter Tryz.func8, Tryz.ntmps8
      go_wp2_with (first | (go_at_call 11; refine (mayBe_any c _).mono ?_; rintro e w1 ⟨rfl, os1, n1, rfl⟩; rw [HC.out]) | (go_at_call 19; (refine (gate.gateAfterR_any c f l HF.out HL.out _).mono ?_; rintro e w1 ⟨rfl, os3, n3, rfl⟩; rw [HA.out, HE.out])))
      (refine bodyPost_ret (v := pgOutV (A, false) E) (by simp [results, Tryz.results8, go_sem]) rfl ?_)
      exact ⟨by rw [HR.out.1, HR.out.2], EX⟩
    · obtain ⟨A, hA⟩ : ∃ A, branch.brAfterA c f l = A := ⟨_, rfl⟩
      obtain ⟨E, hE⟩ : ∃ E, branch.brErr c f = E := ⟨_, rfl⟩
      have HA := Lib.hid hA
      have HE := Lib.hid hE
      have HR : Hid (pgErr c f = E ∧ pgAfterA c f l = (A, false)) := Lib.hid (by simp only [pgErr, pgAfterA, hp, h1, h2, h3, if_true, Bool.false_eq_true, if_false]; exact ⟨hE, by rw [hA]⟩)
      clear hp hA hE
      go_enter Tryz.func8, Tryz.ntmps8
      go_wp2_with (first | (go_at_call 11; refine (mayBe_any c _).mono ?_; rintro e w1 ⟨rfl, os1, n1, rfl⟩; rw [HC.out]) | (go_at_call 20; (refine (branch.brAfterR_any c f l HF.out HL.out _).mono ?_; rintro e w1 ⟨rfl, os3, n3, rfl⟩; rw [HA.out, HE.out])))
      (refine bodyPost_ret (v := pgOutV (A, false) E) (by simp [results, Tryz.results8, go_sem]) rfl ?_)
      exact ⟨by rw [HR.out.1, HR.out.2], EX⟩
end Go.Proofs.YtmhmaifmendebaaGreatDoor
