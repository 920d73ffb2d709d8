/- The walk of 'ProgReads'. -/
import Derived.Test.YtmhmaifmendebaaDoorPgE
import Derived.Test.YtmhmaifmendebaaDoorPgT
import Derived.Test.YtmhmaifmendebaaDoorRowW
namespace Go.Proofs.YtmhmaifmendebaaDoor
open Go Go.RowKit
set_option maxRecDepth 100000
set_option maxHeartbeats 8000000

theorem writes_any (k : Int) (hk : 1 ≤ k ∧ k ≤ 14) (w : World) (ht : TabW w) : Calls Tryd.prog 13 #[.int .u8 k] w fun e w' => e = .returned (.bool (writesB k)) ∧ Ext w w' := by
  have h1 := ht.wr (k := k) (by omega) (by omega)
  have h2 : k < 15 := by omega
  have h3 : 0 ≤ k := by omega
  clear ht
  go_enter Tryd.func13, Tryd.ntmps13
  go_wp2
  go_ret
  exact ⟨rfl, EX⟩
theorem writes_as (k : Int) (R : Bool) (hR : writesB k = R) (hk : 1 ≤ k ∧ k ≤ 14) (w : World) (ht : TabW w) : Calls Tryd.prog 13 #[.int .u8 k] w fun e w' => e = .returned (.bool R) ∧ Ext w w' := by
  subst hR
  exact writes_any k hk w ht
theorem pg_kind {c : Cfg} {f : Frm} (h : pgErr c f = 0) : 1 ≤ f.kind ∧ f.kind ≤ 14 := by
  have key : ∀ o : Opn, o.kind = f.kind → opErr c o = 0 → 1 ≤ f.kind ∧ f.kind ≤ 14 := by
    intro o ho he
    rw [← ho]
    unfold opErr at he
    split at he
    · rename_i hp
      split at he
      · rename_i h2
        refine kind_of ?_ h2
        simp only [partOk, Bool.and_eq_true, decide_eq_true_eq] at hp
        omega
      · cases he
    · cases he
  unfold pgErr at h
  split at h
  · split at h
    · obtain ⟨_, _, hm⟩ := trie.trErr_ok h
      simp only [trie.trMay, Bool.and_eq_true, beq_iff_eq] at hm
      exact key (trie.trOp f) rfl hm.1.1
    · split at h
      · obtain ⟨_, _, hm⟩ := tree.treErr_ok h
        exact key (tree.treOp f) rfl (tree.treMay_facts hm).1
      · split at h
        · obtain ⟨_, _, hm⟩ := gate.gateErr_ok (c := c) (f := f) (by simpa using h)
          exact key (gate.gateOp f) rfl (gate.gateMay_facts hm).1
        · have hm : branch.brMay c f = true := by
            unfold branch.brErr at h
            split at h
            · split at h
              · assumption
              · cases h
            · cases h
          simp only [branch.brMay, Bool.and_eq_true, beq_iff_eq] at hm
          exact key (branch.brOp f) rfl hm.1.1.1.1.1.1.1.1.1.1
  · cases h
theorem pg_bad {c : Cfg} {f : Frm} {l : Cel} (h : (pgErr c f == 0) = false) : pgAfterA c f l = (zeroFrm, false) := by
  unfold pgErr at h
  unfold pgAfterA
  split at h
  · rename_i hp
    rw [if_pos hp]
    split at h
    · rename_i h1
      rw [if_pos h1]
      simp [trie.trAfterA, h]
    · rename_i h1
      rw [if_neg h1]
      split at h
      · rename_i h2
        rw [if_pos h2]
        simp [tree.treAfterA, h]
      · rename_i h2
        rw [if_neg h2]
        split at h
        · rename_i h3
          rw [if_pos h3]
          simp [gate.gateAfterA, h]
        · rename_i h3
          rw [if_neg h3]
          simp [branch.brAfterA, h]
  · rename_i hp
    rw [if_neg hp]
theorem progReads_walk (c : Cfg) (f : Frm) (l : Cel) (hf : f.Fits) (hl : l.Fits) (w : World) (ht : TabW w) : Calls Tryd.prog 6 #[c.v, f.v, l.v] w
    fun e w' => e = .returned (.bool true) ∧ Ext w w' := by
  have HTW := Lib.hid ht
  have HT := Lib.hid ht.1
  have HF := Lib.hid hf
  have HL := Lib.hid hl
  obtain ⟨A, hA⟩ : ∃ A, pgNextA c f = A := ⟨_, rfl⟩
  obtain ⟨E, hE⟩ : ∃ E, pgErr c f = E := ⟨_, rfl⟩
  have HA := Lib.hid (And.intro hA hE)
  cases e0 : (E == 0)
  · have hg := pg_bad (l := l) (by rw [hE]; exact e0)
    obtain ⟨G, T, hGT⟩ : ∃ G T, (G, T) = (zeroFrm, false) := ⟨_, _, rfl⟩
    obtain ⟨rfl, rfl⟩ : zeroFrm = G ∧ false = T := by cases hGT; exact ⟨rfl, rfl⟩
    have HG := Lib.hid hg
    obtain ⟨K, hK⟩ : ∃ K, (0 : Int) = K := ⟨_, rfl⟩
    obtain ⟨U, hU⟩ : ∃ K, (0 : Int) = K := ⟨_, rfl⟩
    have e1 : (E != 0) = true := by simpa using e0
    clear hA hE hg hGT hf hl ht
    go_enter Tryd.func6, Tryd.ntmps6
    go_wp2_with (first | (go_at_call 11; refine (alive_any _ (Tab.ext HT.out EX)).mono ?_; rintro e w1 ⟨rfl, os1, n1, rfl⟩) | (go_at_call 8; (with_reducible refine (pnext_as c f A _ HA.out.1 HA.out.2 HF.out _ (Tab.ext HT.out EX)).mono ?_); rintro e w1 ⟨rfl, os2, n2, rfl⟩) | (go_at_call 10; (with_reducible refine (pafter_as c f l zeroFrm false E 0 0 HG.out HA.out.2 rfl rfl HF.out HL.out _ (Tab.ext HT.out EX)).mono ?_); rintro e w1 ⟨rfl, os3, n3, rfl⟩))
    all_goals go_ret
    all_goals exact ⟨rfl, EX⟩
  · obtain rfl : E = 0 := by simpa using e0
    obtain ⟨h1, h2, h3⟩ := pg_reads l hE
    have HKD := Lib.hid (pg_kind hE)
    obtain ⟨G, T, hG⟩ : ∃ G T, pgAfterA c f l = (G, T) := ⟨_, _, rfl⟩
    rw [hA] at h1 h3
    rw [hG] at h2 h3
    obtain ⟨WB, hW⟩ : ∃ b, writesB f.kind = b := ⟨_, rfl⟩
    rw [hW] at h1
    have HW := Lib.hid hW
    cases k4 : (A.kind == 4)
    · have HG := Lib.hid hG
      obtain ⟨k, a, b, pc, i, j, n, p, h, x, y⟩ := G
      obtain ⟨rfl, rfl⟩ : k = f.kind ∧ a = f.a := h2
      obtain ⟨K, hK⟩ : ∃ K, (if T then x else 0) = K := ⟨_, rfl⟩
      obtain ⟨U, hU⟩ : ∃ K, (if T then y else 0) = K := ⟨_, rfl⟩
      have HK := Lib.hid (And.intro hK hU)
      have k4' : (A.kind != 4) = true := by simpa using k4
      clear hA hE hG hK hU hW hf hl ht e0 h3
      cases WB
      · have k2 : (A.kind == 2) = false := by simpa using h1 rfl
        clear h1
        go_enter Tryd.func6, Tryd.ntmps6
        go_wp2_with (first | (go_at_call 11; refine (alive_any _ (Tab.ext HT.out EX)).mono ?_; rintro e w1 ⟨rfl, os1, n1, rfl⟩) | (go_at_call 8; (with_reducible refine (pnext_as c f A _ HA.out.1 HA.out.2 HF.out _ (Tab.ext HT.out EX)).mono ?_); rintro e w1 ⟨rfl, os2, n2, rfl⟩) | (go_at_call 10; (with_reducible refine (pafter_as c f l ⟨f.kind, f.a, b, pc, i, j, n, p, h, x, y⟩ T 0 K U HG.out HA.out.2 HK.out.1 HK.out.2 HF.out HL.out _ (Tab.ext HT.out EX)).mono ?_); rintro e w1 ⟨rfl, os3, n3, rfl⟩) | (go_at_call 13; (with_reducible refine (writes_as f.kind _ HW.out HKD.out _ (TabW.ext HTW.out EX)).mono ?_); rintro e w1 ⟨rfl, os4, n4, rfl⟩))
        all_goals go_ret
        all_goals exact ⟨rfl, EX⟩
      · clear h1
        go_enter Tryd.func6, Tryd.ntmps6
        go_wp2_with (first | (go_at_call 11; refine (alive_any _ (Tab.ext HT.out EX)).mono ?_; rintro e w1 ⟨rfl, os1, n1, rfl⟩) | (go_at_call 8; (with_reducible refine (pnext_as c f A _ HA.out.1 HA.out.2 HF.out _ (Tab.ext HT.out EX)).mono ?_); rintro e w1 ⟨rfl, os2, n2, rfl⟩) | (go_at_call 10; (with_reducible refine (pafter_as c f l ⟨f.kind, f.a, b, pc, i, j, n, p, h, x, y⟩ T 0 K U HG.out HA.out.2 HK.out.1 HK.out.2 HF.out HL.out _ (Tab.ext HT.out EX)).mono ?_); rintro e w1 ⟨rfl, os3, n3, rfl⟩) | (go_at_call 13; (with_reducible refine (writes_as f.kind _ HW.out HKD.out _ (TabW.ext HTW.out EX)).mono ?_); rintro e w1 ⟨rfl, os4, n4, rfl⟩))
        all_goals go_ret
        all_goals exact ⟨rfl, EX⟩
    · have hk := h3 (by simpa using k4)
      rw [hk] at hG
      have HG := Lib.hid hG
      have k4' : (A.kind != 4) = false := by simpa using k4
      have k2 : (A.kind == 2) = false := by simp at k4; simp; omega
      clear hA hE hG hW hf hl ht e0 h1 h2 h3 hk
      cases WB
      all_goals
        go_enter Tryd.func6, Tryd.ntmps6
        go_wp2_with (first | (go_at_call 11; refine (alive_any _ (Tab.ext HT.out EX)).mono ?_; rintro e w1 ⟨rfl, os1, n1, rfl⟩) | (go_at_call 8; (with_reducible refine (pnext_as c f A _ HA.out.1 HA.out.2 HF.out _ (Tab.ext HT.out EX)).mono ?_); rintro e w1 ⟨rfl, os2, n2, rfl⟩) | (go_at_call 10; (with_reducible refine (pafter_as c f l f false 0 0 0 HG.out HA.out.2 rfl rfl HF.out HL.out _ (Tab.ext HT.out EX)).mono ?_); rintro e w1 ⟨rfl, os3, n3, rfl⟩) | (go_at_call 13; (with_reducible refine (writes_as f.kind _ HW.out HKD.out _ (TabW.ext HTW.out EX)).mono ?_); rintro e w1 ⟨rfl, os4, n4, rfl⟩))
        all_goals go_ret
        all_goals exact ⟨rfl, EX⟩
end Go.Proofs.YtmhmaifmendebaaDoor
