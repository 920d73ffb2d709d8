/- The walk of 'reg.joined', where each field fits, and there is room. -/
import Derived.Test.YtmbodooikfmegaaDoorJn5
import Derived.Test.YtmbodooikfmegaaDoorOwnI
import Derived.Test.YtmbodooikfmegaaDoorCells
import Derived.LoopTactic
namespace Go.Proofs.YtmbodooikfmegaaDoor
open Go Go.RowKit

theorem info_fld : (Tryd.prog.info? 118).map (fun i => (i.zero, i.size, i.bytes)) = some (some (.agg #[.int .i64 0, .int .u64 0]), 2, 16) := by kernel_rfl
/-- The cells of fields. -/
def fldCells (bs vs : Nat → Int) : Nat → List Value
  | 0 => []
  | k + 1 => fldCells bs vs k ++ [.int .i64 (bs k), .int .u64 (vs k)]
theorem fldCells_len (bs vs : Nat → Int) (k : Nat) : (fldCells bs vs k).length = k * 2 := by
  induction k with
  | zero => rfl
  | succ k ih => simp [fldCells, ih]; omega
theorem fldCells_at (bs vs : Nat → Int) (n i : Nat) (h : i < n) : (fldCells bs vs n)[i * 2]? = some (.int .i64 (bs i)) ∧ (fldCells bs vs n)[i * 2 + 1]? = some (.int .u64 (vs i)) := by
  induction n with
  | zero => omega
  | succ n ih =>
    have hl := fldCells_len bs vs n
    by_cases e : i = n
    · subst e
      constructor
      · rw [fldCells, List.getElem?_append_right (by omega)]
        simp [hl]
      · rw [fldCells, List.getElem?_append_right (by omega)]
        simp [hl]
    · have := ih (by omega)
      constructor
      · rw [fldCells, List.getElem?_append_left (by omega)]
        exact this.1
      · rw [fldCells, List.getElem?_append_left (by omega)]
        exact this.2
theorem two_cells {w : World} {b : Nat} {x y : Value} (h : w.cell? ⟨b, 0, none⟩ = some x) (h2 : w.cell? ⟨b, 1, none⟩ = some y) : ∀ (j : Nat) (u : Value), [x, y][j]? = some u → w.cell? ((⟨b, 0, none⟩ : Addr).add j) = some u := by
  intro j u hu
  match j, hu with
  | 0, hu => simp at hu; subst hu; exact h
  | 1, hu => simp at hu; subst hu; exact h2
  | j + 2, hu => simp at hu
/-- A row of the call's own that is not empty: where it lies. -/
theorem own_lies {w : World} {base : Nat} {e : TypeId} {size n : Nat} {v : Value} {xs : List Value} (h : w.ownsRow base e size v n xs) (hn : 0 < n) :
    ∃ g cap, v = .slice (some ⟨g, 0, none⟩) n cap ∧ g < w.heap.size ∧ ∀ (j : Nat) (u : Value), xs[j]? = some u → w.cell? ⟨g, j, none⟩ = some u := by
  obtain ⟨h1, h2⟩ := h
  rcases h2 with ⟨rfl, rfl⟩ | ⟨g, cap, cur, rfl, hg, hc, hn', hcap, hs, ht⟩
  · exact absurd hn (Nat.lt_irrefl _)
  · refine ⟨g, cap, rfl, (Array.getElem?_eq_some_iff.1 hc).1, fun j u hu => ?_⟩
    have hj : j < xs.length := (List.getElem?_eq_some_iff.1 hu).1
    rw [← ht, List.getElem?_take] at hu
    split at hu
    · simp only [World.cell?, hc, Option.isSome_none, Bool.false_eq_true, if_false]
      simpa using hu
    · cases hu
/-- Numbers in a slice. -/
abbrev i64s (bs : Nat → Int) (n : Nat) : List Value := (List.range n).map fun i => .int .i64 (bs i)
abbrev u64s (vs : Nat → Int) (n : Nat) : List Value := (List.range n).map fun i => .int .u64 (vs i)
set_option maxRecDepth 100000 in
set_option maxHeartbeats 4000000 in
theorem joined_any (n : Nat) (bs vs : Nat → Int) (h1 : 1 ≤ n) (hn : n ≤ 100) (hbs : ∀ k, k < n → (1 ≤ bs k ∧ bs k ≤ 32) ∧ (0 ≤ offF bs k ∧ offF bs k ≤ 64 - bs k) ∧ (0 ≤ vs k ∧ vs k ≤ 2 ^ (bs k).toNat - 1)) (b1 b2 : Value) (w : World)
    (hb : Sl w b1 n (i64s bs n)) (hv : Sl w b2 n (u64s vs n)) :
    Calls Tryd.prog 31 #[b1, b2] w fun e w' => (∃ x, e = .returned (.tuple #[.int .u64 x, .int .i64 0])) ∧ Ext w w' := by
  obtain ⟨ad, cap, rfl, hb⟩ := hb
  obtain ⟨ad2, cap2, rfl, hv⟩ := hv
  obtain ⟨p1, o1, rfl, hb2⟩ := hb.pos (by omega)
  obtain ⟨p2, o2, rfl, hv2⟩ := hv.pos (by omega)
  have HB := Lib.hid hb2
  have HV := Lib.hid hv2
  have HBS := Lib.hid hbs
  obtain ⟨i1, hi, hz0, hz1, hz2⟩ := info_parts info_fld
  have HI1 := Lib.hid (And.intro hi (And.intro hz0 (And.intro hz1 hz2)))
  clear hb hv hb2 hv2 hbs hi hz0 hz1 hz2
  go_enter Tryd.func31, Tryd.ntmps31
  go_wp2
  go_loopw [6, 7, 8, 11] (fun t6 t7 t8 i wr => ∃ k : Nat, k ≤ n ∧ i = .int .i64 k ∧ Hid (wr.ownsRow w.heap.size 118 2 t6 k (fldCells bs vs k)) ∧ Hid (Ext w wr)) (fun _ _ _ i _ => n - (intOf i).toNat)
  case atStart => exact ⟨0, Nat.zero_le _, rfl, Lib.hid (own_nil _ _ _ _), Lib.hid (by repeat (first | with_reducible exact Ext.refl _ | with_reducible assumption | with_reducible refine Ext.alloc ?_ _ | with_reducible refine Ext.gr ?_ _ | with_reducible refine Ext.drewN ?_ _ | with_reducible refine Ext.drew ?_ | with_reducible refine Ext.setCell ?_ ?_ _ | with_reducible refine Ext.more ?_ _ _ | (show _ ≤ _; dsimp only; omega)))⟩
  case round =>
    obtain ⟨k, hk, rfl, HA, HE⟩ := hrel
    by_cases hlt : k < n
    · obtain ⟨X, hX⟩ : ∃ X, bs k = X := ⟨_, rfl⟩
      obtain ⟨V, hV⟩ : ∃ V, vs k = V := ⟨_, rfl⟩
      have c1 := ext_cell HE.out (HB.out k (.int .i64 X) (by simp [i64s, hlt, hX]))
      have c2 := ext_cell HE.out (HV.out k (.int .u64 V) (by simp [u64s, hlt, hV]))
      have l1 := World.block_lt_of_cell? _ _ c1
      have l2 := World.block_lt_of_cell? _ _ c2
      dsimp only at l1 l2
      have hsz : w.heap.size ≤ wr.heap.size := HE.out.size
      have HXV := Lib.hid (And.intro hX hV)
      obtain ⟨adk, capk, e6⟩ := own_form HA.out
      have i0 : (0 : Int) ≤ (k : Int) := by omega
      have i1' : (k : Int) < (n : Int) := by omega
      clear hX hV
      go_wp2_with (at_builtin; refine wpList_append_own_at _ rfl _ _ 116 rfl w.heap.size 118 i1 (.agg #[.int .i64 0, .int .u64 0]) 2 16 Tryd.underlying116 HI1.out.1 HI1.out.2.1 HI1.out.2.2.1 HI1.out.2.2.2 rfl (by decide) u6 k (fldCells bs vs k) (by rfl) (by exact own_ext HA.out (by first | ((repeat (first | with_reducible exact Ext.refl _ | with_reducible assumption | with_reducible refine Ext.alloc ?_ _ | with_reducible refine Ext.gr ?_ _ | with_reducible refine Ext.drewN ?_ _ | with_reducible refine Ext.drew ?_ | with_reducible refine Ext.setCell ?_ ?_ _ | with_reducible refine Ext.more ?_ _ _ | (show _ ≤ _; dsimp only; omega))); done) | ((repeat (first | with_reducible exact Ext.refl _ | with_reducible assumption | with_reducible apply Ext.bothR | with_reducible refine Ext.alloc ?_ _ | with_reducible refine Ext.gr ?_ _ | with_reducible refine Ext.drewN ?_ _ | with_reducible refine Ext.drew ?_ | with_reducible refine Ext.setCell ?_ ?_ _ | with_reducible refine Ext.more ?_ _ _ | (show _ ≤ _; dsimp only; omega))); done))) _ 1 1 [.int .i64 X, .int .u64 V] (by rfl) (by rfl) (by exact two_cells (by simp [go_sem]) (by simp [go_sem])) (by simp [Value.oneCell']) (by unfold maxLen; omega) (by omega) (by simp [go_sem]; omega) ?_; intro v2 w2 hown2 hgrow2 _ _; have HO2 := Lib.hid hown2; have HG2 := Lib.hid hgrow2; clear hown2 hgrow2)
      go_roundw
      case rel => exact ⟨k + 1, by omega, by go_num, Lib.hid (by rw [fldCells, HXV.out.1, HXV.out.2]; exact HO2.out), Lib.hid (ext_grown (Ext.trans HE.out (by first | ((repeat (first | with_reducible exact Ext.refl _ | with_reducible assumption | with_reducible refine Ext.alloc ?_ _ | with_reducible refine Ext.gr ?_ _ | with_reducible refine Ext.drewN ?_ _ | with_reducible refine Ext.drew ?_ | with_reducible refine Ext.setCell ?_ ?_ _ | with_reducible refine Ext.more ?_ _ _ | (show _ ≤ _; dsimp only; omega))); done) | ((repeat (first | with_reducible exact Ext.refl _ | with_reducible assumption | with_reducible apply Ext.bothR | with_reducible refine Ext.alloc ?_ _ | with_reducible refine Ext.gr ?_ _ | with_reducible refine Ext.drewN ?_ _ | with_reducible refine Ext.drew ?_ | with_reducible refine Ext.setCell ?_ ?_ _ | with_reducible refine Ext.more ?_ _ _ | (show _ ≤ _; dsimp only; omega))); done))) HG2.out (fun j hj => (own_block HA.out hj).1))⟩
      case measure => simp [intOf]; omega
    · obtain rfl : k = n := by omega
      obtain ⟨g, capg, e6, hg, hc⟩ := own_lies HA.out (by omega)
      have HF : Hid (∀ i, i < k → wr.cell? ⟨g, 0 + i * 2, none⟩ = some (.int .i64 (bs i)) ∧ wr.cell? ⟨g, 0 + i * 2 + 1, none⟩ = some (.int .u64 (vs i))) := Lib.hid fun i hi => by
        rw [Nat.zero_add]
        exact ⟨hc _ _ (fldCells_at bs vs k i hi).1, hc _ _ (fldCells_at bs vs k i hi).2⟩
      subst e6
      clear hc
      go_wp2_with (go_at_call 63; refine (join_any k capg g 0 bs vs (by omega) HBS.out _ hg HF.out).mono ?_; rintro e w1 ⟨⟨x, rfl⟩, os1, n1, rfl⟩)
      exact bodyPost_ret (v := .tuple #[.int .u64 x, .int .i64 0]) (by simp [results, Tryd.results31, go_sem]) rfl ⟨⟨x, rfl⟩, HE.out.trans (by repeat (first | with_reducible exact Ext.refl _ | with_reducible assumption | with_reducible refine Ext.alloc ?_ _ | with_reducible refine Ext.gr ?_ _ | with_reducible refine Ext.drewN ?_ _ | with_reducible refine Ext.drew ?_ | with_reducible refine Ext.setCell ?_ ?_ _ | with_reducible refine Ext.more ?_ _ _ | (show _ ≤ _; dsimp only; omega)))⟩
end Go.Proofs.YtmbodooikfmegaaDoor
