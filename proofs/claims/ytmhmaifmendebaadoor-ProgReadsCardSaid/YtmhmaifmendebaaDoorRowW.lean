/- A law's row where three variables are listed: what the condition gives. -/
import Derived.Test.YtmhmaifmendebaaDoorRow
namespace Go.Proofs.YtmhmaifmendebaaDoor
open Go.ChangeShapes Go.WideShapes Go.ChangeAt Go.WideMaps Go.WideElems Go.RowKit Go.Joins Go.Deep
set_option maxRecDepth 100000
set_option maxHeartbeats 8000000

/-- The package variable 'writers' holds what the text lays, too. -/
def TabW (w : World) : Prop := Tab w ∧ 0 < w.heap.size ∧ ∀ k : Nat, k < 15 → w.cell? ⟨0, k, none⟩ = some (.bool (writesB k))
theorem TabW.ext {w w' : World} (h : TabW w) (e : Ext w w') : TabW w' :=
  ⟨h.1.ext e, Nat.lt_of_lt_of_le h.2.1 e.size, fun k hk => (e.cell.1 _ k h.2.1).trans (h.2.2 k hk)⟩
theorem TabW.wr {w : World} (h : TabW w) {k : Int} (hk0 : 0 ≤ k) (hk : k < 15) : w.cell? ⟨0, k.toNat, none⟩ = some (.bool (writesB k)) := by
  have h1 := h.2.2 k.toNat (by omega)
  rw [h1]
  congr
  omega
theorem gWriters : Tryd.prog.globalNamed "bascule/op.writers" = some 0 := by kernel_rfl
theorem tWriters : (Tryd.prog.globals[0]?).map (·.type) = some 57 := by kernel_rfl
theorem cellsBool : Tryd.prog.cellsOf 4 = 1 := by kernel_rfl
abbrev laidL3 : List (String × DataW Unit) := [("bascule/rank.powers", Rows.laid_bascule_rank_powers), ("bascule/op.objects", Rows.laid_bascule_op_objects), ("bascule/op.writers", Rows.laid_bascule_op_writers)]
/-- The door's own heap meets the condition. -/
theorem door_met3 (os : Os) (args : Array Value) : laidMetH Tryd.prog laidL3 ((World.doorLaid Tryd.prog 400 os).forCall (fun _ _ => 0) ⟨#[], args, []⟩).memory :=
  laidMetH_of_parts3 (fuel := 8) (laidMet_of_run' 8 (by kernel_rfl) (by kernel_rfl)) (by kernel_rfl) (by kernel_rfl)
theorem tab_cellB {H : Type} {enc : TypeId × Value → H} {W : World} {base m : Nat} {spare : Nat → Bool} {held : Bool} {l : List Value} {k : Nat} {y : DataW H × List MemPlace} {n : Bool}
    (h : DataW.trod enc Tryd.prog W base spare held m 4 ((l.drop (k * 1)).take 1) = some y) (hy : y.1 = .lit (.bool n)) : l[k]? = some (.bool n) := by
  obtain ⟨a, e, rfl⟩ := DataW.trod_bool Tryd.underlying4 h
  simp only [DataW.lit.injEq, Lit.bool.injEq] at hy
  subst hy
  have h1 : ((l.drop (k * 1)).take 1)[0]? = some (.bool a) := by rw [e]; rfl
  simpa using h1
/-- What the condition gives the walks. -/
theorem tabW_of_laid {W : World} (h : laidMetH Tryd.prog laidL3 W) : TabW W := by
  rw [MakeChecks.laidMetH_plain _ _ _ (by kernel_rfl)] at h
  obtain ⟨ps, ⟨g1, t1, cs1, f1, p1, q1, hg1, ht1, hv1, hd1, ⟨g0, t0, cs0, f0, p0, q0, hg0, ht0, hv0, hd0, ⟨g2, t2, cs2, f2, p2, q2, hg2, ht2, hv2, hd2, _, _⟩, _⟩, _⟩, _, _⟩ := h
  obtain rfl := Option.some.inj (gObjects.symm.trans hg0)
  obtain rfl := Option.some.inj (tObjects.symm.trans ht0)
  obtain rfl := Option.some.inj (gPowers.symm.trans hg1)
  obtain rfl := Option.some.inj (tPowers.symm.trans ht1)
  obtain rfl := Option.some.inj (gWriters.symm.trans hg2)
  obtain rfl := Option.some.inj (tWriters.symm.trans ht2)
  obtain ⟨zs, m3, rfl, hz1, hlen3, hn5, hel3⟩ := DataW.trod_array Tryd.underlying57 hd2
  rw [cellsBool] at hel3
  simp only [Prod.mk.injEq, Rows.laid_bascule_op_writers, DataW.agg.injEq] at hz1
  obtain ⟨xs, m1, rfl, hx1, hlen, hn3, hel⟩ := DataW.trod_array Tryd.underlying66 hd0
  obtain ⟨ys, m2, rfl, hy1, hlen2, hn4, hel2⟩ := DataW.trod_array Tryd.underlying108 hd1
  rw [cellsU8] at hel
  rw [cells5] at hel2
  simp only [Prod.mk.injEq, Rows.laid_bascule_op_objects, DataW.agg.injEq] at hx1
  simp only [Prod.mk.injEq, Rows.laid_bascule_rank_powers, DataW.agg.injEq] at hy1
  have hc : ∀ k : Nat, k < 15 → W.cell? ⟨1, k, none⟩ = some (.int .u8 (objOf k)) := fun k hk => by
    have h1 := hel k hk
    have hk' : k < xs.length := by omega
    rw [List.getElem?_eq_getElem hk'] at h1
    have hy : (xs.map (·.1))[k]? = some (xs[k].1) := by simp [hk']
    rw [← hx1.1] at hy
    have h2 := World.var?_cell hg0 hv0 k
    rw [h2, ← Array.getElem?_toList]
    refine tab_cell h1 ?_
    have h3 : xs[k].1 = DataW.lit (.int .u8 (objOf k)) := by
      refine Option.some.inj (hy.symm.trans ?_)
      obtain h | h | h | h | h | h | h | h | h | h | h | h | h | h | h : k = 0 ∨ k = 1 ∨ k = 2 ∨ k = 3 ∨ k = 4 ∨ k = 5 ∨ k = 6 ∨ k = 7 ∨ k = 8 ∨ k = 9 ∨ k = 10 ∨ k = 11 ∨ k = 12 ∨ k = 13 ∨ k = 14 := by omega
      all_goals (subst h; rfl)
    exact h3
  have hrow : ∀ i : Nat, i < 3 → ∀ k : Nat, k < 5 → W.cell? ⟨2, i * 5 + k, none⟩ = some (.int .i64 (powI (i * 5 + k))) := fun i hi k hk => by
    have h1 := hel2 i hi
    have hi' : i < ys.length := by omega
    rw [List.getElem?_eq_getElem hi'] at h1
    have hy : (ys.map (·.1))[i]? = some (ys[i].1) := by simp [hi']
    rw [← hy1.1] at hy
    have h2 := World.var?_cell hg1 hv1 (i * 5 + k)
    rw [h2, ← Array.getElem?_toList]
    obtain rfl | rfl | rfl : i = 0 ∨ i = 1 ∨ i = 2 := by omega
    all_goals
      rw [tab_row h1 (Option.some.inj (hy.symm.trans rfl)) k hk]
      obtain h | h | h | h | h : k = 0 ∨ k = 1 ∨ k = 2 ∨ k = 3 ∨ k = 4 := by omega
      all_goals (subst h; rfl)
  have hw : ∀ k : Nat, k < 15 → W.cell? ⟨2, k, none⟩ = some (.int .i64 (powI k)) := fun k hk => by
    have h1 := hrow (k / 5) (by omega) (k % 5) (by omega)
    rwa [show k / 5 * 5 + k % 5 = k by omega] at h1
  have hww : ∀ k : Nat, k < 15 → W.cell? ⟨0, k, none⟩ = some (.bool (writesB k)) := fun k hk => by
    have h1 := hel3 k hk
    have hk' : k < zs.length := by omega
    rw [List.getElem?_eq_getElem hk'] at h1
    have hy : (zs.map (·.1))[k]? = some (zs[k].1) := by simp [hk']
    rw [← hz1.1] at hy
    have h2 := World.var?_cell hg2 hv2 k
    rw [h2, ← Array.getElem?_toList]
    refine tab_cellB h1 ?_
    have h3 : zs[k].1 = DataW.lit (.bool (writesB k)) := by
      refine Option.some.inj (hy.symm.trans ?_)
      obtain h | h | h | h | h | h | h | h | h | h | h | h | h | h | h : k = 0 ∨ k = 1 ∨ k = 2 ∨ k = 3 ∨ k = 4 ∨ k = 5 ∨ k = 6 ∨ k = 7 ∨ k = 8 ∨ k = 9 ∨ k = 10 ∨ k = 11 ∨ k = 12 ∨ k = 13 ∨ k = 14 := by omega
      all_goals (subst h; rfl)
    exact h3
  exact ⟨⟨World.block_lt_of_cell? (w := W) (a := ⟨1, 0, none⟩) (hc 0 (by omega)), hc, World.block_lt_of_cell? (w := W) (a := ⟨2, 0, none⟩) (hw 0 (by omega)), hw⟩, World.block_lt_of_cell? (w := W) (a := ⟨0, 0, none⟩) (hww 0 (by omega)), hww⟩
end Go.Proofs.YtmhmaifmendebaaDoor
