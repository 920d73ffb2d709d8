/- The walk of 'slices.Insert' at rows, one row, into a slice of the call's own. -/
import Derived.Test.YtknfikdignpniaaDoorRef6b
import Derived.Test.YtknfikdignpniaaDoorInsP
import Derived.Deep.RegionLaw
namespace Go.Proofs.YtknfikdignpniaaDoor
open Go Go.RowKit
set_option maxRecDepth 100000
set_option maxHeartbeats 8000000

def InsP (w : World) (base : Nat) (v : Value) (L : List Rw) (e : Ending) (w' : World) : Prop := ∃ r, e = .returned r ∧ w'.ownsRow base 44 2 r L.length (rwCells L) ∧ w.grownBy w' v.ownBlock
theorem cell_of_heap {w : World} {g : Nat} {cur : Array Value} {t : TypeId} {fr : Nat × Nat} (h : w.heap[g]? = some (.cells cur t fr)) (j : Nat) : w.cell? ⟨g, j, none⟩ = cur[j]? := by
  simp [World.cell?, h]
theorem frozen_of_heap {w : World} {g : Nat} {cur : Array Value} {t : TypeId} (h : w.heap[g]? = some (.cells cur t (0, 0))) (j : Nat) : w.frozen? ⟨g, j, none⟩ = false := by
  simp [World.frozen?, h]
theorem shape_of_heap {w : World} {g : Nat} {cur : Array Value} {t : TypeId} (h : w.heap[g]? = some (.cells cur t (0, 0))) : w.shape? g = some (t, cur.size) := by
  simp [World.shape?, h]

theorem ins_end (v : Value) (L : List Rw) (x : Rw) (vb base : Nat) (w : World) (hown : w.ownsRow base 44 2 v L.length (rwCells L)) (hn : L.length ≤ 1000) (hb : base ≤ w.heap.size)
    (hx : RwAt w vb 0 x) : Calls Tryd.prog 44 #[v, .int .i64 L.length, .slice (some ⟨vb, 0, none⟩) 1 1] w (InsP w base v (L ++ [x])) := by
  obtain ⟨ad, cap, rfl⟩ := own_form hown
  have HOWN := Lib.hid hown
  have HX := Lib.hid hx
  have hlc : L.length ≤ cap := by
    rcases hown.2 with ⟨h1, h2⟩ | ⟨g, cap', cur, h1, _, _, h2, _⟩
    · omega
    · rw [(Value.slice.inj h1).2.2]; exact h2
  clear hown hx
  obtain ⟨ti, HI1, HI2, HI3, HI4⟩ := info_parts info_row; have HI := Lib.hid (And.intro HI1 (And.intro HI2 (And.intro HI3 HI4))); clear HI1 HI2 HI3 HI4
  go_enter Tryd.func44, Tryd.ntmps44
  cases ad with
  | none =>
    go_wp2_with (at_builtin; refine wpList_append_own_at _ rfl _ _ 30 rfl base 44 ti _ 2 16 Tryd.underlying30 HI.out.1 HI.out.2.1 HI.out.2.2.1 HI.out.2.2.2 rfl (by decide) (.slice none L.length cap) L.length (rwCells L) (by rfl) (by exact HOWN.out) _ 1 1 (rwCells [x]) (by rfl) (by rfl) (by exact rows_one HX.out) (rwCells_one _) (by unfold maxLen; omega) (by omega) hb ?_; intro v2 w2 hown2 hgrow2 _ hat2; have HO2 := Lib.hid hown2; have HG2 := Lib.hid hgrow2; clear hown2 hgrow2 hat2)
    go_wp2
    go_ret
    exact ⟨_, rfl, by rw [rwCells_app]; simpa using HO2.out, HG2.out⟩
  | some a =>
    obtain ⟨ab, ao, asp⟩ := a
    go_wp2_with (at_builtin; refine wpList_append_own_at _ rfl _ _ 30 rfl base 44 ti _ 2 16 Tryd.underlying30 HI.out.1 HI.out.2.1 HI.out.2.2.1 HI.out.2.2.2 rfl (by decide) (.slice (some ⟨ab, ao, asp⟩) L.length cap) L.length (rwCells L) (by rfl) (by exact HOWN.out) _ 1 1 (rwCells [x]) (by rfl) (by rfl) (by exact rows_one HX.out) (rwCells_one _) (by unfold maxLen; omega) (by omega) hb ?_; intro v2 w2 hown2 hgrow2 _ hat2; have HO2 := Lib.hid hown2; have HG2 := Lib.hid hgrow2; clear hown2 hgrow2 hat2)
    all_goals go_wp2
    all_goals go_ret
    all_goals exact ⟨_, rfl, by rw [rwCells_app]; simpa using HO2.out, HG2.out⟩
end Go.Proofs.YtknfikdignpniaaDoor
