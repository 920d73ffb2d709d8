/- The walk of 'slices.Insert' at rows, one row, ahead of others: there is room. -/
import Derived.Test.YtknfikdignpniaaDoorIns
namespace Go.Proofs.YtknfikdignpniaaDoor
open Go Go.RowKit
set_option maxRecDepth 100000
set_option maxHeartbeats 8000000

theorem ins_shift (g cap i : Nat) (cur : Array Value) (L : List Rw) (x : Rw) (vb : Nat) (w : World) (hg : w.heap[g]? = some (.cells cur 44 (0, 0))) (hsz : cur.size = cap * 2) (htk : cur.toList.take (L.length * 2) = rwCells L)
    (hi : i < L.length) (hroom : L.length + 1 ≤ cap) (hcap : cap ≤ maxLen) (hvb : vb ≠ g) (hx : w.heap[vb]? = some (.cells #[.int .u64 x.k, .int .u64 x.v] 44 (0, 0))) :
    Calls Tryd.prog 44 #[.slice (some ⟨g, 0, none⟩) L.length cap, .int .i64 i, .slice (some ⟨vb, 0, none⟩) 1 1] w fun e w' =>
      e = .returned (.slice (some ⟨g, 0, none⟩) (L.length + 1) cap) ∧ w' = (w.drew.setCells g ((i + 1) * 2) ((rwCells L).drop (i * 2))).setCells g (i * 2) (rwCells [x]) := by
  obtain ⟨cs, hcs⟩ : ∃ cs, cs = rwCells L := ⟨_, rfl⟩
  obtain ⟨n, hn⟩ : ∃ n, n = L.length := ⟨_, rfl⟩
  obtain ⟨vs, hvs⟩ : ∃ vs, vs = rwCells [x] := ⟨_, rfl⟩
  have hcl : cs.length = n * 2 := by rw [hcs, rwCells_len, hn]
  have hvl : vs.length = 2 := by rw [hvs]; rfl
  have h1c : ∀ v ∈ cs, v.oneCell' = true := by rw [hcs]; exact rwCells_one L
  have h1v : ∀ v ∈ vs, v.oneCell' = true := by rw [hvs]; exact rwCells_one _
  rw [← hcs, ← hvs, ← hn]
  rw [← hcs, ← hn] at htk
  rw [← hn] at hi hroom
  have hcc : ∀ j v, cs[j]? = some v → w.cell? ⟨g, 0 + j, none⟩ = some v := fun j v hj => by
    rw [cell_of_heap hg, Nat.zero_add]
    have hj2 := (List.getElem?_eq_some_iff.1 hj).1
    rw [← htk, List.getElem?_take, if_pos (by omega)] at hj
    simpa using hj
  have hsp : ∀ j, j < (n + 1) * 2 → (w.cell? ⟨g, 0 + j, none⟩).isSome = true := fun j hj => by
    rw [cell_of_heap hg, Nat.zero_add, Array.getElem?_eq_getElem (by omega)]; rfl
  have hfz : ∀ j, w.frozen? ⟨g, j, none⟩ = false := frozen_of_heap hg
  have hvv : ∀ j v, vs[j]? = some v → w.cell? ⟨vb, 0 + j, none⟩ = some v := fun j v hj => by
    rw [cell_of_heap hx, Nat.zero_add]
    rw [hvs] at hj
    match j, hj with
    | 0, hj => simpa [rwCells, Rw.cells] using hj
    | 1, hj => simpa [rwCells, Rw.cells] using hj
    | j + 2, hj => simp [rwCells, Rw.cells] at hj
  have hov : ∀ lb cb, (callFunc 49 #[.slice (some ⟨vb, 0, none⟩) 1 1, .slice (some ⟨g, (i + 1) * 2, none⟩) lb cb]).run Tryd.prog w = .ok (.value (.bool false)) w := fun lb cb => by
    rw [run_callFunc_extern Tryd.func49 (by kernel_rfl) (by kernel_rfl) (by kernel_rfl) (e := Extern.SlicesOverlaps.overlaps #[30, 30] #[4]) (by kernel_rfl),
      Lib.run_overlaps_apart w 30 4 44 Tryd.underlying30 2 Tryd.sizeOf44 ⟨vb, 0, none⟩ ⟨g, (i + 1) * 2, none⟩ 1 1 lb cb hvb _ _ _ _ (shape_of_heap hx) (shape_of_heap hg) (by omega) (frozen_of_heap hx 0) (frozen_of_heap hx _)]
    rfl
  have hw1 : IntKind.i64.wrap ((i : Int) + 1) = (i : Int) + 1 := by rw [IntKind.wrap_i64]; unfold maxLen at hcap; omega
  have hw2 : IntKind.i64.wrap ((n : Int) + 1) = (n : Int) + 1 := by rw [IntKind.wrap_i64]; unfold maxLen at hcap; omega
  have hz2 : ¬ ((i : Int) = (n : Int)) := by omega
  have hb1 : (0 : Int) ≤ (i : Int) + 1 := by omega
  have hb2 : ¬ (cap = i + 1) := by omega
  have hin : i ≤ n := by omega
  have hb3 : (i : Int) ≤ (n : Int) + 1 := by omega
  have hb4 : ¬ (cap = i) := by omega
  have htn : ((i : Int) + 1).toNat = i + 1 := by omega
  have htn2 : ((n : Int) + 1).toNat = n + 1 := by omega
  have hcap2 : cap ≤ 9223372036854775807 := by unfold maxLen at hcap; omega
  have mixed : Tryd.prog.follows .mixedOrders = true := by kernel_rfl
  have hdl : (cs.drop (i * 2)).length = (n - i) * 2 := by rw [List.length_drop, hcl]; omega
  have hinfo : (Tryd.prog.info? 44).map (·.size) = some 2 := by kernel_rfl
  have hcp1 : ∀ ty dc sc, (Builtin.copy_ #[30, 30] ty #[.slice (some ⟨g, (i + 1) * 2, none⟩) (n - i) dc, .slice (some ⟨g, i * 2, none⟩) (n + 1 - i) sc]).run Tryd.prog w.drew = .ok (goInt (Nat.min (n + 1 - i) (n - i))) (w.drew.setCells g ((i + 1) * 2) (cs.drop (i * 2))) := fun ty dc sc =>
    run_copy_sz w.drew _ _ ty 44 2 g ((i + 1) * 2) (n - i) dc ⟨g, i * 2, none⟩ (n + 1 - i) sc (cs.drop (i * 2)) Tryd.underlying30 hinfo (by rw [hdl]; simp only [Nat.min_def]; split <;> omega)
      (fun j v hj => by
        rw [Addr.add_lit]
        have := hcc (i * 2 + j) v (by rwa [List.getElem?_drop] at hj)
        rwa [Nat.zero_add] at this)
      (fun j hj => by
        have := hsp ((i + 1) * 2 + j) (by omega)
        rwa [Nat.zero_add] at this) (fun j hj => hfz _) (fun v hv => h1c v (List.mem_of_mem_drop hv))
  obtain ⟨W1, hW1⟩ : ∃ W1, W1 = w.drew.setCells g ((i + 1) * 2) (cs.drop (i * 2)) := ⟨_, rfl⟩
  obtain ⟨cur1, hg1, hs1, _⟩ := heap_setCells g 44 (0, 0) (cs.drop (i * 2)) ((i + 1) * 2) w.drew cur hg (by rw [hdl]; omega)
  have hvW : ∀ j v, vs[j]? = some v → W1.cell? ⟨vb, 0 + j, none⟩ = some v := fun j v hj => by
    rw [hW1, World.cell?_setCells_out g _ _ _ _ (fun h _ => absurd h hvb)]
    exact hvv j v hj
  rw [← hW1] at hg1
  have hcp2 : ∀ ty dc, (Builtin.copy_ #[30, 30] ty #[.slice (some ⟨g, i * 2, none⟩) (n + 1 - i) dc, .slice (some ⟨vb, 0, none⟩) 1 1]).run Tryd.prog W1 = .ok (goInt (Nat.min 1 (n + 1 - i))) (W1.setCells g (i * 2) vs) := fun ty dc =>
    run_copy_sz W1 _ _ ty 44 2 g (i * 2) (n + 1 - i) dc ⟨vb, 0, none⟩ 1 1 vs Tryd.underlying30 hinfo (by rw [hvl]; simp only [Nat.min_def]; split <;> omega)
      (fun j v hj => by rw [Addr.add_lit]; exact hvW j v hj)
      (fun j hj => by rw [cell_of_heap hg1, Array.getElem?_eq_getElem (by omega)]; rfl) (fun j hj => frozen_of_heap hg1 _) h1v
  rw [← hW1] at hcp1
  have HCS := Lib.hid hcs
  have HN := Lib.hid hn
  have HVS := Lib.hid hvs
  have HW1 := Lib.hid hW1
  have HCP1 := Lib.hid hcp1
  have HCP2 := Lib.hid hcp2
  clear hcc hsp hvv hcs hn hvs hW1 hvW hcp1 hcp2 hg1 hs1 hfz hg hsz htk hx h1c h1v hcl hvl hdl hinfo
  go_enter Tryd.func44, Tryd.ntmps44
  go_wp2_with (simp only [hov])
  go_region_law (refine step_copy_r rfl (.tmp 73) (.tmp 76) 30 30 rfl (.slice (some ⟨g, (i + 1) * 2, none⟩) (n - i) (cap - (i + 1))) (.slice (some ⟨g, i * 2, none⟩) (n + 1 - i) (cap - i)) (by simp [Act.eval, Act.put]) (by simp [Act.eval, Act.put]) (HCP1.out 3 (cap - (i + 1)) (cap - i)) ?_)
  have hcp2 := HCP2.out
  go_wp2
  go_ret
  exact ⟨rfl, by rw [HW1.out]⟩
end Go.Proofs.YtknfikdignpniaaDoor
