/- The walk of 'slices.Delete' at rows, one row, out of a slice of the call's own. -/
import Derived.Test.YtknfikdignpniaaDoorIns3
namespace Go.Proofs.YtknfikdignpniaaDoor
open Go Go.RowKit
set_option maxRecDepth 100000
set_option maxHeartbeats 8000000

theorem cut_of {cs : List Value} {n i : Nat} (hcl : cs.length = n * 2) (hi : i < n) {cur : Array Value} (_hs : n * 2 ≤ cur.size)
    (h1 : ∀ k, i * 2 ≤ k → k < (n - 1) * 2 → cur[k]? = (cs.drop ((i + 1) * 2))[k - i * 2]?) (h3 : ∀ k, k < i * 2 → cur[k]? = cs[k]?) :
    cur.toList.take ((n - 1) * 2) = cs.take (i * 2) ++ cs.drop ((i + 1) * 2) := by
  apply List.ext_getElem?
  intro k
  rw [List.getElem?_take]
  by_cases hk : k < (n - 1) * 2
  · rw [if_pos hk, Array.getElem?_toList]
    by_cases a : k < i * 2
    · rw [h3 k a, List.getElem?_append_left (by simp; omega), List.getElem?_take, if_pos a]
    · rw [List.getElem?_append_right (by simp; omega), List.length_take, Nat.min_eq_left (by omega), h1 k (by omega) hk]
  · rw [if_neg hk, List.getElem?_eq_none (by simp; omega)]
theorem rwCells_del (L : List Rw) (i : Nat) : rwCells (L.take i ++ L.drop (i + 1)) = (rwCells L).take (i * 2) ++ (rwCells L).drop ((i + 1) * 2) := by
  rw [rwCells_app, rwCells_take, rwCells_drop]

theorem del_any (v : Value) (L : List Rw) (i : Nat) (hi : i < L.length) (base : Nat) (w : World) (hown : w.ownsRow base 44 2 v L.length (rwCells L)) (hl : L.length ≤ 1000) :
    Calls Tryd.prog 45 #[v, .int .i64 i, .int .i64 ((i : Int) + 1)] w (InsP w base v (L.take i ++ L.drop (i + 1))) := by
  obtain ⟨_, h2⟩ := hown
  rcases h2 with ⟨_, h0⟩ | ⟨g, cap, cur, rfl, hgb, hg, hlc, hcap, hsz, htk⟩
  · omega
  have hlen : (L.take i ++ L.drop (i + 1)).length = L.length - 1 := by simp; omega
  obtain ⟨cs, hcs⟩ : ∃ cs, cs = rwCells L := ⟨_, rfl⟩
  obtain ⟨n, hn⟩ : ∃ n, n = L.length := ⟨_, rfl⟩
  have hcl : cs.length = n * 2 := by rw [hcs, rwCells_len, hn]
  have h1c : ∀ v ∈ cs, v.oneCell' = true := by rw [hcs]; exact rwCells_one L
  rw [← hcs, ← hn] at htk
  rw [← hn] at hi hlc hl ⊢
  have hcc : ∀ j v, cs[j]? = some v → w.cell? ⟨g, j, none⟩ = some v := fun j v hj => by
    rw [cell_of_heap hg]
    have hj2 := (List.getElem?_eq_some_iff.1 hj).1
    rw [← htk, List.getElem?_take, if_pos (by omega)] at hj
    simpa using hj
  obtain ⟨ti, hi0, hz0, hzs, hzb⟩ := info_parts info_row
  obtain ⟨news, hnews⟩ : ∃ news, news = cs.drop ((i + 1) * 2) := ⟨_, rfl⟩
  have hnl : news.length = (n - (i + 1)) * 2 := by rw [hnews, List.length_drop, hcl]; omega
  have h1n : ∀ v ∈ news, v.oneCell' = true := by rw [hnews]; exact fun v hv => h1c v (List.mem_of_mem_drop hv)
  obtain ⟨A, hA, hsrc⟩ : ∃ A : Addr, (if cap = i + 1 then (some ⟨g, 0, none⟩ : Option Addr) else some ⟨g, (i + 1) * 2, none⟩) = some A ∧ (∀ t u, news[t]? = some u → w.drew.cell? (A.add t) = some u) := by
    by_cases h : cap = i + 1
    · refine ⟨⟨g, 0, none⟩, by simp [h], fun t u hu => ?_⟩
      have h0 : news.length = 0 := by rw [hnl]; omega
      rw [List.length_eq_zero_iff.1 h0] at hu
      simp at hu
    · refine ⟨⟨g, (i + 1) * 2, none⟩, by simp [h], fun t u hu => ?_⟩
      rw [Addr.add_lit]
      rw [hnews, List.getElem?_drop] at hu
      exact hcc _ u hu
  have hsp : ∀ t, t < news.length → (w.drew.cell? ⟨g, 0 + i * 2 + t, none⟩).isSome = true ∧ w.drew.frozen? ⟨g, 0 + i * 2 + t, none⟩ = false := fun t ht => by
    refine ⟨?_, frozen_of_heap (w := w.drew) hg _⟩
    show (w.cell? _).isSome = true
    rw [cell_of_heap hg, Array.getElem?_eq_getElem (by omega)]; rfl
  obtain ⟨W1, hW1⟩ : ∃ W1, W1 = w.drew.setCells g (0 + i * 2) news := ⟨_, rfl⟩
  obtain ⟨c1, a1, a2, a3⟩ := heap_setCells g 44 (0, 0) news (0 + i * 2) w.drew cur hg (by omega)
  rw [← hW1] at a1
  obtain ⟨W2, hW2⟩ : ∃ W2, W2 = W1.setCells g ((n - 1) * 2) [.int .u64 0, .int .u64 0] := ⟨_, rfl⟩
  obtain ⟨c2, b1, b2, b3⟩ := heap_setCells g 44 (0, 0) [.int .u64 0, .int .u64 0] ((n - 1) * 2) W1 c1 a1 (by simp only [List.length_cons, List.length_nil]; omega)
  rw [← hW2] at b1
  have hclr : ∀ ty c, (Builtin.clear_ #[30] ty #[.slice (some ⟨g, (n - 1) * 2, none⟩) 1 c]).run Tryd.prog W1 = .ok (.tuple #[]) W2 := fun ty c => by
    rw [hW2]
    exact run_clear_row W1 _ _ ty Tryd.underlying30 Tryd.zeroValue44 g ((n - 1) * 2) c (fun j hj => by rw [cell_of_heap a1, Array.getElem?_eq_getElem (by omega)]; rfl) (fun j _ => frozen_of_heap a1 _)
  have hfin : c2.toList.take ((n - 1) * 2) = cs.take (i * 2) ++ cs.drop ((i + 1) * 2) := by
    refine cut_of hcl hi (by omega) (fun k a b => ?_) (fun k a => ?_)
    · rw [b3, if_neg (by omega), a3, if_pos (by omega), hnews, Nat.zero_add]
    · rw [b3, if_neg (by omega), a3, if_neg (by omega), ← htk, List.getElem?_take, if_pos (by omega), Array.getElem?_toList]
  have hgr : w.grownBy W2 (some g) := by
    have x1 := grown_setCells g news (0 + i * 2) w.drew
    rw [← hW1] at x1
    have x2 := grown_setCells g [.int .u64 0, .int .u64 0] ((n - 1) * 2) W1
    rw [← hW2] at x2
    exact (grown_drew w _).trans (x1.trans x2)
  have F1 : Hid (InsP w base (.slice (some ⟨g, 0, none⟩) n cap) (L.take i ++ L.drop (i + 1)) (.returned (.slice (some ⟨g, 0, none⟩) (n - 1) cap)) W2) := Lib.hid ⟨_, rfl, ⟨by rw [rwCells_len], Or.inr ⟨g, cap, c2, by rw [hlen, hn], hgb, b1, by rw [hlen]; omega, hcap, by rw [b2, a2, hsz], by rw [hlen, ← hn, hfin, rwCells_del, ← hcs]⟩⟩, hgr⟩
  have HS := Lib.hid hsrc
  have HP := Lib.hid hsp
  have H1 := Lib.hid h1n
  have HNL := Lib.hid hnl
  have HW1 := Lib.hid hW1
  have HI := Lib.hid (And.intro hi0 hzs)
  have hw1 : IntKind.i64.wrap ((i : Int) + 1) = (i : Int) + 1 := by rw [IntKind.wrap_i64]; omega
  have hb1 : (0 : Int) ≤ (i : Int) + 1 := by omega
  have hic : i ≤ cap := by omega
  have hjc : i + 1 ≤ cap := by omega
  have hjn : i + 1 ≤ n := by omega
  have htn : ((i : Int) + 1).toNat = i + 1 := by omega
  have hne : ¬ ((i : Int) = (i : Int) + 1) := by omega
  have hcap2 : cap ≤ 9223372036854775807 := by unfold maxLen at hcap; omega
  have hj3 : (i : Int) + 1 ≤ (n : Int) := by omega
  have hj4 : (i : Int) ≤ (i : Int) + 1 := by omega
  have hrl : i + (n - (i + 1)) = n - 1 := by omega
  have hn1 : n - (n - 1) = 1 := by omega
  clear hcs hn hcl h1c htk hcc hi0 hz0 hzs hzb hnews hnl h1n hsrc hsp hW1 a1 a2 a3 hW2 b1 b2 b3 hfin hgr hg hsz hcap hlen
  go_enter Tryd.func45, Tryd.ntmps45
  go_wp2
  go_region_law (refine step_append_room rfl (.tmp 22) (.tmp 25) 30 rfl 44 ti 2 Tryd.underlying30 HI.out.1 HI.out.2 g 0 i cap (by simp [Act.eval, Act.put]) A (n - (i + 1)) (cap - (i + 1)) news (by simp [Act.eval, Act.put]) HNL.out HS.out H1.out (by omega) HP.out ?_; rw [← HW1.out])
  go_wp2
  go_ret
  exact F1.out
end Go.Proofs.YtknfikdignpniaaDoor
