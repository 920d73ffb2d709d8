/- The walk of 'slices.Insert' at rows, one row, ahead of others: there is no room; and all ways together. -/
import Derived.Test.YtknfikdignpniaaDoorIns2
namespace Go.Proofs.YtknfikdignpniaaDoor
open Go Go.RowKit
set_option maxRecDepth 100000
set_option maxHeartbeats 8000000

theorem ins_grow (g cap i : Nat) (cur : Array Value) (L : List Rw) (x : Rw) (vb : Nat) (w : World) (hg : w.heap[g]? = some (.cells cur 44 (0, 0))) (_hsz : cur.size = cap * 2) (htk : cur.toList.take (L.length * 2) = rwCells L)
    (hi : i < L.length) (hlc : L.length ≤ cap) (hroom : cap < L.length + 1) (hl : L.length ≤ 1000) (hx : w.heap[vb]? = some (.cells #[.int .u64 x.k, .int .u64 x.v] 44 (0, 0))) :
    Calls Tryd.prog 44 #[.slice (some ⟨g, 0, none⟩) L.length cap, .int .i64 i, .slice (some ⟨vb, 0, none⟩) 1 1] w fun e w' =>
      ∃ (G : Nat) (new : Array Value), e = .returned (.slice (some ⟨w.heap.size, 0, none⟩) (L.length + 1) G) ∧ L.length + 1 ≤ G ∧ G ≤ maxLen ∧ w'.heap[w.heap.size]? = some (.cells new 44 (0, 0)) ∧ new.size = G * 2 ∧
        new.toList.take ((L.length + 1) * 2) = rwCells (L.take i ++ x :: L.drop i) ∧ w.grownBy w' none := by
  rw [rwCells_ins]
  obtain ⟨cs, hcs⟩ : ∃ cs, cs = rwCells L := ⟨_, rfl⟩
  obtain ⟨n, hn⟩ : ∃ n, n = L.length := ⟨_, rfl⟩
  obtain ⟨vs, hvs⟩ : ∃ vs, vs = rwCells [x] := ⟨_, rfl⟩
  have hcl : cs.length = n * 2 := by rw [hcs, rwCells_len, hn]
  have hvl : vs.length = 2 := by rw [hvs]; rfl
  have h1c : ∀ v ∈ cs, v.oneCell' = true := by rw [hcs]; exact rwCells_one L
  have h1v : ∀ v ∈ vs, v.oneCell' = true := by rw [hvs]; exact rwCells_one _
  rw [← hcs, ← hvs, ← hn]
  rw [← hcs, ← hn] at htk
  rw [← hn] at hi hroom hlc hl
  have hgl : g < w.heap.size := (Array.getElem?_eq_some_iff.1 hg).1
  have hvl2 : vb < w.heap.size := (Array.getElem?_eq_some_iff.1 hx).1
  have hcc : ∀ j v, cs[j]? = some v → w.cell? ⟨g, 0 + j, none⟩ = some v := fun j v hj => by
    rw [cell_of_heap hg, Nat.zero_add]
    have hj2 := (List.getElem?_eq_some_iff.1 hj).1
    rw [← htk, List.getElem?_take, if_pos (by omega)] at hj
    simpa using hj
  have hvv : ∀ j v, vs[j]? = some v → w.cell? ⟨vb, 0 + j, none⟩ = some v := fun j v hj => by
    rw [cell_of_heap hx, Nat.zero_add]
    rw [hvs] at hj
    match j, hj with
    | 0, hj => simpa [rwCells, Rw.cells] using hj
    | 1, hj => simpa [rwCells, Rw.cells] using hj
    | j + 2, hj => simp [rwCells, Rw.cells] at hj
  obtain ⟨ti, hi0, hz0, hzs, hzb⟩ := info_parts info_row
  have hinfo : (Tryd.prog.info? 44).map (·.size) = some 2 := by kernel_rfl
  have hkk : (n : Int) + 1 - (i : Int) = ((n + 1 - i : Nat) : Int) := by omega
  have hik : i + (n + 1 - i) = n + 1 := by omega
  have hold : (Builtin.firstCells ti.size i (.slice (some ⟨g, 0, none⟩) i cap)).run Tryd.prog w.drew = .ok (cs.take (i * 2)).toArray w.drew := by
    rw [hzs]
    exact run_firstCells_some w.drew 2 i ⟨g, 0, none⟩ i cap (cs.take (i * 2)) (by rw [List.length_take]; omega) (fun j v hj => by
      rw [Addr.add_lit]
      rw [List.getElem?_take] at hj
      split at hj
      · exact hcc j v hj
      · cases hj)
  obtain ⟨G, hG⟩ : ∃ G, G = grownCap w (n + 1) cap 44 := ⟨_, rfl⟩
  have hrz : ∀ ty, (Builtin.append_ #[30, 3] ty #[.slice (some ⟨g, 0, none⟩) i cap, .int .i64 ((n : Int) + 1 - (i : Int))]).run Tryd.prog w =
      .ok (.slice (some ⟨w.heap.size, 0, none⟩) (n + 1) G) (w.drew.alloc (.cells ((cs.take (i * 2)).toArray ++ Builtin.zeroCells (Value.cells (.agg #[.int .u64 0, .int .u64 0])) (n + 1 - i) ++ Builtin.zeroCells (Value.cells (.agg #[.int .u64 0, .int .u64 0])) (G - (n + 1))) 44)) := fun ty => by
    have h := Lib.run_append_grow_zeros w 30 3 ty 44 ti _ .i64 .i64 Tryd.underlying30 Tryd.underlying3 hi0 hz0 (some ⟨g, 0, none⟩) i cap (cs.take (i * 2)) hold (n + 1 - i) (by omega) (by omega) (by omega) (by omega) (by rw [hzb]; omega) (by rw [hzb, hik]; exact growslice_fits hroom (by omega))
    rw [hik] at h
    rw [hkk, hG]
    exact h
  have hGn : n + 1 ≤ G := by rw [hG]; exact grownCap_ge w _ _ _
  have hG63 : G ≤ maxLen := by rw [hG]; exact grownCap_le_maxLen w (n + 1) cap 44 (by unfold maxLen; omega)
  obtain ⟨B, hB⟩ : ∃ B : Array Value, B = (cs.take (i * 2)).toArray ++ Builtin.zeroCells (Value.cells (.agg #[.int .u64 0, .int .u64 0])) (n + 1 - i) ++ Builtin.zeroCells (Value.cells (.agg #[.int .u64 0, .int .u64 0])) (G - (n + 1)) := ⟨_, rfl⟩
  have hz2 : (Value.cells (.agg #[.int .u64 0, .int .u64 0])).size = 2 := rfl
  have hBs : B.size = G * 2 := by
    rw [hB, Array.size_append, Array.size_append, size_zeroCells, size_zeroCells, hz2]
    simp; omega
  have hB0 : ∀ k, k < i * 2 → B[k]? = cs[k]? := fun k hk => by
    rw [hB, Array.append_assoc, Array.getElem?_append_left (by simp; omega)]
    simp [hk]
  rw [← hB] at hrz
  obtain ⟨W1, hW1⟩ : ∃ W1, W1 = w.drew.alloc (.cells B 44) := ⟨_, rfl⟩
  rw [← hW1] at hrz
  have hN1 : W1.heap[w.heap.size]? = some (.cells B 44 (0, 0)) := by rw [hW1]; exact heap_alloc_new w.drew _
  have hO1 : ∀ b, b < w.heap.size → W1.heap[b]? = w.heap[b]? := fun b hb => by
    rw [hW1, alloc_heap, if_neg (by show b ≠ w.heap.size; omega)]; rfl
  obtain ⟨W2, hW2⟩ : ∃ W2, W2 = W1.setCells w.heap.size (i * 2) vs := ⟨_, rfl⟩
  obtain ⟨B2, hN2, hs2, hB2⟩ := heap_setCells w.heap.size 44 (0, 0) vs (i * 2) W1 B hN1 (by omega)
  rw [← hW2] at hN2
  have hdl : (cs.drop (i * 2)).length = (n - i) * 2 := by rw [List.length_drop, hcl]; omega
  obtain ⟨W3, hW3⟩ : ∃ W3, W3 = W2.drew.setCells w.heap.size ((i + 1) * 2) (cs.drop (i * 2)) := ⟨_, rfl⟩
  obtain ⟨B3, hN3, hs3, hB3⟩ := heap_setCells w.heap.size 44 (0, 0) (cs.drop (i * 2)) ((i + 1) * 2) W2.drew B2 hN2 (by rw [hdl]; omega)
  rw [← hW3] at hN3
  have hg1 : w.grownBy W1 none := by rw [hW1]; exact (grown_drew w none).trans (World.grownBy_alloc _ _ _)
  have hg3 : w.grownBy W3 none := by
    have a := (grown_setCells w.heap.size vs (i * 2) W1)
    rw [← hW2] at a
    have b := (grown_setCells w.heap.size (cs.drop (i * 2)) ((i + 1) * 2) W2.drew)
    rw [← hW3] at b
    have c := a.trans ((grown_drew W2 _).trans b)
    exact ⟨c.os.trans hg1.os, c.tape.trans hg1.tape, c.output.trans hg1.output, Nat.le_trans hg1.size c.size, fun k hk _ => (c.block k (Nat.lt_of_lt_of_le hk hg1.size) (fun e => by cases e; omega)).trans (hg1.block k hk (fun e => by cases e))⟩
  have hfin : B3.toList.take ((n + 1) * 2) = cs.take (i * 2) ++ (vs ++ cs.drop (i * 2)) := by
    refine target_of hcl hvl (by omega) hB0 (by omega) (fun k a b => ?_) (fun k a b => ?_) (fun k a => ?_)
    · rw [hB3, if_pos (by omega)]
    · rw [hB3, if_neg (by omega), hB2, if_pos (by omega)]
    · rw [hB3, if_neg (by omega), hB2, if_neg (by omega)]
  have hcpA : ∀ ty dc, (Builtin.copy_ #[30, 30] ty #[.slice (some ⟨w.heap.size, i * 2, none⟩) (n + 1 - i) dc, .slice (some ⟨vb, 0, none⟩) 1 1]).run Tryd.prog W1 = .ok (goInt (Nat.min 1 (n + 1 - i))) W2 := fun ty dc => by
    rw [hW2]
    exact run_copy_sz W1 _ _ ty 44 2 w.heap.size (i * 2) (n + 1 - i) dc ⟨vb, 0, none⟩ 1 1 vs Tryd.underlying30 hinfo (by rw [hvl]; simp only [Nat.min_def]; split <;> omega)
      (fun j v hj => by rw [Addr.add_lit, World.cell?_of_block (w := w) (hO1 vb hvl2)]; exact hvv j v hj)
      (fun j hj => by rw [cell_of_heap hN1, Array.getElem?_eq_getElem (by omega)]; rfl) (fun j hj => frozen_of_heap hN1 _) h1v
  have hcpB : ∀ ty dc sc, (Builtin.copy_ #[30, 30] ty #[.slice (some ⟨w.heap.size, (i + 1) * 2, none⟩) (n - i) dc, .slice (some ⟨g, i * 2, none⟩) (n - i) sc]).run Tryd.prog W2.drew = .ok (goInt (Nat.min (n - i) (n - i))) W3 := fun ty dc sc => by
    rw [hW3]
    exact run_copy_sz W2.drew _ _ ty 44 2 w.heap.size ((i + 1) * 2) (n - i) dc ⟨g, i * 2, none⟩ (n - i) sc (cs.drop (i * 2)) Tryd.underlying30 hinfo (by rw [hdl]; simp only [Nat.min_def]; split <;> omega)
      (fun j v hj => by
        have := hcc (i * 2 + j) v (by rwa [List.getElem?_drop] at hj)
        rw [Nat.zero_add] at this
        rw [Addr.add_lit]
        show W2.cell? _ = _
        rw [hW2, World.cell?_setCells_out _ _ _ _ _ (fun h _ => by dsimp only at h; omega), World.cell?_of_block (w := w) (hO1 g hgl)]
        exact this)
      (fun j hj => by
        show (W2.cell? _).isSome = true
        rw [cell_of_heap hN2, Array.getElem?_eq_getElem (by omega)]; rfl) (fun j hj => by
        show W2.frozen? _ = false
        exact frozen_of_heap hN2 _) (fun v hv => h1c v (List.mem_of_mem_drop hv))
  obtain ⟨tg, htg⟩ : ∃ tg, tg = cs.take (i * 2) ++ (vs ++ cs.drop (i * 2)) := ⟨_, rfl⟩
  rw [← htg] at hfin ⊢
  have F1 := Lib.hid hGn
  have F2 := Lib.hid hG63
  have F3 := Lib.hid hN3
  have F4 : Hid (B3.size = G * 2) := Lib.hid (by rw [hs3, hs2, hBs])
  have F5 := Lib.hid hfin
  have F6 := Lib.hid hg3
  have HCPB := Lib.hid hcpB
  have HN := Lib.hid hn
  have hz3 : (cap : Int) < (n : Int) + 1 := by omega
  have hw1 : IntKind.i64.wrap ((i : Int) + 1) = (i : Int) + 1 := by rw [IntKind.wrap_i64]; omega
  have hz4 : ¬ ((i : Int) = (n : Int)) := by omega
  have hb1 : (0 : Int) ≤ (i : Int) + 1 := by omega
  have hin : i ≤ n := by omega
  have htn : ((i : Int) + 1).toNat = i + 1 := by omega
  have hb3 : (i : Int) ≤ (n : Int) := by omega
  have hci : ¬ (cap = i) := by omega
  have hGi : ¬ (G = i) := by omega
  have hGim : ¬ (G = i + 1) := by omega
  have hG64 : G ≤ 9223372036854775807 := by unfold maxLen at hG63; omega
  clear hcs hvs hn hcl hvl h1c h1v htk hcc hvv hkk hik hold hG hB hz2 hBs hB0 hW1 hN1 hO1 hW2 hN2 hs2 hB2 hdl hW3 hN3 hs3 hB3 hg1 hg3 hfin hcpB hi0 hz0 hzs hzb hinfo hg hx _hsz hG63 htg
  go_enter Tryd.func44, Tryd.ntmps44
  go_wp2_with (at_builtin; refine Lib.wpList_append_run _ rfl _ _ _ _ rfl _ _ rfl rfl _ _ (hrz _) ?_)
  go_region_law (refine step_copy_r rfl (.tmp 50) (.tmp 53) 30 30 rfl (.slice (some ⟨w.heap.size, (i + 1) * 2, none⟩) (n - i) (G - (i + 1))) (.slice (some ⟨g, i * 2, none⟩) (n - i) (cap - i)) (by simp [Act.eval, Act.put]) (by simp [Act.eval, Act.put]) (HCPB.out 3 (G - (i + 1)) (cap - i)) ?_)
  go_wp2
  go_ret
  exact ⟨G, B3, rfl, F1.out, F2.out, F3.out, F4.out, F5.out, F6.out⟩

/-- 'slices.Insert(s, i, x)' into rows of the call's own. -/
theorem ins_any (v : Value) (L : List Rw) (x : Rw) (i : Nat) (hi : i ≤ L.length) (vb base : Nat) (w : World) (hown : w.ownsRow base 44 2 v L.length (rwCells L)) (hn : L.length ≤ 1000) (hb : base ≤ w.heap.size)
    (hx : w.heap[vb]? = some (.cells #[.int .u64 x.k, .int .u64 x.v] 44 (0, 0))) (hvb : v.ownBlock ≠ some vb) :
    Calls Tryd.prog 44 #[v, .int .i64 i, .slice (some ⟨vb, 0, none⟩) 1 1] w (InsP w base v (L.take i ++ x :: L.drop i)) := by
  by_cases he : i = L.length
  · subst he
    rw [List.take_length, List.drop_length]
    exact ins_end v L x vb base w hown hn hb ⟨by rw [cell_of_heap hx]; rfl, by rw [cell_of_heap hx]; rfl⟩
  · have hlt : i < L.length := by omega
    have hlen : (L.take i ++ x :: L.drop i).length = L.length + 1 := by simp; omega
    obtain ⟨_, h2⟩ := hown
    rcases h2 with ⟨_, h0⟩ | ⟨g, cap, cur, rfl, hg, hc, hn', hcap, hs, ht⟩
    · omega
    · by_cases hroom : L.length + 1 ≤ cap
      · have hne : vb ≠ g := fun e => hvb (by rw [e]; rfl)
        refine (ins_shift g cap i cur L x vb w hc hs ht hlt hroom hcap hne hx).mono ?_
        rintro e w' ⟨rfl, rfl⟩
        have hdl : ((rwCells L).drop (i * 2)).length = (L.length - i) * 2 := by rw [List.length_drop, rwCells_len]; omega
        obtain ⟨c1, a1, a2, a3⟩ := heap_setCells g 44 (0, 0) ((rwCells L).drop (i * 2)) ((i + 1) * 2) w.drew cur hc (by rw [hdl]; omega)
        obtain ⟨c2, b1, b2, b3⟩ := heap_setCells g 44 (0, 0) (rwCells [x]) (i * 2) _ c1 a1 (by rw [show (rwCells [x]).length = 2 from rfl]; omega)
        have hvl : (rwCells [x]).length = 2 := rfl
        refine ⟨_, rfl, ⟨by rw [rwCells_len], Or.inr ⟨g, cap, c2, by rw [hlen], hg, b1, by rw [hlen]; exact hroom, hcap, by rw [b2, a2, hs], ?_⟩⟩, ?_⟩
        · rw [hlen, rwCells_ins]
          refine target_of (cur0 := cur) (rwCells_len L) hvl (by omega) (fun k hk => ?_) (by omega) (fun k a b => ?_) (fun k a b => ?_) (fun k a => ?_)
          · rw [← ht, List.getElem?_take, if_pos (by omega), Array.getElem?_toList]
          · rw [b3, if_neg (by omega), a3, if_pos (by omega)]
          · rw [b3, if_pos (by omega)]
          · rw [b3, if_neg (by omega), a3, if_neg (by omega)]
        · exact (grown_drew w _).trans ((grown_setCells g _ _ _).trans (grown_setCells g _ _ _))
      · refine (ins_grow g cap i cur L x vb w hc hs ht hlt hn' (by omega) hn hx).mono ?_
        rintro e w' ⟨G, new, rfl, h1, h2, h3, h4, h5, h6⟩
        refine ⟨_, rfl, ⟨by rw [rwCells_len], Or.inr ⟨_, G, new, by rw [hlen], hb, h3, by rw [hlen]; exact h1, h2, h4, by rw [hlen]; exact h5⟩⟩, ?_⟩
        exact ⟨h6.os, h6.tape, h6.output, h6.size, fun k hk _ => h6.block k hk (fun e => by cases e)⟩
end Go.Proofs.YtknfikdignpniaaDoor
