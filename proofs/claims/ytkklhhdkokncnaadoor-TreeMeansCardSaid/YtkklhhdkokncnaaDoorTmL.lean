/- The walk of 'laid', layer 'tree': the cells of an instance that has rows. -/
import Derived.Test.YtkklhhdkokncnaaDoorTn
import Derived.Test.YtkklhhdkokncnaaDoorGrtT
import Derived.Test.YtkklhhdkokncnaaDoorGr
import Derived.Test.YtkklhhdkokncnaaDoorTreS
import Derived.Deep.LoopGhost
import Derived.Deep.RegionHeld3
import Derived.Laws.MakeOwn
namespace Go.Proofs.YtkklhhdkokncnaaDoor
open Go Go.RowKit
set_option maxRecDepth 100000
set_option maxHeartbeats 8000000

theorem z_in {G : Nat} : ∀ x ∈ List.replicate G zce, x = zce := fun _ hx => List.eq_of_mem_replicate hx
theorem z_cells (G : Nat) : celCells (List.replicate G zce) = List.replicate (G * 4) (.int .u64 0) := by
  induction G with
  | zero => rfl
  | succ G ih =>
    rw [List.replicate_succ, celCells_cons, ih, show (G + 1) * 4 = G * 4 + 1 + 1 + 1 + 1 by omega]
    rfl
theorem z_made (G : Nat) (j : Nat) (u : Value) (h : (celCells (List.replicate G zce))[j]? = some u) : (madeCells #[.int .u64 0, .int .u64 0, .int .u64 0, .int .u64 0] (G * 4))[j]? = some u := by
  rw [z_cells, List.getElem?_replicate] at h
  split at h
  · rename_i hj
    have hu : u = .int .u64 0 := by simpa using h.symm
    subst hu
    have hm : j % 4 < 4 := Nat.mod_lt _ (by decide)
    unfold madeCells
    rw [Array.getElem?_map, Array.getElem?_range, if_pos hj]
    obtain q | q | q | q : j % 4 = 0 ∨ j % 4 = 1 ∨ j % 4 = 2 ∨ j % 4 = 3 := by omega
    all_goals simp [q]
  · cases h
theorem z_tc (G k : Nat) : tc (List.replicate G zce) k = zce := by
  unfold tc
  rw [List.getD_eq_getElem?_getD, List.getElem?_replicate]
  split <;> rfl
theorem z_lay (wd N T : Nat) : Lay wd N T (List.replicate (1 + sumU wd N (T + 1)) zce) zce (fun _ => zce) (fun _ _ => zce) :=
  ⟨List.length_replicate, z_tc _ _, fun _ _ => z_tc _ _, fun _ _ _ _ _ => z_tc _ _⟩
theorem itN_zero (h : Nat) : itN 0 h 0 = 0 := by
  induction h with
  | zero => rfl
  | succ h ih => simpa [itN] using ih
theorem z_nil (wd N T : Nat) : LayM wd N T (List.replicate (1 + sumU wd N (T + 1)) zce) [] := by
  refine (z_lay wd N T).to rfl (fun i _ => ?_) (fun h i _ _ _ => ?_)
  · unfold fM
    rw [if_neg (by simp)]
  · unfold gM
    split
    · rename_i hi
      have := (lt_it (w := wd) (h := h) (n := 0) (i := i) (by
        cases wd with
        | zero =>
          exfalso
          have := itN_zero h
          have e : ([] : List Rw).length = 0 := rfl
          rw [e, this] at hi
          omega
        | succ wd => omega)).1 hi
      omega
    · rfl
/-- The A of a cell is written. -/
theorem cel_setA {C : Array Value} {L : List Cel} (h : ∀ (j : Nat) (u : Value), (celCells L)[j]? = some u → C[j]? = some u) (i : Nat) (hi : i < L.length) (v : Int) : ∀ (j : Nat) (u : Value), (celCells (L.set i { tc L i with a := v }))[j]? = some u → (C.setIfInBounds (i * 4 + 1) (.int .u64 v))[j]? = some u := by
  have e : celCells (L.set i { tc L i with a := v }) = (celCells L).set (i * 4 + 1) (.int .u64 v) := by
    obtain ⟨c0, c1, c2, c3⟩ := celCells_at L i hi
    rw [← tc_get hi] at c0 c2 c3
    rw [celCells_set]
    refine List.ext_getElem? fun j => ?_
    simp only [List.getElem?_set, List.length_set, celCells_len]
    by_cases e0 : i * 4 = j
    · subst e0
      simp [c0]
      omega
    · by_cases e1 : i * 4 + 1 = j
      · subst e1
        simp
      · by_cases e2 : i * 4 + 2 = j
        · subst e2
          simp [c2]
          omega
        · by_cases e3 : i * 4 + 3 = j
          · subst e3
            simp [c3]
            omega
          · simp [e0, e1, e2, e3]
  rw [e]
  exact set_in h _ _
theorem LayM.fit {wd N T : Nat} {L : List Cel} {M : List Rw} (l : LayM wd N T L M) (hM : RwsFit M) (hn : M.length ≤ 1000) : CelsFit L := by
  intro x hx
  have zz : (0 : Int) ≤ 0 ∧ (0 : Int) ≤ 18446744073709551615 := by decide
  obtain ⟨k, hk, rfl⟩ := List.mem_iff_getElem.1 hx
  rw [← tc_get hk]
  have hz : zce.Fits := ⟨by decide, by decide, by decide, by decide⟩
  by_cases e : k = 0
  · rw [e, l.hdr]
    exact ⟨zz, by show (0 : Int) ≤ (M.length : Int) ∧ (M.length : Int) ≤ 18446744073709551615; omega, zz, zz⟩
  · obtain ⟨h, i, a, b, rfl⟩ := of_all (w := wd) (N := N) (k := k) (by omega) T (by rw [← l.len]; exact hk)
    by_cases e2 : h = 0
    · subst e2
      rw [l.row i b]
      unfold fM
      split
      · obtain ⟨h1, h2⟩ := hM.get i
        exact ⟨zz, h1, h2, zz⟩
      · exact hz
    · rw [l.lev h i (by omega) a b]
      unfold gM
      split
      · obtain ⟨h1, h2⟩ := hM.get (lrN wd M.length h i)
        exact ⟨zz, h1, zz, zz⟩
      · exact hz
theorem greatT_as (c : Cfg) (hc : TreOk c) (h2 : (c.object == 2) = true) (w : World) (G : Nat) (hG : treGreat c = (G : Int)) : Calls Tryd.prog 25 #[c.v] w fun e w' => e = .returned (.int .i64 (G : Int)) ∧ Ext w w' := by
  rw [← hG]
  exact greatT_any c hc h2 w
theorem top13_as (c : Cfg) (hc : TreOk c) (w : World) (T : Nat) (hT : treTop c = (T : Int)) : Calls Tryd.prog 20 #[c.v] w fun e w' => e = .returned (.int .i64 (T : Int)) ∧ Ext w w' := by
  rw [← hT]
  exact topR13_any c hc w
theorem off_as (c : Cfg) (hc : TreOk c) (h i : Int) (hh : 0 ≤ h ∧ h ≤ 4) (hi : -1000 ≤ i ∧ i ≤ 1000) (w : World) (K : Int) (hK : treOff c h i = K) : Calls Tryd.prog 21 #[c.v, .int .i64 h, .int .i64 i] w fun e w' => e = .returned (.int .i64 K) ∧ Ext w w' := by
  rw [← hK]
  exact offR_any c hc h i hh hi w
theorem items_as (n w h : Int) (hn : 0 ≤ n ∧ n ≤ 1000) (hw : w = 2 ∨ w = 3 ∨ w = 4) (hh : 0 ≤ h ∧ h ≤ 300) (W : World) (U : Int) (hU : upI n w h = U) : Calls Tryd.prog 22 #[.int .i64 n, .int .i64 w, .int .i64 h] W fun e w' => e = .returned (.int .i64 U) ∧ W = w' := by
  rw [← hU]
  exact itemsI_any n w h hn hw hh W
theorem end_as (n w h i : Int) (hn : 0 ≤ n ∧ n ≤ 32) (hw : w = 2 ∨ w = 3 ∨ w = 4) (hh : h = 1 ∨ h = 2 ∨ h = 3 ∨ h = 4) (hi : 0 ≤ i ∧ i < upI n w h) (W : World) (E : Int) (hE : endI n w h i = E) : Calls Tryd.prog 40 #[.int .i64 n, .int .i64 w, .int .i64 h, .int .i64 i] W fun e w' => e = .returned (.int .i64 E) ∧ W = w' := by
  rw [← hE]
  exact endR_any n w h i hn hw hh hi W
theorem sum_small {wd N T : Nat} {c : Cfg} (hc : TreN c wd N T) : 1 + sumU wd N (T + 1) ≤ 300 := by
  obtain ⟨hw, hN, hT⟩ := hc.bd
  have hi : ∀ k, itN wd k N ≤ 32 := fun k => by
    by_cases e : itN wd k N ≤ N
    · omega
    · have h1 := (lt_it (w := wd) (by omega) k N N).1 (by omega)
      have h2 : 1 ≤ wd ^ k := Nat.pow_pos (by omega)
      have := Nat.mul_le_mul_left N h2
      omega
  have hs : ∀ k, sumU wd N k ≤ 32 * k := fun k => by
    induction k with
    | zero => exact Nat.le_refl _
    | succ k ih =>
      have := hi k
      show sumU wd N k + itN wd k N ≤ _
      omega
  have := hs (T + 1)
  omega
end Go.Proofs.YtkklhhdkokncnaaDoor
