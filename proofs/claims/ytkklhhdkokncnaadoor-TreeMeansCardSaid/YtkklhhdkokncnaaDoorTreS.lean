/- The walk of 'sameAt', 'sameCells', layer 'tree', at two slices that hold the same. -/
import Derived.Test.YtkklhhdkokncnaaDoorTreW
import Derived.LoopTactic
namespace Go.Proofs.YtkklhhdkokncnaaDoor
open Go Go.RowKit
set_option maxRecDepth 100000
set_option maxHeartbeats 8000000

theorem off_at {t : List Int} {k : Nat} (h : k < t.length) : (offV t)[k]? = some (.int .i64 (t.getD k 0)) := by
  simp [offV, h]
theorem sameInts_any (v u : Value) (t : List Int) (w : World) (hv : Sl w v t.length (offV t)) (hu : Sl w u t.length (offV t)) : Calls Tryd.prog 38 #[v, u] w
    fun e w' => e = .returned (.bool true) ∧ Ext w w' := by
  obtain ⟨ad, cap, rfl, hv⟩ := hv
  obtain ⟨ad2, cap2, rfl, hu⟩ := hu
  have hm : t.length ≤ 9223372036854775807 := by have h1 := hv.1; have h2 := hv.2.1; unfold maxLen at h2; omega
  have HV := Lib.hid hv
  have HU := Lib.hid hu
  clear hv hu
  go_enter Tryd.func38, Tryd.ntmps38
  go_wp2
  go_loopw [5] (fun i wr => ∃ k : Nat, k ≤ t.length ∧ i = .int .i64 k ∧ Ext w wr) (fun i _ => t.length - (intOf i).toNat)
  case atStart => exact ⟨0, Nat.zero_le _, rfl, Ext.refl _⟩
  case round =>
    obtain ⟨k, hk, rfl, he⟩ := hrel
    have HE := Lib.hid he
    clear he
    by_cases hlt : k < t.length
    · obtain ⟨b, o, rfl, hc⟩ := HV.out.pos (by omega)
      obtain ⟨b2, o2, rfl, hc2⟩ := HU.out.pos (by omega)
      have c1 := ext_cell HE.out (hc k _ (off_at hlt))
      have c2 := ext_cell HE.out (hc2 k _ (off_at hlt))
      have l1 := World.block_lt_of_cell? _ _ c1
      have l2 := World.block_lt_of_cell? _ _ c2
      dsimp only at l1 l2
      obtain ⟨x, hx⟩ : ∃ x, t.getD k 0 = x := ⟨_, rfl⟩
      rw [hx] at c1 c2
      have i0 : (0 : Int) ≤ (k : Int) := by omega
      have i1 : (k : Int) < (t.length : Int) := by omega
      clear hc hc2 hx
      go_wp2
      (refine wp_region_ext_lit (by kernel_rfl) (by kernel_rfl) ?_); (repeat (go_big_quiet_step (fail))); (refine wpQuiet_nil ?_; intro _ hw'; obtain ⟨⟨osq, nq⟩, hw''⟩ := hw'; replace hw'' : _ = grew _ osq nq := hw''; subst hw'')
      go_wp2
      go_roundw
      case rel => exact ⟨k + 1, by omega, by go_num, HE.out.trans EX⟩
      case measure => simp [intOf]; omega
    · obtain rfl : k = t.length := by omega
      go_wp2
      go_ret
      exact ⟨rfl, HE.out⟩
theorem sameAt_any (v u : Value) (t : List Int) (w : World) (hv : Sl w v t.length (offV t)) (hu : Sl w u t.length (offV t)) : Calls Tryd.prog 16 #[v, u] w
    fun e w' => e = .returned (.bool true) ∧ Ext w w' := by
  have HV := Lib.hid hv
  have HU := Lib.hid hu
  obtain ⟨ad, cap, rfl, _⟩ := hv
  obtain ⟨ad2, cap2, rfl, _⟩ := hu
  go_enter Tryd.func16, Tryd.ntmps16
  go_wp2_with (go_at_call 38; refine (sameInts_any _ _ t _ (HV.out.ext EX) (HU.out.ext EX)).mono ?_; rintro e w1 ⟨rfl, os1, n1, rfl⟩)
  go_ret
  exact ⟨rfl, EX⟩
theorem sameCells_any (v u : Value) (L : List Cel) (w : World) (hv : Sl w v L.length (celCells L)) (hu : Sl w u L.length (celCells L)) : Calls Tryd.prog 28 #[v, u] w
    fun e w' => e = .returned (.bool true) ∧ Ext w w' := by
  obtain ⟨ad, cap, rfl, hv⟩ := hv
  obtain ⟨ad2, cap2, rfl, hu⟩ := hu
  have hm : L.length ≤ 9223372036854775807 := by have h1 := hv.1; have h2 := hv.2.1; unfold maxLen at h2; omega
  have HV := Lib.hid hv
  have HU := Lib.hid hu
  clear hv hu
  go_enter Tryd.func28, Tryd.ntmps28
  go_wp2
  go_loopw [5] (fun i wr => ∃ k : Nat, k ≤ L.length ∧ i = .int .i64 k ∧ Ext w wr) (fun i _ => L.length - (intOf i).toNat)
  case atStart => exact ⟨0, Nat.zero_le _, rfl, Ext.refl _⟩
  case round =>
    obtain ⟨k, hk, rfl, he⟩ := hrel
    have HE := Lib.hid he
    clear he
    by_cases hlt : k < L.length
    · obtain ⟨b, o, rfl, hc⟩ := HV.out.cel (i := (k : Int)) (by omega) (by omega)
      obtain ⟨b2, o2, rfl, hc2⟩ := HU.out.cel (i := (k : Int)) (by omega) (by omega)
      simp only [Int.toNat_natCast] at hc hc2
      obtain ⟨x, hx⟩ : ∃ x, L.getD k ⟨0, 0, 0, 0⟩ = x := ⟨_, rfl⟩
      rw [hx] at hc hc2
      obtain ⟨_, c1, c2, c3⟩ := hc
      obtain ⟨_, d1, d2, d3⟩ := hc2
      replace c1 := ext_cell HE.out c1
      replace c2 := ext_cell HE.out c2
      replace c3 := ext_cell HE.out c3
      replace d1 := ext_cell HE.out d1
      replace d2 := ext_cell HE.out d2
      replace d3 := ext_cell HE.out d3
      have l1 := World.block_lt_of_cell? _ _ c1
      have l2 := World.block_lt_of_cell? _ _ d1
      dsimp only at l1 l2
      have i0 : (0 : Int) ≤ (k : Int) := by omega
      have i1 : (k : Int) < (L.length : Int) := by omega
      have n1 : (x.a != x.a) = false := by simp
      have n2 : (x.b != x.b) = false := by simp
      have n3 : (x.c != x.c) = false := by simp
      clear hx
      go_wp2
      (refine wp_region_ext_lit (by kernel_rfl) (by kernel_rfl) ?_); (repeat (go_big_quiet_step (fail))); (refine wpQuiet_nil ?_; intro _ hw'; obtain ⟨⟨osq, nq⟩, hw''⟩ := hw'; replace hw'' : _ = grew _ osq nq := hw''; subst hw'')
      go_wp2
      go_roundw
      case rel => exact ⟨k + 1, by omega, by go_num, HE.out.trans EX⟩
      case measure => simp [intOf]; omega
    · obtain rfl : k = L.length := by omega
      go_wp2
      go_ret
      exact ⟨rfl, HE.out⟩
theorem conf_any (w : World) : Calls Tryd.prog 13 #[] w fun e w' => e = .returned confI.v ∧ ∃ x, w' = w.alloc x := by
  go_enter Tryd.func13, Tryd.ntmps13
  go_wp2
  refine bodyPost_ret (v := confI.v) (by simp [results, Tryd.results13, go_sem]) rfl ⟨rfl, _, rfl⟩
theorem done_as (c : Cfg) (o : Opn) (L : List Cel) (R : OutT) (hR : treRun c 400 (startF o) L [] [] = R) (ho : o.Fits) (hL : CelsFit L) (v : Value) (w : World) (ht : Tab w) (hs : Sl w v L.length (celCells L)) (hlen : L.length ≤ 1000) :
    Calls Tryd.prog 14 #[c.v, v, o.v] w
    fun e w' => ∃ ad cap va r, (e = .returned (.tuple #[.slice ad R.cells.length cap, .agg #[.int .i64 R.code, .int .u32 R.word, r], va, .bool R.ok]) ∧
      Hid (SlAt w' ad R.cells.length cap (celCells R.cells)) ∧ Hid (SlB w.heap.size w' va R.offs.length (offV R.offs)) ∧ Hid (Rws w' r R.rows)) ∧ Ext w w' := by
  subst hR
  refine (done_any c o ho L hL v w ht hs hlen).mono fun e w' h => ?_
  obtain ⟨ad, cap, va, r, rfl, h1, h2, h3, he⟩ := h
  exact ⟨ad, cap, va, r, ⟨rfl, Lib.hid h1, Lib.hid h2, Lib.hid h3⟩, he⟩
theorem fit_cel {t a b c : Int} (h : (0 ≤ t ∧ t ≤ 18446744073709551615) ∧ (0 ≤ a ∧ a ≤ 18446744073709551615) ∧ (0 ≤ b ∧ b ≤ 18446744073709551615) ∧ (0 ≤ c ∧ c ≤ 18446744073709551615)) : (Cel.mk t a b c).Fits := ⟨h.1, h.2.1, h.2.2.1, h.2.2.2⟩
theorem fitI0 : CelsFit cells0 := fun x hx => by simp [cells0] at hx; rcases hx with rfl | rfl | rfl | rfl | rfl | rfl <;> exact fit_cel (by decide)
/-- 'sameAt' at a literal. -/
theorem sameAt_lit (v : Value) (C : Array Value) (b n : Nat) (t : List Int) (w : World) (hv : Sl w v n (offV t)) (hc : ∀ (j : Nat) (u : Value), C[j]? = some u → w.cell? ⟨b, j, none⟩ = some u) (hC : C = (offV t).toArray) (hn : t.length = n) (hm : n ≤ 1000) :
    Calls Tryd.prog 16 #[v, .slice (some ⟨b, 0, none⟩) n n] w fun e w' => e = .returned (.bool true) ∧ Ext w w' := by
  subst hn
  subst hC
  refine sameAt_any v _ t w hv ⟨_, _, rfl, Nat.le_refl _, by unfold maxLen; omega, Or.inr ⟨_, _, rfl, fun j u hu => ?_⟩⟩
  rw [Nat.zero_add]
  exact hc j u (by simpa using hu)
theorem sameCells_lit (v : Value) (C : Array Value) (b n : Nat) (L : List Cel) (w : World) (hv : Sl w v n (celCells L)) (hc : ∀ (j : Nat) (u : Value), C[j]? = some u → w.cell? ⟨b, j, none⟩ = some u) (hC : C = (celCells L).toArray) (hn : L.length = n) (hm : n ≤ 1000) :
    Calls Tryd.prog 28 #[v, .slice (some ⟨b, 0, none⟩) n n] w fun e w' => e = .returned (.bool true) ∧ Ext w w' := by
  subst hn
  subst hC
  refine sameCells_any v _ L w hv ⟨_, _, rfl, Nat.le_refl _, by unfold maxLen; omega, Or.inr ⟨_, _, rfl, fun j u hu => ?_⟩⟩
  rw [Nat.zero_add]
  exact hc j u (by simpa using hu)
end Go.Proofs.YtkklhhdkokncnaaDoor
