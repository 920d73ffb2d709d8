/- The walk of 'rules.check'. -/
import Derived.Test.YtiooiljehigomaaDoorSayP
import Derived.Scope
namespace Go.Proofs.YtiooiljehigomaaDoor
open Go Go.RowKit Go.Shelf

attribute [local go_sem] Oper.semAt_some

theorem speak_any (ad : Option Addr) (n cap : Nat) (who what : Int) (w : World) : Calls Tryd.prog 37 #[.slice ad n cap, .int .u32 who, .int .u32 what] w
    fun e w' => e = .returned (.func (.func 47) #[] #[.pointer (some ⟨w.heap.size + 1, 0, none⟩), .pointer (some ⟨w.heap.size + 1 + 1, 0, none⟩), .pointer (some ⟨w.heap.size, 0, none⟩)]) ∧
      w' = ((w.alloc (.cells #[.slice ad n cap] 25)).alloc (.cells #[.int .u32 who] 27)).alloc (.cells #[.int .u32 what] 27) := by
  go_enter Tryd.func37, Tryd.ntmps37
  go_wp2
  go_ret
  exact ⟨rfl, rfl⟩
theorem grown_ext {w w' : World} (h : Ext w w') : w.grownBy w' none := by
  obtain ⟨os, n, rfl⟩ := h
  exact ⟨rfl, rfl, rfl, by rw [size_grew]; omega, fun k hk _ => heap_grew w os n hk⟩
theorem speak_stops (B1 B2 B3 Bv : Nat) (who what : Int) (hwho : 0 ≤ who ∧ who ≤ 65535) (hwhat : 0 ≤ what ∧ what ≤ 65535) (L : List Rw) (ad : Option Addr) (cap : Nat) (w : World)
    (h1 : w.cell? ⟨B1, 0, none⟩ = some (.int .u32 who)) (h2 : w.cell? ⟨B2, 0, none⟩ = some (.int .u32 what)) (h3 : w.cell? ⟨B3, 0, none⟩ = some (.slice ad L.length cap)) (hB1 : B1 ≠ Bv) (hB2 : B2 ≠ Bv) (hB3 : B3 ≠ Bv) (hBv : Bv < w.heap.size)
    (hs : SlNo (fun b => b ≠ Bv) w ad L.length cap (rwCells L)) :
    SeqStopsK Fence.wide 3 Tryd.prog 47 #[.pointer (some ⟨B1, 0, none⟩), .pointer (some ⟨B2, 0, none⟩), .pointer (some ⟨B3, 0, none⟩)] (fun x : Int => #[Value.int .u64 x]) (KeepC Bv) (fun ys => ys = spL L who what 4) (fun pre => pre <+: spL L who what 4) 4 w :=
  fun l J Jx W hW hJ _ hY h0 => by
    have hx : Ext w W := Ext.of_below hW
    exact speak1_in l B1 B2 B3 Bv who what hwho hwhat L ad cap J Jx (fun pre A B hj hab => hJ pre A B none hj (grown_ext hab) (fun r e => by cases e)) hY W (ext_cell hx h1) (ext_cell hx h2) (ext_cell hx h3) hB1 hB2 hB3 (Nat.lt_of_lt_of_le hBv hx.size) (hs.ext hx) h0

theorem keepC_set (W : World) (B : Nat) (v : Value) : KeepC B W (W.setCell ⟨B, 0, none⟩ v) :=
  ⟨by simp [World.setCell], fun b i u hb hc => by rw [World.cell?_setCell_other _ _ _ _ (fun e => hb (by cases e; rfl))]; exact hc⟩
set_option maxRecDepth 100000 in
set_option maxHeartbeats 4000000 in
theorem check_any (v : Value) (who what : Int) (hwho : 0 ≤ who ∧ who ≤ 65535) (hwhat : 0 ≤ what ∧ what ≤ 65535) (L : List Rw) (hL : ∀ x ∈ L, RuleOk x) (hr : Rises L) (w : World) (hv : Sl w v L.length (rwCells L)) :
    Calls Tryd.prog 23 #[v, .int .u32 who, .int .u32 what] w fun e w' => e = .returned (.int .u32 (rulesSay L who what)) ∧ Ext w w' := by
  obtain ⟨ad, cap, rfl, hs⟩ := hv
  have HS := Lib.hid hs
  clear hs
  refine (callsIn_wide (n := 4)).1 ?_
  refine callsIn_of_wp_marks Tryd.func23 rfl trivial ?_ rfl
  simp only [Tryd.ntmps23, List.size_toArray, List.length_cons, List.length_nil, Nat.reduceAdd, Nat.reduceSub, Array.replicate_succ, Array.replicate_zero, List.push_toArray, List.append_toArray, List.nil_append, List.cons_append]
  gi_wp2
  refine wpIn_wide.2 (wp_scope_straight ((wpIn_wide (n := 4)).1 ?_))
  gi_wp2
  refine wpIn_label ?_
  gi_wp2
  refine ⟨trivial, ?_⟩
  refine (callsIn_wide.2 (speak_any _ _ _ _ _ _)).mono ?_
  rintro e w' ⟨rfl, rfl⟩
  gi_wp2
  have hB0 : Below w.heap.size w ((((w.alloc (.cells #[.int .u32 0] 27)).alloc (.cells #[.slice ad L.length cap] 25)).alloc (.cells #[.int .u32 who] 27)).alloc (.cells #[.int .u32 what] 27)) := Ext.below (by repeat (first | with_reducible exact Ext.refl _ | with_reducible assumption | with_reducible refine Ext.alloc ?_ _ | with_reducible refine Ext.gr ?_ _ | with_reducible refine Ext.drewN ?_ _ | with_reducible refine Ext.drew ?_ | with_reducible refine Ext.setCell ?_ ?_ _ | with_reducible refine Ext.more ?_ _ _ | (show _ ≤ _; dsimp only; omega)))
  have hsl : SlNo (fun b => b ≠ w.heap.size) ((((w.alloc (.cells #[.int .u32 0] 27)).alloc (.cells #[.slice ad L.length cap] 25)).alloc (.cells #[.int .u32 who] 27)).alloc (.cells #[.int .u32 what] 27)) ad L.length cap (rwCells L) := HS.out.no fun b i v hc => ⟨by have := World.block_lt_of_cell? w _ hc; dsimp only at this; omega, ext_cell (by repeat (first | with_reducible exact Ext.refl _ | with_reducible assumption | with_reducible refine Ext.alloc ?_ _ | with_reducible refine Ext.gr ?_ _ | with_reducible refine Ext.drewN ?_ _ | with_reducible refine Ext.drew ?_ | with_reducible refine Ext.setCell ?_ ?_ _ | with_reducible refine Ext.more ?_ _ _ | (show _ ≤ _; dsimp only; omega))) hc⟩
  refine wpIn_rangeFunc_ownF rfl (by decide) (gf := 47) (lb := #[.pointer (some ⟨w.heap.size + 1 + 1, 0, none⟩), .pointer (some ⟨w.heap.size + 1 + 1 + 1, 0, none⟩), .pointer (some ⟨w.heap.size + 1, 0, none⟩)]) rfl trivial (enters_of Tryd.func47 (by kernel_rfl) rfl)
    (speak_stops (w.heap.size + 1 + 1) (w.heap.size + 1 + 1 + 1) (w.heap.size + 1) w.heap.size who what hwho hwhat L ad cap _ (by simp [go_sem]) (by simp [go_sem]) (by simp [go_sem]) (by omega) (by omega) (by omega) (by simp [go_sem]) hsl)
    (fun h k => keepC_t h k) (fun W l o o' _ h ho _ => keepC_b W l o o' h ho) (Below.refl _ _) (fun _ => rfl)
    (fun pre W => (W.cell? ⟨w.heap.size, 0, none⟩ = some (.int .u32 (lastW pre)) ∧ W.frozen? ⟨w.heap.size, 0, none⟩ = false ∧ ∀ y ∈ pre, ¬ IntKind.u32.wrap y = 2) ∧ Below w.heap.size w W)
    (fun c pre W => (c = .exit 0 ∧ W.cell? ⟨w.heap.size, 0, none⟩ = some (.int .u32 2) ∧ W.frozen? ⟨w.heap.size, 0, none⟩ = false ∧ ∃ y ∈ pre, IntKind.u32.wrap y = 2) ∧ Below w.heap.size w W)
    (OwnFrom.and (Own.from (fun s A B row hs hg hr => ⟨cell_kept hs.1 hg hr, (frozen_kept hs.1 hg hr).trans hs.2.1, hs.2.2⟩) _) (ownFrom_below (Nat.le_refl _) (by simp [go_sem]; omega)))
    (fun c => OwnFrom.and (Own.from (fun s A B row hs hg hr => ⟨hs.1, cell_kept hs.2.1 hg hr, (frozen_kept hs.2.1 hg hr).trans hs.2.2.1, hs.2.2.2⟩) _) (ownFrom_below (Nat.le_refl _) (by simp [go_sem]; omega)))
    ⟨⟨by simp [go_sem, lastW], by simp [go_sem], fun y hy => by cases hy⟩, hB0⟩
    (fun x => { tmps := #[.slice ad L.length cap, .int .u32 who, .int .u32 what, undef, undef, undef, .pointer (some ⟨w.heap.size, 0, none⟩), .int .u64 x, .slice ad L.length cap, .int .u32 who, .int .u32 what,
      .func (.func 47) #[] #[.pointer (some ⟨w.heap.size + 1 + 1, 0, none⟩), .pointer (some ⟨w.heap.size + 1 + 1 + 1, 0, none⟩), .pointer (some ⟨w.heap.size + 1, 0, none⟩)], .int .u64 x, undef, undef, undef, undef, undef, undef], defers := [] }) ?assign ?body ?done ?stop
  case assign =>
    intro l x W K hK
    gi_wp2
    exact hK
  case body =>
    rintro l pre x W ⟨⟨hc, hf, hp⟩, hB⟩ _
    have HB := Lib.hid hB
    have HP := Lib.hid hp
    clear hB hp
    have hwr := IntKind.wrap_u32 x
    have HWR := Lib.hid hwr
    clear hwr
    gi_wp2
    all_goals rename_i hx
    all_goals simp only [beq_iff_eq, beq_eq_false_iff_ne, ne_eq] at hx
    all_goals rw [← HWR.out] at hx ⊢
    all_goals
      first
        | exact ⟨KeepsOthers.setCell _ _ _, ⟨rfl, by rw [World.cell?_setCell_same' _ _ _ (by rw [hc]; rfl), hx], by rw [World.frozen?_setCell]; exact hf, x, by simp, hx⟩, HB.out.setCell (p := ⟨w.heap.size, 0, none⟩) (Nat.le_refl _) _⟩
        | exact ⟨KeepsOthers.setCell _ _ _, keepC_set W _ _, ⟨by rw [lastW_snoc]; exact World.cell?_setCell_same' _ _ _ (by rw [hc]; rfl), by rw [World.frozen?_setCell]; exact hf, fun y hy => (List.mem_append.1 hy).elim (HP.out y) (fun e => by simp at e; subst e; exact hx)⟩, HB.out.setCell (p := ⟨w.heap.size, 0, none⟩) (Nat.le_refl _) _⟩
  case done =>
    rintro D ys W hD rfl ⟨⟨hc, hf, hp⟩, hB⟩ hK
    have HSAY := Lib.hid (say_not hr hL hwho hwhat hp)
    obtain ⟨z, hz⟩ : ∃ z, lastW (spL L who what 4) = z := ⟨_, rfl⟩
    rw [hz] at hc HSAY
    clear hp hz
    gi_wp2
    have hK' := (KeepsOthers.setCell W ⟨w.heap.size, 0, none⟩ (.int .u32 z)).same D _ hK rfl
    refine ⟨by simp, .inl ⟨_, _, rfl, run_takeDeferred hK', ?_⟩⟩
    have hc5 := cell_kept (World.cell?_setCell_same' W ⟨w.heap.size, 0, none⟩ (.int .u32 z) (by rw [hc]; rfl)) (grownBy_putObj' _ D (.deferred none)) (fun r e => by cases e; exact ⟨_, hK', rfl⟩)
    have hB2 := (hB.setCell (p := ⟨w.heap.size, 0, none⟩) (Nat.le_refl _) (.int .u32 z)).trans (belowK_b (w := w) (Nat.le_refl _) _ D _ (.deferred none) (by simp at hD; omega) hK' rfl rfl)
    refine ⟨.int .u32 z, ?_, by rw [HSAY.out], Ext.of_below hB2⟩
    simp [results, Tryd.f23, go_sem, hc5]
  case stop =>
    rintro D c pre W hD hpre ⟨⟨rfl, hc, hf, hp⟩, hB⟩ hK
    have HSAY : Hid (rulesSay L who what = 2) := Lib.hid (by
      obtain ⟨y, hy, h2⟩ := hp
      exact say_two hr hL hwho hwhat (hpre.subset hy) h2)
    clear hp
    gi_wp2
    have hK' := (KeepsOthers.setCell W ⟨w.heap.size, 0, none⟩ (.int .u32 2)).same D _ hK rfl
    refine ⟨by simp, .inl ⟨_, _, rfl, run_takeDeferred hK', ?_⟩⟩
    have hc5 := cell_kept (World.cell?_setCell_same' W ⟨w.heap.size, 0, none⟩ (.int .u32 2) (by rw [hc]; rfl)) (grownBy_putObj' _ D (.deferred none)) (fun r e => by cases e; exact ⟨_, hK', rfl⟩)
    have hB2 := (hB.setCell (p := ⟨w.heap.size, 0, none⟩) (Nat.le_refl _) (.int .u32 2)).trans (belowK_b (w := w) (Nat.le_refl _) _ D _ (.deferred none) (by simp at hD; omega) hK' rfl rfl)
    refine ⟨.int .u32 2, ?_, by rw [HSAY.out], Ext.of_below hB2⟩
    simp [results, Tryd.f23, go_sem, hc5]
end Go.Proofs.YtiooiljehigomaaDoor
