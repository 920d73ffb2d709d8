/- The walk of 'reg.small', 'reg.two', 'reg.Laid', where a desc fits a cell. -/
import Derived.Test.YtmbodooikfmegaaDoorJn6
import Derived.Test.YtmbodooikfmegaaDoorFrame
import Derived.Deep.RegionHeld3
import Derived.Deep.DeepCutAuto
namespace Go.Proofs.YtmbodooikfmegaaDoor
open Go Go.RowKit

def smallB (k : Nat) : Int := [5, 7, 4, 5, 7, 7, 6, 6, 3].getD k 0
def twoB (_ : Nat) : Int := 32
abbrev descV (t K Q : Int) (f : Frm) : Value := .agg #[.int .u64 t, .int .u8 K, .int .u8 Q, .int .u8 f.kind, .int .u32 f.a, .int .u32 f.b, .int .u8 f.pc, .int .u8 f.i, .int .u8 f.j, .int .u8 f.n, .int .u8 f.p, .int .u8 f.h, .int .u32 f.x, .int .u32 f.y]
/-- A desc fits into a cell. -/
structure FitsC (K Q : Int) (f : Frm) : Prop where
  K : 0 ≤ K ∧ K ≤ 31
  Q : 0 ≤ Q ∧ Q ≤ 127
  kind : 0 ≤ f.kind ∧ f.kind ≤ 15
  pc : 0 ≤ f.pc ∧ f.pc ≤ 31
  i : 0 ≤ f.i ∧ f.i ≤ 127
  j : 0 ≤ f.j ∧ f.j ≤ 127
  n : 0 ≤ f.n ∧ f.n ≤ 63
  p : 0 ≤ f.p ∧ f.p ≤ 63
  h : 0 ≤ f.h ∧ f.h ≤ 7
  a : 0 ≤ f.a ∧ f.a ≤ 4294967295
  b : 0 ≤ f.b ∧ f.b ≤ 4294967295
  x : 0 ≤ f.x ∧ f.x ≤ 4294967295
  y : 0 ≤ f.y ∧ f.y ≤ 4294967295
def smallV (K Q : Int) (f : Frm) (k : Nat) : Int := [K, Q, f.kind, f.pc, f.i, f.j, f.n, f.p, f.h].getD k 0
def twoV (a b : Int) (k : Nat) : Int := [a, b].getD k 0
theorem small_fit {K Q : Int} {f : Frm} (h : FitsC K Q f) (k : Nat) (hk : k < 9) : (1 ≤ smallB k ∧ smallB k ≤ 32) ∧ (0 ≤ offF smallB k ∧ offF smallB k ≤ 64 - smallB k) ∧ (0 ≤ smallV K Q f k ∧ smallV K Q f k ≤ 2 ^ (smallB k).toNat - 1) := by
  obtain ⟨h1, h2, h3, h4, h5, h6, h7, h8, h9, _⟩ := h
  match k, hk with
  | 0, _ => exact ⟨by decide, by decide, h1⟩
  | 1, _ => exact ⟨by decide, by decide, h2⟩
  | 2, _ => exact ⟨by decide, by decide, h3⟩
  | 3, _ => exact ⟨by decide, by decide, h4⟩
  | 4, _ => exact ⟨by decide, by decide, h5⟩
  | 5, _ => exact ⟨by decide, by decide, h6⟩
  | 6, _ => exact ⟨by decide, by decide, h7⟩
  | 7, _ => exact ⟨by decide, by decide, h8⟩
  | 8, _ => exact ⟨by decide, by decide, h9⟩
theorem two_fit {a b : Int} (ha : 0 ≤ a ∧ a ≤ 4294967295) (hb : 0 ≤ b ∧ b ≤ 4294967295) (k : Nat) (hk : k < 2) : (1 ≤ twoB k ∧ twoB k ≤ 32) ∧ (0 ≤ offF twoB k ∧ offF twoB k ≤ 64 - twoB k) ∧ (0 ≤ twoV a b k ∧ twoV a b k ≤ 2 ^ (twoB k).toNat - 1) := by
  match k, hk with
  | 0, _ => exact ⟨by decide, by decide, ha⟩
  | 1, _ => exact ⟨by decide, by decide, hb⟩
theorem lit_sl {W : World} {b n : Nat} {C : Array Value} {cs : List Value} (h : ∀ (j : Nat) (u : Value), C[j]? = some u → W.cell? ⟨b, j, none⟩ = some u) (hC : C = cs.toArray) (hn : n ≤ 1000) : Sl W (.slice (some ⟨b, 0, none⟩) n n) n cs := by
  subst hC
  exact ⟨_, _, rfl, Nat.le_refl _, by unfold maxLen; omega, Or.inr ⟨_, _, rfl, fun j u hu => by rw [Nat.zero_add]; exact h j u (by simpa using hu)⟩⟩
theorem small_any (w : World) : Calls Tryd.prog 32 #[] w fun e w' => ∃ v, (e = .returned v ∧ Hid (Sl w' v 9 (i64s smallB 9))) ∧ Ext w w' := by
  go_enter Tryd.func32, Tryd.ntmps32
  go_wp2
  refine bodyPost_ret (v := .slice (some ⟨w.heap.size, 0, none⟩) 9 9) (by simp [results, Tryd.results32, go_sem]) rfl ⟨_, ⟨rfl, Lib.hid (lit_sl (C := #[.int .i64 5, .int .i64 7, .int .i64 4, .int .i64 5, .int .i64 7, .int .i64 7, .int .i64 6, .int .i64 6, .int .i64 3]) (fun j u hu => by simpa [go_sem] using hu) (by kernel_rfl) (by decide))⟩, (by repeat (first | with_reducible exact Ext.refl _ | with_reducible assumption | with_reducible refine Ext.alloc ?_ _ | with_reducible refine Ext.gr ?_ _ | with_reducible refine Ext.drewN ?_ _ | with_reducible refine Ext.drew ?_ | with_reducible refine Ext.setCell ?_ ?_ _ | with_reducible refine Ext.more ?_ _ _ | (show _ ≤ _; dsimp only; omega)))⟩
theorem two_any (w : World) : Calls Tryd.prog 33 #[] w fun e w' => ∃ v, (e = .returned v ∧ Hid (Sl w' v 2 (i64s twoB 2))) ∧ Ext w w' := by
  go_enter Tryd.func33, Tryd.ntmps33
  go_wp2
  refine bodyPost_ret (v := .slice (some ⟨w.heap.size, 0, none⟩) 2 2) (by simp [results, Tryd.results33, go_sem]) rfl ⟨_, ⟨rfl, Lib.hid (lit_sl (C := #[.int .i64 32, .int .i64 32]) (fun j u hu => by simpa [go_sem] using hu) (by kernel_rfl) (by decide))⟩, (by repeat (first | with_reducible exact Ext.refl _ | with_reducible assumption | with_reducible refine Ext.alloc ?_ _ | with_reducible refine Ext.gr ?_ _ | with_reducible refine Ext.drewN ?_ _ | with_reducible refine Ext.drew ?_ | with_reducible refine Ext.setCell ?_ ?_ _ | with_reducible refine Ext.more ?_ _ _ | (show _ ≤ _; dsimp only; omega)))⟩
theorem u64s_succ (vs : Nat → Int) (k : Nat) : u64s vs (k + 1) = u64s vs k ++ [.int .u64 (vs k)] := by simp [u64s, List.range_succ]
theorem joined_two (a b : Int) (ha : 0 ≤ a ∧ a ≤ 4294967295) (hb : 0 ≤ b ∧ b ≤ 4294967295) (v : Value) (q : Nat) (w : World) (hv : Sl w v 2 (i64s twoB 2)) (h0 : w.cell? ⟨q, 0, none⟩ = some (.int .u64 a)) (h1 : w.cell? ⟨q, 1, none⟩ = some (.int .u64 b)) :
    Calls Tryd.prog 31 #[v, .slice (some ⟨q, 0, none⟩) 2 2] w fun e w' => (∃ x, e = .returned (.tuple #[.int .u64 x, .int .i64 0])) ∧ Ext w w' :=
  joined_any 2 twoB (twoV a b) (by decide) (by decide) (fun k hk => two_fit ha hb k hk) v _ w hv (lit_sl (C := #[.int .u64 a, .int .u64 b]) (fun j u hu => by
    match j, hu with
    | 0, hu => simp at hu; subst hu; exact h0
    | 1, hu => simp at hu; subst hu; exact h1
    | j + 2, hu => simp at hu) (by simp [u64s, twoV, List.range_succ]) (by decide))
theorem one_cell {w : World} {b : Nat} {x : Value} (h : w.cell? ⟨b, 0, none⟩ = some x) : ∀ (j : Nat) (u : Value), [x][j]? = some u → w.cell? ((⟨b, 0, none⟩ : Addr).add j) = some u := by
  intro j u hu
  match j, hu with
  | 0, hu => simp at hu; subst hu; exact h
  | j + 1, hu => simp at hu
theorem info_u64 : (Tryd.prog.info? 22).map (fun i => (i.zero, i.size, i.bytes)) = some (some (.int .u64 0), 1, 8) := by kernel_rfl
theorem smallV_fit {K Q : Int} {f : Frm} (h : FitsC K Q f) (k : Nat) : 0 ≤ smallV K Q f k ∧ smallV K Q f k ≤ 255 := by
  obtain ⟨h1, h2, h3, h4, h5, h6, h7, h8, h9, _⟩ := h
  match k with
  | 0 => simp [smallV]; omega
  | 1 => simp [smallV]; omega
  | 2 => simp [smallV]; omega
  | 3 => simp [smallV]; omega
  | 4 => simp [smallV]; omega
  | 5 => simp [smallV]; omega
  | 6 => simp [smallV]; omega
  | 7 => simp [smallV]; omega
  | 8 => simp [smallV]; omega
  | k + 9 => simp [smallV]
abbrev smallA (K Q : Int) (f : Frm) : Value := .agg #[.int .u8 K, .int .u8 Q, .int .u8 f.kind, .int .u8 f.pc, .int .u8 f.i, .int .u8 f.j, .int .u8 f.n, .int .u8 f.p, .int .u8 f.h]
theorem small_index (K Q : Int) (f : Frm) (k : Nat) (hk : k < 9) (w : World) : (Instr.index 83 (smallA K Q f) (.int .i64 k)).run Tryd.prog w = .ok (.int .u8 (smallV K Q f k)) w := by
  obtain rfl | rfl | rfl | rfl | rfl | rfl | rfl | rfl | rfl : k = 0 ∨ k = 1 ∨ k = 2 ∨ k = 3 ∨ k = 4 ∨ k = 5 ∨ k = 6 ∨ k = 7 ∨ k = 8 := by omega
  all_goals kernel_rfl
def laidBase (w : World) (t K Q : Int) (f : Frm) : World := ((w.alloc (.cells #[.int .u64 t, .int .u8 K, .int .u8 Q, .int .u8 f.kind, .int .u32 f.a, .int .u32 f.b, .int .u8 f.pc, .int .u8 f.i, .int .u8 f.j, .int .u8 f.n, .int .u8 f.p, .int .u8 f.h, .int .u32 f.x, .int .u32 f.y] 59)).alloc (.cells #[.int .u64 0, .int .u64 0, .int .u64 0, .int .u64 0] 37)).alloc (.cells #[.int .u8 f.kind, .int .u32 f.a, .int .u32 f.b, .int .u8 f.pc, .int .u8 f.i, .int .u8 f.j, .int .u8 f.n, .int .u8 f.p, .int .u8 f.h, .int .u32 f.x, .int .u32 f.y] 27)
set_option maxRecDepth 100000 in
set_option maxHeartbeats 4000000 in
theorem laid_any (t K Q : Int) (f : Frm) (hf : FitsC K Q f) (w : World) : Calls Tryd.prog 17 #[descV t K Q f] w
    fun e w' => (∃ x y z, e = .returned (.tuple #[.agg #[.int .u64 t, .int .u64 x, .int .u64 y, .int .u64 z], .int .i64 0])) ∧ Ext w w' := by
  have HF := Lib.hid hf
  obtain ⟨i1, hi, hz0, hz1, hz2⟩ := info_parts info_u64
  have HI1 := Lib.hid (And.intro hi (And.intro hz0 (And.intro hz1 hz2)))
  clear hf hi hz0 hz1 hz2
  go_enter Tryd.func17, Tryd.ntmps17
  go_wp2
  go_loopw [5, 7, 35] (fun t5 t7 i wr => ∃ m : Nat, m ≤ 9 ∧ i = .int .i64 m ∧ Hid (wr.ownsRow (w.heap.size + 3) 22 1 t5 m (u64s (smallV K Q f) m)) ∧ Hid (Ext (laidBase w t K Q f) wr)) (fun _ _ i _ => 9 - (intOf i).toNat)
  case atStart => exact ⟨0, Nat.zero_le _, rfl, Lib.hid (own_nil _ _ _ _), Lib.hid (by unfold laidBase; exact (by repeat (first | with_reducible exact Ext.refl _ | with_reducible assumption | with_reducible refine Ext.alloc ?_ _ | with_reducible refine Ext.gr ?_ _ | with_reducible refine Ext.drewN ?_ _ | with_reducible refine Ext.drew ?_ | with_reducible refine Ext.setCell ?_ ?_ _ | with_reducible refine Ext.more ?_ _ _ | (show _ ≤ _; dsimp only; omega))))⟩
  case round =>
    obtain ⟨m, hm, rfl, HA, HE⟩ := hrel
    have hsz : w.heap.size + 3 ≤ wr.heap.size := by have := HE.out.size; simp [laidBase] at this; omega
    by_cases hlt : m < 9
    · obtain ⟨V, hV⟩ : ∃ V, smallV K Q f m = V := ⟨_, rfl⟩
      have hVf := smallV_fit HF.out m
      have hidx : ∀ w : World, (Instr.index 83 (smallA K Q f) (.int .i64 m)).run Tryd.prog w = .ok (.int .u8 V) w := fun w => by rw [← hV]; exact small_index K Q f m hlt w
      rw [hV] at hVf
      have HVV := Lib.hid hV
      have i0 : (0 : Int) ≤ (m : Int) := by omega
      have i1' : (m : Int) < 9 := by omega
      have v0 : V % 18446744073709551616 = V := by omega
      have v1 : IntKind.u64.wrap V = V := by rw [IntKind.wrap_u64]; omega
      obtain ⟨adk, capk, e6⟩ := own_form HA.out
      clear hV
      go_wp2_with (at_builtin; refine wpList_append_own_at _ rfl _ _ 82 rfl (w.heap.size + 3) 22 i1 (.int .u64 0) 1 8 Tryd.underlying82 HI1.out.1 HI1.out.2.1 HI1.out.2.2.1 HI1.out.2.2.2 rfl (by decide) u5 m (u64s (smallV K Q f) m) (by rfl) (by exact own_ext HA.out (by first | ((repeat (first | with_reducible exact Ext.refl _ | with_reducible assumption | with_reducible refine Ext.alloc ?_ _ | with_reducible refine Ext.gr ?_ _ | with_reducible refine Ext.drewN ?_ _ | with_reducible refine Ext.drew ?_ | with_reducible refine Ext.setCell ?_ ?_ _ | with_reducible refine Ext.more ?_ _ _ | (show _ ≤ _; dsimp only; omega))); done) | ((repeat (first | with_reducible exact Ext.refl _ | with_reducible assumption | with_reducible apply Ext.bothR | with_reducible refine Ext.alloc ?_ _ | with_reducible refine Ext.gr ?_ _ | with_reducible refine Ext.drewN ?_ _ | with_reducible refine Ext.drew ?_ | with_reducible refine Ext.setCell ?_ ?_ _ | with_reducible refine Ext.more ?_ _ _ | (show _ ≤ _; dsimp only; omega))); done))) _ 1 1 [.int .u64 V] (by rfl) (by rfl) (by exact one_cell (by simp [go_sem])) (by simp [Value.oneCell']) (by unfold maxLen; omega) (by omega) (by simp [go_sem]; omega) ?_; intro v2 w2 hown2 hgrow2 _ _; have HO2 := Lib.hid hown2; have HG2 := Lib.hid hgrow2; clear hown2 hgrow2)
      go_roundw
      case rel => exact ⟨m + 1, by omega, by go_num, Lib.hid (by rw [u64s_succ, HVV.out]; exact HO2.out), Lib.hid (ext_grown (Ext.trans HE.out (by first | ((repeat (first | with_reducible exact Ext.refl _ | with_reducible assumption | with_reducible refine Ext.alloc ?_ _ | with_reducible refine Ext.gr ?_ _ | with_reducible refine Ext.drewN ?_ _ | with_reducible refine Ext.drew ?_ | with_reducible refine Ext.setCell ?_ ?_ _ | with_reducible refine Ext.more ?_ _ _ | (show _ ≤ _; dsimp only; omega))); done) | ((repeat (first | with_reducible exact Ext.refl _ | with_reducible assumption | with_reducible apply Ext.bothR | with_reducible refine Ext.alloc ?_ _ | with_reducible refine Ext.gr ?_ _ | with_reducible refine Ext.drewN ?_ _ | with_reducible refine Ext.drew ?_ | with_reducible refine Ext.setCell ?_ ?_ _ | with_reducible refine Ext.more ?_ _ _ | (show _ ≤ _; dsimp only; omega))); done))) HG2.out (fun j hj => by have := (own_block HA.out hj).1; simp [laidBase]; omega))⟩
      case measure => simp [intOf]; omega
    · obtain rfl : m = 9 := by omega
      have HA5 : Hid (Sl wr u5 9 (u64s (smallV K Q f) 9)) := Lib.hid (own_slB HA.out (lo := 0) (by omega)).sl
      have wa : IntKind.u64.wrap f.a = f.a := by have := HF.out.a; rw [IntKind.wrap_u64]; omega
      have wb : IntKind.u64.wrap f.b = f.b := by have := HF.out.b; rw [IntKind.wrap_u64]; omega
      have wx : IntKind.u64.wrap f.x = f.x := by have := HF.out.x; rw [IntKind.wrap_u64]; omega
      have wy : IntKind.u64.wrap f.y = f.y := by have := HF.out.y; rw [IntKind.wrap_u64]; omega
      have wa' : f.a % 18446744073709551616 = f.a := by have := HF.out.a; omega
      have wb' : f.b % 18446744073709551616 = f.b := by have := HF.out.b; omega
      have wx' : f.x % 18446744073709551616 = f.x := by have := HF.out.x; omega
      have wy' : f.y % 18446744073709551616 = f.y := by have := HF.out.y; omega
      have hX := HE.out
      unfold laidBase at hX
      obtain ⟨os, d, rfl⟩ := hX
      clear HA HE
      go_upto_region 11 with (first | (go_at_call 32; refine (small_any _).mono ?_; rintro e w1 ⟨vs, ⟨rfl, HS⟩, os1, n1, rfl⟩; have hs := HS.out; (try simp only [grew_grew] at hs); clear HS; have HS := Lib.hid hs; clear hs) | (go_at_call 31; refine (joined_any 9 smallB (smallV K Q f) (by decide) (by decide) (fun k hk => small_fit HF.out k hk) _ _ _ (HS.out.ext (by first | ((repeat (first | with_reducible exact Ext.refl _ | with_reducible assumption | with_reducible refine Ext.alloc ?_ _ | with_reducible refine Ext.gr ?_ _ | with_reducible refine Ext.drewN ?_ _ | with_reducible refine Ext.drew ?_ | with_reducible refine Ext.setCell ?_ ?_ _ | with_reducible refine Ext.more ?_ _ _ | (show _ ≤ _; dsimp only; omega))); done) | ((repeat (first | with_reducible exact Ext.refl _ | with_reducible assumption | with_reducible apply Ext.bothR | with_reducible refine Ext.alloc ?_ _ | with_reducible refine Ext.gr ?_ _ | with_reducible refine Ext.drewN ?_ _ | with_reducible refine Ext.drew ?_ | with_reducible refine Ext.setCell ?_ ?_ _ | with_reducible refine Ext.more ?_ _ _ | (show _ ≤ _; dsimp only; omega))); done))) (HA5.out.ext (by first | ((repeat (first | with_reducible exact Ext.refl _ | with_reducible assumption | with_reducible refine Ext.alloc ?_ _ | with_reducible refine Ext.gr ?_ _ | with_reducible refine Ext.drewN ?_ _ | with_reducible refine Ext.drew ?_ | with_reducible refine Ext.setCell ?_ ?_ _ | with_reducible refine Ext.more ?_ _ _ | (show _ ≤ _; dsimp only; omega))); done) | ((repeat (first | with_reducible exact Ext.refl _ | with_reducible assumption | with_reducible apply Ext.bothR | with_reducible refine Ext.alloc ?_ _ | with_reducible refine Ext.gr ?_ _ | with_reducible refine Ext.drewN ?_ _ | with_reducible refine Ext.drew ?_ | with_reducible refine Ext.setCell ?_ ?_ _ | with_reducible refine Ext.more ?_ _ _ | (show _ ≤ _; dsimp only; omega))); done)))).mono ?_; rintro e w1 ⟨⟨x, rfl⟩, os2, n2, rfl⟩))
      go_cut [10, 11] (fun t10 t11 wn => ∃ y, t10 = .int .u64 y ∧ t11 = .int .i64 0 ∧ Hid (Ext (laidBase w t K Q f) wn))
      case first =>
        go_region_held3 (fun W => W.cell? ⟨w.heap.size + 1 + 1, 1, none⟩ = some (.int .u32 f.a) ∧ W.cell? ⟨w.heap.size + 1 + 1, 2, none⟩ = some (.int .u32 f.b))
          ((simp [go_sem]; done))
          (first | (go_at_call 33; refine (two_any _).mono ?_; rintro e w1 ⟨vs, ⟨rfl, HS2⟩, os1, n1, rfl⟩; have hs := HS2.out; (try simp only [drew_grew, grew_grew] at hs); clear HS2; have HS2 := Lib.hid hs; clear hs) | (go_at_call 31; refine (joined_two f.a f.b HF.out.a HF.out.b _ _ _ (HS2.out.ext (by first | ((repeat (first | with_reducible exact Ext.refl _ | with_reducible assumption | with_reducible refine Ext.alloc ?_ _ | with_reducible refine Ext.gr ?_ _ | with_reducible refine Ext.drewN ?_ _ | with_reducible refine Ext.drew ?_ | with_reducible refine Ext.setCell ?_ ?_ _ | with_reducible refine Ext.more ?_ _ _ | (show _ ≤ _; dsimp only; omega))); done) | ((repeat (first | with_reducible exact Ext.refl _ | with_reducible assumption | with_reducible apply Ext.bothR | with_reducible refine Ext.alloc ?_ _ | with_reducible refine Ext.gr ?_ _ | with_reducible refine Ext.drewN ?_ _ | with_reducible refine Ext.drew ?_ | with_reducible refine Ext.setCell ?_ ?_ _ | with_reducible refine Ext.more ?_ _ _ | (show _ ≤ _; dsimp only; omega))); done))) (by simp [go_sem]) (by simp [go_sem])).mono ?_; rintro e w1 ⟨⟨y, rfl⟩, os2, n2, rfl⟩))
        all_goals
          go_wp2_with fail
          go_meet
          case rel => exact ⟨_, rfl, rfl, Lib.hid (by unfold laidBase; exact (by first | ((repeat (first | with_reducible exact Ext.refl _ | with_reducible assumption | with_reducible refine Ext.alloc ?_ _ | with_reducible refine Ext.gr ?_ _ | with_reducible refine Ext.drewN ?_ _ | with_reducible refine Ext.drew ?_ | with_reducible refine Ext.setCell ?_ ?_ _ | with_reducible refine Ext.more ?_ _ _ | (show _ ≤ _; dsimp only; omega))); done) | ((repeat (first | with_reducible exact Ext.refl _ | with_reducible assumption | with_reducible apply Ext.bothR | with_reducible refine Ext.alloc ?_ _ | with_reducible refine Ext.gr ?_ _ | with_reducible refine Ext.drewN ?_ _ | with_reducible refine Ext.drew ?_ | with_reducible refine Ext.setCell ?_ ?_ _ | with_reducible refine Ext.more ?_ _ _ | (show _ ≤ _; dsimp only; omega))); done)))⟩
      case rest =>
        obtain ⟨y, rfl, rfl, HX⟩ := hcut
        have hX := HX.out
        unfold laidBase at hX
        obtain ⟨os', d', rfl⟩ := hX
        go_upto_region 12 with fail
        go_region_held3 (fun W => W.cell? ⟨w.heap.size + 1 + 1, 9, none⟩ = some (.int .u32 f.x) ∧ W.cell? ⟨w.heap.size + 1 + 1, 10, none⟩ = some (.int .u32 f.y))
          ((simp [go_sem]; done))
          (first | (go_at_call 33; refine (two_any _).mono ?_; rintro e w1 ⟨vs, ⟨rfl, HS3⟩, os1, n1, rfl⟩; have hs := HS3.out; (try simp only [drew_grew, grew_grew] at hs); clear HS3; have HS3 := Lib.hid hs; clear hs) | (go_at_call 31; refine (joined_two f.x f.y HF.out.x HF.out.y _ _ _ (HS3.out.ext (by first | ((repeat (first | with_reducible exact Ext.refl _ | with_reducible assumption | with_reducible refine Ext.alloc ?_ _ | with_reducible refine Ext.gr ?_ _ | with_reducible refine Ext.drewN ?_ _ | with_reducible refine Ext.drew ?_ | with_reducible refine Ext.setCell ?_ ?_ _ | with_reducible refine Ext.more ?_ _ _ | (show _ ≤ _; dsimp only; omega))); done) | ((repeat (first | with_reducible exact Ext.refl _ | with_reducible assumption | with_reducible apply Ext.bothR | with_reducible refine Ext.alloc ?_ _ | with_reducible refine Ext.gr ?_ _ | with_reducible refine Ext.drewN ?_ _ | with_reducible refine Ext.drew ?_ | with_reducible refine Ext.setCell ?_ ?_ _ | with_reducible refine Ext.more ?_ _ _ | (show _ ≤ _; dsimp only; omega))); done))) (by simp [go_sem]) (by simp [go_sem])).mono ?_; rintro e w1 ⟨⟨z, rfl⟩, os2, n2, rfl⟩))
        all_goals go_wp2_with fail
        all_goals exact bodyPost_ret (v := .tuple #[.agg #[.int .u64 t, .int .u64 x, .int .u64 y, .int .u64 z], .int .i64 0]) (by simp [results, Tryd.results17, go_sem]) rfl ⟨⟨_, _, _, rfl⟩, (by repeat (first | with_reducible exact Ext.refl _ | with_reducible assumption | with_reducible refine Ext.alloc ?_ _ | with_reducible refine Ext.gr ?_ _ | with_reducible refine Ext.drewN ?_ _ | with_reducible refine Ext.drew ?_ | with_reducible refine Ext.setCell ?_ ?_ _ | with_reducible refine Ext.more ?_ _ _ | (show _ ≤ _; dsimp only; omega)))⟩
end Go.Proofs.YtmbodooikfmegaaDoor
