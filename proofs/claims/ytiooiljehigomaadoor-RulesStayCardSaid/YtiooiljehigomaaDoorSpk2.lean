/- The walk of the iterator of 'rules.speak': what it yields. -/
import Derived.Test.YtiooiljehigomaaDoorSpk
namespace Go.Proofs.YtiooiljehigomaaDoor
open Go Go.RowKit Go.Shelf

attribute [local go_sem] Oper.semAt_some

/-- All cells but those of one block are as they were. -/
def KeepC (B : Nat) (W W' : World) : Prop := W.heap.size ≤ W'.heap.size ∧ ∀ b i v, b ≠ B → W.cell? ⟨b, i, none⟩ = some v → W'.cell? ⟨b, i, none⟩ = some v
theorem keepC_t {X : Nat} {A B C : World} (h : KeepC X A B) (k : KeepC X B C) : KeepC X A C := ⟨Nat.le_trans h.1 k.1, fun b i v hb hc => k.2 b i v hb (h.2 b i v hb hc)⟩
theorem keepC_b {X : Nat} (W : World) (l : Nat) (o o' : Obj) (h : W.heap[l]? = some o) (ho : o.isCells = false) : KeepC X W (W.putObj l o') :=
  ⟨(grownBy_putObj' W l o').size, fun _ _ _ _ hc => cell_kept hc (grownBy_putObj' W l o') (fun r e => by cases e; exact ⟨_, h, ho⟩)⟩
theorem keepC_ext {X : Nat} {A B : World} (h : Ext A B) : KeepC X A B := ⟨h.size, fun _ _ _ _ hc => ext_cell h hc⟩
def keyA (a : Nat) (who : Int) : Int := if a = 0 then who else 0
theorem keyA_bd {who : Int} (a : Nat) (h : 0 ≤ who ∧ who ≤ 65535) : 0 ≤ keyA a who ∧ keyA a who ≤ 65535 := by
  unfold keyA; split
  · exact h
  · decide
def foundAt (L : List Rw) (who what : Int) (n : Nat) : List Int := match look L (keyA (n / 2) who * 65536 + keyA (n % 2) what) with | some u => [u] | none => []
/-- What is yielded by the first so many keys. -/
def spL (L : List Rw) (who what : Int) (n : Nat) : List Int := (List.range n).flatMap (foundAt L who what)
theorem spL_succ (L : List Rw) (who what : Int) (n : Nat) : spL L who what (n + 1) = spL L who what n ++ foundAt L who what n := by
  simp [spL, List.range_succ]
theorem foundAt_len (L : List Rw) (who what : Int) (n : Nat) : (foundAt L who what n).length ≤ 1 := by
  unfold foundAt; split <;> simp
theorem spL_len (L : List Rw) (who what : Int) (n : Nat) : (spL L who what n).length ≤ n := by
  induction n with
  | zero => simp [spL]
  | succ n ih => rw [spL_succ, List.length_append]; have := foundAt_len L who what n; omega
theorem spL_pre (L : List Rw) (who what : Int) {n m : Nat} (h : n ≤ m) : spL L who what n <+: spL L who what m := by
  induction m with
  | zero => obtain rfl : n = 0 := by omega
            exact List.prefix_refl _
  | succ m ih =>
    by_cases e : n = m + 1
    · subst e; exact List.prefix_refl _
    · exact (ih (by omega)).trans (by rw [spL_succ]; exact List.prefix_append _ _)

set_option maxRecDepth 100000 in
set_option maxHeartbeats 4000000 in
theorem speak1_in (l B1 B2 B3 Bv : Nat) (who what : Int) (hwho : 0 ≤ who ∧ who ≤ 65535) (hwhat : 0 ≤ what ∧ what ≤ 65535) (L : List Rw) (ad : Option Addr) (cap : Nat) (J Jx : List Int → World → Prop)
    (hJ : ∀ pre A B, J pre A → Ext A B → J pre B)
    (hY : ∀ pre x W, J pre W → pre.length < 4 → YieldAt Fence.wide 2 Tryd.prog l #[.int .u64 x] W fun e W' => (e = .returned (.bool true) ∧ J (pre ++ [x]) W' ∧ KeepC Bv W W') ∨ (e = .returned (.bool false) ∧ Jx (pre ++ [x]) W'))
    (W : World) (h1 : W.cell? ⟨B1, 0, none⟩ = some (.int .u32 who)) (h2 : W.cell? ⟨B2, 0, none⟩ = some (.int .u32 what)) (h3 : W.cell? ⟨B3, 0, none⟩ = some (.slice ad L.length cap)) (_hB1 : B1 ≠ Bv) (hB2 : B2 ≠ Bv) (hB3 : B3 ≠ Bv) (hBv : Bv < W.heap.size)
    (hs : SlNo (fun b => b ≠ Bv) W ad L.length cap (rwCells L)) (h0 : J [] W) :
    CallsIn Fence.wide 3 Tryd.prog 47 #[.func (.yield l) #[] #[], .pointer (some ⟨B1, 0, none⟩), .pointer (some ⟨B2, 0, none⟩), .pointer (some ⟨B3, 0, none⟩)] W fun e W' => (∃ v, e = .returned v) ∧
      ((∃ xs, xs = spL L who what 4 ∧ J xs W') ∨ (∃ pre, pre <+: spL L who what 4 ∧ Jx pre W')) := by
  have HJ := Lib.hid hJ
  have HY := Lib.hid hY
  have HS := Lib.hid hs
  have H0 := Lib.hid h0
  have H123 := Lib.hid (And.intro h1 (And.intro h2 h3))
  have HW := Lib.hid (And.intro hwho hwhat)
  clear hJ hY hs h0 h2 h3 hwho hwhat
  refine callsIn_of_wp Tryd.func47 rfl trivial ?_ rfl
  simp only [Tryd.ntmps47, List.size_toArray, List.length_cons, List.length_nil, Nat.reduceAdd, Nat.reduceSub, Array.replicate_succ, Array.replicate_zero, List.push_toArray, List.append_toArray, List.nil_append, List.cons_append]
  gi_wp2
  gi_loopw [13] (fun i wr => ∃ a : Nat, a ≤ 2 ∧ i = .int .i64 a ∧ Hid (J (spL L who what (2 * a)) wr) ∧ Hid (KeepC Bv (W.alloc (.cells #[.int .u32 who, .int .u32 0] 27)) wr)) (fun i _ => 2 - (intOf i).toNat)
  case atStart => exact ⟨0, by omega, rfl, Lib.hid (HJ.out _ _ _ H0.out (by repeat (first | with_reducible exact Ext.refl _ | with_reducible assumption | with_reducible refine Ext.alloc ?_ _ | with_reducible refine Ext.gr ?_ _ | with_reducible refine Ext.drewN ?_ _ | with_reducible refine Ext.drew ?_ | with_reducible refine Ext.setCell ?_ ?_ _ | with_reducible refine Ext.more ?_ _ _ | (show _ ≤ _; dsimp only; omega)))), Lib.hid (keepC_ext (Ext.refl _))⟩
  case round =>
    obtain ⟨a, ha, rfl, HJ1, HK1⟩ := hrel
    have hWs : W.heap.size ≠ Bv := by omega
    have hk1 := HK1.out
    have hwz := hk1.1
    simp only [World.size_alloc] at hwz
    have c2 : wr.cell? ⟨B2, 0, none⟩ = some (.int .u32 what) := hk1.2 _ _ _ hB2 (ext_cell (by first | ((repeat (first | with_reducible exact Ext.refl _ | with_reducible assumption | with_reducible refine Ext.alloc ?_ _ | with_reducible refine Ext.gr ?_ _ | with_reducible refine Ext.drewN ?_ _ | with_reducible refine Ext.drew ?_ | with_reducible refine Ext.setCell ?_ ?_ _ | with_reducible refine Ext.more ?_ _ _ | (show _ ≤ _; dsimp only; omega))); done) | ((repeat (first | with_reducible exact Ext.refl _ | with_reducible assumption | with_reducible apply Ext.bothR | with_reducible refine Ext.alloc ?_ _ | with_reducible refine Ext.gr ?_ _ | with_reducible refine Ext.drewN ?_ _ | with_reducible refine Ext.drew ?_ | with_reducible refine Ext.setCell ?_ ?_ _ | with_reducible refine Ext.more ?_ _ _ | (show _ ≤ _; dsimp only; omega))); done)) H123.out.2.1)
    have c3 : wr.cell? ⟨B3, 0, none⟩ = some (.slice ad L.length cap) := hk1.2 _ _ _ hB3 (ext_cell (by first | ((repeat (first | with_reducible exact Ext.refl _ | with_reducible assumption | with_reducible refine Ext.alloc ?_ _ | with_reducible refine Ext.gr ?_ _ | with_reducible refine Ext.drewN ?_ _ | with_reducible refine Ext.drew ?_ | with_reducible refine Ext.setCell ?_ ?_ _ | with_reducible refine Ext.more ?_ _ _ | (show _ ≤ _; dsimp only; omega))); done) | ((repeat (first | with_reducible exact Ext.refl _ | with_reducible assumption | with_reducible apply Ext.bothR | with_reducible refine Ext.alloc ?_ _ | with_reducible refine Ext.gr ?_ _ | with_reducible refine Ext.drewN ?_ _ | with_reducible refine Ext.drew ?_ | with_reducible refine Ext.setCell ?_ ?_ _ | with_reducible refine Ext.more ?_ _ _ | (show _ ≤ _; dsimp only; omega))); done)) H123.out.2.2)
    have HSr : Hid (SlNo (fun b => b ≠ Bv) wr ad L.length cap (rwCells L)) := Lib.hid (HS.out.to fun b i v hb hc => ⟨hb, hk1.2 _ _ _ hb (ext_cell (by first | ((repeat (first | with_reducible exact Ext.refl _ | with_reducible assumption | with_reducible refine Ext.alloc ?_ _ | with_reducible refine Ext.gr ?_ _ | with_reducible refine Ext.drewN ?_ _ | with_reducible refine Ext.drew ?_ | with_reducible refine Ext.setCell ?_ ?_ _ | with_reducible refine Ext.more ?_ _ _ | (show _ ≤ _; dsimp only; omega))); done) | ((repeat (first | with_reducible exact Ext.refl _ | with_reducible assumption | with_reducible apply Ext.bothR | with_reducible refine Ext.alloc ?_ _ | with_reducible refine Ext.gr ?_ _ | with_reducible refine Ext.drewN ?_ _ | with_reducible refine Ext.drew ?_ | with_reducible refine Ext.setCell ?_ ?_ _ | with_reducible refine Ext.more ?_ _ _ | (show _ ≤ _; dsimp only; omega))); done)) hc)⟩)
    by_cases hlt : a < 2
    · have c1 : wr.cell? ⟨W.heap.size, a, none⟩ = some (.int .u32 (keyA a who)) := by
        refine hk1.2 _ _ _ hWs ?_
        obtain rfl | rfl : a = 0 ∨ a = 1 := by omega
        · simp [go_sem, keyA]
        · simp [go_sem, keyA]
      obtain ⟨ka, hka⟩ : ∃ ka, keyA a who = ka := ⟨_, rfl⟩
      rw [hka] at c1
      have HKA := Lib.hid hka
      have hkab : 0 ≤ ka ∧ ka ≤ 65535 := by rw [← hka]; exact keyA_bd a HW.out.1
      have HKB := Lib.hid hkab
      have i0 : (0 : Int) ≤ (a : Int) := by omega
      have i1 : (a : Int) < 2 := by omega
      have l2 := World.block_lt_of_cell? _ _ c2
      have l3 := World.block_lt_of_cell? _ _ c3
      dsimp only at l2 l3
      have HC3 := Lib.hid c3
      clear hk1 hka hkab c3
      rename World => wa
      gi_wp2
      gi_loopw [20] (fun i wr => ∃ b : Nat, b ≤ 2 ∧ i = .int .i64 b ∧ Hid (J (spL L who what (2 * a + b)) wr) ∧ Hid (KeepC Bv ((wa.alloc (.cells #[.int .u32 ka] 27)).alloc (.cells #[.int .u32 what, .int .u32 0] 27)) wr)) (fun i _ => 2 - (intOf i).toNat)
      case atStart => exact ⟨0, by omega, rfl, Lib.hid (HJ.out _ _ _ HJ1.out (by first | ((repeat (first | with_reducible exact Ext.refl _ | with_reducible assumption | with_reducible refine Ext.alloc ?_ _ | with_reducible refine Ext.gr ?_ _ | with_reducible refine Ext.drewN ?_ _ | with_reducible refine Ext.drew ?_ | with_reducible refine Ext.setCell ?_ ?_ _ | with_reducible refine Ext.more ?_ _ _ | (show _ ≤ _; dsimp only; omega))); done) | ((repeat (first | with_reducible exact Ext.refl _ | with_reducible assumption | with_reducible apply Ext.bothR | with_reducible refine Ext.alloc ?_ _ | with_reducible refine Ext.gr ?_ _ | with_reducible refine Ext.drewN ?_ _ | with_reducible refine Ext.drew ?_ | with_reducible refine Ext.setCell ?_ ?_ _ | with_reducible refine Ext.more ?_ _ _ | (show _ ≤ _; dsimp only; omega))); done))), Lib.hid (keepC_ext (Ext.refl _))⟩
      case round =>
        obtain ⟨b, hb, rfl, HJ2, HK2⟩ := hrel
        have hk2 := HK2.out
        have hwz2 := hk2.1
        simp only [World.size_alloc] at hwz2
        by_cases hlt2 : b < 2
        · have d1 : wr.cell? ⟨wa.heap.size + 1, b, none⟩ = some (.int .u32 (keyA b what)) := by
            refine hk2.2 _ _ _ (by omega) ?_
            obtain rfl | rfl : b = 0 ∨ b = 1 := by omega
            · simp [go_sem, keyA]
            · simp [go_sem, keyA]
          have d2 : wr.cell? ⟨wa.heap.size, 0, none⟩ = some (.int .u32 ka) := hk2.2 _ _ _ (by omega) (by simp [go_sem])
          have d3 : wr.cell? ⟨B3, 0, none⟩ = some (.slice ad L.length cap) := hk2.2 _ _ _ hB3 (ext_cell (by first | ((repeat (first | with_reducible exact Ext.refl _ | with_reducible assumption | with_reducible refine Ext.alloc ?_ _ | with_reducible refine Ext.gr ?_ _ | with_reducible refine Ext.drewN ?_ _ | with_reducible refine Ext.drew ?_ | with_reducible refine Ext.setCell ?_ ?_ _ | with_reducible refine Ext.more ?_ _ _ | (show _ ≤ _; dsimp only; omega))); done) | ((repeat (first | with_reducible exact Ext.refl _ | with_reducible assumption | with_reducible apply Ext.bothR | with_reducible refine Ext.alloc ?_ _ | with_reducible refine Ext.gr ?_ _ | with_reducible refine Ext.drewN ?_ _ | with_reducible refine Ext.drew ?_ | with_reducible refine Ext.setCell ?_ ?_ _ | with_reducible refine Ext.more ?_ _ _ | (show _ ≤ _; dsimp only; omega))); done)) HC3.out)
          have HS2 : Hid (SlNo (fun b => b ≠ Bv) wr ad L.length cap (rwCells L)) := Lib.hid (HSr.out.to fun b i v hb hc => ⟨hb, hk2.2 _ _ _ hb (ext_cell (by first | ((repeat (first | with_reducible exact Ext.refl _ | with_reducible assumption | with_reducible refine Ext.alloc ?_ _ | with_reducible refine Ext.gr ?_ _ | with_reducible refine Ext.drewN ?_ _ | with_reducible refine Ext.drew ?_ | with_reducible refine Ext.setCell ?_ ?_ _ | with_reducible refine Ext.more ?_ _ _ | (show _ ≤ _; dsimp only; omega))); done) | ((repeat (first | with_reducible exact Ext.refl _ | with_reducible assumption | with_reducible apply Ext.bothR | with_reducible refine Ext.alloc ?_ _ | with_reducible refine Ext.gr ?_ _ | with_reducible refine Ext.drewN ?_ _ | with_reducible refine Ext.drew ?_ | with_reducible refine Ext.setCell ?_ ?_ _ | with_reducible refine Ext.more ?_ _ _ | (show _ ≤ _; dsimp only; omega))); done)) hc)⟩)
          obtain ⟨kb, hkb⟩ : ∃ kb, keyA b what = kb := ⟨_, rfl⟩
          rw [hkb] at d1
          have hkbb : 0 ≤ kb ∧ kb ≤ 65535 := by rw [← hkb]; exact keyA_bd b HW.out.2
          have HKBB := Lib.hid hkbb
          have hfd : foundAt L who what (2 * a + b) = match look L (ka * 65536 + kb) with | some u => [u] | none => [] := by
            unfold foundAt
            rw [show (2 * a + b) / 2 = a by omega, show (2 * a + b) % 2 = b by omega, HKA.out, hkb]
          have hln := spL_len L who what (2 * a + b)
          have i2 : (0 : Int) ≤ (b : Int) := by omega
          have i3 : (b : Int) < 2 := by omega
          have l4 := World.block_lt_of_cell? _ _ d2
          have l5 := World.block_lt_of_cell? _ _ d3
          dsimp only at l4 l5
          have HD2 := Lib.hid d2
          cases hlk : look L (ka * 65536 + kb) with
          | none =>
            have HF := Lib.hid (look_findK hlk)
            have HN : Hid (spL L who what (2 * a + (b + 1)) = spL L who what (2 * a + b)) := Lib.hid (by rw [← Nat.add_assoc, spL_succ, hfd, hlk]; simp)
            clear hk2 hkb hkbb hfd hlk
            gi_wp2
            refine ⟨trivial, ?_⟩
            refine (callsIn_wide.2 (idx48_any _ L ka kb HKB.out HKBB.out _ _ _ (Sl.ext (w := wr) ⟨ad, cap, rfl, HS2.out.at⟩ (by first | ((repeat (first | with_reducible exact Ext.refl _ | with_reducible assumption | with_reducible refine Ext.alloc ?_ _ | with_reducible refine Ext.gr ?_ _ | with_reducible refine Ext.drewN ?_ _ | with_reducible refine Ext.drew ?_ | with_reducible refine Ext.setCell ?_ ?_ _ | with_reducible refine Ext.more ?_ _ _ | (show _ ≤ _; dsimp only; omega))); done) | ((repeat (first | with_reducible exact Ext.refl _ | with_reducible assumption | with_reducible apply Ext.bothR | with_reducible refine Ext.alloc ?_ _ | with_reducible refine Ext.gr ?_ _ | with_reducible refine Ext.drewN ?_ _ | with_reducible refine Ext.drew ?_ | with_reducible refine Ext.setCell ?_ ?_ _ | with_reducible refine Ext.more ?_ _ _ | (show _ ≤ _; dsimp only; omega))); done))) (ext_cell (by first | ((repeat (first | with_reducible exact Ext.refl _ | with_reducible assumption | with_reducible refine Ext.alloc ?_ _ | with_reducible refine Ext.gr ?_ _ | with_reducible refine Ext.drewN ?_ _ | with_reducible refine Ext.drew ?_ | with_reducible refine Ext.setCell ?_ ?_ _ | with_reducible refine Ext.more ?_ _ _ | (show _ ≤ _; dsimp only; omega))); done) | ((repeat (first | with_reducible exact Ext.refl _ | with_reducible assumption | with_reducible apply Ext.bothR | with_reducible refine Ext.alloc ?_ _ | with_reducible refine Ext.gr ?_ _ | with_reducible refine Ext.drewN ?_ _ | with_reducible refine Ext.drew ?_ | with_reducible refine Ext.setCell ?_ ?_ _ | with_reducible refine Ext.more ?_ _ _ | (show _ ≤ _; dsimp only; omega))); done)) HD2.out) (by simp [go_sem]))).mono ?_
            rintro e w1 ⟨rfl, os1, n1, rfl⟩
            rw [HF.out]
            gi_wp2
            refine ⟨fun _ h => (by cases h), ?_⟩
            gi_wp2
            go_roundw
            case rel => exact ⟨b + 1, by omega, by go_num, Lib.hid (by rw [HN.out]; exact HJ.out _ _ _ HJ2.out (by first | ((repeat (first | with_reducible exact Ext.refl _ | with_reducible assumption | with_reducible refine Ext.alloc ?_ _ | with_reducible refine Ext.gr ?_ _ | with_reducible refine Ext.drewN ?_ _ | with_reducible refine Ext.drew ?_ | with_reducible refine Ext.setCell ?_ ?_ _ | with_reducible refine Ext.more ?_ _ _ | (show _ ≤ _; dsimp only; omega))); done) | ((repeat (first | with_reducible exact Ext.refl _ | with_reducible assumption | with_reducible apply Ext.bothR | with_reducible refine Ext.alloc ?_ _ | with_reducible refine Ext.gr ?_ _ | with_reducible refine Ext.drewN ?_ _ | with_reducible refine Ext.drew ?_ | with_reducible refine Ext.setCell ?_ ?_ _ | with_reducible refine Ext.more ?_ _ _ | (show _ ≤ _; dsimp only; omega))); done))), Lib.hid (keepC_t HK2.out (keepC_ext (by first | ((repeat (first | with_reducible exact Ext.refl _ | with_reducible assumption | with_reducible refine Ext.alloc ?_ _ | with_reducible refine Ext.gr ?_ _ | with_reducible refine Ext.drewN ?_ _ | with_reducible refine Ext.drew ?_ | with_reducible refine Ext.setCell ?_ ?_ _ | with_reducible refine Ext.more ?_ _ _ | (show _ ≤ _; dsimp only; omega))); done) | ((repeat (first | with_reducible exact Ext.refl _ | with_reducible assumption | with_reducible apply Ext.bothR | with_reducible refine Ext.alloc ?_ _ | with_reducible refine Ext.gr ?_ _ | with_reducible refine Ext.drewN ?_ _ | with_reducible refine Ext.drew ?_ | with_reducible refine Ext.setCell ?_ ?_ _ | with_reducible refine Ext.more ?_ _ _ | (show _ ≤ _; dsimp only; omega))); done))))⟩
            case measure => simp [intOf]; omega
          | some u =>
            obtain ⟨i, hi, hfi, hgi⟩ := findK_look hlk
            have HF := Lib.hid hfi
            have HN : Hid (spL L who what (2 * a + (b + 1)) = spL L who what (2 * a + b) ++ [u]) := Lib.hid (by rw [← Nat.add_assoc, spL_succ, hfd, hlk])
            obtain ⟨bl, off, rfl, hbl, hrw⟩ := HS2.out.at.rw hi
            rw [hgi] at hrw
            have r2 := hrw.2
            have j0 : (0 : Int) ≤ (i : Int) := by omega
            have j1 : (i : Int) < (L.length : Int) := by omega
            have hln3 := HS2.out.at.len
            clear hk2 hkb hkbb hfd hlk hrw hgi hfi
            gi_wp2
            refine ⟨trivial, ?_⟩
            refine (callsIn_wide.2 (idx48_any _ L ka kb HKB.out HKBB.out _ _ _ (Sl.ext (w := wr) ⟨_, cap, rfl, HS2.out.at⟩ (by first | ((repeat (first | with_reducible exact Ext.refl _ | with_reducible assumption | with_reducible refine Ext.alloc ?_ _ | with_reducible refine Ext.gr ?_ _ | with_reducible refine Ext.drewN ?_ _ | with_reducible refine Ext.drew ?_ | with_reducible refine Ext.setCell ?_ ?_ _ | with_reducible refine Ext.more ?_ _ _ | (show _ ≤ _; dsimp only; omega))); done) | ((repeat (first | with_reducible exact Ext.refl _ | with_reducible assumption | with_reducible apply Ext.bothR | with_reducible refine Ext.alloc ?_ _ | with_reducible refine Ext.gr ?_ _ | with_reducible refine Ext.drewN ?_ _ | with_reducible refine Ext.drew ?_ | with_reducible refine Ext.setCell ?_ ?_ _ | with_reducible refine Ext.more ?_ _ _ | (show _ ≤ _; dsimp only; omega))); done))) (ext_cell (by first | ((repeat (first | with_reducible exact Ext.refl _ | with_reducible assumption | with_reducible refine Ext.alloc ?_ _ | with_reducible refine Ext.gr ?_ _ | with_reducible refine Ext.drewN ?_ _ | with_reducible refine Ext.drew ?_ | with_reducible refine Ext.setCell ?_ ?_ _ | with_reducible refine Ext.more ?_ _ _ | (show _ ≤ _; dsimp only; omega))); done) | ((repeat (first | with_reducible exact Ext.refl _ | with_reducible assumption | with_reducible apply Ext.bothR | with_reducible refine Ext.alloc ?_ _ | with_reducible refine Ext.gr ?_ _ | with_reducible refine Ext.drewN ?_ _ | with_reducible refine Ext.drew ?_ | with_reducible refine Ext.setCell ?_ ?_ _ | with_reducible refine Ext.more ?_ _ _ | (show _ ≤ _; dsimp only; omega))); done)) HD2.out) (by simp [go_sem]))).mono ?_
            rintro e w1 ⟨rfl, os1, n1, rfl⟩
            rw [HF.out]
            obtain ⟨fn, tmps, assign, body, hy, hR⟩ := HY.out _ u _ (HJ.out _ _ (grew (wr.alloc (.cells #[.int .u32 kb] 27)) os1 n1) HJ2.out (by first | ((repeat (first | with_reducible exact Ext.refl _ | with_reducible assumption | with_reducible refine Ext.alloc ?_ _ | with_reducible refine Ext.gr ?_ _ | with_reducible refine Ext.drewN ?_ _ | with_reducible refine Ext.drew ?_ | with_reducible refine Ext.setCell ?_ ?_ _ | with_reducible refine Ext.more ?_ _ _ | (show _ ≤ _; dsimp only; omega))); done) | ((repeat (first | with_reducible exact Ext.refl _ | with_reducible assumption | with_reducible apply Ext.bothR | with_reducible refine Ext.alloc ?_ _ | with_reducible refine Ext.gr ?_ _ | with_reducible refine Ext.drewN ?_ _ | with_reducible refine Ext.drew ?_ | with_reducible refine Ext.setCell ?_ ?_ _ | with_reducible refine Ext.more ?_ _ _ | (show _ ≤ _; dsimp only; omega))); done))) (by omega)
            gi_wp2
            refine hR.mono ?_
            rintro e W3 (⟨rfl, hJ3, hk3⟩ | ⟨rfl, hJx3⟩)
            · have HJ3 := Lib.hid hJ3
              have HK3 := Lib.hid hk3
              clear hJ3 hk3
              gi_wp2
              go_roundw
              case rel => exact ⟨b + 1, by omega, by go_num, Lib.hid (by rw [HN.out]; exact HJ3.out), Lib.hid (keepC_t HK2.out (keepC_t (keepC_ext (by first | ((repeat (first | with_reducible exact Ext.refl _ | with_reducible assumption | with_reducible refine Ext.alloc ?_ _ | with_reducible refine Ext.gr ?_ _ | with_reducible refine Ext.drewN ?_ _ | with_reducible refine Ext.drew ?_ | with_reducible refine Ext.setCell ?_ ?_ _ | with_reducible refine Ext.more ?_ _ _ | (show _ ≤ _; dsimp only; omega))); done) | ((repeat (first | with_reducible exact Ext.refl _ | with_reducible assumption | with_reducible apply Ext.bothR | with_reducible refine Ext.alloc ?_ _ | with_reducible refine Ext.gr ?_ _ | with_reducible refine Ext.drewN ?_ _ | with_reducible refine Ext.drew ?_ | with_reducible refine Ext.setCell ?_ ?_ _ | with_reducible refine Ext.more ?_ _ _ | (show _ ≤ _; dsimp only; omega))); done))) HK3.out))⟩
              case measure => simp [intOf]; omega
            · have HJ3 := Lib.hid hJx3
              clear hJx3
              gi_wp2
              refine bodyPost_ret (results_none rfl _ _ _) rfl ?_
              exact ⟨⟨_, rfl⟩, .inr ⟨_, by rw [← HN.out]; exact spL_pre L who what (by omega), HJ3.out⟩⟩
        · obtain rfl : b = 2 := by omega
          gi_wp2
          go_roundw
          case rel => exact ⟨a + 1, by omega, by go_num, HJ2, Lib.hid (keepC_t HK1.out (keepC_t (keepC_ext (by first | ((repeat (first | with_reducible exact Ext.refl _ | with_reducible assumption | with_reducible refine Ext.alloc ?_ _ | with_reducible refine Ext.gr ?_ _ | with_reducible refine Ext.drewN ?_ _ | with_reducible refine Ext.drew ?_ | with_reducible refine Ext.setCell ?_ ?_ _ | with_reducible refine Ext.more ?_ _ _ | (show _ ≤ _; dsimp only; omega))); done) | ((repeat (first | with_reducible exact Ext.refl _ | with_reducible assumption | with_reducible apply Ext.bothR | with_reducible refine Ext.alloc ?_ _ | with_reducible refine Ext.gr ?_ _ | with_reducible refine Ext.drewN ?_ _ | with_reducible refine Ext.drew ?_ | with_reducible refine Ext.setCell ?_ ?_ _ | with_reducible refine Ext.more ?_ _ _ | (show _ ≤ _; dsimp only; omega))); done))) HK2.out))⟩
          case measure => simp [intOf]; omega
    · obtain rfl : a = 2 := by omega
      gi_wp2
      go_end0
      exact ⟨⟨_, rfl⟩, .inl ⟨_, rfl, HJ1.out⟩⟩
end Go.Proofs.YtiooiljehigomaaDoor
