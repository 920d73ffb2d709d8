/- The walks of the layer 'rank', as far as an index needs them. -/
import Derived.Test.YtkklhhdkokncnaaDoorProg
import Derived.Deep.QuietTactic
import Derived.BigQuiet
import Derived.Lib.Hide
import Derived.Deep.Light
import Derived.Deep.LoopGhost
import Derived.Test.YtkklhhdkokncnaaDoorAx
import Derived.Test.YtkklhhdkokncnaaDoorA0
import Derived.Test.YtkklhhdkokncnaaDoorA5
import Derived.Deep.RegionHeld3
import Derived.WalkLawsBesides
import Derived.Maps.AppendAt
import Derived.WalkMore
import Derived.LoopTactic
namespace Go.Proofs.YtkklhhdkokncnaaDoor
open Go Go.RowKit
set_option maxRecDepth 100000
set_option maxHeartbeats 8000000

/-- The powers of a width. -/
def powW (w h : Int) : Int := w ^ h.toNat
theorem upI_eq {n w h : Int} (hn : 0 ≤ n) (hw : w = 2 ∨ w = 3 ∨ w = 4) (hh : h = 0 ∨ h = 1 ∨ h = 2 ∨ h = 3 ∨ h = 4) : upI n w h = (n + w ^ h.toNat - 1) / w ^ h.toNat := by
  obtain ⟨m, rfl⟩ := Int.eq_ofNat_of_zero_le hn
  rcases hw with rfl | rfl | rfl <;> rcases hh with rfl | rfl | rfl | rfl | rfl
  all_goals
    simp only [upI, itN, Int.toNat_natCast, Int.reduceToNat, Int.reducePow]
    omega
theorem upI_nonneg (n w h : Int) : 0 ≤ upI n w h := Int.natCast_nonneg _
theorem upI_le {n w h : Int} (hn : 0 ≤ n) (hw : w = 2 ∨ w = 3 ∨ w = 4) (hh : h = 0 ∨ h = 1 ∨ h = 2 ∨ h = 3 ∨ h = 4) : upI n w h ≤ n := by
  rw [upI_eq hn hw hh]
  rcases hw with rfl | rfl | rfl <;> rcases hh with rfl | rfl | rfl | rfl | rfl <;> simp only [Int.reduceToNat, Int.reducePow] <;> omega

theorem rankUp_any (n w h : Int) (hn : 0 ≤ n ∧ n ≤ 1000) (hw : w = 2 ∨ w = 3 ∨ w = 4) (hh : h = 0 ∨ h = 1 ∨ h = 2 ∨ h = 3 ∨ h = 4) (W : World) (ht : Tab W) : Calls Tryd.prog 93 #[.int .i64 n, .int .i64 w, .int .i64 h] W (fun e w' => e = .returned (.int .i64 (upI n w h)) ∧ W = w') := by
  have hv := upI_eq hn.1 hw hh
  obtain ⟨n0, n1⟩ := hn
  have HT := Lib.hid ht
  obtain ⟨_, _, hb, hp⟩ := ht
  rcases hw with rfl | rfl | rfl <;> rcases hh with rfl | rfl | rfl | rfl | rfl
  all_goals
    simp only [Int.reduceToNat, Int.reducePow] at hv
    have HV := Lib.hid hv
    have p0 := hp 0 (by decide)
    have p1 := hp 1 (by decide)
    have p2 := hp 2 (by decide)
    have p3 := hp 3 (by decide)
    have p4 := hp 4 (by decide)
    have p5 := hp 5 (by decide)
    have p6 := hp 6 (by decide)
    have p7 := hp 7 (by decide)
    have p8 := hp 8 (by decide)
    have p9 := hp 9 (by decide)
    have p10 := hp 10 (by decide)
    have p11 := hp 11 (by decide)
    have p12 := hp 12 (by decide)
    have p13 := hp 13 (by decide)
    have p14 := hp 14 (by decide)
    simp only [powI, List.getD_cons_zero, List.getD_cons_succ] at p0 p1 p2 p3 p4 p5 p6 p7 p8 p9 p10 p11 p12 p13 p14
    clear hp hv
    go_enter Tryd.func93, Tryd.ntmps93
    go_wp2
    go_ret
    refine ⟨?_, rfl⟩
    rw [HV.out]
    (first | (refine ret_int ?_; omega) | done)

theorem rankWidth_any (n l w : Int) (hn : l ≤ n ∧ n ≤ 32) (hw : w = 2 ∨ w = 3 ∨ w = 4) (W : World) : Calls Tryd.prog 92 #[.int .i64 n, .int .i64 l, .int .i64 w] W fun e w' => e = .returned (.bool true) ∧ W = w' := by
  obtain ⟨n0, n1⟩ := hn
  have d1 : decide (l ≤ n) = true := by simpa using n0
  have d2 : decide (n ≤ 32) = true := by simpa using n1
  rcases hw with rfl | rfl | rfl
  all_goals
    go_enter Tryd.func92, Tryd.ntmps92
    go_wp2
    go_ret
    exact ⟨rfl, rfl⟩

theorem rankCount_any (n w h : Int) (hn : 0 ≤ n ∧ n ≤ 32) (hw : w = 2 ∨ w = 3 ∨ w = 4) (hh : h = 0 ∨ h = 1 ∨ h = 2 ∨ h = 3 ∨ h = 4) (W : World) (ht : Tab W) : Calls Tryd.prog 95 #[.int .i64 n, .int .i64 w, .int .i64 h] W
    fun e w' => e = .returned (.tuple #[.int .i64 (upI n w h), .int .i64 0]) ∧ W = w' := by
  have HT := Lib.hid ht
  clear ht
  have d1 : decide (h < 0) = false := by simp; omega
  have d2 : decide (4 < h) = false := by simp; omega
  go_enter Tryd.func95, Tryd.ntmps95
  go_wp2_with (first | (go_at_call 92; refine (rankWidth_any n 0 w (by omega) (by omega) _).mono ?_; rintro e w1 ⟨rfl, rfl⟩) | (go_at_call 93; refine (rankUp_any n w h (by omega) (by omega) (by omega) _ HT.out).mono ?_; rintro e w1 ⟨rfl, rfl⟩))
  refine bodyPost_ret (results_tmp2 rfl _ _ _) rfl ⟨rfl, rfl⟩

/-- The last item that an item is for, as the text reckons it. -/
theorem endI_min {n w h i : Int} : endI n w h i = (if upI n w (h - 1) < (i + 1) * w then upI n w (h - 1) else (i + 1) * w) - 1 := by
  unfold endI
  by_cases e : (i + 1) * w ≤ upI n w (h - 1)
  · rw [if_pos e, if_neg (by omega)]
  · rw [if_neg e, if_pos (by omega)]
theorem run_min_int2 {P : Program} (w : World) (ts : Array TypeId) (t : TypeId) (k k' : IntKind) (x y : Int) : (Builtin.min_ ts t #[.int k x, .int k' y]).run P w = .ok (.int k (if y < x then y else x)) w := by
  simp [Builtin.min_, Builtin.min2]
theorem rankLast_any (n w h i : Int) (hn : 1 ≤ n ∧ n ≤ 32) (hw : w = 2 ∨ w = 3 ∨ w = 4) (hh : h = 1 ∨ h = 2 ∨ h = 3 ∨ h = 4) (hi : 0 ≤ i ∧ i < upI n w h) (W : World) (ht : Tab W) : Calls Tryd.prog 59 #[.int .i64 n, .int .i64 w, .int .i64 h, .int .i64 i] W
    fun e w' => e = .returned (.tuple #[.int .i64 (endI n w h i), .int .i64 0]) ∧ W = w' := by
  have HT := Lib.hid ht
  have HE := Lib.hid (@endI_min n w h i)
  have hle := upI_le (n := n) (w := w) (h := h) (by omega) hw (by omega)
  have hle2 := upI_le (n := n) (w := w) (h := h - 1) (by omega) hw (by omega)
  have hge2 := upI_nonneg n w (h - 1)
  obtain ⟨U, hU⟩ : ∃ U, upI n w h = U := ⟨_, rfl⟩
  obtain ⟨U', hU'⟩ : ∃ U, upI n w (h - 1) = U := ⟨_, rfl⟩
  rw [hU] at hi hle
  rw [hU'] at hle2 hge2
  have HU := Lib.hid hU
  have HU' := Lib.hid hU'
  obtain ⟨i0, i1⟩ := hi
  have d1 : decide (h < 1) = false := by simp; omega
  have d2 : decide (4 < h) = false := by simp; omega
  have d3 : decide (i < 0) = false := by simp; omega
  have d4 : decide (U ≤ i) = false := by simp; omega
  have hm : 0 ≤ (i + 1) * w ∧ (i + 1) * w ≤ 132 := by rcases hw with rfl | rfl | rfl <;> omega
  obtain ⟨M, hM⟩ : ∃ M, (i + 1) * w = M := ⟨_, rfl⟩
  rw [hM] at hm
  have hwm : IntKind.i64.wrap ((i + 1) * w) = M := by rw [IntKind.wrap_i64]; omega
  have HM := Lib.hid hM
  clear ht hU hU' hM
  go_enter Tryd.func59, Tryd.ntmps59
  go_wp2_with (first | (go_at_call 92; refine (rankWidth_any n 1 w (by omega) (by omega) _).mono ?_; rintro e w1 ⟨rfl, rfl⟩) | (go_at_call 93; (with_reducible refine (rankUp_any n w h (by omega) (by omega) (by omega) _ HT.out).mono ?_); rintro e w1 ⟨rfl, rfl⟩; rw [HU.out]) | (go_at_call 93; (with_reducible refine (rankUp_any n w (h - 1) (by omega) (by omega) (by omega) _ HT.out).mono ?_); rintro e w1 ⟨rfl, rfl⟩; rw [HU'.out]))
  all_goals
    refine bodyPost_ret (results_tmp2 rfl _ _ _) rfl ⟨?_, rfl⟩
    rw [HE.out, HU'.out, HM.out]
    first | (rw [if_pos (by omega)]; rfl) | (rw [if_neg (by omega)]; rfl)

/-- The first levels. -/
abbrev lvP (n w : Int) (k : Nat) : List Value := (List.range k).map fun j : Nat => .int .i64 (upI n w (j : Int))
theorem lvP_succ (n w : Int) (k : Nat) : lvP n w (k + 1) = lvP n w k ++ [.int .i64 (upI n w k)] := by simp [lvP, List.range_succ]
theorem lvP_len (n w : Int) (k : Nat) : (lvP n w k).length = k := by simp [lvP]
theorem lvP_at {n w : Int} {k j : Nat} (h : j < k) : (lvP n w k)[j]? = some (.int .i64 (upI n w j)) := by simp [lvP, h]
/-- How many levels there are. -/
def lvN (n w : Int) : Nat := (topI n w).toNat + 1
theorem topI_bd (n w : Int) : 0 ≤ topI n w ∧ topI n w ≤ 4 := by
  unfold topI
  split
  · omega
  · split
    · omega
    · split
      · omega
      · split <;> omega
theorem lvN_of {n w : Int} {k : Nat} (hk : k ≤ 4) (h1 : ∀ j : Nat, j < k → w < upI n w j) (h2 : k = 4 ∨ upI n w k ≤ w) : lvN n w = k + 1 := by
  have hj : ∀ j : Nat, j < k → ¬ upI n w j ≤ w := fun j hj => by have := h1 j hj; omega
  unfold lvN topI
  obtain rfl | rfl | rfl | rfl | rfl : k = 0 ∨ k = 1 ∨ k = 2 ∨ k = 3 ∨ k = 4 := by omega
  · have e : upI n w 0 ≤ w := by rcases h2 with h | h; · omega
                                 · exact h
    rw [if_pos e]
    rfl
  · have e : upI n w 1 ≤ w := by rcases h2 with h | h; · omega
                                 · exact h
    have e0 : ¬ upI n w 0 ≤ w := hj 0 (by omega)
    rw [if_neg e0, if_pos e]
    rfl
  · have e : upI n w 2 ≤ w := by rcases h2 with h | h; · omega
                                 · exact h
    have e0 : ¬ upI n w 0 ≤ w := hj 0 (by omega)
    have e1 : ¬ upI n w 1 ≤ w := hj 1 (by omega)
    rw [if_neg e0, if_neg e1, if_pos e]
    rfl
  · have e : upI n w 3 ≤ w := by rcases h2 with h | h; · omega
                                 · exact h
    have e0 : ¬ upI n w 0 ≤ w := hj 0 (by omega)
    have e1 : ¬ upI n w 1 ≤ w := hj 1 (by omega)
    have e2 : ¬ upI n w 2 ≤ w := hj 2 (by omega)
    rw [if_neg e0, if_neg e1, if_neg e2, if_pos e]
    rfl
  · have e0 : ¬ upI n w 0 ≤ w := hj 0 (by omega)
    have e1 : ¬ upI n w 1 ≤ w := hj 1 (by omega)
    have e2 : ¬ upI n w 2 ≤ w := hj 2 (by omega)
    have e3 : ¬ upI n w 3 ≤ w := hj 3 (by omega)
    rw [if_neg e0, if_neg e1, if_neg e2, if_neg e3]
    rfl
theorem up4 {n w : Int} (hn : 0 ≤ n ∧ n ≤ 32) (hw : w = 2 ∨ w = 3 ∨ w = 4) : upI n w 4 ≤ w := by
  rw [upI_eq hn.1 hw (by simp)]
  rcases hw with rfl | rfl | rfl <;> simp only [Int.reduceToNat, Int.reducePow] <;> omega

theorem info_int : (Tryd.prog.info? 3).map (fun i => (i.zero, i.size, i.bytes)) = some (some (.int .i64 0), 1, 8) := by kernel_rfl
theorem one_new {w : World} {b : Nat} {x : Value} (h : w.cell? ⟨b, 0, none⟩ = some x) : ∀ (j : Nat) (u : Value), [x][j]? = some u → w.cell? ((⟨b, 0, none⟩ : Addr).add j) = some u := by
  intro j u hu
  cases j with
  | zero =>
    simp at hu
    subst hu
    exact h
  | succ j => simp at hu
theorem rankLevels_any (n w : Int) (hn : 1 ≤ n ∧ n ≤ 32) (hw : w = 2 ∨ w = 3 ∨ w = 4) (W : World) (ht : Tab W) : Calls Tryd.prog 54 #[.int .i64 n, .int .i64 w] W
    fun e w' => ∃ v, e = .returned (.tuple #[v, .int .i64 0]) ∧ SlB W.heap.size w' v (lvN n w) (lvP n w (lvN n w)) ∧ Ext W w' := by
  have HT := Lib.hid ht
  clear ht
  go_enter Tryd.func54, Tryd.ntmps54
  go_wp2_with (go_at_call 92; refine (rankWidth_any n 1 w (by omega) (by omega) _).mono ?_; rintro e w1 ⟨rfl, rfl⟩)
  go_step3
  go_wp2_with (go_at_call 92; refine (rankWidth_any n 1 w (by omega) (by omega) _).mono ?_; rintro e w1 ⟨rfl, rfl⟩)
  go_step3
  go_wp2
  go_loopg [6, 7, 12] 5 (fun gk t6 _ t12 wr => ∃ k : Nat, k + gk = 5 ∧ t12 = .int .i64 k ∧ (∀ j : Nat, j < k → w < upI n w j) ∧ Hid (Ext W wr) ∧ Hid (wr.ownsRow W.heap.size 3 1 t6 k (lvP n w k)))
  case atStart => exact ⟨0, by omega, rfl, fun j hj => by omega, Lib.hid EX, Lib.hid (own_nil _ _ _ _)⟩
  case round =>
    obtain ⟨k, hk, rfl, hj, HX, HOWN⟩ := hrel
    have HJ := Lib.hid hj
    have hsz : W.heap.size ≤ wr.heap.size := HX.out.size
    clear hj
    cases gk with
    | zero =>
      exfalso
      have : w < upI n w 4 := HJ.out 4 (by omega)
      have := up4 (n := n) (w := w) (by omega) hw
      omega
    | succ m =>
    obtain ⟨U, hU⟩ : ∃ U, upI n w k = U := ⟨_, rfl⟩
    have HU := Lib.hid hU
    have hle := upI_le (n := n) (w := w) (h := k) (by omega) hw (by omega)
    have hge := upI_nonneg n w k
    rw [hU] at hle hge
    obtain ⟨i1, hi, hz0, hz1, hz2⟩ := info_parts info_int
    have HI1 := Lib.hid (And.intro hi (And.intro hz0 (And.intro hz1 hz2)))
    have k0 : (0 : Int) ≤ (k : Int) := by omega
    have k1 : (k : Int) < 5 := by omega
    clear hU hi hz0 hz1 hz2
    cases hb : decide (U ≤ w)
    · go_wp2_with (first | (go_at_call 93; refine (rankUp_any n w k (by omega) (by omega) (by omega) _ (Tab.ext HT.out HX.out)).mono ?_; rintro e w1 ⟨rfl, rfl⟩; rw [HU.out]) | (at_builtin; refine wpList_append_own_at _ rfl _ _ 50 rfl W.heap.size 3 i1 (.int .i64 0) 1 8 Tryd.underlying50 HI1.out.1 HI1.out.2.1 HI1.out.2.2.1 HI1.out.2.2.2 rfl (by decide) u6 k (lvP n w k) (by rfl) (by exact own_ext HOWN.out EXX) _ 1 1 [.int .i64 U] (by rfl) (by rfl) (by exact one_new (by simp [go_sem])) (by simp [Value.oneCell']) (by unfold maxLen; omega) (by omega) (by simp [go_sem]; omega) ?_; intro v2 w2 hown2 hgrow2 _ hat2; have HO3 := Lib.hid hown2; have HG2 := Lib.hid hgrow2; have HX2 := Lib.hid (ext_grown (U := W) (HX.out.trans EX) hgrow2 (fun q hq => (own_block HOWN.out hq).1)); have HB2 := Lib.hid (own_slB hown2 (Nat.le_refl _)); obtain ⟨ad2, cap2, rfl, hs2⟩ := HB2.out; have hlen2 := hs2.1; have hcap2 := hs2.2.1; obtain ⟨b2, o2, rfl, hc2⟩ := hs2.at.pos (by omega); have c2 := hc2 k (.int .i64 U) (by rw [List.getElem?_append_right (by rw [lvP_len]; exact Nat.le_refl _), lvP_len, Nat.sub_self]; rfl); have l2 := World.block_lt_of_cell? _ _ c2; dsimp only at l2; clear hown2 hgrow2 hat2 hs2 hc2 HX HOWN))
      go_roundg m
      case measure => omega
      case rel =>
        refine ⟨k + 1, by omega, by go_num, fun j hj => ?_, HX2, Lib.hid (by rw [lvP_succ, HU.out]; exact HO3.out)⟩
        by_cases e : j = k
        · subst e
          rw [HU.out]
          simpa using hb
        · exact HJ.out j (by omega)
    · go_wp2_with (first | (go_at_call 93; refine (rankUp_any n w k (by omega) (by omega) (by omega) _ (Tab.ext HT.out HX.out)).mono ?_; rintro e w1 ⟨rfl, rfl⟩; rw [HU.out]) | (at_builtin; refine wpList_append_own_at _ rfl _ _ 50 rfl W.heap.size 3 i1 (.int .i64 0) 1 8 Tryd.underlying50 HI1.out.1 HI1.out.2.1 HI1.out.2.2.1 HI1.out.2.2.2 rfl (by decide) u6 k (lvP n w k) (by rfl) (by exact own_ext HOWN.out EXX) _ 1 1 [.int .i64 U] (by rfl) (by rfl) (by exact one_new (by simp [go_sem])) (by simp [Value.oneCell']) (by unfold maxLen; omega) (by omega) (by simp [go_sem]; omega) ?_; intro v2 w2 hown2 hgrow2 _ hat2; have HO3 := Lib.hid hown2; have HG2 := Lib.hid hgrow2; have HX2 := Lib.hid (ext_grown (U := W) (HX.out.trans EX) hgrow2 (fun q hq => (own_block HOWN.out hq).1)); have HB2 := Lib.hid (own_slB hown2 (Nat.le_refl _)); obtain ⟨ad2, cap2, rfl, hs2⟩ := HB2.out; have hlen2 := hs2.1; have hcap2 := hs2.2.1; obtain ⟨b2, o2, rfl, hc2⟩ := hs2.at.pos (by omega); have c2 := hc2 k (.int .i64 U) (by rw [List.getElem?_append_right (by rw [lvP_len]; exact Nat.le_refl _), lvP_len, Nat.sub_self]; rfl); have l2 := World.block_lt_of_cell? _ _ c2; dsimp only at l2; clear hown2 hgrow2 hat2 hs2 hc2 HX HOWN))
      have hN : lvN n w = k + 1 := lvN_of (by omega) HJ.out (Or.inr (by rw [HU.out]; simpa using hb))
      rw [Exit.noGoto_ret]
      go_ret2
      refine ⟨_, rfl, ?_, HX2.out⟩
      rw [hN, lvP_succ, HU.out]
      exact HB2.out
end Go.Proofs.YtkklhhdkokncnaaDoor
/- The walks of the layer 'tree': the top, a count, an offset, whether the table has a frame, what a done one answers. -/
namespace Go.Proofs.YtkklhhdkokncnaaDoor
open Go Go.RowKit
set_option maxRecDepth 100000
set_option maxHeartbeats 8000000

/-- A run's cells. -/
abbrev tl (c : Cfg) (f : Frm) (s : Value) (b : Nat) : List (Nat × Nat × Value) :=
  [(b, 0, .int .u8 f.kind), (b, 1, .int .u32 f.a), (b, 2, .int .u32 f.b), (b, 3, .int .u8 f.pc), (b, 4, .int .u8 f.i), (b, 5, .int .u8 f.j), (b, 6, .int .u8 f.n), (b, 7, .int .u8 f.p), (b, 8, .int .u8 f.h), (b, 9, .int .u32 f.x), (b, 10, .int .u32 f.y)] ++ [(b, 11, .int .u8 c.object), (b, 12, .int .i64 c.instances), (b, 13, .int .i64 c.threads), (b, 14, .int .u8 c.kind), (b, 15, .int .i64 c.stripes), (b, 16, .int .i64 c.bits), (b, 17, .int .i64 c.cap), (b, 18, .int .i64 c.node), (b, 19, .int .i64 c.batch), (b, 20, .int .i64 c.chunk), (b, 21, .int .u64 c.limit), (b, 22, .int .u64 c.most), (b, 23, s)]
abbrev lvC (c : Cfg) : Nat := lvN c.cap c.node
abbrev lvL (c : Cfg) : List Value := lvP c.cap c.node (lvC c)
structure TreOk (c : Cfg) : Prop where
  cap : 1 ≤ c.cap ∧ c.cap ≤ 32
  node : c.node = 2 ∨ c.node = 3 ∨ c.node = 4
  chunk : 1 ≤ c.chunk ∧ c.chunk ≤ 8
theorem tl_lt {c : Cfg} {f : Frm} {s : Value} {b : Nat} {w : World} (h : Holds w (tl c f s b)) : b < w.heap.size :=
  World.block_lt_of_cell? w ⟨b, 0, none⟩ (u := .int .u8 f.kind) ((holds_iff _ _).1 h (b, 0, .int .u8 f.kind) (by simp [tl]))
theorem lvC_top (c : Cfg) : (lvC c : Int) = treTop c + 1 := by
  have := (topI_bd c.cap c.node).1
  unfold lvC lvN treTop
  omega
theorem ret_u8 {a b : Int} (h : a = b) : Ending.returned (.int .u8 a) = .returned (.int .u8 b) := by rw [h]

theorem treTop_any (c : Cfg) (f : Frm) (s : Value) (b : Nat) (w : World) (hw : Holds w (tl c f s b)) (hs : Sl w s (lvC c) (lvL c)) : Calls Tryd.prog 69 #[.pointer (some ⟨b, 0, none⟩)] w
    fun e w' => e = .returned (.int .u8 (treTop c)) ∧ w = w' := by
  obtain ⟨ad, cap, rfl, hs⟩ := hs
  have hn := lvC_top c
  have ht := topI_bd c.cap c.node
  change 0 ≤ treTop c ∧ treTop c ≤ 4 at ht
  obtain ⟨T, hT⟩ : ∃ T, treTop c = T := ⟨_, rfl⟩
  rw [hT] at hn ht ⊢
  simp only [tl, Holds, List.cons_append, List.nil_append] at hw
  go_enter Tryd.func69, Tryd.ntmps69
  go_wp2
  go_ret
  exact ⟨rfl, rfl⟩

theorem treCount_any (c : Cfg) (f : Frm) (s : Value) (hc : TreOk c) (n h : Int) (hn : 0 ≤ n ∧ n ≤ 32) (hh : 0 ≤ h ∧ h ≤ 4) (b : Nat) (w : World) (ht : Tab w) (hw : Holds w (tl c f s b)) : Calls Tryd.prog 60 #[.pointer (some ⟨b, 0, none⟩), .int .u8 n, .int .u8 h] w
    fun e w' => e = .returned (.int .i64 (treUp c n h)) ∧ w = w' := by
  have HT := Lib.hid ht
  obtain ⟨hcap, hnode, _⟩ := hc
  obtain ⟨U, hU⟩ : ∃ U, upI n c.node h = U := ⟨_, rfl⟩
  have HU := Lib.hid hU
  have HV : Hid (treUp c n h = U) := Lib.hid hU
  clear ht hU
  simp only [tl, Holds, List.cons_append, List.nil_append] at hw
  go_enter Tryd.func60, Tryd.ntmps60
  go_wp2_with (go_at_call 95; refine (rankCount_any n c.node h (by omega) (by omega) (by omega) _ HT.out).mono ?_; rintro e w1 ⟨rfl, rfl⟩; rw [HU.out])
  go_ret
  exact ⟨by rw [HV.out]; rfl, rfl⟩

theorem offI_yes {n w h i : Int} (h0 : 0 ≤ h) (h1 : h ≤ topI n w) (i0 : 0 ≤ i) (i1 : i < upI n w h) : offI n w h i = 1 + sumI n w h.toNat + i := by
  unfold offI
  rw [if_pos ⟨h0, h1, i0, i1⟩]
theorem sumI_bd {n w : Int} (hn : 0 ≤ n ∧ n ≤ 32) (hw : w = 2 ∨ w = 3 ∨ w = 4) : ∀ k : Nat, k ≤ 5 → 0 ≤ sumI n w k ∧ sumI n w k ≤ 32 * k := by
  intro k
  induction k with
  | zero => intro _; exact ⟨by simp [sumI], by simp [sumI]⟩
  | succ k ih =>
    intro hk
    have h1 := ih (by omega)
    have h2 := upI_nonneg n w k
    have h3 := upI_le (n := n) (w := w) (h := k) hn.1 hw (by omega)
    simp only [sumI]
    omega
theorem offI_no {n w h i : Int} (hx : topI n w < h ∨ i < 0 ∨ upI n w h ≤ i) : offI n w h i = -1 := by
  unfold offI
  rw [if_neg]
  omega
theorem treOff_any (c : Cfg) (f : Frm) (s : Value) (hc : TreOk c) (h i : Int) (hh : 0 ≤ h ∧ h ≤ 255) (hi : -1000 ≤ i ∧ i ≤ 1000) (b : Nat) (w : World) (hw : Holds w (tl c f s b)) (hs : Sl w s (lvC c) (lvL c)) : Calls Tryd.prog 57 #[.pointer (some ⟨b, 0, none⟩), .int .u8 h, .int .i64 i] w
    fun e w' => e = .returned (.int .i64 (treOff c h i)) ∧ Ext w w' := by
  obtain ⟨ad, cap, rfl, hs⟩ := hs
  have hn := lvC_top c
  have htop := topI_bd c.cap c.node
  change 0 ≤ treTop c ∧ treTop c ≤ 4 at htop
  obtain ⟨b2, o2, rfl, hcl⟩ := hs.pos (by omega)
  obtain ⟨k, rfl⟩ : ∃ k : Nat, h = k := ⟨h.toNat, by omega⟩
  obtain ⟨hcap, hnode, _⟩ := hc
  have hb := tl_lt hw
  have hle := fun j : Nat => fun hj : j ≤ 4 => upI_le (n := c.cap) (w := c.node) (h := j) (by omega) hnode (by omega)
  have HCL := Lib.hid hcl
  have HLE := Lib.hid hle
  have hcap2 := hs.1
  have hcap3 := hs.2.1
  unfold maxLen at hcap3
  simp only [tl, Holds, List.cons_append, List.nil_append] at hw
  clear hcl hle hs
  cases d1 : decide (lvC c ≤ k)
  · have hk : k < lvC c := by simp at d1; exact d1
    have c1 := HCL.out k _ (lvP_at hk)
    have l1 := World.block_lt_of_cell? _ _ c1
    dsimp only at l1
    have u1 := HLE.out k (by omega)
    have u0 := upI_nonneg c.cap c.node k
    obtain ⟨U, hU⟩ : ∃ U, upI c.cap c.node k = U := ⟨_, rfl⟩
    rw [hU] at c1 u1 u0
    have HU := Lib.hid hU
    have k0 : (0 : Int) ≤ (k : Int) := by omega
    have k1 : (k : Int) < (lvC c : Int) := by omega
    have k2 : (k : Int) ≤ (lvC c : Int) := by omega
    have k3 : (k : Int) ≤ (cap : Int) := by omega
    clear hU
    cases d2 : decide (i < 0)
    · cases d3 : decide (U ≤ i)
      · have HO : Hid (treOff c k i = 1 + sumI c.cap c.node k + i) := Lib.hid (offI_yes k0 (by change (k : Int) ≤ treTop c; omega) (by simpa using d2) (by rw [HU.out]; simpa using d3))
        have HSB := Lib.hid (fun j : Nat => fun hj : j ≤ 5 => sumI_bd (n := c.cap) (w := c.node) (by omega) hnode j hj)
        have hk5 : k ≤ 4 := by omega
        have HN := Lib.hid hn
        clear hn
        go_enter Tryd.func57, Tryd.ntmps57
        go_wp2
        go_loopw [7, 9, 40] (fun t7 _ t40 wr => ∃ j : Nat, j ≤ k ∧ t40 = .int .i64 j ∧ t7 = .int .i64 (1 + sumI c.cap c.node j) ∧ Ext w wr) (fun _ _ t40 _ => k - (intOf t40).toNat)
        case atStart => exact ⟨0, Nat.zero_le _, rfl, rfl, Ext.refl _⟩
        case round =>
          obtain ⟨j, hj, rfl, rfl, hx⟩ := hrel
          obtain ⟨S, hS⟩ : ∃ S, sumI c.cap c.node j = S := ⟨_, rfl⟩
          have hsb := HSB.out j (by omega)
          rw [hS] at hsb
          have HS := Lib.hid hS
          have HX := Lib.hid hx
          clear hx hS
          by_cases hlt : j < k
          · have c2 := ext_cell HX.out (HCL.out j _ (lvP_at (by omega)))
            have l2 := World.block_lt_of_cell? _ _ c2
            dsimp only at l2
            have u2 := HLE.out j (by omega)
            have u3 := upI_nonneg c.cap c.node j
            obtain ⟨U2, hU2⟩ : ∃ U2, upI c.cap c.node j = U2 := ⟨_, rfl⟩
            rw [hU2] at c2 u2 u3
            have HU2 := Lib.hid hU2
            have j0 : (0 : Int) ≤ (j : Int) := by omega
            have j1 : (j : Int) < (k : Int) := by omega
            have hw1 : wrap64 (1 + S + U2) = 1 + S + U2 := by unfold wrap64; omega
            clear hU2
            go_wp2
            go_roundw
            case rel => exact ⟨j + 1, by omega, by go_num, by simp only [sumI, HS.out, HU2.out]; rw [hw1, Int.add_assoc], HX.out⟩
            case measure => simp [intOf]; omega
          · obtain rfl : j = k := by omega
            have hw1 : wrap64 (1 + S + i) = 1 + S + i := by unfold wrap64; omega
            go_wp2
            go_ret
            exact ⟨by rw [HO.out, HS.out]; show Ending.returned (.int .i64 (wrap64 (1 + S + i))) = _; rw [hw1], HX.out⟩
      · have HO : Hid (treOff c k i = -1) := Lib.hid (offI_no (by rw [HU.out]; simp at d3; omega))
        have HN := Lib.hid hn
        clear hn
        go_enter Tryd.func57, Tryd.ntmps57
        go_wp2
        go_ret
        exact ⟨by rw [HO.out]; rfl, EX⟩
    · have HO : Hid (treOff c k i = -1) := Lib.hid (offI_no (by simp at d2; omega))
      have HN := Lib.hid hn
      clear hn
      go_enter Tryd.func57, Tryd.ntmps57
      go_wp2
      go_ret
      exact ⟨by rw [HO.out]; rfl, EX⟩
  · have HO : Hid (treOff c k i = -1) := Lib.hid (offI_no (by simp at d1; change treTop c < _ ∨ _; omega))
    have HN := Lib.hid hn
    clear hn
    go_enter Tryd.func57, Tryd.ntmps57
    go_wp2
    go_ret
    exact ⟨by rw [HO.out]; rfl, EX⟩
end Go.Proofs.YtkklhhdkokncnaaDoor
