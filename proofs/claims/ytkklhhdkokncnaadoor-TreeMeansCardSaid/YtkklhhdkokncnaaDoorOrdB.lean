/- The walks of 'order.between', of what it yields, and of 'gathered'. -/
import Derived.Test.YtkklhhdkokncnaaDoorOa
import Derived.Test.YtkklhhdkokncnaaDoorLO
import Derived.RangeFuncNested
import Derived.RangeFuncBound
import Derived.RangeFuncCalls
import Derived.RangeFuncLeaves
import Derived.RangeFuncFrom
import Derived.Shelf.Abstract
import Derived.Shelf.RegionOpen
import Derived.WalkKit
import Derived.OwnWalkIn
import Derived.TacticsInMore
import Derived.LoopNIn
import Derived.LoopIn
import Derived.Scope
import Derived.RangeFuncBox
import Derived.Deep.RegionHeld3
namespace Go.Proofs.YtkklhhdkokncnaaDoor.order
open Go Go.RowKit Go.Shelf
set_option maxRecDepth 100000
set_option maxHeartbeats 8000000

attribute [local go_sem] Oper.semAt_some

theorem grown_ext {w w' : World} (h : Ext w w') : w.grownBy w' none := by
  obtain ⟨os, n, rfl⟩ := h
  exact ⟨rfl, rfl, rfl, by rw [size_grew]; omega, fun k hk _ => heap_grew w os n hk⟩
theorem between_any (ad : Option Addr) (n cap : Nat) (a b : Int) (w : World) : Calls Tryd.prog 88 #[.slice ad n cap, .int .u32 a, .int .u32 b] w
    fun e w' => e = .returned (.func (.func 107) #[] #[.pointer (some ⟨w.heap.size, 0, none⟩), .pointer (some ⟨w.heap.size + 1, 0, none⟩), .pointer (some ⟨w.heap.size + 1 + 1, 0, none⟩)]) ∧
      ∃ t1 t2 t3, w' = ((w.alloc (.cells #[.slice ad n cap] t1)).alloc (.cells #[.int .u32 a] t2)).alloc (.cells #[.int .u32 b] t3) := by
  go_enter Tryd.func88, Tryd.ntmps88
  go_wp2
  go_ret
  exact ⟨rfl, _, _, _, rfl⟩
/-- A scan is a stretch of the rows. -/
theorem scan_at {L : List Rw} (hr : Rises L) (a b : Int) {i n : Nat} (_hi : i ≤ L.length) (h1 : ∀ j, j < i → (L.getD j zrw).k < a) (h2 : ∀ j, i ≤ j → j < L.length → a ≤ (L.getD j zrw).k) (hn : i + n ≤ L.length)
    (h3 : ∀ j, i ≤ j → j < i + n → (L.getD j zrw).k ≤ b) (h4 : i + n < L.length → b < (L.getD (i + n) zrw).k) : ordScan L a b = (L.drop i).take n := by
  have h5 : ∀ j, i + n ≤ j → j < L.length → b < (L.getD j zrw).k := fun j hj hl => by
    have h6 := h4 (by omega)
    by_cases e : j = i + n
    · subst e; exact h6
    · have := rises_at hr (i := i + n) (j := j) (by omega) hl
      omega
  have key : ∀ k, k ≤ L.length → ordScan (L.take k) a b = (L.drop i).take (min k (i + n) - i) := by
    intro k
    induction k with
    | zero => intro _; simp [ordScan]
    | succ k ih =>
      intro hk
      rw [ordScan_take a b k (by omega), ih (by omega)]
      by_cases c1 : k < i
      · have := h1 k c1
        have c2 : ¬ a ≤ (L.getD k zrw).k := by omega
        rw [if_neg (by simp only [c2, decide_false, Bool.false_and]; decide), show min (k + 1) (i + n) - i = 0 by omega, show min k (i + n) - i = 0 by omega]
        simp
      · have c2 := h2 k (by omega) (by omega)
        by_cases c3 : k < i + n
        · have c4 := h3 k (by omega) c3
          rw [if_pos (by simp only [c2, c4, decide_true, Bool.and_self]), show min (k + 1) (i + n) - i = (k - i) + 1 by omega, show min k (i + n) - i = k - i by omega, List.take_add_one, List.getElem?_drop, show i + (k - i) = k by omega,
            List.getElem?_eq_getElem (by omega), getD_rw L k (by omega)]
          simp
        · have c4 := h5 k (by omega) (by omega)
          have c5 : ¬ (L.getD k zrw).k ≤ b := by omega
          rw [if_neg (by simp only [c5, decide_false, Bool.and_false]; decide), show min (k + 1) (i + n) = min k (i + n) by omega]
          simp
  have := key L.length (Nat.le_refl _)
  rw [List.take_length, show min L.length (i + n) - i = n by omega] at this
  exact this
theorem drop_take_succ {L : List Rw} {i n : Nat} (h : i + n < L.length) : (L.drop i).take (n + 1) = (L.drop i).take n ++ [L.getD (i + n) zrw] := by
  rw [List.take_add_one, List.getElem?_drop, List.getElem?_eq_getElem h, getD_rw L _ h]
  rfl

theorem rwCells_drop (L : List Rw) (i : Nat) : rwCells (L.drop i) = (rwCells L).drop (i * 2) := by
  induction i generalizing L with
  | zero => simp
  | succ i ih =>
    cases L with
    | nil => simp [rwCells]
    | cons x L =>
      have e : (i + 1) * 2 = i * 2 + 2 := by omega
      rw [List.drop_succ_cons, ih, rwCells_cons, e]
      simp
/-- Where a slice begins that leaves out so many rows. -/
def dropAd (ad : Option Addr) (cap i : Nat) : Option Addr := match ad with | none => none | some A => if cap = i then some A else some (A.add (i * 2))
theorem SlNo.dropIf {S : Nat → Prop} {w : World} {ad : Option Addr} {cap : Nat} {L : List Rw} (h : SlNo S w ad L.length cap (rwCells L)) {i : Nat} (hi : i ≤ L.length) :
    SlNo S w (dropAd ad cap i) (L.length - i) (cap - i) (rwCells (L.drop i)) := by
  obtain ⟨h1, h2, h3⟩ := h
  refine ⟨by omega, by omega, ?_⟩
  by_cases e : L.length - i = 0
  · left
    refine ⟨e, ?_⟩
    rw [List.drop_eq_nil_of_le (by omega)]
    rfl
  · right
    rcases h3 with ⟨h3, _⟩ | ⟨b, o, rfl, h4⟩
    · omega
    · refine ⟨b, o + i * 2, ?_, fun j u hu => ?_⟩
      · simp only [dropAd]
        rw [if_neg (by omega), Addr.add_lit]
      · rw [rwCells_drop, List.getElem?_drop] at hu
        rw [Nat.add_assoc]
        exact h4 _ _ hu
theorem between1_in (l B1 B2 B3 N0 : Nat) (a b : Int) (ha : 0 ≤ a ∧ a ≤ 4294967295) (hb : 0 ≤ b ∧ b ≤ 4294967295) (L : List Rw) (hr : Rises L) (hl : L.length ≤ 1000) (ad : Option Addr) (cap : Nat) (J Jx : List Rw → World → Prop)
    (hJ : ∀ pre A B, J pre A → Ext A B → J pre B)
    (hY : ∀ pre (x : Rw) W, J pre W → pre.length < 2000 → YieldAt Fence.wide 2 Tryd.prog l #[x.val] W fun e W' => (e = .returned (.bool true) ∧ J (pre ++ [x]) W' ∧ Below N0 W W') ∨ (e = .returned (.bool false) ∧ Jx (pre ++ [x]) W'))
    (W : World) (h1 : W.cell? ⟨B1, 0, none⟩ = some (.slice ad L.length cap)) (h2 : W.cell? ⟨B2, 0, none⟩ = some (.int .u32 a)) (h3 : W.cell? ⟨B3, 0, none⟩ = some (.int .u32 b)) (_hB1 : B1 < N0) (_hB2 : B2 < N0) (hB3 : B3 < N0) (hN : N0 ≤ W.heap.size)
    (hs : SlNo (fun b => b < N0) W ad L.length cap (rwCells L)) (h0 : J [] W) :
    CallsIn Fence.wide 3 Tryd.prog 107 #[.func (.yield l) #[] #[], .pointer (some ⟨B1, 0, none⟩), .pointer (some ⟨B2, 0, none⟩), .pointer (some ⟨B3, 0, none⟩)] W fun e W' => (∃ v, e = .returned v) ∧
      ((∃ xs, xs = ordScan L a b ∧ J xs W') ∨ (∃ pre, True ∧ Jx pre W')) := by
  obtain ⟨i, hi, hlo, hhi⟩ := at_any a hr
  have HJ := Lib.hid hJ
  have HY := Lib.hid hY
  have HS := Lib.hid hs
  have H0 := Lib.hid h0
  have H123 := Lib.hid (And.intro h1 (And.intro h2 h3))
  have HR := Lib.hid hr
  have HLO := Lib.hid hlo
  have HHI := Lib.hid hhi
  have hln := hs.at.len
  clear hJ hY h0 hr hlo hhi
  have l1 := World.block_lt_of_cell? _ _ h1
  have l2 := World.block_lt_of_cell? _ _ h2
  have l3 := World.block_lt_of_cell? _ _ h3
  dsimp only at l1 l2 l3
  refine callsIn_of_wp Tryd.func107 rfl trivial ?_ rfl
  simp only [Tryd.ntmps107, List.size_toArray, List.length_cons, List.length_nil, Nat.reduceAdd, Nat.reduceSub, Array.replicate_succ, Array.replicate_zero, List.push_toArray, List.append_toArray, List.nil_append, List.cons_append]
  have hi0 : (0 : Int) ≤ (i : Int) := by omega
  have hi1 : (i : Int) ≤ (L.length : Int) := by omega
  have hcap := hs.1
  clear hs
  have HD : Hid (SlNo (fun b => b < N0) W (dropAd ad cap i) (L.length - i) (cap - i) (rwCells (L.drop i))) := Lib.hid (SlNo.dropIf HS.out hi)
  rcases ad with _ | ⟨bb, oo, sp⟩
  all_goals
    gi_wp2
    refine wpIn_wide.2 ?_
    (refine wp_region_ext_lit (by kernel_rfl) (by kernel_rfl) ?_); (repeat (go_big_quiet_step ((first | (go_at_call 49; exact quiet_ext ((first_any _ L a ha _ ⟨_, cap, rfl, HS.out.at.ext EXX⟩ i hi HLO.out (fun h => HHI.out i (Nat.le_refl _) h)).mono fun e w' h => h)))))); (refine wpQuiet_nil ?_; intro _ hw'; obtain ⟨⟨osq, nq⟩, hw''⟩ := hw'; replace hw'' : _ = grew _ osq nq := hw''; subst hw'')
    have hD := HD.out
    simp only [dropAd] at hD
    clear HD
  · obtain ⟨adS, hadS⟩ : ∃ adS : Option Addr, none = adS := ⟨_, rfl⟩
    rw [hadS] at hD
    have HD := Lib.hid hD
    clear hD
    gi_wp2
    subst hadS
    have HXW : Hid (Ext W (grew W osq nq)) := Lib.hid EX
    gi_loopw [13] (fun iv wr => ∃ n : Nat, n ≤ L.length - i ∧ iv = .int .i64 n ∧ Hid (J ((L.drop i).take n) wr) ∧ Hid (Below N0 W wr) ∧ Hid (∀ j, i ≤ j → j < i + n → (L.getD j zrw).k ≤ b)) (fun iv _ => (L.length - i) - (intOf iv).toNat)
    case atStart => exact ⟨0, Nat.zero_le _, rfl, Lib.hid (HJ.out _ _ _ H0.out HXW.out), Lib.hid (HXW.out.below.mono hN), Lib.hid fun j h1 h2 => by omega⟩
    case round =>
      obtain ⟨n, hn, rfl, HJ1, HB, HT⟩ := hrel
      have hwz := HB.out.size
      have c3 : wr.cell? ⟨B3, 0, none⟩ = some (.int .u32 b) := (Below.cell HB.out (p := ⟨B3, 0, none⟩) hB3).trans h3
      have l3' := World.block_lt_of_cell? _ _ c3
      dsimp only at l3'
      have HSr := Lib.hid (HD.out.to (S' := fun b => b < N0) (w' := wr) fun b i v hb hc => ⟨hb, (Below.cell HB.out (p := ⟨b, i, none⟩) hb).trans hc⟩)
      by_cases hlt : n < L.length - i
      · obtain ⟨b0, o0, e0, hbl, r1, r2⟩ := HSr.out.at.rw (L := L.drop i) (i := n) (by simp; omega)
        cases e0
      · obtain rfl : n = L.length - i := by omega
        have HDONE : Hid (ordScan L a b = (L.drop i).take (L.length - i)) := Lib.hid (scan_at HR.out a b hi HLO.out HHI.out (by omega) HT.out (fun h => by omega))
        gi_wp2
        go_end0
        exact ⟨⟨_, rfl⟩, .inl ⟨_, rfl, by rw [HDONE.out]; exact HJ1.out⟩⟩
  · obtain ⟨adS, hadS⟩ : ∃ adS, (if cap = i then some { block := bb, off := oo, spot := sp } else some (({ block := bb, off := oo, spot := sp } : Addr).add (i * 2))) = adS := ⟨_, rfl⟩
    rw [hadS] at hD
    rw [hadS]
    have HD := Lib.hid hD
    clear hD hadS
    gi_wp2
    have HXW : Hid (Ext W (grew W osq nq)) := Lib.hid EX
    gi_loopw [13] (fun iv wr => ∃ n : Nat, n ≤ L.length - i ∧ iv = .int .i64 n ∧ Hid (J ((L.drop i).take n) wr) ∧ Hid (Below N0 W wr) ∧ Hid (∀ j, i ≤ j → j < i + n → (L.getD j zrw).k ≤ b)) (fun iv _ => (L.length - i) - (intOf iv).toNat)
    case atStart => exact ⟨0, Nat.zero_le _, rfl, Lib.hid (HJ.out _ _ _ H0.out HXW.out), Lib.hid (HXW.out.below.mono hN), Lib.hid fun j h1 h2 => by omega⟩
    case round =>
      obtain ⟨n, hn, rfl, HJ1, HB, HT⟩ := hrel
      have hwz := HB.out.size
      have c3 : wr.cell? ⟨B3, 0, none⟩ = some (.int .u32 b) := (Below.cell HB.out (p := ⟨B3, 0, none⟩) hB3).trans h3
      have l3' := World.block_lt_of_cell? _ _ c3
      dsimp only at l3'
      have HSr := Lib.hid (HD.out.to (S' := fun b => b < N0) (w' := wr) fun b i v hb hc => ⟨hb, (Below.cell HB.out (p := ⟨b, i, none⟩) hb).trans hc⟩)
      by_cases hlt : n < L.length - i
      · obtain ⟨b0, o0, e0, hbl, r1, r2⟩ := HSr.out.at.rw (L := L.drop i) (i := n) (by simp; omega)
        subst e0
        have hgd : (L.drop i).getD n zrw = L.getD (i + n) zrw := by simp [List.getD_eq_getElem?_getD, List.getElem?_drop]
        rw [hgd] at r1 r2
        have hts := drop_take_succ (L := L) (i := i) (n := n) (by omega)
        obtain ⟨x, hx⟩ : ∃ x, L.getD (i + n) zrw = x := ⟨_, rfl⟩
        rw [hx] at r1 r2 hts
        have HXX := Lib.hid hx
        have HTS := Lib.hid hts
        have i0 : (0 : Int) ≤ (n : Int) := by omega
        have i1 : (n : Int) < ((L.length - i : Nat) : Int) := by omega
        clear hx hts hgd
        by_cases hq : b < x.k
        · have HDONE : Hid (ordScan L a b = (L.drop i).take n) := Lib.hid (scan_at HR.out a b hi HLO.out HHI.out (by omega) HT.out (fun _ => by rw [HXX.out]; exact hq))
          gi_wp2
          refine ⟨fun _ h => (by cases h), ?_⟩
          gi_wp2
          refine bodyPost_ret (results_none rfl _ _ _) rfl ?_
          exact ⟨⟨_, rfl⟩, .inl ⟨_, rfl, by rw [HDONE.out]; exact HJ.out _ _ _ HJ1.out EXX⟩⟩
        · have hq' : x.k ≤ b := by omega
          have HT2 : Hid (∀ j, i ≤ j → j < i + (n + 1) → (L.getD j zrw).k ≤ b) := Lib.hid (by
            intro j j1 j2
            by_cases e : j = i + n
            · subst e; rw [HXX.out]; exact hq'
            · exact HT.out j j1 (by omega))
          obtain ⟨fn, tmps, assign, body, hy, hR⟩ := HY.out _ x (wr.alloc (.cells #[.int .u64 x.k, .int .u64 x.v] 39)) (HJ.out _ _ _ HJ1.out EXX) (by simp; omega)
          gi_wp2
          refine hR.mono ?_
          rintro e W3 (⟨rfl, hJ3, hk3⟩ | ⟨rfl, hJx3⟩)
          · have HJ3 := Lib.hid hJ3
            have HK3 := Lib.hid hk3
            clear hJ3 hk3
            gi_wp2
            go_roundw
            case rel => exact ⟨n + 1, by omega, by go_num, Lib.hid (by rw [HTS.out]; exact HJ3.out), Lib.hid (HB.out.trans (((Ext.below EXX).mono (by omega)).trans HK3.out)), HT2⟩
            case measure => simp [intOf]; omega
          · have HJ3 := Lib.hid hJx3
            clear hJx3
            gi_wp2
            refine bodyPost_ret (results_none rfl _ _ _) rfl ?_
            exact ⟨⟨_, rfl⟩, .inr ⟨_, trivial, HJ3.out⟩⟩
      · obtain rfl : n = L.length - i := by omega
        have HDONE : Hid (ordScan L a b = (L.drop i).take (L.length - i)) := Lib.hid (scan_at HR.out a b hi HLO.out HHI.out (by omega) HT.out (fun h => by omega))
        gi_wp2
        go_end0
        exact ⟨⟨_, rfl⟩, .inl ⟨_, rfl, by rw [HDONE.out]; exact HJ1.out⟩⟩

/-- What the iterator of 'between' does for a range over it. -/
theorem between_stops (B1 B2 B3 N0 : Nat) (a b : Int) (ha : 0 ≤ a ∧ a ≤ 4294967295) (hb : 0 ≤ b ∧ b ≤ 4294967295) (L : List Rw) (hr : Rises L) (hl : L.length ≤ 1000) (ad : Option Addr) (cap : Nat) (w : World)
    (h1 : w.cell? ⟨B1, 0, none⟩ = some (.slice ad L.length cap)) (h2 : w.cell? ⟨B2, 0, none⟩ = some (.int .u32 a)) (h3 : w.cell? ⟨B3, 0, none⟩ = some (.int .u32 b)) (hB1 : B1 < N0) (hB2 : B2 < N0) (hB3 : B3 < N0) (hN : N0 ≤ w.heap.size)
    (hs : SlNo (fun b => b < N0) w ad L.length cap (rwCells L)) :
    SeqStopsK Fence.wide 3 Tryd.prog 107 #[.pointer (some ⟨B1, 0, none⟩), .pointer (some ⟨B2, 0, none⟩), .pointer (some ⟨B3, 0, none⟩)] (fun x : Rw => #[x.val]) (Below N0) (fun ys => ys = ordScan L a b) (fun _ => True) 2000 w :=
  fun l J Jx W hW hJ _ hY h0 => by
    have hx : Ext w W := Ext.of_below hW
    exact between1_in l B1 B2 B3 N0 a b ha hb L hr hl ad cap J Jx (fun pre A B hj hab => hJ pre A B none hj (grown_ext hab) (fun r e => by cases e)) hY W (ext_cell hx h1) (ext_cell hx h2) (ext_cell hx h3) hB1 hB2 hB3 (Nat.le_trans hN hx.size) (hs.ext hx) h0

/-- A row of the call's own, where only other things' blocks changed. -/
theorem own_kept {A B : World} {row : Option Nat} {base : Nat} {e : TypeId} {size n : Nat} {v : Value} {xs : List Value} (h : A.ownsRow base e size v n xs) (hg : A.grownBy B row) (hr : ∀ r, row = some r → ∃ o : Obj, A.heap[r]? = some o ∧ o.isCells = false) : B.ownsRow base e size v n xs := by
  obtain ⟨h1, h2⟩ := h
  refine ⟨h1, ?_⟩
  rcases h2 with h | ⟨g, cap, cur, hv, hb, hc, hk⟩
  · exact Or.inl h
  · exact Or.inr ⟨g, cap, cur, hv, hb, (grownBy_keeps_cells hg hr hc rfl).trans hc, hk⟩
theorem gathered_any (B1 B2 B3 : Nat) (a b : Int) (ha : 0 ≤ a ∧ a ≤ 4294967295) (hb : 0 ≤ b ∧ b ≤ 4294967295) (L : List Rw) (hr : Rises L) (hl : L.length ≤ 1000) (ad : Option Addr) (cap : Nat) (w : World)
    (h1 : w.cell? ⟨B1, 0, none⟩ = some (.slice ad L.length cap)) (h2 : w.cell? ⟨B2, 0, none⟩ = some (.int .u32 a)) (h3 : w.cell? ⟨B3, 0, none⟩ = some (.int .u32 b)) (hs : SlAt w ad L.length cap (rwCells L)) :
    Calls Tryd.prog 87 #[.func (.func 107) #[] #[.pointer (some ⟨B1, 0, none⟩), .pointer (some ⟨B2, 0, none⟩), .pointer (some ⟨B3, 0, none⟩)]] w fun e w' => ∃ r, e = .returned r ∧ w'.ownsRow w.heap.size 39 2 r (ordScan L a b).length (rwCells (ordScan L a b)) ∧ Ext w w' := by
  have l1 := World.block_lt_of_cell? _ _ h1
  have l2 := World.block_lt_of_cell? _ _ h2
  have l3 := World.block_lt_of_cell? _ _ h3
  dsimp only at l1 l2 l3
  have HSTOP : Hid (SeqStopsK Fence.wide 3 Tryd.prog 107 #[.pointer (some ⟨B1, 0, none⟩), .pointer (some ⟨B2, 0, none⟩), .pointer (some ⟨B3, 0, none⟩)] (fun x : Rw => #[x.val]) (Below w.heap.size) (fun ys => ys = ordScan L a b) (fun _ => True) 2000 w) :=
    Lib.hid (between_stops B1 B2 B3 w.heap.size a b ha hb L hr hl ad cap w h1 h2 h3 l1 l2 l3 (Nat.le_refl _) (hs.no fun b i v hc => ⟨World.block_lt_of_cell? w _ hc, hc⟩))
  have hlen := ordScan_len L a b
  clear h1 h2 h3 hs
  obtain ⟨ti, HI1, HI2, HI3, HI4⟩ := info_parts info_row; have HI := Lib.hid (And.intro HI1 (And.intro HI2 (And.intro HI3 HI4))); clear HI1 HI2 HI3 HI4
  refine (callsIn_wide (n := 4)).1 ?_
  refine callsIn_of_wp_marks Tryd.func87 rfl trivial ?_ rfl
  simp only [Tryd.ntmps87, List.size_toArray, List.length_cons, List.length_nil, Nat.reduceAdd, Nat.reduceSub, Array.replicate_succ, Array.replicate_zero, List.push_toArray, List.append_toArray, List.nil_append, List.cons_append]
  gi_wp2
  have hB0 : Below w.heap.size w (w.alloc (.cells #[.slice none 0 0] 47)) := Ext.below EX
  refine wpIn_rangeFunc_ownH rfl (by decide) (gf := 107) (lb := #[.pointer (some ⟨B1, 0, none⟩), .pointer (some ⟨B2, 0, none⟩), .pointer (some ⟨B3, 0, none⟩)]) rfl trivial (enters_of Tryd.func107 (by kernel_rfl) rfl)
    HSTOP.out (fun h k => h.trans k) (fun W l o o' hl h hc hw => belowK_b (w := w) (Nat.le_refl _) W l o o' (by simp at hl; omega) h hc hw) hB0 (fun _ => rfl)
    (fun pre W => (∃ v, Boxed W w.heap.size 47 v ∧ W.ownsRow w.heap.size 39 2 v pre.length (rwCells pre) ∧ True) ∧ Below w.heap.size w W)
    (fun _ _ _ => False)
    (OwnFrom.and ((holdsRow_own w.heap.size w.heap.size 47 39 2 (fun pre : List Rw => pre.length) rwCells (fun _ _ => True)).from _) (ownFrom_below (Nat.le_refl _) (by simp)))
    (fun _ _ _ _ _ h _ _ => h)
    ⟨⟨_, Boxed.new w 47 _, own_nil _ _ _ _, trivial⟩, hB0⟩
    (fun (x : Rw) a' W => ∃ B, a' = { tmps := #[.func (.func 107) #[] #[.pointer (some ⟨B1, 0, none⟩), .pointer (some ⟨B2, 0, none⟩), .pointer (some ⟨B3, 0, none⟩)], undef, .pointer (some ⟨w.heap.size, 0, none⟩), .pointer (some ⟨B, 0, none⟩), .func (.func 107) #[] #[.pointer (some ⟨B1, 0, none⟩), .pointer (some ⟨B2, 0, none⟩), .pointer (some ⟨B3, 0, none⟩)], x.val, undef, undef, undef, undef, undef], defers := [] } ∧ W.cell? ⟨B, 0, none⟩ = some (.int .u64 x.k) ∧ W.cell? ⟨B, 1, none⟩ = some (.int .u64 x.v))
    (fun x a' => fun _ A B' row hs hg hr => by
      obtain ⟨B, h1, h2, h3⟩ := hs
      exact ⟨B, h1, cell_kept h2 hg (fun r e => (hr r e).2), cell_kept h3 hg (fun r e => (hr r e).2)⟩) ?assign ?body ?done ?stop
  case assign =>
    rintro l pre x W K ⟨⟨v, hv, hr, _⟩, hB⟩ hK
    have HK := Lib.hid hK
    have HV := Lib.hid hv
    have HR := Lib.hid hr
    have HB := Lib.hid hB
    have hsz := hB.size
    clear hK hv hr hB
    have ez : (#[5] : Array Tmp).zip #[x.val] = #[(5, x.val)] := by simp
    simp only [ez]
    show Code.wpIn _ _ _ _ _ { tmps := #[.func (.func 107) #[] #[.pointer (some ⟨B1, 0, none⟩), .pointer (some ⟨B2, 0, none⟩), .pointer (some ⟨B3, 0, none⟩)], undef, .pointer (some ⟨w.heap.size, 0, none⟩), undef, .func (.func 107) #[] #[.pointer (some ⟨B1, 0, none⟩), .pointer (some ⟨B2, 0, none⟩), .pointer (some ⟨B3, 0, none⟩)], x.val, undef, undef, undef, undef, undef], defers := [] } _
    gi_wp2
    refine HK.out _ _ ((KeepsOthers.alloc W _).from _) ((Ext.below EX).mono hsz) ⟨⟨v, HV.out.alloc _, own_ext HR.out EX, trivial⟩, HB.out.trans ((Ext.below EX).mono hsz)⟩ ⟨W.heap.size, rfl, by simp [go_sem], by simp [go_sem]⟩
  case body =>
    rintro l pre x a' W hwl _ ⟨⟨v, hv, hr, _⟩, hB⟩ ⟨B, rfl, c0, c1⟩ hlen2
    have HV := Lib.hid hv
    have HR := Lib.hid hr
    have HB := Lib.hid hB
    have hsz := hB.size
    have hvc := hv.cell
    have hvl := hv.lt
    obtain ⟨ad2, cap2, rfl⟩ := own_form hr
    have l0 := World.block_lt_of_cell? _ _ c0
    dsimp only at l0
    clear hv hr hB
    gi_wp2_with (gi_at_builtin; refine wpListIn_append_own _ rfl _ _ 47 rfl w.heap.size 39 ti (.agg #[.int .u64 0, .int .u64 0]) 2 16 Tryd.underlying47 HI.out.1 HI.out.2.1 HI.out.2.2.1 HI.out.2.2.2 rfl (by decide) (.slice ad2 pre.length cap2) pre.length (rwCells pre) (by rfl) (by exact own_ext HR.out EX) ⟨W.heap.size, 0, none⟩ 1 1 (rwCells [x]) (by rfl) (by rfl) (by exact rows_one ⟨by simp [go_sem], by simp [go_sem]⟩) (rwCells_one _) (by unfold maxLen; omega) (by omega) (by simp; omega) ?_; intro v' w3 hown3 hg3 _; have HA := Lib.hid (Boxed.appended HV.out (by decide) HR.out hsz (Nat.le_refl _) hown3 hg3); obtain ⟨g', cap', rfl⟩ := ownsRow_succ hown3; have hvc3 := HA.out.1.cell; have hvf3 := HA.out.1.frozen; have hvl3 := HA.out.1.lt; clear hown3 hg3; go_frame)
    exact ⟨HA.out.2.2.2.1.from _, HA.out.2.2.2.2, ⟨_, HA.out.2.1, by rw [rwCells_app, List.length_append]; exact HA.out.2.2.1, trivial⟩, HB.out.trans HA.out.2.2.2.2⟩
  case done =>
    rintro D ys W hD rfl ⟨⟨v, hv, hr, _⟩, hB⟩ hK
    have HV := Lib.hid hv
    have HR := Lib.hid hr
    have HB := Lib.hid hB
    have hvc := hv.cell
    have hvf := hv.frozen
    have hvl := hv.lt
    obtain ⟨ad2, cap2, rfl⟩ := own_form hr
    clear hv hr hB
    gi_wp2
    have hK' := (KeepsOthers.setCell W ⟨w.heap.size, 0, none⟩ (.slice ad2 (ordScan L a b).length cap2)).same D _ hK rfl
    refine ⟨by simp, .inl ⟨_, _, rfl, run_takeDeferred hK', ?_⟩⟩
    have hc5 := cell_kept (World.cell?_setCell_same' W ⟨w.heap.size, 0, none⟩ (.slice ad2 (ordScan L a b).length cap2) (by rw [hvc]; rfl)) (grownBy_putObj' _ D (.deferred none)) (fun r e => by cases e; exact ⟨_, hK', rfl⟩)
    have hB2 := (HB.out.setCell (p := ⟨w.heap.size, 0, none⟩) (Nat.le_refl _) (.slice ad2 (ordScan L a b).length cap2)).trans (belowK_b (w := w) (Nat.le_refl _) _ D _ (.deferred none) (by simp at hD; omega) hK' rfl rfl)
    refine ⟨.slice ad2 (ordScan L a b).length cap2, ?_, _, rfl, ?_, Ext.of_below hB2⟩
    · simp [results, Tryd.f87, go_sem, hc5]
    · exact ownsRow_putObj (HR.out.kept (grownBy_setCell' W w.heap.size _) (.inr (HV.out.not_row (by decide) HR.out).symm)) _ hK' rfl
  case stop =>
    rintro D c pre W hD hpre h hK
    exact absurd h id
end Go.Proofs.YtkklhhdkokncnaaDoor.order
