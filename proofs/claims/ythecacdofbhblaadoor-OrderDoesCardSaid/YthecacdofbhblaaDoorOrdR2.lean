/- The walks of the document's answer for an index in order (layer 7): 'reads'. -/
import Derived.Test.YthecacdofbhblaaDoorOrdR
namespace Go.Proofs.YthecacdofbhblaaDoor
open Go Go.RowKit

/-- What a reading answers. -/
def ReadP (w : World) (Z : Outc) (e : Ending) (w' : World) : Prop := ∃ rs, e = .returned (.agg #[.int .i64 Z.code, .int .u32 Z.word, rs]) ∧ w'.ownsRow w.heap.size 37 2 rs Z.res.length (rwCells Z.res) ∧ Ext w w'
theorem read_p {w w' : World} {Z : Outc} {rs : Value} {rows res : List Rw} {code word err : Int} (hZ : Z = ⟨rows, code, word, res, err⟩) (h1 : w'.ownsRow w.heap.size 37 2 rs res.length (rwCells res)) (h2 : Ext w w') : ReadP w Z (.returned (.agg #[.int .i64 code, .int .u32 word, rs])) w' := by
  subst hZ
  exact ⟨rs, rfl, h1, h2⟩
set_option maxRecDepth 100000 in
set_option maxHeartbeats 4000000 in
theorem readsR_get (v : Value) (L : List Rw) (o : Opn) (ho : o.Fits) (hL : ∀ x ∈ L, RowOk x) (w : World) (hv : Rws w v L) (h6 : o.kind = 6) : Calls Tryd.prog 45 #[v, o.v] w (ReadP w (ordRead L o)) := by
  obtain ⟨Z, hZ⟩ : ∃ Z, Z = ordRead L o := ⟨_, rfl⟩
  rw [← hZ]
  unfold ordRead at hZ
  have g6 : (o.kind == 6) = true := by simpa using h6
  have g7 : (o.kind == 7) = false := by simp; omega
  have g8 : (o.kind == 8) = false := by simp; omega
  rw [g6, if_pos rfl] at hZ
  obtain ⟨ad, cap, rfl, hs, _⟩ := hv
  have hm := hs.len
  have HS := Lib.hid hs
  have HL := Lib.hid hL
  have HZ := Lib.hid hZ
  have hoa := ho.a
  clear hs hL hZ ho h6
  go_enter Tryd.func45, Tryd.ntmps45
  go_wp2
  go_loopw [5, 6] (fun u i wr => ∃ k : Nat, k ≤ L.length ∧ u = .slice none 0 0 ∧ i = .int .i64 k ∧ Hid (Ext ((w.alloc (.cells #[.int .u8 o.kind, .int .u32 o.a, .int .u32 o.b, .int .u32 o.c] 34)).alloc (.cells #[.int .i64 0, .int .u32 0, .slice none 0 0] 27)) wr) ∧ Hid (∀ j, j < k → ¬ (L.getD j zrw).k = o.a)) (fun _ i _ => L.length - (intOf i).toNat)
  case atStart => exact ⟨0, Nat.zero_le _, rfl, rfl, Lib.hid (Ext.refl _), Lib.hid fun j hj => absurd hj (Nat.not_lt_zero _)⟩
  case round =>
    obtain ⟨k, hk, rfl, rfl, HE, HT⟩ := hrel
    have HX : Hid (Ext w wr) := Lib.hid (Ext.trans (by repeat (first | with_reducible exact Ext.refl _ | with_reducible assumption | with_reducible refine Ext.alloc ?_ _ | with_reducible refine Ext.gr ?_ _ | with_reducible refine Ext.drewN ?_ _ | with_reducible refine Ext.drew ?_ | with_reducible refine Ext.setCell ?_ ?_ _ | with_reducible refine Ext.more ?_ _ _ | (show _ ≤ _; dsimp only; omega))) HE.out)
    by_cases hlt : k < L.length
    · obtain ⟨b, f, rfl, _, r1, r2⟩ := (HS.out.ext HX.out).rw hlt
      have hxo := HL.out (L.getD k zrw) (by rw [getD_rw L k hlt]; exact List.getElem_mem hlt)
      obtain ⟨x, hx⟩ : ∃ x, L.getD k zrw = x := ⟨_, rfl⟩
      rw [hx] at r1 r2 hxo
      have HXX := Lib.hid hx
      have i0 : (0 : Int) ≤ (k : Int) := by omega
      have i1 : (k : Int) < (L.length : Int) := by omega
      have HU : Hid (0 ≤ x.v ∧ x.v ≤ 2147483647) := Lib.hid hxo.2
      clear hx hxo
      obtain ⟨os, d, rfl⟩ := HE.out
      cases h1 : (x.k == o.a)
      · have HT2 : Hid (∀ j, j < k + 1 → ¬ (L.getD j zrw).k = o.a) := Lib.hid (by
          intro j hj
          by_cases e : j = k
          · subst e; rw [HXX.out]; simpa using h1
          · exact HT.out j (by omega))
        go_wp2
        go_roundw
        case rel => exact ⟨k + 1, by omega, rfl, by go_num, Lib.hid (HE.out.trans (by first | ((repeat (first | with_reducible exact Ext.refl _ | with_reducible assumption | with_reducible refine Ext.alloc ?_ _ | with_reducible refine Ext.gr ?_ _ | with_reducible refine Ext.drewN ?_ _ | with_reducible refine Ext.drew ?_ | with_reducible refine Ext.setCell ?_ ?_ _ | with_reducible refine Ext.more ?_ _ _ | (show _ ≤ _; dsimp only; omega))); done) | ((repeat (first | with_reducible exact Ext.refl _ | with_reducible assumption | with_reducible apply Ext.bothR | with_reducible refine Ext.alloc ?_ _ | with_reducible refine Ext.gr ?_ _ | with_reducible refine Ext.drewN ?_ _ | with_reducible refine Ext.drew ?_ | with_reducible refine Ext.setCell ?_ ?_ _ | with_reducible refine Ext.more ?_ _ _ | (show _ ≤ _; dsimp only; omega))); done) | ((repeat (first | with_reducible exact Ext.refl _ | with_reducible exact Ext.sameG _ _ _ _ | with_reducible assumption | with_reducible refine Ext.bothR (n := 0) ?_ | with_reducible refine Ext.alloc ?_ _ | with_reducible refine Ext.gr ?_ _ | with_reducible refine Ext.drewN ?_ _ | with_reducible refine Ext.drew ?_ | with_reducible refine Ext.setCell ?_ ?_ _ | with_reducible refine Ext.more ?_ _ _ | (show _ ≤ _; dsimp only; omega))); done))), HT2⟩
        case measure => simp [intOf]; omega
      · have HZ2 : Hid (Z = ⟨L, 0, x.v + 1, [], 0⟩) := Lib.hid (by
          have := look_hit hlt (by rw [HXX.out]; simpa using h1) HT.out
          rw [HXX.out] at this
          rw [HZ.out, this])
        go_wp2_with (go_at_call 48; refine (word_any _ HU.out _).mono ?_; rintro e w1 ⟨rfl, rfl⟩)
        refine bodyPost_ret (v := .agg #[.int .i64 0, .int .u32 (x.v + 1), .slice none 0 0]) (by simp [results, Tryd.results45, go_sem]) rfl ?_
        exact read_p HZ2.out (World.ownsRow_nil _ _ _ _) (by first | ((repeat (first | with_reducible exact Ext.refl _ | with_reducible assumption | with_reducible refine Ext.alloc ?_ _ | with_reducible refine Ext.gr ?_ _ | with_reducible refine Ext.drewN ?_ _ | with_reducible refine Ext.drew ?_ | with_reducible refine Ext.setCell ?_ ?_ _ | with_reducible refine Ext.more ?_ _ _ | (show _ ≤ _; dsimp only; omega))); done) | ((repeat (first | with_reducible exact Ext.refl _ | with_reducible assumption | with_reducible apply Ext.bothR | with_reducible refine Ext.alloc ?_ _ | with_reducible refine Ext.gr ?_ _ | with_reducible refine Ext.drewN ?_ _ | with_reducible refine Ext.drew ?_ | with_reducible refine Ext.setCell ?_ ?_ _ | with_reducible refine Ext.more ?_ _ _ | (show _ ≤ _; dsimp only; omega))); done) | ((repeat (first | with_reducible exact Ext.refl _ | with_reducible exact Ext.sameG _ _ _ _ | with_reducible assumption | with_reducible refine Ext.bothR (n := 0) ?_ | with_reducible refine Ext.alloc ?_ _ | with_reducible refine Ext.gr ?_ _ | with_reducible refine Ext.drewN ?_ _ | with_reducible refine Ext.drew ?_ | with_reducible refine Ext.setCell ?_ ?_ _ | with_reducible refine Ext.more ?_ _ _ | (show _ ≤ _; dsimp only; omega))); done))
    · obtain rfl : k = L.length := by omega
      have HZ2 : Hid (Z = ⟨L, 6, 0, [], 0⟩) := Lib.hid (by rw [HZ.out, look_miss HT.out])
      obtain ⟨os, d, rfl⟩ := HE.out
      go_wp2
      refine bodyPost_ret (v := .agg #[.int .i64 6, .int .u32 0, .slice none 0 0]) (by simp [results, Tryd.results45, go_sem]) rfl ?_
      exact read_p HZ2.out (World.ownsRow_nil _ _ _ _) (by first | ((repeat (first | with_reducible exact Ext.refl _ | with_reducible assumption | with_reducible refine Ext.alloc ?_ _ | with_reducible refine Ext.gr ?_ _ | with_reducible refine Ext.drewN ?_ _ | with_reducible refine Ext.drew ?_ | with_reducible refine Ext.setCell ?_ ?_ _ | with_reducible refine Ext.more ?_ _ _ | (show _ ≤ _; dsimp only; omega))); done) | ((repeat (first | with_reducible exact Ext.refl _ | with_reducible assumption | with_reducible apply Ext.bothR | with_reducible refine Ext.alloc ?_ _ | with_reducible refine Ext.gr ?_ _ | with_reducible refine Ext.drewN ?_ _ | with_reducible refine Ext.drew ?_ | with_reducible refine Ext.setCell ?_ ?_ _ | with_reducible refine Ext.more ?_ _ _ | (show _ ≤ _; dsimp only; omega))); done) | ((repeat (first | with_reducible exact Ext.refl _ | with_reducible exact Ext.sameG _ _ _ _ | with_reducible assumption | with_reducible refine Ext.bothR (n := 0) ?_ | with_reducible refine Ext.alloc ?_ _ | with_reducible refine Ext.gr ?_ _ | with_reducible refine Ext.drewN ?_ _ | with_reducible refine Ext.drew ?_ | with_reducible refine Ext.setCell ?_ ?_ _ | with_reducible refine Ext.more ?_ _ _ | (show _ ≤ _; dsimp only; omega))); done))

set_option maxRecDepth 100000 in
set_option maxHeartbeats 4000000 in
theorem readsR_floor (v : Value) (L : List Rw) (o : Opn) (ho : o.Fits) (w : World) (hv : Rws w v L) (h7 : o.kind = 7) : Calls Tryd.prog 45 #[v, o.v] w (ReadP w (ordRead L o)) := by
  obtain ⟨Z, hZ⟩ : ∃ Z, Z = ordRead L o := ⟨_, rfl⟩
  rw [← hZ]
  unfold ordRead at hZ
  have g6 : (o.kind == 6) = false := by simp; omega
  have g7 : (o.kind == 7) = true := by simpa using h7
  have g8 : (o.kind == 8) = false := by simp; omega
  rw [g6, g8, if_neg (by simp), if_neg (by simp)] at hZ
  obtain ⟨ad, cap, rfl, hs, _⟩ := hv
  have hm := hs.len
  have HS := Lib.hid hs
  have HZ := Lib.hid hZ
  have hoa := ho.a
  clear hs hZ ho h7
  go_enter Tryd.func45, Tryd.ntmps45
  go_wp2
  go_loopw [5, 6] (fun u i wr => ∃ (k : Nat) (M : List Rw), k ≤ L.length ∧ M.length ≤ 1 ∧ i = .int .i64 k ∧ Hid (Ext ((w.alloc (.cells #[.int .u8 o.kind, .int .u32 o.a, .int .u32 o.b, .int .u32 o.c] 34)).alloc (.cells #[.int .i64 0, .int .u32 0, .slice none 0 0] 27)) wr) ∧ Hid (ordFloor (L.take k) o.a = M) ∧ Hid (wr.ownsRow (w.heap.size + 2) 37 2 u M.length (rwCells M))) (fun _ i _ => L.length - (intOf i).toNat)
  case atStart => exact ⟨0, [], Nat.zero_le _, by simp, rfl, Lib.hid (Ext.refl _), Lib.hid rfl, Lib.hid (own_nil _ _ _ _)⟩
  case round =>
    obtain ⟨k, M, hk, hM, rfl, HE, HT, HO⟩ := hrel
    have HX : Hid (Ext w wr) := Lib.hid (Ext.trans (by repeat (first | with_reducible exact Ext.refl _ | with_reducible assumption | with_reducible refine Ext.alloc ?_ _ | with_reducible refine Ext.gr ?_ _ | with_reducible refine Ext.drewN ?_ _ | with_reducible refine Ext.drew ?_ | with_reducible refine Ext.setCell ?_ ?_ _ | with_reducible refine Ext.more ?_ _ _ | (show _ ≤ _; dsimp only; omega))) HE.out)
    by_cases hlt : k < L.length
    · obtain ⟨b, f, rfl, _, r1, r2⟩ := (HS.out.ext HX.out).rw hlt
      have hft := ordFloor_take o.a k hlt
      rw [HT.out] at hft
      obtain ⟨x, hx⟩ : ∃ x, L.getD k zrw = x := ⟨_, rfl⟩
      rw [hx] at r1 r2 hft
      have i0 : (0 : Int) ≤ (k : Int) := by omega
      have i1 : (k : Int) < (L.length : Int) := by omega
      clear hx
      obtain ⟨os, d, rfl⟩ := HE.out
      by_cases h1 : x.k ≤ o.a
      · rw [if_pos h1] at hft
        have HT2 := Lib.hid hft
        clear hft
        go_wp2
        go_roundw
        case rel => exact ⟨k + 1, [x], by omega, by simp, by go_num, Lib.hid (HE.out.trans (by first | ((repeat (first | with_reducible exact Ext.refl _ | with_reducible assumption | with_reducible refine Ext.alloc ?_ _ | with_reducible refine Ext.gr ?_ _ | with_reducible refine Ext.drewN ?_ _ | with_reducible refine Ext.drew ?_ | with_reducible refine Ext.setCell ?_ ?_ _ | with_reducible refine Ext.more ?_ _ _ | (show _ ≤ _; dsimp only; omega))); done) | ((repeat (first | with_reducible exact Ext.refl _ | with_reducible assumption | with_reducible apply Ext.bothR | with_reducible refine Ext.alloc ?_ _ | with_reducible refine Ext.gr ?_ _ | with_reducible refine Ext.drewN ?_ _ | with_reducible refine Ext.drew ?_ | with_reducible refine Ext.setCell ?_ ?_ _ | with_reducible refine Ext.more ?_ _ _ | (show _ ≤ _; dsimp only; omega))); done) | ((repeat (first | with_reducible exact Ext.refl _ | with_reducible exact Ext.sameG _ _ _ _ | with_reducible assumption | with_reducible refine Ext.bothR (n := 0) ?_ | with_reducible refine Ext.alloc ?_ _ | with_reducible refine Ext.gr ?_ _ | with_reducible refine Ext.drewN ?_ _ | with_reducible refine Ext.drew ?_ | with_reducible refine Ext.setCell ?_ ?_ _ | with_reducible refine Ext.more ?_ _ _ | (show _ ≤ _; dsimp only; omega))); done))), HT2, Lib.hid (made_one _ _ _ _ x (by simp [go_sem]) (by first | (simp [go_sem]; done) | (simp [go_sem]; omega)))⟩
        case measure => simp [intOf]; omega
      · rw [if_neg h1] at hft
        have HT2 := Lib.hid hft
        clear hft
        go_wp2
        go_roundw
        case rel => exact ⟨k + 1, M, by omega, hM, by go_num, Lib.hid (HE.out.trans (by first | ((repeat (first | with_reducible exact Ext.refl _ | with_reducible assumption | with_reducible refine Ext.alloc ?_ _ | with_reducible refine Ext.gr ?_ _ | with_reducible refine Ext.drewN ?_ _ | with_reducible refine Ext.drew ?_ | with_reducible refine Ext.setCell ?_ ?_ _ | with_reducible refine Ext.more ?_ _ _ | (show _ ≤ _; dsimp only; omega))); done) | ((repeat (first | with_reducible exact Ext.refl _ | with_reducible assumption | with_reducible apply Ext.bothR | with_reducible refine Ext.alloc ?_ _ | with_reducible refine Ext.gr ?_ _ | with_reducible refine Ext.drewN ?_ _ | with_reducible refine Ext.drew ?_ | with_reducible refine Ext.setCell ?_ ?_ _ | with_reducible refine Ext.more ?_ _ _ | (show _ ≤ _; dsimp only; omega))); done) | ((repeat (first | with_reducible exact Ext.refl _ | with_reducible exact Ext.sameG _ _ _ _ | with_reducible assumption | with_reducible refine Ext.bothR (n := 0) ?_ | with_reducible refine Ext.alloc ?_ _ | with_reducible refine Ext.gr ?_ _ | with_reducible refine Ext.drewN ?_ _ | with_reducible refine Ext.drew ?_ | with_reducible refine Ext.setCell ?_ ?_ _ | with_reducible refine Ext.more ?_ _ _ | (show _ ≤ _; dsimp only; omega))); done))), HT2, Lib.hid (own_ext HO.out (by first | ((repeat (first | with_reducible exact Ext.refl _ | with_reducible assumption | with_reducible refine Ext.alloc ?_ _ | with_reducible refine Ext.gr ?_ _ | with_reducible refine Ext.drewN ?_ _ | with_reducible refine Ext.drew ?_ | with_reducible refine Ext.setCell ?_ ?_ _ | with_reducible refine Ext.more ?_ _ _ | (show _ ≤ _; dsimp only; omega))); done) | ((repeat (first | with_reducible exact Ext.refl _ | with_reducible assumption | with_reducible apply Ext.bothR | with_reducible refine Ext.alloc ?_ _ | with_reducible refine Ext.gr ?_ _ | with_reducible refine Ext.drewN ?_ _ | with_reducible refine Ext.drew ?_ | with_reducible refine Ext.setCell ?_ ?_ _ | with_reducible refine Ext.more ?_ _ _ | (show _ ≤ _; dsimp only; omega))); done) | ((repeat (first | with_reducible exact Ext.refl _ | with_reducible exact Ext.sameG _ _ _ _ | with_reducible assumption | with_reducible refine Ext.bothR (n := 0) ?_ | with_reducible refine Ext.alloc ?_ _ | with_reducible refine Ext.gr ?_ _ | with_reducible refine Ext.drewN ?_ _ | with_reducible refine Ext.drew ?_ | with_reducible refine Ext.setCell ?_ ?_ _ | with_reducible refine Ext.more ?_ _ _ | (show _ ≤ _; dsimp only; omega))); done)))⟩
        case measure => simp [intOf]; omega
    · obtain rfl : k = L.length := by omega
      have HM := Lib.hid (HT.out)
      have hz := HZ.out
      have hT := HT.out
      rw [List.take_length] at hT
      rw [hT] at hz
      clear HM hT
      obtain ⟨os, d, rfl⟩ := HE.out
      obtain ⟨ad2, cap2, rfl⟩ := own_form HO.out
      cases M with
      | nil =>
        have HZ2 : Hid (Z = ⟨L, 6, 0, [], 0⟩) := Lib.hid hz
        clear hz
        go_wp2
        refine bodyPost_ret (v := .agg #[.int .i64 6, .int .u32 0, .slice none 0 0]) (by simp [results, Tryd.results45, go_sem]) rfl ?_
        exact read_p HZ2.out (World.ownsRow_nil _ _ _ _) (by first | ((repeat (first | with_reducible exact Ext.refl _ | with_reducible assumption | with_reducible refine Ext.alloc ?_ _ | with_reducible refine Ext.gr ?_ _ | with_reducible refine Ext.drewN ?_ _ | with_reducible refine Ext.drew ?_ | with_reducible refine Ext.setCell ?_ ?_ _ | with_reducible refine Ext.more ?_ _ _ | (show _ ≤ _; dsimp only; omega))); done) | ((repeat (first | with_reducible exact Ext.refl _ | with_reducible assumption | with_reducible apply Ext.bothR | with_reducible refine Ext.alloc ?_ _ | with_reducible refine Ext.gr ?_ _ | with_reducible refine Ext.drewN ?_ _ | with_reducible refine Ext.drew ?_ | with_reducible refine Ext.setCell ?_ ?_ _ | with_reducible refine Ext.more ?_ _ _ | (show _ ≤ _; dsimp only; omega))); done) | ((repeat (first | with_reducible exact Ext.refl _ | with_reducible exact Ext.sameG _ _ _ _ | with_reducible assumption | with_reducible refine Ext.bothR (n := 0) ?_ | with_reducible refine Ext.alloc ?_ _ | with_reducible refine Ext.gr ?_ _ | with_reducible refine Ext.drewN ?_ _ | with_reducible refine Ext.drew ?_ | with_reducible refine Ext.setCell ?_ ?_ _ | with_reducible refine Ext.more ?_ _ _ | (show _ ≤ _; dsimp only; omega))); done))
      | cons x M =>
        obtain rfl : M = [] := List.eq_nil_of_length_eq_zero (by have h2 : M.length + 1 ≤ 1 := hM; omega)
        have HZ2 : Hid (Z = ⟨L, 0, 0, [x], 0⟩) := Lib.hid hz
        clear hz
        have hl1 : (0 : Int) < (([x] : List Rw).length : Int) := by simp
        go_wp2
        refine bodyPost_ret (v := .agg #[.int .i64 0, .int .u32 0, .slice ad2 ([x] : List Rw).length cap2]) (by simp [results, Tryd.results45, go_sem]) rfl ?_
        exact read_p HZ2.out (own_low (own_swap (by simp [go_sem]) HO.out (by simp [go_sem])) (by omega)) (by first | ((repeat (first | with_reducible exact Ext.refl _ | with_reducible assumption | with_reducible refine Ext.alloc ?_ _ | with_reducible refine Ext.gr ?_ _ | with_reducible refine Ext.drewN ?_ _ | with_reducible refine Ext.drew ?_ | with_reducible refine Ext.setCell ?_ ?_ _ | with_reducible refine Ext.more ?_ _ _ | (show _ ≤ _; dsimp only; omega))); done) | ((repeat (first | with_reducible exact Ext.refl _ | with_reducible assumption | with_reducible apply Ext.bothR | with_reducible refine Ext.alloc ?_ _ | with_reducible refine Ext.gr ?_ _ | with_reducible refine Ext.drewN ?_ _ | with_reducible refine Ext.drew ?_ | with_reducible refine Ext.setCell ?_ ?_ _ | with_reducible refine Ext.more ?_ _ _ | (show _ ≤ _; dsimp only; omega))); done) | ((repeat (first | with_reducible exact Ext.refl _ | with_reducible exact Ext.sameG _ _ _ _ | with_reducible assumption | with_reducible refine Ext.bothR (n := 0) ?_ | with_reducible refine Ext.alloc ?_ _ | with_reducible refine Ext.gr ?_ _ | with_reducible refine Ext.drewN ?_ _ | with_reducible refine Ext.drew ?_ | with_reducible refine Ext.setCell ?_ ?_ _ | with_reducible refine Ext.more ?_ _ _ | (show _ ≤ _; dsimp only; omega))); done))

set_option maxRecDepth 100000 in
set_option maxHeartbeats 4000000 in
theorem readsR_scan (v : Value) (L : List Rw) (hl : L.length ≤ 10000) (o : Opn) (ho : o.Fits) (w : World) (hv : Rws w v L) (h8 : o.kind = 8) : Calls Tryd.prog 45 #[v, o.v] w (ReadP w (ordRead L o)) := by
  obtain ⟨Z, hZ⟩ : ∃ Z, Z = ordRead L o := ⟨_, rfl⟩
  rw [← hZ]
  unfold ordRead at hZ
  have g6 : (o.kind == 6) = false := by simp; omega
  have g7 : (o.kind == 7) = false := by simp; omega
  have g8 : (o.kind == 8) = true := by simpa using h8
  rw [g6, g8, if_neg (by simp), if_pos rfl] at hZ
  obtain ⟨ad, cap, rfl, hs, _⟩ := hv
  have hm := hs.len
  have HS := Lib.hid hs
  have HZ := Lib.hid hZ
  have hoa := ho.a
  have hob := ho.b
  clear hs hZ ho h8
  obtain ⟨ti, HI1, HI2, HI3, HI4⟩ := info_parts info_row; have HI := Lib.hid (And.intro HI1 (And.intro HI2 (And.intro HI3 HI4))); clear HI1 HI2 HI3 HI4
  go_enter Tryd.func45, Tryd.ntmps45
  go_wp2
  go_loopw [5, 6] (fun u i wr => ∃ (k : Nat) (M : List Rw), k ≤ L.length ∧ M.length ≤ k ∧ i = .int .i64 k ∧ Hid (Ext ((w.alloc (.cells #[.int .u8 o.kind, .int .u32 o.a, .int .u32 o.b, .int .u32 o.c] 34)).alloc (.cells #[.int .i64 0, .int .u32 0, .slice none 0 0] 27)) wr) ∧ Hid (ordScan (L.take k) o.a o.b = M) ∧ Hid (wr.ownsRow (w.heap.size + 2) 37 2 u M.length (rwCells M))) (fun _ i _ => L.length - (intOf i).toNat)
  case atStart => exact ⟨0, [], Nat.zero_le _, by simp, rfl, Lib.hid (Ext.refl _), Lib.hid rfl, Lib.hid (own_nil _ _ _ _)⟩
  case round =>
    obtain ⟨k, M, hk, hM, rfl, HE, HT, HO⟩ := hrel
    have HX : Hid (Ext w wr) := Lib.hid (Ext.trans (by repeat (first | with_reducible exact Ext.refl _ | with_reducible assumption | with_reducible refine Ext.alloc ?_ _ | with_reducible refine Ext.gr ?_ _ | with_reducible refine Ext.drewN ?_ _ | with_reducible refine Ext.drew ?_ | with_reducible refine Ext.setCell ?_ ?_ _ | with_reducible refine Ext.more ?_ _ _ | (show _ ≤ _; dsimp only; omega))) HE.out)
    by_cases hlt : k < L.length
    · obtain ⟨b, f, rfl, _, r1, r2⟩ := (HS.out.ext HX.out).rw hlt
      have hft := ordScan_take o.a o.b k hlt
      rw [HT.out] at hft
      obtain ⟨x, hx⟩ : ∃ x, L.getD k zrw = x := ⟨_, rfl⟩
      rw [hx] at r1 r2 hft
      have i0 : (0 : Int) ≤ (k : Int) := by omega
      have i1 : (k : Int) < (L.length : Int) := by omega
      clear hx
      obtain ⟨os, d, rfl⟩ := HE.out
      by_cases h1 : o.a ≤ x.k
      · by_cases h2 : x.k ≤ o.b
        · rw [if_pos (by simp [h1, h2])] at hft
          have HT2 := Lib.hid hft
          clear hft
          go_wp2_with (at_builtin; (refine wpList_append_own_at _ rfl _ _ 22 rfl (w.heap.size + 2) 37 ti _ 2 16 Tryd.underlying22 HI.out.1 HI.out.2.1 HI.out.2.2.1 HI.out.2.2.2 rfl (by decide) u5 M.length (rwCells M) (by rfl) (by exact own_ext HO.out (by first | ((repeat (first | with_reducible exact Ext.refl _ | with_reducible assumption | with_reducible refine Ext.alloc ?_ _ | with_reducible refine Ext.gr ?_ _ | with_reducible refine Ext.drewN ?_ _ | with_reducible refine Ext.drew ?_ | with_reducible refine Ext.setCell ?_ ?_ _ | with_reducible refine Ext.more ?_ _ _ | (show _ ≤ _; dsimp only; omega))); done) | ((repeat (first | with_reducible exact Ext.refl _ | with_reducible assumption | with_reducible apply Ext.bothR | with_reducible refine Ext.alloc ?_ _ | with_reducible refine Ext.gr ?_ _ | with_reducible refine Ext.drewN ?_ _ | with_reducible refine Ext.drew ?_ | with_reducible refine Ext.setCell ?_ ?_ _ | with_reducible refine Ext.more ?_ _ _ | (show _ ≤ _; dsimp only; omega))); done) | ((repeat (first | with_reducible exact Ext.refl _ | with_reducible exact Ext.sameG _ _ _ _ | with_reducible assumption | with_reducible refine Ext.bothR (n := 0) ?_ | with_reducible refine Ext.alloc ?_ _ | with_reducible refine Ext.gr ?_ _ | with_reducible refine Ext.drewN ?_ _ | with_reducible refine Ext.drew ?_ | with_reducible refine Ext.setCell ?_ ?_ _ | with_reducible refine Ext.more ?_ _ _ | (show _ ≤ _; dsimp only; omega))); done))) _ 1 1 (rwCells [x]) (by rfl) (by rfl) (by exact rows_one ⟨by simp [go_sem], by simp [go_sem]⟩) (rwCells_one _) (by unfold maxLen; omega) (by omega) (by simp [go_sem]; omega) ?_); intro v2 w2 hown2 hgrow2 _ hat2; have HO2 := Lib.hid hown2; have HG2 := Lib.hid hgrow2; clear hown2 hgrow2 hat2)
          go_wp2
          go_roundw
          case rel => exact ⟨k + 1, M ++ [x], by omega, by simp; omega, by go_num, Lib.hid (ext_grown (U := ((w.alloc (.cells #[.int .u8 o.kind, .int .u32 o.a, .int .u32 o.b, .int .u32 o.c] 34)).alloc (.cells #[.int .i64 0, .int .u32 0, .slice none 0 0] 27))) (HE.out.trans (by first | ((repeat (first | with_reducible exact Ext.refl _ | with_reducible assumption | with_reducible refine Ext.alloc ?_ _ | with_reducible refine Ext.gr ?_ _ | with_reducible refine Ext.drewN ?_ _ | with_reducible refine Ext.drew ?_ | with_reducible refine Ext.setCell ?_ ?_ _ | with_reducible refine Ext.more ?_ _ _ | (show _ ≤ _; dsimp only; omega))); done) | ((repeat (first | with_reducible exact Ext.refl _ | with_reducible assumption | with_reducible apply Ext.bothR | with_reducible refine Ext.alloc ?_ _ | with_reducible refine Ext.gr ?_ _ | with_reducible refine Ext.drewN ?_ _ | with_reducible refine Ext.drew ?_ | with_reducible refine Ext.setCell ?_ ?_ _ | with_reducible refine Ext.more ?_ _ _ | (show _ ≤ _; dsimp only; omega))); done) | ((repeat (first | with_reducible exact Ext.refl _ | with_reducible exact Ext.sameG _ _ _ _ | with_reducible assumption | with_reducible refine Ext.bothR (n := 0) ?_ | with_reducible refine Ext.alloc ?_ _ | with_reducible refine Ext.gr ?_ _ | with_reducible refine Ext.drewN ?_ _ | with_reducible refine Ext.drew ?_ | with_reducible refine Ext.setCell ?_ ?_ _ | with_reducible refine Ext.more ?_ _ _ | (show _ ≤ _; dsimp only; omega))); done))) HG2.out (fun j hj => by have := (own_block HO.out hj).1; simp; omega)), HT2, Lib.hid (by rw [rwCells_app]; simpa using HO2.out)⟩
          case measure => simp [intOf]; omega
        · rw [if_neg (by simp [h2])] at hft
          have HT2 : Hid (ordScan (L.take (k + 1)) o.a o.b = M) := Lib.hid (by simpa using hft)
          clear hft
          go_wp2
          go_roundw
          case rel => exact ⟨k + 1, M, by omega, by omega, by go_num, Lib.hid (HE.out.trans (by first | ((repeat (first | with_reducible exact Ext.refl _ | with_reducible assumption | with_reducible refine Ext.alloc ?_ _ | with_reducible refine Ext.gr ?_ _ | with_reducible refine Ext.drewN ?_ _ | with_reducible refine Ext.drew ?_ | with_reducible refine Ext.setCell ?_ ?_ _ | with_reducible refine Ext.more ?_ _ _ | (show _ ≤ _; dsimp only; omega))); done) | ((repeat (first | with_reducible exact Ext.refl _ | with_reducible assumption | with_reducible apply Ext.bothR | with_reducible refine Ext.alloc ?_ _ | with_reducible refine Ext.gr ?_ _ | with_reducible refine Ext.drewN ?_ _ | with_reducible refine Ext.drew ?_ | with_reducible refine Ext.setCell ?_ ?_ _ | with_reducible refine Ext.more ?_ _ _ | (show _ ≤ _; dsimp only; omega))); done) | ((repeat (first | with_reducible exact Ext.refl _ | with_reducible exact Ext.sameG _ _ _ _ | with_reducible assumption | with_reducible refine Ext.bothR (n := 0) ?_ | with_reducible refine Ext.alloc ?_ _ | with_reducible refine Ext.gr ?_ _ | with_reducible refine Ext.drewN ?_ _ | with_reducible refine Ext.drew ?_ | with_reducible refine Ext.setCell ?_ ?_ _ | with_reducible refine Ext.more ?_ _ _ | (show _ ≤ _; dsimp only; omega))); done))), HT2, Lib.hid (own_ext HO.out (by first | ((repeat (first | with_reducible exact Ext.refl _ | with_reducible assumption | with_reducible refine Ext.alloc ?_ _ | with_reducible refine Ext.gr ?_ _ | with_reducible refine Ext.drewN ?_ _ | with_reducible refine Ext.drew ?_ | with_reducible refine Ext.setCell ?_ ?_ _ | with_reducible refine Ext.more ?_ _ _ | (show _ ≤ _; dsimp only; omega))); done) | ((repeat (first | with_reducible exact Ext.refl _ | with_reducible assumption | with_reducible apply Ext.bothR | with_reducible refine Ext.alloc ?_ _ | with_reducible refine Ext.gr ?_ _ | with_reducible refine Ext.drewN ?_ _ | with_reducible refine Ext.drew ?_ | with_reducible refine Ext.setCell ?_ ?_ _ | with_reducible refine Ext.more ?_ _ _ | (show _ ≤ _; dsimp only; omega))); done) | ((repeat (first | with_reducible exact Ext.refl _ | with_reducible exact Ext.sameG _ _ _ _ | with_reducible assumption | with_reducible refine Ext.bothR (n := 0) ?_ | with_reducible refine Ext.alloc ?_ _ | with_reducible refine Ext.gr ?_ _ | with_reducible refine Ext.drewN ?_ _ | with_reducible refine Ext.drew ?_ | with_reducible refine Ext.setCell ?_ ?_ _ | with_reducible refine Ext.more ?_ _ _ | (show _ ≤ _; dsimp only; omega))); done)))⟩
          case measure => simp [intOf]; omega
      · rw [if_neg (by simp [h1])] at hft
        have HT2 : Hid (ordScan (L.take (k + 1)) o.a o.b = M) := Lib.hid (by simpa using hft)
        clear hft
        go_wp2
        go_roundw
        case rel => exact ⟨k + 1, M, by omega, by omega, by go_num, Lib.hid (HE.out.trans (by first | ((repeat (first | with_reducible exact Ext.refl _ | with_reducible assumption | with_reducible refine Ext.alloc ?_ _ | with_reducible refine Ext.gr ?_ _ | with_reducible refine Ext.drewN ?_ _ | with_reducible refine Ext.drew ?_ | with_reducible refine Ext.setCell ?_ ?_ _ | with_reducible refine Ext.more ?_ _ _ | (show _ ≤ _; dsimp only; omega))); done) | ((repeat (first | with_reducible exact Ext.refl _ | with_reducible assumption | with_reducible apply Ext.bothR | with_reducible refine Ext.alloc ?_ _ | with_reducible refine Ext.gr ?_ _ | with_reducible refine Ext.drewN ?_ _ | with_reducible refine Ext.drew ?_ | with_reducible refine Ext.setCell ?_ ?_ _ | with_reducible refine Ext.more ?_ _ _ | (show _ ≤ _; dsimp only; omega))); done) | ((repeat (first | with_reducible exact Ext.refl _ | with_reducible exact Ext.sameG _ _ _ _ | with_reducible assumption | with_reducible refine Ext.bothR (n := 0) ?_ | with_reducible refine Ext.alloc ?_ _ | with_reducible refine Ext.gr ?_ _ | with_reducible refine Ext.drewN ?_ _ | with_reducible refine Ext.drew ?_ | with_reducible refine Ext.setCell ?_ ?_ _ | with_reducible refine Ext.more ?_ _ _ | (show _ ≤ _; dsimp only; omega))); done))), HT2, Lib.hid (own_ext HO.out (by first | ((repeat (first | with_reducible exact Ext.refl _ | with_reducible assumption | with_reducible refine Ext.alloc ?_ _ | with_reducible refine Ext.gr ?_ _ | with_reducible refine Ext.drewN ?_ _ | with_reducible refine Ext.drew ?_ | with_reducible refine Ext.setCell ?_ ?_ _ | with_reducible refine Ext.more ?_ _ _ | (show _ ≤ _; dsimp only; omega))); done) | ((repeat (first | with_reducible exact Ext.refl _ | with_reducible assumption | with_reducible apply Ext.bothR | with_reducible refine Ext.alloc ?_ _ | with_reducible refine Ext.gr ?_ _ | with_reducible refine Ext.drewN ?_ _ | with_reducible refine Ext.drew ?_ | with_reducible refine Ext.setCell ?_ ?_ _ | with_reducible refine Ext.more ?_ _ _ | (show _ ≤ _; dsimp only; omega))); done) | ((repeat (first | with_reducible exact Ext.refl _ | with_reducible exact Ext.sameG _ _ _ _ | with_reducible assumption | with_reducible refine Ext.bothR (n := 0) ?_ | with_reducible refine Ext.alloc ?_ _ | with_reducible refine Ext.gr ?_ _ | with_reducible refine Ext.drewN ?_ _ | with_reducible refine Ext.drew ?_ | with_reducible refine Ext.setCell ?_ ?_ _ | with_reducible refine Ext.more ?_ _ _ | (show _ ≤ _; dsimp only; omega))); done)))⟩
        case measure => simp [intOf]; omega
    · obtain rfl : k = L.length := by omega
      have hz := HZ.out
      have hT := HT.out
      rw [List.take_length] at hT
      rw [hT] at hz
      have HZ2 : Hid (Z = ⟨L, 0, 0, M, 0⟩) := Lib.hid hz
      clear hT hz
      obtain ⟨os, d, rfl⟩ := HE.out
      obtain ⟨ad2, cap2, rfl⟩ := own_form HO.out
      go_wp2
      refine bodyPost_ret (v := .agg #[.int .i64 0, .int .u32 0, .slice ad2 M.length cap2]) (by simp [results, Tryd.results45, go_sem]) rfl ?_
      exact read_p HZ2.out (own_low (own_swap (by simp [go_sem]) HO.out (by simp [go_sem])) (by omega)) (by first | ((repeat (first | with_reducible exact Ext.refl _ | with_reducible assumption | with_reducible refine Ext.alloc ?_ _ | with_reducible refine Ext.gr ?_ _ | with_reducible refine Ext.drewN ?_ _ | with_reducible refine Ext.drew ?_ | with_reducible refine Ext.setCell ?_ ?_ _ | with_reducible refine Ext.more ?_ _ _ | (show _ ≤ _; dsimp only; omega))); done) | ((repeat (first | with_reducible exact Ext.refl _ | with_reducible assumption | with_reducible apply Ext.bothR | with_reducible refine Ext.alloc ?_ _ | with_reducible refine Ext.gr ?_ _ | with_reducible refine Ext.drewN ?_ _ | with_reducible refine Ext.drew ?_ | with_reducible refine Ext.setCell ?_ ?_ _ | with_reducible refine Ext.more ?_ _ _ | (show _ ≤ _; dsimp only; omega))); done) | ((repeat (first | with_reducible exact Ext.refl _ | with_reducible exact Ext.sameG _ _ _ _ | with_reducible assumption | with_reducible refine Ext.bothR (n := 0) ?_ | with_reducible refine Ext.alloc ?_ _ | with_reducible refine Ext.gr ?_ _ | with_reducible refine Ext.drewN ?_ _ | with_reducible refine Ext.drew ?_ | with_reducible refine Ext.setCell ?_ ?_ _ | with_reducible refine Ext.more ?_ _ _ | (show _ ≤ _; dsimp only; omega))); done))
end Go.Proofs.YthecacdofbhblaaDoor
