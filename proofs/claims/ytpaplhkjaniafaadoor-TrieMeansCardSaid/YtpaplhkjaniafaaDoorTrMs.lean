/- The walk of 'counted', layer 'trie': has each node as many routes at it, or below, as its count says? -/
import Derived.Test.YtpaplhkjaniafaaDoorTp
import Derived.Deep.LoopGhost
namespace Go.Proofs.YtpaplhkjaniafaaDoor
open Go Go.RowKit
set_option maxRecDepth 100000
set_option maxHeartbeats 8000000

def cntP (L : List Cel) (n k : Nat) : Nat := (List.range k).countP fun k => decide (1 ≤ k) && (underB n k && hasN L k)
theorem cntP_one (L : List Cel) (n : Nat) : cntP L n 1 = 0 := by
  unfold cntP
  rw [List.countP_eq_zero]
  intro k hk
  have : k = 0 := by have := List.mem_range.1 hk; omega
  subst this
  simp
theorem cntP_next (L : List Cel) (n : Nat) {k : Nat} (h : 1 ≤ k) : cntP L n (k + 1) = cntP L n k + if underB n k && hasN L k then 1 else 0 := by
  unfold cntP
  rw [List.range_succ, List.countP_append, List.countP_singleton]
  simp [h]
theorem cntP_le (L : List Cel) (n k : Nat) : cntP L n k ≤ k := by
  unfold cntP
  have := List.countP_le_length (p := fun k => decide (1 ≤ k) && (underB n k && hasN L k)) (l := List.range k)
  simpa using this
theorem counted_any {c : Cfg} (v : Value) (L : List Cel) (hok : TrOk c L) (w : World) (hs : Sl w v L.length (celCells L)) (hn : 1 ≤ L.length ∧ L.length ≤ 255) : Calls Tryd.prog 23 #[v] w
    fun e w' => e = .returned (.bool true) ∧ Ext w w' := by
  obtain ⟨ad, cap, rfl, hs⟩ := hs
  have HS := Lib.hid hs
  have HOK := Lib.hid hok
  clear hs hok
  go_enter Tryd.func23, Tryd.ntmps23
  go_wp2
  go_loopw [3] (fun t3 wr => ∃ n : Nat, 1 ≤ n ∧ n ≤ L.length ∧ t3 = .int .i64 n ∧ Hid (Ext w wr)) (fun t3 _ => L.length - (intOf t3).toNat)
  case atStart => exact ⟨1, Nat.le_refl _, hn.1, rfl, Lib.hid (Ext.refl _)⟩
  case round =>
    obtain ⟨n, hn1, hn2, rfl, HE⟩ := hrel
    by_cases hlt : n < L.length
    · have i1 : (n : Int) < (L.length : Int) := by omega
      go_wp2
      go_loopw [4, 5] (fun t4 t5 wk => ∃ (k C : Nat), 1 ≤ k ∧ k ≤ L.length ∧ C ≤ k ∧ t4 = .int .u64 C ∧ t5 = .int .i64 k ∧ Hid (cntP L n k = C) ∧ Hid (Ext w wk)) (fun _ t5 _ => L.length - (intOf t5).toNat)
      case atStart => exact ⟨1, 0, Nat.le_refl _, by omega, by omega, rfl, rfl, Lib.hid (cntP_one L n), Lib.hid (HE.out.trans EX)⟩
      case round =>
        obtain ⟨k, C, hk1, hk2, hC, rfl, rfl, HC, HE1⟩ := hrel
        by_cases hk3 : k < L.length
        · have k1 : (k : Int) < (L.length : Int) := by omega
          go_wp2
          go_loopw [6] (fun t6 wu => ∃ (m f : Nat), t6 = .int .i64 m ∧ m ≤ k ∧ m < 2 ^ f ∧ Hid (upTo n f m = upTo n 8 k) ∧ Hid (Ext w wu)) (fun t6 _ => (intOf t6).toNat)
          case atStart => exact ⟨k, 8, rfl, Nat.le_refl _, by omega, Lib.hid rfl, Lib.hid (HE1.out.trans EX)⟩
          case round =>
            obtain ⟨m, f, rfl, hm, hmf, HU, HE2⟩ := hrel
            by_cases hnm : n < m
            · have j1 : (n : Int) < (m : Int) := by omega
              have q1 : (m : Int).tdiv 2 = ((m / 2 : Nat) : Int) := by
                rw [Int.tdiv_eq_ediv_of_nonneg (by omega)]
                omega
              obtain ⟨H, hH⟩ : ∃ H, m / 2 = H := ⟨_, rfl⟩
              rw [hH] at q1
              have q2 : IntKind.i64.wrap (H : Int) = (H : Int) := by rw [IntKind.wrap_i64]; omega
              obtain ⟨f, rfl⟩ : ∃ g, f = g + 1 := by
                cases f with
                | zero => simp at hmf; omega
                | succ f => exact ⟨f, rfl⟩
              have HU2 : Hid (upTo n f H = upTo n 8 k) := Lib.hid (by
                rw [← HU.out, upTo, if_pos hnm, hH])
              have hHf : H < 2 ^ f := by rw [Nat.pow_succ] at hmf; omega
              clear HU hmf
              go_wp2
              go_roundw
              case rel => exact ⟨H, f, by go_num, by omega, hHf, HU2, Lib.hid (HE2.out.trans EX)⟩
              case measure => simp [intOf]; omega
            · have j1 : ¬ (n : Int) < (m : Int) := by omega
              have hum : upTo n 8 k = m := by
                rw [← HU.out]
                cases f with
                | zero => rfl
                | succ f => rw [upTo, if_neg hnm]
              have hub : underB n k = (m == n) := by
                unfold underB
                rw [hum]
              have HUB := Lib.hid hub
              obtain ⟨b, o, rfl, c0, c1, c2, c3⟩ := HS.out.cel (i := (k : Int)) (by omega) k1
              rw [Int.toNat_natCast] at c0 c1 c2 c3
              obtain ⟨x, hx⟩ : ∃ x, L.getD k zcl = x := ⟨_, rfl⟩
              rw [hx] at c0 c1 c2 c3
              have HX := Lib.hid hx
              have d1 := ext_cell HE2.out c1
              have k0 : (0 : Int) ≤ (k : Int) := by omega
              have HN := Lib.hid (cntP_next L n hk1)
              clear c0 c1 c2 c3 hx hub hum HU hmf
              cases h1 : ((m : Int) == (n : Int))
              · have HC2 : Hid (cntP L n (k + 1) = C) := Lib.hid (by
                  have : (m == n) = false := by simp at h1 ⊢; omega
                  rw [HN.out, HUB.out, this, HC.out]
                  simp)
                clear HC HN
                go_wp2
                go_roundw
                case rel => exact ⟨k + 1, C, by omega, by omega, by omega, by go_num, by go_num, HC2, Lib.hid (HE2.out.trans EX)⟩
                case measure => simp [intOf]; omega
              · have hmn : (m == n) = true := by simp at h1 ⊢; omega
                cases h2 : (x.a == 0)
                · have h2' : (x.a != 0) = true := by simpa [bne] using h2
                  have HC2 : Hid (cntP L n (k + 1) = C + 1) := Lib.hid (by
                    have : hasN L k = true := by
                      unfold hasN
                      rw [HX.out, h2]
                      rfl
                    rw [HN.out, HUB.out, hmn, this, HC.out]
                    rfl)
                  have q3 : IntKind.u64.wrap ((C : Int) + 1) = (C : Int) + 1 := by rw [IntKind.wrap_u64]; omega
                  clear HC HN hmn
                  go_wp2
                  go_roundw
                  case rel => exact ⟨k + 1, C + 1, by omega, by omega, by omega, by go_num, by go_num, HC2, Lib.hid (HE2.out.trans EX)⟩
                  case measure => simp [intOf]; omega
                · have h2' : (x.a != 0) = false := by simpa [bne] using h2
                  have HC2 : Hid (cntP L n (k + 1) = C) := Lib.hid (by
                    have : hasN L k = false := by
                      unfold hasN
                      rw [HX.out, h2]
                      rfl
                    rw [HN.out, HUB.out, hmn, this, HC.out]
                    rfl)
                  clear HC HN hmn
                  go_wp2
                  go_roundw
                  case rel => exact ⟨k + 1, C, by omega, by omega, by omega, by go_num, by go_num, HC2, Lib.hid (HE2.out.trans EX)⟩
                  case measure => simp [intOf]; omega
        · obtain rfl : k = L.length := by omega
          have k1 : ¬ (L.length : Int) < (L.length : Int) := by omega
          obtain ⟨b, o, rfl, c0, c1, c2, c3⟩ := HS.out.cel (i := (n : Int)) (by omega) i1
          rw [Int.toNat_natCast] at c0 c1 c2 c3
          have e1 : L.getD n zcl = L[n] := by simp [hlt]
          have hcb : (L.getD n zcl).b = (C : Int) := by
            rw [e1, HOK.out.cnt n hlt hn1, ← HC.out]
            rfl
          have hcc : (L.getD n zcl).c = 0 := by
            rw [e1]
            exact HOK.out.cc n hlt hn1
          have c2' : w.cell? _ = some (.int .u64 (L.getD n zcl).b) := c2
          have c3' : w.cell? _ = some (.int .u64 (L.getD n zcl).c) := c3
          rw [hcb] at c2'
          rw [hcc] at c3'
          have d2 := ext_cell HE1.out c2'
          have d3 := ext_cell HE1.out c3'
          have n0 : (0 : Int) ≤ (n : Int) := by omega
          have q4 : ((C : Int) != (C : Int)) = false := by simp
          clear c0 c1 c2 c3 c2' c3' hcb hcc e1
          go_wp2
          go_roundw
          case rel => exact ⟨n + 1, by omega, by omega, by go_num, Lib.hid (HE1.out.trans EX)⟩
          case measure => simp [intOf]; omega
    · obtain rfl : n = L.length := by omega
      go_wp2
      go_ret
      exact ⟨rfl, HE.out.trans EX⟩
end Go.Proofs.YtpaplhkjaniafaaDoor
