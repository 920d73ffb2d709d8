/- The walks of the document's answer for a table (layer 6): 'look', 'Is'. -/
import Derived.Test.YtdomdaicedeojaaDoorTabR
import Derived.Test.YtdomdaicedeojaaDoorTabL
import Derived.Test.YtdomdaicedeojaaDoorCheckR
import Derived.Deep.QuietTactic
import Derived.BigQuiet
namespace Go.Proofs.YtdomdaicedeojaaDoor
open Go Go.RowKit

theorem deep_i (n : Int) (h : 0 ≤ n ∧ n ≤ 1000) (w : World) (d : Int) (hd : ((Nat.log2 n.toNat : Nat) : Int) = d) : Calls Tryd.prog 62 #[.int .i64 n] w fun e w' => e = .returned (.int .i64 d) ∧ Ext w w' := by
  have h2 := deep_any n.toNat (by omega) w
  rw [Int.toNat_of_nonneg h.1, hd] at h2
  exact h2
theorem match_i (b p node : Int) (hb : 0 ≤ b ∧ b ≤ 6) (hp0 : 0 ≤ p) (hp : p.toNat < 2 ^ b.toNat) (hn : 1 ≤ node) (h2 : node < ((2 * 2 ^ b.toNat : Nat) : Int)) (w : World) (R : Bool) (hR : mB b.toNat (2 ^ b.toNat + p.toNat) node.toNat = R) :
    Calls Tryd.prog 61 #[.int .i64 node, .int .i64 b, .int .i64 p] w fun e w' => e = .returned (.bool R) ∧ Ext w w' := by
  have h3 := match_any b.toNat p.toNat node.toNat (by omega) hp (by omega) (by omega) w
  rw [Int.toNat_of_nonneg hb.1, Int.toNat_of_nonneg hp0, Int.toNat_of_nonneg (show 0 ≤ node by omega), hR] at h3
  exact h3
set_option maxRecDepth 100000 in
set_option maxHeartbeats 4000000 in
theorem lookR_any (c : Cfg) (v : Value) (L : List Rw) (a : Int) (hb : 0 ≤ c.bits ∧ c.bits ≤ 6) (ha0 : 0 ≤ a) (ha : a < 2 ^ c.bits.toNat) (hr : Rises L) (hn : L.length ≤ 1000) (hok : ∀ x ∈ L, RouteOk c x) (w : World) (hv : Sl w v L.length (rwCells L)) :
    Calls Tryd.prog 48 #[c.v, v, .int .i64 a] w fun e w' => e = .returned (longRes (tabLook c L a)) ∧ Ext w w' := by
  obtain ⟨hp1, hp2, hp3⟩ := leaf_bd ha0 hb.2 ha
  have hb64 := two_le (Nat.le_refl c.bits.toNat) hp3
  have HALL : Hid (∀ z, Best c.bits.toNat (2 ^ c.bits.toNat + a.toNat) L L.length z → (z = -1 → tabLook c L a = none) ∧ (∀ i : Nat, z = i → i < L.length ∧ tabLook c L a = some (L.getD i zrw).v)) := Lib.hid fun z h => best_all hr hok hp1 hp3 h
  obtain ⟨R, hR⟩ : ∃ R, tabLook c L a = R := ⟨_, rfl⟩
  rw [hR] at HALL ⊢
  have HB := Lib.hid hb
  have HA0 := Lib.hid ha0
  have HA := Lib.hid hp1
  have HOK := Lib.hid hok
  obtain ⟨lf, hlf⟩ : ∃ lf, 2 ^ c.bits.toNat + a.toNat = lf := ⟨_, rfl⟩
  rw [hlf] at HALL
  have HLF := Lib.hid hlf
  have HB64 := Lib.hid hb64
  obtain ⟨ad, cap, rfl, hs⟩ := hv
  have hm := hs.len
  have HSA := Lib.hid hs
  clear hr hok hs hR hb ha0 ha hp1 hp2 hp3 hlf hb64
  go_enter Tryd.func48, Tryd.ntmps48
  go_wp2
  go_loopw [7, 8, 9] (fun z i _ wr => ∃ (k : Nat) (q : Int), k ≤ L.length ∧ i = .int .i64 k ∧ z = .int .i64 q ∧ Hid (Best c.bits.toNat lf L k q) ∧ Hid (Ext ((w.alloc (.cells #[.int .u8 c.object, .int .i64 c.instances, .int .i64 c.threads, .int .u8 c.kind, .int .i64 c.stripes, .int .i64 c.bits, .int .i64 c.cap, .int .i64 c.node, .int .i64 c.batch, .int .i64 c.chunk, .int .u64 c.limit, .int .u64 c.most] 33)).alloc (.cells #[.int .i64 0, .int .u32 0, .slice none 0 0] 29)) wr)) (fun _ i _ _ => L.length - (intOf i).toNat)
  case atStart => exact ⟨0, -1, Nat.zero_le _, rfl, rfl, Lib.hid (Best.zero _ _ _), Lib.hid (by repeat (first | with_reducible exact Ext.refl _ | with_reducible assumption | with_reducible refine Ext.alloc ?_ _ | with_reducible refine Ext.gr ?_ _ | with_reducible refine Ext.drewN ?_ _ | with_reducible refine Ext.drew ?_ | with_reducible refine Ext.setCell ?_ ?_ _ | with_reducible refine Ext.more ?_ _ _ | (show _ ≤ _; dsimp only; omega)))⟩
  case round =>
    obtain ⟨k, q, hk, rfl, rfl, HBE, HE⟩ := hrel
    obtain ⟨os, d, rfl⟩ := HE.out
    have hE : Ext w (grew ((w.alloc (.cells #[.int .u8 c.object, .int .i64 c.instances, .int .i64 c.threads, .int .u8 c.kind, .int .i64 c.stripes, .int .i64 c.bits, .int .i64 c.cap, .int .i64 c.node, .int .i64 c.batch, .int .i64 c.chunk, .int .u64 c.limit, .int .u64 c.most] 33)).alloc (.cells #[.int .i64 0, .int .u32 0, .slice none 0 0] 29)) os d) := (by repeat (first | with_reducible exact Ext.refl _ | with_reducible assumption | with_reducible refine Ext.alloc ?_ _ | with_reducible refine Ext.gr ?_ _ | with_reducible refine Ext.drewN ?_ _ | with_reducible refine Ext.drew ?_ | with_reducible refine Ext.setCell ?_ ?_ _ | with_reducible refine Ext.more ?_ _ _ | (show _ ≤ _; dsimp only; omega)))
    clear HE
    by_cases hlt : k < L.length
    · have hrok := HOK.out _ (row_mem hlt)
      obtain ⟨b, o, rfl, hbl, r1, r2⟩ := HSA.out.rw hlt
      have hb1 : b < w.heap.size + 1 := by omega
      have hb2 : b < w.heap.size + 1 + 1 := by omega
      have hb3 : b < w.heap.size + 1 + 1 + cnt os := by omega
      obtain ⟨x, hx⟩ : ∃ x, L.getD k zrw = x := ⟨_, rfl⟩
      rw [hx] at r1 r2 hrok
      have hx64 := HB64.out
      have HX1 := Lib.hid hrok.1.1
      have HX2 := Lib.hid hrok.1.2
      have HX3 : Hid (0 ≤ x.k ∧ x.k ≤ 1000) := Lib.hid (by have := hrok.1; omega)
      have qx : IntKind.i64.wrap x.k = x.k := by have := hrok.1; rw [IntKind.wrap_i64]; omega
      have i0 : (0 : Int) ≤ (k : Int) := by omega
      have i1 : (k : Int) < (L.length : Int) := by omega
      obtain ⟨B, hB⟩ : ∃ B, betterB c.bits.toNat lf L k q = B := ⟨_, rfl⟩
      have hB2 := hB
      unfold betterB at hB2
      rw [hx] at hB2
      have hlt2 := HBE.out.lt
      clear hrok hx64 hx
      cases hm2 : mB c.bits.toNat lf x.k.toNat
      · have HM : Hid (mB c.bits.toNat (2 ^ c.bits.toNat + a.toNat) x.k.toNat = false) := Lib.hid (by rw [HLF.out]; exact hm2)
        rw [hm2] at hB2
        have HBE2 : Hid (Best c.bits.toNat lf L (k + 1) q) := Lib.hid (HBE.out.no (by rw [hB, ← hB2]; rfl))
        clear hB hB2 hm2
        go_wp2
        (refine wp_region_ext_lit (by kernel_rfl) (by kernel_rfl) ?_); (repeat (go_big_quiet_step (first | (go_at_call 61; exact quiet_ext ((match_i c.bits a x.k HB.out HA0.out HA.out HX1.out HX2.out _ _ HM.out).mono fun e w' h => h))))); (refine wpQuiet_nil ?_; intro _ hw'; obtain ⟨⟨osq, nq⟩, hw''⟩ := hw'; replace hw'' : _ = grew _ osq nq := hw''; subst hw'')
        go_wp2
        go_roundw
        case rel => exact ⟨k + 1, q, by omega, by go_num, rfl, HBE2, Lib.hid (by repeat (first | with_reducible exact Ext.refl _ | with_reducible assumption | with_reducible refine Ext.alloc ?_ _ | with_reducible refine Ext.gr ?_ _ | with_reducible refine Ext.drewN ?_ _ | with_reducible refine Ext.drew ?_ | with_reducible refine Ext.setCell ?_ ?_ _ | with_reducible refine Ext.more ?_ _ _ | (show _ ≤ _; dsimp only; omega)))⟩
        case measure => simp [intOf]; omega
      · have HM : Hid (mB c.bits.toNat (2 ^ c.bits.toNat + a.toNat) x.k.toNat = true) := Lib.hid (by rw [HLF.out]; exact hm2)
        rw [hm2] at hB2
        clear hm2
        by_cases hq : q < 0
        · have HBE2 : Hid (Best c.bits.toNat lf L (k + 1) k) := Lib.hid (HBE.out.yes (by rw [hB, ← hB2]; simp [hq]))
          have hqd : decide (q < 0) = true := decide_eq_true hq
          clear hB hB2
          go_wp2
          (refine wp_region_ext_lit (by kernel_rfl) (by kernel_rfl) ?_); (repeat (go_big_quiet_step (first | (go_at_call 61; exact quiet_ext ((match_i c.bits a x.k HB.out HA0.out HA.out HX1.out HX2.out _ _ HM.out).mono fun e w' h => h))))); (refine wpQuiet_nil ?_; intro _ hw'; obtain ⟨⟨osq, nq⟩, hw''⟩ := hw'; replace hw'' : _ = grew _ osq nq := hw''; subst hw'')
          go_wp2
          go_roundw
          case rel => exact ⟨k + 1, k, by omega, by go_num, rfl, HBE2, Lib.hid (by repeat (first | with_reducible exact Ext.refl _ | with_reducible assumption | with_reducible refine Ext.alloc ?_ _ | with_reducible refine Ext.gr ?_ _ | with_reducible refine Ext.drewN ?_ _ | with_reducible refine Ext.drew ?_ | with_reducible refine Ext.setCell ?_ ?_ _ | with_reducible refine Ext.more ?_ _ _ | (show _ ≤ _; dsimp only; omega)))⟩
          case measure => simp [intOf]; omega
        · obtain ⟨j, rfl⟩ : ∃ j : Nat, q = j := ⟨q.toNat, by omega⟩
          have hjl : j < L.length := by omega
          have hqd : decide ((j : Int) < 0) = false := decide_eq_false hq
          have hyok := HOK.out _ (row_mem hjl)
          obtain ⟨b', o', e', _, s1, s2⟩ := HSA.out.rw hjl
          cases e'
          rw [hqd, Int.toNat_natCast, Bool.true_and, Bool.false_or] at hB2
          obtain ⟨y, hy⟩ : ∃ y, L.getD j zrw = y := ⟨_, rfl⟩
          rw [hy] at s1 s2 hyok hB2
          have hx64 := HB64.out
          have HY3 : Hid (0 ≤ y.k ∧ y.k ≤ 1000) := Lib.hid (by have := hyok.1; omega)
          have qy : IntKind.i64.wrap y.k = y.k := by have := hyok.1; rw [IntKind.wrap_i64]; omega
          have j0 : (0 : Int) ≤ (j : Int) := by omega
          have j1 : (j : Int) < (L.length : Int) := by omega
          obtain ⟨dx, hdx⟩ : ∃ dx, Nat.log2 x.k.toNat = dx := ⟨_, rfl⟩
          obtain ⟨dy, hdy⟩ : ∃ dy, Nat.log2 y.k.toNat = dy := ⟨_, rfl⟩
          rw [hdx, hdy] at hB2
          have HDX : Hid (((Nat.log2 x.k.toNat : Nat) : Int) = (dx : Int)) := Lib.hid (by rw [hdx])
          have HDY : Hid (((Nat.log2 y.k.toNat : Nat) : Int) = (dy : Int)) := Lib.hid (by rw [hdy])
          clear hyok hx64 hdx hdy hy
          by_cases hd2 : dy < dx
          · have hdd : decide ((dy : Int) < (dx : Int)) = true := decide_eq_true (by omega)
            have HBE2 : Hid (Best c.bits.toNat lf L (k + 1) k) := Lib.hid (HBE.out.yes (by rw [hB, ← hB2]; simp [hd2]))
            clear hB hB2
            go_wp2
            (refine wp_region_ext_lit (by kernel_rfl) (by kernel_rfl) ?_); (repeat (go_big_quiet_step (first | (go_at_call 61; exact quiet_ext ((match_i c.bits a x.k HB.out HA0.out HA.out HX1.out HX2.out _ _ HM.out).mono fun e w' h => h)) | (go_at_call 62; refine quiet_ext (v := .int .i64 (dx : Int)) ?_; (with_reducible refine (deep_i x.k HX3.out _ _ HDX.out).mono ?_); exact fun e w' h => h) | (go_at_call 62; refine quiet_ext (v := .int .i64 (dy : Int)) ?_; (with_reducible refine (deep_i y.k HY3.out _ _ HDY.out).mono ?_); exact fun e w' h => h)))); (refine wpQuiet_nil ?_; intro _ hw'; obtain ⟨⟨osq, nq⟩, hw''⟩ := hw'; replace hw'' : _ = grew _ osq nq := hw''; subst hw'')
            go_wp2
            go_roundw
            case rel => exact ⟨k + 1, k, by omega, by go_num, rfl, HBE2, Lib.hid (by repeat (first | with_reducible exact Ext.refl _ | with_reducible assumption | with_reducible refine Ext.alloc ?_ _ | with_reducible refine Ext.gr ?_ _ | with_reducible refine Ext.drewN ?_ _ | with_reducible refine Ext.drew ?_ | with_reducible refine Ext.setCell ?_ ?_ _ | with_reducible refine Ext.more ?_ _ _ | (show _ ≤ _; dsimp only; omega)))⟩
            case measure => simp [intOf]; omega
          · have hdd : decide ((dy : Int) < (dx : Int)) = false := decide_eq_false (by omega)
            have HBE2 : Hid (Best c.bits.toNat lf L (k + 1) j) := Lib.hid (HBE.out.no (by rw [hB, ← hB2]; simp [hd2]))
            clear hB hB2
            go_wp2
            (refine wp_region_ext_lit (by kernel_rfl) (by kernel_rfl) ?_); (repeat (go_big_quiet_step (first | (go_at_call 61; exact quiet_ext ((match_i c.bits a x.k HB.out HA0.out HA.out HX1.out HX2.out _ _ HM.out).mono fun e w' h => h)) | (go_at_call 62; refine quiet_ext (v := .int .i64 (dx : Int)) ?_; (with_reducible refine (deep_i x.k HX3.out _ _ HDX.out).mono ?_); exact fun e w' h => h) | (go_at_call 62; refine quiet_ext (v := .int .i64 (dy : Int)) ?_; (with_reducible refine (deep_i y.k HY3.out _ _ HDY.out).mono ?_); exact fun e w' h => h)))); (refine wpQuiet_nil ?_; intro _ hw'; obtain ⟨⟨osq, nq⟩, hw''⟩ := hw'; replace hw'' : _ = grew _ osq nq := hw''; subst hw'')
            go_wp2
            go_roundw
            case rel => exact ⟨k + 1, j, by omega, by go_num, rfl, HBE2, Lib.hid (by repeat (first | with_reducible exact Ext.refl _ | with_reducible assumption | with_reducible refine Ext.alloc ?_ _ | with_reducible refine Ext.gr ?_ _ | with_reducible refine Ext.drewN ?_ _ | with_reducible refine Ext.drew ?_ | with_reducible refine Ext.setCell ?_ ?_ _ | with_reducible refine Ext.more ?_ _ _ | (show _ ≤ _; dsimp only; omega)))⟩
            case measure => simp [intOf]; omega
    · obtain rfl : k = L.length := by omega
      obtain ⟨hz1, hz2⟩ := HALL.out q HBE.out
      have hlt2 := HBE.out.lt
      by_cases hq : q < 0
      · have HR2 : Hid (none = R) := Lib.hid (hz1 (by omega)).symm
        clear hz1 hz2
        go_wp2
        refine bodyPost_ret (v := resV 6 0) (by simp [results, Tryd.results48, go_sem]) rfl ?_
        exact ⟨by rw [← HR2.out] <;> rfl, (by first | ((repeat (first | with_reducible exact Ext.refl _ | with_reducible assumption | with_reducible refine Ext.alloc ?_ _ | with_reducible refine Ext.gr ?_ _ | with_reducible refine Ext.drewN ?_ _ | with_reducible refine Ext.drew ?_ | with_reducible refine Ext.setCell ?_ ?_ _ | with_reducible refine Ext.more ?_ _ _ | (show _ ≤ _; dsimp only; omega))); done) | ((repeat (first | with_reducible exact Ext.refl _ | with_reducible assumption | with_reducible apply Ext.bothR | with_reducible refine Ext.alloc ?_ _ | with_reducible refine Ext.gr ?_ _ | with_reducible refine Ext.drewN ?_ _ | with_reducible refine Ext.drew ?_ | with_reducible refine Ext.setCell ?_ ?_ _ | with_reducible refine Ext.more ?_ _ _ | (show _ ≤ _; dsimp only; omega))); done) | ((repeat (first | with_reducible exact Ext.refl _ | with_reducible exact Ext.sameG _ _ _ _ | with_reducible assumption | with_reducible refine Ext.bothR (n := 0) ?_ | with_reducible refine Ext.alloc ?_ _ | with_reducible refine Ext.gr ?_ _ | with_reducible refine Ext.drewN ?_ _ | with_reducible refine Ext.drew ?_ | with_reducible refine Ext.setCell ?_ ?_ _ | with_reducible refine Ext.more ?_ _ _ | (show _ ≤ _; dsimp only; omega))); done))⟩
      · obtain ⟨j, rfl⟩ : ∃ j : Nat, q = j := ⟨q.toNat, by omega⟩
        obtain ⟨hjl, hzz⟩ := hz2 j rfl
        have hyok := HOK.out _ (row_mem hjl)
        obtain ⟨b, o, rfl, hbl, s1, s2⟩ := HSA.out.rw hjl
        have hb1 : b < w.heap.size + 1 := by omega
        have hb2 : b < w.heap.size + 1 + 1 := by omega
        obtain ⟨u, hu⟩ : ∃ u, (L.getD j zrw).v = u := ⟨_, rfl⟩
        have hu2 := hyok.2
        rw [hu] at s2 hzz hu2
        have HU := Lib.hid hu2
        have HR2 : Hid (some u = R) := Lib.hid hzz.symm
        have j0 : (0 : Int) ≤ (j : Int) := by omega
        have j1 : (j : Int) < (L.length : Int) := by omega
        clear hz1 hz2 hyok hu hu2 hzz
        go_wp2_with (go_at_call 51; (with_reducible refine (wordR_any u HU.out _).mono ?_); rintro e w3 ⟨rfl, rfl⟩)
        refine bodyPost_ret (v := resV 0 (u + 1)) (by simp [results, Tryd.results48, go_sem]) rfl ?_
        exact ⟨by rw [← HR2.out] <;> rfl, (by first | ((repeat (first | with_reducible exact Ext.refl _ | with_reducible assumption | with_reducible refine Ext.alloc ?_ _ | with_reducible refine Ext.gr ?_ _ | with_reducible refine Ext.drewN ?_ _ | with_reducible refine Ext.drew ?_ | with_reducible refine Ext.setCell ?_ ?_ _ | with_reducible refine Ext.more ?_ _ _ | (show _ ≤ _; dsimp only; omega))); done) | ((repeat (first | with_reducible exact Ext.refl _ | with_reducible assumption | with_reducible apply Ext.bothR | with_reducible refine Ext.alloc ?_ _ | with_reducible refine Ext.gr ?_ _ | with_reducible refine Ext.drewN ?_ _ | with_reducible refine Ext.drew ?_ | with_reducible refine Ext.setCell ?_ ?_ _ | with_reducible refine Ext.more ?_ _ _ | (show _ ≤ _; dsimp only; omega))); done) | ((repeat (first | with_reducible exact Ext.refl _ | with_reducible exact Ext.sameG _ _ _ _ | with_reducible assumption | with_reducible refine Ext.bothR (n := 0) ?_ | with_reducible refine Ext.alloc ?_ _ | with_reducible refine Ext.gr ?_ _ | with_reducible refine Ext.drewN ?_ _ | with_reducible refine Ext.drew ?_ | with_reducible refine Ext.setCell ?_ ?_ _ | with_reducible refine Ext.more ?_ _ _ | (show _ ≤ _; dsimp only; omega))); done))⟩
end Go.Proofs.YtdomdaicedeojaaDoor
