/- The walks of the reference of layer 'trie': powers, nodes, the table. -/
import Derived.Test.YtmhmaifmendebaaGreatDoorA4
import Derived.Test.YtmhmaifmendebaaGreatDoorA1
import Derived.Test.YtmhmaifmendebaaGreatDoorA0
import Derived.Deep.Light
import Derived.Outline
namespace Go.Proofs.YtmhmaifmendebaaGreatDoor.trie
open Go Go.RowKit
set_option maxRecDepth 100000
set_option maxHeartbeats 8000000

theorem there12_any (k pc : Int) (hk : 0 ≤ k ∧ k ≤ 255) (hp : 0 ≤ pc ∧ pc ≤ 255) (w : World) : Calls Tryz.prog 53 #[.int .u8 k, .int .u8 pc] w
    fun e w' => e = .returned (.bool (trThere k pc)) ∧ w = w' := by
  obtain ⟨k0, k1⟩ := hk
  obtain ⟨p0, p1⟩ := hp
  go_enter Tryz.func53, Tryz.ntmps53
  go_wp2
  all_goals (go_ret; refine ⟨ret_bool ?_, rfl⟩)
  all_goals (go_light; rw [Bool.eq_iff_iff]; simp_all [trThere] <;> omega)

theorem half_pow (n : Int) (j : Nat) : n / 2 ^ j / 2 = n / 2 ^ (j + 1) := by
  rw [Int.pow_succ, Int.ediv_ediv_of_nonneg (Int.pow_nonneg (by decide))]
theorem aboveR_any (n : Int) (K : Nat) (hn : 0 ≤ n ∧ n ≤ 127) (hK : K ≤ 6) (w : World) : Calls Tryz.prog 55 #[.int .i64 n, .int .i64 (K : Int)] w
    fun e w' => e = .returned (.int .i64 (n / 2 ^ K)) ∧ w = w' := by
  obtain ⟨n0, n1⟩ := hn
  go_enter Tryz.func55, Tryz.ntmps55
  go_wp2
  go_loop [0, 5] (fun t i => ∃ k : Nat, k ≤ K ∧ i = .int .i64 k ∧ t = .int .i64 (n / 2 ^ k)) (fun _ i => K - (intOf i).toNat)
  case atStart => exact ⟨0, Nat.zero_le _, rfl, by simp⟩
  case round =>
    obtain ⟨k, hk, rfl, rfl⟩ := hrel
    have hh := half_pow n k
    have hm0 : 0 ≤ n / 2 ^ k := Int.ediv_nonneg n0 (Int.pow_nonneg (by decide))
    have hm1 : n / 2 ^ k ≤ n := Int.ediv_le_self _ n0
    obtain ⟨m, hm⟩ : ∃ m, n / 2 ^ k = m := ⟨_, rfl⟩
    rw [hm] at hh hm0 hm1
    have HM := Lib.hid hm
    have HH := Lib.hid hh
    rw [hm]
    clear hm hh
    by_cases hlt : k < K
    · go_wp2
      go_round
      case rel => exact ⟨k + 1, by omega, by go_num, by rw [← HH.out]⟩
      case measure => simp [intOf]; omega
    · obtain rfl : k = K := by omega
      go_wp2
      go_ret
      exact ⟨by rw [HM.out]; rfl, rfl⟩

theorem two_pow (j : Nat) : 2 * (2 : Int) ^ j = 2 ^ (j + 1) := by
  rw [Int.pow_succ, Int.mul_comm]
theorem pow_le6 (j : Nat) (h : j ≤ 6) : (1 : Int) ≤ 2 ^ j ∧ (2 : Int) ^ j ≤ 64 := by
  have := pow_le (j : Int) (by omega)
  simp at this
  exact ⟨Int.pow_pos (by decide), this⟩
theorem wholeR_any (c : Cfg) (f : Frm) (hf : f.Fits) (B : Nat) (hB : trMost c f = B) (hB6 : B ≤ 6) (ha : f.a < 2 ^ B) (w : World) : Calls Tryz.prog 54 #[c.v, f.v] w
    fun e w' => e = .returned (.tuple #[.int .i64 (trM c f), .int .i64 (B : Int)]) ∧ Ext w w' := by
  obtain ⟨_, ⟨a0, a1⟩, ⟨b0, b1⟩, _, _, _, _, _, _, _, _⟩ := hf
  have hb := pow_le6 B hB6
  have HM : Hid (trM c f = f.a + 2 ^ B) := Lib.hid (by rw [trM, hB]; simp [Int.add_comm])
  have hq : (if f.kind == 3 then c.bits else f.b) = B := hB
  clear hB
  cases k3 : (f.kind == 3)
  all_goals
    rw [k3] at hq
    simp only [Bool.false_eq_true, if_false, if_true] at hq
    have HQ := Lib.hid hq
    clear hq
    go_enter Tryz.func54, Tryz.ntmps54
    go_wp2
    rw [HQ.out]
    go_loop [8, 9] (fun t i => ∃ k : Nat, k ≤ B ∧ i = .int .i64 k ∧ t = .int .i64 (2 ^ k)) (fun _ i => B - (intOf i).toNat)
    case atStart => exact ⟨0, Nat.zero_le _, rfl, by simp⟩
    case round =>
      obtain ⟨k, hk, rfl, rfl⟩ := hrel
      have hh := two_pow k
      have hm1 := pow_le6 k (by omega)
      obtain ⟨m, hm⟩ : ∃ m, (2 : Int) ^ k = m := ⟨_, rfl⟩
      rw [hm] at hh hm1
      have HMM := Lib.hid hm
      have HH := Lib.hid hh
      rw [hm]
      clear hm hh
      by_cases hlt : k < B
      · go_wp2
        go_round
        case rel => exact ⟨k + 1, by omega, by go_num, by rw [← HH.out]⟩
        case measure => simp [intOf]; omega
      · obtain rfl : k = B := by omega
        rw [HMM.out] at hb ha
        go_wp2
        go_ret2
        exact ⟨by rw [HM.out, HMM.out]; rfl, EX⟩
end Go.Proofs.YtmhmaifmendebaaGreatDoor.trie
/- The walks of the reference of layer 'trie': Step, May, Next. -/
namespace Go.Proofs.YtmhmaifmendebaaGreatDoor.trie
open Go Go.RowKit
set_option maxRecDepth 100000
set_option maxHeartbeats 8000000

theorem aboveR_int (n k : Int) (hn : 0 ≤ n ∧ n ≤ 127) (hk : 0 ≤ k ∧ k ≤ 6) (w : World) : Calls Tryz.prog 55 #[.int .i64 n, .int .i64 k] w
    fun e w' => e = .returned (.int .i64 (n / 2 ^ k.toNat)) ∧ w = w' := by
  obtain ⟨K, rfl⟩ := Int.eq_ofNat_of_zero_le hk.1
  exact aboveR_any n K hn (by omega) w

theorem tr_pc {c : Cfg} {f : Frm} (hf : f.Fits) (h : TrFacts c f) : f.pc = 0 ∨ f.pc = 1 ∨ f.pc = 2 ∨ f.pc = 3 ∨ f.pc = 5 ∨ f.pc = 6 ∨ f.pc = 7 ∨ f.pc = 8 := by
  have h1 := h.there
  have h2 := h.kind
  have h3 := hf.pc
  rcases h2 with hk | hk | hk <;> simp [trThere, hk] at h1 <;> omega
theorem trStepR_any (c : Cfg) (f : Frm) (hf : f.Fits) (ht : TrFacts c f) (w : World) : Calls Tryz.prog 31 #[c.v, f.v] w
    fun e w' => e = .returned (trStep c f).v ∧ Ext w w' := by
  have HF := Lib.hid hf
  obtain ⟨B, hB⟩ : ∃ B : Nat, trMost c f = B := ⟨(trMost c f).toNat, by have := ht.most; omega⟩
  have hmost := ht.most
  have hh := ht.h
  have ha := ht.a
  have hpc := tr_pc hf ht
  rw [hB] at hmost hh ha
  simp only [Int.toNat_natCast] at ha
  have HBB : Hid (trMost c f = B ∧ B ≤ 6 ∧ f.a < 2 ^ B) := Lib.hid ⟨hB, by omega, ha⟩
  have hp6 := pow_le6 B (by omega)
  obtain ⟨M, hM⟩ : ∃ M, trM c f = M := ⟨_, rfl⟩
  have hMb : 0 ≤ M ∧ M ≤ 127 := by have := hf.a; rw [← hM, trM, hB]; simp only [Int.toNat_natCast]; omega
  obtain ⟨D, hD⟩ : ∃ D, M / 2 ^ ((B : Int) - f.h).toNat = D := ⟨_, rfl⟩
  have hDD : trD c f = D := by rw [trD, hM, hB]; exact hD
  have HMM := Lib.hid hM
  have HDD := Lib.hid hD
  have hB6 : B ≤ 6 := by omega
  obtain ⟨⟨k0, k1⟩, ⟨a0, a1⟩, ⟨b0, b1⟩, ⟨p0, p1⟩, ⟨i0, i1⟩, ⟨j0, j1⟩, ⟨m0, m1⟩, ⟨q0, q1⟩, ⟨h0, h1⟩, ⟨x0, x1⟩, ⟨y0, y1⟩⟩ := hf
  clear hB ht ha hp6 hD
  rcases hpc with hp | hp | hp | hp | hp | hp | hp | hp
  · have hp' : (f.pc == 0) = true := by simpa using hp
    cases k3 : (f.kind == 3)
    · skip
      have HS : Hid (trStep c f = ⟨1, M, 0, 0, 0, 0, 0⟩) := Lib.hid (by simp only [trStep, hp, hM, hDD, k3]; rfl)
      clear hp hM hDD
      go_enter Tryz.func31, Tryz.ntmps31
      go_wp2_with (first | (go_at_call 54; refine (wholeR_any c f HF.out B HBB.out.1 HBB.out.2.1 HBB.out.2.2 _).mono ?_; rintro e w1 ⟨rfl, os1, n1, rfl⟩; rw [HMM.out]) | (go_at_call 55; refine (aboveR_int M (B - f.h) (by omega) (by omega) _).mono ?_; rintro e w2 ⟨rfl, rfl⟩; rw [HDD.out]))
      (refine bodyPost_ret (v := (trStep c f).v) (by rw [HS.out]; simp [results, Tryz.results31, go_sem]) rfl ⟨rfl, EX⟩)
    · skip
      have HS : Hid (trStep c f = ⟨1, D, 0, 0, 0, 0, 0⟩) := Lib.hid (by simp only [trStep, hp, hM, hDD, k3]; rfl)
      clear hp hM hDD
      go_enter Tryz.func31, Tryz.ntmps31
      go_wp2_with (first | (go_at_call 54; refine (wholeR_any c f HF.out B HBB.out.1 HBB.out.2.1 HBB.out.2.2 _).mono ?_; rintro e w1 ⟨rfl, os1, n1, rfl⟩; rw [HMM.out]) | (go_at_call 55; refine (aboveR_int M (B - f.h) (by omega) (by omega) _).mono ?_; rintro e w2 ⟨rfl, rfl⟩; rw [HDD.out]))
      (refine bodyPost_ret (v := (trStep c f).v) (by rw [HS.out]; simp [results, Tryz.results31, go_sem]) rfl ⟨rfl, EX⟩)
  · have hp' : (f.pc == 1) = true := by simpa using hp
    have HS : Hid (trStep c f = ⟨1, 1, 0, 0, 0, 0, 0⟩) := Lib.hid (by simp only [trStep, hp, hM, hDD]; rfl)
    clear hp hM hDD
    go_enter Tryz.func31, Tryz.ntmps31
    go_wp2_with (first | (go_at_call 54; refine (wholeR_any c f HF.out B HBB.out.1 HBB.out.2.1 HBB.out.2.2 _).mono ?_; rintro e w1 ⟨rfl, os1, n1, rfl⟩; rw [HMM.out]) | (go_at_call 55; refine (aboveR_int M (B - f.h) (by omega) (by omega) _).mono ?_; rintro e w2 ⟨rfl, rfl⟩; rw [HDD.out]))
    (refine bodyPost_ret (v := (trStep c f).v) (by rw [HS.out]; simp [results, Tryz.results31, go_sem]) rfl ⟨rfl, EX⟩)
  · have hp' : (f.pc == 2) = true := by simpa using hp
    have HS : Hid (trStep c f = ⟨1, D, 0, 0, 0, 0, 0⟩) := Lib.hid (by simp only [trStep, hp, hM, hDD]; rfl)
    clear hp hM hDD
    go_enter Tryz.func31, Tryz.ntmps31
    go_wp2_with (first | (go_at_call 54; refine (wholeR_any c f HF.out B HBB.out.1 HBB.out.2.1 HBB.out.2.2 _).mono ?_; rintro e w1 ⟨rfl, os1, n1, rfl⟩; rw [HMM.out]) | (go_at_call 55; refine (aboveR_int M (B - f.h) (by omega) (by omega) _).mono ?_; rintro e w2 ⟨rfl, rfl⟩; rw [HDD.out]))
    (refine bodyPost_ret (v := (trStep c f).v) (by rw [HS.out]; simp [results, Tryz.results31, go_sem]) rfl ⟨rfl, EX⟩)
  · have hp' : (f.pc == 3) = true := by simpa using hp
    obtain ⟨K, hK⟩ : ∃ K, (f.n + 1) % 64 = K := ⟨_, rfl⟩
    obtain ⟨L, hL⟩ : ∃ L, (f.n + 63) % 64 = L := ⟨_, rfl⟩
    have hKb : 0 ≤ K ∧ K ≤ 63 := by omega
    have hLb : 0 ≤ L ∧ L ≤ 63 := by omega
    cases z : (f.h == f.b)
    · cases k2 : (f.kind == 2)
      · skip
        have HS : Hid (trStep c f = ⟨2, D, f.x, K, 0, 0, 0⟩) := Lib.hid (by simp only [trStep, hp, hM, hDD, z, k2, hK]; rfl)
        clear hp hM hDD
        go_enter Tryz.func31, Tryz.ntmps31
        go_wp2_with (first | (go_at_call 54; refine (wholeR_any c f HF.out B HBB.out.1 HBB.out.2.1 HBB.out.2.2 _).mono ?_; rintro e w1 ⟨rfl, os1, n1, rfl⟩; rw [HMM.out]) | (go_at_call 55; refine (aboveR_int M (B - f.h) (by omega) (by omega) _).mono ?_; rintro e w2 ⟨rfl, rfl⟩; rw [HDD.out]))
        (refine bodyPost_ret (v := (trStep c f).v) (by rw [HS.out]; simp [results, Tryz.results31, go_sem]) rfl ⟨rfl, EX⟩)
      · skip
        have HS : Hid (trStep c f = ⟨2, D, f.x, L, 0, 0, 0⟩) := Lib.hid (by simp only [trStep, hp, hM, hDD, z, k2, hL]; rfl)
        clear hp hM hDD
        go_enter Tryz.func31, Tryz.ntmps31
        go_wp2_with (first | (go_at_call 54; refine (wholeR_any c f HF.out B HBB.out.1 HBB.out.2.1 HBB.out.2.2 _).mono ?_; rintro e w1 ⟨rfl, os1, n1, rfl⟩; rw [HMM.out]) | (go_at_call 55; refine (aboveR_int M (B - f.h) (by omega) (by omega) _).mono ?_; rintro e w2 ⟨rfl, rfl⟩; rw [HDD.out]))
        (refine bodyPost_ret (v := (trStep c f).v) (by rw [HS.out]; simp [results, Tryz.results31, go_sem]) rfl ⟨rfl, EX⟩)
    · cases k2 : (f.kind == 2)
      · skip
        have HS : Hid (trStep c f = ⟨2, D, f.y + 1, K, 0, 0, 0⟩) := Lib.hid (by simp only [trStep, hp, hM, hDD, z, k2, hK]; rfl)
        clear hp hM hDD
        go_enter Tryz.func31, Tryz.ntmps31
        go_wp2_with (first | (go_at_call 54; refine (wholeR_any c f HF.out B HBB.out.1 HBB.out.2.1 HBB.out.2.2 _).mono ?_; rintro e w1 ⟨rfl, os1, n1, rfl⟩; rw [HMM.out]) | (go_at_call 55; refine (aboveR_int M (B - f.h) (by omega) (by omega) _).mono ?_; rintro e w2 ⟨rfl, rfl⟩; rw [HDD.out]))
        (refine bodyPost_ret (v := (trStep c f).v) (by rw [HS.out]; simp [results, Tryz.results31, go_sem]) rfl ⟨rfl, EX⟩)
      · skip
        have HS : Hid (trStep c f = ⟨2, D, 0, L, 0, 0, 0⟩) := Lib.hid (by simp only [trStep, hp, hM, hDD, z, k2, hL]; rfl)
        clear hp hM hDD
        go_enter Tryz.func31, Tryz.ntmps31
        go_wp2_with (first | (go_at_call 54; refine (wholeR_any c f HF.out B HBB.out.1 HBB.out.2.1 HBB.out.2.2 _).mono ?_; rintro e w1 ⟨rfl, os1, n1, rfl⟩; rw [HMM.out]) | (go_at_call 55; refine (aboveR_int M (B - f.h) (by omega) (by omega) _).mono ?_; rintro e w2 ⟨rfl, rfl⟩; rw [HDD.out]))
        (refine bodyPost_ret (v := (trStep c f).v) (by rw [HS.out]; simp [results, Tryz.results31, go_sem]) rfl ⟨rfl, EX⟩)
  · have hp' : (f.pc == 5) = true := by simpa using hp
    obtain ⟨K, hK⟩ : ∃ K, f.n % 64 = K := ⟨_, rfl⟩
    have hKb : 0 ≤ K ∧ K ≤ 63 := by omega
    have HS : Hid (trStep c f = ⟨2, M, f.y + 1, K, 0, 0, 0⟩) := Lib.hid (by simp only [trStep, hp, hM, hDD, hK]; rfl)
    clear hp hM hDD
    go_enter Tryz.func31, Tryz.ntmps31
    go_wp2_with (first | (go_at_call 54; refine (wholeR_any c f HF.out B HBB.out.1 HBB.out.2.1 HBB.out.2.2 _).mono ?_; rintro e w1 ⟨rfl, os1, n1, rfl⟩; rw [HMM.out]) | (go_at_call 55; refine (aboveR_int M (B - f.h) (by omega) (by omega) _).mono ?_; rintro e w2 ⟨rfl, rfl⟩; rw [HDD.out]))
    (refine bodyPost_ret (v := (trStep c f).v) (by rw [HS.out]; simp [results, Tryz.results31, go_sem]) rfl ⟨rfl, EX⟩)
  · have hp' : (f.pc == 6) = true := by simpa using hp
    have HS : Hid (trStep c f = ⟨4, 0, 0, 0, 0, 0, f.x⟩) := Lib.hid (by simp only [trStep, hp, hM, hDD]; rfl)
    clear hp hM hDD
    go_enter Tryz.func31, Tryz.ntmps31
    go_wp2_with (first | (go_at_call 54; refine (wholeR_any c f HF.out B HBB.out.1 HBB.out.2.1 HBB.out.2.2 _).mono ?_; rintro e w1 ⟨rfl, os1, n1, rfl⟩; rw [HMM.out]) | (go_at_call 55; refine (aboveR_int M (B - f.h) (by omega) (by omega) _).mono ?_; rintro e w2 ⟨rfl, rfl⟩; rw [HDD.out]))
    (refine bodyPost_ret (v := (trStep c f).v) (by rw [HS.out]; simp [results, Tryz.results31, go_sem]) rfl ⟨rfl, EX⟩)
  · have hp' : (f.pc == 7) = true := by simpa using hp
    have HS : Hid (trStep c f = ⟨4, 0, 0, 0, 0, 9, 0⟩) := Lib.hid (by simp only [trStep, hp, hM, hDD]; rfl)
    clear hp hM hDD
    go_enter Tryz.func31, Tryz.ntmps31
    go_wp2_with (first | (go_at_call 54; refine (wholeR_any c f HF.out B HBB.out.1 HBB.out.2.1 HBB.out.2.2 _).mono ?_; rintro e w1 ⟨rfl, os1, n1, rfl⟩; rw [HMM.out]) | (go_at_call 55; refine (aboveR_int M (B - f.h) (by omega) (by omega) _).mono ?_; rintro e w2 ⟨rfl, rfl⟩; rw [HDD.out]))
    (refine bodyPost_ret (v := (trStep c f).v) (by rw [HS.out]; simp [results, Tryz.results31, go_sem]) rfl ⟨rfl, EX⟩)
  · have hp' : (f.pc == 8) = true := by simpa using hp
    have HS : Hid (trStep c f = ⟨4, 0, 0, 0, 0, 6, 0⟩) := Lib.hid (by simp only [trStep, hp, hM, hDD]; rfl)
    clear hp hM hDD
    go_enter Tryz.func31, Tryz.ntmps31
    go_wp2_with (first | (go_at_call 54; refine (wholeR_any c f HF.out B HBB.out.1 HBB.out.2.1 HBB.out.2.2 _).mono ?_; rintro e w1 ⟨rfl, os1, n1, rfl⟩; rw [HMM.out]) | (go_at_call 55; refine (aboveR_int M (B - f.h) (by omega) (by omega) _).mono ?_; rintro e w2 ⟨rfl, rfl⟩; rw [HDD.out]))
    (refine bodyPost_ret (v := (trStep c f).v) (by rw [HS.out]; simp [results, Tryz.results31, go_sem]) rfl ⟨rfl, EX⟩)

theorem trMayR_any (c : Cfg) (f : Frm) (hf : f.Fits) (ho : c.object = 1) (w : World) : Calls Tryz.prog 30 #[c.v, f.v] w
    fun e w' => e = .returned (.bool (trMay c f)) ∧ Ext w w' := by
  have HF := Lib.hid hf
  have hop := trOp_fits hf
  have HB : Hid (opErr c (trOp f) = 0 → 1 ≤ c.bits ∧ c.bits ≤ 6) := Lib.hid fun h => (opErr_facts hf ho h).2.2.2.2
  obtain ⟨E, hE⟩ : ∃ E, opErr c (trOp f) = E := ⟨_, rfl⟩
  obtain ⟨T, hT⟩ : ∃ T, trThere f.kind f.pc = T := ⟨_, rfl⟩
  have hM : trMay c f = (E == 0 && T && decide (f.h ≤ trMost c f)) := by rw [← hE, ← hT]; rfl
  have HE := Lib.hid hE
  have HTT := Lib.hid hT
  have HB : Hid (E = 0 → 1 ≤ c.bits ∧ c.bits ≤ 6) := Lib.hid (by rw [← hE]; exact HB.out)
  obtain ⟨⟨k0, k1⟩, ⟨a0, a1⟩, ⟨b0, b1⟩, ⟨p0, p1⟩, ⟨i0, i1⟩, ⟨j0, j1⟩, ⟨m0, m1⟩, ⟨q0, q1⟩, ⟨h0, h1⟩, ⟨x0, x1⟩, ⟨y0, y1⟩⟩ := hf
  clear hE hT ho
  cases hk1 : (f.kind == 1)
  · cases hk3 : (f.kind == 3)
    · skip
      have hop' : trOp f = ⟨f.kind, f.a, f.b, 0⟩ := by unfold trOp; rw [hk1]; rfl
      have hmo : trMost c f = f.b := by unfold trMost; rw [hk3]; rfl
      rw [hmo] at hM
      rw [hop'] at hop HE
      have HO := Lib.hid hop
      have HM := Lib.hid hM
      clear hop hop' hmo hM
      cases e0 : (E == 0)
      · go_enter Tryz.func30, Tryz.ntmps30
        go_wp2_with (first | (go_at_call 52; refine (opCheckR_any c ⟨f.kind, f.a, f.b, 0⟩ HO.out _).mono ?_; rintro e w1 ⟨rfl, os1, n1, rfl⟩; rw [HE.out]) | (go_at_call 53; refine (there12_any f.kind f.pc HF.out.kind HF.out.pc _).mono ?_; rintro e w2 ⟨rfl, rfl⟩; rw [HTT.out]))
        go_ret
        refine ⟨ret_bool ?_, EX⟩
        rw [HM.out, e0]
        rfl
      · obtain rfl : E = 0 := by simpa using e0
        cases T
        · go_enter Tryz.func30, Tryz.ntmps30
          go_wp2_with (first | (go_at_call 52; refine (opCheckR_any c ⟨f.kind, f.a, f.b, 0⟩ HO.out _).mono ?_; rintro e w1 ⟨rfl, os1, n1, rfl⟩; rw [HE.out]) | (go_at_call 53; refine (there12_any f.kind f.pc HF.out.kind HF.out.pc _).mono ?_; rintro e w2 ⟨rfl, rfl⟩; rw [HTT.out]))
          go_ret
          refine ⟨ret_bool ?_, EX⟩
          rw [HM.out]
          rfl
        · cases hh : decide (f.h ≤ f.b)
          · have HH := Lib.hid hh
            go_enter Tryz.func30, Tryz.ntmps30
            go_wp2_with (first | (go_at_call 52; refine (opCheckR_any c ⟨f.kind, f.a, f.b, 0⟩ HO.out _).mono ?_; rintro e w1 ⟨rfl, os1, n1, rfl⟩; rw [HE.out]) | (go_at_call 53; refine (there12_any f.kind f.pc HF.out.kind HF.out.pc _).mono ?_; rintro e w2 ⟨rfl, rfl⟩; rw [HTT.out]))
            go_ret
            refine ⟨ret_bool ?_, EX⟩
            rw [HM.out, HH.out]
            rfl
          · have HH := Lib.hid hh
            go_enter Tryz.func30, Tryz.ntmps30
            go_wp2_with (first | (go_at_call 52; refine (opCheckR_any c ⟨f.kind, f.a, f.b, 0⟩ HO.out _).mono ?_; rintro e w1 ⟨rfl, os1, n1, rfl⟩; rw [HE.out]) | (go_at_call 53; refine (there12_any f.kind f.pc HF.out.kind HF.out.pc _).mono ?_; rintro e w2 ⟨rfl, rfl⟩; rw [HTT.out]))
            go_ret
            refine ⟨ret_bool ?_, EX⟩
            rw [HM.out, HH.out]
            rfl
    · skip
      have hop' : trOp f = ⟨f.kind, f.a, f.b, 0⟩ := by unfold trOp; rw [hk1]; rfl
      have hmo : trMost c f = c.bits := by unfold trMost; rw [hk3]; rfl
      rw [hmo] at hM
      rw [hop'] at hop HE
      have HO := Lib.hid hop
      have HM := Lib.hid hM
      clear hop hop' hmo hM
      cases e0 : (E == 0)
      · go_enter Tryz.func30, Tryz.ntmps30
        go_wp2_with (first | (go_at_call 52; refine (opCheckR_any c ⟨f.kind, f.a, f.b, 0⟩ HO.out _).mono ?_; rintro e w1 ⟨rfl, os1, n1, rfl⟩; rw [HE.out]) | (go_at_call 53; refine (there12_any f.kind f.pc HF.out.kind HF.out.pc _).mono ?_; rintro e w2 ⟨rfl, rfl⟩; rw [HTT.out]))
        go_ret
        refine ⟨ret_bool ?_, EX⟩
        rw [HM.out, e0]
        rfl
      · obtain rfl : E = 0 := by simpa using e0
        obtain ⟨cb0, cb1⟩ := HB.out rfl
        have hwb : IntKind.u32.wrap c.bits = c.bits := by rw [IntKind.wrap_u32]; omega
        cases T
        · go_enter Tryz.func30, Tryz.ntmps30
          go_wp2_with (first | (go_at_call 52; refine (opCheckR_any c ⟨f.kind, f.a, f.b, 0⟩ HO.out _).mono ?_; rintro e w1 ⟨rfl, os1, n1, rfl⟩; rw [HE.out]) | (go_at_call 53; refine (there12_any f.kind f.pc HF.out.kind HF.out.pc _).mono ?_; rintro e w2 ⟨rfl, rfl⟩; rw [HTT.out]))
          go_ret
          refine ⟨ret_bool ?_, EX⟩
          rw [HM.out]
          rfl
        · cases hh : decide (f.h ≤ c.bits)
          · have HH := Lib.hid hh
            go_enter Tryz.func30, Tryz.ntmps30
            go_wp2_with (first | (go_at_call 52; refine (opCheckR_any c ⟨f.kind, f.a, f.b, 0⟩ HO.out _).mono ?_; rintro e w1 ⟨rfl, os1, n1, rfl⟩; rw [HE.out]) | (go_at_call 53; refine (there12_any f.kind f.pc HF.out.kind HF.out.pc _).mono ?_; rintro e w2 ⟨rfl, rfl⟩; rw [HTT.out]))
            go_ret
            refine ⟨ret_bool ?_, EX⟩
            rw [HM.out, HH.out]
            rfl
          · have HH := Lib.hid hh
            go_enter Tryz.func30, Tryz.ntmps30
            go_wp2_with (first | (go_at_call 52; refine (opCheckR_any c ⟨f.kind, f.a, f.b, 0⟩ HO.out _).mono ?_; rintro e w1 ⟨rfl, os1, n1, rfl⟩; rw [HE.out]) | (go_at_call 53; refine (there12_any f.kind f.pc HF.out.kind HF.out.pc _).mono ?_; rintro e w2 ⟨rfl, rfl⟩; rw [HTT.out]))
            go_ret
            refine ⟨ret_bool ?_, EX⟩
            rw [HM.out, HH.out]
            rfl
  · have hk3 : (f.kind == 3) = false := by simp at hk1 ⊢; omega
    have hop' : trOp f = ⟨f.kind, f.a, f.b, f.y⟩ := by unfold trOp; rw [hk1]; rfl
    have hmo : trMost c f = f.b := by unfold trMost; rw [hk3]; rfl
    rw [hmo] at hM
    rw [hop'] at hop HE
    have HO := Lib.hid hop
    have HM := Lib.hid hM
    clear hop hop' hmo hM
    cases e0 : (E == 0)
    · go_enter Tryz.func30, Tryz.ntmps30
      go_wp2_with (first | (go_at_call 52; refine (opCheckR_any c ⟨f.kind, f.a, f.b, f.y⟩ HO.out _).mono ?_; rintro e w1 ⟨rfl, os1, n1, rfl⟩; rw [HE.out]) | (go_at_call 53; refine (there12_any f.kind f.pc HF.out.kind HF.out.pc _).mono ?_; rintro e w2 ⟨rfl, rfl⟩; rw [HTT.out]))
      go_ret
      refine ⟨ret_bool ?_, EX⟩
      rw [HM.out, e0]
      rfl
    · obtain rfl : E = 0 := by simpa using e0
      cases T
      · go_enter Tryz.func30, Tryz.ntmps30
        go_wp2_with (first | (go_at_call 52; refine (opCheckR_any c ⟨f.kind, f.a, f.b, f.y⟩ HO.out _).mono ?_; rintro e w1 ⟨rfl, os1, n1, rfl⟩; rw [HE.out]) | (go_at_call 53; refine (there12_any f.kind f.pc HF.out.kind HF.out.pc _).mono ?_; rintro e w2 ⟨rfl, rfl⟩; rw [HTT.out]))
        go_ret
        refine ⟨ret_bool ?_, EX⟩
        rw [HM.out]
        rfl
      · cases hh : decide (f.h ≤ f.b)
        · have HH := Lib.hid hh
          go_enter Tryz.func30, Tryz.ntmps30
          go_wp2_with (first | (go_at_call 52; refine (opCheckR_any c ⟨f.kind, f.a, f.b, f.y⟩ HO.out _).mono ?_; rintro e w1 ⟨rfl, os1, n1, rfl⟩; rw [HE.out]) | (go_at_call 53; refine (there12_any f.kind f.pc HF.out.kind HF.out.pc _).mono ?_; rintro e w2 ⟨rfl, rfl⟩; rw [HTT.out]))
          go_ret
          refine ⟨ret_bool ?_, EX⟩
          rw [HM.out, HH.out]
          rfl
        · have HH := Lib.hid hh
          go_enter Tryz.func30, Tryz.ntmps30
          go_wp2_with (first | (go_at_call 52; refine (opCheckR_any c ⟨f.kind, f.a, f.b, f.y⟩ HO.out _).mono ?_; rintro e w1 ⟨rfl, os1, n1, rfl⟩; rw [HE.out]) | (go_at_call 53; refine (there12_any f.kind f.pc HF.out.kind HF.out.pc _).mono ?_; rintro e w2 ⟨rfl, rfl⟩; rw [HTT.out]))
          go_ret
          refine ⟨ret_bool ?_, EX⟩
          rw [HM.out, HH.out]
          rfl

theorem trNextR_any (c : Cfg) (f : Frm) (hf : f.Fits) (w : World) : Calls Tryz.prog 12 #[c.v, f.v] w
    fun e w' => e = .returned (.tuple #[(trNextA c f).v, .int .i64 (trErr c f)]) ∧ Ext w w' := by
  have HF := Lib.hid hf
  clear hf
  cases hp : partOk c
  · have HG := Lib.hid (trErr_conf (f := f) hp)
    have HN : Hid (trNextA c f = zeroAct) := Lib.hid (by simp [trNextA, HG.out])
    have HC := Lib.hid hp
    clear hp
    go_enter Tryz.func12, Tryz.ntmps12
    go_wp2_with (go_at_call 11; refine (mayBe_any c _).mono ?_; rintro e w1 ⟨rfl, os1, n1, rfl⟩; rw [HC.out])
    (refine bodyPost_ret (v := .tuple #[(zeroAct).v, .int .i64 40]) (by simp [results, Tryz.results12, go_sem]) rfl ?_)
    exact ⟨by rw [HN.out, HG.out], EX⟩
  · have HC := Lib.hid hp
    cases h2 : (c.object == 1)
    · have HG := Lib.hid (trErr_obj (f := f) h2)
      have HN : Hid (trNextA c f = zeroAct) := Lib.hid (by simp [trNextA, HG.out])
      clear hp
      go_enter Tryz.func12, Tryz.ntmps12
      go_wp2_with (go_at_call 11; refine (mayBe_any c _).mono ?_; rintro e w1 ⟨rfl, os1, n1, rfl⟩; rw [HC.out])
      (refine bodyPost_ret (v := .tuple #[(zeroAct).v, .int .i64 40]) (by simp [results, Tryz.results12, go_sem]) rfl ?_)
      exact ⟨by rw [HN.out, HG.out], EX⟩
    · have HOB : Hid (c.object = 1) := Lib.hid (by simpa using h2)
      cases h3 : trMay c f
      · have HG := Lib.hid (trErr_arg hp h2 h3)
        have HN : Hid (trNextA c f = zeroAct) := Lib.hid (by simp [trNextA, HG.out])
        have HM := Lib.hid h3
        clear hp h3
        go_enter Tryz.func12, Tryz.ntmps12
        go_wp2_with (first | (go_at_call 11; refine (mayBe_any c _).mono ?_; rintro e w1 ⟨rfl, os1, n1, rfl⟩; rw [HC.out]) | (go_at_call 30; refine (trMayR_any c f HF.out HOB.out _).mono ?_; rintro e w2 ⟨rfl, os2, n2, rfl⟩; rw [HM.out]))
        (refine bodyPost_ret (v := .tuple #[(zeroAct).v, .int .i64 2]) (by simp [results, Tryz.results12, go_sem]) rfl ?_)
        exact ⟨by rw [HN.out, HG.out], EX⟩
      · have HG := Lib.hid (trErr_yes hp h2 h3)
        have HN : Hid (trNextA c f = trStep c f) := Lib.hid (by simp [trNextA, HG.out])
        have HM := Lib.hid h3
        have HTF := Lib.hid (trMay_facts HF.out HOB.out h3)
        clear hp h3
        go_enter Tryz.func12, Tryz.ntmps12
        go_wp2_with (first | (go_at_call 11; refine (mayBe_any c _).mono ?_; rintro e w1 ⟨rfl, os1, n1, rfl⟩; rw [HC.out]) | (go_at_call 30; refine (trMayR_any c f HF.out HOB.out _).mono ?_; rintro e w2 ⟨rfl, os2, n2, rfl⟩; rw [HM.out]) | (go_at_call 31; refine (trStepR_any c f HF.out HTF.out _).mono ?_; rintro e w3 ⟨rfl, os3, n3, rfl⟩))
        (refine bodyPost_ret (v := .tuple #[(trStep c f).v, .int .i64 0]) (by simp [results, Tryz.results12, go_sem]) rfl ?_)
        exact ⟨by rw [HN.out, HG.out], EX⟩
end Go.Proofs.YtmhmaifmendebaaGreatDoor.trie
