/- The walks of the reference of layer 'trie': Step, May, Next. -/
import Derived.Test.YtpaplhkjaniafaaDoorTrR1
namespace Go.Proofs.YtpaplhkjaniafaaDoor
open Go Go.RowKit

theorem aboveR_int (n k : Int) (hn : 0 ≤ n ∧ n ≤ 127) (hk : 0 ≤ k ∧ k ≤ 6) (w : World) : Calls Tryd.prog 51 #[.int .i64 n, .int .i64 k] w
    fun e w' => e = .returned (.int .i64 (n / 2 ^ k.toNat)) ∧ w = w' := by
  obtain ⟨K, rfl⟩ := Int.eq_ofNat_of_zero_le hk.1
  exact aboveR_any n K hn (by omega) w

theorem tr_pc {c : Cfg} {f : Frm} (hf : f.Fits) (h : TrFacts c f) : f.pc = 0 ∨ f.pc = 1 ∨ f.pc = 2 ∨ f.pc = 3 ∨ f.pc = 5 ∨ f.pc = 6 ∨ f.pc = 7 ∨ f.pc = 8 := by
  have h1 := h.there
  have h2 := h.kind
  have h3 := hf.pc
  rcases h2 with hk | hk | hk <;> simp [trThere, hk] at h1 <;> omega
set_option maxRecDepth 100000 in
set_option maxHeartbeats 8000000 in
theorem trStepR_any (c : Cfg) (f : Frm) (hf : f.Fits) (ht : TrFacts c f) (w : World) : Calls Tryd.prog 27 #[c.v, f.v] w
    fun e w' => e = .returned (trStep c f).v ∧ Ext w w' := by
  have HF := Lib.hid hf
  obtain ⟨B, hB⟩ : ∃ B : Nat, trMost c f = B := ⟨(trMost c f).toNat, by have := ht.most; omega⟩
  have hmost := ht.most
  have hh := ht.h
  have ha := ht.a
  have hpc := tr_pc hf ht
  rw [hB] at hmost hh ha
  simp only [Int.toNat_natCast] at ha
  have HBB : Hid (trMost c f = B ∧ B ≤ 6 ∧ f.a < 2 ^ B) := Lib.hid ⟨hB, by omega, ha⟩
  have hp6 := pow_le6 B (by omega)
  obtain ⟨M, hM⟩ : ∃ M, trM c f = M := ⟨_, rfl⟩
  have hMb : 0 ≤ M ∧ M ≤ 127 := by have := hf.a; rw [← hM, trM, hB]; simp only [Int.toNat_natCast]; omega
  obtain ⟨D, hD⟩ : ∃ D, M / 2 ^ ((B : Int) - f.h).toNat = D := ⟨_, rfl⟩
  have hDD : trD c f = D := by rw [trD, hM, hB]; exact hD
  have HMM := Lib.hid hM
  have HDD := Lib.hid hD
  have hB6 : B ≤ 6 := by omega
  obtain ⟨⟨k0, k1⟩, ⟨a0, a1⟩, ⟨b0, b1⟩, ⟨p0, p1⟩, ⟨i0, i1⟩, ⟨j0, j1⟩, ⟨m0, m1⟩, ⟨q0, q1⟩, ⟨h0, h1⟩, ⟨x0, x1⟩, ⟨y0, y1⟩⟩ := hf
  clear hB ht ha hp6 hD
  rcases hpc with hp | hp | hp | hp | hp | hp | hp | hp
  · have hp' : (f.pc == 0) = true := by simpa using hp
    cases k3 : (f.kind == 3)
    · skip
      have HS : Hid (trStep c f = ⟨1, M, 0, 0, 0, 0, 0⟩) := Lib.hid (by simp only [trStep, hp, hM, hDD, k3]; rfl)
      clear hp hM hDD
      go_enter Tryd.func27, Tryd.ntmps27
      go_wp2_with (first | (go_at_call 50; refine (wholeR_any c f HF.out B HBB.out.1 HBB.out.2.1 HBB.out.2.2 _).mono ?_; rintro e w1 ⟨rfl, os1, n1, rfl⟩; rw [HMM.out]) | (go_at_call 51; refine (aboveR_int M (B - f.h) (by omega) (by omega) _).mono ?_; rintro e w2 ⟨rfl, rfl⟩; rw [HDD.out]))
      (refine bodyPost_ret (v := (trStep c f).v) (by rw [HS.out]; simp [results, Tryd.results27, go_sem]) rfl ⟨rfl, (by repeat (first | with_reducible exact Ext.refl _ | with_reducible assumption | with_reducible refine Ext.alloc ?_ _ | with_reducible refine Ext.gr ?_ _ | with_reducible refine Ext.drewN ?_ _ | with_reducible refine Ext.drew ?_ | with_reducible refine Ext.setCell ?_ ?_ _ | with_reducible refine Ext.more ?_ _ _ | (show _ ≤ _; dsimp only; omega)))⟩)
    · skip
      have HS : Hid (trStep c f = ⟨1, D, 0, 0, 0, 0, 0⟩) := Lib.hid (by simp only [trStep, hp, hM, hDD, k3]; rfl)
      clear hp hM hDD
      go_enter Tryd.func27, Tryd.ntmps27
      go_wp2_with (first | (go_at_call 50; refine (wholeR_any c f HF.out B HBB.out.1 HBB.out.2.1 HBB.out.2.2 _).mono ?_; rintro e w1 ⟨rfl, os1, n1, rfl⟩; rw [HMM.out]) | (go_at_call 51; refine (aboveR_int M (B - f.h) (by omega) (by omega) _).mono ?_; rintro e w2 ⟨rfl, rfl⟩; rw [HDD.out]))
      (refine bodyPost_ret (v := (trStep c f).v) (by rw [HS.out]; simp [results, Tryd.results27, go_sem]) rfl ⟨rfl, (by repeat (first | with_reducible exact Ext.refl _ | with_reducible assumption | with_reducible refine Ext.alloc ?_ _ | with_reducible refine Ext.gr ?_ _ | with_reducible refine Ext.drewN ?_ _ | with_reducible refine Ext.drew ?_ | with_reducible refine Ext.setCell ?_ ?_ _ | with_reducible refine Ext.more ?_ _ _ | (show _ ≤ _; dsimp only; omega)))⟩)
  · have hp' : (f.pc == 1) = true := by simpa using hp
    have HS : Hid (trStep c f = ⟨1, 1, 0, 0, 0, 0, 0⟩) := Lib.hid (by simp only [trStep, hp, hM, hDD]; rfl)
    clear hp hM hDD
    go_enter Tryd.func27, Tryd.ntmps27
    go_wp2_with (first | (go_at_call 50; refine (wholeR_any c f HF.out B HBB.out.1 HBB.out.2.1 HBB.out.2.2 _).mono ?_; rintro e w1 ⟨rfl, os1, n1, rfl⟩; rw [HMM.out]) | (go_at_call 51; refine (aboveR_int M (B - f.h) (by omega) (by omega) _).mono ?_; rintro e w2 ⟨rfl, rfl⟩; rw [HDD.out]))
    (refine bodyPost_ret (v := (trStep c f).v) (by rw [HS.out]; simp [results, Tryd.results27, go_sem]) rfl ⟨rfl, (by repeat (first | with_reducible exact Ext.refl _ | with_reducible assumption | with_reducible refine Ext.alloc ?_ _ | with_reducible refine Ext.gr ?_ _ | with_reducible refine Ext.drewN ?_ _ | with_reducible refine Ext.drew ?_ | with_reducible refine Ext.setCell ?_ ?_ _ | with_reducible refine Ext.more ?_ _ _ | (show _ ≤ _; dsimp only; omega)))⟩)
  · have hp' : (f.pc == 2) = true := by simpa using hp
    have HS : Hid (trStep c f = ⟨1, D, 0, 0, 0, 0, 0⟩) := Lib.hid (by simp only [trStep, hp, hM, hDD]; rfl)
    clear hp hM hDD
    go_enter Tryd.func27, Tryd.ntmps27
    go_wp2_with (first | (go_at_call 50; refine (wholeR_any c f HF.out B HBB.out.1 HBB.out.2.1 HBB.out.2.2 _).mono ?_; rintro e w1 ⟨rfl, os1, n1, rfl⟩; rw [HMM.out]) | (go_at_call 51; refine (aboveR_int M (B - f.h) (by omega) (by omega) _).mono ?_; rintro e w2 ⟨rfl, rfl⟩; rw [HDD.out]))
    (refine bodyPost_ret (v := (trStep c f).v) (by rw [HS.out]; simp [results, Tryd.results27, go_sem]) rfl ⟨rfl, (by repeat (first | with_reducible exact Ext.refl _ | with_reducible assumption | with_reducible refine Ext.alloc ?_ _ | with_reducible refine Ext.gr ?_ _ | with_reducible refine Ext.drewN ?_ _ | with_reducible refine Ext.drew ?_ | with_reducible refine Ext.setCell ?_ ?_ _ | with_reducible refine Ext.more ?_ _ _ | (show _ ≤ _; dsimp only; omega)))⟩)
  · have hp' : (f.pc == 3) = true := by simpa using hp
    obtain ⟨K, hK⟩ : ∃ K, (f.n + 1) % 64 = K := ⟨_, rfl⟩
    obtain ⟨L, hL⟩ : ∃ L, (f.n + 63) % 64 = L := ⟨_, rfl⟩
    have hKb : 0 ≤ K ∧ K ≤ 63 := by omega
    have hLb : 0 ≤ L ∧ L ≤ 63 := by omega
    cases z : (f.h == f.b)
    · cases k2 : (f.kind == 2)
      · skip
        have HS : Hid (trStep c f = ⟨2, D, f.x, K, 0, 0, 0⟩) := Lib.hid (by simp only [trStep, hp, hM, hDD, z, k2, hK]; rfl)
        clear hp hM hDD
        go_enter Tryd.func27, Tryd.ntmps27
        go_wp2_with (first | (go_at_call 50; refine (wholeR_any c f HF.out B HBB.out.1 HBB.out.2.1 HBB.out.2.2 _).mono ?_; rintro e w1 ⟨rfl, os1, n1, rfl⟩; rw [HMM.out]) | (go_at_call 51; refine (aboveR_int M (B - f.h) (by omega) (by omega) _).mono ?_; rintro e w2 ⟨rfl, rfl⟩; rw [HDD.out]))
        (refine bodyPost_ret (v := (trStep c f).v) (by rw [HS.out]; simp [results, Tryd.results27, go_sem]) rfl ⟨rfl, (by repeat (first | with_reducible exact Ext.refl _ | with_reducible assumption | with_reducible refine Ext.alloc ?_ _ | with_reducible refine Ext.gr ?_ _ | with_reducible refine Ext.drewN ?_ _ | with_reducible refine Ext.drew ?_ | with_reducible refine Ext.setCell ?_ ?_ _ | with_reducible refine Ext.more ?_ _ _ | (show _ ≤ _; dsimp only; omega)))⟩)
      · skip
        have HS : Hid (trStep c f = ⟨2, D, f.x, L, 0, 0, 0⟩) := Lib.hid (by simp only [trStep, hp, hM, hDD, z, k2, hL]; rfl)
        clear hp hM hDD
        go_enter Tryd.func27, Tryd.ntmps27
        go_wp2_with (first | (go_at_call 50; refine (wholeR_any c f HF.out B HBB.out.1 HBB.out.2.1 HBB.out.2.2 _).mono ?_; rintro e w1 ⟨rfl, os1, n1, rfl⟩; rw [HMM.out]) | (go_at_call 51; refine (aboveR_int M (B - f.h) (by omega) (by omega) _).mono ?_; rintro e w2 ⟨rfl, rfl⟩; rw [HDD.out]))
        (refine bodyPost_ret (v := (trStep c f).v) (by rw [HS.out]; simp [results, Tryd.results27, go_sem]) rfl ⟨rfl, (by repeat (first | with_reducible exact Ext.refl _ | with_reducible assumption | with_reducible refine Ext.alloc ?_ _ | with_reducible refine Ext.gr ?_ _ | with_reducible refine Ext.drewN ?_ _ | with_reducible refine Ext.drew ?_ | with_reducible refine Ext.setCell ?_ ?_ _ | with_reducible refine Ext.more ?_ _ _ | (show _ ≤ _; dsimp only; omega)))⟩)
    · cases k2 : (f.kind == 2)
      · skip
        have HS : Hid (trStep c f = ⟨2, D, f.y + 1, K, 0, 0, 0⟩) := Lib.hid (by simp only [trStep, hp, hM, hDD, z, k2, hK]; rfl)
        clear hp hM hDD
        go_enter Tryd.func27, Tryd.ntmps27
        go_wp2_with (first | (go_at_call 50; refine (wholeR_any c f HF.out B HBB.out.1 HBB.out.2.1 HBB.out.2.2 _).mono ?_; rintro e w1 ⟨rfl, os1, n1, rfl⟩; rw [HMM.out]) | (go_at_call 51; refine (aboveR_int M (B - f.h) (by omega) (by omega) _).mono ?_; rintro e w2 ⟨rfl, rfl⟩; rw [HDD.out]))
        (refine bodyPost_ret (v := (trStep c f).v) (by rw [HS.out]; simp [results, Tryd.results27, go_sem]) rfl ⟨rfl, (by repeat (first | with_reducible exact Ext.refl _ | with_reducible assumption | with_reducible refine Ext.alloc ?_ _ | with_reducible refine Ext.gr ?_ _ | with_reducible refine Ext.drewN ?_ _ | with_reducible refine Ext.drew ?_ | with_reducible refine Ext.setCell ?_ ?_ _ | with_reducible refine Ext.more ?_ _ _ | (show _ ≤ _; dsimp only; omega)))⟩)
      · skip
        have HS : Hid (trStep c f = ⟨2, D, 0, L, 0, 0, 0⟩) := Lib.hid (by simp only [trStep, hp, hM, hDD, z, k2, hL]; rfl)
        clear hp hM hDD
        go_enter Tryd.func27, Tryd.ntmps27
        go_wp2_with (first | (go_at_call 50; refine (wholeR_any c f HF.out B HBB.out.1 HBB.out.2.1 HBB.out.2.2 _).mono ?_; rintro e w1 ⟨rfl, os1, n1, rfl⟩; rw [HMM.out]) | (go_at_call 51; refine (aboveR_int M (B - f.h) (by omega) (by omega) _).mono ?_; rintro e w2 ⟨rfl, rfl⟩; rw [HDD.out]))
        (refine bodyPost_ret (v := (trStep c f).v) (by rw [HS.out]; simp [results, Tryd.results27, go_sem]) rfl ⟨rfl, (by repeat (first | with_reducible exact Ext.refl _ | with_reducible assumption | with_reducible refine Ext.alloc ?_ _ | with_reducible refine Ext.gr ?_ _ | with_reducible refine Ext.drewN ?_ _ | with_reducible refine Ext.drew ?_ | with_reducible refine Ext.setCell ?_ ?_ _ | with_reducible refine Ext.more ?_ _ _ | (show _ ≤ _; dsimp only; omega)))⟩)
  · have hp' : (f.pc == 5) = true := by simpa using hp
    obtain ⟨K, hK⟩ : ∃ K, f.n % 64 = K := ⟨_, rfl⟩
    have hKb : 0 ≤ K ∧ K ≤ 63 := by omega
    have HS : Hid (trStep c f = ⟨2, M, f.y + 1, K, 0, 0, 0⟩) := Lib.hid (by simp only [trStep, hp, hM, hDD, hK]; rfl)
    clear hp hM hDD
    go_enter Tryd.func27, Tryd.ntmps27
    go_wp2_with (first | (go_at_call 50; refine (wholeR_any c f HF.out B HBB.out.1 HBB.out.2.1 HBB.out.2.2 _).mono ?_; rintro e w1 ⟨rfl, os1, n1, rfl⟩; rw [HMM.out]) | (go_at_call 51; refine (aboveR_int M (B - f.h) (by omega) (by omega) _).mono ?_; rintro e w2 ⟨rfl, rfl⟩; rw [HDD.out]))
    (refine bodyPost_ret (v := (trStep c f).v) (by rw [HS.out]; simp [results, Tryd.results27, go_sem]) rfl ⟨rfl, (by repeat (first | with_reducible exact Ext.refl _ | with_reducible assumption | with_reducible refine Ext.alloc ?_ _ | with_reducible refine Ext.gr ?_ _ | with_reducible refine Ext.drewN ?_ _ | with_reducible refine Ext.drew ?_ | with_reducible refine Ext.setCell ?_ ?_ _ | with_reducible refine Ext.more ?_ _ _ | (show _ ≤ _; dsimp only; omega)))⟩)
  · have hp' : (f.pc == 6) = true := by simpa using hp
    have HS : Hid (trStep c f = ⟨4, 0, 0, 0, 0, 0, f.x⟩) := Lib.hid (by simp only [trStep, hp, hM, hDD]; rfl)
    clear hp hM hDD
    go_enter Tryd.func27, Tryd.ntmps27
    go_wp2_with (first | (go_at_call 50; refine (wholeR_any c f HF.out B HBB.out.1 HBB.out.2.1 HBB.out.2.2 _).mono ?_; rintro e w1 ⟨rfl, os1, n1, rfl⟩; rw [HMM.out]) | (go_at_call 51; refine (aboveR_int M (B - f.h) (by omega) (by omega) _).mono ?_; rintro e w2 ⟨rfl, rfl⟩; rw [HDD.out]))
    (refine bodyPost_ret (v := (trStep c f).v) (by rw [HS.out]; simp [results, Tryd.results27, go_sem]) rfl ⟨rfl, (by repeat (first | with_reducible exact Ext.refl _ | with_reducible assumption | with_reducible refine Ext.alloc ?_ _ | with_reducible refine Ext.gr ?_ _ | with_reducible refine Ext.drewN ?_ _ | with_reducible refine Ext.drew ?_ | with_reducible refine Ext.setCell ?_ ?_ _ | with_reducible refine Ext.more ?_ _ _ | (show _ ≤ _; dsimp only; omega)))⟩)
  · have hp' : (f.pc == 7) = true := by simpa using hp
    have HS : Hid (trStep c f = ⟨4, 0, 0, 0, 0, 9, 0⟩) := Lib.hid (by simp only [trStep, hp, hM, hDD]; rfl)
    clear hp hM hDD
    go_enter Tryd.func27, Tryd.ntmps27
    go_wp2_with (first | (go_at_call 50; refine (wholeR_any c f HF.out B HBB.out.1 HBB.out.2.1 HBB.out.2.2 _).mono ?_; rintro e w1 ⟨rfl, os1, n1, rfl⟩; rw [HMM.out]) | (go_at_call 51; refine (aboveR_int M (B - f.h) (by omega) (by omega) _).mono ?_; rintro e w2 ⟨rfl, rfl⟩; rw [HDD.out]))
    (refine bodyPost_ret (v := (trStep c f).v) (by rw [HS.out]; simp [results, Tryd.results27, go_sem]) rfl ⟨rfl, (by repeat (first | with_reducible exact Ext.refl _ | with_reducible assumption | with_reducible refine Ext.alloc ?_ _ | with_reducible refine Ext.gr ?_ _ | with_reducible refine Ext.drewN ?_ _ | with_reducible refine Ext.drew ?_ | with_reducible refine Ext.setCell ?_ ?_ _ | with_reducible refine Ext.more ?_ _ _ | (show _ ≤ _; dsimp only; omega)))⟩)
  · have hp' : (f.pc == 8) = true := by simpa using hp
    have HS : Hid (trStep c f = ⟨4, 0, 0, 0, 0, 6, 0⟩) := Lib.hid (by simp only [trStep, hp, hM, hDD]; rfl)
    clear hp hM hDD
    go_enter Tryd.func27, Tryd.ntmps27
    go_wp2_with (first | (go_at_call 50; refine (wholeR_any c f HF.out B HBB.out.1 HBB.out.2.1 HBB.out.2.2 _).mono ?_; rintro e w1 ⟨rfl, os1, n1, rfl⟩; rw [HMM.out]) | (go_at_call 51; refine (aboveR_int M (B - f.h) (by omega) (by omega) _).mono ?_; rintro e w2 ⟨rfl, rfl⟩; rw [HDD.out]))
    (refine bodyPost_ret (v := (trStep c f).v) (by rw [HS.out]; simp [results, Tryd.results27, go_sem]) rfl ⟨rfl, (by repeat (first | with_reducible exact Ext.refl _ | with_reducible assumption | with_reducible refine Ext.alloc ?_ _ | with_reducible refine Ext.gr ?_ _ | with_reducible refine Ext.drewN ?_ _ | with_reducible refine Ext.drew ?_ | with_reducible refine Ext.setCell ?_ ?_ _ | with_reducible refine Ext.more ?_ _ _ | (show _ ≤ _; dsimp only; omega)))⟩)

set_option maxRecDepth 100000 in
set_option maxHeartbeats 8000000 in
theorem trMayR_any (c : Cfg) (f : Frm) (hf : f.Fits) (ho : c.object = 1) (w : World) : Calls Tryd.prog 26 #[c.v, f.v] w
    fun e w' => e = .returned (.bool (trMay c f)) ∧ Ext w w' := by
  have HF := Lib.hid hf
  have hop := trOp_fits hf
  have HB : Hid (opErr c (trOp f) = 0 → 1 ≤ c.bits ∧ c.bits ≤ 6) := Lib.hid fun h => (opErr_facts hf ho h).2.2.2.2
  obtain ⟨E, hE⟩ : ∃ E, opErr c (trOp f) = E := ⟨_, rfl⟩
  obtain ⟨T, hT⟩ : ∃ T, trThere f.kind f.pc = T := ⟨_, rfl⟩
  have hM : trMay c f = (E == 0 && T && decide (f.h ≤ trMost c f)) := by rw [← hE, ← hT]; rfl
  have HE := Lib.hid hE
  have HTT := Lib.hid hT
  have HB : Hid (E = 0 → 1 ≤ c.bits ∧ c.bits ≤ 6) := Lib.hid (by rw [← hE]; exact HB.out)
  obtain ⟨⟨k0, k1⟩, ⟨a0, a1⟩, ⟨b0, b1⟩, ⟨p0, p1⟩, ⟨i0, i1⟩, ⟨j0, j1⟩, ⟨m0, m1⟩, ⟨q0, q1⟩, ⟨h0, h1⟩, ⟨x0, x1⟩, ⟨y0, y1⟩⟩ := hf
  clear hE hT ho
  cases hk1 : (f.kind == 1)
  · cases hk3 : (f.kind == 3)
    · skip
      have hop' : trOp f = ⟨f.kind, f.a, f.b, 0⟩ := by unfold trOp; rw [hk1]; rfl
      have hmo : trMost c f = f.b := by unfold trMost; rw [hk3]; rfl
      rw [hmo] at hM
      rw [hop'] at hop HE
      have HO := Lib.hid hop
      have HM := Lib.hid hM
      clear hop hop' hmo hM
      cases e0 : (E == 0)
      · go_enter Tryd.func26, Tryd.ntmps26
        go_wp2_with (first | (go_at_call 48; refine (opCheckR_any c ⟨f.kind, f.a, f.b, 0⟩ HO.out _).mono ?_; rintro e w1 ⟨rfl, os1, n1, rfl⟩; rw [HE.out]) | (go_at_call 49; refine (there12_any f.kind f.pc HF.out.kind HF.out.pc _).mono ?_; rintro e w2 ⟨rfl, rfl⟩; rw [HTT.out]))
        go_ret
        refine ⟨ret_bool ?_, (by repeat (first | with_reducible exact Ext.refl _ | with_reducible assumption | with_reducible refine Ext.alloc ?_ _ | with_reducible refine Ext.gr ?_ _ | with_reducible refine Ext.drewN ?_ _ | with_reducible refine Ext.drew ?_ | with_reducible refine Ext.setCell ?_ ?_ _ | with_reducible refine Ext.more ?_ _ _ | (show _ ≤ _; dsimp only; omega)))⟩
        rw [HM.out, e0]
        rfl
      · obtain rfl : E = 0 := by simpa using e0
        cases T
        · go_enter Tryd.func26, Tryd.ntmps26
          go_wp2_with (first | (go_at_call 48; refine (opCheckR_any c ⟨f.kind, f.a, f.b, 0⟩ HO.out _).mono ?_; rintro e w1 ⟨rfl, os1, n1, rfl⟩; rw [HE.out]) | (go_at_call 49; refine (there12_any f.kind f.pc HF.out.kind HF.out.pc _).mono ?_; rintro e w2 ⟨rfl, rfl⟩; rw [HTT.out]))
          go_ret
          refine ⟨ret_bool ?_, (by repeat (first | with_reducible exact Ext.refl _ | with_reducible assumption | with_reducible refine Ext.alloc ?_ _ | with_reducible refine Ext.gr ?_ _ | with_reducible refine Ext.drewN ?_ _ | with_reducible refine Ext.drew ?_ | with_reducible refine Ext.setCell ?_ ?_ _ | with_reducible refine Ext.more ?_ _ _ | (show _ ≤ _; dsimp only; omega)))⟩
          rw [HM.out]
          rfl
        · cases hh : decide (f.h ≤ f.b)
          · have HH := Lib.hid hh
            go_enter Tryd.func26, Tryd.ntmps26
            go_wp2_with (first | (go_at_call 48; refine (opCheckR_any c ⟨f.kind, f.a, f.b, 0⟩ HO.out _).mono ?_; rintro e w1 ⟨rfl, os1, n1, rfl⟩; rw [HE.out]) | (go_at_call 49; refine (there12_any f.kind f.pc HF.out.kind HF.out.pc _).mono ?_; rintro e w2 ⟨rfl, rfl⟩; rw [HTT.out]))
            go_ret
            refine ⟨ret_bool ?_, (by repeat (first | with_reducible exact Ext.refl _ | with_reducible assumption | with_reducible refine Ext.alloc ?_ _ | with_reducible refine Ext.gr ?_ _ | with_reducible refine Ext.drewN ?_ _ | with_reducible refine Ext.drew ?_ | with_reducible refine Ext.setCell ?_ ?_ _ | with_reducible refine Ext.more ?_ _ _ | (show _ ≤ _; dsimp only; omega)))⟩
            rw [HM.out, HH.out]
            rfl
          · have HH := Lib.hid hh
            go_enter Tryd.func26, Tryd.ntmps26
            go_wp2_with (first | (go_at_call 48; refine (opCheckR_any c ⟨f.kind, f.a, f.b, 0⟩ HO.out _).mono ?_; rintro e w1 ⟨rfl, os1, n1, rfl⟩; rw [HE.out]) | (go_at_call 49; refine (there12_any f.kind f.pc HF.out.kind HF.out.pc _).mono ?_; rintro e w2 ⟨rfl, rfl⟩; rw [HTT.out]))
            go_ret
            refine ⟨ret_bool ?_, (by repeat (first | with_reducible exact Ext.refl _ | with_reducible assumption | with_reducible refine Ext.alloc ?_ _ | with_reducible refine Ext.gr ?_ _ | with_reducible refine Ext.drewN ?_ _ | with_reducible refine Ext.drew ?_ | with_reducible refine Ext.setCell ?_ ?_ _ | with_reducible refine Ext.more ?_ _ _ | (show _ ≤ _; dsimp only; omega)))⟩
            rw [HM.out, HH.out]
            rfl
    · skip
      have hop' : trOp f = ⟨f.kind, f.a, f.b, 0⟩ := by unfold trOp; rw [hk1]; rfl
      have hmo : trMost c f = c.bits := by unfold trMost; rw [hk3]; rfl
      rw [hmo] at hM
      rw [hop'] at hop HE
      have HO := Lib.hid hop
      have HM := Lib.hid hM
      clear hop hop' hmo hM
      cases e0 : (E == 0)
      · go_enter Tryd.func26, Tryd.ntmps26
        go_wp2_with (first | (go_at_call 48; refine (opCheckR_any c ⟨f.kind, f.a, f.b, 0⟩ HO.out _).mono ?_; rintro e w1 ⟨rfl, os1, n1, rfl⟩; rw [HE.out]) | (go_at_call 49; refine (there12_any f.kind f.pc HF.out.kind HF.out.pc _).mono ?_; rintro e w2 ⟨rfl, rfl⟩; rw [HTT.out]))
        go_ret
        refine ⟨ret_bool ?_, (by repeat (first | with_reducible exact Ext.refl _ | with_reducible assumption | with_reducible refine Ext.alloc ?_ _ | with_reducible refine Ext.gr ?_ _ | with_reducible refine Ext.drewN ?_ _ | with_reducible refine Ext.drew ?_ | with_reducible refine Ext.setCell ?_ ?_ _ | with_reducible refine Ext.more ?_ _ _ | (show _ ≤ _; dsimp only; omega)))⟩
        rw [HM.out, e0]
        rfl
      · obtain rfl : E = 0 := by simpa using e0
        obtain ⟨cb0, cb1⟩ := HB.out rfl
        have hwb : IntKind.u32.wrap c.bits = c.bits := by rw [IntKind.wrap_u32]; omega
        cases T
        · go_enter Tryd.func26, Tryd.ntmps26
          go_wp2_with (first | (go_at_call 48; refine (opCheckR_any c ⟨f.kind, f.a, f.b, 0⟩ HO.out _).mono ?_; rintro e w1 ⟨rfl, os1, n1, rfl⟩; rw [HE.out]) | (go_at_call 49; refine (there12_any f.kind f.pc HF.out.kind HF.out.pc _).mono ?_; rintro e w2 ⟨rfl, rfl⟩; rw [HTT.out]))
          go_ret
          refine ⟨ret_bool ?_, (by repeat (first | with_reducible exact Ext.refl _ | with_reducible assumption | with_reducible refine Ext.alloc ?_ _ | with_reducible refine Ext.gr ?_ _ | with_reducible refine Ext.drewN ?_ _ | with_reducible refine Ext.drew ?_ | with_reducible refine Ext.setCell ?_ ?_ _ | with_reducible refine Ext.more ?_ _ _ | (show _ ≤ _; dsimp only; omega)))⟩
          rw [HM.out]
          rfl
        · cases hh : decide (f.h ≤ c.bits)
          · have HH := Lib.hid hh
            go_enter Tryd.func26, Tryd.ntmps26
            go_wp2_with (first | (go_at_call 48; refine (opCheckR_any c ⟨f.kind, f.a, f.b, 0⟩ HO.out _).mono ?_; rintro e w1 ⟨rfl, os1, n1, rfl⟩; rw [HE.out]) | (go_at_call 49; refine (there12_any f.kind f.pc HF.out.kind HF.out.pc _).mono ?_; rintro e w2 ⟨rfl, rfl⟩; rw [HTT.out]))
            go_ret
            refine ⟨ret_bool ?_, (by repeat (first | with_reducible exact Ext.refl _ | with_reducible assumption | with_reducible refine Ext.alloc ?_ _ | with_reducible refine Ext.gr ?_ _ | with_reducible refine Ext.drewN ?_ _ | with_reducible refine Ext.drew ?_ | with_reducible refine Ext.setCell ?_ ?_ _ | with_reducible refine Ext.more ?_ _ _ | (show _ ≤ _; dsimp only; omega)))⟩
            rw [HM.out, HH.out]
            rfl
          · have HH := Lib.hid hh
            go_enter Tryd.func26, Tryd.ntmps26
            go_wp2_with (first | (go_at_call 48; refine (opCheckR_any c ⟨f.kind, f.a, f.b, 0⟩ HO.out _).mono ?_; rintro e w1 ⟨rfl, os1, n1, rfl⟩; rw [HE.out]) | (go_at_call 49; refine (there12_any f.kind f.pc HF.out.kind HF.out.pc _).mono ?_; rintro e w2 ⟨rfl, rfl⟩; rw [HTT.out]))
            go_ret
            refine ⟨ret_bool ?_, (by repeat (first | with_reducible exact Ext.refl _ | with_reducible assumption | with_reducible refine Ext.alloc ?_ _ | with_reducible refine Ext.gr ?_ _ | with_reducible refine Ext.drewN ?_ _ | with_reducible refine Ext.drew ?_ | with_reducible refine Ext.setCell ?_ ?_ _ | with_reducible refine Ext.more ?_ _ _ | (show _ ≤ _; dsimp only; omega)))⟩
            rw [HM.out, HH.out]
            rfl
  · have hk3 : (f.kind == 3) = false := by simp at hk1 ⊢; omega
    have hop' : trOp f = ⟨f.kind, f.a, f.b, f.y⟩ := by unfold trOp; rw [hk1]; rfl
    have hmo : trMost c f = f.b := by unfold trMost; rw [hk3]; rfl
    rw [hmo] at hM
    rw [hop'] at hop HE
    have HO := Lib.hid hop
    have HM := Lib.hid hM
    clear hop hop' hmo hM
    cases e0 : (E == 0)
    · go_enter Tryd.func26, Tryd.ntmps26
      go_wp2_with (first | (go_at_call 48; refine (opCheckR_any c ⟨f.kind, f.a, f.b, f.y⟩ HO.out _).mono ?_; rintro e w1 ⟨rfl, os1, n1, rfl⟩; rw [HE.out]) | (go_at_call 49; refine (there12_any f.kind f.pc HF.out.kind HF.out.pc _).mono ?_; rintro e w2 ⟨rfl, rfl⟩; rw [HTT.out]))
      go_ret
      refine ⟨ret_bool ?_, (by repeat (first | with_reducible exact Ext.refl _ | with_reducible assumption | with_reducible refine Ext.alloc ?_ _ | with_reducible refine Ext.gr ?_ _ | with_reducible refine Ext.drewN ?_ _ | with_reducible refine Ext.drew ?_ | with_reducible refine Ext.setCell ?_ ?_ _ | with_reducible refine Ext.more ?_ _ _ | (show _ ≤ _; dsimp only; omega)))⟩
      rw [HM.out, e0]
      rfl
    · obtain rfl : E = 0 := by simpa using e0
      cases T
      · go_enter Tryd.func26, Tryd.ntmps26
        go_wp2_with (first | (go_at_call 48; refine (opCheckR_any c ⟨f.kind, f.a, f.b, f.y⟩ HO.out _).mono ?_; rintro e w1 ⟨rfl, os1, n1, rfl⟩; rw [HE.out]) | (go_at_call 49; refine (there12_any f.kind f.pc HF.out.kind HF.out.pc _).mono ?_; rintro e w2 ⟨rfl, rfl⟩; rw [HTT.out]))
        go_ret
        refine ⟨ret_bool ?_, (by repeat (first | with_reducible exact Ext.refl _ | with_reducible assumption | with_reducible refine Ext.alloc ?_ _ | with_reducible refine Ext.gr ?_ _ | with_reducible refine Ext.drewN ?_ _ | with_reducible refine Ext.drew ?_ | with_reducible refine Ext.setCell ?_ ?_ _ | with_reducible refine Ext.more ?_ _ _ | (show _ ≤ _; dsimp only; omega)))⟩
        rw [HM.out]
        rfl
      · cases hh : decide (f.h ≤ f.b)
        · have HH := Lib.hid hh
          go_enter Tryd.func26, Tryd.ntmps26
          go_wp2_with (first | (go_at_call 48; refine (opCheckR_any c ⟨f.kind, f.a, f.b, f.y⟩ HO.out _).mono ?_; rintro e w1 ⟨rfl, os1, n1, rfl⟩; rw [HE.out]) | (go_at_call 49; refine (there12_any f.kind f.pc HF.out.kind HF.out.pc _).mono ?_; rintro e w2 ⟨rfl, rfl⟩; rw [HTT.out]))
          go_ret
          refine ⟨ret_bool ?_, (by repeat (first | with_reducible exact Ext.refl _ | with_reducible assumption | with_reducible refine Ext.alloc ?_ _ | with_reducible refine Ext.gr ?_ _ | with_reducible refine Ext.drewN ?_ _ | with_reducible refine Ext.drew ?_ | with_reducible refine Ext.setCell ?_ ?_ _ | with_reducible refine Ext.more ?_ _ _ | (show _ ≤ _; dsimp only; omega)))⟩
          rw [HM.out, HH.out]
          rfl
        · have HH := Lib.hid hh
          go_enter Tryd.func26, Tryd.ntmps26
          go_wp2_with (first | (go_at_call 48; refine (opCheckR_any c ⟨f.kind, f.a, f.b, f.y⟩ HO.out _).mono ?_; rintro e w1 ⟨rfl, os1, n1, rfl⟩; rw [HE.out]) | (go_at_call 49; refine (there12_any f.kind f.pc HF.out.kind HF.out.pc _).mono ?_; rintro e w2 ⟨rfl, rfl⟩; rw [HTT.out]))
          go_ret
          refine ⟨ret_bool ?_, (by repeat (first | with_reducible exact Ext.refl _ | with_reducible assumption | with_reducible refine Ext.alloc ?_ _ | with_reducible refine Ext.gr ?_ _ | with_reducible refine Ext.drewN ?_ _ | with_reducible refine Ext.drew ?_ | with_reducible refine Ext.setCell ?_ ?_ _ | with_reducible refine Ext.more ?_ _ _ | (show _ ≤ _; dsimp only; omega)))⟩
          rw [HM.out, HH.out]
          rfl

set_option maxRecDepth 100000 in
set_option maxHeartbeats 4000000 in
theorem trNextR_any (c : Cfg) (f : Frm) (hf : f.Fits) (w : World) : Calls Tryd.prog 9 #[c.v, f.v] w
    fun e w' => e = .returned (.tuple #[(trNextA c f).v, .int .i64 (trErr c f)]) ∧ Ext w w' := by
  have HF := Lib.hid hf
  clear hf
  cases hp : partOk c
  · have HG := Lib.hid (trErr_conf (f := f) hp)
    have HN : Hid (trNextA c f = zeroAct) := Lib.hid (by simp [trNextA, HG.out])
    have HC := Lib.hid hp
    clear hp
    go_enter Tryd.func9, Tryd.ntmps9
    go_wp2_with (go_at_call 25; refine (mayBe_any c _).mono ?_; rintro e w1 ⟨rfl, os1, n1, rfl⟩; rw [HC.out])
    (refine bodyPost_ret (v := .tuple #[(zeroAct).v, .int .i64 40]) (by simp [results, Tryd.results9, go_sem]) rfl ?_)
    exact ⟨by rw [HN.out, HG.out], (by repeat (first | with_reducible exact Ext.refl _ | with_reducible assumption | with_reducible refine Ext.alloc ?_ _ | with_reducible refine Ext.gr ?_ _ | with_reducible refine Ext.drewN ?_ _ | with_reducible refine Ext.drew ?_ | with_reducible refine Ext.setCell ?_ ?_ _ | with_reducible refine Ext.more ?_ _ _ | (show _ ≤ _; dsimp only; omega)))⟩
  · have HC := Lib.hid hp
    cases h2 : (c.object == 1)
    · have HG := Lib.hid (trErr_obj (f := f) h2)
      have HN : Hid (trNextA c f = zeroAct) := Lib.hid (by simp [trNextA, HG.out])
      clear hp
      go_enter Tryd.func9, Tryd.ntmps9
      go_wp2_with (go_at_call 25; refine (mayBe_any c _).mono ?_; rintro e w1 ⟨rfl, os1, n1, rfl⟩; rw [HC.out])
      (refine bodyPost_ret (v := .tuple #[(zeroAct).v, .int .i64 40]) (by simp [results, Tryd.results9, go_sem]) rfl ?_)
      exact ⟨by rw [HN.out, HG.out], (by repeat (first | with_reducible exact Ext.refl _ | with_reducible assumption | with_reducible refine Ext.alloc ?_ _ | with_reducible refine Ext.gr ?_ _ | with_reducible refine Ext.drewN ?_ _ | with_reducible refine Ext.drew ?_ | with_reducible refine Ext.setCell ?_ ?_ _ | with_reducible refine Ext.more ?_ _ _ | (show _ ≤ _; dsimp only; omega)))⟩
    · have HOB : Hid (c.object = 1) := Lib.hid (by simpa using h2)
      cases h3 : trMay c f
      · have HG := Lib.hid (trErr_arg hp h2 h3)
        have HN : Hid (trNextA c f = zeroAct) := Lib.hid (by simp [trNextA, HG.out])
        have HM := Lib.hid h3
        clear hp h3
        go_enter Tryd.func9, Tryd.ntmps9
        go_wp2_with (first | (go_at_call 25; refine (mayBe_any c _).mono ?_; rintro e w1 ⟨rfl, os1, n1, rfl⟩; rw [HC.out]) | (go_at_call 26; refine (trMayR_any c f HF.out HOB.out _).mono ?_; rintro e w2 ⟨rfl, os2, n2, rfl⟩; rw [HM.out]))
        (refine bodyPost_ret (v := .tuple #[(zeroAct).v, .int .i64 2]) (by simp [results, Tryd.results9, go_sem]) rfl ?_)
        exact ⟨by rw [HN.out, HG.out], (by repeat (first | with_reducible exact Ext.refl _ | with_reducible assumption | with_reducible refine Ext.alloc ?_ _ | with_reducible refine Ext.gr ?_ _ | with_reducible refine Ext.drewN ?_ _ | with_reducible refine Ext.drew ?_ | with_reducible refine Ext.setCell ?_ ?_ _ | with_reducible refine Ext.more ?_ _ _ | (show _ ≤ _; dsimp only; omega)))⟩
      · have HG := Lib.hid (trErr_yes hp h2 h3)
        have HN : Hid (trNextA c f = trStep c f) := Lib.hid (by simp [trNextA, HG.out])
        have HM := Lib.hid h3
        have HTF := Lib.hid (trMay_facts HF.out HOB.out h3)
        clear hp h3
        go_enter Tryd.func9, Tryd.ntmps9
        go_wp2_with (first | (go_at_call 25; refine (mayBe_any c _).mono ?_; rintro e w1 ⟨rfl, os1, n1, rfl⟩; rw [HC.out]) | (go_at_call 26; refine (trMayR_any c f HF.out HOB.out _).mono ?_; rintro e w2 ⟨rfl, os2, n2, rfl⟩; rw [HM.out]) | (go_at_call 27; refine (trStepR_any c f HF.out HTF.out _).mono ?_; rintro e w3 ⟨rfl, os3, n3, rfl⟩))
        (refine bodyPost_ret (v := .tuple #[(trStep c f).v, .int .i64 0]) (by simp [results, Tryd.results9, go_sem]) rfl ?_)
        exact ⟨by rw [HN.out, HG.out], (by repeat (first | with_reducible exact Ext.refl _ | with_reducible assumption | with_reducible refine Ext.alloc ?_ _ | with_reducible refine Ext.gr ?_ _ | with_reducible refine Ext.drewN ?_ _ | with_reducible refine Ext.drew ?_ | with_reducible refine Ext.setCell ?_ ?_ _ | with_reducible refine Ext.more ?_ _ _ | (show _ ≤ _; dsimp only; omega)))⟩
end Go.Proofs.YtpaplhkjaniafaaDoor
