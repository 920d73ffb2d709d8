/- The walk of the iterator of 'places'. -/
import Derived.Test.YtmbodooikfmegaaDoorJn3
import Derived.Deep.RegionWith
namespace Go.Proofs.YtmbodooikfmegaaDoor
open Go Go.RowKit Go.Shelf

attribute [local go_sem] Oper.semAt_some
set_option maxRecDepth 100000 in
set_option maxHeartbeats 4000000 in
theorem places2_in (q : JB) (w0 : World) (M0 : Nat) (hq : JBok q w0 M0) (hN : q.N ≤ 1000) (hbs : ∀ k, k < q.N → (1 ≤ q.bs k ∧ q.bs k ≤ 32) ∧ (0 ≤ offF q.bs k ∧ offF q.bs k ≤ 64 - q.bs k))
    (l D : Nat) (r d : Obj) (W : World) (hl : M0 ≤ l) (hD : M0 ≤ D) (h0 : Jst q w0 M0 (offF q.bs 0) W) (hk : Kept l D r d W)
    (hY : ∀ (k : Nat) (W1 : World), k < q.N → Jst q w0 M0 (offF q.bs (k + 1)) W1 → Kept l D r d W1 → YieldAt Fence.wide 2 Tryd.prog l #[.int .i64 k, .int .i64 (offF q.bs k)] W1 fun e W' => e = .returned (.bool true) ∧ Jst q w0 M0 (offF q.bs (k + 1)) W' ∧ Kept l D r d W') :
    CallsIn Fence.wide 3 Tryd.prog 90 #[.func (.yield l) #[] #[], .pointer (some ⟨q.bm, 0, none⟩), .pointer (some ⟨q.bn, 0, none⟩), .pointer (some ⟨q.bb, 0, none⟩)] W fun e W' => (∃ v, e = .returned v) ∧ Jst q w0 M0 (offF q.bs q.N) W' ∧ Kept l D r d W' := by
  have HQ := Lib.hid hq
  have HBS := Lib.hid hbs
  have HY := Lib.hid hY
  have H0 := Lib.hid h0
  have HK := Lib.hid hk
  have c1 := h0.many
  have l1 := World.block_lt_of_cell? _ _ c1
  dsimp only at l1
  clear hq hbs hY h0 hk
  refine callsIn_of_wp Tryd.func90 rfl trivial ?_ rfl
  simp only [Tryd.ntmps90, List.size_toArray, List.length_cons, List.length_nil, Nat.reduceAdd, Nat.reduceSub, Array.replicate_succ, Array.replicate_zero, List.push_toArray, List.append_toArray, List.nil_append, List.cons_append]
  gi_wp2
  gi_loopw [8] (fun iv wr => ∃ k : Nat, k ≤ q.N ∧ iv = .int .i64 k ∧ Hid (Jst q w0 M0 (offF q.bs k) wr) ∧ Hid (Kept l D r d wr)) (fun iv _ => q.N - (intOf iv).toNat)
  case atStart => exact ⟨0, Nat.zero_le _, rfl, H0, HK⟩
  case round =>
    obtain ⟨k, hkN, rfl, HS0, HK0⟩ := hrel
    by_cases hlt : k < q.N
    · obtain ⟨A, hA⟩ : ∃ A, offF q.bs k = A := ⟨_, rfl⟩
      obtain ⟨X, hX⟩ : ∃ X, q.bs k = X := ⟨_, rfl⟩
      have hbk := HBS.out k hlt
      have hfd := (HS0.out.fld k hlt).1
      have hak := HS0.out.at'
      rw [hA, hX] at hbk
      rw [hX] at hfd
      rw [hA] at hak
      have HB := Lib.hid hbk.1
      have HA := Lib.hid hbk.2
      have HX := Lib.hid hfd
      have HA1 := Lib.hid hak
      have HA2 := Lib.hid HS0.out.af
      have hoff : offF q.bs (k + 1) = A + X := by rw [offF, hA, hX]
      have HOF := Lib.hid (And.intro hA hoff)
      have f1 := HS0.out.fb
      have f2 := HS0.out.fn
      have l2 := World.block_lt_of_cell? _ _ f1
      have l3 := World.block_lt_of_cell? _ _ f2
      dsimp only at l2 l3
      have hlk : (k : Int) < (q.N : Int) := by omega
      clear hbk hfd hak hA hX hoff
      gi_wp2
      refine wpIn_wide.2 ?_
      go_region_with (first | (go_at_call 79; (with_reducible refine (bits_any k q.bl q.b q.o q.N q.cap X hlt hN _ (by first | exact HS0.out.sl | (simp [go_sem]; exact HS0.out.sl)) (by first | exact HX.out | (simp [go_sem]; exact HX.out))).mono ?_); rintro e w1 ⟨rfl, rfl⟩) | (go_at_call 88; (with_reducible refine (next_any q.ba A X HB.out HA.out _ (by first | exact HA1.out | (simp [go_sem]; exact HA1.out)) (by first | exact HA2.out | (simp [go_sem]; exact HA2.out))).mono ?_); rintro e w1 ⟨rfl, rfl⟩))
      all_goals
        have hba := HQ.out.a.1
        have a0 := HA.out.1
        have hk1 : Kept l D r d (wr.setCell ⟨q.ba, 0, none⟩ (.int .i64 (A + X))) := HK0.out.set _ (by omega) (by omega)
        have hy1 := HY.out k ((wr.setCell ⟨q.ba, 0, none⟩ (.int .i64 (A + X))).drew) hlt (by rw [HOF.out.2]; exact (HS0.out.setA HQ.out _).ext HQ.out (by repeat (first | with_reducible exact Ext.refl _ | with_reducible assumption | with_reducible refine Ext.alloc ?_ _ | with_reducible refine Ext.gr ?_ _ | with_reducible refine Ext.drewN ?_ _ | with_reducible refine Ext.drew ?_ | with_reducible refine Ext.setCell ?_ ?_ _ | with_reducible refine Ext.more ?_ _ _ | (show _ ≤ _; dsimp only; omega)))) (hk1.ext (by repeat (first | with_reducible exact Ext.refl _ | with_reducible assumption | with_reducible refine Ext.alloc ?_ _ | with_reducible refine Ext.gr ?_ _ | with_reducible refine Ext.drewN ?_ _ | with_reducible refine Ext.drew ?_ | with_reducible refine Ext.setCell ?_ ?_ _ | with_reducible refine Ext.more ?_ _ _ | (show _ ≤ _; dsimp only; omega))))
        rw [HOF.out.1] at hy1
        obtain ⟨fn, tmps, assign, body, hy, hR⟩ := hy1
        clear hba hk1
        gi_wp2
        refine hR.mono ?_
        rintro e W3 ⟨rfl, hJ3, hk3⟩
        have HJ3 := Lib.hid hJ3
        have HK3 := Lib.hid hk3
        clear hJ3 hk3
        gi_wp2
        go_roundw
        case rel => exact ⟨k + 1, by omega, by go_num, HJ3, HK3⟩
        case measure => simp [intOf]; omega
    · obtain rfl : k = q.N := by omega
      gi_wp2
      go_end0
      exact ⟨⟨_, rfl⟩, HS0.out, HK0.out⟩
end Go.Proofs.YtmbodooikfmegaaDoor
