/- The walk of 'GateOver'. -/
import Derived.Test.YtaijkpfgnlkppaaDoorGateE
import Derived.Test.YtaijkpfgnlkppaaDoorGateO
namespace Go.Proofs.YtaijkpfgnlkppaaDoor
open Go Go.RowKit

set_option maxRecDepth 100000 in
set_option maxHeartbeats 4000000 in
theorem gateOver_walk (c : Cfg) (L : List Cel) (at' who what : Int) (hL : CelsFit L) (hwho : 0 ≤ who ∧ who ≤ 4294967295) (hwhat : 0 ≤ what ∧ what ≤ 4294967295) (v : Value) (w : World) (ht : Tab w) (hs : Sl w v L.length (celCells L)) :
    Calls Tryd.prog 6 #[c.v, v, .int .i64 at', .int .u32 who, .int .u32 what] w fun e w' => e = .returned (.bool true) ∧ Ext w w' := by
  have HT := Lib.hid ht
  obtain ⟨ad, cap, rfl, hs⟩ := hs
  have HS := Lib.hid hs
  have HL := Lib.hid hL
  have hfit : (chk who what 0 0).Fits := ⟨by simp, hwho, hwhat, by simp, by simp, by simp, by simp, by simp, by simp, by simp, by simp⟩
  have HF := Lib.hid hfit
  clear ht hs hL hfit
  go_enter Tryd.func6, Tryd.ntmps6
  go_upto_region 3 with (go_at_call 14; refine (alive_any _ (Tab.ext HT.out (by repeat (first | with_reducible exact Ext.refl _ | with_reducible assumption | with_reducible refine Ext.alloc ?_ _ | with_reducible refine Ext.gr ?_ _ | with_reducible refine Ext.drewN ?_ _ | with_reducible refine Ext.drew ?_ | with_reducible refine Ext.setCell ?_ ?_ _ | with_reducible refine Ext.more ?_ _ _ | (show _ ≤ _; dsimp only; omega))))).mono ?_; rintro e w1 ⟨rfl, os1, n1, rfl⟩)
  refine wp_gen (fun W => Ext w W ∧ Holds W ([(w.heap.size, 0, .int .u8 c.object), (w.heap.size, 1, .int .i64 c.instances), (w.heap.size, 2, .int .i64 c.threads), (w.heap.size, 3, .int .u8 c.kind), (w.heap.size, 4, .int .i64 c.stripes), (w.heap.size, 5, .int .i64 c.bits), (w.heap.size, 6, .int .i64 c.cap), (w.heap.size, 7, .int .i64 c.node), (w.heap.size, 8, .int .i64 c.batch), (w.heap.size, 9, .int .i64 c.chunk), (w.heap.size, 10, .int .u64 c.limit), (w.heap.size, 11, .int .u64 c.most)] ++ [(w.heap.size + 1 + cnt os1, 0, .int .u8 11), (w.heap.size + 1 + cnt os1, 1, .int .u32 who), (w.heap.size + 1 + cnt os1, 2, .int .u32 what), (w.heap.size + 1 + cnt os1, 3, .int .u32 0)])) ?_ ?_
  · exact ⟨(by repeat (first | with_reducible exact Ext.refl _ | with_reducible assumption | with_reducible refine Ext.alloc ?_ _ | with_reducible refine Ext.gr ?_ _ | with_reducible refine Ext.drewN ?_ _ | with_reducible refine Ext.drew ?_ | with_reducible refine Ext.setCell ?_ ?_ _ | with_reducible refine Ext.more ?_ _ _ | (show _ ≤ _; dsimp only; omega))), Holds.app (by simp [Holds, go_sem]) (by simp [Holds, go_sem])⟩
  intro W HH
  have HW := Lib.hid HH.1
  have HK := Lib.hid HH.2
  clear HH
  obtain ⟨A, hA⟩ : ∃ A, A = gateNextA c (chk who what 0 0) := ⟨_, rfl⟩
  obtain ⟨E, hE⟩ : ∃ E, E = gateErr c (chk who what 0 0) := ⟨_, rfl⟩
  have HA := Lib.hid hA
  have HE := Lib.hid hE
  clear hA hE
  go_cut [13, 14] (fun _ t14 wn => t14 = .int .i64 E ∧ Hid (Ext W wn))
  case first =>
    go_region_held3 (fun W => W.cell? ⟨w.heap.size, 0, none⟩ = some (.int .u8 c.object) ∧ W.cell? ⟨w.heap.size, 1, none⟩ = some (.int .i64 c.instances) ∧ W.cell? ⟨w.heap.size, 2, none⟩ = some (.int .i64 c.threads) ∧ W.cell? ⟨w.heap.size, 3, none⟩ = some (.int .u8 c.kind) ∧ W.cell? ⟨w.heap.size, 4, none⟩ = some (.int .i64 c.stripes) ∧ W.cell? ⟨w.heap.size, 5, none⟩ = some (.int .i64 c.bits) ∧ W.cell? ⟨w.heap.size, 6, none⟩ = some (.int .i64 c.cap) ∧ W.cell? ⟨w.heap.size, 7, none⟩ = some (.int .i64 c.node) ∧ W.cell? ⟨w.heap.size, 8, none⟩ = some (.int .i64 c.batch) ∧ W.cell? ⟨w.heap.size, 9, none⟩ = some (.int .i64 c.chunk) ∧ W.cell? ⟨w.heap.size, 10, none⟩ = some (.int .u64 c.limit) ∧ W.cell? ⟨w.heap.size, 11, none⟩ = some (.int .u64 c.most) ∧ W.cell? ⟨w.heap.size + 1 + cnt os1, 0, none⟩ = some (.int .u8 11) ∧ W.cell? ⟨w.heap.size + 1 + cnt os1, 1, none⟩ = some (.int .u32 who) ∧ W.cell? ⟨w.heap.size + 1 + cnt os1, 2, none⟩ = some (.int .u32 what) ∧ W.cell? ⟨w.heap.size + 1 + cnt os1, 3, none⟩ = some (.int .u32 0))
      (exact HK.out.ext (by (repeat (first | with_reducible exact Ext.refl _ | with_reducible assumption | with_reducible refine Ext.alloc ?_ _ | with_reducible refine Ext.gr ?_ _ | with_reducible refine Ext.drewN ?_ _ | with_reducible refine Ext.drew ?_ | with_reducible refine Ext.setCell ?_ ?_ _ | with_reducible refine Ext.more ?_ _ _ | (show _ ≤ _; dsimp only; omega)))))
      (first | (go_at_call 15; refine (regStart_any ⟨11, who, what, 0⟩ _).mono ?_; rintro e w1 ⟨rfl, x1, y1, rfl⟩) | (go_at_call 9; refine (gateNext_any c (chk who what 0 0) HF.out _ (Tab.ext (Tab.ext HT.out HW.out) (by repeat (first | with_reducible exact Ext.refl _ | with_reducible assumption | with_reducible refine Ext.alloc ?_ _ | with_reducible refine Ext.gr ?_ _ | with_reducible refine Ext.drewN ?_ _ | with_reducible refine Ext.drew ?_ | with_reducible refine Ext.setCell ?_ ?_ _ | with_reducible refine Ext.more ?_ _ _ | (show _ ≤ _; dsimp only; omega))))).mono ?_; rintro e w1 ⟨rfl, os2, n2, rfl⟩; rw [← HA.out, ← HE.out]))
    all_goals
      go_wp2_with fail
      go_meet
      case rel => exact ⟨rfl, Lib.hid (by repeat (first | with_reducible exact Ext.refl _ | with_reducible assumption | with_reducible refine Ext.alloc ?_ _ | with_reducible refine Ext.gr ?_ _ | with_reducible refine Ext.drewN ?_ _ | with_reducible refine Ext.drew ?_ | with_reducible refine Ext.setCell ?_ ?_ _ | with_reducible refine Ext.more ?_ _ _ | (show _ ≤ _; dsimp only; omega)))⟩
  case rest =>
    obtain ⟨rfl, HX⟩ := hcut
    have HW2 := Lib.hid (HW.out.trans HX.out)
    have HK2 := Lib.hid (HK.out.ext HX.out)
    clear HX HK HW
    have hKK := HK2.out
    simp only [Holds, List.cons_append, List.nil_append] at hKK
    by_cases G : L.length ≤ 100 ∧ (L.length : Int) = c.cap ∧ 0 ≤ at' ∧ at' < L.length ∧ E = 0
    · obtain ⟨g1, g2, g3, g4, g5⟩ := G
      have G2 := Lib.hid g2
      subst g5
      obtain ⟨b, o', rfl, hc⟩ := HS.out.pos (by omega)
      have HC := Lib.hid hc
      obtain ⟨k, rfl⟩ : ∃ k : Nat, at' = k := ⟨at'.toNat, by omega⟩
      have hk : k < L.length := by omega
      obtain ⟨l, hl⟩ : ∃ l, l = Cel.mk 0 2 who 0 := ⟨_, rfl⟩
      have hset : (L.set k l).length = L.length := List.length_set
      have hc32 := (partOk_cap (gateErr_ok (c := c) (f := chk who what 0 0) (by rw [← HE.out]; rfl)).1).2
      obtain ⟨q, q1, q2, hR⟩ := over_run (c := c) (who := who) (what := what) (L := L.set k l) HE.out.symm (by rw [hset]; exact g2) (at' := k) (by rw [hset]; exact hk) (by simp [hl]) k 0 0 0 80 (by omega) (by omega)
      have q3 : 1 ≤ q := by omega
      have q4 : q ≤ k + 1 := by omega
      have HR := Lib.hid hR
      have HSET := Lib.hid hset
      have HLL := Lib.hid hl
      clear hc g2 q1 q2 hR hset hl hc32
      obtain ⟨i0, hi, hz0, hz1, hz2⟩ := info_parts info_cel
      have HI := Lib.hid (And.intro hi (And.intro hz0 (And.intro hz1 hz2)))
      clear hi hz0 hz1 hz2
      have hne : ((L.length : Int) == c.cap) = true := by rw [G2.out]; simp
      have hne2 : ((L.length : Int) != c.cap) = false := by rw [G2.out]; simp
      have hki : ((k : Int)).toNat = k := Int.toNat_natCast k
      go_upto_region 8 with (at_builtin; refine wpList_append_copy rfl _ _ 45 rfl 37 i0 _ 4 32 Tryd.underlying45 HI.out.1 HI.out.2.1 HI.out.2.2.1 HI.out.2.2.2 _ rfl b o' L.length cap (celCells L) rfl (celCells_len L) (fun j u hu => ext_cell (Ext.trans HW2.out (by repeat (first | with_reducible exact Ext.refl _ | with_reducible assumption | with_reducible refine Ext.alloc ?_ _ | with_reducible refine Ext.gr ?_ _ | with_reducible refine Ext.drewN ?_ _ | with_reducible refine Ext.drew ?_ | with_reducible refine Ext.setCell ?_ ?_ _ | with_reducible refine Ext.more ?_ _ _ | (show _ ≤ _; dsimp only; omega)))) (HC.out j u hu)) (celCells_one L) (by omega) (by unfold maxLen; omega) (by omega) ?_; intro C cap2 hC hcap hcap2; obtain ⟨u0, u1, u2, u3, k0, k1, k2, k3, hsz⟩ := cel_in hC (Int.natCast_nonneg k) (by omega); rw [hki] at k0 k1 k2 k3 hsz; have HCC := Lib.hid (And.intro hC (And.intro hcap hcap2)); clear hC hcap hcap2)
      refine wp_gen (fun V => Ext w V ∧ SlAt V (some ⟨wc.heap.size + 1, 0, none⟩) (L.set k l).length cap2 (celCells (L.set k l)) ∧ Holds V ([(w.heap.size, 0, .int .u8 c.object), (w.heap.size, 1, .int .i64 c.instances), (w.heap.size, 2, .int .i64 c.threads), (w.heap.size, 3, .int .u8 c.kind), (w.heap.size, 4, .int .i64 c.stripes), (w.heap.size, 5, .int .i64 c.bits), (w.heap.size, 6, .int .i64 c.cap), (w.heap.size, 7, .int .i64 c.node), (w.heap.size, 8, .int .i64 c.batch), (w.heap.size, 9, .int .i64 c.chunk), (w.heap.size, 10, .int .u64 c.limit), (w.heap.size, 11, .int .u64 c.most)] ++ [(w.heap.size + 1 + cnt os1, 0, .int .u8 11), (w.heap.size + 1 + cnt os1, 1, .int .u32 who), (w.heap.size + 1 + cnt os1, 2, .int .u32 what), (w.heap.size + 1 + cnt os1, 3, .int .u32 0)])) ?_ ?_
      · refine ⟨HW2.out.trans (by repeat (first | with_reducible exact Ext.refl _ | with_reducible assumption | with_reducible refine Ext.alloc ?_ _ | with_reducible refine Ext.gr ?_ _ | with_reducible refine Ext.drewN ?_ _ | with_reducible refine Ext.drew ?_ | with_reducible refine Ext.setCell ?_ ?_ _ | with_reducible refine Ext.more ?_ _ _ | (show _ ≤ _; dsimp only; omega))), ?_, HK2.out.ext (by repeat (first | with_reducible exact Ext.refl _ | with_reducible assumption | with_reducible refine Ext.alloc ?_ _ | with_reducible refine Ext.gr ?_ _ | with_reducible refine Ext.drewN ?_ _ | with_reducible refine Ext.drew ?_ | with_reducible refine Ext.setCell ?_ ?_ _ | with_reducible refine Ext.more ?_ _ _ | (show _ ≤ _; dsimp only; omega)))⟩
        refine ⟨by rw [HSET.out]; exact HCC.out.2.1, HCC.out.2.2, Or.inr ⟨_, _, rfl, fun j u hu => ?_⟩⟩
        have hj := cel_set_in HCC.out.1 k l j u hu
        rw [HLL.out] at hj
        simp only [Nat.zero_add]
        simp [go_sem]
        exact hj
      intro V HV
      have HW3 := Lib.hid HV.1
      have HS3 := Lib.hid HV.2.1
      have hKV := HV.2.2
      simp only [Holds, List.cons_append, List.nil_append] at hKV
      clear HV hKK HCC k0 k1 k2 k3 hsz HK2 HW2
      go_wp2_with (go_at_call 16; rw [← HSET.out]; refine (done_as c ⟨11, who, what, 0⟩ (L.set k l) _ HR.out ⟨by simp, hwho, hwhat, by simp⟩ (HL.out.set k (by rw [HLL.out]; exact ⟨by simp, by simp, by dsimp only; omega, by simp⟩)) _ _ (Tab.ext HT.out HW3.out) ⟨_, _, rfl, HS3.out⟩ (by rw [HSET.out]; omega)).mono ?_; rintro e w2 ⟨ad', cap', ⟨rfl, HS'⟩, os3, n3, rfl⟩)
      go_ret
      exact ⟨rfl, HW3.out.trans (by repeat (first | with_reducible exact Ext.refl _ | with_reducible assumption | with_reducible refine Ext.alloc ?_ _ | with_reducible refine Ext.gr ?_ _ | with_reducible refine Ext.drewN ?_ _ | with_reducible refine Ext.drew ?_ | with_reducible refine Ext.setCell ?_ ?_ _ | with_reducible refine Ext.more ?_ _ _ | (show _ ≤ _; dsimp only; omega)))⟩
    · go_wp2
      all_goals go_ret
      all_goals exact ⟨rfl, HW2.out.trans (by repeat (first | with_reducible exact Ext.refl _ | with_reducible assumption | with_reducible refine Ext.alloc ?_ _ | with_reducible refine Ext.gr ?_ _ | with_reducible refine Ext.drewN ?_ _ | with_reducible refine Ext.drew ?_ | with_reducible refine Ext.setCell ?_ ?_ _ | with_reducible refine Ext.more ?_ _ _ | (show _ ≤ _; dsimp only; omega)))⟩
end Go.Proofs.YtaijkpfgnlkppaaDoor
