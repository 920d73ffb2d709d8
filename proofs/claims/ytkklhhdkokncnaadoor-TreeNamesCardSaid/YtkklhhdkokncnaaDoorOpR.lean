/- The walks of the reference of layer 'op'. -/
import Derived.Test.YtkklhhdkokncnaaDoorGb
import Derived.Test.YtkklhhdkokncnaaDoorGa
import Derived.Deep.Light
namespace Go.Proofs.YtkklhhdkokncnaaDoor
open Go Go.RowKit

theorem objectR_any (k : Int) (w : World) : Calls Tryd.prog 96 #[.int .u8 k] w
    fun e w' => e = .returned (.int .u8 (objOf k)) ∧ w = w' := by
  go_enter Tryd.func96, Tryd.ntmps96
  go_wp2
  all_goals go_ret
  all_goals exact ⟨ret_int (by unfold objOf; split <;> (try split) <;> (try split) <;> (try split) <;> (try split) <;> omega), rfl⟩

theorem prefixR_any (n a b : Int) (hn : 0 ≤ n ∧ n ≤ 6) (hb : 0 ≤ b ∧ b ≤ 4294967295) (w : World) : Calls Tryd.prog 109 #[.int .i64 n, .int .u32 a, .int .u32 b] w
    fun e w' => e = .returned (.bool (prefixB n a b)) ∧ w = w' := by
  by_cases h : n < b
  · go_enter Tryd.func109, Tryd.ntmps109
    go_wp2
    go_ret
    exact ⟨ret_bool (by simp [prefixB]; omega), rfl⟩
  · go_enter Tryd.func109, Tryd.ntmps109
    go_wp2
    go_loop [7, 8] (fun x i => ∃ k : Nat, (k : Int) ≤ b ∧ i = .int .u32 k ∧ x = .int .u32 ((2 : Int) ^ k)) (fun _ i => b.toNat - (intOf i).toNat)
    case atStart => exact ⟨0, by omega, rfl, rfl⟩
    case round =>
      obtain ⟨k, hk, rfl, rfl⟩ := hrel
      have hp := pow_le k (by omega)
      simp only [Int.toNat_natCast] at hp
      have hp0 : (0 : Int) < 2 ^ k := Int.pow_pos (by omega)
      by_cases hlt : (k : Int) < b
      · go_wp2
        go_round
        case rel => exact ⟨k + 1, by omega, by go_num, by rw [Int.pow_succ]; simp only [Value.int.injEq, true_and]; omega⟩
        case measure => simp [intOf]; omega
      · go_wp2
        go_ret
        have hkb : b.toNat = k := by omega
        exact ⟨ret_bool (by simp [prefixB, hkb]; omega), rfl⟩

theorem namesR_any (o : Opn) (ho : o.Fits) (w : World) : Calls Tryd.prog 115 #[o.v] w
    fun e w' => e = .returned (.agg #[.int .u32 (o.a % 65536), .int .u32 (o.a / 65536), .int .u32 o.b]) ∧ Ext w w' := by
  have ha := ho.a
  go_enter Tryd.func115, Tryd.ntmps115
  go_wp2
  exact bodyPost_ret (v := .agg #[.int .u32 (o.a % 65536), .int .u32 (o.a / 65536), .int .u32 o.b]) (by simp [results, Tryd.results115, go_sem]) rfl ⟨rfl, (by repeat (first | with_reducible exact Ext.refl _ | with_reducible assumption | with_reducible refine Ext.alloc ?_ _ | with_reducible refine Ext.gr ?_ _ | with_reducible refine Ext.drewN ?_ _ | with_reducible refine Ext.drew ?_ | with_reducible refine Ext.setCell ?_ ?_ _ | with_reducible refine Ext.more ?_ _ _ | (show _ ≤ _; dsimp only; omega)))⟩

theorem pathR_any (o : Opn) (ho : o.Fits) (w : World) : Calls Tryd.prog 110 #[o.v] w
    fun e w' => e = .returned (.bool (pathB o.a o.b)) ∧ Ext w w' := by
  have HO := Lib.hid ho
  clear ho
  obtain ⟨m, hm⟩ : ∃ m, m = o.a % 65536 := ⟨_, rfl⟩
  obtain ⟨d, hd⟩ : ∃ d, d = o.a / 65536 := ⟨_, rfl⟩
  have hp : pathB o.a o.b = (!(m == 0) && (!(d == 0) || o.b == 0) && decide (o.b ≤ 65535)) := by rw [hm, hd]; rfl
  have HP := Lib.hid hp
  have HM := Lib.hid hm
  have HD := Lib.hid hd
  clear hp hm hd
  go_enter Tryd.func110, Tryd.ntmps110
  go_wp2_with (go_at_call 115; refine (namesR_any o HO.out _).mono ?_; rintro e w1 ⟨rfl, os1, n1, rfl⟩; rw [← HM.out, ← HD.out];)
  all_goals (go_ret; refine ⟨ret_bool ?_, (by repeat (first | with_reducible exact Ext.refl _ | with_reducible assumption | with_reducible refine Ext.alloc ?_ _ | with_reducible refine Ext.gr ?_ _ | with_reducible refine Ext.drewN ?_ _ | with_reducible refine Ext.drew ?_ | with_reducible refine Ext.setCell ?_ ?_ _ | with_reducible refine Ext.more ?_ _ _ | (show _ ≤ _; dsimp only; omega)))⟩)
  all_goals (go_light; rw [HP.out]; clear HP HM HD; rw [Bool.eq_iff_iff]; simp_all)

set_option maxRecDepth 100000 in
set_option maxHeartbeats 4000000 in
theorem fitsR_1 (c : Cfg) (o : Opn) (ho : o.Fits) (hbits : 0 ≤ c.bits ∧ c.bits ≤ 6) (w : World) (k : o.kind = 1) : Calls Tryd.prog 97 #[c.v, o.v] w
    fun e w' => e = .returned (.bool (fitsB c o)) ∧ Ext w w' := by
  obtain ⟨kind, a, b, c3⟩ := o
  obtain ⟨hk, ha, hb, hc⟩ := ho
  dsimp only at k hk ha hb hc
  subst k
  go_enter Tryd.func97, Tryd.ntmps97
  go_wp2_with (go_at_call 109; refine (prefixR_any _ _ _ hbits (by omega) _).mono ?_; rintro e w' ⟨rfl, rfl⟩; generalize hq : prefixB _ _ _ = q; cases q)
  all_goals (go_ret; refine ⟨ret_bool ?_, (by repeat (first | with_reducible exact Ext.refl _ | with_reducible assumption | with_reducible refine Ext.alloc ?_ _ | with_reducible refine Ext.gr ?_ _ | with_reducible refine Ext.drewN ?_ _ | with_reducible refine Ext.drew ?_ | with_reducible refine Ext.setCell ?_ ?_ _ | with_reducible refine Ext.more ?_ _ _ | (show _ ≤ _; dsimp only; omega)))⟩)
  all_goals (go_light; rw [Bool.eq_iff_iff]; simp [fitsB, prefixB] at *; omega)

set_option maxRecDepth 100000 in
set_option maxHeartbeats 4000000 in
theorem fitsR_2 (c : Cfg) (o : Opn) (ho : o.Fits) (hbits : 0 ≤ c.bits ∧ c.bits ≤ 6) (w : World) (k : o.kind = 2) : Calls Tryd.prog 97 #[c.v, o.v] w
    fun e w' => e = .returned (.bool (fitsB c o)) ∧ Ext w w' := by
  obtain ⟨kind, a, b, c3⟩ := o
  obtain ⟨hk, ha, hb, hc⟩ := ho
  dsimp only at k hk ha hb hc
  subst k
  go_enter Tryd.func97, Tryd.ntmps97
  go_wp2_with (go_at_call 109; refine (prefixR_any _ _ _ hbits (by omega) _).mono ?_; rintro e w' ⟨rfl, rfl⟩; generalize hq : prefixB _ _ _ = q; cases q)
  all_goals (go_ret; refine ⟨ret_bool ?_, (by repeat (first | with_reducible exact Ext.refl _ | with_reducible assumption | with_reducible refine Ext.alloc ?_ _ | with_reducible refine Ext.gr ?_ _ | with_reducible refine Ext.drewN ?_ _ | with_reducible refine Ext.drew ?_ | with_reducible refine Ext.setCell ?_ ?_ _ | with_reducible refine Ext.more ?_ _ _ | (show _ ≤ _; dsimp only; omega)))⟩)
  all_goals (go_light; rw [Bool.eq_iff_iff]; simp [fitsB, prefixB] at *; omega)

set_option maxRecDepth 100000 in
set_option maxHeartbeats 4000000 in
theorem fitsR_3 (c : Cfg) (o : Opn) (ho : o.Fits) (hbits : 0 ≤ c.bits ∧ c.bits ≤ 6) (w : World) (k : o.kind = 3) : Calls Tryd.prog 97 #[c.v, o.v] w
    fun e w' => e = .returned (.bool (fitsB c o)) ∧ Ext w w' := by
  obtain ⟨kind, a, b, c3⟩ := o
  obtain ⟨hk, ha, hb, hc⟩ := ho
  dsimp only at k hk ha hb hc
  subst k
  go_enter Tryd.func97, Tryd.ntmps97
  go_wp2_with (go_at_call 109; refine (prefixR_any _ _ _ hbits (by omega) _).mono ?_; rintro e w' ⟨rfl, rfl⟩; generalize hq : prefixB _ _ _ = q; cases q)
  all_goals (go_ret; refine ⟨ret_bool ?_, (by repeat (first | with_reducible exact Ext.refl _ | with_reducible assumption | with_reducible refine Ext.alloc ?_ _ | with_reducible refine Ext.gr ?_ _ | with_reducible refine Ext.drewN ?_ _ | with_reducible refine Ext.drew ?_ | with_reducible refine Ext.setCell ?_ ?_ _ | with_reducible refine Ext.more ?_ _ _ | (show _ ≤ _; dsimp only; omega)))⟩)
  all_goals (go_light; rw [Bool.eq_iff_iff]; simp [fitsB, prefixB] at *; omega)

set_option maxRecDepth 100000 in
set_option maxHeartbeats 4000000 in
theorem fitsR_4 (c : Cfg) (o : Opn) (ho : o.Fits) (_hbits : 0 ≤ c.bits ∧ c.bits ≤ 6) (w : World) (k : o.kind = 4) : Calls Tryd.prog 97 #[c.v, o.v] w
    fun e w' => e = .returned (.bool (fitsB c o)) ∧ Ext w w' := by
  obtain ⟨kind, a, b, c3⟩ := o
  obtain ⟨hk, ha, hb, hc⟩ := ho
  dsimp only at k hk ha hb hc
  subst k
  go_enter Tryd.func97, Tryd.ntmps97
  go_wp2
  all_goals (go_ret; refine ⟨ret_bool ?_, (by repeat (first | with_reducible exact Ext.refl _ | with_reducible assumption | with_reducible refine Ext.alloc ?_ _ | with_reducible refine Ext.gr ?_ _ | with_reducible refine Ext.drewN ?_ _ | with_reducible refine Ext.drew ?_ | with_reducible refine Ext.setCell ?_ ?_ _ | with_reducible refine Ext.more ?_ _ _ | (show _ ≤ _; dsimp only; omega)))⟩)
  all_goals (go_light; simp [fitsB])
  all_goals first | done | omega | (simp_all; done) | (simp_all; omega) | (rw [pow_mod _ (by omega) (by omega)]; simp_all; done) | (rw [Bool.eq_iff_iff]; simp; omega) | skip

set_option maxRecDepth 100000 in
set_option maxHeartbeats 4000000 in
theorem fitsR_5 (c : Cfg) (o : Opn) (ho : o.Fits) (_hbits : 0 ≤ c.bits ∧ c.bits ≤ 6) (w : World) (k : o.kind = 5) : Calls Tryd.prog 97 #[c.v, o.v] w
    fun e w' => e = .returned (.bool (fitsB c o)) ∧ Ext w w' := by
  obtain ⟨kind, a, b, c3⟩ := o
  obtain ⟨hk, ha, hb, hc⟩ := ho
  dsimp only at k hk ha hb hc
  subst k
  go_enter Tryd.func97, Tryd.ntmps97
  go_wp2
  all_goals (go_ret; refine ⟨ret_bool ?_, (by repeat (first | with_reducible exact Ext.refl _ | with_reducible assumption | with_reducible refine Ext.alloc ?_ _ | with_reducible refine Ext.gr ?_ _ | with_reducible refine Ext.drewN ?_ _ | with_reducible refine Ext.drew ?_ | with_reducible refine Ext.setCell ?_ ?_ _ | with_reducible refine Ext.more ?_ _ _ | (show _ ≤ _; dsimp only; omega)))⟩)
  all_goals (go_light; simp [fitsB])
  all_goals first | done | omega | (simp_all; done) | (simp_all; omega) | (rw [pow_mod _ (by omega) (by omega)]; simp_all; done) | (rw [Bool.eq_iff_iff]; simp; omega) | skip

set_option maxRecDepth 100000 in
set_option maxHeartbeats 4000000 in
theorem fitsR_6 (c : Cfg) (o : Opn) (ho : o.Fits) (_hbits : 0 ≤ c.bits ∧ c.bits ≤ 6) (w : World) (k : o.kind = 6) : Calls Tryd.prog 97 #[c.v, o.v] w
    fun e w' => e = .returned (.bool (fitsB c o)) ∧ Ext w w' := by
  obtain ⟨kind, a, b, c3⟩ := o
  obtain ⟨hk, ha, hb, hc⟩ := ho
  dsimp only at k hk ha hb hc
  subst k
  go_enter Tryd.func97, Tryd.ntmps97
  go_wp2
  all_goals (go_ret; refine ⟨ret_bool ?_, (by repeat (first | with_reducible exact Ext.refl _ | with_reducible assumption | with_reducible refine Ext.alloc ?_ _ | with_reducible refine Ext.gr ?_ _ | with_reducible refine Ext.drewN ?_ _ | with_reducible refine Ext.drew ?_ | with_reducible refine Ext.setCell ?_ ?_ _ | with_reducible refine Ext.more ?_ _ _ | (show _ ≤ _; dsimp only; omega)))⟩)
  all_goals (go_light; simp [fitsB])
  all_goals first | done | omega | (simp_all; done) | (simp_all; omega) | (rw [pow_mod _ (by omega) (by omega)]; simp_all; done) | (rw [Bool.eq_iff_iff]; simp; omega) | skip

set_option maxRecDepth 100000 in
set_option maxHeartbeats 4000000 in
theorem fitsR_7 (c : Cfg) (o : Opn) (ho : o.Fits) (_hbits : 0 ≤ c.bits ∧ c.bits ≤ 6) (w : World) (k : o.kind = 7) : Calls Tryd.prog 97 #[c.v, o.v] w
    fun e w' => e = .returned (.bool (fitsB c o)) ∧ Ext w w' := by
  obtain ⟨kind, a, b, c3⟩ := o
  obtain ⟨hk, ha, hb, hc⟩ := ho
  dsimp only at k hk ha hb hc
  subst k
  go_enter Tryd.func97, Tryd.ntmps97
  go_wp2
  all_goals (go_ret; refine ⟨ret_bool ?_, (by repeat (first | with_reducible exact Ext.refl _ | with_reducible assumption | with_reducible refine Ext.alloc ?_ _ | with_reducible refine Ext.gr ?_ _ | with_reducible refine Ext.drewN ?_ _ | with_reducible refine Ext.drew ?_ | with_reducible refine Ext.setCell ?_ ?_ _ | with_reducible refine Ext.more ?_ _ _ | (show _ ≤ _; dsimp only; omega)))⟩)
  all_goals (go_light; simp [fitsB])
  all_goals first | done | omega | (simp_all; done) | (simp_all; omega) | (rw [pow_mod _ (by omega) (by omega)]; simp_all; done) | (rw [Bool.eq_iff_iff]; simp; omega) | skip

set_option maxRecDepth 100000 in
set_option maxHeartbeats 4000000 in
theorem fitsR_8 (c : Cfg) (o : Opn) (ho : o.Fits) (_hbits : 0 ≤ c.bits ∧ c.bits ≤ 6) (w : World) (k : o.kind = 8) : Calls Tryd.prog 97 #[c.v, o.v] w
    fun e w' => e = .returned (.bool (fitsB c o)) ∧ Ext w w' := by
  obtain ⟨kind, a, b, c3⟩ := o
  obtain ⟨hk, ha, hb, hc⟩ := ho
  dsimp only at k hk ha hb hc
  subst k
  go_enter Tryd.func97, Tryd.ntmps97
  go_wp2
  all_goals (go_ret; refine ⟨ret_bool ?_, (by repeat (first | with_reducible exact Ext.refl _ | with_reducible assumption | with_reducible refine Ext.alloc ?_ _ | with_reducible refine Ext.gr ?_ _ | with_reducible refine Ext.drewN ?_ _ | with_reducible refine Ext.drew ?_ | with_reducible refine Ext.setCell ?_ ?_ _ | with_reducible refine Ext.more ?_ _ _ | (show _ ≤ _; dsimp only; omega)))⟩)
  all_goals (go_light; simp [fitsB])
  all_goals first | done | omega | (simp_all; done) | (simp_all; omega) | (rw [pow_mod _ (by omega) (by omega)]; simp_all; done) | (rw [Bool.eq_iff_iff]; simp; omega) | skip

set_option maxRecDepth 100000 in
set_option maxHeartbeats 4000000 in
theorem fitsR_9 (c : Cfg) (o : Opn) (ho : o.Fits) (_hbits : 0 ≤ c.bits ∧ c.bits ≤ 6) (w : World) (k : o.kind = 9) : Calls Tryd.prog 97 #[c.v, o.v] w
    fun e w' => e = .returned (.bool (fitsB c o)) ∧ Ext w w' := by
  obtain ⟨kind, a, b, c3⟩ := o
  obtain ⟨hk, ha, hb, hc⟩ := ho
  dsimp only at k hk ha hb hc
  subst k
  go_enter Tryd.func97, Tryd.ntmps97
  go_wp2
  all_goals (go_ret; refine ⟨ret_bool ?_, (by repeat (first | with_reducible exact Ext.refl _ | with_reducible assumption | with_reducible refine Ext.alloc ?_ _ | with_reducible refine Ext.gr ?_ _ | with_reducible refine Ext.drewN ?_ _ | with_reducible refine Ext.drew ?_ | with_reducible refine Ext.setCell ?_ ?_ _ | with_reducible refine Ext.more ?_ _ _ | (show _ ≤ _; dsimp only; omega)))⟩)
  all_goals (go_light; simp [fitsB])
  all_goals first | done | omega | (simp_all; done) | (simp_all; omega) | (rw [pow_mod _ (by omega) (by omega)]; simp_all; done) | (rw [Bool.eq_iff_iff]; simp; omega) | skip

set_option maxRecDepth 100000 in
set_option maxHeartbeats 4000000 in
theorem fitsR_10 (c : Cfg) (o : Opn) (ho : o.Fits) (_hbits : 0 ≤ c.bits ∧ c.bits ≤ 6) (w : World) (k : o.kind = 10) : Calls Tryd.prog 97 #[c.v, o.v] w
    fun e w' => e = .returned (.bool (fitsB c o)) ∧ Ext w w' := by
  obtain ⟨kind, a, b, c3⟩ := o
  obtain ⟨hk, ha, hb, hc⟩ := ho
  dsimp only at k hk ha hb hc
  subst k
  go_enter Tryd.func97, Tryd.ntmps97
  go_wp2
  all_goals (go_ret; refine ⟨ret_bool ?_, (by repeat (first | with_reducible exact Ext.refl _ | with_reducible assumption | with_reducible refine Ext.alloc ?_ _ | with_reducible refine Ext.gr ?_ _ | with_reducible refine Ext.drewN ?_ _ | with_reducible refine Ext.drew ?_ | with_reducible refine Ext.setCell ?_ ?_ _ | with_reducible refine Ext.more ?_ _ _ | (show _ ≤ _; dsimp only; omega)))⟩)
  all_goals (go_light; simp [fitsB])
  all_goals first | done | omega | (simp_all; done) | (simp_all; omega) | (rw [pow_mod _ (by omega) (by omega)]; simp_all; done) | (rw [Bool.eq_iff_iff]; simp; omega) | skip

set_option maxRecDepth 100000 in
set_option maxHeartbeats 4000000 in
theorem fitsR_11 (c : Cfg) (o : Opn) (ho : o.Fits) (_hbits : 0 ≤ c.bits ∧ c.bits ≤ 6) (w : World) (k : o.kind = 11) : Calls Tryd.prog 97 #[c.v, o.v] w
    fun e w' => e = .returned (.bool (fitsB c o)) ∧ Ext w w' := by
  obtain ⟨kind, a, b, c3⟩ := o
  obtain ⟨hk, ha, hb, hc⟩ := ho
  dsimp only at k hk ha hb hc
  subst k
  go_enter Tryd.func97, Tryd.ntmps97
  go_wp2
  all_goals (go_ret; refine ⟨ret_bool ?_, (by repeat (first | with_reducible exact Ext.refl _ | with_reducible assumption | with_reducible refine Ext.alloc ?_ _ | with_reducible refine Ext.gr ?_ _ | with_reducible refine Ext.drewN ?_ _ | with_reducible refine Ext.drew ?_ | with_reducible refine Ext.setCell ?_ ?_ _ | with_reducible refine Ext.more ?_ _ _ | (show _ ≤ _; dsimp only; omega)))⟩)
  all_goals (go_light; simp [fitsB])
  all_goals first | done | omega | (simp_all; done) | (simp_all; omega) | (rw [pow_mod _ (by omega) (by omega)]; simp_all; done) | (rw [Bool.eq_iff_iff]; simp; omega) | skip

set_option maxRecDepth 100000 in
set_option maxHeartbeats 4000000 in
theorem fitsR_12 (c : Cfg) (o : Opn) (ho : o.Fits) (_hbits : 0 ≤ c.bits ∧ c.bits ≤ 6) (w : World) (k : o.kind = 12) : Calls Tryd.prog 97 #[c.v, o.v] w
    fun e w' => e = .returned (.bool (fitsB c o)) ∧ Ext w w' := by
  obtain ⟨kind, a, b, c3⟩ := o
  obtain ⟨hk, ha, hb, hc⟩ := ho
  dsimp only at k hk ha hb hc
  subst k
  go_enter Tryd.func97, Tryd.ntmps97
  go_wp2_with (go_at_call 110; refine (pathR_any ⟨12, a, b, c3⟩ ⟨hk, ha, hb, hc⟩ _).mono ?_; rintro e w1 ⟨rfl, os1, n1, rfl⟩; dsimp only; generalize hq : pathB _ _ = q; cases q)
  all_goals (go_ret; refine ⟨ret_bool ?_, (by repeat (first | with_reducible exact Ext.refl _ | with_reducible assumption | with_reducible refine Ext.alloc ?_ _ | with_reducible refine Ext.gr ?_ _ | with_reducible refine Ext.drewN ?_ _ | with_reducible refine Ext.drew ?_ | with_reducible refine Ext.setCell ?_ ?_ _ | with_reducible refine Ext.more ?_ _ _ | (show _ ≤ _; dsimp only; omega)))⟩)
  all_goals (go_light; simp [fitsB])
  all_goals first | done | omega | (simp_all; done) | (simp_all; omega) | (rw [pow_mod _ (by omega) (by omega)]; simp_all; done) | (rw [Bool.eq_iff_iff]; simp; omega) | skip

set_option maxRecDepth 100000 in
set_option maxHeartbeats 4000000 in
theorem fitsR_13 (c : Cfg) (o : Opn) (ho : o.Fits) (_hbits : 0 ≤ c.bits ∧ c.bits ≤ 6) (w : World) (k : o.kind = 13) : Calls Tryd.prog 97 #[c.v, o.v] w
    fun e w' => e = .returned (.bool (fitsB c o)) ∧ Ext w w' := by
  obtain ⟨kind, a, b, c3⟩ := o
  obtain ⟨hk, ha, hb, hc⟩ := ho
  dsimp only at k hk ha hb hc
  subst k
  go_enter Tryd.func97, Tryd.ntmps97
  go_wp2_with (go_at_call 110; refine (pathR_any ⟨13, a, b, c3⟩ ⟨hk, ha, hb, hc⟩ _).mono ?_; rintro e w1 ⟨rfl, os1, n1, rfl⟩; dsimp only; generalize hq : pathB _ _ = q; cases q)
  all_goals (go_ret; refine ⟨ret_bool ?_, (by repeat (first | with_reducible exact Ext.refl _ | with_reducible assumption | with_reducible refine Ext.alloc ?_ _ | with_reducible refine Ext.gr ?_ _ | with_reducible refine Ext.drewN ?_ _ | with_reducible refine Ext.drew ?_ | with_reducible refine Ext.setCell ?_ ?_ _ | with_reducible refine Ext.more ?_ _ _ | (show _ ≤ _; dsimp only; omega)))⟩)
  all_goals (go_light; simp [fitsB])
  all_goals first | done | omega | (simp_all; done) | (simp_all; omega) | (rw [pow_mod _ (by omega) (by omega)]; simp_all; done) | (rw [Bool.eq_iff_iff]; simp; omega) | skip

set_option maxRecDepth 100000 in
set_option maxHeartbeats 4000000 in
theorem fitsR_14 (c : Cfg) (o : Opn) (ho : o.Fits) (_hbits : 0 ≤ c.bits ∧ c.bits ≤ 6) (w : World) (k : o.kind = 14) : Calls Tryd.prog 97 #[c.v, o.v] w
    fun e w' => e = .returned (.bool (fitsB c o)) ∧ Ext w w' := by
  obtain ⟨kind, a, b, c3⟩ := o
  obtain ⟨hk, ha, hb, hc⟩ := ho
  dsimp only at k hk ha hb hc
  subst k
  go_enter Tryd.func97, Tryd.ntmps97
  go_wp2_with (go_at_call 110; refine (pathR_any ⟨14, a, b, c3⟩ ⟨hk, ha, hb, hc⟩ _).mono ?_; rintro e w1 ⟨rfl, os1, n1, rfl⟩; dsimp only; generalize hq : pathB _ _ = q; cases q)
  all_goals (go_ret; refine ⟨ret_bool ?_, (by repeat (first | with_reducible exact Ext.refl _ | with_reducible assumption | with_reducible refine Ext.alloc ?_ _ | with_reducible refine Ext.gr ?_ _ | with_reducible refine Ext.drewN ?_ _ | with_reducible refine Ext.drew ?_ | with_reducible refine Ext.setCell ?_ ?_ _ | with_reducible refine Ext.more ?_ _ _ | (show _ ≤ _; dsimp only; omega)))⟩)
  all_goals (go_light; simp [fitsB])
  all_goals first | done | omega | (simp_all; done) | (simp_all; omega) | (rw [pow_mod _ (by omega) (by omega)]; simp_all; done) | (rw [Bool.eq_iff_iff]; simp; omega) | skip

theorem fitsR_any (c : Cfg) (o : Opn) (ho : o.Fits) (hbits : 0 ≤ c.bits ∧ c.bits ≤ 6) (hk : 1 ≤ o.kind ∧ o.kind ≤ 14) (w : World) : Calls Tryd.prog 97 #[c.v, o.v] w
    fun e w' => e = .returned (.bool (fitsB c o)) ∧ Ext w w' := by
  have h : o.kind = 1 ∨ o.kind = 2 ∨ o.kind = 3 ∨ o.kind = 4 ∨ o.kind = 5 ∨ o.kind = 6 ∨ o.kind = 7 ∨ o.kind = 8 ∨ o.kind = 9 ∨ o.kind = 10 ∨ o.kind = 11 ∨ o.kind = 12 ∨ o.kind = 13 ∨ o.kind = 14 := by omega
  rcases h with h | h | h | h | h | h | h | h | h | h | h | h | h | h
  · exact fitsR_1 c o ho hbits w h
  · exact fitsR_2 c o ho hbits w h
  · exact fitsR_3 c o ho hbits w h
  · exact fitsR_4 c o ho hbits w h
  · exact fitsR_5 c o ho hbits w h
  · exact fitsR_6 c o ho hbits w h
  · exact fitsR_7 c o ho hbits w h
  · exact fitsR_8 c o ho hbits w h
  · exact fitsR_9 c o ho hbits w h
  · exact fitsR_10 c o ho hbits w h
  · exact fitsR_11 c o ho hbits w h
  · exact fitsR_12 c o ho hbits w h
  · exact fitsR_13 c o ho hbits w h
  · exact fitsR_14 c o ho hbits w h
end Go.Proofs.YtkklhhdkokncnaaDoor
