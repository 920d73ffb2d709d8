/- The walks of the layer 'op' and its reference: an operation's first error. -/
import Derived.Test.YtmhmaifmendebaaGreatDoorA2
import Derived.Test.YtmhmaifmendebaaGreatDoorA0
import Derived.Deep.Light
namespace Go.Proofs.YtmhmaifmendebaaGreatDoor
open Go Go.RowKit
set_option maxRecDepth 100000
set_option maxHeartbeats 8000000

theorem path_any (a b : Int) (ha : 0 ≤ a ∧ a ≤ 4294967295) (hb : 0 ≤ b ∧ b ≤ 4294967295) (w : World) : Calls Tryz.prog 142 #[.int .u32 a, .int .u32 b] w
    fun e w' => e = .returned (.bool (pathB a b)) ∧ w = w' := by
  obtain ⟨m, hm⟩ : ∃ m, m = a % 65536 := ⟨_, rfl⟩
  have hm2 : bits .and .u32 a 65535 = m := by rw [and_mask a ha.1 ha.2, hm]
  have HM := Lib.hid hm
  clear hm
  go_enter Tryz.func142, Tryz.ntmps142
  go_wp2
  all_goals (go_ret; refine ⟨ret_bool ?_, rfl⟩)
  all_goals (go_light; have hm := HM.out; subst hm; rw [Bool.eq_iff_iff]; simp [pathB] at *; omega)

theorem object_any (k : Int) (w : World) (hk : 0 ≤ k ∧ k ≤ 255) (hw : k < 15 → w.cell? ⟨1, k.toNat, none⟩ = some (.int .u8 (objOf k))) : Calls Tryz.prog 137 #[.int .u8 k] w
    fun e w' => e = .returned (.int .u8 (objOf k)) ∧ w = w' := by
  by_cases h : k < 15
  · have h1 := hw h
    clear hw
    go_enter Tryz.func137, Tryz.ntmps137
    go_wp2
    go_ret
    exact ⟨rfl, rfl⟩
  · go_enter Tryz.func137, Tryz.ntmps137
    go_wp2
    go_ret
    exact ⟨ret_int (by unfold objOf; split <;> (try split) <;> (try split) <;> (try split) <;> (try split) <;> omega), rfl⟩


theorem fits_1 (c : Cfg) (o : Opn) (ho : o.Fits) (_hbits : 0 ≤ c.bits ∧ c.bits ≤ 6) (w : World) (k : o.kind = 1) : Calls Tryz.prog 138 #[c.v, o.v] w
    fun e w' => e = .returned (.bool (fitsB c o)) ∧ Ext w w' := by
  obtain ⟨kind, a, b, c3⟩ := o
  obtain ⟨hk, ha, hb, hc⟩ := ho
  dsimp only at k hk ha hb hc
  subst k
  go_enter Tryz.func138, Tryz.ntmps138
  go_wp2
  all_goals (go_ret; refine ⟨ret_bool ?_, EX⟩)
  all_goals (go_light; simp [fitsB, prefixB])
  all_goals first | done | omega | (simp_all; done) | (simp_all; omega) | (rw [pow_mod _ (by omega) (by omega)]; simp_all; done) | (rw [Bool.eq_iff_iff]; simp; omega) | skip

theorem fits_2 (c : Cfg) (o : Opn) (ho : o.Fits) (_hbits : 0 ≤ c.bits ∧ c.bits ≤ 6) (w : World) (k : o.kind = 2) : Calls Tryz.prog 138 #[c.v, o.v] w
    fun e w' => e = .returned (.bool (fitsB c o)) ∧ Ext w w' := by
  obtain ⟨kind, a, b, c3⟩ := o
  obtain ⟨hk, ha, hb, hc⟩ := ho
  dsimp only at k hk ha hb hc
  subst k
  go_enter Tryz.func138, Tryz.ntmps138
  go_wp2
  all_goals (go_ret; refine ⟨ret_bool ?_, EX⟩)
  all_goals (go_light; simp [fitsB, prefixB])
  all_goals first | done | omega | (simp_all; done) | (simp_all; omega) | (rw [pow_mod _ (by omega) (by omega)]; simp_all; done) | (rw [Bool.eq_iff_iff]; simp; omega) | skip

theorem fits_3 (c : Cfg) (o : Opn) (ho : o.Fits) (_hbits : 0 ≤ c.bits ∧ c.bits ≤ 6) (w : World) (k : o.kind = 3) : Calls Tryz.prog 138 #[c.v, o.v] w
    fun e w' => e = .returned (.bool (fitsB c o)) ∧ Ext w w' := by
  obtain ⟨kind, a, b, c3⟩ := o
  obtain ⟨hk, ha, hb, hc⟩ := ho
  dsimp only at k hk ha hb hc
  subst k
  have hp := pow_mod c.bits (by omega) (by omega)
  by_cases h1 : c3 = 0
  · subst h1
    by_cases h2 : b = 0
    · subst h2
      go_enter Tryz.func138, Tryz.ntmps138
      go_wp2
      go_quiet (fail)
      go_wp2
      all_goals (go_ret; refine ⟨ret_bool ?_, EX⟩)
      all_goals (go_light; simp [fitsB])
      all_goals first | done | omega | (simp_all; done) | (simp_all; omega) | (rw [pow_mod _ (by omega) (by omega)]; simp_all; done) | (rw [Bool.eq_iff_iff]; simp; omega) | skip
    · have h2' : (b == 0) = false := by simpa using h2
      go_enter Tryz.func138, Tryz.ntmps138
      go_wp2
      go_quiet (fail)
      go_wp2
      all_goals (go_ret; refine ⟨ret_bool ?_, EX⟩)
      all_goals (go_light; simp [fitsB])
      all_goals first | done | omega | (simp_all; done) | (simp_all; omega) | (rw [pow_mod _ (by omega) (by omega)]; simp_all; done) | (rw [Bool.eq_iff_iff]; simp; omega) | skip
  · have h1' : (c3 == 0) = false := by simpa using h1
    go_enter Tryz.func138, Tryz.ntmps138
    go_wp2
    go_quiet (fail)
    go_wp2
    all_goals (go_ret; refine ⟨ret_bool ?_, EX⟩)
    all_goals (go_light; simp [fitsB])
    all_goals first | done | omega | (simp_all; done) | (simp_all; omega) | (rw [pow_mod _ (by omega) (by omega)]; simp_all; done) | (rw [Bool.eq_iff_iff]; simp; omega) | skip

theorem fits_4 (c : Cfg) (o : Opn) (ho : o.Fits) (_hbits : 0 ≤ c.bits ∧ c.bits ≤ 6) (w : World) (k : o.kind = 4) : Calls Tryz.prog 138 #[c.v, o.v] w
    fun e w' => e = .returned (.bool (fitsB c o)) ∧ Ext w w' := by
  obtain ⟨kind, a, b, c3⟩ := o
  obtain ⟨hk, ha, hb, hc⟩ := ho
  dsimp only at k hk ha hb hc
  subst k
  go_enter Tryz.func138, Tryz.ntmps138
  go_wp2
  all_goals (go_ret; refine ⟨ret_bool ?_, EX⟩)
  all_goals (go_light; simp [fitsB])
  all_goals first | done | omega | (simp_all; done) | (simp_all; omega) | (rw [pow_mod _ (by omega) (by omega)]; simp_all; done) | (rw [Bool.eq_iff_iff]; simp; omega) | skip

theorem fits_5 (c : Cfg) (o : Opn) (ho : o.Fits) (_hbits : 0 ≤ c.bits ∧ c.bits ≤ 6) (w : World) (k : o.kind = 5) : Calls Tryz.prog 138 #[c.v, o.v] w
    fun e w' => e = .returned (.bool (fitsB c o)) ∧ Ext w w' := by
  obtain ⟨kind, a, b, c3⟩ := o
  obtain ⟨hk, ha, hb, hc⟩ := ho
  dsimp only at k hk ha hb hc
  subst k
  go_enter Tryz.func138, Tryz.ntmps138
  go_wp2
  all_goals (go_ret; refine ⟨ret_bool ?_, EX⟩)
  all_goals (go_light; simp [fitsB])
  all_goals first | done | omega | (simp_all; done) | (simp_all; omega) | (rw [pow_mod _ (by omega) (by omega)]; simp_all; done) | (rw [Bool.eq_iff_iff]; simp; omega) | skip

theorem fits_6 (c : Cfg) (o : Opn) (ho : o.Fits) (_hbits : 0 ≤ c.bits ∧ c.bits ≤ 6) (w : World) (k : o.kind = 6) : Calls Tryz.prog 138 #[c.v, o.v] w
    fun e w' => e = .returned (.bool (fitsB c o)) ∧ Ext w w' := by
  obtain ⟨kind, a, b, c3⟩ := o
  obtain ⟨hk, ha, hb, hc⟩ := ho
  dsimp only at k hk ha hb hc
  subst k
  go_enter Tryz.func138, Tryz.ntmps138
  go_wp2
  all_goals (go_ret; refine ⟨ret_bool ?_, EX⟩)
  all_goals (go_light; simp [fitsB])
  all_goals first | done | omega | (simp_all; done) | (simp_all; omega) | (rw [pow_mod _ (by omega) (by omega)]; simp_all; done) | (rw [Bool.eq_iff_iff]; simp; omega) | skip

theorem fits_7 (c : Cfg) (o : Opn) (ho : o.Fits) (_hbits : 0 ≤ c.bits ∧ c.bits ≤ 6) (w : World) (k : o.kind = 7) : Calls Tryz.prog 138 #[c.v, o.v] w
    fun e w' => e = .returned (.bool (fitsB c o)) ∧ Ext w w' := by
  obtain ⟨kind, a, b, c3⟩ := o
  obtain ⟨hk, ha, hb, hc⟩ := ho
  dsimp only at k hk ha hb hc
  subst k
  go_enter Tryz.func138, Tryz.ntmps138
  go_wp2
  all_goals (go_ret; refine ⟨ret_bool ?_, EX⟩)
  all_goals (go_light; simp [fitsB])
  all_goals first | done | omega | (simp_all; done) | (simp_all; omega) | (rw [pow_mod _ (by omega) (by omega)]; simp_all; done) | (rw [Bool.eq_iff_iff]; simp; omega) | skip

theorem fits_8 (c : Cfg) (o : Opn) (ho : o.Fits) (_hbits : 0 ≤ c.bits ∧ c.bits ≤ 6) (w : World) (k : o.kind = 8) : Calls Tryz.prog 138 #[c.v, o.v] w
    fun e w' => e = .returned (.bool (fitsB c o)) ∧ Ext w w' := by
  obtain ⟨kind, a, b, c3⟩ := o
  obtain ⟨hk, ha, hb, hc⟩ := ho
  dsimp only at k hk ha hb hc
  subst k
  go_enter Tryz.func138, Tryz.ntmps138
  go_wp2
  all_goals (go_ret; refine ⟨ret_bool ?_, EX⟩)
  all_goals (go_light; simp [fitsB])
  all_goals first | done | omega | (simp_all; done) | (simp_all; omega) | (rw [pow_mod _ (by omega) (by omega)]; simp_all; done) | (rw [Bool.eq_iff_iff]; simp; omega) | skip

theorem fits_9 (c : Cfg) (o : Opn) (ho : o.Fits) (_hbits : 0 ≤ c.bits ∧ c.bits ≤ 6) (w : World) (k : o.kind = 9) : Calls Tryz.prog 138 #[c.v, o.v] w
    fun e w' => e = .returned (.bool (fitsB c o)) ∧ Ext w w' := by
  obtain ⟨kind, a, b, c3⟩ := o
  obtain ⟨hk, ha, hb, hc⟩ := ho
  dsimp only at k hk ha hb hc
  subst k
  go_enter Tryz.func138, Tryz.ntmps138
  go_wp2
  all_goals (go_ret; refine ⟨ret_bool ?_, EX⟩)
  all_goals (go_light; simp [fitsB])
  all_goals first | done | omega | (simp_all; done) | (simp_all; omega) | (rw [pow_mod _ (by omega) (by omega)]; simp_all; done) | (rw [Bool.eq_iff_iff]; simp; omega) | skip

theorem fits_10 (c : Cfg) (o : Opn) (ho : o.Fits) (_hbits : 0 ≤ c.bits ∧ c.bits ≤ 6) (w : World) (k : o.kind = 10) : Calls Tryz.prog 138 #[c.v, o.v] w
    fun e w' => e = .returned (.bool (fitsB c o)) ∧ Ext w w' := by
  obtain ⟨kind, a, b, c3⟩ := o
  obtain ⟨hk, ha, hb, hc⟩ := ho
  dsimp only at k hk ha hb hc
  subst k
  go_enter Tryz.func138, Tryz.ntmps138
  go_wp2
  all_goals (go_ret; refine ⟨ret_bool ?_, EX⟩)
  all_goals (go_light; simp [fitsB])
  all_goals first | done | omega | (simp_all; done) | (simp_all; omega) | (rw [pow_mod _ (by omega) (by omega)]; simp_all; done) | (rw [Bool.eq_iff_iff]; simp; omega) | skip

theorem fits_11 (c : Cfg) (o : Opn) (ho : o.Fits) (_hbits : 0 ≤ c.bits ∧ c.bits ≤ 6) (w : World) (k : o.kind = 11) : Calls Tryz.prog 138 #[c.v, o.v] w
    fun e w' => e = .returned (.bool (fitsB c o)) ∧ Ext w w' := by
  obtain ⟨kind, a, b, c3⟩ := o
  obtain ⟨hk, ha, hb, hc⟩ := ho
  dsimp only at k hk ha hb hc
  subst k
  go_enter Tryz.func138, Tryz.ntmps138
  go_wp2
  all_goals (go_ret; refine ⟨ret_bool ?_, EX⟩)
  all_goals (go_light; simp [fitsB])
  all_goals first | done | omega | (simp_all; done) | (simp_all; omega) | (rw [pow_mod _ (by omega) (by omega)]; simp_all; done) | (rw [Bool.eq_iff_iff]; simp; omega) | skip

theorem fits_12 (c : Cfg) (o : Opn) (ho : o.Fits) (_hbits : 0 ≤ c.bits ∧ c.bits ≤ 6) (w : World) (k : o.kind = 12) : Calls Tryz.prog 138 #[c.v, o.v] w
    fun e w' => e = .returned (.bool (fitsB c o)) ∧ Ext w w' := by
  obtain ⟨kind, a, b, c3⟩ := o
  obtain ⟨hk, ha, hb, hc⟩ := ho
  dsimp only at k hk ha hb hc
  subst k
  go_enter Tryz.func138, Tryz.ntmps138
  go_wp2_with (go_at_call 142; refine (path_any _ _ ha hb _).mono ?_; rintro e w' ⟨rfl, rfl⟩; generalize hq : pathB _ _ = q; cases q)
  all_goals (go_ret; refine ⟨ret_bool ?_, EX⟩)
  all_goals (go_light; simp [fitsB])
  all_goals first | done | omega | (simp_all; done) | (simp_all; omega) | (rw [pow_mod _ (by omega) (by omega)]; simp_all; done) | (rw [Bool.eq_iff_iff]; simp; omega) | skip

theorem fits_13 (c : Cfg) (o : Opn) (ho : o.Fits) (_hbits : 0 ≤ c.bits ∧ c.bits ≤ 6) (w : World) (k : o.kind = 13) : Calls Tryz.prog 138 #[c.v, o.v] w
    fun e w' => e = .returned (.bool (fitsB c o)) ∧ Ext w w' := by
  obtain ⟨kind, a, b, c3⟩ := o
  obtain ⟨hk, ha, hb, hc⟩ := ho
  dsimp only at k hk ha hb hc
  subst k
  go_enter Tryz.func138, Tryz.ntmps138
  go_wp2_with (go_at_call 142; refine (path_any _ _ ha hb _).mono ?_; rintro e w' ⟨rfl, rfl⟩; generalize hq : pathB _ _ = q; cases q)
  all_goals (go_ret; refine ⟨ret_bool ?_, EX⟩)
  all_goals (go_light; simp [fitsB])
  all_goals first | done | omega | (simp_all; done) | (simp_all; omega) | (rw [pow_mod _ (by omega) (by omega)]; simp_all; done) | (rw [Bool.eq_iff_iff]; simp; omega) | skip

theorem fits_14 (c : Cfg) (o : Opn) (ho : o.Fits) (_hbits : 0 ≤ c.bits ∧ c.bits ≤ 6) (w : World) (k : o.kind = 14) : Calls Tryz.prog 138 #[c.v, o.v] w
    fun e w' => e = .returned (.bool (fitsB c o)) ∧ Ext w w' := by
  obtain ⟨kind, a, b, c3⟩ := o
  obtain ⟨hk, ha, hb, hc⟩ := ho
  dsimp only at k hk ha hb hc
  subst k
  go_enter Tryz.func138, Tryz.ntmps138
  go_wp2_with (go_at_call 142; refine (path_any _ _ ha hb _).mono ?_; rintro e w' ⟨rfl, rfl⟩; generalize hq : pathB _ _ = q; cases q)
  all_goals (go_ret; refine ⟨ret_bool ?_, EX⟩)
  all_goals (go_light; simp [fitsB])
  all_goals first | done | omega | (simp_all; done) | (simp_all; omega) | (rw [pow_mod _ (by omega) (by omega)]; simp_all; done) | (rw [Bool.eq_iff_iff]; simp; omega) | skip

theorem fits_any (c : Cfg) (o : Opn) (ho : o.Fits) (hbits : 0 ≤ c.bits ∧ c.bits ≤ 6) (hk : 1 ≤ o.kind ∧ o.kind ≤ 14) (w : World) : Calls Tryz.prog 138 #[c.v, o.v] w
    fun e w' => e = .returned (.bool (fitsB c o)) ∧ Ext w w' := by
  have h : o.kind = 1 ∨ o.kind = 2 ∨ o.kind = 3 ∨ o.kind = 4 ∨ o.kind = 5 ∨ o.kind = 6 ∨ o.kind = 7 ∨ o.kind = 8 ∨ o.kind = 9 ∨ o.kind = 10 ∨ o.kind = 11 ∨ o.kind = 12 ∨ o.kind = 13 ∨ o.kind = 14 := by omega
  rcases h with h | h | h | h | h | h | h | h | h | h | h | h | h | h
  · exact fits_1 c o ho hbits w h
  · exact fits_2 c o ho hbits w h
  · exact fits_3 c o ho hbits w h
  · exact fits_4 c o ho hbits w h
  · exact fits_5 c o ho hbits w h
  · exact fits_6 c o ho hbits w h
  · exact fits_7 c o ho hbits w h
  · exact fits_8 c o ho hbits w h
  · exact fits_9 c o ho hbits w h
  · exact fits_10 c o ho hbits w h
  · exact fits_11 c o ho hbits w h
  · exact fits_12 c o ho hbits w h
  · exact fits_13 c o ho hbits w h
  · exact fits_14 c o ho hbits w h
end Go.Proofs.YtmhmaifmendebaaGreatDoor
/- The walks of the reference of layer 'op'. -/
namespace Go.Proofs.YtmhmaifmendebaaGreatDoor
open Go Go.RowKit
set_option maxRecDepth 100000
set_option maxHeartbeats 8000000

theorem objectR_any (k : Int) (w : World) : Calls Tryz.prog 109 #[.int .u8 k] w
    fun e w' => e = .returned (.int .u8 (objOf k)) ∧ w = w' := by
  go_enter Tryz.func109, Tryz.ntmps109
  go_wp2
  all_goals go_ret
  all_goals exact ⟨ret_int (by unfold objOf; split <;> (try split) <;> (try split) <;> (try split) <;> (try split) <;> omega), rfl⟩

theorem prefixR_any (n a b : Int) (hn : 0 ≤ n ∧ n ≤ 6) (hb : 0 ≤ b ∧ b ≤ 4294967295) (w : World) : Calls Tryz.prog 135 #[.int .i64 n, .int .u32 a, .int .u32 b] w
    fun e w' => e = .returned (.bool (prefixB n a b)) ∧ w = w' := by
  by_cases h : n < b
  · go_enter Tryz.func135, Tryz.ntmps135
    go_wp2
    go_ret
    exact ⟨ret_bool (by simp [prefixB]; omega), rfl⟩
  · go_enter Tryz.func135, Tryz.ntmps135
    go_wp2
    go_loop [7, 8] (fun x i => ∃ k : Nat, (k : Int) ≤ b ∧ i = .int .u32 k ∧ x = .int .u32 ((2 : Int) ^ k)) (fun _ i => b.toNat - (intOf i).toNat)
    case atStart => exact ⟨0, by omega, rfl, rfl⟩
    case round =>
      obtain ⟨k, hk, rfl, rfl⟩ := hrel
      have hp := pow_le k (by omega)
      simp only [Int.toNat_natCast] at hp
      have hp0 : (0 : Int) < 2 ^ k := Int.pow_pos (by omega)
      by_cases hlt : (k : Int) < b
      · go_wp2
        go_round
        case rel => exact ⟨k + 1, by omega, by go_num, by rw [Int.pow_succ]; simp only [Value.int.injEq, true_and]; omega⟩
        case measure => simp [intOf]; omega
      · go_wp2
        go_ret
        have hkb : b.toNat = k := by omega
        exact ⟨ret_bool (by simp [prefixB, hkb]; omega), rfl⟩

theorem namesR_any (o : Opn) (ho : o.Fits) (w : World) : Calls Tryz.prog 112 #[o.v] w
    fun e w' => e = .returned (.agg #[.int .u32 (o.a % 65536), .int .u32 (o.a / 65536), .int .u32 o.b]) ∧ Ext w w' := by
  have ha := ho.a
  go_enter Tryz.func112, Tryz.ntmps112
  go_wp2
  exact bodyPost_ret (v := .agg #[.int .u32 (o.a % 65536), .int .u32 (o.a / 65536), .int .u32 o.b]) (by simp [results, Tryz.results112, go_sem]) rfl ⟨rfl, EX⟩

theorem pathR_any (o : Opn) (ho : o.Fits) (w : World) : Calls Tryz.prog 136 #[o.v] w
    fun e w' => e = .returned (.bool (pathB o.a o.b)) ∧ Ext w w' := by
  have HO := Lib.hid ho
  clear ho
  obtain ⟨m, hm⟩ : ∃ m, m = o.a % 65536 := ⟨_, rfl⟩
  obtain ⟨d, hd⟩ : ∃ d, d = o.a / 65536 := ⟨_, rfl⟩
  have hp : pathB o.a o.b = (!(m == 0) && (!(d == 0) || o.b == 0) && decide (o.b ≤ 65535)) := by rw [hm, hd]; rfl
  have HP := Lib.hid hp
  have HM := Lib.hid hm
  have HD := Lib.hid hd
  clear hp hm hd
  go_enter Tryz.func136, Tryz.ntmps136
  go_wp2_with (go_at_call 112; refine (namesR_any o HO.out _).mono ?_; rintro e w1 ⟨rfl, os1, n1, rfl⟩; rw [← HM.out, ← HD.out];)
  all_goals (go_ret; refine ⟨ret_bool ?_, EX⟩)
  all_goals (go_light; rw [HP.out]; clear HP HM HD; rw [Bool.eq_iff_iff]; simp_all)

theorem fitsR_1 (c : Cfg) (o : Opn) (ho : o.Fits) (hbits : 0 ≤ c.bits ∧ c.bits ≤ 6) (w : World) (k : o.kind = 1) : Calls Tryz.prog 110 #[c.v, o.v] w
    fun e w' => e = .returned (.bool (fitsB c o)) ∧ Ext w w' := by
  obtain ⟨kind, a, b, c3⟩ := o
  obtain ⟨hk, ha, hb, hc⟩ := ho
  dsimp only at k hk ha hb hc
  subst k
  go_enter Tryz.func110, Tryz.ntmps110
  go_wp2_with (go_at_call 135; refine (prefixR_any _ _ _ hbits (by omega) _).mono ?_; rintro e w' ⟨rfl, rfl⟩; generalize hq : prefixB _ _ _ = q; cases q)
  all_goals (go_ret; refine ⟨ret_bool ?_, EX⟩)
  all_goals (go_light; rw [Bool.eq_iff_iff]; simp [fitsB, prefixB] at *; omega)

theorem fitsR_2 (c : Cfg) (o : Opn) (ho : o.Fits) (hbits : 0 ≤ c.bits ∧ c.bits ≤ 6) (w : World) (k : o.kind = 2) : Calls Tryz.prog 110 #[c.v, o.v] w
    fun e w' => e = .returned (.bool (fitsB c o)) ∧ Ext w w' := by
  obtain ⟨kind, a, b, c3⟩ := o
  obtain ⟨hk, ha, hb, hc⟩ := ho
  dsimp only at k hk ha hb hc
  subst k
  go_enter Tryz.func110, Tryz.ntmps110
  go_wp2_with (go_at_call 135; refine (prefixR_any _ _ _ hbits (by omega) _).mono ?_; rintro e w' ⟨rfl, rfl⟩; generalize hq : prefixB _ _ _ = q; cases q)
  all_goals (go_ret; refine ⟨ret_bool ?_, EX⟩)
  all_goals (go_light; rw [Bool.eq_iff_iff]; simp [fitsB, prefixB] at *; omega)

theorem fitsR_3 (c : Cfg) (o : Opn) (ho : o.Fits) (hbits : 0 ≤ c.bits ∧ c.bits ≤ 6) (w : World) (k : o.kind = 3) : Calls Tryz.prog 110 #[c.v, o.v] w
    fun e w' => e = .returned (.bool (fitsB c o)) ∧ Ext w w' := by
  obtain ⟨kind, a, b, c3⟩ := o
  obtain ⟨hk, ha, hb, hc⟩ := ho
  dsimp only at k hk ha hb hc
  subst k
  go_enter Tryz.func110, Tryz.ntmps110
  go_wp2_with (go_at_call 135; refine (prefixR_any _ _ _ hbits (by omega) _).mono ?_; rintro e w' ⟨rfl, rfl⟩; generalize hq : prefixB _ _ _ = q; cases q)
  all_goals (go_ret; refine ⟨ret_bool ?_, EX⟩)
  all_goals (go_light; rw [Bool.eq_iff_iff]; simp [fitsB, prefixB] at *; omega)

theorem fitsR_4 (c : Cfg) (o : Opn) (ho : o.Fits) (_hbits : 0 ≤ c.bits ∧ c.bits ≤ 6) (w : World) (k : o.kind = 4) : Calls Tryz.prog 110 #[c.v, o.v] w
    fun e w' => e = .returned (.bool (fitsB c o)) ∧ Ext w w' := by
  obtain ⟨kind, a, b, c3⟩ := o
  obtain ⟨hk, ha, hb, hc⟩ := ho
  dsimp only at k hk ha hb hc
  subst k
  go_enter Tryz.func110, Tryz.ntmps110
  go_wp2
  all_goals (go_ret; refine ⟨ret_bool ?_, EX⟩)
  all_goals (go_light; simp [fitsB])
  all_goals first | done | omega | (simp_all; done) | (simp_all; omega) | (rw [pow_mod _ (by omega) (by omega)]; simp_all; done) | (rw [Bool.eq_iff_iff]; simp; omega) | skip

theorem fitsR_5 (c : Cfg) (o : Opn) (ho : o.Fits) (_hbits : 0 ≤ c.bits ∧ c.bits ≤ 6) (w : World) (k : o.kind = 5) : Calls Tryz.prog 110 #[c.v, o.v] w
    fun e w' => e = .returned (.bool (fitsB c o)) ∧ Ext w w' := by
  obtain ⟨kind, a, b, c3⟩ := o
  obtain ⟨hk, ha, hb, hc⟩ := ho
  dsimp only at k hk ha hb hc
  subst k
  go_enter Tryz.func110, Tryz.ntmps110
  go_wp2
  all_goals (go_ret; refine ⟨ret_bool ?_, EX⟩)
  all_goals (go_light; simp [fitsB])
  all_goals first | done | omega | (simp_all; done) | (simp_all; omega) | (rw [pow_mod _ (by omega) (by omega)]; simp_all; done) | (rw [Bool.eq_iff_iff]; simp; omega) | skip

theorem fitsR_6 (c : Cfg) (o : Opn) (ho : o.Fits) (_hbits : 0 ≤ c.bits ∧ c.bits ≤ 6) (w : World) (k : o.kind = 6) : Calls Tryz.prog 110 #[c.v, o.v] w
    fun e w' => e = .returned (.bool (fitsB c o)) ∧ Ext w w' := by
  obtain ⟨kind, a, b, c3⟩ := o
  obtain ⟨hk, ha, hb, hc⟩ := ho
  dsimp only at k hk ha hb hc
  subst k
  go_enter Tryz.func110, Tryz.ntmps110
  go_wp2
  all_goals (go_ret; refine ⟨ret_bool ?_, EX⟩)
  all_goals (go_light; simp [fitsB])
  all_goals first | done | omega | (simp_all; done) | (simp_all; omega) | (rw [pow_mod _ (by omega) (by omega)]; simp_all; done) | (rw [Bool.eq_iff_iff]; simp; omega) | skip

theorem fitsR_7 (c : Cfg) (o : Opn) (ho : o.Fits) (_hbits : 0 ≤ c.bits ∧ c.bits ≤ 6) (w : World) (k : o.kind = 7) : Calls Tryz.prog 110 #[c.v, o.v] w
    fun e w' => e = .returned (.bool (fitsB c o)) ∧ Ext w w' := by
  obtain ⟨kind, a, b, c3⟩ := o
  obtain ⟨hk, ha, hb, hc⟩ := ho
  dsimp only at k hk ha hb hc
  subst k
  go_enter Tryz.func110, Tryz.ntmps110
  go_wp2
  all_goals (go_ret; refine ⟨ret_bool ?_, EX⟩)
  all_goals (go_light; simp [fitsB])
  all_goals first | done | omega | (simp_all; done) | (simp_all; omega) | (rw [pow_mod _ (by omega) (by omega)]; simp_all; done) | (rw [Bool.eq_iff_iff]; simp; omega) | skip

theorem fitsR_8 (c : Cfg) (o : Opn) (ho : o.Fits) (_hbits : 0 ≤ c.bits ∧ c.bits ≤ 6) (w : World) (k : o.kind = 8) : Calls Tryz.prog 110 #[c.v, o.v] w
    fun e w' => e = .returned (.bool (fitsB c o)) ∧ Ext w w' := by
  obtain ⟨kind, a, b, c3⟩ := o
  obtain ⟨hk, ha, hb, hc⟩ := ho
  dsimp only at k hk ha hb hc
  subst k
  go_enter Tryz.func110, Tryz.ntmps110
  go_wp2
  all_goals (go_ret; refine ⟨ret_bool ?_, EX⟩)
  all_goals (go_light; simp [fitsB])
  all_goals first | done | omega | (simp_all; done) | (simp_all; omega) | (rw [pow_mod _ (by omega) (by omega)]; simp_all; done) | (rw [Bool.eq_iff_iff]; simp; omega) | skip

theorem fitsR_9 (c : Cfg) (o : Opn) (ho : o.Fits) (_hbits : 0 ≤ c.bits ∧ c.bits ≤ 6) (w : World) (k : o.kind = 9) : Calls Tryz.prog 110 #[c.v, o.v] w
    fun e w' => e = .returned (.bool (fitsB c o)) ∧ Ext w w' := by
  obtain ⟨kind, a, b, c3⟩ := o
  obtain ⟨hk, ha, hb, hc⟩ := ho
  dsimp only at k hk ha hb hc
  subst k
  go_enter Tryz.func110, Tryz.ntmps110
  go_wp2
  all_goals (go_ret; refine ⟨ret_bool ?_, EX⟩)
  all_goals (go_light; simp [fitsB])
  all_goals first | done | omega | (simp_all; done) | (simp_all; omega) | (rw [pow_mod _ (by omega) (by omega)]; simp_all; done) | (rw [Bool.eq_iff_iff]; simp; omega) | skip

theorem fitsR_10 (c : Cfg) (o : Opn) (ho : o.Fits) (_hbits : 0 ≤ c.bits ∧ c.bits ≤ 6) (w : World) (k : o.kind = 10) : Calls Tryz.prog 110 #[c.v, o.v] w
    fun e w' => e = .returned (.bool (fitsB c o)) ∧ Ext w w' := by
  obtain ⟨kind, a, b, c3⟩ := o
  obtain ⟨hk, ha, hb, hc⟩ := ho
  dsimp only at k hk ha hb hc
  subst k
  go_enter Tryz.func110, Tryz.ntmps110
  go_wp2
  all_goals (go_ret; refine ⟨ret_bool ?_, EX⟩)
  all_goals (go_light; simp [fitsB])
  all_goals first | done | omega | (simp_all; done) | (simp_all; omega) | (rw [pow_mod _ (by omega) (by omega)]; simp_all; done) | (rw [Bool.eq_iff_iff]; simp; omega) | skip

theorem fitsR_11 (c : Cfg) (o : Opn) (ho : o.Fits) (_hbits : 0 ≤ c.bits ∧ c.bits ≤ 6) (w : World) (k : o.kind = 11) : Calls Tryz.prog 110 #[c.v, o.v] w
    fun e w' => e = .returned (.bool (fitsB c o)) ∧ Ext w w' := by
  obtain ⟨kind, a, b, c3⟩ := o
  obtain ⟨hk, ha, hb, hc⟩ := ho
  dsimp only at k hk ha hb hc
  subst k
  go_enter Tryz.func110, Tryz.ntmps110
  go_wp2
  all_goals (go_ret; refine ⟨ret_bool ?_, EX⟩)
  all_goals (go_light; simp [fitsB])
  all_goals first | done | omega | (simp_all; done) | (simp_all; omega) | (rw [pow_mod _ (by omega) (by omega)]; simp_all; done) | (rw [Bool.eq_iff_iff]; simp; omega) | skip

theorem fitsR_12 (c : Cfg) (o : Opn) (ho : o.Fits) (_hbits : 0 ≤ c.bits ∧ c.bits ≤ 6) (w : World) (k : o.kind = 12) : Calls Tryz.prog 110 #[c.v, o.v] w
    fun e w' => e = .returned (.bool (fitsB c o)) ∧ Ext w w' := by
  obtain ⟨kind, a, b, c3⟩ := o
  obtain ⟨hk, ha, hb, hc⟩ := ho
  dsimp only at k hk ha hb hc
  subst k
  go_enter Tryz.func110, Tryz.ntmps110
  go_wp2_with (go_at_call 136; refine (pathR_any ⟨12, a, b, c3⟩ ⟨hk, ha, hb, hc⟩ _).mono ?_; rintro e w1 ⟨rfl, os1, n1, rfl⟩; dsimp only; generalize hq : pathB _ _ = q; cases q)
  all_goals (go_ret; refine ⟨ret_bool ?_, EX⟩)
  all_goals (go_light; simp [fitsB])
  all_goals first | done | omega | (simp_all; done) | (simp_all; omega) | (rw [pow_mod _ (by omega) (by omega)]; simp_all; done) | (rw [Bool.eq_iff_iff]; simp; omega) | skip

theorem fitsR_13 (c : Cfg) (o : Opn) (ho : o.Fits) (_hbits : 0 ≤ c.bits ∧ c.bits ≤ 6) (w : World) (k : o.kind = 13) : Calls Tryz.prog 110 #[c.v, o.v] w
    fun e w' => e = .returned (.bool (fitsB c o)) ∧ Ext w w' := by
  obtain ⟨kind, a, b, c3⟩ := o
  obtain ⟨hk, ha, hb, hc⟩ := ho
  dsimp only at k hk ha hb hc
  subst k
  go_enter Tryz.func110, Tryz.ntmps110
  go_wp2_with (go_at_call 136; refine (pathR_any ⟨13, a, b, c3⟩ ⟨hk, ha, hb, hc⟩ _).mono ?_; rintro e w1 ⟨rfl, os1, n1, rfl⟩; dsimp only; generalize hq : pathB _ _ = q; cases q)
  all_goals (go_ret; refine ⟨ret_bool ?_, EX⟩)
  all_goals (go_light; simp [fitsB])
  all_goals first | done | omega | (simp_all; done) | (simp_all; omega) | (rw [pow_mod _ (by omega) (by omega)]; simp_all; done) | (rw [Bool.eq_iff_iff]; simp; omega) | skip

theorem fitsR_14 (c : Cfg) (o : Opn) (ho : o.Fits) (_hbits : 0 ≤ c.bits ∧ c.bits ≤ 6) (w : World) (k : o.kind = 14) : Calls Tryz.prog 110 #[c.v, o.v] w
    fun e w' => e = .returned (.bool (fitsB c o)) ∧ Ext w w' := by
  obtain ⟨kind, a, b, c3⟩ := o
  obtain ⟨hk, ha, hb, hc⟩ := ho
  dsimp only at k hk ha hb hc
  subst k
  go_enter Tryz.func110, Tryz.ntmps110
  go_wp2_with (go_at_call 136; refine (pathR_any ⟨14, a, b, c3⟩ ⟨hk, ha, hb, hc⟩ _).mono ?_; rintro e w1 ⟨rfl, os1, n1, rfl⟩; dsimp only; generalize hq : pathB _ _ = q; cases q)
  all_goals (go_ret; refine ⟨ret_bool ?_, EX⟩)
  all_goals (go_light; simp [fitsB])
  all_goals first | done | omega | (simp_all; done) | (simp_all; omega) | (rw [pow_mod _ (by omega) (by omega)]; simp_all; done) | (rw [Bool.eq_iff_iff]; simp; omega) | skip

theorem fitsR_any (c : Cfg) (o : Opn) (ho : o.Fits) (hbits : 0 ≤ c.bits ∧ c.bits ≤ 6) (hk : 1 ≤ o.kind ∧ o.kind ≤ 14) (w : World) : Calls Tryz.prog 110 #[c.v, o.v] w
    fun e w' => e = .returned (.bool (fitsB c o)) ∧ Ext w w' := by
  have h : o.kind = 1 ∨ o.kind = 2 ∨ o.kind = 3 ∨ o.kind = 4 ∨ o.kind = 5 ∨ o.kind = 6 ∨ o.kind = 7 ∨ o.kind = 8 ∨ o.kind = 9 ∨ o.kind = 10 ∨ o.kind = 11 ∨ o.kind = 12 ∨ o.kind = 13 ∨ o.kind = 14 := by omega
  rcases h with h | h | h | h | h | h | h | h | h | h | h | h | h | h
  · exact fitsR_1 c o ho hbits w h
  · exact fitsR_2 c o ho hbits w h
  · exact fitsR_3 c o ho hbits w h
  · exact fitsR_4 c o ho hbits w h
  · exact fitsR_5 c o ho hbits w h
  · exact fitsR_6 c o ho hbits w h
  · exact fitsR_7 c o ho hbits w h
  · exact fitsR_8 c o ho hbits w h
  · exact fitsR_9 c o ho hbits w h
  · exact fitsR_10 c o ho hbits w h
  · exact fitsR_11 c o ho hbits w h
  · exact fitsR_12 c o ho hbits w h
  · exact fitsR_13 c o ho hbits w h
  · exact fitsR_14 c o ho hbits w h
end Go.Proofs.YtmhmaifmendebaaGreatDoor
