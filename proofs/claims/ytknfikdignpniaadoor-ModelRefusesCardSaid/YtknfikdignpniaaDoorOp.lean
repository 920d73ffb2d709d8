/- The walks of the layer 'op' and its reference: an operation's first error. -/
import Derived.Test.YtknfikdignpniaaDoorPart
import Derived.Test.YtknfikdignpniaaDoorOpP
import Derived.Deep.Light
namespace Go.Proofs.YtknfikdignpniaaDoor
open Go Go.RowKit
set_option maxRecDepth 100000
set_option maxHeartbeats 8000000

theorem path_any (a b : Int) (ha : 0 ≤ a ∧ a ≤ 4294967295) (hb : 0 ≤ b ∧ b ≤ 4294967295) (w : World) : Calls Tryd.prog 17 #[.int .u32 a, .int .u32 b] w
    fun e w' => e = .returned (.bool (pathB a b)) ∧ w = w' := by
  obtain ⟨m, hm⟩ : ∃ m, m = a % 65536 := ⟨_, rfl⟩
  have hm2 : bits .and .u32 a 65535 = m := by rw [and_mask a ha.1 ha.2, hm]
  have HM := Lib.hid hm
  clear hm
  go_enter Tryd.func17, Tryd.ntmps17
  go_wp2
  all_goals (go_ret; refine ⟨ret_bool ?_, rfl⟩)
  all_goals (go_light; have hm := HM.out; subst hm; rw [Bool.eq_iff_iff]; simp [pathB] at *; omega)

theorem object_any (k : Int) (w : World) (hk : 0 ≤ k ∧ k ≤ 255) (hw : k < 15 → w.cell? ⟨0, k.toNat, none⟩ = some (.int .u8 (objOf k))) : Calls Tryd.prog 13 #[.int .u8 k] w
    fun e w' => e = .returned (.int .u8 (objOf k)) ∧ w = w' := by
  by_cases h : k < 15
  · have h1 := hw h
    clear hw
    go_enter Tryd.func13, Tryd.ntmps13
    go_wp2
    go_ret
    exact ⟨rfl, rfl⟩
  · go_enter Tryd.func13, Tryd.ntmps13
    go_wp2
    go_ret
    exact ⟨ret_int (by unfold objOf; split <;> (try split) <;> (try split) <;> (try split) <;> (try split) <;> omega), rfl⟩


theorem fits_1 (c : Cfg) (o : Opn) (ho : o.Fits) (_hbits : 0 ≤ c.bits ∧ c.bits ≤ 6) (w : World) (k : o.kind = 1) : Calls Tryd.prog 14 #[c.v, o.v] w
    fun e w' => e = .returned (.bool (fitsB c o)) ∧ Ext w w' := by
  obtain ⟨kind, a, b, c3⟩ := o
  obtain ⟨hk, ha, hb, hc⟩ := ho
  dsimp only at k hk ha hb hc
  subst k
  go_enter Tryd.func14, Tryd.ntmps14
  go_wp2
  all_goals (go_ret; refine ⟨ret_bool ?_, EX⟩)
  all_goals (go_light; simp [fitsB, prefixB])
  all_goals first | done | omega | (simp_all; done) | (simp_all; omega) | (rw [pow_mod _ (by omega) (by omega)]; simp_all; done) | (rw [Bool.eq_iff_iff]; simp; omega) | skip

theorem fits_2 (c : Cfg) (o : Opn) (ho : o.Fits) (_hbits : 0 ≤ c.bits ∧ c.bits ≤ 6) (w : World) (k : o.kind = 2) : Calls Tryd.prog 14 #[c.v, o.v] w
    fun e w' => e = .returned (.bool (fitsB c o)) ∧ Ext w w' := by
  obtain ⟨kind, a, b, c3⟩ := o
  obtain ⟨hk, ha, hb, hc⟩ := ho
  dsimp only at k hk ha hb hc
  subst k
  go_enter Tryd.func14, Tryd.ntmps14
  go_wp2
  all_goals (go_ret; refine ⟨ret_bool ?_, EX⟩)
  all_goals (go_light; simp [fitsB, prefixB])
  all_goals first | done | omega | (simp_all; done) | (simp_all; omega) | (rw [pow_mod _ (by omega) (by omega)]; simp_all; done) | (rw [Bool.eq_iff_iff]; simp; omega) | skip

theorem fits_3 (c : Cfg) (o : Opn) (ho : o.Fits) (_hbits : 0 ≤ c.bits ∧ c.bits ≤ 6) (w : World) (k : o.kind = 3) : Calls Tryd.prog 14 #[c.v, o.v] w
    fun e w' => e = .returned (.bool (fitsB c o)) ∧ Ext w w' := by
  obtain ⟨kind, a, b, c3⟩ := o
  obtain ⟨hk, ha, hb, hc⟩ := ho
  dsimp only at k hk ha hb hc
  subst k
  have hp := pow_mod c.bits (by omega) (by omega)
  by_cases h1 : c3 = 0
  · subst h1
    by_cases h2 : b = 0
    · subst h2
      go_enter Tryd.func14, Tryd.ntmps14
      go_wp2
      go_quiet (fail)
      go_wp2
      all_goals (go_ret; refine ⟨ret_bool ?_, EX⟩)
      all_goals (go_light; simp [fitsB])
      all_goals first | done | omega | (simp_all; done) | (simp_all; omega) | (rw [pow_mod _ (by omega) (by omega)]; simp_all; done) | (rw [Bool.eq_iff_iff]; simp; omega) | skip
    · have h2' : (b == 0) = false := by simpa using h2
      go_enter Tryd.func14, Tryd.ntmps14
      go_wp2
      go_quiet (fail)
      go_wp2
      all_goals (go_ret; refine ⟨ret_bool ?_, EX⟩)
      all_goals (go_light; simp [fitsB])
      all_goals first | done | omega | (simp_all; done) | (simp_all; omega) | (rw [pow_mod _ (by omega) (by omega)]; simp_all; done) | (rw [Bool.eq_iff_iff]; simp; omega) | skip
  · have h1' : (c3 == 0) = false := by simpa using h1
    go_enter Tryd.func14, Tryd.ntmps14
    go_wp2
    go_quiet (fail)
    go_wp2
    all_goals (go_ret; refine ⟨ret_bool ?_, EX⟩)
    all_goals (go_light; simp [fitsB])
    all_goals first | done | omega | (simp_all; done) | (simp_all; omega) | (rw [pow_mod _ (by omega) (by omega)]; simp_all; done) | (rw [Bool.eq_iff_iff]; simp; omega) | skip

theorem fits_4 (c : Cfg) (o : Opn) (ho : o.Fits) (_hbits : 0 ≤ c.bits ∧ c.bits ≤ 6) (w : World) (k : o.kind = 4) : Calls Tryd.prog 14 #[c.v, o.v] w
    fun e w' => e = .returned (.bool (fitsB c o)) ∧ Ext w w' := by
  obtain ⟨kind, a, b, c3⟩ := o
  obtain ⟨hk, ha, hb, hc⟩ := ho
  dsimp only at k hk ha hb hc
  subst k
  go_enter Tryd.func14, Tryd.ntmps14
  go_wp2
  all_goals (go_ret; refine ⟨ret_bool ?_, EX⟩)
  all_goals (go_light; simp [fitsB])
  all_goals first | done | omega | (simp_all; done) | (simp_all; omega) | (rw [pow_mod _ (by omega) (by omega)]; simp_all; done) | (rw [Bool.eq_iff_iff]; simp; omega) | skip

theorem fits_5 (c : Cfg) (o : Opn) (ho : o.Fits) (_hbits : 0 ≤ c.bits ∧ c.bits ≤ 6) (w : World) (k : o.kind = 5) : Calls Tryd.prog 14 #[c.v, o.v] w
    fun e w' => e = .returned (.bool (fitsB c o)) ∧ Ext w w' := by
  obtain ⟨kind, a, b, c3⟩ := o
  obtain ⟨hk, ha, hb, hc⟩ := ho
  dsimp only at k hk ha hb hc
  subst k
  go_enter Tryd.func14, Tryd.ntmps14
  go_wp2
  all_goals (go_ret; refine ⟨ret_bool ?_, EX⟩)
  all_goals (go_light; simp [fitsB])
  all_goals first | done | omega | (simp_all; done) | (simp_all; omega) | (rw [pow_mod _ (by omega) (by omega)]; simp_all; done) | (rw [Bool.eq_iff_iff]; simp; omega) | skip

theorem fits_6 (c : Cfg) (o : Opn) (ho : o.Fits) (_hbits : 0 ≤ c.bits ∧ c.bits ≤ 6) (w : World) (k : o.kind = 6) : Calls Tryd.prog 14 #[c.v, o.v] w
    fun e w' => e = .returned (.bool (fitsB c o)) ∧ Ext w w' := by
  obtain ⟨kind, a, b, c3⟩ := o
  obtain ⟨hk, ha, hb, hc⟩ := ho
  dsimp only at k hk ha hb hc
  subst k
  go_enter Tryd.func14, Tryd.ntmps14
  go_wp2
  all_goals (go_ret; refine ⟨ret_bool ?_, EX⟩)
  all_goals (go_light; simp [fitsB])
  all_goals first | done | omega | (simp_all; done) | (simp_all; omega) | (rw [pow_mod _ (by omega) (by omega)]; simp_all; done) | (rw [Bool.eq_iff_iff]; simp; omega) | skip

theorem fits_7 (c : Cfg) (o : Opn) (ho : o.Fits) (_hbits : 0 ≤ c.bits ∧ c.bits ≤ 6) (w : World) (k : o.kind = 7) : Calls Tryd.prog 14 #[c.v, o.v] w
    fun e w' => e = .returned (.bool (fitsB c o)) ∧ Ext w w' := by
  obtain ⟨kind, a, b, c3⟩ := o
  obtain ⟨hk, ha, hb, hc⟩ := ho
  dsimp only at k hk ha hb hc
  subst k
  go_enter Tryd.func14, Tryd.ntmps14
  go_wp2
  all_goals (go_ret; refine ⟨ret_bool ?_, EX⟩)
  all_goals (go_light; simp [fitsB])
  all_goals first | done | omega | (simp_all; done) | (simp_all; omega) | (rw [pow_mod _ (by omega) (by omega)]; simp_all; done) | (rw [Bool.eq_iff_iff]; simp; omega) | skip

theorem fits_8 (c : Cfg) (o : Opn) (ho : o.Fits) (_hbits : 0 ≤ c.bits ∧ c.bits ≤ 6) (w : World) (k : o.kind = 8) : Calls Tryd.prog 14 #[c.v, o.v] w
    fun e w' => e = .returned (.bool (fitsB c o)) ∧ Ext w w' := by
  obtain ⟨kind, a, b, c3⟩ := o
  obtain ⟨hk, ha, hb, hc⟩ := ho
  dsimp only at k hk ha hb hc
  subst k
  go_enter Tryd.func14, Tryd.ntmps14
  go_wp2
  all_goals (go_ret; refine ⟨ret_bool ?_, EX⟩)
  all_goals (go_light; simp [fitsB])
  all_goals first | done | omega | (simp_all; done) | (simp_all; omega) | (rw [pow_mod _ (by omega) (by omega)]; simp_all; done) | (rw [Bool.eq_iff_iff]; simp; omega) | skip

theorem fits_9 (c : Cfg) (o : Opn) (ho : o.Fits) (_hbits : 0 ≤ c.bits ∧ c.bits ≤ 6) (w : World) (k : o.kind = 9) : Calls Tryd.prog 14 #[c.v, o.v] w
    fun e w' => e = .returned (.bool (fitsB c o)) ∧ Ext w w' := by
  obtain ⟨kind, a, b, c3⟩ := o
  obtain ⟨hk, ha, hb, hc⟩ := ho
  dsimp only at k hk ha hb hc
  subst k
  go_enter Tryd.func14, Tryd.ntmps14
  go_wp2
  all_goals (go_ret; refine ⟨ret_bool ?_, EX⟩)
  all_goals (go_light; simp [fitsB])
  all_goals first | done | omega | (simp_all; done) | (simp_all; omega) | (rw [pow_mod _ (by omega) (by omega)]; simp_all; done) | (rw [Bool.eq_iff_iff]; simp; omega) | skip

theorem fits_10 (c : Cfg) (o : Opn) (ho : o.Fits) (_hbits : 0 ≤ c.bits ∧ c.bits ≤ 6) (w : World) (k : o.kind = 10) : Calls Tryd.prog 14 #[c.v, o.v] w
    fun e w' => e = .returned (.bool (fitsB c o)) ∧ Ext w w' := by
  obtain ⟨kind, a, b, c3⟩ := o
  obtain ⟨hk, ha, hb, hc⟩ := ho
  dsimp only at k hk ha hb hc
  subst k
  go_enter Tryd.func14, Tryd.ntmps14
  go_wp2
  all_goals (go_ret; refine ⟨ret_bool ?_, EX⟩)
  all_goals (go_light; simp [fitsB])
  all_goals first | done | omega | (simp_all; done) | (simp_all; omega) | (rw [pow_mod _ (by omega) (by omega)]; simp_all; done) | (rw [Bool.eq_iff_iff]; simp; omega) | skip

theorem fits_11 (c : Cfg) (o : Opn) (ho : o.Fits) (_hbits : 0 ≤ c.bits ∧ c.bits ≤ 6) (w : World) (k : o.kind = 11) : Calls Tryd.prog 14 #[c.v, o.v] w
    fun e w' => e = .returned (.bool (fitsB c o)) ∧ Ext w w' := by
  obtain ⟨kind, a, b, c3⟩ := o
  obtain ⟨hk, ha, hb, hc⟩ := ho
  dsimp only at k hk ha hb hc
  subst k
  go_enter Tryd.func14, Tryd.ntmps14
  go_wp2
  all_goals (go_ret; refine ⟨ret_bool ?_, EX⟩)
  all_goals (go_light; simp [fitsB])
  all_goals first | done | omega | (simp_all; done) | (simp_all; omega) | (rw [pow_mod _ (by omega) (by omega)]; simp_all; done) | (rw [Bool.eq_iff_iff]; simp; omega) | skip

theorem fits_12 (c : Cfg) (o : Opn) (ho : o.Fits) (_hbits : 0 ≤ c.bits ∧ c.bits ≤ 6) (w : World) (k : o.kind = 12) : Calls Tryd.prog 14 #[c.v, o.v] w
    fun e w' => e = .returned (.bool (fitsB c o)) ∧ Ext w w' := by
  obtain ⟨kind, a, b, c3⟩ := o
  obtain ⟨hk, ha, hb, hc⟩ := ho
  dsimp only at k hk ha hb hc
  subst k
  go_enter Tryd.func14, Tryd.ntmps14
  go_wp2_with (go_at_call 17; refine (path_any _ _ ha hb _).mono ?_; rintro e w' ⟨rfl, rfl⟩; generalize hq : pathB _ _ = q; cases q)
  all_goals (go_ret; refine ⟨ret_bool ?_, EX⟩)
  all_goals (go_light; simp [fitsB])
  all_goals first | done | omega | (simp_all; done) | (simp_all; omega) | (rw [pow_mod _ (by omega) (by omega)]; simp_all; done) | (rw [Bool.eq_iff_iff]; simp; omega) | skip

theorem fits_13 (c : Cfg) (o : Opn) (ho : o.Fits) (_hbits : 0 ≤ c.bits ∧ c.bits ≤ 6) (w : World) (k : o.kind = 13) : Calls Tryd.prog 14 #[c.v, o.v] w
    fun e w' => e = .returned (.bool (fitsB c o)) ∧ Ext w w' := by
  obtain ⟨kind, a, b, c3⟩ := o
  obtain ⟨hk, ha, hb, hc⟩ := ho
  dsimp only at k hk ha hb hc
  subst k
  go_enter Tryd.func14, Tryd.ntmps14
  go_wp2_with (go_at_call 17; refine (path_any _ _ ha hb _).mono ?_; rintro e w' ⟨rfl, rfl⟩; generalize hq : pathB _ _ = q; cases q)
  all_goals (go_ret; refine ⟨ret_bool ?_, EX⟩)
  all_goals (go_light; simp [fitsB])
  all_goals first | done | omega | (simp_all; done) | (simp_all; omega) | (rw [pow_mod _ (by omega) (by omega)]; simp_all; done) | (rw [Bool.eq_iff_iff]; simp; omega) | skip

theorem fits_14 (c : Cfg) (o : Opn) (ho : o.Fits) (_hbits : 0 ≤ c.bits ∧ c.bits ≤ 6) (w : World) (k : o.kind = 14) : Calls Tryd.prog 14 #[c.v, o.v] w
    fun e w' => e = .returned (.bool (fitsB c o)) ∧ Ext w w' := by
  obtain ⟨kind, a, b, c3⟩ := o
  obtain ⟨hk, ha, hb, hc⟩ := ho
  dsimp only at k hk ha hb hc
  subst k
  go_enter Tryd.func14, Tryd.ntmps14
  go_wp2_with (go_at_call 17; refine (path_any _ _ ha hb _).mono ?_; rintro e w' ⟨rfl, rfl⟩; generalize hq : pathB _ _ = q; cases q)
  all_goals (go_ret; refine ⟨ret_bool ?_, EX⟩)
  all_goals (go_light; simp [fitsB])
  all_goals first | done | omega | (simp_all; done) | (simp_all; omega) | (rw [pow_mod _ (by omega) (by omega)]; simp_all; done) | (rw [Bool.eq_iff_iff]; simp; omega) | skip

theorem fits_any (c : Cfg) (o : Opn) (ho : o.Fits) (hbits : 0 ≤ c.bits ∧ c.bits ≤ 6) (hk : 1 ≤ o.kind ∧ o.kind ≤ 14) (w : World) : Calls Tryd.prog 14 #[c.v, o.v] w
    fun e w' => e = .returned (.bool (fitsB c o)) ∧ Ext w w' := by
  have h : o.kind = 1 ∨ o.kind = 2 ∨ o.kind = 3 ∨ o.kind = 4 ∨ o.kind = 5 ∨ o.kind = 6 ∨ o.kind = 7 ∨ o.kind = 8 ∨ o.kind = 9 ∨ o.kind = 10 ∨ o.kind = 11 ∨ o.kind = 12 ∨ o.kind = 13 ∨ o.kind = 14 := by omega
  rcases h with h | h | h | h | h | h | h | h | h | h | h | h | h | h
  · exact fits_1 c o ho hbits w h
  · exact fits_2 c o ho hbits w h
  · exact fits_3 c o ho hbits w h
  · exact fits_4 c o ho hbits w h
  · exact fits_5 c o ho hbits w h
  · exact fits_6 c o ho hbits w h
  · exact fits_7 c o ho hbits w h
  · exact fits_8 c o ho hbits w h
  · exact fits_9 c o ho hbits w h
  · exact fits_10 c o ho hbits w h
  · exact fits_11 c o ho hbits w h
  · exact fits_12 c o ho hbits w h
  · exact fits_13 c o ho hbits w h
  · exact fits_14 c o ho hbits w h
end Go.Proofs.YtknfikdignpniaaDoor
