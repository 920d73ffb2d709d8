/- The walks of the layers 'part' and its reference: a config may be, or not. -/
import Derived.Test.YtkklhhdkokncnaaDoorProg
import Derived.Test.YtkklhhdkokncnaaDoorA0
import Derived.Deep.QuietTactic
import Derived.BigQuiet
import Derived.Lib.Hide
import Derived.Deep.Light
namespace Go.Proofs.YtkklhhdkokncnaaDoor
open Go Go.RowKit
set_option maxRecDepth 100000
set_option maxHeartbeats 8000000

theorem within_any (is : Bool) (n a b : Int) (w : World) : Calls Tryd.prog 91 #[.bool is, .int .i64 n, .int .i64 a, .int .i64 b] w
    fun e w' => e = .returned (.bool (within is n a b)) ∧ w = w' := by
  cases is
  · go_enter Tryd.func91, Tryd.ntmps91
    go_wp2
    go_ret
    exact ⟨by simp [within], rfl⟩
  · go_enter Tryd.func91, Tryd.ntmps91
    go_wp2
    all_goals go_ret
    · have h : a ≤ n := by assumption
      exact ⟨by simp [within, h], rfl⟩
    · have h : n < a := by assumption
      exact ⟨by simp [within, show ¬ a ≤ n by omega], rfl⟩

theorem partCheck_any (c : Cfg) (w : World) : Calls Tryd.prog 53 #[c.v] w
    fun e w' => e = .returned (.int .i64 (confN c)) ∧ Ext w w' := by
  go_enter Tryd.func53, Tryd.ntmps53
  go_wp2
  go_quiet (fail)
  go_wp2_with (go_at_call 91; refine (within_any _ _ _ _ _).mono ?_; rintro e w' ⟨rfl, rfl⟩; generalize hq : within _ _ _ _ = q; cases q)
  all_goals (go_ret; refine ⟨ret_int ?_, EX⟩)
  all_goals (try clear ‹∀ (_ : Act) (_ : World), _›)
  all_goals (simp_all [confN, partOk])
  all_goals omega
end Go.Proofs.YtkklhhdkokncnaaDoor
/- The walks of the layer 'op' and its reference: an operation's first error. -/
namespace Go.Proofs.YtkklhhdkokncnaaDoor
open Go Go.RowKit
set_option maxRecDepth 100000
set_option maxHeartbeats 8000000

theorem path_any (a b : Int) (ha : 0 ≤ a ∧ a ≤ 4294967295) (hb : 0 ≤ b ∧ b ≤ 4294967295) (w : World) : Calls Tryd.prog 106 #[.int .u32 a, .int .u32 b] w
    fun e w' => e = .returned (.bool (pathB a b)) ∧ w = w' := by
  obtain ⟨m, hm⟩ : ∃ m, m = a % 65536 := ⟨_, rfl⟩
  have hm2 : bits .and .u32 a 65535 = m := by rw [and_mask a ha.1 ha.2, hm]
  have HM := Lib.hid hm
  clear hm
  go_enter Tryd.func106, Tryd.ntmps106
  go_wp2
  all_goals (go_ret; refine ⟨ret_bool ?_, rfl⟩)
  all_goals (go_light; have hm := HM.out; subst hm; rw [Bool.eq_iff_iff]; simp [pathB] at *; omega)

theorem object_any (k : Int) (w : World) (hk : 0 ≤ k ∧ k ≤ 255) (hw : k < 15 → w.cell? ⟨1, k.toNat, none⟩ = some (.int .u8 (objOf k))) : Calls Tryd.prog 85 #[.int .u8 k] w
    fun e w' => e = .returned (.int .u8 (objOf k)) ∧ w = w' := by
  by_cases h : k < 15
  · have h1 := hw h
    clear hw
    go_enter Tryd.func85, Tryd.ntmps85
    go_wp2
    go_ret
    exact ⟨rfl, rfl⟩
  · go_enter Tryd.func85, Tryd.ntmps85
    go_wp2
    go_ret
    exact ⟨ret_int (by unfold objOf; split <;> (try split) <;> (try split) <;> (try split) <;> (try split) <;> omega), rfl⟩


theorem fits_1 (c : Cfg) (o : Opn) (ho : o.Fits) (_hbits : 0 ≤ c.bits ∧ c.bits ≤ 6) (w : World) (k : o.kind = 1) : Calls Tryd.prog 86 #[c.v, o.v] w
    fun e w' => e = .returned (.bool (fitsB c o)) ∧ Ext w w' := by
  obtain ⟨kind, a, b, c3⟩ := o
  obtain ⟨hk, ha, hb, hc⟩ := ho
  dsimp only at k hk ha hb hc
  subst k
  go_enter Tryd.func86, Tryd.ntmps86
  go_wp2
  all_goals (go_ret; refine ⟨ret_bool ?_, EX⟩)
  all_goals (go_light; simp [fitsB, prefixB])
  all_goals first | done | omega | (simp_all; done) | (simp_all; omega) | (rw [pow_mod _ (by omega) (by omega)]; simp_all; done) | (rw [Bool.eq_iff_iff]; simp; omega) | skip

theorem fits_2 (c : Cfg) (o : Opn) (ho : o.Fits) (_hbits : 0 ≤ c.bits ∧ c.bits ≤ 6) (w : World) (k : o.kind = 2) : Calls Tryd.prog 86 #[c.v, o.v] w
    fun e w' => e = .returned (.bool (fitsB c o)) ∧ Ext w w' := by
  obtain ⟨kind, a, b, c3⟩ := o
  obtain ⟨hk, ha, hb, hc⟩ := ho
  dsimp only at k hk ha hb hc
  subst k
  go_enter Tryd.func86, Tryd.ntmps86
  go_wp2
  all_goals (go_ret; refine ⟨ret_bool ?_, EX⟩)
  all_goals (go_light; simp [fitsB, prefixB])
  all_goals first | done | omega | (simp_all; done) | (simp_all; omega) | (rw [pow_mod _ (by omega) (by omega)]; simp_all; done) | (rw [Bool.eq_iff_iff]; simp; omega) | skip

theorem fits_3 (c : Cfg) (o : Opn) (ho : o.Fits) (_hbits : 0 ≤ c.bits ∧ c.bits ≤ 6) (w : World) (k : o.kind = 3) : Calls Tryd.prog 86 #[c.v, o.v] w
    fun e w' => e = .returned (.bool (fitsB c o)) ∧ Ext w w' := by
  obtain ⟨kind, a, b, c3⟩ := o
  obtain ⟨hk, ha, hb, hc⟩ := ho
  dsimp only at k hk ha hb hc
  subst k
  have hp := pow_mod c.bits (by omega) (by omega)
  by_cases h1 : c3 = 0
  · subst h1
    by_cases h2 : b = 0
    · subst h2
      go_enter Tryd.func86, Tryd.ntmps86
      go_wp2
      go_quiet (fail)
      go_wp2
      all_goals (go_ret; refine ⟨ret_bool ?_, EX⟩)
      all_goals (go_light; simp [fitsB])
      all_goals first | done | omega | (simp_all; done) | (simp_all; omega) | (rw [pow_mod _ (by omega) (by omega)]; simp_all; done) | (rw [Bool.eq_iff_iff]; simp; omega) | skip
    · have h2' : (b == 0) = false := by simpa using h2
      go_enter Tryd.func86, Tryd.ntmps86
      go_wp2
      go_quiet (fail)
      go_wp2
      all_goals (go_ret; refine ⟨ret_bool ?_, EX⟩)
      all_goals (go_light; simp [fitsB])
      all_goals first | done | omega | (simp_all; done) | (simp_all; omega) | (rw [pow_mod _ (by omega) (by omega)]; simp_all; done) | (rw [Bool.eq_iff_iff]; simp; omega) | skip
  · have h1' : (c3 == 0) = false := by simpa using h1
    go_enter Tryd.func86, Tryd.ntmps86
    go_wp2
    go_quiet (fail)
    go_wp2
    all_goals (go_ret; refine ⟨ret_bool ?_, EX⟩)
    all_goals (go_light; simp [fitsB])
    all_goals first | done | omega | (simp_all; done) | (simp_all; omega) | (rw [pow_mod _ (by omega) (by omega)]; simp_all; done) | (rw [Bool.eq_iff_iff]; simp; omega) | skip

theorem fits_4 (c : Cfg) (o : Opn) (ho : o.Fits) (_hbits : 0 ≤ c.bits ∧ c.bits ≤ 6) (w : World) (k : o.kind = 4) : Calls Tryd.prog 86 #[c.v, o.v] w
    fun e w' => e = .returned (.bool (fitsB c o)) ∧ Ext w w' := by
  obtain ⟨kind, a, b, c3⟩ := o
  obtain ⟨hk, ha, hb, hc⟩ := ho
  dsimp only at k hk ha hb hc
  subst k
  go_enter Tryd.func86, Tryd.ntmps86
  go_wp2
  all_goals (go_ret; refine ⟨ret_bool ?_, EX⟩)
  all_goals (go_light; simp [fitsB])
  all_goals first | done | omega | (simp_all; done) | (simp_all; omega) | (rw [pow_mod _ (by omega) (by omega)]; simp_all; done) | (rw [Bool.eq_iff_iff]; simp; omega) | skip

theorem fits_5 (c : Cfg) (o : Opn) (ho : o.Fits) (_hbits : 0 ≤ c.bits ∧ c.bits ≤ 6) (w : World) (k : o.kind = 5) : Calls Tryd.prog 86 #[c.v, o.v] w
    fun e w' => e = .returned (.bool (fitsB c o)) ∧ Ext w w' := by
  obtain ⟨kind, a, b, c3⟩ := o
  obtain ⟨hk, ha, hb, hc⟩ := ho
  dsimp only at k hk ha hb hc
  subst k
  go_enter Tryd.func86, Tryd.ntmps86
  go_wp2
  all_goals (go_ret; refine ⟨ret_bool ?_, EX⟩)
  all_goals (go_light; simp [fitsB])
  all_goals first | done | omega | (simp_all; done) | (simp_all; omega) | (rw [pow_mod _ (by omega) (by omega)]; simp_all; done) | (rw [Bool.eq_iff_iff]; simp; omega) | skip

theorem fits_6 (c : Cfg) (o : Opn) (ho : o.Fits) (_hbits : 0 ≤ c.bits ∧ c.bits ≤ 6) (w : World) (k : o.kind = 6) : Calls Tryd.prog 86 #[c.v, o.v] w
    fun e w' => e = .returned (.bool (fitsB c o)) ∧ Ext w w' := by
  obtain ⟨kind, a, b, c3⟩ := o
  obtain ⟨hk, ha, hb, hc⟩ := ho
  dsimp only at k hk ha hb hc
  subst k
  go_enter Tryd.func86, Tryd.ntmps86
  go_wp2
  all_goals (go_ret; refine ⟨ret_bool ?_, EX⟩)
  all_goals (go_light; simp [fitsB])
  all_goals first | done | omega | (simp_all; done) | (simp_all; omega) | (rw [pow_mod _ (by omega) (by omega)]; simp_all; done) | (rw [Bool.eq_iff_iff]; simp; omega) | skip

theorem fits_7 (c : Cfg) (o : Opn) (ho : o.Fits) (_hbits : 0 ≤ c.bits ∧ c.bits ≤ 6) (w : World) (k : o.kind = 7) : Calls Tryd.prog 86 #[c.v, o.v] w
    fun e w' => e = .returned (.bool (fitsB c o)) ∧ Ext w w' := by
  obtain ⟨kind, a, b, c3⟩ := o
  obtain ⟨hk, ha, hb, hc⟩ := ho
  dsimp only at k hk ha hb hc
  subst k
  go_enter Tryd.func86, Tryd.ntmps86
  go_wp2
  all_goals (go_ret; refine ⟨ret_bool ?_, EX⟩)
  all_goals (go_light; simp [fitsB])
  all_goals first | done | omega | (simp_all; done) | (simp_all; omega) | (rw [pow_mod _ (by omega) (by omega)]; simp_all; done) | (rw [Bool.eq_iff_iff]; simp; omega) | skip

theorem fits_8 (c : Cfg) (o : Opn) (ho : o.Fits) (_hbits : 0 ≤ c.bits ∧ c.bits ≤ 6) (w : World) (k : o.kind = 8) : Calls Tryd.prog 86 #[c.v, o.v] w
    fun e w' => e = .returned (.bool (fitsB c o)) ∧ Ext w w' := by
  obtain ⟨kind, a, b, c3⟩ := o
  obtain ⟨hk, ha, hb, hc⟩ := ho
  dsimp only at k hk ha hb hc
  subst k
  go_enter Tryd.func86, Tryd.ntmps86
  go_wp2
  all_goals (go_ret; refine ⟨ret_bool ?_, EX⟩)
  all_goals (go_light; simp [fitsB])
  all_goals first | done | omega | (simp_all; done) | (simp_all; omega) | (rw [pow_mod _ (by omega) (by omega)]; simp_all; done) | (rw [Bool.eq_iff_iff]; simp; omega) | skip

theorem fits_9 (c : Cfg) (o : Opn) (ho : o.Fits) (_hbits : 0 ≤ c.bits ∧ c.bits ≤ 6) (w : World) (k : o.kind = 9) : Calls Tryd.prog 86 #[c.v, o.v] w
    fun e w' => e = .returned (.bool (fitsB c o)) ∧ Ext w w' := by
  obtain ⟨kind, a, b, c3⟩ := o
  obtain ⟨hk, ha, hb, hc⟩ := ho
  dsimp only at k hk ha hb hc
  subst k
  go_enter Tryd.func86, Tryd.ntmps86
  go_wp2
  all_goals (go_ret; refine ⟨ret_bool ?_, EX⟩)
  all_goals (go_light; simp [fitsB])
  all_goals first | done | omega | (simp_all; done) | (simp_all; omega) | (rw [pow_mod _ (by omega) (by omega)]; simp_all; done) | (rw [Bool.eq_iff_iff]; simp; omega) | skip

theorem fits_10 (c : Cfg) (o : Opn) (ho : o.Fits) (_hbits : 0 ≤ c.bits ∧ c.bits ≤ 6) (w : World) (k : o.kind = 10) : Calls Tryd.prog 86 #[c.v, o.v] w
    fun e w' => e = .returned (.bool (fitsB c o)) ∧ Ext w w' := by
  obtain ⟨kind, a, b, c3⟩ := o
  obtain ⟨hk, ha, hb, hc⟩ := ho
  dsimp only at k hk ha hb hc
  subst k
  go_enter Tryd.func86, Tryd.ntmps86
  go_wp2
  all_goals (go_ret; refine ⟨ret_bool ?_, EX⟩)
  all_goals (go_light; simp [fitsB])
  all_goals first | done | omega | (simp_all; done) | (simp_all; omega) | (rw [pow_mod _ (by omega) (by omega)]; simp_all; done) | (rw [Bool.eq_iff_iff]; simp; omega) | skip

theorem fits_11 (c : Cfg) (o : Opn) (ho : o.Fits) (_hbits : 0 ≤ c.bits ∧ c.bits ≤ 6) (w : World) (k : o.kind = 11) : Calls Tryd.prog 86 #[c.v, o.v] w
    fun e w' => e = .returned (.bool (fitsB c o)) ∧ Ext w w' := by
  obtain ⟨kind, a, b, c3⟩ := o
  obtain ⟨hk, ha, hb, hc⟩ := ho
  dsimp only at k hk ha hb hc
  subst k
  go_enter Tryd.func86, Tryd.ntmps86
  go_wp2
  all_goals (go_ret; refine ⟨ret_bool ?_, EX⟩)
  all_goals (go_light; simp [fitsB])
  all_goals first | done | omega | (simp_all; done) | (simp_all; omega) | (rw [pow_mod _ (by omega) (by omega)]; simp_all; done) | (rw [Bool.eq_iff_iff]; simp; omega) | skip

theorem fits_12 (c : Cfg) (o : Opn) (ho : o.Fits) (_hbits : 0 ≤ c.bits ∧ c.bits ≤ 6) (w : World) (k : o.kind = 12) : Calls Tryd.prog 86 #[c.v, o.v] w
    fun e w' => e = .returned (.bool (fitsB c o)) ∧ Ext w w' := by
  obtain ⟨kind, a, b, c3⟩ := o
  obtain ⟨hk, ha, hb, hc⟩ := ho
  dsimp only at k hk ha hb hc
  subst k
  go_enter Tryd.func86, Tryd.ntmps86
  go_wp2_with (go_at_call 106; refine (path_any _ _ ha hb _).mono ?_; rintro e w' ⟨rfl, rfl⟩; generalize hq : pathB _ _ = q; cases q)
  all_goals (go_ret; refine ⟨ret_bool ?_, EX⟩)
  all_goals (go_light; simp [fitsB])
  all_goals first | done | omega | (simp_all; done) | (simp_all; omega) | (rw [pow_mod _ (by omega) (by omega)]; simp_all; done) | (rw [Bool.eq_iff_iff]; simp; omega) | skip

theorem fits_13 (c : Cfg) (o : Opn) (ho : o.Fits) (_hbits : 0 ≤ c.bits ∧ c.bits ≤ 6) (w : World) (k : o.kind = 13) : Calls Tryd.prog 86 #[c.v, o.v] w
    fun e w' => e = .returned (.bool (fitsB c o)) ∧ Ext w w' := by
  obtain ⟨kind, a, b, c3⟩ := o
  obtain ⟨hk, ha, hb, hc⟩ := ho
  dsimp only at k hk ha hb hc
  subst k
  go_enter Tryd.func86, Tryd.ntmps86
  go_wp2_with (go_at_call 106; refine (path_any _ _ ha hb _).mono ?_; rintro e w' ⟨rfl, rfl⟩; generalize hq : pathB _ _ = q; cases q)
  all_goals (go_ret; refine ⟨ret_bool ?_, EX⟩)
  all_goals (go_light; simp [fitsB])
  all_goals first | done | omega | (simp_all; done) | (simp_all; omega) | (rw [pow_mod _ (by omega) (by omega)]; simp_all; done) | (rw [Bool.eq_iff_iff]; simp; omega) | skip

theorem fits_14 (c : Cfg) (o : Opn) (ho : o.Fits) (_hbits : 0 ≤ c.bits ∧ c.bits ≤ 6) (w : World) (k : o.kind = 14) : Calls Tryd.prog 86 #[c.v, o.v] w
    fun e w' => e = .returned (.bool (fitsB c o)) ∧ Ext w w' := by
  obtain ⟨kind, a, b, c3⟩ := o
  obtain ⟨hk, ha, hb, hc⟩ := ho
  dsimp only at k hk ha hb hc
  subst k
  go_enter Tryd.func86, Tryd.ntmps86
  go_wp2_with (go_at_call 106; refine (path_any _ _ ha hb _).mono ?_; rintro e w' ⟨rfl, rfl⟩; generalize hq : pathB _ _ = q; cases q)
  all_goals (go_ret; refine ⟨ret_bool ?_, EX⟩)
  all_goals (go_light; simp [fitsB])
  all_goals first | done | omega | (simp_all; done) | (simp_all; omega) | (rw [pow_mod _ (by omega) (by omega)]; simp_all; done) | (rw [Bool.eq_iff_iff]; simp; omega) | skip

theorem fits_any (c : Cfg) (o : Opn) (ho : o.Fits) (hbits : 0 ≤ c.bits ∧ c.bits ≤ 6) (hk : 1 ≤ o.kind ∧ o.kind ≤ 14) (w : World) : Calls Tryd.prog 86 #[c.v, o.v] w
    fun e w' => e = .returned (.bool (fitsB c o)) ∧ Ext w w' := by
  have h : o.kind = 1 ∨ o.kind = 2 ∨ o.kind = 3 ∨ o.kind = 4 ∨ o.kind = 5 ∨ o.kind = 6 ∨ o.kind = 7 ∨ o.kind = 8 ∨ o.kind = 9 ∨ o.kind = 10 ∨ o.kind = 11 ∨ o.kind = 12 ∨ o.kind = 13 ∨ o.kind = 14 := by omega
  rcases h with h | h | h | h | h | h | h | h | h | h | h | h | h | h
  · exact fits_1 c o ho hbits w h
  · exact fits_2 c o ho hbits w h
  · exact fits_3 c o ho hbits w h
  · exact fits_4 c o ho hbits w h
  · exact fits_5 c o ho hbits w h
  · exact fits_6 c o ho hbits w h
  · exact fits_7 c o ho hbits w h
  · exact fits_8 c o ho hbits w h
  · exact fits_9 c o ho hbits w h
  · exact fits_10 c o ho hbits w h
  · exact fits_11 c o ho hbits w h
  · exact fits_12 c o ho hbits w h
  · exact fits_13 c o ho hbits w h
  · exact fits_14 c o ho hbits w h
end Go.Proofs.YtkklhhdkokncnaaDoor
/- The walks of 'op.Check'. -/
namespace Go.Proofs.YtkklhhdkokncnaaDoor
open Go Go.RowKit
set_option maxRecDepth 100000
set_option maxHeartbeats 8000000

theorem opCheck_any (c : Cfg) (o : Opn) (ho : o.Fits) (w : World) (ht : Tab w) : Calls Tryd.prog 46 #[c.v, o.v] w
    fun e w' => e = .returned (.int .i64 (opErr c o)) ∧ Ext w w' := by
  have HO := Lib.hid ho
  clear ho
  cases hp : partOk c
  · have HE := Lib.hid (opErr_conf (o := o) hp)
    have HC := Lib.hid (conf_no hp)
    clear hp
    go_enter Tryd.func46, Tryd.ntmps46
    go_wp2_with (go_at_call 53; refine (partCheck_any c _).mono ?_; rintro e w1 ⟨rfl, os1, n1, rfl⟩; rw [HC.out];)
    go_ret
    exact ⟨ret_int HE.out.symm, EX⟩
  · have hbits := partOk_bits hp
    have hobj := partOk_object hp
    have HC := Lib.hid (conf_ok hp)
    cases h2 : (objOf o.kind == c.object)
    · have HE := Lib.hid (opErr_op hp h2)
      clear hp
      go_enter Tryd.func46, Tryd.ntmps46
      go_wp2_with (go_at_call 53; refine (partCheck_any c _).mono ?_; rintro e w1 ⟨rfl, os1, n1, rfl⟩; rw [HC.out];)
      go_quiet ((go_at_call 85; refine quiet_left (object_any _ _ HO.out.kind (fun hk => Tab.at (Tab.ext ht ?_) HO.out.kind.1 hk)); exact EX))
      go_wp2
      go_ret
      exact ⟨ret_int HE.out.symm, EX⟩
    · have HK := Lib.hid (kind_of hobj h2)
      cases h3 : fitsB c o
      · have HE := Lib.hid (opErr_over hp h2 h3)
        have HF := Lib.hid h3
        clear hp h3
        go_enter Tryd.func46, Tryd.ntmps46
        go_wp2_with (go_at_call 53; refine (partCheck_any c _).mono ?_; rintro e w1 ⟨rfl, os1, n1, rfl⟩; rw [HC.out];)
        go_quiet ((go_at_call 85; refine quiet_left (object_any _ _ HO.out.kind (fun hk => Tab.at (Tab.ext ht ?_) HO.out.kind.1 hk)); exact EX))
        go_wp2_with (go_at_call 86; refine (fits_any c o HO.out hbits HK.out _).mono ?_; rintro e w2 ⟨rfl, os2, n2, rfl⟩; rw [HF.out];)
        go_ret
        exact ⟨ret_int HE.out.symm, EX⟩
      · have HE := Lib.hid (opErr_ok hp h2 h3)
        have HF := Lib.hid h3
        clear hp h3
        go_enter Tryd.func46, Tryd.ntmps46
        go_wp2_with (go_at_call 53; refine (partCheck_any c _).mono ?_; rintro e w1 ⟨rfl, os1, n1, rfl⟩; rw [HC.out];)
        go_quiet ((go_at_call 85; refine quiet_left (object_any _ _ HO.out.kind (fun hk => Tab.at (Tab.ext ht ?_) HO.out.kind.1 hk)); exact EX))
        go_wp2_with (go_at_call 86; refine (fits_any c o HO.out hbits HK.out _).mono ?_; rintro e w2 ⟨rfl, os2, n2, rfl⟩; rw [HF.out];)
        go_ret
        exact ⟨ret_int HE.out.symm, EX⟩
end Go.Proofs.YtkklhhdkokncnaaDoor
