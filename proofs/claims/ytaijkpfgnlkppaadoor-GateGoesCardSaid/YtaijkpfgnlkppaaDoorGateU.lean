/- The walks of the reference's 'After'. -/
import Derived.Test.YtaijkpfgnlkppaaDoorGateR
import Derived.Test.YtaijkpfgnlkppaaDoorGateQ
namespace Go.Proofs.YtaijkpfgnlkppaaDoor
open Go Go.RowKit

theorem hasR_any (f : Frm) (l : Cel) (hf : f.Fits) (w : World) : Calls Tryd.prog 51 #[f.v, l.v] w
    fun e w' => e = .returned (.bool (gateThere f l)) ∧ Ext w w' := by
  obtain ⟨_, ⟨a0, a1⟩, ⟨b0, b1⟩, _, _, _, _, _, _, _, _⟩ := hf
  go_enter Tryd.func51, Tryd.ntmps51
  go_wp2
  all_goals (go_ret; refine ⟨ret_bool ?_, (by repeat (first | with_reducible exact Ext.refl _ | with_reducible assumption | with_reducible refine Ext.alloc ?_ _ | with_reducible refine Ext.drewN ?_ _ | with_reducible refine Ext.drew ?_ | with_reducible refine Ext.setCell ?_ ?_ _ | with_reducible refine Ext.more ?_ _ _ | (show _ ≤ _; dsimp only; omega)))⟩)
  all_goals (go_light; rw [Bool.eq_iff_iff]; simp_all [gateThere])

theorem speaksR_any (f : Frm) (l : Cel) (hf : f.Fits) (w : World) : Calls Tryd.prog 61 #[f.v, l.v] w
    fun e w' => e = .returned (.bool (gateSpeaks f l)) ∧ Ext w w' := by
  obtain ⟨_, ⟨a0, a1⟩, ⟨b0, b1⟩, _, _, _, _, _, _, _, _⟩ := hf
  go_enter Tryd.func61, Tryd.ntmps61
  go_wp2
  all_goals (go_ret; refine ⟨ret_bool ?_, (by repeat (first | with_reducible exact Ext.refl _ | with_reducible assumption | with_reducible refine Ext.alloc ?_ _ | with_reducible refine Ext.drewN ?_ _ | with_reducible refine Ext.drew ?_ | with_reducible refine Ext.setCell ?_ ?_ _ | with_reducible refine Ext.more ?_ _ _ | (show _ ≤ _; dsimp only; omega)))⟩)
  all_goals (go_light; rw [Bool.eq_iff_iff]; simp_all [gateSpeaks])

set_option maxHeartbeats 4000000 in
theorem checkedR_any (c : Cfg) (f : Frm) (l : Cel) (hf : f.Fits) (hp : f.pc = 0) (hk : f.kind = 11) (hi : f.i < c.cap) (hc : c.cap ≤ 32) (w : World) : Calls Tryd.prog 50 #[c.v, f.v, l.v] w
    fun e w' => e = .returned (gateSeek c f l).v ∧ Ext w w' := by
  have HF := Lib.hid hf
  obtain ⟨_, ⟨a0, a1⟩, ⟨b0, b1⟩, ⟨p0, p1⟩, ⟨i0, i1⟩, _, _, _, _, _, _⟩ := hf
  have hp' : (f.pc == 20) = false := by rw [hp]; rfl
  have HK := Lib.hid hk
  have HP := Lib.hid hp
  clear hk hp
  cases hs : gateSpeaks f l
  · have HS := Lib.hid hs
    clear hs
    go_enter Tryd.func50, Tryd.ntmps50
    go_wp2_with (go_at_call 61; refine (speaksR_any f l HF.out _).mono ?_; rintro e w1 ⟨rfl, os1, n1, rfl⟩; rw [HS.out])
    all_goals (refine bodyPost_ret (v := (gateSeek c f l).v) ?_ rfl ⟨rfl, (by repeat (first | with_reducible exact Ext.refl _ | with_reducible assumption | with_reducible refine Ext.alloc ?_ _ | with_reducible refine Ext.drewN ?_ _ | with_reducible refine Ext.drew ?_ | with_reducible refine Ext.setCell ?_ ?_ _ | with_reducible refine Ext.more ?_ _ _ | (show _ ≤ _; dsimp only; omega)))⟩; simp [results, Tryd.results50, go_sem]; go_light; have hs := HS.out; have hk := HK.out; simp_all [gateSeek, gateMore, gateOver])
  · have HS := Lib.hid hs
    clear hs
    go_enter Tryd.func50, Tryd.ntmps50
    go_wp2_with (go_at_call 61; refine (speaksR_any f l HF.out _).mono ?_; rintro e w1 ⟨rfl, os1, n1, rfl⟩; rw [HS.out])
    all_goals (refine bodyPost_ret (v := (gateSeek c f l).v) ?_ rfl ⟨rfl, (by repeat (first | with_reducible exact Ext.refl _ | with_reducible assumption | with_reducible refine Ext.alloc ?_ _ | with_reducible refine Ext.drewN ?_ _ | with_reducible refine Ext.drew ?_ | with_reducible refine Ext.setCell ?_ ?_ _ | with_reducible refine Ext.more ?_ _ _ | (show _ ≤ _; dsimp only; omega)))⟩; simp [results, Tryd.results50, go_sem]; go_light; have hs := HS.out; have hk := HK.out; simp_all [gateSeek, gateMore, gateOver])

set_option maxHeartbeats 4000000 in
theorem behindR_any (c : Cfg) (f : Frm) (l : Cel) (hf : f.Fits) (hl : l.Fits) (hk : f.kind = 9 ∨ f.kind = 10 ∨ f.kind = 11) (hi : f.i < c.cap) (hc : c.cap ≤ 32) (w : World) : Calls Tryd.prog 28 #[c.v, f.v, l.v] w
    fun e w' => e = .returned (gateBehind c f l).v ∧ Ext w w' := by
  have HF := Lib.hid hf
  have HI := Lib.hid (And.intro hi hc)
  have hla := hl.a.1
  clear hl
  obtain ⟨_, ⟨a0, a1⟩, ⟨b0, b1⟩, ⟨p0, p1⟩, ⟨i0, i1⟩, _, _, _, _, _, _⟩ := hf
  cases hp0 : (f.pc == 0)
  · clear hk
    go_enter Tryd.func28, Tryd.ntmps28
    go_wp2_with fail
    all_goals ((refine bodyPost_ret (v := (gateBehind c f l).v) ?_ rfl ⟨rfl, (by repeat (first | with_reducible exact Ext.refl _ | with_reducible assumption | with_reducible refine Ext.alloc ?_ _ | with_reducible refine Ext.drewN ?_ _ | with_reducible refine Ext.drew ?_ | with_reducible refine Ext.setCell ?_ ?_ _ | with_reducible refine Ext.more ?_ _ _ | (show _ ≤ _; dsimp only; omega)))⟩; simp [results, Tryd.results28, go_sem]; go_light); simp_all [gateBehind])
  · have HP := Lib.hid (show f.pc = 0 by simpa using hp0)
    have hp2 : (f.pc == 2) = false := by rw [HP.out]; rfl
    rcases hk with hk | hk | hk
    · have HK := Lib.hid hk
      have hk9 : (f.kind == 9) = true := by rw [hk]; rfl
      have hk10 : (f.kind == 10) = false := by rw [hk]; rfl
      have hk11 : (f.kind == 11) = false := by rw [hk]; rfl
      clear hk
      cases hs : gateThere f l
      · have HS := Lib.hid hs
        clear hs
        by_cases hlt : f.i + 1 < c.cap
        · have HM : Hid (¬ f.i + 1 = c.cap) := by unfold Hid; omega
          go_enter Tryd.func28, Tryd.ntmps28
          go_wp2_with (go_at_call 51; refine (hasR_any f l HF.out _).mono ?_; rintro e w1 ⟨rfl, os1, n1, rfl⟩; rw [HS.out])
          all_goals ((refine bodyPost_ret (v := (gateBehind c f l).v) ?_ rfl ⟨rfl, (by repeat (first | with_reducible exact Ext.refl _ | with_reducible assumption | with_reducible refine Ext.alloc ?_ _ | with_reducible refine Ext.drewN ?_ _ | with_reducible refine Ext.drew ?_ | with_reducible refine Ext.setCell ?_ ?_ _ | with_reducible refine Ext.more ?_ _ _ | (show _ ≤ _; dsimp only; omega)))⟩; simp [results, Tryd.results28, go_sem]; go_light); have hs := HS.out; have hk := HK.out; have hm := HM.out; simp_all [gateBehind, gateSeek, gateMore])
        · have HM : Hid (f.i + 1 = c.cap) := by unfold Hid; omega
          go_enter Tryd.func28, Tryd.ntmps28
          go_wp2_with (go_at_call 51; refine (hasR_any f l HF.out _).mono ?_; rintro e w1 ⟨rfl, os1, n1, rfl⟩; rw [HS.out])
          all_goals ((refine bodyPost_ret (v := (gateBehind c f l).v) ?_ rfl ⟨rfl, (by repeat (first | with_reducible exact Ext.refl _ | with_reducible assumption | with_reducible refine Ext.alloc ?_ _ | with_reducible refine Ext.drewN ?_ _ | with_reducible refine Ext.drew ?_ | with_reducible refine Ext.setCell ?_ ?_ _ | with_reducible refine Ext.more ?_ _ _ | (show _ ≤ _; dsimp only; omega)))⟩; simp [results, Tryd.results28, go_sem]; go_light); have hs := HS.out; have hk := HK.out; have hm := HM.out; simp_all [gateBehind, gateSeek, gateMore, gateOver])
      · have HS := Lib.hid hs
        clear hs
        go_enter Tryd.func28, Tryd.ntmps28
        go_wp2_with (go_at_call 51; refine (hasR_any f l HF.out _).mono ?_; rintro e w1 ⟨rfl, os1, n1, rfl⟩; rw [HS.out])
        all_goals ((refine bodyPost_ret (v := (gateBehind c f l).v) ?_ rfl ⟨rfl, (by repeat (first | with_reducible exact Ext.refl _ | with_reducible assumption | with_reducible refine Ext.alloc ?_ _ | with_reducible refine Ext.drewN ?_ _ | with_reducible refine Ext.drew ?_ | with_reducible refine Ext.setCell ?_ ?_ _ | with_reducible refine Ext.more ?_ _ _ | (show _ ≤ _; dsimp only; omega)))⟩; simp [results, Tryd.results28, go_sem]; go_light); have hs := HS.out; have hk := HK.out; simp_all [gateBehind, gateSeek])
    · have HK := Lib.hid hk
      have hk9 : (f.kind == 9) = false := by rw [hk]; rfl
      have hk10 : (f.kind == 10) = true := by rw [hk]; rfl
      have hk11 : (f.kind == 11) = false := by rw [hk]; rfl
      clear hk
      cases hs : gateThere f l
      · have HS := Lib.hid hs
        clear hs
        by_cases hlt : f.i + 1 < c.cap
        · have HM : Hid (¬ f.i + 1 = c.cap) := by unfold Hid; omega
          go_enter Tryd.func28, Tryd.ntmps28
          go_wp2_with (go_at_call 51; refine (hasR_any f l HF.out _).mono ?_; rintro e w1 ⟨rfl, os1, n1, rfl⟩; rw [HS.out])
          all_goals ((refine bodyPost_ret (v := (gateBehind c f l).v) ?_ rfl ⟨rfl, (by repeat (first | with_reducible exact Ext.refl _ | with_reducible assumption | with_reducible refine Ext.alloc ?_ _ | with_reducible refine Ext.drewN ?_ _ | with_reducible refine Ext.drew ?_ | with_reducible refine Ext.setCell ?_ ?_ _ | with_reducible refine Ext.more ?_ _ _ | (show _ ≤ _; dsimp only; omega)))⟩; simp [results, Tryd.results28, go_sem]; go_light); have hs := HS.out; have hk := HK.out; have hm := HM.out; simp_all [gateBehind, gateSeek, gateMore])
        · have HM : Hid (f.i + 1 = c.cap) := by unfold Hid; omega
          go_enter Tryd.func28, Tryd.ntmps28
          go_wp2_with (go_at_call 51; refine (hasR_any f l HF.out _).mono ?_; rintro e w1 ⟨rfl, os1, n1, rfl⟩; rw [HS.out])
          all_goals ((refine bodyPost_ret (v := (gateBehind c f l).v) ?_ rfl ⟨rfl, (by repeat (first | with_reducible exact Ext.refl _ | with_reducible assumption | with_reducible refine Ext.alloc ?_ _ | with_reducible refine Ext.drewN ?_ _ | with_reducible refine Ext.drew ?_ | with_reducible refine Ext.setCell ?_ ?_ _ | with_reducible refine Ext.more ?_ _ _ | (show _ ≤ _; dsimp only; omega)))⟩; simp [results, Tryd.results28, go_sem]; go_light); have hs := HS.out; have hk := HK.out; have hm := HM.out; simp_all [gateBehind, gateSeek, gateMore, gateOver])
      · have HS := Lib.hid hs
        clear hs
        go_enter Tryd.func28, Tryd.ntmps28
        go_wp2_with (go_at_call 51; refine (hasR_any f l HF.out _).mono ?_; rintro e w1 ⟨rfl, os1, n1, rfl⟩; rw [HS.out])
        all_goals ((refine bodyPost_ret (v := (gateBehind c f l).v) ?_ rfl ⟨rfl, (by repeat (first | with_reducible exact Ext.refl _ | with_reducible assumption | with_reducible refine Ext.alloc ?_ _ | with_reducible refine Ext.drewN ?_ _ | with_reducible refine Ext.drew ?_ | with_reducible refine Ext.setCell ?_ ?_ _ | with_reducible refine Ext.more ?_ _ _ | (show _ ≤ _; dsimp only; omega)))⟩; simp [results, Tryd.results28, go_sem]; go_light); have hs := HS.out; have hk := HK.out; simp_all [gateBehind, gateSeek])
    · have HK := Lib.hid hk
      have hk11 : (f.kind == 11) = true := by rw [hk]; rfl
      clear hk
      go_enter Tryd.func28, Tryd.ntmps28
      go_wp2_with (go_at_call 50; refine (checkedR_any c f l HF.out HP.out HK.out HI.out.1 HI.out.2 _).mono ?_; rintro e w1 ⟨rfl, os1, n1, rfl⟩)
      all_goals ((refine bodyPost_ret (v := (gateBehind c f l).v) ?_ rfl ⟨rfl, (by repeat (first | with_reducible exact Ext.refl _ | with_reducible assumption | with_reducible refine Ext.alloc ?_ _ | with_reducible refine Ext.drewN ?_ _ | with_reducible refine Ext.drew ?_ | with_reducible refine Ext.setCell ?_ ?_ _ | with_reducible refine Ext.more ?_ _ _ | (show _ ≤ _; dsimp only; omega)))⟩; simp [results, Tryd.results28, go_sem]; go_light); simp_all [gateBehind])

set_option maxHeartbeats 4000000 in
theorem gateAfterR_any (c : Cfg) (f : Frm) (l : Cel) (hf : f.Fits) (hl : l.Fits) (w : World) : Calls Tryd.prog 12 #[c.v, f.v, l.v] w
    fun e w' => e = .returned (.tuple #[(gateAfterA c f l).v, .int .i64 (gateErr c f)]) ∧ Ext w w' := by
  have HF := Lib.hid hf
  have HL := Lib.hid hl
  clear hf hl
  cases hp : partOk c
  · have HG := Lib.hid (gateErr_conf (f := f) hp)
    have HN := Lib.hid (gateAfter_no (c := c) (f := f) (l := l) (by rw [HG.out]; rfl))
    have HC := Lib.hid hp
    clear hp
    go_enter Tryd.func12, Tryd.ntmps12
    go_wp2_with (go_at_call 24; refine (mayBe_any c _).mono ?_; rintro e w1 ⟨rfl, os1, n1, rfl⟩; rw [HC.out])
    (refine bodyPost_ret (v := .tuple #[(zeroFrm).v, .int .i64 40]) (by simp [results, Tryd.results12, go_sem]) rfl ?_)
    exact ⟨by rw [HN.out, HG.out], (by repeat (first | with_reducible exact Ext.refl _ | with_reducible assumption | with_reducible refine Ext.alloc ?_ _ | with_reducible refine Ext.drewN ?_ _ | with_reducible refine Ext.drew ?_ | with_reducible refine Ext.setCell ?_ ?_ _ | with_reducible refine Ext.more ?_ _ _ | (show _ ≤ _; dsimp only; omega)))⟩
  · have HC := Lib.hid hp
    cases h2 : (c.object == 3)
    · have HG := Lib.hid (gateErr_obj (f := f) h2)
      have HN := Lib.hid (gateAfter_no (c := c) (f := f) (l := l) (by rw [HG.out]; rfl))
      clear hp
      go_enter Tryd.func12, Tryd.ntmps12
      go_wp2_with (go_at_call 24; refine (mayBe_any c _).mono ?_; rintro e w1 ⟨rfl, os1, n1, rfl⟩; rw [HC.out])
      (refine bodyPost_ret (v := .tuple #[(zeroFrm).v, .int .i64 40]) (by simp [results, Tryd.results12, go_sem]) rfl ?_)
      exact ⟨by rw [HN.out, HG.out], (by repeat (first | with_reducible exact Ext.refl _ | with_reducible assumption | with_reducible refine Ext.alloc ?_ _ | with_reducible refine Ext.drewN ?_ _ | with_reducible refine Ext.drew ?_ | with_reducible refine Ext.setCell ?_ ?_ _ | with_reducible refine Ext.more ?_ _ _ | (show _ ≤ _; dsimp only; omega)))⟩
    · cases h3 : gateMay c f
      · have HG := Lib.hid (gateErr_arg hp h2 h3)
        have HN := Lib.hid (gateAfter_no (c := c) (f := f) (l := l) (by rw [HG.out]; rfl))
        have HM := Lib.hid h3
        clear hp h3
        go_enter Tryd.func12, Tryd.ntmps12
        go_wp2_with (first | (go_at_call 24; refine (mayBe_any c _).mono ?_; rintro e w1 ⟨rfl, os1, n1, rfl⟩; rw [HC.out]) | (go_at_call 25; refine (gateMayR_any c f HF.out _).mono ?_; rintro e w2 ⟨rfl, os2, n2, rfl⟩; rw [HM.out]))
        (refine bodyPost_ret (v := .tuple #[(zeroFrm).v, .int .i64 2]) (by simp [results, Tryd.results12, go_sem]) rfl ?_)
        exact ⟨by rw [HN.out, HG.out], (by repeat (first | with_reducible exact Ext.refl _ | with_reducible assumption | with_reducible refine Ext.alloc ?_ _ | with_reducible refine Ext.drewN ?_ _ | with_reducible refine Ext.drew ?_ | with_reducible refine Ext.setCell ?_ ?_ _ | with_reducible refine Ext.more ?_ _ _ | (show _ ≤ _; dsimp only; omega)))⟩
      · have HG := Lib.hid (gateErr_yes hp h2 h3)
        have HN := Lib.hid (gateAfter_yes (c := c) (f := f) (l := l) (by rw [HG.out]; rfl))
        have HM := Lib.hid h3
        have HI := Lib.hid (And.intro (gateMay_kind h3 hp h2) (And.intro (gateMay_facts h3).2.1 (partOk_cap hp).2))
        clear hp h3
        go_enter Tryd.func12, Tryd.ntmps12
        go_wp2_with (first | (go_at_call 24; refine (mayBe_any c _).mono ?_; rintro e w1 ⟨rfl, os1, n1, rfl⟩; rw [HC.out]) | (go_at_call 25; refine (gateMayR_any c f HF.out _).mono ?_; rintro e w2 ⟨rfl, os2, n2, rfl⟩; rw [HM.out]) | (go_at_call 28; refine (behindR_any c f l HF.out HL.out HI.out.1 HI.out.2.1 HI.out.2.2 _).mono ?_; rintro e w3 ⟨rfl, os3, n3, rfl⟩))
        (refine bodyPost_ret (v := .tuple #[(gateBehind c f l).v, .int .i64 0]) (by simp [results, Tryd.results12, go_sem]) rfl ?_)
        exact ⟨by rw [HN.out, HG.out], (by repeat (first | with_reducible exact Ext.refl _ | with_reducible assumption | with_reducible refine Ext.alloc ?_ _ | with_reducible refine Ext.drewN ?_ _ | with_reducible refine Ext.drew ?_ | with_reducible refine Ext.setCell ?_ ?_ _ | with_reducible refine Ext.more ?_ _ _ | (show _ ≤ _; dsimp only; omega)))⟩
end Go.Proofs.YtaijkpfgnlkppaaDoor
