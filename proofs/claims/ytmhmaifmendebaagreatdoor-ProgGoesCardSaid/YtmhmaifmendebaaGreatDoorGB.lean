/- The walks of 'gate.After'. -/
import Derived.Test.YtmhmaifmendebaaGreatDoorGA
import Derived.Test.YtmhmaifmendebaaGreatDoorA1
import Derived.Laws.EntriesVeiled
namespace Go.Proofs.YtmhmaifmendebaaGreatDoor.gate
open Go Go.RowKit
set_option maxRecDepth 100000
set_option maxHeartbeats 8000000

theorem seek1_any (a b : Int) (hb : 0 ≤ b ∧ b ≤ 4294967295) (w : World) : Calls Tryz.prog 94 #[.int .u64 a, .int .u32 b] w
    fun e w' => e = .returned (.bool (a == b)) ∧ w = w' := by
  go_enter Tryz.func94, Tryz.ntmps94
  go_wp2
  go_ret
  exact ⟨rfl, rfl⟩

theorem seek2_any (a b : Int) (hb : 0 ≤ b ∧ b ≤ 4294967295) (p : Addr) (w : World) (hp : w.cell? p = some (.func (.func 94) #[] #[])) : Calls Tryz.prog 95 #[.int .u64 a, .int .u32 b, .pointer (some p)] w
    fun e w' => e = .returned (.bool (a == 0 || a == b)) ∧ w = w' := by
  cases h : (a == 0)
  · go_enter Tryz.func95, Tryz.ntmps95
    go_wp2_with (go_at_call 94; refine (seek1_any _ _ (by first | assumption | omega) _).mono ?_; rintro e w' ⟨rfl, rfl⟩)
    go_ret
    exact ⟨ret_bool (by simp), rfl⟩
  · go_enter Tryz.func95, Tryz.ntmps95
    go_wp2
    go_ret
    exact ⟨ret_bool (by simp), rfl⟩

theorem gateOver_any (f : Frm) (w : World) : Calls Tryz.prog 96 #[f.v] w
    fun e w' => e = .returned (gateOver f).v ∧ Ext w w' := by
  go_enter Tryz.func96, Tryz.ntmps96
  go_wp2
  all_goals (refine bodyPost_ret (v := (gateOver f).v) ?_ rfl ⟨rfl, EX⟩; (simp [results, Tryz.results96, go_sem]); go_light; simp_all [gateOver])

theorem gateOver_raw (k a b p i j n q h x y : Int) (w : World) : Calls Tryz.prog 96 #[.agg #[.int .u8 k, .int .u32 a, .int .u32 b, .int .u8 p, .int .u8 i, .int .u8 j, .int .u8 n, .int .u8 q, .int .u8 h, .int .u32 x, .int .u32 y]] w
    fun e w' => e = .returned (gateOver ⟨k, a, b, p, i, j, n, q, h, x, y⟩).v ∧ Ext w w' := gateOver_any ⟨k, a, b, p, i, j, n, q, h, x, y⟩ w


theorem gateSeek_11 (c : Cfg) (f : Frm) (l : Cel) (hf : f.Fits) (hi : f.i < c.cap) (hc : c.cap ≤ 32) (hk : f.kind = 11) (w : World) : Calls Tryz.prog 47 #[c.v, f.v, l.v] w
    fun e w' => e = .returned (gateSeek c f l).v ∧ Ext w w' := by
  obtain ⟨⟨k0, k1⟩, ⟨a0, a1⟩, ⟨b0, b1⟩, ⟨p0, p1⟩, ⟨i0, i1⟩, ⟨j0, j1⟩, _, _, ⟨q0, q1⟩, _, _⟩ := hf
  obtain ⟨fk, fa, fb, fp, fi, fj, fn, fq, fh, fx, fy⟩ := f
  dsimp only at *
  subst hk
  go_enter Tryz.func47, Tryz.ntmps47
  go_wp2_with (first | (go_at_call 94; refine (seek1_any _ _ (by first | assumption | omega) _).mono ?_; rintro e w' ⟨rfl, rfl⟩) | (go_at_call 95; refine (seek2_any _ _ (by first | assumption | omega) _ _ (by go_simp)).mono ?_; rintro e w' ⟨rfl, rfl⟩) | (go_at_call 96; refine (gateOver_raw _ _ _ _ _ _ _ _ _ _ _ _).mono ?_; rintro e w1 ⟨rfl, os1, n1, rfl⟩))
  all_goals (refine bodyPost_ret (v := (gateSeek c ⟨_, fa, fb, fp, fi, fj, fn, fq, fh, fx, fy⟩ l).v) ?_ rfl ⟨rfl, EX⟩; simp [results, Tryz.results47, go_sem]; go_light; simp_all [gateSeek, gateMore, gateSpeaks, gateOver])

theorem gateSeek_9 (c : Cfg) (f : Frm) (l : Cel) (hf : f.Fits) (hi : f.i < c.cap) (hc : c.cap ≤ 32) (hk : f.kind = 9) (w : World) : Calls Tryz.prog 47 #[c.v, f.v, l.v] w
    fun e w' => e = .returned (gateSeek c f l).v ∧ Ext w w' := by
  obtain ⟨⟨k0, k1⟩, ⟨a0, a1⟩, ⟨b0, b1⟩, ⟨p0, p1⟩, ⟨i0, i1⟩, ⟨j0, j1⟩, _, _, ⟨q0, q1⟩, _, _⟩ := hf
  obtain ⟨fk, fa, fb, fp, fi, fj, fn, fq, fh, fx, fy⟩ := f
  dsimp only at *
  subst hk
  go_enter Tryz.func47, Tryz.ntmps47
  go_wp2_with (first | (go_at_call 94; refine (seek1_any _ _ (by first | assumption | omega) _).mono ?_; rintro e w' ⟨rfl, rfl⟩) | (go_at_call 95; refine (seek2_any _ _ (by first | assumption | omega) _ _ (by go_simp)).mono ?_; rintro e w' ⟨rfl, rfl⟩) | (go_at_call 96; refine (gateOver_raw _ _ _ _ _ _ _ _ _ _ _ _).mono ?_; rintro e w1 ⟨rfl, os1, n1, rfl⟩))
  all_goals (refine bodyPost_ret (v := (gateSeek c ⟨_, fa, fb, fp, fi, fj, fn, fq, fh, fx, fy⟩ l).v) ?_ rfl ⟨rfl, EX⟩; simp [results, Tryz.results47, go_sem]; go_light; simp_all [gateSeek, gateMore, gateThere, gateOver])

theorem gateSeek_10 (c : Cfg) (f : Frm) (l : Cel) (hf : f.Fits) (hi : f.i < c.cap) (hc : c.cap ≤ 32) (hk : f.kind = 10) (w : World) : Calls Tryz.prog 47 #[c.v, f.v, l.v] w
    fun e w' => e = .returned (gateSeek c f l).v ∧ Ext w w' := by
  obtain ⟨⟨k0, k1⟩, ⟨a0, a1⟩, ⟨b0, b1⟩, ⟨p0, p1⟩, ⟨i0, i1⟩, ⟨j0, j1⟩, _, _, ⟨q0, q1⟩, _, _⟩ := hf
  obtain ⟨fk, fa, fb, fp, fi, fj, fn, fq, fh, fx, fy⟩ := f
  dsimp only at *
  subst hk
  go_enter Tryz.func47, Tryz.ntmps47
  go_wp2_with (first | (go_at_call 94; refine (seek1_any _ _ (by first | assumption | omega) _).mono ?_; rintro e w' ⟨rfl, rfl⟩) | (go_at_call 95; refine (seek2_any _ _ (by first | assumption | omega) _ _ (by go_simp)).mono ?_; rintro e w' ⟨rfl, rfl⟩) | (go_at_call 96; refine (gateOver_raw _ _ _ _ _ _ _ _ _ _ _ _).mono ?_; rintro e w1 ⟨rfl, os1, n1, rfl⟩))
  all_goals (refine bodyPost_ret (v := (gateSeek c ⟨_, fa, fb, fp, fi, fj, fn, fq, fh, fx, fy⟩ l).v) ?_ rfl ⟨rfl, EX⟩; simp [results, Tryz.results47, go_sem]; go_light; simp_all [gateSeek, gateMore, gateThere, gateOver])
end Go.Proofs.YtmhmaifmendebaaGreatDoor.gate
/- The walk of 'gate.After'. -/
namespace Go.Proofs.YtmhmaifmendebaaGreatDoor.gate
open Go Go.RowKit
set_option maxRecDepth 100000
set_option maxHeartbeats 8000000

theorem gateSeek_any (c : Cfg) (f : Frm) (l : Cel) (hf : f.Fits) (hi : f.i < c.cap) (hc : c.cap ≤ 32) (hk : f.kind = 9 ∨ f.kind = 10 ∨ f.kind = 11) (w : World) : Calls Tryz.prog 47 #[c.v, f.v, l.v] w
    fun e w' => e = .returned (gateSeek c f l).v ∧ Ext w w' := by
  rcases hk with hk | hk | hk
  · exact gateSeek_9 c f l hf hi hc hk w
  · exact gateSeek_10 c f l hf hi hc hk w
  · exact gateSeek_11 c f l hf hi hc hk w

theorem gateAfter_any (c : Cfg) (f : Frm) (l : Cel) (hf : f.Fits) (w : World) (ht : Tab w) : Calls Tryz.prog 25 #[c.v, f.v, l.v] w
    fun e w' => e = .returned (.tuple #[(gateAfterA c f l).v, .int .i64 (gateErr c f)]) ∧ Ext w w' := by
  have HF := Lib.hid hf
  clear hf
  obtain ⟨E, hE⟩ : ∃ E, E = gateErr c f := ⟨_, rfl⟩
  have HG := Lib.hid hE
  cases h0 : (E == 0)
  · have HN := Lib.hid (gateAfter_no (c := c) (f := f) (l := l) (by rw [← hE]; exact h0))
    clear hE
    go_enter Tryz.func25, Tryz.ntmps25
    go_wp2_with (go_at_call 46; refine (gateCheck_any c f HF.out _ (Tab.ext ht EX)).mono ?_; rintro e w1 ⟨rfl, os1, n1, rfl⟩; rw [← HG.out])
    (refine bodyPost_ret (v := .tuple #[(zeroFrm).v, .int .i64 E]) (by simp [results, Tryz.results25, go_sem]) rfl ?_)
    exact ⟨by rw [HN.out, HG.out], EX⟩
  · have HN := Lib.hid (gateAfter_yes (c := c) (f := f) (l := l) (by rw [← hE]; exact h0))
    have hok := gateErr_ok (by rw [← hE]; exact h0)
    have hm := gateMay_pc hok.2.2
    have hfs := gateMay_facts hok.2.2
    have hcap := partOk_cap hok.1
    have HI := Lib.hid (And.intro hfs.2.1 (And.intro hcap.2 (gateMay_kind hok.2.2 hok.1 (by simpa using hok.2.1))))
    have hE0 : E = 0 := by simpa using h0
    subst hE0
    clear hE hok hfs hcap h0
    cases hp0 : (f.pc == 0)
    · cases hp2 : (f.pc == 2)
      · have HS : Hid (gateBehind c f l = f) := by simp [Hid, gateBehind, hp0, hp2]
        clear hm
        go_enter Tryz.func25, Tryz.ntmps25
        go_wp2_with (go_at_call 46; refine (gateCheck_any c f HF.out _ (Tab.ext ht EX)).mono ?_; rintro e w1 ⟨rfl, os1, n1, rfl⟩; rw [← HG.out])
        (refine bodyPost_ret (v := .tuple #[f.v, .int .i64 0]) (by simp [results, Tryz.results25, go_sem]) rfl ?_)
        exact ⟨by rw [HN.out, ← HG.out, HS.out], EX⟩
      · have HS : Hid (gateBehind c f l = { f with pc := 20 }) := by simp [Hid, gateBehind, hp0, hp2]
        clear hm
        go_enter Tryz.func25, Tryz.ntmps25
        go_wp2_with (go_at_call 46; refine (gateCheck_any c f HF.out _ (Tab.ext ht EX)).mono ?_; rintro e w1 ⟨rfl, os1, n1, rfl⟩; rw [← HG.out])
        (refine bodyPost_ret (v := .tuple #[(Frm.mk f.kind f.a f.b 20 f.i f.j f.n f.p f.h f.x f.y).v, .int .i64 0]) (by simp [results, Tryz.results25, go_sem]) rfl ?_)
        exact ⟨by rw [HN.out, ← HG.out, HS.out], EX⟩
    · have HS : Hid (gateBehind c f l = gateSeek c f l) := by simp [Hid, gateBehind, hp0]
      clear hm
      go_enter Tryz.func25, Tryz.ntmps25
      go_wp2_with (first | (go_at_call 46; refine (gateCheck_any c f HF.out _ (Tab.ext ht EX)).mono ?_; rintro e w1 ⟨rfl, os1, n1, rfl⟩; rw [← HG.out]) | (go_at_call 47; refine (gateSeek_any c f l HF.out HI.out.1 HI.out.2.1 HI.out.2.2 _).mono ?_; rintro e w2 ⟨rfl, os2, n2, rfl⟩))
      (refine bodyPost_ret (v := .tuple #[(gateSeek c f l).v, .int .i64 0]) (by simp [results, Tryz.results25, go_sem]) rfl ?_)
      exact ⟨by rw [HN.out, ← HG.out, HS.out], EX⟩
end Go.Proofs.YtmhmaifmendebaaGreatDoor.gate
/- The walks of the reference's 'After'. -/
namespace Go.Proofs.YtmhmaifmendebaaGreatDoor.gate
open Go Go.RowKit
set_option maxRecDepth 100000
set_option maxHeartbeats 8000000

theorem hasR_any (f : Frm) (l : Cel) (hf : f.Fits) (w : World) : Calls Tryz.prog 87 #[f.v, l.v] w
    fun e w' => e = .returned (.bool (gateThere f l)) ∧ Ext w w' := by
  obtain ⟨_, ⟨a0, a1⟩, ⟨b0, b1⟩, _, _, _, _, _, _, _, _⟩ := hf
  go_enter Tryz.func87, Tryz.ntmps87
  go_wp2
  all_goals (go_ret; refine ⟨ret_bool ?_, EX⟩)
  all_goals (go_light; rw [Bool.eq_iff_iff]; simp_all [gateThere])

theorem speaksR_any (f : Frm) (l : Cel) (hf : f.Fits) (w : World) : Calls Tryz.prog 123 #[f.v, l.v] w
    fun e w' => e = .returned (.bool (gateSpeaks f l)) ∧ Ext w w' := by
  obtain ⟨_, ⟨a0, a1⟩, ⟨b0, b1⟩, _, _, _, _, _, _, _, _⟩ := hf
  go_enter Tryz.func123, Tryz.ntmps123
  go_wp2
  all_goals (go_ret; refine ⟨ret_bool ?_, EX⟩)
  all_goals (go_light; rw [Bool.eq_iff_iff]; simp_all [gateSpeaks])

theorem checkedR_any (c : Cfg) (f : Frm) (l : Cel) (hf : f.Fits) (hp : f.pc = 0) (hk : f.kind = 11) (hi : f.i < c.cap) (hc : c.cap ≤ 32) (w : World) : Calls Tryz.prog 86 #[c.v, f.v, l.v] w
    fun e w' => e = .returned (gateSeek c f l).v ∧ Ext w w' := by
  have HF := Lib.hid hf
  obtain ⟨_, ⟨a0, a1⟩, ⟨b0, b1⟩, ⟨p0, p1⟩, ⟨i0, i1⟩, _, _, _, _, _, _⟩ := hf
  have hp' : (f.pc == 20) = false := by rw [hp]; rfl
  have HK := Lib.hid hk
  have HP := Lib.hid hp
  clear hk hp
  cases hs : gateSpeaks f l
  · have HS := Lib.hid hs
    clear hs
    go_enter Tryz.func86, Tryz.ntmps86
    go_wp2_with (go_at_call 123; refine (speaksR_any f l HF.out _).mono ?_; rintro e w1 ⟨rfl, os1, n1, rfl⟩; rw [HS.out])
    all_goals (refine bodyPost_ret (v := (gateSeek c f l).v) ?_ rfl ⟨rfl, EX⟩; simp [results, Tryz.results86, go_sem]; go_light; have hs := HS.out; have hk := HK.out; simp_all [gateSeek, gateMore, gateOver])
  · have HS := Lib.hid hs
    clear hs
    go_enter Tryz.func86, Tryz.ntmps86
    go_wp2_with (go_at_call 123; refine (speaksR_any f l HF.out _).mono ?_; rintro e w1 ⟨rfl, os1, n1, rfl⟩; rw [HS.out])
    all_goals (refine bodyPost_ret (v := (gateSeek c f l).v) ?_ rfl ⟨rfl, EX⟩; simp [results, Tryz.results86, go_sem]; go_light; have hs := HS.out; have hk := HK.out; simp_all [gateSeek, gateMore, gateOver])

theorem behindR_any (c : Cfg) (f : Frm) (l : Cel) (hf : f.Fits) (hl : l.Fits) (hk : f.kind = 9 ∨ f.kind = 10 ∨ f.kind = 11) (hi : f.i < c.cap) (hc : c.cap ≤ 32) (w : World) : Calls Tryz.prog 43 #[c.v, f.v, l.v] w
    fun e w' => e = .returned (gateBehind c f l).v ∧ Ext w w' := by
  have HF := Lib.hid hf
  have HI := Lib.hid (And.intro hi hc)
  have hla := hl.a.1
  clear hl
  obtain ⟨_, ⟨a0, a1⟩, ⟨b0, b1⟩, ⟨p0, p1⟩, ⟨i0, i1⟩, _, _, _, _, _, _⟩ := hf
  cases hp0 : (f.pc == 0)
  · clear hk
    go_enter Tryz.func43, Tryz.ntmps43
    go_wp2_with fail
    all_goals ((refine bodyPost_ret (v := (gateBehind c f l).v) ?_ rfl ⟨rfl, EX⟩; simp [results, Tryz.results43, go_sem]; go_light); simp_all [gateBehind])
  · have HP := Lib.hid (show f.pc = 0 by simpa using hp0)
    have hp2 : (f.pc == 2) = false := by rw [HP.out]; rfl
    rcases hk with hk | hk | hk
    · have HK := Lib.hid hk
      have hk9 : (f.kind == 9) = true := by rw [hk]; rfl
      have hk10 : (f.kind == 10) = false := by rw [hk]; rfl
      have hk11 : (f.kind == 11) = false := by rw [hk]; rfl
      clear hk
      cases hs : gateThere f l
      · have HS := Lib.hid hs
        clear hs
        by_cases hlt : f.i + 1 < c.cap
        · have HM : Hid (¬ f.i + 1 = c.cap) := by unfold Hid; omega
          go_enter Tryz.func43, Tryz.ntmps43
          go_wp2_with (go_at_call 87; refine (hasR_any f l HF.out _).mono ?_; rintro e w1 ⟨rfl, os1, n1, rfl⟩; rw [HS.out])
          all_goals ((refine bodyPost_ret (v := (gateBehind c f l).v) ?_ rfl ⟨rfl, EX⟩; simp [results, Tryz.results43, go_sem]; go_light); have hs := HS.out; have hk := HK.out; have hm := HM.out; simp_all [gateBehind, gateSeek, gateMore])
        · have HM : Hid (f.i + 1 = c.cap) := by unfold Hid; omega
          go_enter Tryz.func43, Tryz.ntmps43
          go_wp2_with (go_at_call 87; refine (hasR_any f l HF.out _).mono ?_; rintro e w1 ⟨rfl, os1, n1, rfl⟩; rw [HS.out])
          all_goals ((refine bodyPost_ret (v := (gateBehind c f l).v) ?_ rfl ⟨rfl, EX⟩; simp [results, Tryz.results43, go_sem]; go_light); have hs := HS.out; have hk := HK.out; have hm := HM.out; simp_all [gateBehind, gateSeek, gateMore, gateOver])
      · have HS := Lib.hid hs
        clear hs
        go_enter Tryz.func43, Tryz.ntmps43
        go_wp2_with (go_at_call 87; refine (hasR_any f l HF.out _).mono ?_; rintro e w1 ⟨rfl, os1, n1, rfl⟩; rw [HS.out])
        all_goals ((refine bodyPost_ret (v := (gateBehind c f l).v) ?_ rfl ⟨rfl, EX⟩; simp [results, Tryz.results43, go_sem]; go_light); have hs := HS.out; have hk := HK.out; simp_all [gateBehind, gateSeek])
    · have HK := Lib.hid hk
      have hk9 : (f.kind == 9) = false := by rw [hk]; rfl
      have hk10 : (f.kind == 10) = true := by rw [hk]; rfl
      have hk11 : (f.kind == 11) = false := by rw [hk]; rfl
      clear hk
      cases hs : gateThere f l
      · have HS := Lib.hid hs
        clear hs
        by_cases hlt : f.i + 1 < c.cap
        · have HM : Hid (¬ f.i + 1 = c.cap) := by unfold Hid; omega
          go_enter Tryz.func43, Tryz.ntmps43
          go_wp2_with (go_at_call 87; refine (hasR_any f l HF.out _).mono ?_; rintro e w1 ⟨rfl, os1, n1, rfl⟩; rw [HS.out])
          all_goals ((refine bodyPost_ret (v := (gateBehind c f l).v) ?_ rfl ⟨rfl, EX⟩; simp [results, Tryz.results43, go_sem]; go_light); have hs := HS.out; have hk := HK.out; have hm := HM.out; simp_all [gateBehind, gateSeek, gateMore])
        · have HM : Hid (f.i + 1 = c.cap) := by unfold Hid; omega
          go_enter Tryz.func43, Tryz.ntmps43
          go_wp2_with (go_at_call 87; refine (hasR_any f l HF.out _).mono ?_; rintro e w1 ⟨rfl, os1, n1, rfl⟩; rw [HS.out])
          all_goals ((refine bodyPost_ret (v := (gateBehind c f l).v) ?_ rfl ⟨rfl, EX⟩; simp [results, Tryz.results43, go_sem]; go_light); have hs := HS.out; have hk := HK.out; have hm := HM.out; simp_all [gateBehind, gateSeek, gateMore, gateOver])
      · have HS := Lib.hid hs
        clear hs
        go_enter Tryz.func43, Tryz.ntmps43
        go_wp2_with (go_at_call 87; refine (hasR_any f l HF.out _).mono ?_; rintro e w1 ⟨rfl, os1, n1, rfl⟩; rw [HS.out])
        all_goals ((refine bodyPost_ret (v := (gateBehind c f l).v) ?_ rfl ⟨rfl, EX⟩; simp [results, Tryz.results43, go_sem]; go_light); have hs := HS.out; have hk := HK.out; simp_all [gateBehind, gateSeek])
    · have HK := Lib.hid hk
      have hk11 : (f.kind == 11) = true := by rw [hk]; rfl
      clear hk
      go_enter Tryz.func43, Tryz.ntmps43
      go_wp2_with (go_at_call 86; refine (checkedR_any c f l HF.out HP.out HK.out HI.out.1 HI.out.2 _).mono ?_; rintro e w1 ⟨rfl, os1, n1, rfl⟩)
      all_goals ((refine bodyPost_ret (v := (gateBehind c f l).v) ?_ rfl ⟨rfl, EX⟩; simp [results, Tryz.results43, go_sem]; go_light); simp_all [gateBehind])

theorem gateAfterR_any (c : Cfg) (f : Frm) (l : Cel) (hf : f.Fits) (hl : l.Fits) (w : World) : Calls Tryz.prog 19 #[c.v, f.v, l.v] w
    fun e w' => e = .returned (.tuple #[(gateAfterA c f l).v, .int .i64 (gateErr c f)]) ∧ Ext w w' := by
  have HF := Lib.hid hf
  have HL := Lib.hid hl
  clear hf hl
  cases hp : partOk c
  · have HG := Lib.hid (gateErr_conf (f := f) hp)
    have HN := Lib.hid (gateAfter_no (c := c) (f := f) (l := l) (by rw [HG.out]; rfl))
    have HC := Lib.hid hp
    clear hp
    go_enter Tryz.func19, Tryz.ntmps19
    go_wp2_with (go_at_call 11; refine (mayBe_any c _).mono ?_; rintro e w1 ⟨rfl, os1, n1, rfl⟩; rw [HC.out])
    (refine bodyPost_ret (v := .tuple #[(zeroFrm).v, .int .i64 40]) (by simp [results, Tryz.results19, go_sem]) rfl ?_)
    exact ⟨by rw [HN.out, HG.out], EX⟩
  · have HC := Lib.hid hp
    cases h2 : (c.object == 3)
    · have HG := Lib.hid (gateErr_obj (f := f) h2)
      have HN := Lib.hid (gateAfter_no (c := c) (f := f) (l := l) (by rw [HG.out]; rfl))
      clear hp
      go_enter Tryz.func19, Tryz.ntmps19
      go_wp2_with (go_at_call 11; refine (mayBe_any c _).mono ?_; rintro e w1 ⟨rfl, os1, n1, rfl⟩; rw [HC.out])
      (refine bodyPost_ret (v := .tuple #[(zeroFrm).v, .int .i64 40]) (by simp [results, Tryz.results19, go_sem]) rfl ?_)
      exact ⟨by rw [HN.out, HG.out], EX⟩
    · cases h3 : gateMay c f
      · have HG := Lib.hid (gateErr_arg hp h2 h3)
        have HN := Lib.hid (gateAfter_no (c := c) (f := f) (l := l) (by rw [HG.out]; rfl))
        have HM := Lib.hid h3
        clear hp h3
        go_enter Tryz.func19, Tryz.ntmps19
        go_wp2_with (first | (go_at_call 11; refine (mayBe_any c _).mono ?_; rintro e w1 ⟨rfl, os1, n1, rfl⟩; rw [HC.out]) | (go_at_call 34; refine (gateMayR_any c f HF.out _).mono ?_; rintro e w2 ⟨rfl, os2, n2, rfl⟩; rw [HM.out]))
        (refine bodyPost_ret (v := .tuple #[(zeroFrm).v, .int .i64 2]) (by simp [results, Tryz.results19, go_sem]) rfl ?_)
        exact ⟨by rw [HN.out, HG.out], EX⟩
      · have HG := Lib.hid (gateErr_yes hp h2 h3)
        have HN := Lib.hid (gateAfter_yes (c := c) (f := f) (l := l) (by rw [HG.out]; rfl))
        have HM := Lib.hid h3
        have HI := Lib.hid (And.intro (gateMay_kind h3 hp h2) (And.intro (gateMay_facts h3).2.1 (partOk_cap hp).2))
        clear hp h3
        go_enter Tryz.func19, Tryz.ntmps19
        go_wp2_with (first | (go_at_call 11; refine (mayBe_any c _).mono ?_; rintro e w1 ⟨rfl, os1, n1, rfl⟩; rw [HC.out]) | (go_at_call 34; refine (gateMayR_any c f HF.out _).mono ?_; rintro e w2 ⟨rfl, os2, n2, rfl⟩; rw [HM.out]) | (go_at_call 43; refine (behindR_any c f l HF.out HL.out HI.out.1 HI.out.2.1 HI.out.2.2 _).mono ?_; rintro e w3 ⟨rfl, os3, n3, rfl⟩))
        (refine bodyPost_ret (v := .tuple #[(gateBehind c f l).v, .int .i64 0]) (by simp [results, Tryz.results19, go_sem]) rfl ?_)
        exact ⟨by rw [HN.out, HG.out], EX⟩
end Go.Proofs.YtmhmaifmendebaaGreatDoor.gate
