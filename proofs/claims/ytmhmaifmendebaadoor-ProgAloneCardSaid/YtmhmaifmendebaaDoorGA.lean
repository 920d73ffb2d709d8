/- The walks of the layer 'gate', as far as 'Next'. -/
import Derived.Test.YtmhmaifmendebaaDoorCheck
import Derived.Test.YtmhmaifmendebaaDoorA1
import Derived.Laws.EntriesVeiled
namespace Go.Proofs.YtmhmaifmendebaaDoor.gate
open Go Go.RowKit
set_option maxRecDepth 100000
set_option maxHeartbeats 8000000

theorem gateMay_any (c : Cfg) (f : Frm) (hf : f.Fits) (w : World) (ht : Tab w) : Calls Tryd.prog 51 #[c.v, f.v] w
    fun e w' => e = .returned (.bool (gateMay c f)) ∧ Ext w w' := by
  have ho := gateOp_fits hf
  obtain ⟨⟨k0, k1⟩, _, _, ⟨p0, p1⟩, ⟨i0, i1⟩, ⟨j0, j1⟩, _, _, ⟨q0, q1⟩, _, _⟩ := hf
  obtain ⟨E, hE⟩ : ∃ E, E = opErr c (gateOp f) := ⟨_, rfl⟩
  have HM : Hid (gateMay c f = (E == 0 && decide (f.i < c.cap) && decide (f.j < c.cap) && decide (f.h ≤ 1) && gatePc f)) := by rw [hE]; rfl
  cases hk : (f.kind == 9)
  · have hg : gateOp f = ⟨f.kind, f.a, f.b, 0⟩ := by simp [gateOp, hk]
    rw [hg] at ho hE
    have HO := Lib.hid ho
    have HE := Lib.hid hE
    clear ho hE hg
    go_enter Tryd.func51, Tryd.ntmps51
    go_wp2_with (go_at_call 12; refine (opCheck_any c ⟨f.kind, f.a, f.b, 0⟩ HO.out _ (Tab.ext ht EX)).mono ?_; rintro e w1 ⟨rfl, os1, n1, rfl⟩; rw [← HE.out];)
    all_goals (go_ret; refine ⟨ret_bool ?_, EX⟩)
    all_goals (go_light; rw [HM.out, Bool.eq_iff_iff]; clear HM HO HE; simp only [gatePc]; simp at * <;> omega)
  · have hg : gateOp f = ⟨f.kind, f.a, f.b, f.y⟩ := by simp [gateOp, hk]
    rw [hg] at ho hE
    have HO := Lib.hid ho
    have HE := Lib.hid hE
    clear ho hE hg
    go_enter Tryd.func51, Tryd.ntmps51
    go_wp2_with (go_at_call 12; refine (opCheck_any c ⟨f.kind, f.a, f.b, f.y⟩ HO.out _ (Tab.ext ht EX)).mono ?_; rintro e w1 ⟨rfl, os1, n1, rfl⟩; rw [← HE.out];)
    all_goals (go_ret; refine ⟨ret_bool ?_, EX⟩)
    all_goals (go_light; rw [HM.out, Bool.eq_iff_iff]; clear HM HO HE; simp only [gatePc]; simp at * <;> omega)

theorem gateCheck_any (c : Cfg) (f : Frm) (hf : f.Fits) (w : World) (ht : Tab w) : Calls Tryd.prog 31 #[c.v, f.v] w
    fun e w' => e = .returned (.int .i64 (gateErr c f)) ∧ Ext w w' := by
  have HF := Lib.hid hf
  clear hf
  cases hp : partOk c
  · have HE := Lib.hid (gateErr_conf (f := f) hp)
    have HC := Lib.hid (conf_no hp)
    clear hp
    go_enter Tryd.func31, Tryd.ntmps31
    go_wp2_with (go_at_call 14; refine (partCheck_any c _).mono ?_; rintro e w1 ⟨rfl, os1, n1, rfl⟩; rw [HC.out];)
    go_ret
    exact ⟨ret_int HE.out.symm, EX⟩
  · have HC := Lib.hid (conf_ok hp)
    cases h2 : (c.object == 3)
    · have HE := Lib.hid (gateErr_obj (f := f) h2)
      clear hp
      go_enter Tryd.func31, Tryd.ntmps31
      go_wp2_with (go_at_call 14; refine (partCheck_any c _).mono ?_; rintro e w1 ⟨rfl, os1, n1, rfl⟩; rw [HC.out];)
      go_ret
      exact ⟨ret_int HE.out.symm, EX⟩
    · cases h3 : gateMay c f
      · have HE := Lib.hid (gateErr_arg hp h2 h3)
        have HM := Lib.hid h3
        clear hp h3
        go_enter Tryd.func31, Tryd.ntmps31
        go_wp2_with (first | (go_at_call 14; refine (partCheck_any c _).mono ?_; rintro e w1 ⟨rfl, os1, n1, rfl⟩; rw [HC.out];) | (go_at_call 51; refine (gateMay_any c f HF.out _ (Tab.ext ht EX)).mono ?_; rintro e w2 ⟨rfl, os2, n2, rfl⟩; rw [HM.out];))
        go_ret
        exact ⟨ret_int HE.out.symm, EX⟩
      · have HE := Lib.hid (gateErr_yes hp h2 h3)
        have HM := Lib.hid h3
        clear hp h3
        go_enter Tryd.func31, Tryd.ntmps31
        go_wp2_with (first | (go_at_call 14; refine (partCheck_any c _).mono ?_; rintro e w1 ⟨rfl, os1, n1, rfl⟩; rw [HC.out];) | (go_at_call 51; refine (gateMay_any c f HF.out _ (Tab.ext ht EX)).mono ?_; rintro e w2 ⟨rfl, os2, n2, rfl⟩; rw [HM.out];))
        go_ret
        exact ⟨ret_int HE.out.symm, EX⟩

theorem gateNext_any (c : Cfg) (f : Frm) (hf : f.Fits) (w : World) (ht : Tab w) : Calls Tryd.prog 22 #[c.v, f.v] w
    fun e w' => e = .returned (.tuple #[(gateNextA c f).v, .int .i64 (gateErr c f)]) ∧ Ext w w' := by
  have HF := Lib.hid hf
  obtain ⟨⟨k0, k1⟩, _, _, ⟨p0, p1⟩, ⟨i0, i1⟩, ⟨j0, j1⟩, _, _, ⟨q0, q1⟩, _, _⟩ := hf
  obtain ⟨E, hE⟩ : ∃ E, E = gateErr c f := ⟨_, rfl⟩
  have HG := Lib.hid hE
  cases h0 : (E == 0)
  · have HN := Lib.hid (gateNext_no (c := c) (f := f) (by rw [← hE]; exact h0))
    clear hE
    go_enter Tryd.func22, Tryd.ntmps22
    go_wp2_with (go_at_call 31; refine (gateCheck_any c f HF.out _ (Tab.ext ht EX)).mono ?_; rintro e w1 ⟨rfl, os1, n1, rfl⟩; rw [← HG.out];)
    (refine bodyPost_ret (v := .tuple #[(zeroAct).v, .int .i64 E]) (by simp [results, Tryd.results22, go_sem]) rfl ?_)
    exact ⟨by rw [HN.out, HG.out], EX⟩
  · have HN := Lib.hid (gateNext_yes (c := c) (f := f) (by rw [← hE]; exact h0))
    have hm := gateMay_pc (gateErr_ok (by rw [← hE]; exact h0)).2.2
    have hE0 : E = 0 := by simpa using h0
    subst hE0
    clear hE
    rcases hm with hm | hm | hm | hm | hm
    · have HS : Hid (gateStep f = ⟨1, f.i, 0, 0, 0, 0, 0⟩) := by simp [Hid, gateStep, hm]
      have hm' : (f.pc == 0) = true := by simpa using hm
      clear hm
      go_enter Tryd.func22, Tryd.ntmps22
      go_wp2_with (go_at_call 31; refine (gateCheck_any c f HF.out _ (Tab.ext ht EX)).mono ?_; rintro e w1 ⟨rfl, os1, n1, rfl⟩; rw [← HG.out];)
      (refine bodyPost_ret (v := .tuple #[(Actn.mk 1 f.i 0 0 0 0 0).v, .int .i64 0]) (by simp [results, Tryd.results22, go_sem]) rfl ?_)
      exact ⟨by rw [HN.out, ← HG.out, HS.out], EX⟩
    · have HS : Hid (gateStep f = ⟨4, 0, 0, 0, 0, 0, f.x⟩) := by simp [Hid, gateStep, hm]
      have hm' : (f.pc == 20) = true := by simpa using hm
      clear hm
      go_enter Tryd.func22, Tryd.ntmps22
      go_wp2_with (go_at_call 31; refine (gateCheck_any c f HF.out _ (Tab.ext ht EX)).mono ?_; rintro e w1 ⟨rfl, os1, n1, rfl⟩; rw [← HG.out];)
      (refine bodyPost_ret (v := .tuple #[(Actn.mk 4 0 0 0 0 0 f.x).v, .int .i64 0]) (by simp [results, Tryd.results22, go_sem]) rfl ?_)
      exact ⟨by rw [HN.out, ← HG.out, HS.out], EX⟩
    · cases hk : (f.kind == 9)
      · have HS : Hid (gateStep f = ⟨2, f.j, 0, 0, 0, 0, 0⟩) := by simp [Hid, gateStep, hm, hk]
        have hm' : (f.pc == 2) = true := by simpa using hm.1
        clear hm
        go_enter Tryd.func22, Tryd.ntmps22
        go_wp2_with (go_at_call 31; refine (gateCheck_any c f HF.out _ (Tab.ext ht EX)).mono ?_; rintro e w1 ⟨rfl, os1, n1, rfl⟩; rw [← HG.out];)
        (refine bodyPost_ret (v := .tuple #[(Actn.mk 2 f.j 0 0 0 0 0).v, .int .i64 0]) (by simp [results, Tryd.results22, go_sem]) rfl ?_)
        exact ⟨by rw [HN.out, ← HG.out, HS.out], EX⟩
      · have HS : Hid (gateStep f = ⟨2, f.j, f.y, f.a, f.b, 0, 0⟩) := by simp [Hid, gateStep, hm, hk]
        have hm' : (f.pc == 2) = true := by simpa using hm.1
        clear hm
        go_enter Tryd.func22, Tryd.ntmps22
        go_wp2_with (go_at_call 31; refine (gateCheck_any c f HF.out _ (Tab.ext ht EX)).mono ?_; rintro e w1 ⟨rfl, os1, n1, rfl⟩; rw [← HG.out];)
        go_region
        all_goals go_wp2
        all_goals (refine bodyPost_ret (v := .tuple #[(Actn.mk 2 f.j f.y f.a f.b 0 0).v, .int .i64 0]) (by simp [results, Tryd.results22, go_sem]) rfl ?_)
        all_goals exact ⟨by rw [HN.out, ← HG.out, HS.out], EX⟩
    · have HS : Hid (gateStep f = ⟨4, 0, 0, 0, 0, 6, 0⟩) := by simp [Hid, gateStep, hm]
      have hm' : (f.pc == 21) = true := by simpa using hm.1
      clear hm
      go_enter Tryd.func22, Tryd.ntmps22
      go_wp2_with (go_at_call 31; refine (gateCheck_any c f HF.out _ (Tab.ext ht EX)).mono ?_; rintro e w1 ⟨rfl, os1, n1, rfl⟩; rw [← HG.out];)
      (refine bodyPost_ret (v := .tuple #[(Actn.mk 4 0 0 0 0 6 0).v, .int .i64 0]) (by simp [results, Tryd.results22, go_sem]) rfl ?_)
      exact ⟨by rw [HN.out, ← HG.out, HS.out], EX⟩
    · have HS : Hid (gateStep f = ⟨4, 0, 0, 0, 0, 9, 0⟩) := by simp [Hid, gateStep, hm]
      have hm' : (f.pc == 22) = true := by simpa using hm.1
      clear hm
      go_enter Tryd.func22, Tryd.ntmps22
      go_wp2_with (go_at_call 31; refine (gateCheck_any c f HF.out _ (Tab.ext ht EX)).mono ?_; rintro e w1 ⟨rfl, os1, n1, rfl⟩; rw [← HG.out];)
      (refine bodyPost_ret (v := .tuple #[(Actn.mk 4 0 0 0 0 9 0).v, .int .i64 0]) (by simp [results, Tryd.results22, go_sem]) rfl ?_)
      exact ⟨by rw [HN.out, ← HG.out, HS.out], EX⟩
end Go.Proofs.YtmhmaifmendebaaDoor.gate
/- The walks of 'gate.After'. -/
namespace Go.Proofs.YtmhmaifmendebaaDoor.gate
open Go Go.RowKit
set_option maxRecDepth 100000
set_option maxHeartbeats 8000000

theorem seek1_any (a b : Int) (hb : 0 ≤ b ∧ b ≤ 4294967295) (w : World) : Calls Tryd.prog 52 #[.int .u64 a, .int .u32 b] w
    fun e w' => e = .returned (.bool (a == b)) ∧ w = w' := by
  go_enter Tryd.func52, Tryd.ntmps52
  go_wp2
  go_ret
  exact ⟨rfl, rfl⟩

theorem seek2_any (a b : Int) (hb : 0 ≤ b ∧ b ≤ 4294967295) (p : Addr) (w : World) (hp : w.cell? p = some (.func (.func 52) #[] #[])) : Calls Tryd.prog 53 #[.int .u64 a, .int .u32 b, .pointer (some p)] w
    fun e w' => e = .returned (.bool (a == 0 || a == b)) ∧ w = w' := by
  cases h : (a == 0)
  · go_enter Tryd.func53, Tryd.ntmps53
    go_wp2_with (go_at_call 52; refine (seek1_any _ _ (by first | assumption | omega) _).mono ?_; rintro e w' ⟨rfl, rfl⟩)
    go_ret
    exact ⟨ret_bool (by simp), rfl⟩
  · go_enter Tryd.func53, Tryd.ntmps53
    go_wp2
    go_ret
    exact ⟨ret_bool (by simp), rfl⟩

theorem gateOver_any (f : Frm) (w : World) : Calls Tryd.prog 54 #[f.v] w
    fun e w' => e = .returned (gateOver f).v ∧ Ext w w' := by
  go_enter Tryd.func54, Tryd.ntmps54
  go_wp2
  all_goals (refine bodyPost_ret (v := (gateOver f).v) ?_ rfl ⟨rfl, EX⟩; (simp [results, Tryd.results54, go_sem]); go_light; simp_all [gateOver])

theorem gateOver_raw (k a b p i j n q h x y : Int) (w : World) : Calls Tryd.prog 54 #[.agg #[.int .u8 k, .int .u32 a, .int .u32 b, .int .u8 p, .int .u8 i, .int .u8 j, .int .u8 n, .int .u8 q, .int .u8 h, .int .u32 x, .int .u32 y]] w
    fun e w' => e = .returned (gateOver ⟨k, a, b, p, i, j, n, q, h, x, y⟩).v ∧ Ext w w' := gateOver_any ⟨k, a, b, p, i, j, n, q, h, x, y⟩ w


theorem gateSeek_11 (c : Cfg) (f : Frm) (l : Cel) (hf : f.Fits) (hi : f.i < c.cap) (hc : c.cap ≤ 32) (hk : f.kind = 11) (w : World) : Calls Tryd.prog 32 #[c.v, f.v, l.v] w
    fun e w' => e = .returned (gateSeek c f l).v ∧ Ext w w' := by
  obtain ⟨⟨k0, k1⟩, ⟨a0, a1⟩, ⟨b0, b1⟩, ⟨p0, p1⟩, ⟨i0, i1⟩, ⟨j0, j1⟩, _, _, ⟨q0, q1⟩, _, _⟩ := hf
  obtain ⟨fk, fa, fb, fp, fi, fj, fn, fq, fh, fx, fy⟩ := f
  dsimp only at *
  subst hk
  go_enter Tryd.func32, Tryd.ntmps32
  go_wp2_with (first | (go_at_call 52; refine (seek1_any _ _ (by first | assumption | omega) _).mono ?_; rintro e w' ⟨rfl, rfl⟩) | (go_at_call 53; refine (seek2_any _ _ (by first | assumption | omega) _ _ (by go_simp)).mono ?_; rintro e w' ⟨rfl, rfl⟩) | (go_at_call 54; refine (gateOver_raw _ _ _ _ _ _ _ _ _ _ _ _).mono ?_; rintro e w1 ⟨rfl, os1, n1, rfl⟩))
  all_goals (refine bodyPost_ret (v := (gateSeek c ⟨_, fa, fb, fp, fi, fj, fn, fq, fh, fx, fy⟩ l).v) ?_ rfl ⟨rfl, EX⟩; simp [results, Tryd.results32, go_sem]; go_light; simp_all [gateSeek, gateMore, gateSpeaks, gateOver])

theorem gateSeek_9 (c : Cfg) (f : Frm) (l : Cel) (hf : f.Fits) (hi : f.i < c.cap) (hc : c.cap ≤ 32) (hk : f.kind = 9) (w : World) : Calls Tryd.prog 32 #[c.v, f.v, l.v] w
    fun e w' => e = .returned (gateSeek c f l).v ∧ Ext w w' := by
  obtain ⟨⟨k0, k1⟩, ⟨a0, a1⟩, ⟨b0, b1⟩, ⟨p0, p1⟩, ⟨i0, i1⟩, ⟨j0, j1⟩, _, _, ⟨q0, q1⟩, _, _⟩ := hf
  obtain ⟨fk, fa, fb, fp, fi, fj, fn, fq, fh, fx, fy⟩ := f
  dsimp only at *
  subst hk
  go_enter Tryd.func32, Tryd.ntmps32
  go_wp2_with (first | (go_at_call 52; refine (seek1_any _ _ (by first | assumption | omega) _).mono ?_; rintro e w' ⟨rfl, rfl⟩) | (go_at_call 53; refine (seek2_any _ _ (by first | assumption | omega) _ _ (by go_simp)).mono ?_; rintro e w' ⟨rfl, rfl⟩) | (go_at_call 54; refine (gateOver_raw _ _ _ _ _ _ _ _ _ _ _ _).mono ?_; rintro e w1 ⟨rfl, os1, n1, rfl⟩))
  all_goals (refine bodyPost_ret (v := (gateSeek c ⟨_, fa, fb, fp, fi, fj, fn, fq, fh, fx, fy⟩ l).v) ?_ rfl ⟨rfl, EX⟩; simp [results, Tryd.results32, go_sem]; go_light; simp_all [gateSeek, gateMore, gateThere, gateOver])

theorem gateSeek_10 (c : Cfg) (f : Frm) (l : Cel) (hf : f.Fits) (hi : f.i < c.cap) (hc : c.cap ≤ 32) (hk : f.kind = 10) (w : World) : Calls Tryd.prog 32 #[c.v, f.v, l.v] w
    fun e w' => e = .returned (gateSeek c f l).v ∧ Ext w w' := by
  obtain ⟨⟨k0, k1⟩, ⟨a0, a1⟩, ⟨b0, b1⟩, ⟨p0, p1⟩, ⟨i0, i1⟩, ⟨j0, j1⟩, _, _, ⟨q0, q1⟩, _, _⟩ := hf
  obtain ⟨fk, fa, fb, fp, fi, fj, fn, fq, fh, fx, fy⟩ := f
  dsimp only at *
  subst hk
  go_enter Tryd.func32, Tryd.ntmps32
  go_wp2_with (first | (go_at_call 52; refine (seek1_any _ _ (by first | assumption | omega) _).mono ?_; rintro e w' ⟨rfl, rfl⟩) | (go_at_call 53; refine (seek2_any _ _ (by first | assumption | omega) _ _ (by go_simp)).mono ?_; rintro e w' ⟨rfl, rfl⟩) | (go_at_call 54; refine (gateOver_raw _ _ _ _ _ _ _ _ _ _ _ _).mono ?_; rintro e w1 ⟨rfl, os1, n1, rfl⟩))
  all_goals (refine bodyPost_ret (v := (gateSeek c ⟨_, fa, fb, fp, fi, fj, fn, fq, fh, fx, fy⟩ l).v) ?_ rfl ⟨rfl, EX⟩; simp [results, Tryd.results32, go_sem]; go_light; simp_all [gateSeek, gateMore, gateThere, gateOver])
end Go.Proofs.YtmhmaifmendebaaDoor.gate
/- The walk of 'gate.After'. -/
namespace Go.Proofs.YtmhmaifmendebaaDoor.gate
open Go Go.RowKit
set_option maxRecDepth 100000
set_option maxHeartbeats 8000000

theorem gateSeek_any (c : Cfg) (f : Frm) (l : Cel) (hf : f.Fits) (hi : f.i < c.cap) (hc : c.cap ≤ 32) (hk : f.kind = 9 ∨ f.kind = 10 ∨ f.kind = 11) (w : World) : Calls Tryd.prog 32 #[c.v, f.v, l.v] w
    fun e w' => e = .returned (gateSeek c f l).v ∧ Ext w w' := by
  rcases hk with hk | hk | hk
  · exact gateSeek_9 c f l hf hi hc hk w
  · exact gateSeek_10 c f l hf hi hc hk w
  · exact gateSeek_11 c f l hf hi hc hk w

theorem gateAfter_any (c : Cfg) (f : Frm) (l : Cel) (hf : f.Fits) (w : World) (ht : Tab w) : Calls Tryd.prog 23 #[c.v, f.v, l.v] w
    fun e w' => e = .returned (.tuple #[(gateAfterA c f l).v, .int .i64 (gateErr c f)]) ∧ Ext w w' := by
  have HF := Lib.hid hf
  clear hf
  obtain ⟨E, hE⟩ : ∃ E, E = gateErr c f := ⟨_, rfl⟩
  have HG := Lib.hid hE
  cases h0 : (E == 0)
  · have HN := Lib.hid (gateAfter_no (c := c) (f := f) (l := l) (by rw [← hE]; exact h0))
    clear hE
    go_enter Tryd.func23, Tryd.ntmps23
    go_wp2_with (go_at_call 31; refine (gateCheck_any c f HF.out _ (Tab.ext ht EX)).mono ?_; rintro e w1 ⟨rfl, os1, n1, rfl⟩; rw [← HG.out])
    (refine bodyPost_ret (v := .tuple #[(zeroFrm).v, .int .i64 E]) (by simp [results, Tryd.results23, go_sem]) rfl ?_)
    exact ⟨by rw [HN.out, HG.out], EX⟩
  · have HN := Lib.hid (gateAfter_yes (c := c) (f := f) (l := l) (by rw [← hE]; exact h0))
    have hok := gateErr_ok (by rw [← hE]; exact h0)
    have hm := gateMay_pc hok.2.2
    have hfs := gateMay_facts hok.2.2
    have hcap := partOk_cap hok.1
    have HI := Lib.hid (And.intro hfs.2.1 (And.intro hcap.2 (gateMay_kind hok.2.2 hok.1 (by simpa using hok.2.1))))
    have hE0 : E = 0 := by simpa using h0
    subst hE0
    clear hE hok hfs hcap h0
    cases hp0 : (f.pc == 0)
    · cases hp2 : (f.pc == 2)
      · have HS : Hid (gateBehind c f l = f) := by simp [Hid, gateBehind, hp0, hp2]
        clear hm
        go_enter Tryd.func23, Tryd.ntmps23
        go_wp2_with (go_at_call 31; refine (gateCheck_any c f HF.out _ (Tab.ext ht EX)).mono ?_; rintro e w1 ⟨rfl, os1, n1, rfl⟩; rw [← HG.out])
        (refine bodyPost_ret (v := .tuple #[f.v, .int .i64 0]) (by simp [results, Tryd.results23, go_sem]) rfl ?_)
        exact ⟨by rw [HN.out, ← HG.out, HS.out], EX⟩
      · have HS : Hid (gateBehind c f l = { f with pc := 20 }) := by simp [Hid, gateBehind, hp0, hp2]
        clear hm
        go_enter Tryd.func23, Tryd.ntmps23
        go_wp2_with (go_at_call 31; refine (gateCheck_any c f HF.out _ (Tab.ext ht EX)).mono ?_; rintro e w1 ⟨rfl, os1, n1, rfl⟩; rw [← HG.out])
        (refine bodyPost_ret (v := .tuple #[(Frm.mk f.kind f.a f.b 20 f.i f.j f.n f.p f.h f.x f.y).v, .int .i64 0]) (by simp [results, Tryd.results23, go_sem]) rfl ?_)
        exact ⟨by rw [HN.out, ← HG.out, HS.out], EX⟩
    · have HS : Hid (gateBehind c f l = gateSeek c f l) := by simp [Hid, gateBehind, hp0]
      clear hm
      go_enter Tryd.func23, Tryd.ntmps23
      go_wp2_with (first | (go_at_call 31; refine (gateCheck_any c f HF.out _ (Tab.ext ht EX)).mono ?_; rintro e w1 ⟨rfl, os1, n1, rfl⟩; rw [← HG.out]) | (go_at_call 32; refine (gateSeek_any c f l HF.out HI.out.1 HI.out.2.1 HI.out.2.2 _).mono ?_; rintro e w2 ⟨rfl, os2, n2, rfl⟩))
      (refine bodyPost_ret (v := .tuple #[(gateSeek c f l).v, .int .i64 0]) (by simp [results, Tryd.results23, go_sem]) rfl ?_)
      exact ⟨by rw [HN.out, ← HG.out, HS.out], EX⟩
end Go.Proofs.YtmhmaifmendebaaDoor.gate
