/- The walks of 'gate.After'. -/
import Derived.Test.YtaijkpfgnlkppaaDoorGate
import Derived.Test.YtaijkpfgnlkppaaDoorGateQ
import Derived.Laws.EntriesVeiled
namespace Go.Proofs.YtaijkpfgnlkppaaDoor
open Go Go.RowKit

theorem seek1_any (a b : Int) (hb : 0 ≤ b ∧ b ≤ 4294967295) (w : World) : Calls Tryd.prog 47 #[.int .u64 a, .int .u32 b] w
    fun e w' => e = .returned (.bool (a == b)) ∧ w = w' := by
  go_enter Tryd.func47, Tryd.ntmps47
  go_wp2
  go_ret
  exact ⟨rfl, rfl⟩

theorem seek2_any (a b : Int) (hb : 0 ≤ b ∧ b ≤ 4294967295) (p : Addr) (w : World) (hp : w.cell? p = some (.func (.func 47) #[] #[])) : Calls Tryd.prog 48 #[.int .u64 a, .int .u32 b, .pointer (some p)] w
    fun e w' => e = .returned (.bool (a == 0 || a == b)) ∧ w = w' := by
  cases h : (a == 0)
  · go_enter Tryd.func48, Tryd.ntmps48
    go_wp2_with (go_at_call 47; refine (seek1_any _ _ (by first | assumption | omega) _).mono ?_; rintro e w' ⟨rfl, rfl⟩)
    go_ret
    exact ⟨ret_bool (by simp), rfl⟩
  · go_enter Tryd.func48, Tryd.ntmps48
    go_wp2
    go_ret
    exact ⟨ret_bool (by simp), rfl⟩

set_option maxHeartbeats 4000000 in
theorem gateOver_any (f : Frm) (w : World) : Calls Tryd.prog 49 #[f.v] w
    fun e w' => e = .returned (gateOver f).v ∧ Ext w w' := by
  go_enter Tryd.func49, Tryd.ntmps49
  go_wp2
  all_goals (refine bodyPost_ret (v := (gateOver f).v) ?_ rfl ⟨rfl, (by repeat (first | with_reducible exact Ext.refl _ | with_reducible assumption | with_reducible refine Ext.alloc ?_ _ | with_reducible refine Ext.gr ?_ _ | with_reducible refine Ext.drewN ?_ _ | with_reducible refine Ext.drew ?_ | with_reducible refine Ext.setCell ?_ ?_ _ | with_reducible refine Ext.more ?_ _ _ | (show _ ≤ _; dsimp only; omega)))⟩; (simp [results, Tryd.results49, go_sem]); go_light; simp_all [gateOver])

theorem gateOver_raw (k a b p i j n q h x y : Int) (w : World) : Calls Tryd.prog 49 #[.agg #[.int .u8 k, .int .u32 a, .int .u32 b, .int .u8 p, .int .u8 i, .int .u8 j, .int .u8 n, .int .u8 q, .int .u8 h, .int .u32 x, .int .u32 y]] w
    fun e w' => e = .returned (gateOver ⟨k, a, b, p, i, j, n, q, h, x, y⟩).v ∧ Ext w w' := gateOver_any ⟨k, a, b, p, i, j, n, q, h, x, y⟩ w


set_option maxHeartbeats 4000000 in
theorem gateSeek_11 (c : Cfg) (f : Frm) (l : Cel) (hf : f.Fits) (hi : f.i < c.cap) (hc : c.cap ≤ 32) (hk : f.kind = 11) (w : World) : Calls Tryd.prog 27 #[c.v, f.v, l.v] w
    fun e w' => e = .returned (gateSeek c f l).v ∧ Ext w w' := by
  obtain ⟨⟨k0, k1⟩, ⟨a0, a1⟩, ⟨b0, b1⟩, ⟨p0, p1⟩, ⟨i0, i1⟩, ⟨j0, j1⟩, _, _, ⟨q0, q1⟩, _, _⟩ := hf
  obtain ⟨fk, fa, fb, fp, fi, fj, fn, fq, fh, fx, fy⟩ := f
  dsimp only at *
  subst hk
  go_enter Tryd.func27, Tryd.ntmps27
  go_wp2_with (first | (go_at_call 47; refine (seek1_any _ _ (by first | assumption | omega) _).mono ?_; rintro e w' ⟨rfl, rfl⟩) | (go_at_call 48; refine (seek2_any _ _ (by first | assumption | omega) _ _ (by go_simp)).mono ?_; rintro e w' ⟨rfl, rfl⟩) | (go_at_call 49; refine (gateOver_raw _ _ _ _ _ _ _ _ _ _ _ _).mono ?_; rintro e w1 ⟨rfl, os1, n1, rfl⟩))
  all_goals (refine bodyPost_ret (v := (gateSeek c ⟨_, fa, fb, fp, fi, fj, fn, fq, fh, fx, fy⟩ l).v) ?_ rfl ⟨rfl, (by repeat (first | with_reducible exact Ext.refl _ | with_reducible assumption | with_reducible refine Ext.alloc ?_ _ | with_reducible refine Ext.gr ?_ _ | with_reducible refine Ext.drewN ?_ _ | with_reducible refine Ext.drew ?_ | with_reducible refine Ext.setCell ?_ ?_ _ | with_reducible refine Ext.more ?_ _ _ | (show _ ≤ _; dsimp only; omega)))⟩; simp [results, Tryd.results27, go_sem]; go_light; simp_all [gateSeek, gateMore, gateSpeaks, gateOver])

set_option maxHeartbeats 4000000 in
theorem gateSeek_9 (c : Cfg) (f : Frm) (l : Cel) (hf : f.Fits) (hi : f.i < c.cap) (hc : c.cap ≤ 32) (hk : f.kind = 9) (w : World) : Calls Tryd.prog 27 #[c.v, f.v, l.v] w
    fun e w' => e = .returned (gateSeek c f l).v ∧ Ext w w' := by
  obtain ⟨⟨k0, k1⟩, ⟨a0, a1⟩, ⟨b0, b1⟩, ⟨p0, p1⟩, ⟨i0, i1⟩, ⟨j0, j1⟩, _, _, ⟨q0, q1⟩, _, _⟩ := hf
  obtain ⟨fk, fa, fb, fp, fi, fj, fn, fq, fh, fx, fy⟩ := f
  dsimp only at *
  subst hk
  go_enter Tryd.func27, Tryd.ntmps27
  go_wp2_with (first | (go_at_call 47; refine (seek1_any _ _ (by first | assumption | omega) _).mono ?_; rintro e w' ⟨rfl, rfl⟩) | (go_at_call 48; refine (seek2_any _ _ (by first | assumption | omega) _ _ (by go_simp)).mono ?_; rintro e w' ⟨rfl, rfl⟩) | (go_at_call 49; refine (gateOver_raw _ _ _ _ _ _ _ _ _ _ _ _).mono ?_; rintro e w1 ⟨rfl, os1, n1, rfl⟩))
  all_goals (refine bodyPost_ret (v := (gateSeek c ⟨_, fa, fb, fp, fi, fj, fn, fq, fh, fx, fy⟩ l).v) ?_ rfl ⟨rfl, (by repeat (first | with_reducible exact Ext.refl _ | with_reducible assumption | with_reducible refine Ext.alloc ?_ _ | with_reducible refine Ext.gr ?_ _ | with_reducible refine Ext.drewN ?_ _ | with_reducible refine Ext.drew ?_ | with_reducible refine Ext.setCell ?_ ?_ _ | with_reducible refine Ext.more ?_ _ _ | (show _ ≤ _; dsimp only; omega)))⟩; simp [results, Tryd.results27, go_sem]; go_light; simp_all [gateSeek, gateMore, gateThere, gateOver])

set_option maxHeartbeats 4000000 in
theorem gateSeek_10 (c : Cfg) (f : Frm) (l : Cel) (hf : f.Fits) (hi : f.i < c.cap) (hc : c.cap ≤ 32) (hk : f.kind = 10) (w : World) : Calls Tryd.prog 27 #[c.v, f.v, l.v] w
    fun e w' => e = .returned (gateSeek c f l).v ∧ Ext w w' := by
  obtain ⟨⟨k0, k1⟩, ⟨a0, a1⟩, ⟨b0, b1⟩, ⟨p0, p1⟩, ⟨i0, i1⟩, ⟨j0, j1⟩, _, _, ⟨q0, q1⟩, _, _⟩ := hf
  obtain ⟨fk, fa, fb, fp, fi, fj, fn, fq, fh, fx, fy⟩ := f
  dsimp only at *
  subst hk
  go_enter Tryd.func27, Tryd.ntmps27
  go_wp2_with (first | (go_at_call 47; refine (seek1_any _ _ (by first | assumption | omega) _).mono ?_; rintro e w' ⟨rfl, rfl⟩) | (go_at_call 48; refine (seek2_any _ _ (by first | assumption | omega) _ _ (by go_simp)).mono ?_; rintro e w' ⟨rfl, rfl⟩) | (go_at_call 49; refine (gateOver_raw _ _ _ _ _ _ _ _ _ _ _ _).mono ?_; rintro e w1 ⟨rfl, os1, n1, rfl⟩))
  all_goals (refine bodyPost_ret (v := (gateSeek c ⟨_, fa, fb, fp, fi, fj, fn, fq, fh, fx, fy⟩ l).v) ?_ rfl ⟨rfl, (by repeat (first | with_reducible exact Ext.refl _ | with_reducible assumption | with_reducible refine Ext.alloc ?_ _ | with_reducible refine Ext.gr ?_ _ | with_reducible refine Ext.drewN ?_ _ | with_reducible refine Ext.drew ?_ | with_reducible refine Ext.setCell ?_ ?_ _ | with_reducible refine Ext.more ?_ _ _ | (show _ ≤ _; dsimp only; omega)))⟩; simp [results, Tryd.results27, go_sem]; go_light; simp_all [gateSeek, gateMore, gateThere, gateOver])
end Go.Proofs.YtaijkpfgnlkppaaDoor
