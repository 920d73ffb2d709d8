/- The walk of the reference's 'climb', layer 'tree'. -/
import Derived.Test.YtmhmaifmendebaaGreatDoorTreR11
import Derived.Test.YtmhmaifmendebaaGreatDoorGi
import Derived.LoopTactic
namespace Go.Proofs.YtmhmaifmendebaaGreatDoor.tree
open Go Go.RowKit
set_option maxRecDepth 100000
set_option maxHeartbeats 8000000

abbrev frmC (g : Frm) : Array Value := #[.int .u8 g.kind, .int .u32 g.a, .int .u32 g.b, .int .u8 g.pc, .int .u8 g.i, .int .u8 g.j, .int .u8 g.n, .int .u8 g.p, .int .u8 g.h, .int .u32 g.x, .int .u32 g.y]
theorem climbR_any (c : Cfg) (hc : TreOk c) (f : Frm) (hf : f.Fits) (hn : f.n ≤ c.cap) (w : World) : Calls Tryz.prog 82 #[c.v, f.v] w fun e w' => e = .returned (treUpw c f).v ∧ Ext w w' := by
  have hcap := hc.cap
  have hnode := hc.node
  have htop := topI_bd c.cap c.node
  change 0 ≤ treTop c ∧ treTop c ≤ 4 at htop
  obtain ⟨T, hT⟩ : ∃ T, treTop c = T := ⟨_, rfl⟩
  rw [hT] at htop
  have HTOP := Lib.hid hT
  obtain ⟨R, hR⟩ : ∃ R, treUpw c f = R := ⟨_, rfl⟩
  have HR := Lib.hid hR
  rw [hR]
  clear hT hR
  go_enter Tryz.func82, Tryz.ntmps82
  go_wp2
  go_loopw [5, 6] (fun _ _ wr => ∃ g : Frm, g.Fits ∧ g.n ≤ c.cap ∧ Hid (treUpw c g = R) ∧ Ext (((w.alloc (.cells #[.int .u8 c.object, .int .i64 c.instances, .int .i64 c.threads, .int .u8 c.kind, .int .i64 c.stripes, .int .i64 c.bits, .int .i64 c.cap, .int .i64 c.node, .int .i64 c.batch, .int .i64 c.chunk, .int .u64 c.limit, .int .u64 c.most] 24)).alloc (.cells (frmC (g)) 27)).alloc (.cells (frmC zeroFrm) 27)) wr) (fun _ _ wr => 300 - (intOf ((wr.cell? ⟨w.heap.size + 1, 8, none⟩).getD undef)).toNat)
  case atStart => exact ⟨f, hf, hn, HR, Ext.refl _⟩
  case round =>
    obtain ⟨g, hg, hgn, HRG, os, d, rfl⟩ := hrel
    have HG := Lib.hid hg
    obtain ⟨hn0, hn1⟩ := hg.n
    obtain ⟨hp0, hp1⟩ := hg.p
    obtain ⟨hh0, hh1⟩ := hg.h
    clear hg hf hn
    cases lt : decide (g.h < T)
    · have hz : ¬ g.h < T := by simpa using lt
      have HT2 := Lib.hid (HRG.out.symm.trans (upw_top (c := c) (f := g) (by rw [HTOP.out]; omega)))
      cases k4 : (g.kind == 4)
      · have HB : Hid (R = { g with pc := 25 }) := Lib.hid (by rw [HT2.out, k4]; rfl)
        go_upto_region 1 with fail
        (refine wp_region_ext_lit (by kernel_rfl) (by kernel_rfl) ?_); (repeat (go_big_quiet_step ((go_at_call 78; exact quiet_ext ((topR13_any c hc _).mono fun e w' ⟨he, hx⟩ => ⟨by rw [he, HTOP.out], hx⟩))))); (refine wpQuiet_nil ?_; intro _ hw'; obtain ⟨⟨osq, nq⟩, hw''⟩ := hw'; replace hw'' : _ = grew _ osq nq := hw''; subst hw'')
        go_wp2_with (go_at_call 79; refine (atR_any (g) _ _).mono ?_; rintro e w1 ⟨rfl, os1, n1, rfl⟩)
        refine bodyPost_ret (v := Frm.v { g with pc := 25 }) (by simp [results, Tryz.results82, go_sem]) rfl ⟨by rw [HB.out], EXX⟩
      · have HB : Hid (R = { g with pc := 24 }) := Lib.hid (by rw [HT2.out, k4]; rfl)
        go_upto_region 1 with fail
        (refine wp_region_ext_lit (by kernel_rfl) (by kernel_rfl) ?_); (repeat (go_big_quiet_step ((go_at_call 78; exact quiet_ext ((topR13_any c hc _).mono fun e w' ⟨he, hx⟩ => ⟨by rw [he, HTOP.out], hx⟩))))); (refine wpQuiet_nil ?_; intro _ hw'; obtain ⟨⟨osq, nq⟩, hw''⟩ := hw'; replace hw'' : _ = grew _ osq nq := hw''; subst hw'')
        go_wp2_with (go_at_call 79; refine (atR_any (g) _ _).mono ?_; rintro e w1 ⟨rfl, os1, n1, rfl⟩)
        refine bodyPost_ret (v := Frm.v { g with pc := 24 }) (by simp [results, Tryz.results82, go_sem]) rfl ⟨by rw [HB.out], EXX⟩
    · have hz : g.h < T := by simpa using lt
      obtain ⟨HH, hHH⟩ : ∃ k : Nat, g.h = k := ⟨g.h.toNat, by omega⟩
      have HHH := Lib.hid hHH
      clear hHH
      obtain ⟨U1, hU1⟩ : ∃ U, treUp c g.n (g.h + 1) = U := ⟨_, rfl⟩
      obtain ⟨DV, hDV⟩ : ∃ D, divI c.node (g.h + 1).toNat g.p = D := ⟨_, rfl⟩
      have hst := upw_step (c := c) (f := g) (by rw [HTOP.out]; exact hz)
      rw [HRG.out, hU1, hDV] at hst
      have HST := Lib.hid hst
      have HU1 := Lib.hid hU1
      have HDV : Hid (divI c.node (HH + 1 - 0) g.p = DV) := Lib.hid (by rw [Nat.sub_zero, show HH + 1 = (g.h + 1).toNat by have := HHH.out; omega]; exact hDV)
      have hwh1 : IntKind.u8.wrap (g.h + 1) = g.h + 1 := by rw [IntKind.wrap_u8]; omega
      have hwh2 : (g.h + 1) % 256 = g.h + 1 := by omega
      clear hU1 hDV hst
      go_upto_region 1 with fail
      (refine wp_region_ext_lit (by kernel_rfl) (by kernel_rfl) ?_); (repeat (go_big_quiet_step ((go_at_call 78; exact quiet_ext ((topR13_any c hc _).mono fun e w' ⟨he, hx⟩ => ⟨by rw [he, HTOP.out], hx⟩))))); (refine wpQuiet_nil ?_; intro _ hw'; obtain ⟨⟨osq, nq⟩, hw''⟩ := hw'; replace hw'' : _ = grew _ osq nq := hw''; subst hw'')
      go_wp2
      go_loopw [5, 6] (fun t5 t6 wr => ∃ (j : Nat) (x : Int), j ≤ HH + 1 ∧ t6 = .int .i64 j ∧ t5 = .int .i64 x ∧ 0 ≤ x ∧ x ≤ 255 ∧ Hid (divI c.node (HH + 1 - j) x = DV) ∧ Ext (((w.alloc (.cells #[.int .u8 c.object, .int .i64 c.instances, .int .i64 c.threads, .int .u8 c.kind, .int .i64 c.stripes, .int .i64 c.bits, .int .i64 c.cap, .int .i64 c.node, .int .i64 c.batch, .int .i64 c.chunk, .int .u64 c.limit, .int .u64 c.most] 24)).alloc (.cells (frmC ({ g with h := g.h + 1 })) 27)).alloc (.cells (frmC zeroFrm) 27)) wr) (fun _ t6 _ => HH + 1 - (intOf t6).toNat)
      case atStart => exact ⟨0, g.p, Nat.zero_le _, rfl, rfl, by omega, by omega, HDV, EXX⟩
      case round =>
        obtain ⟨j, x, hj, rfl, rfl, hx0, hx1, HDJ, osj, dj, rfl⟩ := hrel
        by_cases hlt : j < HH + 1
        · have hq := divI_bd hnode ⟨hx0, hx1⟩
          obtain ⟨Q, hQ⟩ : ∃ Q, x / c.node = Q := ⟨_, rfl⟩
          rw [hQ] at hq
          have HQ := Lib.hid hQ
          have jj : (j : Int) < g.h + 1 := by have := HHH.out; omega
          go_wp2
          go_roundw
          case rel => exact ⟨j + 1, x / c.node, by omega, by go_num, by first | rfl | go_num, by rw [HQ.out]; exact hq.1, by rw [HQ.out]; exact hq.2, Lib.hid (by have h1 := HDJ.out; rw [show HH + 1 - j = (HH + 1 - (j + 1)) + 1 by omega] at h1; simp only [divI] at h1; exact h1), EXX⟩
          case measure => simp [intOf]; omega
        · have hje : j = HH + 1 := by omega
          have hxd : x = DV := by have h1 := HDJ.out; rw [hje, Nat.sub_self] at h1; exact h1
          subst hxd
          have jj : (j : Int) = g.h + 1 := by have := HHH.out; omega
          clear hje hlt
          have hwx : IntKind.u8.wrap x = x := by rw [IntKind.wrap_u8]; omega
          have HFG : Hid (Frm.Fits { g with h := g.h + 1, i := x }) := Lib.hid ⟨HG.out.kind, HG.out.a, HG.out.b, HG.out.pc, ⟨hx0, hx1⟩, HG.out.j, HG.out.n, HG.out.p, by dsimp only; omega, HG.out.x, HG.out.y⟩
          obtain ⟨CLV, hCLV⟩ : ∃ b, treClears c { g with h := g.h + 1, i := x } = b := ⟨_, rfl⟩
          have HCL := Lib.hid hCLV
          have HUG : Hid (upG c { g with h := g.h + 1, i := x } = if CLV then { g with h := g.h + 1, i := x, pc := 12 } else treUpw c { g with h := g.h + 1, i := x }) := Lib.hid (by unfold upG; rw [hCLV])
          clear hCLV
          cases dn : decide (x < U1)
          · have hdn : ¬ x < U1 := by simpa using dn
            have HR2 := HST.out
            rw [if_neg hdn, HUG.out] at HR2
            cases CLV
            · have HN := Lib.hid (HR2.symm)
              clear HR2
              go_wp2_with (first | (go_at_call 60; refine (upR_any c hc g.n (g.h + 1) ⟨hn0, by omega⟩ (by omega) _).mono ?_; rintro e w1 ⟨rfl, os1, n1, rfl⟩; rw [HU1.out]) | (go_at_call 83; refine (clearsR_any c hc { g with h := g.h + 1, i := x } HFG.out (by dsimp only; omega) _).mono ?_; rintro e w1 ⟨rfl, os2, n2, rfl⟩; rw [HCL.out]))
              go_roundw
              case rel => exact ⟨{ g with h := g.h + 1, i := x }, HFG.out, hgn, Lib.hid (by have h1 := HN.out; simpa using h1), EXX⟩
              case measure => simp [go_sem, intOf]; omega
            · have HB : Hid (R = { g with h := g.h + 1, i := x, pc := 12 }) := Lib.hid (by rw [HR2]; rfl)
              clear HR2
              go_wp2_with (first | (go_at_call 60; refine (upR_any c hc g.n (g.h + 1) ⟨hn0, by omega⟩ (by omega) _).mono ?_; rintro e w1 ⟨rfl, os1, n1, rfl⟩; rw [HU1.out]) | (go_at_call 83; refine (clearsR_any c hc { g with h := g.h + 1, i := x } HFG.out (by dsimp only; omega) _).mono ?_; rintro e w1 ⟨rfl, os2, n2, rfl⟩; rw [HCL.out]) | (go_at_call 79; refine (atR_any ({ g with h := g.h + 1, i := x }) _ _).mono ?_; rintro e w1 ⟨rfl, os1, n1, rfl⟩))
              refine bodyPost_ret (v := Frm.v { g with h := g.h + 1, i := x, pc := 12 }) (by simp [results, Tryz.results82, go_sem]) rfl ⟨by rw [HB.out], EXX⟩
          · have hdn : x < U1 := by simpa using dn
            have HB : Hid (R = { g with h := g.h + 1, i := x, pc := 9 }) := Lib.hid (by rw [HST.out, if_pos hdn])
            go_wp2_with (first | (go_at_call 60; refine (upR_any c hc g.n (g.h + 1) ⟨hn0, by omega⟩ (by omega) _).mono ?_; rintro e w1 ⟨rfl, os1, n1, rfl⟩; rw [HU1.out]) | (go_at_call 79; refine (atR_any ({ g with h := g.h + 1, i := x }) _ _).mono ?_; rintro e w1 ⟨rfl, os1, n1, rfl⟩))
            refine bodyPost_ret (v := Frm.v { g with h := g.h + 1, i := x, pc := 9 }) (by simp [results, Tryz.results82, go_sem]) rfl ⟨by rw [HB.out], EXX⟩
end Go.Proofs.YtmhmaifmendebaaGreatDoor.tree
/- The walk of the reference's 'item', layer 'tree'. -/
namespace Go.Proofs.YtmhmaifmendebaaGreatDoor.tree
open Go Go.RowKit
set_option maxRecDepth 100000
set_option maxHeartbeats 8000000

abbrev gf (f : Frm) : Frm := { f with p := f.i }
theorem itemR_any (c : Cfg) (hok : TreOk c) (f : Frm) (hf : f.Fits) (hkd : f.kind = 4 ∨ f.kind = 5 ∨ f.kind = 6 ∨ f.kind = 7 ∨ f.kind = 8) (l : Cel) (hl : l.Fits) (hi : f.i ≤ 32) (hh : f.h ≤ 4) (hn : f.n ≤ 32) (hj : f.j ≤ 40) (w : World) :
    Calls Tryz.prog 80 #[c.v, f.v, l.v] w fun e w' => e = .returned (tupFB (treItem c f l)) ∧ Ext w w' := by
  have HF := Lib.hid hf
  have HL := Lib.hid hl
  have HFO := Lib.hid (over_fits hf l f.i hf.i)
  obtain ⟨⟨k0, k1⟩, ⟨a0, a1⟩, ⟨b0, b1⟩, ⟨p0, p1⟩, ⟨i0, i1⟩, ⟨j0, j1⟩, ⟨n0, n1⟩, ⟨q0, q1⟩, ⟨h0, h1⟩, ⟨x0, x1⟩, ⟨y0, y1⟩⟩ := hf
  obtain ⟨⟨t0, t1⟩, ⟨la0, la1⟩, ⟨lb0, lb1⟩, ⟨lc0, lc1⟩⟩ := hl
  have hnode := hok.node
  obtain ⟨U, hU⟩ : ∃ U, treUp c f.n f.h = U := ⟨_, rfl⟩
  have HU := Lib.hid hU
  have hua : IntKind.u64.wrap f.a = f.a := by rw [IntKind.wrap_u64]; omega
  have hwk : IntKind.i64.wrap f.i = f.i := by rw [IntKind.wrap_i64]; omega
  have hwj : IntKind.i64.wrap (f.i + 1) = f.i + 1 := by rw [IntKind.wrap_i64]; omega
  have hwi : IntKind.u8.wrap (f.i + 1) = f.i + 1 := by rw [IntKind.wrap_u8]; omega
  have hwi2 : (f.i + 1) % 256 = f.i + 1 := by omega
  cases ha : decide (f.a ≤ l.a)
  · have hz : ¬ f.a ≤ l.a := by simpa using ha
    have HNONE : Hid (((f.i + 1) % c.node == 0) = true ∨ decide (U ≤ f.i + 1) = true → treItem c f l = (treNone c f, false)) := Lib.hid fun h => by
      simp only [treItem, if_neg hz, hU]
      rw [if_pos (by rcases h with h | h <;> simp [h])]
    cases z : ((f.i + 1) % c.node == 0)
    · cases z2 : decide (U ≤ f.i + 1)
      · have HS : Hid (treItem c f l = ({ f with i := f.i + 1 }, false)) := Lib.hid (by simp only [treItem, if_neg hz, hU, z, z2]; rfl)
        clear hU HNONE
        go_enter Tryz.func80, Tryz.ntmps80
        go_upto_region 8 with fail
        (refine wp_region_ext_lit (by kernel_rfl) (by kernel_rfl) ?_); (repeat (go_big_quiet_step ((go_at_call 60; exact quiet_ext ((upR_any c hok f.n f.h (by omega) (by omega) _).mono fun e w' ⟨he, hx⟩ => ⟨by rw [he, HU.out], hx⟩))))); (refine wpQuiet_nil ?_; intro _ hw'; obtain ⟨⟨osq, nq⟩, hw''⟩ := hw'; replace hw'' : _ = grew _ osq nq := hw''; subst hw'')
        go_wp2
        all_goals refine bodyPost_ret (v := tupFB ({ f with i := f.i + 1 }, false)) (by simp [results, Tryz.results80, go_sem]) rfl ⟨by rw [HS.out], EXX⟩
      · have HS := Lib.hid (HNONE.out (Or.inr z2))
        clear hU HNONE
        go_enter Tryz.func80, Tryz.ntmps80
        go_upto_region 8 with fail
        (refine wp_region_ext_lit (by kernel_rfl) (by kernel_rfl) ?_); (repeat (go_big_quiet_step ((go_at_call 60; exact quiet_ext ((upR_any c hok f.n f.h (by omega) (by omega) _).mono fun e w' ⟨he, hx⟩ => ⟨by rw [he, HU.out], hx⟩))))); (refine wpQuiet_nil ?_; intro _ hw'; obtain ⟨⟨osq, nq⟩, hw''⟩ := hw'; replace hw'' : _ = grew _ osq nq := hw''; subst hw'')
        go_wp2_with (go_at_call 77; refine (noneR_any c f HF.out _).mono ?_; rintro e w2 ⟨rfl, os2, n2, rfl⟩)
        all_goals refine bodyPost_ret (v := tupFB (treNone c f, false)) (by simp [results, Tryz.results80, go_sem]) rfl ⟨by rw [HS.out], EXX⟩
    · have HS := Lib.hid (HNONE.out (Or.inl z))
      clear hU HNONE
      go_enter Tryz.func80, Tryz.ntmps80
      go_upto_region 8 with fail
      (refine wp_region_ext_lit (by kernel_rfl) (by kernel_rfl) ?_); (repeat (go_big_quiet_step ((go_at_call 60; exact quiet_ext ((upR_any c hok f.n f.h (by omega) (by omega) _).mono fun e w' ⟨he, hx⟩ => ⟨by rw [he, HU.out], hx⟩))))); (refine wpQuiet_nil ?_; intro _ hw'; obtain ⟨⟨osq, nq⟩, hw''⟩ := hw'; replace hw'' : _ = grew _ osq nq := hw''; subst hw'')
      go_wp2_with (go_at_call 77; refine (noneR_any c f HF.out _).mono ?_; rintro e w2 ⟨rfl, os2, n2, rfl⟩)
      all_goals refine bodyPost_ret (v := tupFB (treNone c f, false)) (by simp [results, Tryz.results80, go_sem]) rfl ⟨by rw [HS.out], EXX⟩
  · have hz : f.a ≤ l.a := by simpa using ha
    cases hzz : (f.h == 0)
    · obtain ⟨Q, hQ⟩ : ∃ Q, f.i * c.node % 256 = Q := ⟨_, rfl⟩
      have hm : 0 ≤ f.i * c.node ∧ f.i * c.node ≤ 128 := by rcases hnode with h | h | h <;> rw [h] <;> omega
      have hwm : IntKind.u8.wrap (f.i * c.node) = Q := by rw [IntKind.wrap_u8, hQ]
      have hwm2 : IntKind.i64.wrap (f.i * c.node) = f.i * c.node := by rw [IntKind.wrap_i64]; omega
      have hz2 : 1 ≤ f.h := by simp at hzz; omega
      have hwh : IntKind.u8.wrap (f.h - 1) = f.h - 1 := by rw [IntKind.wrap_u8]; omega
      have HS : Hid (treItem c f l = ({ f with h := f.h - 1, i := Q }, false)) := Lib.hid (by simp only [treItem, if_pos hz, hzz, hQ]; rfl)
      clear hU hQ
      go_enter Tryz.func80, Tryz.ntmps80
      go_wp2
      all_goals refine bodyPost_ret (v := tupFB ({ f with h := f.h - 1, i := Q }, false)) (by simp [results, Tryz.results80, go_sem]) rfl ⟨by rw [HS.out], EXX⟩
    · obtain ⟨Z, hZ⟩ : ∃ Z, treFound c { f with p := f.i, x := l.a % 4294967296, y := l.b % 4294967296 } = Z := ⟨_, rfl⟩
      have HQ := Lib.hid hZ
      have HS : Hid (treItem c f l = Z) := Lib.hid (by simp only [treItem, if_pos hz, hzz, treOver]; exact hZ)
      clear hU hZ
      have HK : Hid (Holds (((w.alloc (.cells #[.int .u8 c.object, .int .i64 c.instances, .int .i64 c.threads, .int .u8 c.kind, .int .i64 c.stripes, .int .i64 c.bits, .int .i64 c.cap, .int .i64 c.node, .int .i64 c.batch, .int .i64 c.chunk, .int .u64 c.limit, .int .u64 c.most] 24)).alloc (.cells (frmC { f with p := f.i }) 27)).alloc (.cells #[.int .u64 l.tag, .int .u64 l.a, .int .u64 l.b, .int .u64 l.c] 37)) ([(w.heap.size, 0, .int .u8 c.object), (w.heap.size, 1, .int .i64 c.instances), (w.heap.size, 2, .int .i64 c.threads), (w.heap.size, 3, .int .u8 c.kind), (w.heap.size, 4, .int .i64 c.stripes), (w.heap.size, 5, .int .i64 c.bits), (w.heap.size, 6, .int .i64 c.cap), (w.heap.size, 7, .int .i64 c.node), (w.heap.size, 8, .int .i64 c.batch), (w.heap.size, 9, .int .i64 c.chunk), (w.heap.size, 10, .int .u64 c.limit), (w.heap.size, 11, .int .u64 c.most)] ++ ([(w.heap.size + 1, 0, .int .u8 (gf f).kind), (w.heap.size + 1, 1, .int .u32 (gf f).a), (w.heap.size + 1, 2, .int .u32 (gf f).b), (w.heap.size + 1, 3, .int .u8 (gf f).pc), (w.heap.size + 1, 4, .int .u8 (gf f).i), (w.heap.size + 1, 5, .int .u8 (gf f).j), (w.heap.size + 1, 6, .int .u8 (gf f).n), (w.heap.size + 1, 7, .int .u8 (gf f).p), (w.heap.size + 1, 8, .int .u8 (gf f).h), (w.heap.size + 1, 9, .int .u32 (gf f).x), (w.heap.size + 1, 10, .int .u32 (gf f).y)] ++ [(w.heap.size + 1 + 1, 0, .int .u64 l.tag), (w.heap.size + 1 + 1, 1, .int .u64 l.a), (w.heap.size + 1 + 1, 2, .int .u64 l.b), (w.heap.size + 1 + 1, 3, .int .u64 l.c)]))) := Lib.hid (by rw [holds_iff]; simp [go_sem])
      go_enter Tryz.func80, Tryz.ntmps80
      go_upto_region 4 with fail
      go_region_held3 (fun W => W.cell? ⟨w.heap.size, 0, none⟩ = some (.int .u8 c.object) ∧ W.cell? ⟨w.heap.size, 1, none⟩ = some (.int .i64 c.instances) ∧ W.cell? ⟨w.heap.size, 2, none⟩ = some (.int .i64 c.threads) ∧ W.cell? ⟨w.heap.size, 3, none⟩ = some (.int .u8 c.kind) ∧ W.cell? ⟨w.heap.size, 4, none⟩ = some (.int .i64 c.stripes) ∧ W.cell? ⟨w.heap.size, 5, none⟩ = some (.int .i64 c.bits) ∧ W.cell? ⟨w.heap.size, 6, none⟩ = some (.int .i64 c.cap) ∧ W.cell? ⟨w.heap.size, 7, none⟩ = some (.int .i64 c.node) ∧ W.cell? ⟨w.heap.size, 8, none⟩ = some (.int .i64 c.batch) ∧ W.cell? ⟨w.heap.size, 9, none⟩ = some (.int .i64 c.chunk) ∧ W.cell? ⟨w.heap.size, 10, none⟩ = some (.int .u64 c.limit) ∧ W.cell? ⟨w.heap.size, 11, none⟩ = some (.int .u64 c.most) ∧ W.cell? ⟨w.heap.size + 1, 0, none⟩ = some (.int .u8 (gf f).kind) ∧ W.cell? ⟨w.heap.size + 1, 1, none⟩ = some (.int .u32 (gf f).a) ∧ W.cell? ⟨w.heap.size + 1, 2, none⟩ = some (.int .u32 (gf f).b) ∧ W.cell? ⟨w.heap.size + 1, 3, none⟩ = some (.int .u8 (gf f).pc) ∧ W.cell? ⟨w.heap.size + 1, 4, none⟩ = some (.int .u8 (gf f).i) ∧ W.cell? ⟨w.heap.size + 1, 5, none⟩ = some (.int .u8 (gf f).j) ∧ W.cell? ⟨w.heap.size + 1, 6, none⟩ = some (.int .u8 (gf f).n) ∧ W.cell? ⟨w.heap.size + 1, 7, none⟩ = some (.int .u8 (gf f).p) ∧ W.cell? ⟨w.heap.size + 1, 8, none⟩ = some (.int .u8 (gf f).h) ∧ W.cell? ⟨w.heap.size + 1, 9, none⟩ = some (.int .u32 (gf f).x) ∧ W.cell? ⟨w.heap.size + 1, 10, none⟩ = some (.int .u32 (gf f).y) ∧ W.cell? ⟨w.heap.size + 1 + 1, 0, none⟩ = some (.int .u64 l.tag) ∧ W.cell? ⟨w.heap.size + 1 + 1, 1, none⟩ = some (.int .u64 l.a) ∧ W.cell? ⟨w.heap.size + 1 + 1, 2, none⟩ = some (.int .u64 l.b) ∧ W.cell? ⟨w.heap.size + 1 + 1, 3, none⟩ = some (.int .u64 l.c)) (exact HK.out.ext EX) (first | (go_at_call 81; refine (overR_any (gf f) l HL.out _).mono ?_; rintro e w1 ⟨rfl, os1, n1, rfl⟩; simp only [treOver]) | (go_at_call 122; refine (foundR_any c { f with p := f.i, x := l.a % 4294967296, y := l.b % 4294967296 } HFO.out hkd (by dsimp only; omega) (by dsimp only; omega) (by dsimp only; omega) _).mono ?_; rintro e w2 ⟨rfl, os2, n2, rfl⟩; rw [HQ.out]))
      all_goals
        go_wp2
        refine bodyPost_ret (v := tupFB Z) (by simp [results, Tryz.results80, go_sem]) rfl ⟨by rw [HS.out], EXX⟩
end Go.Proofs.YtmhmaifmendebaaGreatDoor.tree
