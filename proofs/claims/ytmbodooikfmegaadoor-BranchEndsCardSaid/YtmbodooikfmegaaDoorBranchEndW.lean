/- The walk of 'BranchEnds'. -/
import Derived.Test.YtmbodooikfmegaaDoorBrE
import Derived.Test.YtmbodooikfmegaaDoorBrZ
import Derived.Test.YtmbodooikfmegaaDoorJn7
import Derived.Deep.LoopGhost
namespace Go.Proofs.YtmbodooikfmegaaDoor
open Go Go.RowKit

theorem BrIn.cell {c : Cfg} {o : Opn} {f : Frm} (h : BrIn c o f) (hf : f.Fits) : FitsC 0 0 f := by
  obtain ⟨h1, h2, h3, h4, h5, h6, h7⟩ := h.small
  exact ⟨by omega, by omega, ⟨hf.kind.1, h1⟩, ⟨hf.pc.1, h2⟩, ⟨hf.i.1, h3⟩, ⟨hf.j.1, h4⟩, ⟨hf.n.1, h5⟩, ⟨hf.p.1, h6⟩, ⟨hf.h.1, h7⟩, hf.a, hf.b, hf.x, hf.y⟩
def endsBase (w : World) (c : Cfg) (o : Opn) (os : Array Obj) (d : Nat) (x1 y1 : Obj) (f : Frm) : World :=
  (((grew ((w.alloc (.cells #[.int .u8 c.object, .int .i64 c.instances, .int .i64 c.threads, .int .u8 c.kind, .int .i64 c.stripes, .int .i64 c.bits, .int .i64 c.cap, .int .i64 c.node, .int .i64 c.batch, .int .i64 c.chunk, .int .u64 c.limit, .int .u64 c.most] 24)).alloc (.cells #[.int .u8 o.kind, .int .u32 o.a, .int .u32 o.b, .int .u32 o.c] 47)) os d).alloc x1).alloc y1).alloc
    (.cells #[.int .u8 f.kind, .int .u32 f.a, .int .u32 f.b, .int .u8 f.pc, .int .u8 f.i, .int .u8 f.j, .int .u8 f.n, .int .u8 f.p, .int .u8 f.h, .int .u32 f.x, .int .u32 f.y] 27)
set_option maxRecDepth 100000 in
set_option maxHeartbeats 4000000 in
theorem branchEnds_walk (c : Cfg) (o : Opn) (L : List Cel) (ho : o.Fits) (hL : CelsFit L) (v : Value) (w : World) (ht : Tab w) (hs : Sl w v L.length (celCells L)) :
    Calls Tryd.prog 7 #[c.v, o.v, v] w fun e w' => e = .returned (.bool true) ∧ Ext w w' := by
  have HT := Lib.hid ht
  obtain ⟨ad, cap, rfl, hs⟩ := hs
  have HS := Lib.hid hs
  have HL := Lib.hid hL
  have HFS := Lib.hid (startF_fits ho)
  have HO := Lib.hid ho
  obtain ⟨E, hE⟩ : ∃ E, brErr c (startF o) = E := ⟨_, rfl⟩
  have HE0 := Lib.hid hE
  clear ht hs hL
  by_cases h100 : (100 : Int) < (L.length : Int)
  · clear hE ho
    go_enter Tryd.func7, Tryd.ntmps7
    go_wp2_with (first | (go_at_call 14; refine (alive_any _ (Tab.ext HT.out (by first | ((repeat (first | with_reducible exact Ext.refl _ | with_reducible assumption | with_reducible refine Ext.alloc ?_ _ | with_reducible refine Ext.gr ?_ _ | with_reducible refine Ext.drewN ?_ _ | with_reducible refine Ext.drew ?_ | with_reducible refine Ext.setCell ?_ ?_ _ | with_reducible refine Ext.more ?_ _ _ | (show _ ≤ _; dsimp only; omega))); done) | ((repeat (first | with_reducible exact Ext.refl _ | with_reducible assumption | with_reducible apply Ext.bothR | with_reducible refine Ext.alloc ?_ _ | with_reducible refine Ext.gr ?_ _ | with_reducible refine Ext.drewN ?_ _ | with_reducible refine Ext.drew ?_ | with_reducible refine Ext.setCell ?_ ?_ _ | with_reducible refine Ext.more ?_ _ _ | (show _ ≤ _; dsimp only; omega))); done)))).mono ?_; rintro e w1 ⟨rfl, os1, n1, rfl⟩) | (go_at_call 15; refine (regStart_any o _).mono ?_; rintro e w1 ⟨rfl, x1, y1, rfl⟩) | (go_at_call 9; refine (brNext_any c (startF o) HFS.out _ (Tab.ext HT.out (by first | ((repeat (first | with_reducible exact Ext.refl _ | with_reducible assumption | with_reducible refine Ext.alloc ?_ _ | with_reducible refine Ext.gr ?_ _ | with_reducible refine Ext.drewN ?_ _ | with_reducible refine Ext.drew ?_ | with_reducible refine Ext.setCell ?_ ?_ _ | with_reducible refine Ext.more ?_ _ _ | (show _ ≤ _; dsimp only; omega))); done) | ((repeat (first | with_reducible exact Ext.refl _ | with_reducible assumption | with_reducible apply Ext.bothR | with_reducible refine Ext.alloc ?_ _ | with_reducible refine Ext.gr ?_ _ | with_reducible refine Ext.drewN ?_ _ | with_reducible refine Ext.drew ?_ | with_reducible refine Ext.setCell ?_ ?_ _ | with_reducible refine Ext.more ?_ _ _ | (show _ ≤ _; dsimp only; omega))); done)))).mono ?_; rintro e w1 ⟨rfl, os2, n2, rfl⟩; rw [HE0.out]))
    go_ret
    exact ⟨rfl, (by first | ((repeat (first | with_reducible exact Ext.refl _ | with_reducible assumption | with_reducible refine Ext.alloc ?_ _ | with_reducible refine Ext.gr ?_ _ | with_reducible refine Ext.drewN ?_ _ | with_reducible refine Ext.drew ?_ | with_reducible refine Ext.setCell ?_ ?_ _ | with_reducible refine Ext.more ?_ _ _ | (show _ ≤ _; dsimp only; omega))); done) | ((repeat (first | with_reducible exact Ext.refl _ | with_reducible assumption | with_reducible apply Ext.bothR | with_reducible refine Ext.alloc ?_ _ | with_reducible refine Ext.gr ?_ _ | with_reducible refine Ext.drewN ?_ _ | with_reducible refine Ext.drew ?_ | with_reducible refine Ext.setCell ?_ ?_ _ | with_reducible refine Ext.more ?_ _ _ | (show _ ≤ _; dsimp only; omega))); done))⟩
  cases hE1 : (E == 0)
  · have hE2 : (E != 0) = true := by simpa using hE1
    clear hE ho
    go_enter Tryd.func7, Tryd.ntmps7
    go_wp2_with (first | (go_at_call 14; refine (alive_any _ (Tab.ext HT.out (by first | ((repeat (first | with_reducible exact Ext.refl _ | with_reducible assumption | with_reducible refine Ext.alloc ?_ _ | with_reducible refine Ext.gr ?_ _ | with_reducible refine Ext.drewN ?_ _ | with_reducible refine Ext.drew ?_ | with_reducible refine Ext.setCell ?_ ?_ _ | with_reducible refine Ext.more ?_ _ _ | (show _ ≤ _; dsimp only; omega))); done) | ((repeat (first | with_reducible exact Ext.refl _ | with_reducible assumption | with_reducible apply Ext.bothR | with_reducible refine Ext.alloc ?_ _ | with_reducible refine Ext.gr ?_ _ | with_reducible refine Ext.drewN ?_ _ | with_reducible refine Ext.drew ?_ | with_reducible refine Ext.setCell ?_ ?_ _ | with_reducible refine Ext.more ?_ _ _ | (show _ ≤ _; dsimp only; omega))); done)))).mono ?_; rintro e w1 ⟨rfl, os1, n1, rfl⟩) | (go_at_call 15; refine (regStart_any o _).mono ?_; rintro e w1 ⟨rfl, x1, y1, rfl⟩) | (go_at_call 9; refine (brNext_any c (startF o) HFS.out _ (Tab.ext HT.out (by first | ((repeat (first | with_reducible exact Ext.refl _ | with_reducible assumption | with_reducible refine Ext.alloc ?_ _ | with_reducible refine Ext.gr ?_ _ | with_reducible refine Ext.drewN ?_ _ | with_reducible refine Ext.drew ?_ | with_reducible refine Ext.setCell ?_ ?_ _ | with_reducible refine Ext.more ?_ _ _ | (show _ ≤ _; dsimp only; omega))); done) | ((repeat (first | with_reducible exact Ext.refl _ | with_reducible assumption | with_reducible apply Ext.bothR | with_reducible refine Ext.alloc ?_ _ | with_reducible refine Ext.gr ?_ _ | with_reducible refine Ext.drewN ?_ _ | with_reducible refine Ext.drew ?_ | with_reducible refine Ext.setCell ?_ ?_ _ | with_reducible refine Ext.more ?_ _ _ | (show _ ≤ _; dsimp only; omega))); done)))).mono ?_; rintro e w1 ⟨rfl, os2, n2, rfl⟩; rw [HE0.out]))
    go_ret
    exact ⟨rfl, (by first | ((repeat (first | with_reducible exact Ext.refl _ | with_reducible assumption | with_reducible refine Ext.alloc ?_ _ | with_reducible refine Ext.gr ?_ _ | with_reducible refine Ext.drewN ?_ _ | with_reducible refine Ext.drew ?_ | with_reducible refine Ext.setCell ?_ ?_ _ | with_reducible refine Ext.more ?_ _ _ | (show _ ≤ _; dsimp only; omega))); done) | ((repeat (first | with_reducible exact Ext.refl _ | with_reducible assumption | with_reducible apply Ext.bothR | with_reducible refine Ext.alloc ?_ _ | with_reducible refine Ext.gr ?_ _ | with_reducible refine Ext.drewN ?_ _ | with_reducible refine Ext.drew ?_ | with_reducible refine Ext.setCell ?_ ?_ _ | with_reducible refine Ext.more ?_ _ _ | (show _ ≤ _; dsimp only; omega))); done))⟩
  obtain rfl : E = 0 := by simpa using hE1
  have hst := br_start hE
  have HST := Lib.hid hst
  obtain ⟨M, hM⟩ : ∃ M, M = if o.kind = 14 then 3 * c.cap else 4 * c.cap + 3 := ⟨_, rfl⟩
  have HM := Lib.hid hM
  have hMb : 0 ≤ M ∧ M ≤ 1000 := by have hcap := hst.1.facts.2.1; rw [hM]; split <;> omega
  have hcap := hst.1.facts.2.1
  have i1 : IntKind.i64.wrap (3 * c.cap) = 3 * c.cap := by rw [IntKind.wrap_i64]; omega
  have i2 : IntKind.i64.wrap (4 * c.cap) = 4 * c.cap := by rw [IntKind.wrap_i64]; omega
  have i3 : IntKind.i64.wrap (4 * c.cap + 3) = 4 * c.cap + 3 := by rw [IntKind.wrap_i64]; omega
  clear hcap
  clear hst hE hE1 ho hM
  go_enter Tryd.func7, Tryd.ntmps7
  go_upto_if 46 with (first | (go_at_call 14; refine (alive_any _ (Tab.ext HT.out (by first | ((repeat (first | with_reducible exact Ext.refl _ | with_reducible assumption | with_reducible refine Ext.alloc ?_ _ | with_reducible refine Ext.gr ?_ _ | with_reducible refine Ext.drewN ?_ _ | with_reducible refine Ext.drew ?_ | with_reducible refine Ext.setCell ?_ ?_ _ | with_reducible refine Ext.more ?_ _ _ | (show _ ≤ _; dsimp only; omega))); done) | ((repeat (first | with_reducible exact Ext.refl _ | with_reducible assumption | with_reducible apply Ext.bothR | with_reducible refine Ext.alloc ?_ _ | with_reducible refine Ext.gr ?_ _ | with_reducible refine Ext.drewN ?_ _ | with_reducible refine Ext.drew ?_ | with_reducible refine Ext.setCell ?_ ?_ _ | with_reducible refine Ext.more ?_ _ _ | (show _ ≤ _; dsimp only; omega))); done)))).mono ?_; rintro e w1 ⟨rfl, os1, n1, rfl⟩) | (go_at_call 15; refine (regStart_any o _).mono ?_; rintro e w1 ⟨rfl, x1, y1, rfl⟩) | (go_at_call 9; refine (brNext_any c (startF o) HFS.out _ (Tab.ext HT.out (by first | ((repeat (first | with_reducible exact Ext.refl _ | with_reducible assumption | with_reducible refine Ext.alloc ?_ _ | with_reducible refine Ext.gr ?_ _ | with_reducible refine Ext.drewN ?_ _ | with_reducible refine Ext.drew ?_ | with_reducible refine Ext.setCell ?_ ?_ _ | with_reducible refine Ext.more ?_ _ _ | (show _ ≤ _; dsimp only; omega))); done) | ((repeat (first | with_reducible exact Ext.refl _ | with_reducible assumption | with_reducible apply Ext.bothR | with_reducible refine Ext.alloc ?_ _ | with_reducible refine Ext.gr ?_ _ | with_reducible refine Ext.drewN ?_ _ | with_reducible refine Ext.drew ?_ | with_reducible refine Ext.setCell ?_ ?_ _ | with_reducible refine Ext.more ?_ _ _ | (show _ ≤ _; dsimp only; omega))); done)))).mono ?_; rintro e w1 ⟨rfl, os2, n2, rfl⟩; rw [HE0.out]))
  go_cut [11] (fun t11 wn => t11 = .int .i64 M ∧ Hid (Ext (endsBase w c o os1 n1 x1 y1 (startF o)) wn))
  case first =>
    cases hk : (o.kind == 14)
    all_goals
      have hk2 := hk
      simp only [beq_iff_eq, beq_eq_false_iff_ne, ne_eq] at hk2
      have hk3 : (o.kind != 14) = !(o.kind == 14) := rfl
      rw [hk] at hk3
      go_wp2_with fail
      go_meet
      case rel =>
        refine ⟨?_, Lib.hid ?_⟩
        · rw [HM.out]
          simp [hk2]
        · unfold endsBase
          simp only [startF]
          exact (by first | ((repeat (first | with_reducible exact Ext.refl _ | with_reducible assumption | with_reducible refine Ext.alloc ?_ _ | with_reducible refine Ext.gr ?_ _ | with_reducible refine Ext.drewN ?_ _ | with_reducible refine Ext.drew ?_ | with_reducible refine Ext.setCell ?_ ?_ _ | with_reducible refine Ext.more ?_ _ _ | (show _ ≤ _; dsimp only; omega))); done) | ((repeat (first | with_reducible exact Ext.refl _ | with_reducible assumption | with_reducible apply Ext.bothR | with_reducible refine Ext.alloc ?_ _ | with_reducible refine Ext.gr ?_ _ | with_reducible refine Ext.drewN ?_ _ | with_reducible refine Ext.drew ?_ | with_reducible refine Ext.setCell ?_ ?_ _ | with_reducible refine Ext.more ?_ _ _ | (show _ ≤ _; dsimp only; omega))); done))
  case rest =>
    obtain ⟨rfl, HX⟩ := hcut
    go_wp2_with fail
    go_loopg [12] M.toNat (fun gk t12 wr => ∃ (f : Frm) (k : Nat), t12 = .int .i64 k ∧ (k : Int) + (gk : Int) = M ∧ brRem c f ≤ (gk : Int) ∧ Hid (BrIn c o f) ∧ Hid f.Fits ∧ Hid (Ext (endsBase w c o os1 n1 x1 y1 f) wr))
    case atStart =>
      refine ⟨startF o, 0, rfl, by omega, ?_, Lib.hid HST.out.1, HFS, HX⟩
      have h1 := HM.out; have h2 := HST.out.2; by_cases hk : o.kind = 14 <;> simp [hk] at h1 h2 <;> omega
    case round =>
      obtain ⟨f, k, rfl, hkg, hrem, HI, HF, HXf⟩ := hrel
      have hX := HXf.out
      unfold endsBase at hX
      obtain ⟨os, d, rfl⟩ := hX
      clear HX HXf
      have HE : Hid (brErr c f = 0) := Lib.hid HI.out.err
      obtain ⟨A, hA⟩ : ∃ A, A = brStep f := ⟨_, rfl⟩
      have HN : Hid (brNextA c f = A) := Lib.hid (by rw [hA]; simp [brNextA, HE.out])
      have HC : Hid (FitsC 0 0 f) := Lib.hid (HI.out.cell HF.out)
      have hg := br_goes HI.out HF.out
      rw [← hA] at hg
      have hkM : (k : Int) ≤ M := by omega
      clear hA
      cases h4 : (A.kind == 4)
      · have h4' : A.kind ≠ 4 := by simpa using h4
        obtain ⟨_, g0, g1, g2, g3⟩ := hg.resolve_left h4'
        have HG3 := Lib.hid g3
        have HG2 := Lib.hid g2
        obtain ⟨l, hl⟩ : ∃ l, l = L.getD (k % L.length) ⟨0, 0, 0, 0⟩ := ⟨_, rfl⟩
        have HLF : Hid l.Fits := Lib.hid (by rw [hl]; exact HL.out.get _)
        have HLL := Lib.hid hl
        obtain ⟨m, rfl⟩ : ∃ m, gk = m + 1 := ⟨gk - 1, by have h1 := g3 l; have h2 := br_rem h1.1; omega⟩
        have a0 : ¬ A.at' < 0 := by omega
        have a1 : ¬ c.cap ≤ A.at' := by omega
        clear hg g3 g2 h4' hl
        go_upto_region 18 with (first | (go_at_call 9; refine (brNext_any c f HF.out _ (Tab.ext HT.out (by first | ((repeat (first | with_reducible exact Ext.refl _ | with_reducible assumption | with_reducible refine Ext.alloc ?_ _ | with_reducible refine Ext.gr ?_ _ | with_reducible refine Ext.drewN ?_ _ | with_reducible refine Ext.drew ?_ | with_reducible refine Ext.setCell ?_ ?_ _ | with_reducible refine Ext.more ?_ _ _ | (show _ ≤ _; dsimp only; omega))); done) | ((repeat (first | with_reducible exact Ext.refl _ | with_reducible assumption | with_reducible apply Ext.bothR | with_reducible refine Ext.alloc ?_ _ | with_reducible refine Ext.gr ?_ _ | with_reducible refine Ext.drewN ?_ _ | with_reducible refine Ext.drew ?_ | with_reducible refine Ext.setCell ?_ ?_ _ | with_reducible refine Ext.more ?_ _ _ | (show _ ≤ _; dsimp only; omega))); done)))).mono ?_; rintro e w1 ⟨rfl, os2, n2, rfl⟩; rw [HE.out, HN.out]) | (go_at_call 17; refine (laid_any 0 0 0 f HC.out _).mono ?_; rintro e w1 ⟨⟨x3, y3, z3, rfl⟩, os3, n3, rfl⟩))
        go_cut [102] (fun t99 wn => t99 = .bool false ∧ Hid (Ext (endsBase w c o os1 n1 x1 y1 f) wn))
        case first =>
          rcases HG2.out with q1 | ⟨q1, q2⟩
          · have q3 : (A.kind == 1) = true := by simpa using q1
            have q4 : (A.kind != 1) = false := by simp [q1]
            clear q1
            go_wp2_with fail
            go_meet
            case rel => exact ⟨by first | rfl | (simp; omega), Lib.hid (by unfold endsBase; exact (by first | ((repeat (first | with_reducible exact Ext.refl _ | with_reducible assumption | with_reducible refine Ext.alloc ?_ _ | with_reducible refine Ext.gr ?_ _ | with_reducible refine Ext.drewN ?_ _ | with_reducible refine Ext.drew ?_ | with_reducible refine Ext.setCell ?_ ?_ _ | with_reducible refine Ext.more ?_ _ _ | (show _ ≤ _; dsimp only; omega))); done) | ((repeat (first | with_reducible exact Ext.refl _ | with_reducible assumption | with_reducible apply Ext.bothR | with_reducible refine Ext.alloc ?_ _ | with_reducible refine Ext.gr ?_ _ | with_reducible refine Ext.drewN ?_ _ | with_reducible refine Ext.drew ?_ | with_reducible refine Ext.setCell ?_ ?_ _ | with_reducible refine Ext.more ?_ _ _ | (show _ ≤ _; dsimp only; omega))); done)))⟩
          · have q3 : (A.kind == 1) = false := by simp [q1]
            have q4 : (A.kind != 1) = true := by simp [q1]
            have q5 : (A.kind != 2) = false := by simp [q1]
            have q6 : (o.kind == 14) = false := by simpa using q2
            clear q1 q2
            go_wp2_with fail
            go_meet
            case rel => exact ⟨by first | rfl | (simp; omega), Lib.hid (by unfold endsBase; exact (by first | ((repeat (first | with_reducible exact Ext.refl _ | with_reducible assumption | with_reducible refine Ext.alloc ?_ _ | with_reducible refine Ext.gr ?_ _ | with_reducible refine Ext.drewN ?_ _ | with_reducible refine Ext.drew ?_ | with_reducible refine Ext.setCell ?_ ?_ _ | with_reducible refine Ext.more ?_ _ _ | (show _ ≤ _; dsimp only; omega))); done) | ((repeat (first | with_reducible exact Ext.refl _ | with_reducible assumption | with_reducible apply Ext.bothR | with_reducible refine Ext.alloc ?_ _ | with_reducible refine Ext.gr ?_ _ | with_reducible refine Ext.drewN ?_ _ | with_reducible refine Ext.drew ?_ | with_reducible refine Ext.setCell ?_ ?_ _ | with_reducible refine Ext.more ?_ _ _ | (show _ ≤ _; dsimp only; omega))); done)))⟩
        case rest =>
          obtain ⟨rfl, HX⟩ := hcut
          have hX := HX.out
          unfold endsBase at hX
          obtain ⟨os5, d5, rfl⟩ := hX
          clear HX
          go_upto_if 106 with fail
          go_cut [17] (fun t17 wn => ∃ b, t17 = .pointer (some ⟨b, 0, none⟩) ∧ Hid (Holds wn ([(b, 0, .int .u64 l.tag), (b, 1, .int .u64 l.a), (b, 2, .int .u64 l.b), (b, 3, .int .u64 l.c)])) ∧ Hid (Ext (endsBase w c o os1 n1 x1 y1 f) wn))
          case first =>
            rcases Nat.eq_zero_or_pos L.length with z | z
            · have z0 : ¬ (0 : Int) < (L.length : Int) := by omega
              have HZ := Lib.hid z
              clear z
              go_wp2_with fail
              go_meet
              case rel =>
                have z1 : L = [] := List.length_eq_zero_iff.1 HZ.out
                refine ⟨_, rfl, Lib.hid ?_, Lib.hid ?_⟩
                · rw [HLL.out, z1]
                  simp [Holds, go_sem]
                · unfold endsBase
                  exact (by first | ((repeat (first | with_reducible exact Ext.refl _ | with_reducible assumption | with_reducible refine Ext.alloc ?_ _ | with_reducible refine Ext.gr ?_ _ | with_reducible refine Ext.drewN ?_ _ | with_reducible refine Ext.drew ?_ | with_reducible refine Ext.setCell ?_ ?_ _ | with_reducible refine Ext.more ?_ _ _ | (show _ ≤ _; dsimp only; omega))); done) | ((repeat (first | with_reducible exact Ext.refl _ | with_reducible assumption | with_reducible apply Ext.bothR | with_reducible refine Ext.alloc ?_ _ | with_reducible refine Ext.gr ?_ _ | with_reducible refine Ext.drewN ?_ _ | with_reducible refine Ext.drew ?_ | with_reducible refine Ext.setCell ?_ ?_ _ | with_reducible refine Ext.more ?_ _ _ | (show _ ≤ _; dsimp only; omega))); done))
            · have z0 : (0 : Int) < (L.length : Int) := by omega
              obtain ⟨r, hr⟩ : ∃ r : Nat, r = k % L.length := ⟨_, rfl⟩
              have hr1 : r < L.length := by rw [hr]; exact Nat.mod_lt _ z
              have hr2 : (k : Int).tmod (L.length : Int) = (r : Int) := by rw [hr, Int.tmod_eq_emod_of_nonneg (by omega)]; rfl
              have hr3 : (r : Int) < (L.length : Int) := by omega
              have hr4 : (0 : Int) ≤ (r : Int) := by omega
              obtain ⟨b, o', rfl, c0, c1, c2, c3⟩ := HS.out.cel hr4 hr3
              rw [Int.toNat_natCast, hr, ← HLL.out] at c0 c1 c2 c3
              rw [← hr] at c0 c1 c2 c3
              have hb := World.block_lt_of_cell? _ _ c0
              dsimp only at hb
              have hb1 : ∀ n1 : Nat, b < w.heap.size + n1 := by intros; omega
              have hb2 : ∀ n1 n2 : Nat, b < w.heap.size + n1 + n2 := by intros; omega
              have hb3 : ∀ n1 n2 n3 : Nat, b < w.heap.size + n1 + n2 + n3 := by intros; omega
              have hb4 : ∀ n1 n2 n3 n4 : Nat, b < w.heap.size + n1 + n2 + n3 + n4 := by intros; omega
              have hb5 : ∀ n1 n2 n3 n4 n5 : Nat, b < w.heap.size + n1 + n2 + n3 + n4 + n5 := by intros; omega
              have hb6 : ∀ n1 n2 n3 n4 n5 n6 : Nat, b < w.heap.size + n1 + n2 + n3 + n4 + n5 + n6 := by intros; omega
              have hb7 : ∀ n1 n2 n3 n4 n5 n6 n7 : Nat, b < w.heap.size + n1 + n2 + n3 + n4 + n5 + n6 + n7 := by intros; omega
              clear hr
              go_wp2_with fail
              go_meet
              case rel =>
                refine ⟨_, rfl, Lib.hid (by simp [Holds, go_sem]), Lib.hid ?_⟩
                unfold endsBase
                exact (by first | ((repeat (first | with_reducible exact Ext.refl _ | with_reducible assumption | with_reducible refine Ext.alloc ?_ _ | with_reducible refine Ext.gr ?_ _ | with_reducible refine Ext.drewN ?_ _ | with_reducible refine Ext.drew ?_ | with_reducible refine Ext.setCell ?_ ?_ _ | with_reducible refine Ext.more ?_ _ _ | (show _ ≤ _; dsimp only; omega))); done) | ((repeat (first | with_reducible exact Ext.refl _ | with_reducible assumption | with_reducible apply Ext.bothR | with_reducible refine Ext.alloc ?_ _ | with_reducible refine Ext.gr ?_ _ | with_reducible refine Ext.drewN ?_ _ | with_reducible refine Ext.drew ?_ | with_reducible refine Ext.setCell ?_ ?_ _ | with_reducible refine Ext.more ?_ _ _ | (show _ ≤ _; dsimp only; omega))); done))
          case rest =>
            obtain ⟨b7, rfl, HH7, HX⟩ := hcut
            have hX := HX.out
            unfold endsBase at hX
            obtain ⟨os6, d6, rfl⟩ := hX
            have hh7 := HH7.out
            simp only [Holds] at hh7
            obtain ⟨l0, l1, l2, l3⟩ := hh7
            obtain ⟨f', hf'⟩ : ∃ f', brAfterA c f l = f' := ⟨_, rfl⟩
            have HB := Lib.hid hf'
            have hbh : brBehind c f l = f' := by rw [← hf']; simp [brAfterA, HE.out]
            have hG := HG3.out l
            rw [hbh] at hG
            have HG := Lib.hid hG
            have HFF : Hid f'.Fits := Lib.hid (by rw [← hf']; exact brAfter_fits HF.out HE.out)
            clear hf' hbh hG HX HH7
            go_wp2_with (go_at_call 11; refine (brAfter_any c f l HF.out HLF.out _ (Tab.ext HT.out (by first | ((repeat (first | with_reducible exact Ext.refl _ | with_reducible assumption | with_reducible refine Ext.alloc ?_ _ | with_reducible refine Ext.gr ?_ _ | with_reducible refine Ext.drewN ?_ _ | with_reducible refine Ext.drew ?_ | with_reducible refine Ext.setCell ?_ ?_ _ | with_reducible refine Ext.more ?_ _ _ | (show _ ≤ _; dsimp only; omega))); done) | ((repeat (first | with_reducible exact Ext.refl _ | with_reducible assumption | with_reducible apply Ext.bothR | with_reducible refine Ext.alloc ?_ _ | with_reducible refine Ext.gr ?_ _ | with_reducible refine Ext.drewN ?_ _ | with_reducible refine Ext.drew ?_ | with_reducible refine Ext.setCell ?_ ?_ _ | with_reducible refine Ext.more ?_ _ _ | (show _ ≤ _; dsimp only; omega))); done)))).mono ?_; rintro e w1 ⟨rfl, os4, n4, rfl⟩; rw [HE.out, HB.out])
            go_roundg m
            case measure => omega
            case rel =>
              refine ⟨f', k + 1, by go_num, by omega, by have := HG.out.2; omega, Lib.hid HG.out.1, HFF, Lib.hid ?_⟩
              unfold endsBase
              exact (by first | ((repeat (first | with_reducible exact Ext.refl _ | with_reducible assumption | with_reducible refine Ext.alloc ?_ _ | with_reducible refine Ext.gr ?_ _ | with_reducible refine Ext.drewN ?_ _ | with_reducible refine Ext.drew ?_ | with_reducible refine Ext.setCell ?_ ?_ _ | with_reducible refine Ext.more ?_ _ _ | (show _ ≤ _; dsimp only; omega))); done) | ((repeat (first | with_reducible exact Ext.refl _ | with_reducible assumption | with_reducible apply Ext.bothR | with_reducible refine Ext.alloc ?_ _ | with_reducible refine Ext.gr ?_ _ | with_reducible refine Ext.drewN ?_ _ | with_reducible refine Ext.drew ?_ | with_reducible refine Ext.setCell ?_ ?_ _ | with_reducible refine Ext.more ?_ _ _ | (show _ ≤ _; dsimp only; omega))); done))
      · clear hg
        go_wp2_with (first | (go_at_call 9; refine (brNext_any c f HF.out _ (Tab.ext HT.out (by first | ((repeat (first | with_reducible exact Ext.refl _ | with_reducible assumption | with_reducible refine Ext.alloc ?_ _ | with_reducible refine Ext.gr ?_ _ | with_reducible refine Ext.drewN ?_ _ | with_reducible refine Ext.drew ?_ | with_reducible refine Ext.setCell ?_ ?_ _ | with_reducible refine Ext.more ?_ _ _ | (show _ ≤ _; dsimp only; omega))); done) | ((repeat (first | with_reducible exact Ext.refl _ | with_reducible assumption | with_reducible apply Ext.bothR | with_reducible refine Ext.alloc ?_ _ | with_reducible refine Ext.gr ?_ _ | with_reducible refine Ext.drewN ?_ _ | with_reducible refine Ext.drew ?_ | with_reducible refine Ext.setCell ?_ ?_ _ | with_reducible refine Ext.more ?_ _ _ | (show _ ≤ _; dsimp only; omega))); done)))).mono ?_; rintro e w1 ⟨rfl, os2, n2, rfl⟩; rw [HE.out, HN.out]) | (go_at_call 17; refine (laid_any 0 0 0 f HC.out _).mono ?_; rintro e w1 ⟨⟨x3, y3, z3, rfl⟩, os3, n3, rfl⟩))
        go_ret
        exact ⟨rfl, (by first | ((repeat (first | with_reducible exact Ext.refl _ | with_reducible assumption | with_reducible refine Ext.alloc ?_ _ | with_reducible refine Ext.gr ?_ _ | with_reducible refine Ext.drewN ?_ _ | with_reducible refine Ext.drew ?_ | with_reducible refine Ext.setCell ?_ ?_ _ | with_reducible refine Ext.more ?_ _ _ | (show _ ≤ _; dsimp only; omega))); done) | ((repeat (first | with_reducible exact Ext.refl _ | with_reducible assumption | with_reducible apply Ext.bothR | with_reducible refine Ext.alloc ?_ _ | with_reducible refine Ext.gr ?_ _ | with_reducible refine Ext.drewN ?_ _ | with_reducible refine Ext.drew ?_ | with_reducible refine Ext.setCell ?_ ?_ _ | with_reducible refine Ext.more ?_ _ _ | (show _ ≤ _; dsimp only; omega))); done))⟩
end Go.Proofs.YtmbodooikfmegaaDoor
