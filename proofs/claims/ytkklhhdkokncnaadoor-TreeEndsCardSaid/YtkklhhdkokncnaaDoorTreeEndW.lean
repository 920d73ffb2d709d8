/- The walk of 'TreeEnds'. -/
import Derived.Test.YtkklhhdkokncnaaDoorTreE
import Derived.Test.YtkklhhdkokncnaaDoorGrtT
import Derived.Test.YtkklhhdkokncnaaDoorJB
import Derived.Deep.LoopGhost
import Derived.Deep.CutBlock
namespace Go.Proofs.YtkklhhdkokncnaaDoor
open Go Go.RowKit
set_option maxRecDepth 100000
set_option maxHeartbeats 8000000

theorem TreZ.cell {c : Cfg} {o : Opn} {f : Frm} (h : TreZ c o f) (hf : f.Fits) : FitsC 0 0 f := by
  obtain ⟨h1, h2, h3, h4, h5, h6, h7⟩ := h.small
  exact ⟨by omega, by omega, ⟨hf.kind.1, h1⟩, ⟨hf.pc.1, h2⟩, ⟨hf.i.1, h3⟩, ⟨hf.j.1, h4⟩, ⟨hf.n.1, h5⟩, ⟨hf.p.1, h6⟩, ⟨hf.h.1, h7⟩, hf.a, hf.b, hf.x, hf.y⟩
theorem greatT_as (c : Cfg) (hc : TreOk c) (h2 : (c.object == 2) = true) (w : World) (G : Int) (hG : treGreat c = G) : Calls Tryd.prog 25 #[c.v] w fun e w' => e = .returned (.int .i64 G) ∧ Ext w w' := by
  subst hG
  exact greatT_any c hc h2 w
theorem topT_as (c : Cfg) (hc : TreOk c) (w : World) (T : Int) (hT : treTop c = T) : Calls Tryd.prog 20 #[c.v] w fun e w' => e = .returned (.int .i64 T) ∧ Ext w w' := by
  subst hT
  exact topR13_any c hc w
def endsBase (w : World) (c : Cfg) (o : Opn) (os : Array Obj) (d : Nat) (x1 y1 : Obj) (f : Frm) : World :=
  (((grew ((w.alloc (.cells #[.int .u8 c.object, .int .i64 c.instances, .int .i64 c.threads, .int .u8 c.kind, .int .i64 c.stripes, .int .i64 c.bits, .int .i64 c.cap, .int .i64 c.node, .int .i64 c.batch, .int .i64 c.chunk, .int .u64 c.limit, .int .u64 c.most] 24)).alloc (.cells #[.int .u8 o.kind, .int .u32 o.a, .int .u32 o.b, .int .u32 o.c] 54)) os d).alloc x1).alloc y1).alloc
    (.cells #[.int .u8 f.kind, .int .u32 f.a, .int .u32 f.b, .int .u8 f.pc, .int .u8 f.i, .int .u8 f.j, .int .u8 f.n, .int .u8 f.p, .int .u8 f.h, .int .u32 f.x, .int .u32 f.y] 27)
def actBase (w : World) (c : Cfg) (o : Opn) (os : Array Obj) (d : Nat) (x1 y1 : Obj) (f : Frm) (os2 : Array Obj) (d2 : Nat) (A : Actn) : World :=
  (grew (endsBase w c o os d x1 y1 f) os2 d2).alloc (.cells #[.int .u8 A.kind, .int .i64 A.at', .int .u64 A.a, .int .u64 A.b, .int .u64 A.c, .int .i64 A.code, .int .u32 A.v'] 30)
theorem treeEnds_walk (c : Cfg) (o : Opn) (L : List Cel) (ho : o.Fits) (hL : CelsFit L) (v : Value) (w : World) (ht : Tab w) (hs : Sl w v L.length (celCells L)) :
    Calls Tryd.prog 7 #[c.v, o.v, v] w fun e w' => e = .returned (.bool true) ∧ Ext w w' := by
  have HT := Lib.hid ht
  obtain ⟨ad, cap, rfl, hs⟩ := hs
  have HS := Lib.hid hs
  have HL := Lib.hid hL
  have HFS := Lib.hid (startF_fits ho)
  obtain ⟨E, hE⟩ : ∃ E, treErr c (startF o) = E := ⟨_, rfl⟩
  have HE0 := Lib.hid hE
  clear ht hs hL
  by_cases h100 : (100 : Int) < (L.length : Int)
  · clear hE ho
    go_enter Tryd.func7, Tryd.ntmps7
    go_wp2_with (first | (go_at_call 15; refine (alive_any _ (Tab.ext HT.out EXX)).mono ?_; rintro e w1 ⟨rfl, os1, n1, rfl⟩) | (go_at_call 23; refine (regStart_any o _).mono ?_; rintro e w1 ⟨rfl, x1, y1, rfl⟩) | (go_at_call 9; refine (treNext_any c (startF o) HFS.out _ (Tab.ext HT.out EXX)).mono ?_; rintro e w1 ⟨rfl, os2, n2, rfl⟩; rw [HE0.out]))
    go_ret
    exact ⟨rfl, EXX⟩
  cases hE1 : (E == 0)
  · have hE2 : (E != 0) = true := by simpa using hE1
    clear hE ho
    go_enter Tryd.func7, Tryd.ntmps7
    go_wp2_with (first | (go_at_call 15; refine (alive_any _ (Tab.ext HT.out EXX)).mono ?_; rintro e w1 ⟨rfl, os1, n1, rfl⟩) | (go_at_call 23; refine (regStart_any o _).mono ?_; rintro e w1 ⟨rfl, x1, y1, rfl⟩) | (go_at_call 9; refine (treNext_any c (startF o) HFS.out _ (Tab.ext HT.out EXX)).mono ?_; rintro e w1 ⟨rfl, os2, n2, rfl⟩; rw [HE0.out]))
    go_ret
    exact ⟨rfl, EXX⟩
  obtain rfl : E = 0 := by simpa using hE1
  have hst := tz_start ho hE
  have hmo := tre_most ho hE
  have HST := Lib.hid hst
  have hpo := treErr_ok hE
  have HTO := Lib.hid (treOk_of hpo.1 hpo.2.1)
  have HOBJ : Hid ((c.object == 2) = true) := Lib.hid (by simp [hpo.2.1])
  obtain ⟨M, hM⟩ : ∃ M, M = treMost c o.kind := ⟨_, rfl⟩
  have HM := Lib.hid hM
  have hMb : treRem c (startF o) ≤ M ∧ 0 ≤ M ∧ M ≤ 1000 := by rw [hM]; exact hmo
  have HMB := Lib.hid hMb.1
  have hMc := hMb.2
  obtain ⟨T, hT⟩ : ∃ T, treTop c = T := ⟨_, rfl⟩
  have HTT := Lib.hid hT
  have htb : 0 ≤ T ∧ T ≤ 4 := by rw [← hT]; exact tre_top c
  have hcap := HTO.out.cap
  have hnd : 0 ≤ c.node * (T + 1) ∧ c.node * (T + 1) ≤ 20 := by
    rcases HTO.out.node with e | e | e <;> rw [e] <;> omega
  have w1 : IntKind.i64.wrap (T + 1) = T + 1 := by rw [IntKind.wrap_i64]; omega
  have w2 : IntKind.i64.wrap (c.node * (T + 1)) = c.node * (T + 1) := by rw [IntKind.wrap_i64]; omega
  have w3 : IntKind.i64.wrap (1 + c.node * (T + 1)) = 1 + c.node * (T + 1) := by rw [IntKind.wrap_i64]; omega
  obtain ⟨X, hX0⟩ : ∃ X, 1 + c.node * (T + 1) = X := ⟨_, rfl⟩
  have hXb : 0 ≤ X ∧ X ≤ 100 := by omega
  have HXX := Lib.hid hX0
  have HOX := Lib.hid (treKinds hpo.2.1 hpo.2.2)
  clear hst hmo hE hE1 ho hM hMb hT hpo hnd
  go_enter Tryd.func7, Tryd.ntmps7
  go_upto_region 6 with (first | (go_at_call 15; refine (alive_any _ (Tab.ext HT.out EXX)).mono ?_; rintro e w1 ⟨rfl, os1, n1, rfl⟩) | (go_at_call 23; refine (regStart_any o _).mono ?_; rintro e w1 ⟨rfl, x1, y1, rfl⟩) | (go_at_call 9; refine (treNext_any c (startF o) HFS.out _ (Tab.ext HT.out EXX)).mono ?_; rintro e w1 ⟨rfl, os2, n2, rfl⟩; rw [HE0.out]))
  go_cut [11] (fun t11 wn => t11 = .int .i64 X ∧ Hid (Ext (endsBase w c o os1 n1 x1 y1 (startF o)) wn))
  case first =>
    (refine wp_region_ext_lit (by kernel_rfl) (by kernel_rfl) ?_)
    (repeat (go_big_quiet_step ((go_at_call 20; exact quiet_ext ((topT_as c HTO.out _ T HTT.out).mono fun e w' h => h)))))
    (refine wpQuiet_nil ?_; intro _ hw'; obtain ⟨⟨osq, nq⟩, hw''⟩ := hw'; replace hw'' : _ = grew _ osq nq := hw''; subst hw'')
    go_wp2_with fail
    go_meet
    case rel =>
      refine ⟨by rw [← HXX.out], Lib.hid ?_⟩
      unfold endsBase
      simp only [startF]
      exact EXX
  case rest =>
    obtain ⟨rfl, HX⟩ := hcut
    have hX := HX.out
    unfold endsBase at hX
    obtain ⟨osa, da, rfl⟩ := hX
    clear HX hX0
    have w4 : IntKind.i64.wrap (X + 1) = X + 1 := by rw [IntKind.wrap_i64]; omega
    have w5 : IntKind.i64.wrap (2 * c.cap) = 2 * c.cap := by rw [IntKind.wrap_i64]; omega
    have w6 : IntKind.i64.wrap (X + 2 * c.cap) = X + 2 * c.cap := by rw [IntKind.wrap_i64]; omega
    have w7 : IntKind.i64.wrap (4 * c.cap) = 4 * c.cap := by rw [IntKind.wrap_i64]; omega
    have w8 : IntKind.i64.wrap (4 * c.cap + 20) = 4 * c.cap + 20 := by rw [IntKind.wrap_i64]; omega
    have w9 : IntKind.i64.wrap (X + (4 * c.cap + 20)) = X + (4 * c.cap + 20) := by rw [IntKind.wrap_i64]; omega
    clear w1 w2 w3
    go_upto_block 0 with fail
    go_cut [11] (fun t11 wn => t11 = .int .i64 M ∧ Hid (Ext (endsBase w c o os1 n1 x1 y1 (startF o)) wn))
    case first =>
      have hMX : M = X + (if o.kind = 7 then 1 else if o.kind = 8 then 2 * c.cap else if o.kind = 4 ∨ o.kind = 5 then 4 * c.cap + 20 else 0) := by
        rw [HM.out, ← HXX.out, ← HTT.out]
        rfl
      rcases HOX.out with hk | hk | hk | hk | hk
      · change o.kind = _ at hk
        have k4 : (o.kind == 4) = true := by simp [hk]
        have k5 : (o.kind == 5) = false := by simp [hk]
        have k7 : (o.kind == 7) = false := by simp [hk]
        have k8 : (o.kind == 8) = false := by simp [hk]
        have HK := Lib.hid hk
        have HMX := Lib.hid hMX
        clear hk hMX
        go_wp2_with fail
        go_meet
        case rel =>
          refine ⟨?_, Lib.hid ?_⟩
          · rw [HMX.out, HK.out]
            simp
          · unfold endsBase
            simp only [startF]
            exact EXX
      · change o.kind = _ at hk
        have k4 : (o.kind == 4) = false := by simp [hk]
        have k5 : (o.kind == 5) = true := by simp [hk]
        have k7 : (o.kind == 7) = false := by simp [hk]
        have k8 : (o.kind == 8) = false := by simp [hk]
        have HK := Lib.hid hk
        have HMX := Lib.hid hMX
        clear hk hMX
        go_wp2_with fail
        go_meet
        case rel =>
          refine ⟨?_, Lib.hid ?_⟩
          · rw [HMX.out, HK.out]
            simp
          · unfold endsBase
            simp only [startF]
            exact EXX
      · change o.kind = _ at hk
        have k4 : (o.kind == 4) = false := by simp [hk]
        have k5 : (o.kind == 5) = false := by simp [hk]
        have k7 : (o.kind == 7) = false := by simp [hk]
        have k8 : (o.kind == 8) = false := by simp [hk]
        have HK := Lib.hid hk
        have HMX := Lib.hid hMX
        clear hk hMX
        go_wp2_with fail
        go_meet
        case rel =>
          refine ⟨?_, Lib.hid ?_⟩
          · rw [HMX.out, HK.out]
            simp
          · unfold endsBase
            simp only [startF]
            exact EXX
      · change o.kind = _ at hk
        have k4 : (o.kind == 4) = false := by simp [hk]
        have k5 : (o.kind == 5) = false := by simp [hk]
        have k7 : (o.kind == 7) = true := by simp [hk]
        have k8 : (o.kind == 8) = false := by simp [hk]
        have HK := Lib.hid hk
        have HMX := Lib.hid hMX
        clear hk hMX
        go_wp2_with fail
        go_meet
        case rel =>
          refine ⟨?_, Lib.hid ?_⟩
          · rw [HMX.out, HK.out]
            simp
          · unfold endsBase
            simp only [startF]
            exact EXX
      · change o.kind = _ at hk
        have k4 : (o.kind == 4) = false := by simp [hk]
        have k5 : (o.kind == 5) = false := by simp [hk]
        have k7 : (o.kind == 7) = false := by simp [hk]
        have k8 : (o.kind == 8) = true := by simp [hk]
        have HK := Lib.hid hk
        have HMX := Lib.hid hMX
        clear hk hMX
        go_wp2_with fail
        go_meet
        case rel =>
          refine ⟨?_, Lib.hid ?_⟩
          · rw [HMX.out, HK.out]
            simp
          · unfold endsBase
            simp only [startF]
            exact EXX
    case rest =>
      obtain ⟨rfl, HX⟩ := hcut
      clear w4 w5 w6 w7 w8 w9
      go_wp2_with fail
      go_loopg [12] M.toNat (fun gk t12 wr => ∃ (f : Frm) (k : Nat), t12 = .int .i64 k ∧ (k : Int) + (gk : Int) = M ∧ treRem c f ≤ (gk : Int) ∧ Hid (TreZ c o f) ∧ Hid f.Fits ∧ Hid (Ext (endsBase w c o os1 n1 x1 y1 f) wr))
      case atStart =>
        refine ⟨startF o, 0, rfl, by omega, ?_, Lib.hid HST.out.1, HFS, HX⟩
        have := HMB.out
        omega
      case round =>
        obtain ⟨f, k, rfl, hkg, hrem, HI, HF, HXf⟩ := hrel
        have hX := HXf.out
        unfold endsBase at hX
        obtain ⟨os, d, rfl⟩ := hX
        clear HX HXf
        have HE : Hid (treErr c f = 0) := Lib.hid HI.out.err
        obtain ⟨A, hA⟩ : ∃ A, A = treStep c f := ⟨_, rfl⟩
        have HN : Hid (treNextA c f = A) := Lib.hid (by rw [hA]; simp [treNextA, HE.out])
        have HC : Hid (FitsC 0 0 f) := Lib.hid (HI.out.cell HF.out)
        have hg := tz_goes HI.out
        rw [← hA] at hg
        have hkM : (k : Int) ≤ M := by omega
        clear hA
        cases h4 : (A.kind == 4)
        · have h4' : A.kind ≠ 4 := by simpa using h4
          obtain ⟨_, g0, g1, g2, g3⟩ := hg.resolve_left h4'
          have HG3 := Lib.hid g3
          obtain ⟨l, hl⟩ : ∃ l, l = L.getD (k % L.length) ⟨0, 0, 0, 0⟩ := ⟨_, rfl⟩
          have HLF : Hid l.Fits := Lib.hid (by rw [hl]; exact HL.out.get _)
          have HLL := Lib.hid hl
          obtain ⟨m, rfl⟩ : ∃ m, gk = m + 1 := ⟨gk - 1, by have h1 := g3 l HLF.out; have h2 := tre_rem h1.1; omega⟩
          have a0 : ¬ A.at' < 0 := by omega
          obtain ⟨G, hG⟩ : ∃ G, treGreat c = G := ⟨_, rfl⟩
          have a1 : ¬ G ≤ A.at' := by omega
          have HG := Lib.hid hG
          have a0d : decide (A.at' < 0) = false := by simp; omega
          have a1d : decide (G ≤ A.at') = false := by simp; omega
          have HG2 := Lib.hid g2
          obtain ⟨B2, hB2⟩ : ∃ B, (A.kind == 2) = B := ⟨_, rfl⟩
          obtain ⟨B3, hB3⟩ : ∃ B, (A.kind == 3) = B := ⟨_, rfl⟩
          have HB2 := Lib.hid hB2
          have HB3 := Lib.hid hB3
          clear hg g2 g3 h4' hl hG hB2 hB3
          go_upto_region 24 with (first | (go_at_call 9; refine (treNext_any c f HF.out _ (Tab.ext HT.out EXX)).mono ?_; rintro e w1 ⟨rfl, os2, n2, rfl⟩; rw [HE.out, HN.out]) | (go_at_call 24; refine (laid_any 0 0 0 f HC.out _).mono ?_; rintro e w1 ⟨⟨x3, y3, z3, rfl⟩, os3, n3, rfl⟩))
          go_cut [17] (fun t24 wn => t24 = .bool B2 ∧ Hid (Ext (actBase w c o os1 n1 x1 y1 f (both os os2) n2 A) wn))
          case first =>
            rcases HG2.out with qa | ⟨qa, qo | qo⟩ | ⟨qa, qo⟩
            · have q1 : (A.kind == 1) = true := by simp [qa]
              have r1 : (A.kind != 1) = false := by simp [qa]
              have q2 : (A.kind == 2) = false := by simp [qa]
              have r2 : (A.kind != 2) = true := by simp [qa]
              have q3 : (A.kind == 3) = false := by simp [qa]
              have r3 : (A.kind != 3) = true := by simp [qa]
              clear qa
              go_wp2_with fail
              go_meet
              case rel =>
                refine ⟨by rw [← HB2.out, q2], Lib.hid ?_⟩
                unfold actBase endsBase
                exact EXX
            · have q1 : (A.kind == 1) = false := by simp [qa]
              have r1 : (A.kind != 1) = true := by simp [qa]
              have q2 : (A.kind == 2) = true := by simp [qa]
              have r2 : (A.kind != 2) = false := by simp [qa]
              have q3 : (A.kind == 3) = false := by simp [qa]
              have r3 : (A.kind != 3) = true := by simp [qa]
              have s4 : (o.kind == 4) = true := by simp [qo]
              have s5 : (o.kind == 5) = false := by simp [qo]
              have s8 : (o.kind == 8) = false := by simp [qo]
              clear qa qo
              go_wp2_with fail
              go_meet
              case rel =>
                refine ⟨by rw [← HB2.out, q2], Lib.hid ?_⟩
                unfold actBase endsBase
                exact EXX
            · have q1 : (A.kind == 1) = false := by simp [qa]
              have r1 : (A.kind != 1) = true := by simp [qa]
              have q2 : (A.kind == 2) = true := by simp [qa]
              have r2 : (A.kind != 2) = false := by simp [qa]
              have q3 : (A.kind == 3) = false := by simp [qa]
              have r3 : (A.kind != 3) = true := by simp [qa]
              have s4 : (o.kind == 4) = false := by simp [qo]
              have s5 : (o.kind == 5) = true := by simp [qo]
              have s8 : (o.kind == 8) = false := by simp [qo]
              clear qa qo
              go_wp2_with fail
              go_meet
              case rel =>
                refine ⟨by rw [← HB2.out, q2], Lib.hid ?_⟩
                unfold actBase endsBase
                exact EXX
            · have q1 : (A.kind == 1) = false := by simp [qa]
              have r1 : (A.kind != 1) = true := by simp [qa]
              have q2 : (A.kind == 2) = false := by simp [qa]
              have r2 : (A.kind != 2) = true := by simp [qa]
              have q3 : (A.kind == 3) = true := by simp [qa]
              have r3 : (A.kind != 3) = false := by simp [qa]
              have s4 : (o.kind == 4) = false := by simp [qo]
              have s5 : (o.kind == 5) = false := by simp [qo]
              have s8 : (o.kind == 8) = true := by simp [qo]
              clear qa qo
              go_wp2_with fail
              go_meet
              case rel =>
                refine ⟨by rw [← HB2.out, q2], Lib.hid ?_⟩
                unfold actBase endsBase
                exact EXX
          case rest =>
            obtain ⟨rfl, HX⟩ := hcut
            have hX := HX.out
            unfold actBase endsBase at hX
            obtain ⟨os5, d5, rfl⟩ := hX
            clear HX
            go_upto_region 25 with fail
            go_cut [18] (fun t25 wn => t25 = .bool B3 ∧ Hid (Ext (actBase w c o os1 n1 x1 y1 f (both os os2) n2 A) wn))
            case first =>
              rcases HG2.out with qa | ⟨qa, qo | qo⟩ | ⟨qa, qo⟩
              · have q1 : (A.kind == 1) = true := by simp [qa]
                have r1 : (A.kind != 1) = false := by simp [qa]
                have q2 : (A.kind == 2) = false := by simp [qa]
                have r2 : (A.kind != 2) = true := by simp [qa]
                have q3 : (A.kind == 3) = false := by simp [qa]
                have r3 : (A.kind != 3) = true := by simp [qa]
                clear qa
                go_wp2_with fail
                go_meet
                case rel =>
                  refine ⟨by rw [← HB3.out, q3], Lib.hid ?_⟩
                  unfold actBase endsBase
                  exact EXX
              · have q1 : (A.kind == 1) = false := by simp [qa]
                have r1 : (A.kind != 1) = true := by simp [qa]
                have q2 : (A.kind == 2) = true := by simp [qa]
                have r2 : (A.kind != 2) = false := by simp [qa]
                have q3 : (A.kind == 3) = false := by simp [qa]
                have r3 : (A.kind != 3) = true := by simp [qa]
                have s4 : (o.kind == 4) = true := by simp [qo]
                have s5 : (o.kind == 5) = false := by simp [qo]
                have s8 : (o.kind == 8) = false := by simp [qo]
                clear qa qo
                go_wp2_with fail
                go_meet
                case rel =>
                  refine ⟨by rw [← HB3.out, q3], Lib.hid ?_⟩
                  unfold actBase endsBase
                  exact EXX
              · have q1 : (A.kind == 1) = false := by simp [qa]
                have r1 : (A.kind != 1) = true := by simp [qa]
                have q2 : (A.kind == 2) = true := by simp [qa]
                have r2 : (A.kind != 2) = false := by simp [qa]
                have q3 : (A.kind == 3) = false := by simp [qa]
                have r3 : (A.kind != 3) = true := by simp [qa]
                have s4 : (o.kind == 4) = false := by simp [qo]
                have s5 : (o.kind == 5) = true := by simp [qo]
                have s8 : (o.kind == 8) = false := by simp [qo]
                clear qa qo
                go_wp2_with fail
                go_meet
                case rel =>
                  refine ⟨by rw [← HB3.out, q3], Lib.hid ?_⟩
                  unfold actBase endsBase
                  exact EXX
              · have q1 : (A.kind == 1) = false := by simp [qa]
                have r1 : (A.kind != 1) = true := by simp [qa]
                have q2 : (A.kind == 2) = false := by simp [qa]
                have r2 : (A.kind != 2) = true := by simp [qa]
                have q3 : (A.kind == 3) = true := by simp [qa]
                have r3 : (A.kind != 3) = false := by simp [qa]
                have s4 : (o.kind == 4) = false := by simp [qo]
                have s5 : (o.kind == 5) = false := by simp [qo]
                have s8 : (o.kind == 8) = true := by simp [qo]
                clear qa qo
                go_wp2_with fail
                go_meet
                case rel =>
                  refine ⟨by rw [← HB3.out, q3], Lib.hid ?_⟩
                  unfold actBase endsBase
                  exact EXX
            case rest =>
              obtain ⟨rfl, HX⟩ := hcut
              have hX := HX.out
              unfold actBase endsBase at hX
              obtain ⟨os6, d6, rfl⟩ := hX
              clear HX
              go_upto_region 26 with fail
              go_cut [144] (fun t99 wn => t99 = .bool false ∧ Hid (Ext (endsBase w c o os1 n1 x1 y1 f) wn))
              case first =>
                rcases HG2.out with qa | ⟨qa, qo | qo⟩ | ⟨qa, qo⟩
                · have q1 : (A.kind == 1) = true := by simp [qa]
                  have r1 : (A.kind != 1) = false := by simp [qa]
                  have q2 : (A.kind == 2) = false := by simp [qa]
                  have r2 : (A.kind != 2) = true := by simp [qa]
                  have q3 : (A.kind == 3) = false := by simp [qa]
                  have r3 : (A.kind != 3) = true := by simp [qa]
                  clear qa
                  obtain rfl : B2 = false := by rw [← HB2.out, q2]
                  obtain rfl : B3 = false := by rw [← HB3.out, q3]
                  (refine wp_region_ext_lit (by kernel_rfl) (by kernel_rfl) ?_)
                  (repeat (go_big_quiet_step ((go_at_call 25; exact quiet_ext ((greatT_as c HTO.out HOBJ.out _ G HG.out).mono fun e w' h => h)))))
                  (refine wpQuiet_nil ?_; intro _ hw'; obtain ⟨⟨osq, nq⟩, hw''⟩ := hw'; replace hw'' : _ = grew _ osq nq := hw''; subst hw'')
                  go_wp2_with fail
                  go_meet
                  case rel => exact ⟨by first | rfl | (simp; omega), Lib.hid (by unfold endsBase; exact EXX)⟩
                · have q1 : (A.kind == 1) = false := by simp [qa]
                  have r1 : (A.kind != 1) = true := by simp [qa]
                  have q2 : (A.kind == 2) = true := by simp [qa]
                  have r2 : (A.kind != 2) = false := by simp [qa]
                  have q3 : (A.kind == 3) = false := by simp [qa]
                  have r3 : (A.kind != 3) = true := by simp [qa]
                  have s4 : (o.kind == 4) = true := by simp [qo]
                  have s5 : (o.kind == 5) = false := by simp [qo]
                  have s8 : (o.kind == 8) = false := by simp [qo]
                  clear qa qo
                  obtain rfl : B2 = true := by rw [← HB2.out, q2]
                  obtain rfl : B3 = false := by rw [← HB3.out, q3]
                  (refine wp_region_ext_lit (by kernel_rfl) (by kernel_rfl) ?_)
                  (repeat (go_big_quiet_step ((go_at_call 25; exact quiet_ext ((greatT_as c HTO.out HOBJ.out _ G HG.out).mono fun e w' h => h)))))
                  (refine wpQuiet_nil ?_; intro _ hw'; obtain ⟨⟨osq, nq⟩, hw''⟩ := hw'; replace hw'' : _ = grew _ osq nq := hw''; subst hw'')
                  go_wp2_with fail
                  go_meet
                  case rel => exact ⟨by first | rfl | (simp; omega), Lib.hid (by unfold endsBase; exact EXX)⟩
                · have q1 : (A.kind == 1) = false := by simp [qa]
                  have r1 : (A.kind != 1) = true := by simp [qa]
                  have q2 : (A.kind == 2) = true := by simp [qa]
                  have r2 : (A.kind != 2) = false := by simp [qa]
                  have q3 : (A.kind == 3) = false := by simp [qa]
                  have r3 : (A.kind != 3) = true := by simp [qa]
                  have s4 : (o.kind == 4) = false := by simp [qo]
                  have s5 : (o.kind == 5) = true := by simp [qo]
                  have s8 : (o.kind == 8) = false := by simp [qo]
                  clear qa qo
                  obtain rfl : B2 = true := by rw [← HB2.out, q2]
                  obtain rfl : B3 = false := by rw [← HB3.out, q3]
                  (refine wp_region_ext_lit (by kernel_rfl) (by kernel_rfl) ?_)
                  (repeat (go_big_quiet_step ((go_at_call 25; exact quiet_ext ((greatT_as c HTO.out HOBJ.out _ G HG.out).mono fun e w' h => h)))))
                  (refine wpQuiet_nil ?_; intro _ hw'; obtain ⟨⟨osq, nq⟩, hw''⟩ := hw'; replace hw'' : _ = grew _ osq nq := hw''; subst hw'')
                  go_wp2_with fail
                  go_meet
                  case rel => exact ⟨by first | rfl | (simp; omega), Lib.hid (by unfold endsBase; exact EXX)⟩
                · have q1 : (A.kind == 1) = false := by simp [qa]
                  have r1 : (A.kind != 1) = true := by simp [qa]
                  have q2 : (A.kind == 2) = false := by simp [qa]
                  have r2 : (A.kind != 2) = true := by simp [qa]
                  have q3 : (A.kind == 3) = true := by simp [qa]
                  have r3 : (A.kind != 3) = false := by simp [qa]
                  have s4 : (o.kind == 4) = false := by simp [qo]
                  have s5 : (o.kind == 5) = false := by simp [qo]
                  have s8 : (o.kind == 8) = true := by simp [qo]
                  clear qa qo
                  obtain rfl : B2 = false := by rw [← HB2.out, q2]
                  obtain rfl : B3 = true := by rw [← HB3.out, q3]
                  (refine wp_region_ext_lit (by kernel_rfl) (by kernel_rfl) ?_)
                  (repeat (go_big_quiet_step ((go_at_call 25; exact quiet_ext ((greatT_as c HTO.out HOBJ.out _ G HG.out).mono fun e w' h => h)))))
                  (refine wpQuiet_nil ?_; intro _ hw'; obtain ⟨⟨osq, nq⟩, hw''⟩ := hw'; replace hw'' : _ = grew _ osq nq := hw''; subst hw'')
                  go_wp2_with fail
                  go_meet
                  case rel => exact ⟨by first | rfl | (simp; omega), Lib.hid (by unfold endsBase; exact EXX)⟩
              case rest =>
                obtain ⟨rfl, HX⟩ := hcut
                have hX := HX.out
                unfold endsBase at hX
                obtain ⟨os7, d7, rfl⟩ := hX
                clear HX
                go_upto_if 148 with fail
                go_cut [19] (fun t17 wn => ∃ b, t17 = .pointer (some ⟨b, 0, none⟩) ∧ Hid (Holds wn ([(b, 0, .int .u64 l.tag), (b, 1, .int .u64 l.a), (b, 2, .int .u64 l.b), (b, 3, .int .u64 l.c)])) ∧ Hid (Ext (endsBase w c o os1 n1 x1 y1 f) wn))
                case first =>
                  rcases Nat.eq_zero_or_pos L.length with z | z
                  · have z0 : ¬ (0 : Int) < (L.length : Int) := by omega
                    have HZ := Lib.hid z
                    clear z
                    go_wp2_with fail
                    go_meet
                    case rel =>
                      have z1 : L = [] := List.length_eq_zero_iff.1 HZ.out
                      refine ⟨_, rfl, Lib.hid ?_, Lib.hid ?_⟩
                      · rw [HLL.out, z1]
                        simp [Holds, go_sem]
                      · unfold endsBase
                        exact EXX
                  · have z0 : (0 : Int) < (L.length : Int) := by omega
                    obtain ⟨r, hr⟩ : ∃ r : Nat, r = k % L.length := ⟨_, rfl⟩
                    have hr1 : r < L.length := by rw [hr]; exact Nat.mod_lt _ z
                    have hr2 : (k : Int).tmod (L.length : Int) = (r : Int) := by rw [hr, Int.tmod_eq_emod_of_nonneg (by omega)]; rfl
                    have hr3 : (r : Int) < (L.length : Int) := by omega
                    have hr4 : (0 : Int) ≤ (r : Int) := by omega
                    obtain ⟨b, o', rfl, c0, c1, c2, c3⟩ := HS.out.cel hr4 hr3
                    rw [Int.toNat_natCast, hr, ← HLL.out] at c0 c1 c2 c3
                    rw [← hr] at c0 c1 c2 c3
                    have hb := World.block_lt_of_cell? _ _ c0
                    dsimp only at hb
                    have hb1 : ∀ n1 : Nat, b < w.heap.size + n1 := by intros; omega
                    have hb2 : ∀ n1 n2 : Nat, b < w.heap.size + n1 + n2 := by intros; omega
                    have hb3 : ∀ n1 n2 n3 : Nat, b < w.heap.size + n1 + n2 + n3 := by intros; omega
                    have hb4 : ∀ n1 n2 n3 n4 : Nat, b < w.heap.size + n1 + n2 + n3 + n4 := by intros; omega
                    have hb5 : ∀ n1 n2 n3 n4 n5 : Nat, b < w.heap.size + n1 + n2 + n3 + n4 + n5 := by intros; omega
                    have hb6 : ∀ n1 n2 n3 n4 n5 n6 : Nat, b < w.heap.size + n1 + n2 + n3 + n4 + n5 + n6 := by intros; omega
                    have hb7 : ∀ n1 n2 n3 n4 n5 n6 n7 : Nat, b < w.heap.size + n1 + n2 + n3 + n4 + n5 + n6 + n7 := by intros; omega
                    clear hr
                    go_wp2_with fail
                    go_meet
                    case rel =>
                      refine ⟨_, rfl, Lib.hid (by simp [Holds, go_sem]), Lib.hid ?_⟩
                      unfold endsBase
                      exact EXX
                case rest =>
                  obtain ⟨b7, rfl, HH7, HX⟩ := hcut
                  have hX := HX.out
                  unfold endsBase at hX
                  obtain ⟨os8, d8, rfl⟩ := hX
                  have hh7 := HH7.out
                  simp only [Holds] at hh7
                  obtain ⟨l0, l1, l2, l3⟩ := hh7
                  obtain ⟨G', T', hf'⟩ : ∃ G' T', treAfterA c f l = (G', T') := ⟨_, _, rfl⟩
                  have hbh : (treBehind c f l).1 = G' := by
                    have : treAfterA c f l = treBehind c f l := by simp [treAfterA, HE.out]
                    rw [← this, hf']
                  have hG := HG3.out l HLF.out
                  rw [hbh] at hG
                  have HG := Lib.hid hG
                  obtain ⟨K', hK'⟩ : ∃ K', (if T' then G'.x else 0) = K' := ⟨_, rfl⟩
                  obtain ⟨U', hU'⟩ : ∃ U', (if T' then G'.y else 0) = U' := ⟨_, rfl⟩
                  have HB := Lib.hid (show treOutV (treAfterA c f l) 0 = .tuple #[G'.v, .agg #[.int .u64 K', .int .u64 U'], .bool T', .int .i64 0] by rw [hf', ← hK', ← hU'])
                  clear hf' hbh hG HX HH7 hK' hU'
                  go_wp2_with (go_at_call 11; refine (treAfter_any c f l HF.out HLF.out _ (Tab.ext HT.out EXX)).mono ?_; rintro e w1 ⟨rfl, os4, n4, rfl⟩; rw [HE.out, HB.out])
                  go_roundg m
                  case measure => omega
                  case rel =>
                    refine ⟨G', k + 1, by go_num, by omega, by have := HG.out.2; omega, Lib.hid HG.out.1, Lib.hid HG.out.1.fits, Lib.hid ?_⟩
                    unfold endsBase
                    exact EXX
        · clear hg
          go_wp2_with (first | (go_at_call 9; refine (treNext_any c f HF.out _ (Tab.ext HT.out EXX)).mono ?_; rintro e w1 ⟨rfl, os2, n2, rfl⟩; rw [HE.out, HN.out]) | (go_at_call 24; refine (laid_any 0 0 0 f HC.out _).mono ?_; rintro e w1 ⟨⟨x3, y3, z3, rfl⟩, os3, n3, rfl⟩))
          go_ret
          exact ⟨rfl, EXX⟩
end Go.Proofs.YtkklhhdkokncnaaDoor
