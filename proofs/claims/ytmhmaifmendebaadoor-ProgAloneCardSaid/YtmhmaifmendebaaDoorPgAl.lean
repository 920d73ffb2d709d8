/- The walk of 'ProgAlone'. -/
import Derived.Test.YtmhmaifmendebaaDoorPgE
import Derived.Test.YtmhmaifmendebaaDoorPgS
import Derived.BigRegion
namespace Go.Proofs.YtmhmaifmendebaaDoor
open Go Go.RowKit
set_option maxRecDepth 100000
set_option maxHeartbeats 8000000

theorem progAlone_walk (c d : Cfg) (f : Frm) (l : Cel) (hf : f.Fits) (hl : l.Fits) (w : World) (ht : Tab w) : Calls Tryd.prog 5 #[c.v, d.v, f.v, l.v] w
    fun e w' => e = .returned (.bool true) ∧ Ext w w' := by
  have HT := Lib.hid ht
  have HF := Lib.hid hf
  have HL := Lib.hid hl
  obtain ⟨A, hA⟩ : ∃ A, pgNextA c f = A := ⟨_, rfl⟩
  obtain ⟨E, hE⟩ : ∃ E, pgErr c f = E := ⟨_, rfl⟩
  obtain ⟨G, T, hG⟩ : ∃ G T, pgAfterA c f l = (G, T) := ⟨_, _, rfl⟩
  obtain ⟨K, hK⟩ : ∃ K, (if T then G.x else 0) = K := ⟨_, rfl⟩
  obtain ⟨U, hU⟩ : ∃ U, (if T then G.y else 0) = U := ⟨_, rfl⟩
  have HA := Lib.hid (And.intro hA hE)
  have HG := Lib.hid hG
  have HK := Lib.hid (And.intro hK hU)
  by_cases he : E = 40 ∨ pgErr ⟨c.object, d.instances, d.threads, d.kind, d.stripes, c.bits, c.cap, c.node, d.batch, c.chunk, d.limit, d.most⟩ f = 40
  · obtain ⟨A2, hA2⟩ : ∃ A, pgNextA ⟨c.object, d.instances, d.threads, d.kind, d.stripes, c.bits, c.cap, c.node, d.batch, c.chunk, d.limit, d.most⟩ f = A := ⟨_, rfl⟩
    obtain ⟨E2, hE2⟩ : ∃ E, pgErr ⟨c.object, d.instances, d.threads, d.kind, d.stripes, c.bits, c.cap, c.node, d.batch, c.chunk, d.limit, d.most⟩ f = E := ⟨_, rfl⟩
    obtain ⟨G2, T2, hG2⟩ : ∃ G T, pgAfterA ⟨c.object, d.instances, d.threads, d.kind, d.stripes, c.bits, c.cap, c.node, d.batch, c.chunk, d.limit, d.most⟩ f l = (G, T) := ⟨_, _, rfl⟩
    obtain ⟨K2, hK2⟩ : ∃ K, (if T2 then G2.x else 0) = K := ⟨_, rfl⟩
    obtain ⟨U2, hU2⟩ : ∃ U, (if T2 then G2.y else 0) = U := ⟨_, rfl⟩
    have HA2 := Lib.hid (And.intro hA2 hE2)
    have HG2 := Lib.hid hG2
    have HK2 := Lib.hid (And.intro hK2 hU2)
    rw [hE2] at he
    have he2 : (E == 40) = true ∨ (E == 40) = false ∧ (E2 == 40) = true := by
      simp only [beq_iff_eq, beq_eq_false_iff_ne, ne_eq]
      omega
    clear hA hE hG hK hU hA2 hE2 hG2 hK2 hU2 he ht hf hl
    rcases he2 with h1 | ⟨h1, h2⟩
    · go_enter Tryd.func5, Tryd.ntmps5
      go_upto_region 2 with (go_at_call 11; refine (alive_any _ (Tab.ext HT.out EX)).mono ?_; rintro e w1 ⟨rfl, os1, n1, rfl⟩)
      go_cut [9] (fun t9 wn => t9 = .bool true ∧ Hid (Ext w wn) ∧ Hid (Holds wn [(w.heap.size, 0, .int .u8 c.object), (w.heap.size, 1, .int .i64 c.instances), (w.heap.size, 2, .int .i64 c.threads), (w.heap.size, 3, .int .u8 c.kind), (w.heap.size, 4, .int .i64 c.stripes), (w.heap.size, 5, .int .i64 c.bits), (w.heap.size, 6, .int .i64 c.cap), (w.heap.size, 7, .int .i64 c.node), (w.heap.size, 8, .int .i64 c.batch), (w.heap.size, 9, .int .i64 c.chunk), (w.heap.size, 10, .int .u64 c.limit), (w.heap.size, 11, .int .u64 c.most)]) ∧ Hid (Holds wn [(w.heap.size + 1, 0, .int .u8 c.object), (w.heap.size + 1, 1, .int .i64 d.instances), (w.heap.size + 1, 2, .int .i64 d.threads), (w.heap.size + 1, 3, .int .u8 d.kind), (w.heap.size + 1, 4, .int .i64 d.stripes), (w.heap.size + 1, 5, .int .i64 c.bits), (w.heap.size + 1, 6, .int .i64 c.cap), (w.heap.size + 1, 7, .int .i64 c.node), (w.heap.size + 1, 8, .int .i64 d.batch), (w.heap.size + 1, 9, .int .i64 c.chunk), (w.heap.size + 1, 10, .int .u64 d.limit), (w.heap.size + 1, 11, .int .u64 d.most)]) ∧ Hid (Holds wn [(w.heap.size + 1 + 1, 0, .int .u8 f.kind), (w.heap.size + 1 + 1, 1, .int .u32 f.a), (w.heap.size + 1 + 1, 2, .int .u32 f.b), (w.heap.size + 1 + 1, 3, .int .u8 f.pc), (w.heap.size + 1 + 1, 4, .int .u8 f.i), (w.heap.size + 1 + 1, 5, .int .u8 f.j), (w.heap.size + 1 + 1, 6, .int .u8 f.n), (w.heap.size + 1 + 1, 7, .int .u8 f.p), (w.heap.size + 1 + 1, 8, .int .u8 f.h), (w.heap.size + 1 + 1, 9, .int .u32 f.x), (w.heap.size + 1 + 1, 10, .int .u32 f.y)]) ∧ Hid (Holds wn [(w.heap.size + 1 + 1 + 1, 0, .int .u64 l.tag), (w.heap.size + 1 + 1 + 1, 1, .int .u64 l.a), (w.heap.size + 1 + 1 + 1, 2, .int .u64 l.b), (w.heap.size + 1 + 1 + 1, 3, .int .u64 l.c)]))
      case first =>
        go_region
        all_goals
          go_wp2_with fail
          go_meet
          case rel => exact ⟨rfl, Lib.hid EXX, Lib.hid (by simp [Holds, go_sem]), Lib.hid (by simp [Holds, go_sem]), Lib.hid (by simp [Holds, go_sem]), Lib.hid (by simp [Holds, go_sem])⟩
      case rest =>
        obtain ⟨rfl, HE, HKC, HKD, HKF, HKL⟩ := hcut
        have HT2 := Lib.hid (Tab.ext HT.out HE.out)
        clear HT
        have HT := HT2
        have kC := HKC.out
        have kD := HKD.out
        have kF := HKF.out
        have kL := HKL.out
        simp only [Holds] at kC kD kF kL
        have z := World.block_lt_of_cell? _ _ kL.1
        dsimp only at z
        have zc1 : ∀ n0 : Nat, w.heap.size < wc.heap.size + n0 := by intros; omega
        have zc2 : ∀ n0 n1 : Nat, w.heap.size < wc.heap.size + n0 + n1 := by intros; omega
        have zc3 : ∀ n0 n1 n2 : Nat, w.heap.size < wc.heap.size + n0 + n1 + n2 := by intros; omega
        have zc4 : ∀ n0 n1 n2 n3 : Nat, w.heap.size < wc.heap.size + n0 + n1 + n2 + n3 := by intros; omega
        have zd1 : ∀ n0 : Nat, w.heap.size + 1 < wc.heap.size + n0 := by intros; omega
        have zd2 : ∀ n0 n1 : Nat, w.heap.size + 1 < wc.heap.size + n0 + n1 := by intros; omega
        have zd3 : ∀ n0 n1 n2 : Nat, w.heap.size + 1 < wc.heap.size + n0 + n1 + n2 := by intros; omega
        have zd4 : ∀ n0 n1 n2 n3 : Nat, w.heap.size + 1 < wc.heap.size + n0 + n1 + n2 + n3 := by intros; omega
        have zf1 : ∀ n0 : Nat, w.heap.size + 1 + 1 < wc.heap.size + n0 := by intros; omega
        have zf2 : ∀ n0 n1 : Nat, w.heap.size + 1 + 1 < wc.heap.size + n0 + n1 := by intros; omega
        have zf3 : ∀ n0 n1 n2 : Nat, w.heap.size + 1 + 1 < wc.heap.size + n0 + n1 + n2 := by intros; omega
        have zf4 : ∀ n0 n1 n2 n3 : Nat, w.heap.size + 1 + 1 < wc.heap.size + n0 + n1 + n2 + n3 := by intros; omega
        have zl1 : ∀ n0 : Nat, w.heap.size + 1 + 1 + 1 < wc.heap.size + n0 := by intros; omega
        have zl2 : ∀ n0 n1 : Nat, w.heap.size + 1 + 1 + 1 < wc.heap.size + n0 + n1 := by intros; omega
        have zl3 : ∀ n0 n1 n2 : Nat, w.heap.size + 1 + 1 + 1 < wc.heap.size + n0 + n1 + n2 := by intros; omega
        have zl4 : ∀ n0 n1 n2 n3 : Nat, w.heap.size + 1 + 1 + 1 < wc.heap.size + n0 + n1 + n2 + n3 := by intros; omega
        have zc0 : w.heap.size < wc.heap.size := by omega
        have zd0 : w.heap.size + 1 < wc.heap.size := by omega
        have zf0 : w.heap.size + 1 + 1 < wc.heap.size := by omega
        have zl0 : w.heap.size + 1 + 1 + 1 < wc.heap.size := by omega
        clear z
        go_wp2_with (first | (go_at_call 8; (with_reducible refine (pnext_as c f A E HA.out.1 HA.out.2 HF.out _ (Tab.ext HT.out EX)).mono ?_); rintro e w1 ⟨rfl, os2, n2, rfl⟩) | (go_at_call 8; (with_reducible refine (pnext_as ⟨c.object, d.instances, d.threads, d.kind, d.stripes, c.bits, c.cap, c.node, d.batch, c.chunk, d.limit, d.most⟩ f A2 E2 HA2.out.1 HA2.out.2 HF.out _ (Tab.ext HT.out EX)).mono ?_); rintro e w1 ⟨rfl, os3, n3, rfl⟩) | (go_at_call 10; (with_reducible refine (pafter_as c f l G T E K U HG.out HA.out.2 HK.out.1 HK.out.2 HF.out HL.out _ (Tab.ext HT.out EX)).mono ?_); rintro e w1 ⟨rfl, os4, n4, rfl⟩) | (go_at_call 10; (with_reducible refine (pafter_as ⟨c.object, d.instances, d.threads, d.kind, d.stripes, c.bits, c.cap, c.node, d.batch, c.chunk, d.limit, d.most⟩ f l G2 T2 E2 K2 U2 HG2.out HA2.out.2 HK2.out.1 HK2.out.2 HF.out HL.out _ (Tab.ext HT.out EX)).mono ?_); rintro e w1 ⟨rfl, os5, n5, rfl⟩))
        all_goals go_ret
        all_goals exact ⟨rfl, HE.out.trans EXX⟩
    · go_enter Tryd.func5, Tryd.ntmps5
      go_upto_region 2 with (go_at_call 11; refine (alive_any _ (Tab.ext HT.out EX)).mono ?_; rintro e w1 ⟨rfl, os1, n1, rfl⟩)
      go_cut [9] (fun t9 wn => t9 = .bool true ∧ Hid (Ext w wn) ∧ Hid (Holds wn [(w.heap.size, 0, .int .u8 c.object), (w.heap.size, 1, .int .i64 c.instances), (w.heap.size, 2, .int .i64 c.threads), (w.heap.size, 3, .int .u8 c.kind), (w.heap.size, 4, .int .i64 c.stripes), (w.heap.size, 5, .int .i64 c.bits), (w.heap.size, 6, .int .i64 c.cap), (w.heap.size, 7, .int .i64 c.node), (w.heap.size, 8, .int .i64 c.batch), (w.heap.size, 9, .int .i64 c.chunk), (w.heap.size, 10, .int .u64 c.limit), (w.heap.size, 11, .int .u64 c.most)]) ∧ Hid (Holds wn [(w.heap.size + 1, 0, .int .u8 c.object), (w.heap.size + 1, 1, .int .i64 d.instances), (w.heap.size + 1, 2, .int .i64 d.threads), (w.heap.size + 1, 3, .int .u8 d.kind), (w.heap.size + 1, 4, .int .i64 d.stripes), (w.heap.size + 1, 5, .int .i64 c.bits), (w.heap.size + 1, 6, .int .i64 c.cap), (w.heap.size + 1, 7, .int .i64 c.node), (w.heap.size + 1, 8, .int .i64 d.batch), (w.heap.size + 1, 9, .int .i64 c.chunk), (w.heap.size + 1, 10, .int .u64 d.limit), (w.heap.size + 1, 11, .int .u64 d.most)]) ∧ Hid (Holds wn [(w.heap.size + 1 + 1, 0, .int .u8 f.kind), (w.heap.size + 1 + 1, 1, .int .u32 f.a), (w.heap.size + 1 + 1, 2, .int .u32 f.b), (w.heap.size + 1 + 1, 3, .int .u8 f.pc), (w.heap.size + 1 + 1, 4, .int .u8 f.i), (w.heap.size + 1 + 1, 5, .int .u8 f.j), (w.heap.size + 1 + 1, 6, .int .u8 f.n), (w.heap.size + 1 + 1, 7, .int .u8 f.p), (w.heap.size + 1 + 1, 8, .int .u8 f.h), (w.heap.size + 1 + 1, 9, .int .u32 f.x), (w.heap.size + 1 + 1, 10, .int .u32 f.y)]) ∧ Hid (Holds wn [(w.heap.size + 1 + 1 + 1, 0, .int .u64 l.tag), (w.heap.size + 1 + 1 + 1, 1, .int .u64 l.a), (w.heap.size + 1 + 1 + 1, 2, .int .u64 l.b), (w.heap.size + 1 + 1 + 1, 3, .int .u64 l.c)]))
      case first =>
        go_region
        all_goals
          go_wp2_with fail
          go_meet
          case rel => exact ⟨rfl, Lib.hid EXX, Lib.hid (by simp [Holds, go_sem]), Lib.hid (by simp [Holds, go_sem]), Lib.hid (by simp [Holds, go_sem]), Lib.hid (by simp [Holds, go_sem])⟩
      case rest =>
        obtain ⟨rfl, HE, HKC, HKD, HKF, HKL⟩ := hcut
        have HT2 := Lib.hid (Tab.ext HT.out HE.out)
        clear HT
        have HT := HT2
        have kC := HKC.out
        have kD := HKD.out
        have kF := HKF.out
        have kL := HKL.out
        simp only [Holds] at kC kD kF kL
        have z := World.block_lt_of_cell? _ _ kL.1
        dsimp only at z
        have zc1 : ∀ n0 : Nat, w.heap.size < wc.heap.size + n0 := by intros; omega
        have zc2 : ∀ n0 n1 : Nat, w.heap.size < wc.heap.size + n0 + n1 := by intros; omega
        have zc3 : ∀ n0 n1 n2 : Nat, w.heap.size < wc.heap.size + n0 + n1 + n2 := by intros; omega
        have zc4 : ∀ n0 n1 n2 n3 : Nat, w.heap.size < wc.heap.size + n0 + n1 + n2 + n3 := by intros; omega
        have zd1 : ∀ n0 : Nat, w.heap.size + 1 < wc.heap.size + n0 := by intros; omega
        have zd2 : ∀ n0 n1 : Nat, w.heap.size + 1 < wc.heap.size + n0 + n1 := by intros; omega
        have zd3 : ∀ n0 n1 n2 : Nat, w.heap.size + 1 < wc.heap.size + n0 + n1 + n2 := by intros; omega
        have zd4 : ∀ n0 n1 n2 n3 : Nat, w.heap.size + 1 < wc.heap.size + n0 + n1 + n2 + n3 := by intros; omega
        have zf1 : ∀ n0 : Nat, w.heap.size + 1 + 1 < wc.heap.size + n0 := by intros; omega
        have zf2 : ∀ n0 n1 : Nat, w.heap.size + 1 + 1 < wc.heap.size + n0 + n1 := by intros; omega
        have zf3 : ∀ n0 n1 n2 : Nat, w.heap.size + 1 + 1 < wc.heap.size + n0 + n1 + n2 := by intros; omega
        have zf4 : ∀ n0 n1 n2 n3 : Nat, w.heap.size + 1 + 1 < wc.heap.size + n0 + n1 + n2 + n3 := by intros; omega
        have zl1 : ∀ n0 : Nat, w.heap.size + 1 + 1 + 1 < wc.heap.size + n0 := by intros; omega
        have zl2 : ∀ n0 n1 : Nat, w.heap.size + 1 + 1 + 1 < wc.heap.size + n0 + n1 := by intros; omega
        have zl3 : ∀ n0 n1 n2 : Nat, w.heap.size + 1 + 1 + 1 < wc.heap.size + n0 + n1 + n2 := by intros; omega
        have zl4 : ∀ n0 n1 n2 n3 : Nat, w.heap.size + 1 + 1 + 1 < wc.heap.size + n0 + n1 + n2 + n3 := by intros; omega
        have zc0 : w.heap.size < wc.heap.size := by omega
        have zd0 : w.heap.size + 1 < wc.heap.size := by omega
        have zf0 : w.heap.size + 1 + 1 < wc.heap.size := by omega
        have zl0 : w.heap.size + 1 + 1 + 1 < wc.heap.size := by omega
        clear z
        go_wp2_with (first | (go_at_call 8; (with_reducible refine (pnext_as c f A E HA.out.1 HA.out.2 HF.out _ (Tab.ext HT.out EX)).mono ?_); rintro e w1 ⟨rfl, os2, n2, rfl⟩) | (go_at_call 8; (with_reducible refine (pnext_as ⟨c.object, d.instances, d.threads, d.kind, d.stripes, c.bits, c.cap, c.node, d.batch, c.chunk, d.limit, d.most⟩ f A2 E2 HA2.out.1 HA2.out.2 HF.out _ (Tab.ext HT.out EX)).mono ?_); rintro e w1 ⟨rfl, os3, n3, rfl⟩) | (go_at_call 10; (with_reducible refine (pafter_as c f l G T E K U HG.out HA.out.2 HK.out.1 HK.out.2 HF.out HL.out _ (Tab.ext HT.out EX)).mono ?_); rintro e w1 ⟨rfl, os4, n4, rfl⟩) | (go_at_call 10; (with_reducible refine (pafter_as ⟨c.object, d.instances, d.threads, d.kind, d.stripes, c.bits, c.cap, c.node, d.batch, c.chunk, d.limit, d.most⟩ f l G2 T2 E2 K2 U2 HG2.out HA2.out.2 HK2.out.1 HK2.out.2 HF.out HL.out _ (Tab.ext HT.out EX)).mono ?_); rintro e w1 ⟨rfl, os5, n5, rfl⟩))
        all_goals go_ret
        all_goals exact ⟨rfl, HE.out.trans EXX⟩
  · have hp : partOk c = true := by
      by_cases h : partOk c = true
      · exact h
      · exact absurd (show E = 40 by rw [← hE]; simp [pgErr, h]) (fun h => he (Or.inl h))
    have hq : partOk ⟨c.object, d.instances, d.threads, d.kind, d.stripes, c.bits, c.cap, c.node, d.batch, c.chunk, d.limit, d.most⟩ = true := by
      by_cases h : partOk ⟨c.object, d.instances, d.threads, d.kind, d.stripes, c.bits, c.cap, c.node, d.batch, c.chunk, d.limit, d.most⟩ = true
      · exact h
      · exact absurd (show pgErr ⟨c.object, d.instances, d.threads, d.kind, d.stripes, c.bits, c.cap, c.node, d.batch, c.chunk, d.limit, d.most⟩ f = 40 by simp [pgErr, h]) (fun h => he (Or.inr h))
    obtain ⟨q1, q2, q3⟩ := pg_alone (c := c) (d := ⟨c.object, d.instances, d.threads, d.kind, d.stripes, c.bits, c.cap, c.node, d.batch, c.chunk, d.limit, d.most⟩) (f := f) l ⟨rfl, rfl, rfl, rfl, rfl⟩ hp hq
    have hn1 : (E == 40) = false := by simp; exact fun h => he (Or.inl h)
    rw [hA] at q2
    rw [hE] at q1
    rw [hG] at q3
    have HA2 := Lib.hid (And.intro q2 q1)
    have HG2 := Lib.hid q3
    obtain ⟨A2, e2⟩ : ∃ A2, A = A2 := ⟨_, rfl⟩
    have HK2 := HK
    clear hA hE hG hK hU he ht hf hl hp hq q1 q2 q3 e2
    go_enter Tryd.func5, Tryd.ntmps5
    go_upto_region 2 with (go_at_call 11; refine (alive_any _ (Tab.ext HT.out EX)).mono ?_; rintro e w1 ⟨rfl, os1, n1, rfl⟩)
    go_cut [9] (fun t9 wn => t9 = .bool true ∧ Hid (Ext w wn) ∧ Hid (Holds wn [(w.heap.size, 0, .int .u8 c.object), (w.heap.size, 1, .int .i64 c.instances), (w.heap.size, 2, .int .i64 c.threads), (w.heap.size, 3, .int .u8 c.kind), (w.heap.size, 4, .int .i64 c.stripes), (w.heap.size, 5, .int .i64 c.bits), (w.heap.size, 6, .int .i64 c.cap), (w.heap.size, 7, .int .i64 c.node), (w.heap.size, 8, .int .i64 c.batch), (w.heap.size, 9, .int .i64 c.chunk), (w.heap.size, 10, .int .u64 c.limit), (w.heap.size, 11, .int .u64 c.most)]) ∧ Hid (Holds wn [(w.heap.size + 1, 0, .int .u8 c.object), (w.heap.size + 1, 1, .int .i64 d.instances), (w.heap.size + 1, 2, .int .i64 d.threads), (w.heap.size + 1, 3, .int .u8 d.kind), (w.heap.size + 1, 4, .int .i64 d.stripes), (w.heap.size + 1, 5, .int .i64 c.bits), (w.heap.size + 1, 6, .int .i64 c.cap), (w.heap.size + 1, 7, .int .i64 c.node), (w.heap.size + 1, 8, .int .i64 d.batch), (w.heap.size + 1, 9, .int .i64 c.chunk), (w.heap.size + 1, 10, .int .u64 d.limit), (w.heap.size + 1, 11, .int .u64 d.most)]) ∧ Hid (Holds wn [(w.heap.size + 1 + 1, 0, .int .u8 f.kind), (w.heap.size + 1 + 1, 1, .int .u32 f.a), (w.heap.size + 1 + 1, 2, .int .u32 f.b), (w.heap.size + 1 + 1, 3, .int .u8 f.pc), (w.heap.size + 1 + 1, 4, .int .u8 f.i), (w.heap.size + 1 + 1, 5, .int .u8 f.j), (w.heap.size + 1 + 1, 6, .int .u8 f.n), (w.heap.size + 1 + 1, 7, .int .u8 f.p), (w.heap.size + 1 + 1, 8, .int .u8 f.h), (w.heap.size + 1 + 1, 9, .int .u32 f.x), (w.heap.size + 1 + 1, 10, .int .u32 f.y)]) ∧ Hid (Holds wn [(w.heap.size + 1 + 1 + 1, 0, .int .u64 l.tag), (w.heap.size + 1 + 1 + 1, 1, .int .u64 l.a), (w.heap.size + 1 + 1 + 1, 2, .int .u64 l.b), (w.heap.size + 1 + 1 + 1, 3, .int .u64 l.c)]))
    case first =>
      go_region
      all_goals
        go_wp2_with fail
        go_meet
        case rel => exact ⟨rfl, Lib.hid EXX, Lib.hid (by simp [Holds, go_sem]), Lib.hid (by simp [Holds, go_sem]), Lib.hid (by simp [Holds, go_sem]), Lib.hid (by simp [Holds, go_sem])⟩
    case rest =>
      obtain ⟨rfl, HE, HKC, HKD, HKF, HKL⟩ := hcut
      have HT2 := Lib.hid (Tab.ext HT.out HE.out)
      clear HT
      have HT := HT2
      have kC := HKC.out
      have kD := HKD.out
      have kF := HKF.out
      have kL := HKL.out
      simp only [Holds] at kC kD kF kL
      have z := World.block_lt_of_cell? _ _ kL.1
      dsimp only at z
      have zc1 : ∀ n0 : Nat, w.heap.size < wc.heap.size + n0 := by intros; omega
      have zc2 : ∀ n0 n1 : Nat, w.heap.size < wc.heap.size + n0 + n1 := by intros; omega
      have zc3 : ∀ n0 n1 n2 : Nat, w.heap.size < wc.heap.size + n0 + n1 + n2 := by intros; omega
      have zc4 : ∀ n0 n1 n2 n3 : Nat, w.heap.size < wc.heap.size + n0 + n1 + n2 + n3 := by intros; omega
      have zd1 : ∀ n0 : Nat, w.heap.size + 1 < wc.heap.size + n0 := by intros; omega
      have zd2 : ∀ n0 n1 : Nat, w.heap.size + 1 < wc.heap.size + n0 + n1 := by intros; omega
      have zd3 : ∀ n0 n1 n2 : Nat, w.heap.size + 1 < wc.heap.size + n0 + n1 + n2 := by intros; omega
      have zd4 : ∀ n0 n1 n2 n3 : Nat, w.heap.size + 1 < wc.heap.size + n0 + n1 + n2 + n3 := by intros; omega
      have zf1 : ∀ n0 : Nat, w.heap.size + 1 + 1 < wc.heap.size + n0 := by intros; omega
      have zf2 : ∀ n0 n1 : Nat, w.heap.size + 1 + 1 < wc.heap.size + n0 + n1 := by intros; omega
      have zf3 : ∀ n0 n1 n2 : Nat, w.heap.size + 1 + 1 < wc.heap.size + n0 + n1 + n2 := by intros; omega
      have zf4 : ∀ n0 n1 n2 n3 : Nat, w.heap.size + 1 + 1 < wc.heap.size + n0 + n1 + n2 + n3 := by intros; omega
      have zl1 : ∀ n0 : Nat, w.heap.size + 1 + 1 + 1 < wc.heap.size + n0 := by intros; omega
      have zl2 : ∀ n0 n1 : Nat, w.heap.size + 1 + 1 + 1 < wc.heap.size + n0 + n1 := by intros; omega
      have zl3 : ∀ n0 n1 n2 : Nat, w.heap.size + 1 + 1 + 1 < wc.heap.size + n0 + n1 + n2 := by intros; omega
      have zl4 : ∀ n0 n1 n2 n3 : Nat, w.heap.size + 1 + 1 + 1 < wc.heap.size + n0 + n1 + n2 + n3 := by intros; omega
      have zc0 : w.heap.size < wc.heap.size := by omega
      have zd0 : w.heap.size + 1 < wc.heap.size := by omega
      have zf0 : w.heap.size + 1 + 1 < wc.heap.size := by omega
      have zl0 : w.heap.size + 1 + 1 + 1 < wc.heap.size := by omega
      clear z
      go_wp2_with (first | (go_at_call 8; (with_reducible refine (pnext_as c f A E HA.out.1 HA.out.2 HF.out _ (Tab.ext HT.out EX)).mono ?_); rintro e w1 ⟨rfl, os2, n2, rfl⟩) | (go_at_call 8; (with_reducible refine (pnext_as ⟨c.object, d.instances, d.threads, d.kind, d.stripes, c.bits, c.cap, c.node, d.batch, c.chunk, d.limit, d.most⟩ f A E HA2.out.1 HA2.out.2 HF.out _ (Tab.ext HT.out EX)).mono ?_); rintro e w1 ⟨rfl, os3, n3, rfl⟩) | (go_at_call 10; (with_reducible refine (pafter_as c f l G T E K U HG.out HA.out.2 HK.out.1 HK.out.2 HF.out HL.out _ (Tab.ext HT.out EX)).mono ?_); rintro e w1 ⟨rfl, os4, n4, rfl⟩) | (go_at_call 10; (with_reducible refine (pafter_as ⟨c.object, d.instances, d.threads, d.kind, d.stripes, c.bits, c.cap, c.node, d.batch, c.chunk, d.limit, d.most⟩ f l G T E K U HG2.out HA2.out.2 HK2.out.1 HK2.out.2 HF.out HL.out _ (Tab.ext HT.out EX)).mono ?_); rintro e w1 ⟨rfl, os5, n5, rfl⟩))
      all_goals go_ret
      all_goals exact ⟨rfl, HE.out.trans EXX⟩
end Go.Proofs.YtmhmaifmendebaaDoor
