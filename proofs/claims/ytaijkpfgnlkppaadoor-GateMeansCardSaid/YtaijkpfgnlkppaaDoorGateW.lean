/- The walk of 'done'. -/
import Derived.Test.YtaijkpfgnlkppaaDoorGateT
import Derived.Test.YtaijkpfgnlkppaaDoorGateD
import Derived.Test.YtaijkpfgnlkppaaDoorStart
import Derived.Deep.LoopGhost
import Derived.Deep.RegionHeld3
import Derived.Outline
namespace Go.Proofs.YtaijkpfgnlkppaaDoor
open Go Go.RowKit


theorem info_cel : (Tryd.prog.info? 37).map (fun i => (i.zero, i.size, i.bytes)) = some (some (.agg #[.int .u64 0, .int .u64 0, .int .u64 0, .int .u64 0]), 4, 32) := by kernel_rfl

def doneBase (w : World) (c : Cfg) (o : Opn) (x1 y1 R T : Obj) (f : Frm) (r n : Int) : World :=
  (((((((w.alloc (.cells #[.int .u8 c.object, .int .i64 c.instances, .int .i64 c.threads, .int .u8 c.kind, .int .i64 c.stripes, .int .i64 c.bits, .int .i64 c.cap, .int .i64 c.node, .int .i64 c.batch, .int .i64 c.chunk, .int .u64 c.limit, .int .u64 c.most] 24)).alloc
    (.cells #[.int .u8 o.kind, .int .u32 o.a, .int .u32 o.b, .int .u32 o.c] 47)).alloc
    R).alloc T).alloc x1).alloc y1).alloc
    (.cells #[.int .u8 f.kind, .int .u32 f.a, .int .u32 f.b, .int .u8 f.pc, .int .u8 f.i, .int .u8 f.j, .int .u8 f.n, .int .u8 f.p, .int .u8 f.h, .int .u32 f.x, .int .u32 f.y] 27)).alloc
    (.cells #[.int .i64 r, .int .i64 n, .int .i64 0] 53)

set_option maxRecDepth 100000 in
theorem base_facts (w : World) (c : Cfg) (o : Opn) (x1 y1 R T : Obj) (f : Frm) (r n : Int) {W : World} (e : Ext (doneBase w c o x1 y1 R T f r n) W) : Holds W ([(w.heap.size, 0, .int .u8 c.object), (w.heap.size, 1, .int .i64 c.instances), (w.heap.size, 2, .int .i64 c.threads), (w.heap.size, 3, .int .u8 c.kind), (w.heap.size, 4, .int .i64 c.stripes), (w.heap.size, 5, .int .i64 c.bits), (w.heap.size, 6, .int .i64 c.cap), (w.heap.size, 7, .int .i64 c.node), (w.heap.size, 8, .int .i64 c.batch), (w.heap.size, 9, .int .i64 c.chunk), (w.heap.size, 10, .int .u64 c.limit), (w.heap.size, 11, .int .u64 c.most)] ++ [(w.heap.size + 1 + 1 + 1 + 1 + 1 + 1, 0, .int .u8 f.kind), (w.heap.size + 1 + 1 + 1 + 1 + 1 + 1, 1, .int .u32 f.a), (w.heap.size + 1 + 1 + 1 + 1 + 1 + 1, 2, .int .u32 f.b), (w.heap.size + 1 + 1 + 1 + 1 + 1 + 1, 3, .int .u8 f.pc), (w.heap.size + 1 + 1 + 1 + 1 + 1 + 1, 4, .int .u8 f.i), (w.heap.size + 1 + 1 + 1 + 1 + 1 + 1, 5, .int .u8 f.j), (w.heap.size + 1 + 1 + 1 + 1 + 1 + 1, 6, .int .u8 f.n), (w.heap.size + 1 + 1 + 1 + 1 + 1 + 1, 7, .int .u8 f.p), (w.heap.size + 1 + 1 + 1 + 1 + 1 + 1, 8, .int .u8 f.h), (w.heap.size + 1 + 1 + 1 + 1 + 1 + 1, 9, .int .u32 f.x), (w.heap.size + 1 + 1 + 1 + 1 + 1 + 1, 10, .int .u32 f.y)]) := by
  refine Holds.ext ?_ e
  rw [holds_iff]
  simp [doneBase, go_sem]

theorem base_mid (w : World) (c : Cfg) (o : Opn) (x1 y1 R T R' T' : Obj) (f f' : Frm) (r n r' n' : Int) (os : Array Obj) (d d' : Nat) :
    Mid w.heap.size (w.heap.size + 8) (grew (doneBase w c o x1 y1 R T f r n) os d) (grew (doneBase w c o x1 y1 R' T' f' r' n') os d') := by
  have hz : (doneBase w c o x1 y1 R T f r n).heap.size = w.heap.size + 8 := by simp [doneBase, go_sem]
  rw [← hz]
  have e1 : Ext w (doneBase w c o x1 y1 R T f r n) := by unfold doneBase; exact (by repeat (first | with_reducible exact Ext.refl _ | with_reducible assumption | with_reducible refine Ext.alloc ?_ _ | with_reducible refine Ext.gr ?_ _ | with_reducible refine Ext.drewN ?_ _ | with_reducible refine Ext.drew ?_ | with_reducible refine Ext.setCell ?_ ?_ _ | with_reducible refine Ext.more ?_ _ _ | (show _ ≤ _; dsimp only; omega)))
  have e2 : Ext w (doneBase w c o x1 y1 R' T' f' r' n') := by unfold doneBase; exact (by repeat (first | with_reducible exact Ext.refl _ | with_reducible assumption | with_reducible refine Ext.alloc ?_ _ | with_reducible refine Ext.gr ?_ _ | with_reducible refine Ext.drewN ?_ _ | with_reducible refine Ext.drew ?_ | with_reducible refine Ext.setCell ?_ ?_ _ | with_reducible refine Ext.more ?_ _ _ | (show _ ≤ _; dsimp only; omega)))
  exact mid_grew (by simp [doneBase, go_sem]) (fun k hk => (ext_heap e2 hk).trans (ext_heap e1 hk).symm) os d d'

set_option maxRecDepth 100000 in
set_option maxHeartbeats 4000000 in
theorem done_any (c : Cfg) (o : Opn) (ho : o.Fits) (L : List Cel) (hL : CelsFit L) (v : Value) (w : World) (ht : Tab w) (hs : Sl w v L.length (celCells L)) (hlen : L.length ≤ 1000) :
    Calls Tryd.prog 16 #[c.v, v, o.v] w
    fun e w' => ∃ v', (e = .returned (.tuple #[v', .agg #[.int .i64 (gateRun c 80 (startF o) L 0 0).code, .int .u32 (gateRun c 80 (startF o) L 0 0).word, .slice none 0 0], .agg #[.int .i64 (gateRun c 80 (startF o) L 0 0).reads, .int .i64 (gateRun c 80 (startF o) L 0 0).writes, .int .i64 0], .bool (gateRun c 80 (startF o) L 0 0).ok]) ∧
      Sl w' v' (gateRun c 80 (startF o) L 0 0).cells.length (celCells (gateRun c 80 (startF o) L 0 0).cells)) ∧ Ext w w' := by
  obtain ⟨O, hO⟩ : ∃ O, O = gateRun c 80 (startF o) L 0 0 := ⟨_, rfl⟩
  rw [← hO]
  have HO := Lib.hid hO
  obtain ⟨ad, cap, rfl, hs⟩ := hs
  have HS := Lib.hid hs
  have HT := Lib.hid ht
  clear hO hs ht
  go_enter Tryd.func16, Tryd.ntmps16
  go_wp2_with (go_at_call 15; refine (regStart_any o _).mono ?_; rintro e w1 ⟨rfl, x1, y1, rfl⟩)
  go_loopg [1, 12] 80 (fun gk t1 t12 wr => ∃ (f : Frm) (L : List Cel) (r n : Int) (ad : Option Addr) (cap : Nat), gk ≤ 80 ∧ t1 = .slice ad L.length cap ∧ t12 = .int .i64 (80 - (gk : Int)) ∧ f.Fits ∧ CelsFit L ∧ L.length ≤ 1000 ∧ 0 ≤ r ∧ 0 ≤ n ∧ r + n + gk = 80 ∧ Hid (O = gateRun c gk f L r n) ∧
    Hid (SlIn w.heap.size (w.heap.size + 8) wr ad L.length cap (celCells L)) ∧ Ext (doneBase w c o x1 y1 (.cells #[.int .i64 0, .int .u32 0, .slice none 0 0] 51) (.cells #[.int .i64 0, .int .i64 0, .int .i64 0] 53) f r n) wr)
  case atStart =>
    refine ⟨startF o, L, 0, 0, ad, cap, Nat.le_refl _, rfl, by go_num, startF_fits ho, hL, hlen, by omega, by omega, by omega, HO, Lib.hid (SlAt.inn HS.out (Nat.le_refl _) (by repeat (first | with_reducible exact Ext.refl _ | with_reducible assumption | with_reducible refine Ext.alloc ?_ _ | with_reducible refine Ext.gr ?_ _ | with_reducible refine Ext.drewN ?_ _ | with_reducible refine Ext.drew ?_ | with_reducible refine Ext.setCell ?_ ?_ _ | with_reducible refine Ext.more ?_ _ _ | (show _ ≤ _; dsimp only; omega)))), ?_⟩
    unfold doneBase
    exact Ext.refl _
  case round =>
    obtain ⟨f, L', r, n, ad', cap', hk, rfl, rfl, hf, hL', hlen', hr, hn, hrn, HO', HS', os, d, hw⟩ := hrel
    have HB := Lib.hid (base_mid w c o x1 y1)
    unfold doneBase at hw
    subst hw
    have HF := Lib.hid hf
    have HL := Lib.hid hL'
    clear hf hL' HO HS hL hlen ho
    cases gk with
    | zero =>
      have HO2 := Lib.hid (HO'.out.trans (gateRun_zero c f L' r n))
      clear HO'
      go_wp2
      go_region
      all_goals go_wp2
      all_goals (refine bodyPost_ret (v := .tuple #[.slice ad' L'.length cap', .agg #[.int .i64 0, .int .u32 0, .slice none 0 0], .agg #[.int .i64 r, .int .i64 n, .int .i64 0], .bool false]) (by simp [results, Tryd.results16, go_sem]) rfl ⟨_, ⟨by rw [HO2.out], by rw [HO2.out]; exact ⟨_, _, rfl, SlIn.at (SlIn.mid HS'.out (Mid.ext (HB.out (.cells #[.int .i64 0, .int .u32 0, .slice none 0 0] 51) (.cells #[.int .i64 0, .int .i64 0, .int .i64 0] 53) (.cells #[.int .i64 0, .int .u32 0, .slice none 0 0] 51) (.cells #[.int .i64 r, .int .i64 n, .int .i64 0] 53) f f r n r n os d d) (by unfold doneBase; exact (by repeat (first | with_reducible exact Ext.refl _ | with_reducible assumption | with_reducible apply Ext.bothR | with_reducible refine Ext.alloc ?_ _ | with_reducible refine Ext.gr ?_ _ | with_reducible refine Ext.drewN ?_ _ | with_reducible refine Ext.drew ?_ | with_reducible refine Ext.setCell ?_ ?_ _ | with_reducible refine Ext.more ?_ _ _ | (show _ ≤ _; dsimp only; omega))))))⟩⟩, (by repeat (first | with_reducible exact Ext.refl _ | with_reducible assumption | with_reducible refine Ext.alloc ?_ _ | with_reducible refine Ext.gr ?_ _ | with_reducible refine Ext.drewN ?_ _ | with_reducible refine Ext.drew ?_ | with_reducible refine Ext.setCell ?_ ?_ _ | with_reducible refine Ext.more ?_ _ _ | (show _ ≤ _; dsimp only; omega)))⟩)
    | succ m =>
      obtain ⟨A, hA⟩ : ∃ A, A = gateStep f := ⟨_, rfl⟩
      cases hE : (gateErr c f == 0)
      · have HE : Hid ((gateErr c f == 0) = false) := Lib.hid hE
        have HN : Hid (gateNextA c f = zeroAct) := Lib.hid (gateNext_no hE)
        obtain ⟨E, hE1⟩ : ∃ E, E = gateErr c f := ⟨_, rfl⟩
        have hE2 : (E == 0) = false := by rw [hE1]; exact hE
        have HE1 := Lib.hid hE1
        have HO2 := Lib.hid (HO'.out.trans (gateRun_bad m L' r n hE))
        clear hE hE1 HO' hA
        go_wp2_with (go_at_call 9; refine (gateNext_any c f HF.out _ (Tab.ext HT.out (by repeat (first | with_reducible exact Ext.refl _ | with_reducible assumption | with_reducible refine Ext.alloc ?_ _ | with_reducible refine Ext.gr ?_ _ | with_reducible refine Ext.drewN ?_ _ | with_reducible refine Ext.drew ?_ | with_reducible refine Ext.setCell ?_ ?_ _ | with_reducible refine Ext.more ?_ _ _ | (show _ ≤ _; dsimp only; omega))))).mono ?_; rintro e w1 ⟨rfl, os1, n1, rfl⟩; rw [HN.out, ← HE1.out])
        go_region
        all_goals go_wp2
        all_goals (refine bodyPost_ret (v := .tuple #[.slice ad' L'.length cap', .agg #[.int .i64 0, .int .u32 0, .slice none 0 0], .agg #[.int .i64 r, .int .i64 n, .int .i64 0], .bool false]) (by simp [results, Tryd.results16, go_sem]) rfl ⟨_, ⟨by rw [HO2.out], by rw [HO2.out]; exact ⟨_, _, rfl, SlIn.at (SlIn.mid HS'.out (Mid.ext (HB.out (.cells #[.int .i64 0, .int .u32 0, .slice none 0 0] 51) (.cells #[.int .i64 0, .int .i64 0, .int .i64 0] 53) (.cells #[.int .i64 0, .int .u32 0, .slice none 0 0] 51) (.cells #[.int .i64 r, .int .i64 n, .int .i64 0] 53) f f r n r n os d d) (by unfold doneBase; exact (by repeat (first | with_reducible exact Ext.refl _ | with_reducible assumption | with_reducible apply Ext.bothR | with_reducible refine Ext.alloc ?_ _ | with_reducible refine Ext.gr ?_ _ | with_reducible refine Ext.drewN ?_ _ | with_reducible refine Ext.drew ?_ | with_reducible refine Ext.setCell ?_ ?_ _ | with_reducible refine Ext.more ?_ _ _ | (show _ ≤ _; dsimp only; omega))))))⟩⟩, (by repeat (first | with_reducible exact Ext.refl _ | with_reducible assumption | with_reducible refine Ext.alloc ?_ _ | with_reducible refine Ext.gr ?_ _ | with_reducible refine Ext.drewN ?_ _ | with_reducible refine Ext.drew ?_ | with_reducible refine Ext.setCell ?_ ?_ _ | with_reducible refine Ext.more ?_ _ _ | (show _ ≤ _; dsimp only; omega)))⟩)
      · have HE : Hid (gateErr c f = 0) := Lib.hid (by simpa using hE)
        have HN : Hid (gateNextA c f = A) := Lib.hid (by rw [hA]; exact gateNext_yes hE)
        have HA := Lib.hid hA
        clear hE hA
        cases h4 : (A.kind == 4)
        · by_cases hat : 0 ≤ A.at' ∧ A.at' < L'.length
          · obtain ⟨ha0, ha1⟩ := hat
            cases h2 : (A.kind == 2)
            · obtain ⟨b, o', rfl, hb, hc⟩ := HS'.out.cel ha0 ha1
              obtain ⟨l, hl⟩ : ∃ l, l = L'.getD A.at'.toNat ⟨0, 0, 0, 0⟩ := ⟨_, rfl⟩
              rw [← hl] at hc
              have HLF : Hid l.Fits := Lib.hid (by rw [hl]; exact HL.out.get _)
              have HO2 : Hid (O = gateRun c m (gateAfterA c f l) L' (r + 1) n) := Lib.hid (HO'.out.trans (by rw [hl, HA.out]; exact gateRun_read m L' r n HE.out (by rw [← HA.out]; exact h4) (by rw [← HA.out]; exact ha0) (by rw [← HA.out]; exact ha1) (by rw [← HA.out]; exact h2)))
              have HC := Lib.hid ((hc.mid hb (HB.out (.cells #[.int .i64 0, .int .u32 0, .slice none 0 0] 51) (.cells #[.int .i64 0, .int .i64 0, .int .i64 0] 53) (.cells #[.int .i64 0, .int .u32 0, .slice none 0 0] 51) (.cells #[.int .i64 0, .int .i64 0, .int .i64 0] 53) f f r n (r + 1) n os d d)))
              have HS2 := Lib.hid ((HS'.out.mid (HB.out (.cells #[.int .i64 0, .int .u32 0, .slice none 0 0] 51) (.cells #[.int .i64 0, .int .i64 0, .int .i64 0] 53) (.cells #[.int .i64 0, .int .u32 0, .slice none 0 0] 51) (.cells #[.int .i64 0, .int .i64 0, .int .i64 0] 53) f f r n (r + 1) n os d d)))
              unfold doneBase at HC HS2
              clear hc hb hl HS' HO'
              go_wp2_with (go_at_call 9; refine (gateNext_any c f HF.out _ (Tab.ext HT.out (by repeat (first | with_reducible exact Ext.refl _ | with_reducible assumption | with_reducible refine Ext.alloc ?_ _ | with_reducible refine Ext.gr ?_ _ | with_reducible refine Ext.drewN ?_ _ | with_reducible refine Ext.drew ?_ | with_reducible refine Ext.setCell ?_ ?_ _ | with_reducible refine Ext.more ?_ _ _ | (show _ ≤ _; dsimp only; omega))))).mono ?_; rintro e w1 ⟨rfl, os1, n1, rfl⟩; rw [HE.out, HN.out])
              refine wp_gen (fun W => Ext (doneBase w c o x1 y1 (.cells #[.int .i64 0, .int .u32 0, .slice none 0 0] 51) (.cells #[.int .i64 0, .int .i64 0, .int .i64 0] 53) f (r + 1) n) W ∧ SlIn w.heap.size (w.heap.size + 8) W (some ⟨b, o', none⟩) L'.length cap' (celCells L') ∧
                Holds W (([(w.heap.size, 0, .int .u8 c.object), (w.heap.size, 1, .int .i64 c.instances), (w.heap.size, 2, .int .i64 c.threads), (w.heap.size, 3, .int .u8 c.kind), (w.heap.size, 4, .int .i64 c.stripes), (w.heap.size, 5, .int .i64 c.bits), (w.heap.size, 6, .int .i64 c.cap), (w.heap.size, 7, .int .i64 c.node), (w.heap.size, 8, .int .i64 c.batch), (w.heap.size, 9, .int .i64 c.chunk), (w.heap.size, 10, .int .u64 c.limit), (w.heap.size, 11, .int .u64 c.most)] ++ [(w.heap.size + 1 + 1 + 1 + 1 + 1 + 1, 0, .int .u8 f.kind), (w.heap.size + 1 + 1 + 1 + 1 + 1 + 1, 1, .int .u32 f.a), (w.heap.size + 1 + 1 + 1 + 1 + 1 + 1, 2, .int .u32 f.b), (w.heap.size + 1 + 1 + 1 + 1 + 1 + 1, 3, .int .u8 f.pc), (w.heap.size + 1 + 1 + 1 + 1 + 1 + 1, 4, .int .u8 f.i), (w.heap.size + 1 + 1 + 1 + 1 + 1 + 1, 5, .int .u8 f.j), (w.heap.size + 1 + 1 + 1 + 1 + 1 + 1, 6, .int .u8 f.n), (w.heap.size + 1 + 1 + 1 + 1 + 1 + 1, 7, .int .u8 f.p), (w.heap.size + 1 + 1 + 1 + 1 + 1 + 1, 8, .int .u8 f.h), (w.heap.size + 1 + 1 + 1 + 1 + 1 + 1, 9, .int .u32 f.x), (w.heap.size + 1 + 1 + 1 + 1 + 1 + 1, 10, .int .u32 f.y)]) ++ ([(w.heap.size + 1 + 1 + 1 + 1 + 1 + 1 + 1 + 1 + cnt (both os os1), 1, .int .i64 A.at')] ++ [(b, o' + A.at'.toNat * 4, .int .u64 l.tag), (b, o' + A.at'.toNat * 4 + 1, .int .u64 l.a), (b, o' + A.at'.toNat * 4 + 2, .int .u64 l.b), (b, o' + A.at'.toNat * 4 + 3, .int .u64 l.c)]))) ?_ ?_
              · refine (fun e1 => ⟨e1, HS2.out.mid (Mid.of_ext (by repeat (first | with_reducible exact Ext.refl _ | with_reducible assumption | with_reducible apply Ext.bothR | with_reducible refine Ext.alloc ?_ _ | with_reducible refine Ext.gr ?_ _ | with_reducible refine Ext.drewN ?_ _ | with_reducible refine Ext.drew ?_ | with_reducible refine Ext.setCell ?_ ?_ _ | with_reducible refine Ext.more ?_ _ _ | (show _ ≤ _; dsimp only; omega)))), (base_facts w c o x1 y1 (.cells #[.int .i64 0, .int .u32 0, .slice none 0 0] 51) (.cells #[.int .i64 0, .int .i64 0, .int .i64 0] 53) f (r + 1) n e1).app (Holds.app (by simp [Holds, go_sem]) (HC.out.ext (by repeat (first | with_reducible exact Ext.refl _ | with_reducible assumption | with_reducible apply Ext.bothR | with_reducible refine Ext.alloc ?_ _ | with_reducible refine Ext.gr ?_ _ | with_reducible refine Ext.drewN ?_ _ | with_reducible refine Ext.drew ?_ | with_reducible refine Ext.setCell ?_ ?_ _ | with_reducible refine Ext.more ?_ _ _ | (show _ ≤ _; dsimp only; omega)))).holds)⟩) ?_
                unfold doneBase
                exact (by repeat (first | with_reducible exact Ext.refl _ | with_reducible assumption | with_reducible refine Ext.alloc ?_ _ | with_reducible refine Ext.gr ?_ _ | with_reducible refine Ext.drewN ?_ _ | with_reducible refine Ext.drew ?_ | with_reducible refine Ext.setCell ?_ ?_ _ | with_reducible refine Ext.more ?_ _ _ | (show _ ≤ _; dsimp only; omega)))
              clear HS2 HC
              intro W HH
              have HW := Lib.hid (Ext.trans (by unfold doneBase; exact (by repeat (first | with_reducible exact Ext.refl _ | with_reducible assumption | with_reducible refine Ext.alloc ?_ _ | with_reducible refine Ext.gr ?_ _ | with_reducible refine Ext.drewN ?_ _ | with_reducible refine Ext.drew ?_ | with_reducible refine Ext.setCell ?_ ?_ _ | with_reducible refine Ext.more ?_ _ _ | (show _ ≤ _; dsimp only; omega)))) HH.1 : Ext w W)
              have HX := Lib.hid HH.1
              have HS2 := Lib.hid HH.2.1
              have HK := Lib.hid HH.2.2
              clear HH
              go_region_held3 (fun W => W.cell? ⟨w.heap.size, 0, none⟩ = some (.int .u8 c.object) ∧ W.cell? ⟨w.heap.size, 1, none⟩ = some (.int .i64 c.instances) ∧ W.cell? ⟨w.heap.size, 2, none⟩ = some (.int .i64 c.threads) ∧ W.cell? ⟨w.heap.size, 3, none⟩ = some (.int .u8 c.kind) ∧ W.cell? ⟨w.heap.size, 4, none⟩ = some (.int .i64 c.stripes) ∧ W.cell? ⟨w.heap.size, 5, none⟩ = some (.int .i64 c.bits) ∧ W.cell? ⟨w.heap.size, 6, none⟩ = some (.int .i64 c.cap) ∧ W.cell? ⟨w.heap.size, 7, none⟩ = some (.int .i64 c.node) ∧ W.cell? ⟨w.heap.size, 8, none⟩ = some (.int .i64 c.batch) ∧ W.cell? ⟨w.heap.size, 9, none⟩ = some (.int .i64 c.chunk) ∧ W.cell? ⟨w.heap.size, 10, none⟩ = some (.int .u64 c.limit) ∧ W.cell? ⟨w.heap.size, 11, none⟩ = some (.int .u64 c.most) ∧ W.cell? ⟨w.heap.size + 1 + 1 + 1 + 1 + 1 + 1, 0, none⟩ = some (.int .u8 f.kind) ∧ W.cell? ⟨w.heap.size + 1 + 1 + 1 + 1 + 1 + 1, 1, none⟩ = some (.int .u32 f.a) ∧ W.cell? ⟨w.heap.size + 1 + 1 + 1 + 1 + 1 + 1, 2, none⟩ = some (.int .u32 f.b) ∧ W.cell? ⟨w.heap.size + 1 + 1 + 1 + 1 + 1 + 1, 3, none⟩ = some (.int .u8 f.pc) ∧ W.cell? ⟨w.heap.size + 1 + 1 + 1 + 1 + 1 + 1, 4, none⟩ = some (.int .u8 f.i) ∧ W.cell? ⟨w.heap.size + 1 + 1 + 1 + 1 + 1 + 1, 5, none⟩ = some (.int .u8 f.j) ∧ W.cell? ⟨w.heap.size + 1 + 1 + 1 + 1 + 1 + 1, 6, none⟩ = some (.int .u8 f.n) ∧ W.cell? ⟨w.heap.size + 1 + 1 + 1 + 1 + 1 + 1, 7, none⟩ = some (.int .u8 f.p) ∧ W.cell? ⟨w.heap.size + 1 + 1 + 1 + 1 + 1 + 1, 8, none⟩ = some (.int .u8 f.h) ∧ W.cell? ⟨w.heap.size + 1 + 1 + 1 + 1 + 1 + 1, 9, none⟩ = some (.int .u32 f.x) ∧ W.cell? ⟨w.heap.size + 1 + 1 + 1 + 1 + 1 + 1, 10, none⟩ = some (.int .u32 f.y) ∧ W.cell? ⟨w.heap.size + 1 + 1 + 1 + 1 + 1 + 1 + 1 + 1 + cnt (both os os1), 1, none⟩ = some (.int .i64 A.at') ∧ W.cell? ⟨b, o' + A.at'.toNat * 4, none⟩ = some (.int .u64 l.tag) ∧ W.cell? ⟨b, o' + A.at'.toNat * 4 + 1, none⟩ = some (.int .u64 l.a) ∧ W.cell? ⟨b, o' + A.at'.toNat * 4 + 2, none⟩ = some (.int .u64 l.b) ∧ W.cell? ⟨b, o' + A.at'.toNat * 4 + 3, none⟩ = some (.int .u64 l.c))
                (exact HK.out.ext (by (repeat (first | with_reducible exact Ext.refl _ | with_reducible assumption | with_reducible refine Ext.alloc ?_ _ | with_reducible refine Ext.gr ?_ _ | with_reducible refine Ext.drewN ?_ _ | with_reducible refine Ext.drew ?_ | with_reducible refine Ext.setCell ?_ ?_ _ | with_reducible refine Ext.more ?_ _ _ | (show _ ≤ _; dsimp only; omega)))))
                (first | (go_at_call 11; refine (gateAfter_any c f l HF.out _ (Tab.ext (Tab.ext HT.out HW.out) (by repeat (first | with_reducible exact Ext.refl _ | with_reducible assumption | with_reducible refine Ext.alloc ?_ _ | with_reducible refine Ext.gr ?_ _ | with_reducible refine Ext.drewN ?_ _ | with_reducible refine Ext.drew ?_ | with_reducible refine Ext.setCell ?_ ?_ _ | with_reducible refine Ext.more ?_ _ _ | (show _ ≤ _; dsimp only; omega))))).mono ?_; rintro e w2 ⟨rfl, os2, n2, rfl⟩; rw [HE.out]))
              all_goals
                have hX := HX.out
                clear HX HW HK
                unfold doneBase at hX
                obtain ⟨os', d', rfl⟩ := hX
                go_wp2
                go_roundg m
                case measure => omega
                case rel =>
                  refine ⟨gateAfterA c f l, L', r + 1, n, _, _, by omega, rfl, by go_num, gateAfter_fits HF.out HLF.out HE.out, HL.out, hlen', by omega, hn, by omega, HO2, Lib.hid (SlIn.mid HS2.out (Mid.ext (HB.out (.cells #[.int .i64 0, .int .u32 0, .slice none 0 0] 51) (.cells #[.int .i64 0, .int .i64 0, .int .i64 0] 53) (.cells #[.int .i64 0, .int .u32 0, .slice none 0 0] 51) (.cells #[.int .i64 0, .int .i64 0, .int .i64 0] 53) f (gateAfterA c f l) (r + 1) n (r + 1) n os' d' d') (by unfold doneBase; exact (by repeat (first | with_reducible exact Ext.refl _ | with_reducible assumption | with_reducible apply Ext.bothR | with_reducible refine Ext.alloc ?_ _ | with_reducible refine Ext.gr ?_ _ | with_reducible refine Ext.drewN ?_ _ | with_reducible refine Ext.drew ?_ | with_reducible refine Ext.setCell ?_ ?_ _ | with_reducible refine Ext.more ?_ _ _ | (show _ ≤ _; dsimp only; omega)))))), ?_⟩
                  unfold doneBase
                  exact (by repeat (first | with_reducible exact Ext.refl _ | with_reducible assumption | with_reducible refine Ext.alloc ?_ _ | with_reducible refine Ext.gr ?_ _ | with_reducible refine Ext.drewN ?_ _ | with_reducible refine Ext.drew ?_ | with_reducible refine Ext.setCell ?_ ?_ _ | with_reducible refine Ext.more ?_ _ _ | (show _ ≤ _; dsimp only; omega)))
            · obtain ⟨b, o', rfl, hc⟩ := HS'.out.at.pos (by omega)
              obtain ⟨l, hl⟩ : ∃ l, l = Cel.mk 0 A.a A.b A.c := ⟨_, rfl⟩
              have HLF : Hid l.Fits := Lib.hid (by rw [hl, HA.out]; exact gateStep_fits HF.out)
              have HO2 : Hid (O = gateRun c m (gateAfterA c f l) (L'.set A.at'.toNat l) r (n + 1)) := Lib.hid (HO'.out.trans (by rw [hl, HA.out]; exact gateRun_write m L' r n HE.out (by rw [← HA.out]; exact h4) (by rw [← HA.out]; exact ha0) (by rw [← HA.out]; exact ha1) (by rw [← HA.out]; exact h2)))
              have HLL := Lib.hid hl
              have HC := Lib.hid hc
              clear hc hl HS' HO'
              obtain ⟨i0, hi, hz0, hz1, hz2⟩ := info_parts info_cel
              have HI := Lib.hid (And.intro hi (And.intro hz0 (And.intro hz1 hz2)))
              clear hi hz0 hz1 hz2
              go_wp2_with (first | (go_at_call 9; refine (gateNext_any c f HF.out _ (Tab.ext HT.out (by repeat (first | with_reducible exact Ext.refl _ | with_reducible assumption | with_reducible refine Ext.alloc ?_ _ | with_reducible refine Ext.gr ?_ _ | with_reducible refine Ext.drewN ?_ _ | with_reducible refine Ext.drew ?_ | with_reducible refine Ext.setCell ?_ ?_ _ | with_reducible refine Ext.more ?_ _ _ | (show _ ≤ _; dsimp only; omega))))).mono ?_; rintro e w1 ⟨rfl, os1, n1, rfl⟩; rw [HE.out, HN.out]) | (at_builtin; refine wpList_append_copy rfl _ _ 45 rfl 37 i0 _ 4 32 Tryd.underlying45 HI.out.1 HI.out.2.1 HI.out.2.2.1 HI.out.2.2.2 _ rfl b o' L'.length cap' (celCells L') rfl (celCells_len L') (fun j u hu => ext_cell (by repeat (first | with_reducible exact Ext.refl _ | with_reducible assumption | with_reducible apply Ext.bothR | with_reducible refine Ext.alloc ?_ _ | with_reducible refine Ext.gr ?_ _ | with_reducible refine Ext.drewN ?_ _ | with_reducible refine Ext.drew ?_ | with_reducible refine Ext.setCell ?_ ?_ _ | with_reducible refine Ext.more ?_ _ _ | (show _ ≤ _; dsimp only; omega))) (HC.out j u hu)) (celCells_one L') (by omega) (by unfold maxLen; omega) (by omega) ?_; intro C cap2 hC hcap hcap2; obtain ⟨u0, u1, u2, u3, k0, k1, k2, k3, hsz⟩ := cel_in hC ha0 ha1; have HCC := Lib.hid (And.intro hC (And.intro hcap hcap2)); clear hC hcap hcap2))
              have hset : (L'.set A.at'.toNat l).length = L'.length := List.length_set
              have HSET := Lib.hid hset
              clear hset
              refine wp_gen (fun W => Ext (doneBase w c o x1 y1 (.cells #[.int .i64 0, .int .u32 0, .slice none 0 0] 51) (.cells #[.int .i64 0, .int .i64 0, .int .i64 0] 53) f r (n + 1)) W ∧ SlIn w.heap.size (w.heap.size + 8) W (some ⟨w.heap.size + 1 + 1 + 1 + 1 + 1 + 1 + 1 + 1 + 1 + 1 + cnt (both os os1), 0, none⟩) (L'.set A.at'.toNat l).length cap2 (celCells (L'.set A.at'.toNat l)) ∧
                Holds W (([(w.heap.size, 0, .int .u8 c.object), (w.heap.size, 1, .int .i64 c.instances), (w.heap.size, 2, .int .i64 c.threads), (w.heap.size, 3, .int .u8 c.kind), (w.heap.size, 4, .int .i64 c.stripes), (w.heap.size, 5, .int .i64 c.bits), (w.heap.size, 6, .int .i64 c.cap), (w.heap.size, 7, .int .i64 c.node), (w.heap.size, 8, .int .i64 c.batch), (w.heap.size, 9, .int .i64 c.chunk), (w.heap.size, 10, .int .u64 c.limit), (w.heap.size, 11, .int .u64 c.most)] ++ [(w.heap.size + 1 + 1 + 1 + 1 + 1 + 1, 0, .int .u8 f.kind), (w.heap.size + 1 + 1 + 1 + 1 + 1 + 1, 1, .int .u32 f.a), (w.heap.size + 1 + 1 + 1 + 1 + 1 + 1, 2, .int .u32 f.b), (w.heap.size + 1 + 1 + 1 + 1 + 1 + 1, 3, .int .u8 f.pc), (w.heap.size + 1 + 1 + 1 + 1 + 1 + 1, 4, .int .u8 f.i), (w.heap.size + 1 + 1 + 1 + 1 + 1 + 1, 5, .int .u8 f.j), (w.heap.size + 1 + 1 + 1 + 1 + 1 + 1, 6, .int .u8 f.n), (w.heap.size + 1 + 1 + 1 + 1 + 1 + 1, 7, .int .u8 f.p), (w.heap.size + 1 + 1 + 1 + 1 + 1 + 1, 8, .int .u8 f.h), (w.heap.size + 1 + 1 + 1 + 1 + 1 + 1, 9, .int .u32 f.x), (w.heap.size + 1 + 1 + 1 + 1 + 1 + 1, 10, .int .u32 f.y)]) ++ ([(w.heap.size + 1 + 1 + 1 + 1 + 1 + 1 + 1 + 1 + cnt (both os os1), 1, .int .i64 A.at')] ++ [(w.heap.size + 1 + 1 + 1 + 1 + 1 + 1 + 1 + 1 + 1 + 1 + cnt (both os os1), A.at'.toNat * 4, .int .u64 l.tag), (w.heap.size + 1 + 1 + 1 + 1 + 1 + 1 + 1 + 1 + 1 + 1 + cnt (both os os1), A.at'.toNat * 4 + 1, .int .u64 l.a), (w.heap.size + 1 + 1 + 1 + 1 + 1 + 1 + 1 + 1 + 1 + 1 + cnt (both os os1), A.at'.toNat * 4 + 2, .int .u64 l.b), (w.heap.size + 1 + 1 + 1 + 1 + 1 + 1 + 1 + 1 + 1 + 1 + cnt (both os os1), A.at'.toNat * 4 + 3, .int .u64 l.c)]))) ?_ ?_
              · refine and3 ?_ ?_ (fun e1 hS => (base_facts w c o x1 y1 (.cells #[.int .i64 0, .int .u32 0, .slice none 0 0] 51) (.cells #[.int .i64 0, .int .i64 0, .int .i64 0] 53) f r (n + 1) e1).app (Holds.app (by simp [Holds, go_sem]) ?_))
                · unfold doneBase
                  exact (by repeat (first | with_reducible exact Ext.refl _ | with_reducible assumption | with_reducible refine Ext.alloc ?_ _ | with_reducible refine Ext.gr ?_ _ | with_reducible refine Ext.drewN ?_ _ | with_reducible refine Ext.drew ?_ | with_reducible refine Ext.setCell ?_ ?_ _ | with_reducible refine Ext.more ?_ _ _ | (show _ ≤ _; dsimp only; omega)))
                · refine ⟨by rw [HSET.out]; exact HCC.out.2.1, HCC.out.2.2, Or.inr ⟨_, _, rfl, fun j u hu => ⟨Or.inr (by omega), ?_⟩⟩⟩
                  have hj := cel_set_in HCC.out.1 A.at'.toNat l j u hu
                  rw [HLL.out] at hj
                  simp only [Nat.zero_add]
                  simp [go_sem]
                  exact hj
                · obtain ⟨b2, o2, e2, _, hcel⟩ := hS.cel ha0 (by rw [HSET.out]; exact ha1)
                  cases e2
                  rw [Nat.zero_add, show (L'.set A.at'.toNat l).getD A.at'.toNat ⟨0, 0, 0, 0⟩ = l by rw [List.getD_eq_getElem?_getD, List.getElem?_set_self (by omega)]; rfl] at hcel
                  exact hcel.holds
              clear HCC HC k0 k1 k2 k3 hsz
              intro W HH
              have HW := Lib.hid (Ext.trans (by unfold doneBase; exact (by repeat (first | with_reducible exact Ext.refl _ | with_reducible assumption | with_reducible refine Ext.alloc ?_ _ | with_reducible refine Ext.gr ?_ _ | with_reducible refine Ext.drewN ?_ _ | with_reducible refine Ext.drew ?_ | with_reducible refine Ext.setCell ?_ ?_ _ | with_reducible refine Ext.more ?_ _ _ | (show _ ≤ _; dsimp only; omega)))) HH.1 : Ext w W)
              have HX := Lib.hid HH.1
              have HS2 := Lib.hid HH.2.1
              have HK := Lib.hid HH.2.2
              clear HH
              go_region_held3 (fun W => W.cell? ⟨w.heap.size, 0, none⟩ = some (.int .u8 c.object) ∧ W.cell? ⟨w.heap.size, 1, none⟩ = some (.int .i64 c.instances) ∧ W.cell? ⟨w.heap.size, 2, none⟩ = some (.int .i64 c.threads) ∧ W.cell? ⟨w.heap.size, 3, none⟩ = some (.int .u8 c.kind) ∧ W.cell? ⟨w.heap.size, 4, none⟩ = some (.int .i64 c.stripes) ∧ W.cell? ⟨w.heap.size, 5, none⟩ = some (.int .i64 c.bits) ∧ W.cell? ⟨w.heap.size, 6, none⟩ = some (.int .i64 c.cap) ∧ W.cell? ⟨w.heap.size, 7, none⟩ = some (.int .i64 c.node) ∧ W.cell? ⟨w.heap.size, 8, none⟩ = some (.int .i64 c.batch) ∧ W.cell? ⟨w.heap.size, 9, none⟩ = some (.int .i64 c.chunk) ∧ W.cell? ⟨w.heap.size, 10, none⟩ = some (.int .u64 c.limit) ∧ W.cell? ⟨w.heap.size, 11, none⟩ = some (.int .u64 c.most) ∧ W.cell? ⟨w.heap.size + 1 + 1 + 1 + 1 + 1 + 1, 0, none⟩ = some (.int .u8 f.kind) ∧ W.cell? ⟨w.heap.size + 1 + 1 + 1 + 1 + 1 + 1, 1, none⟩ = some (.int .u32 f.a) ∧ W.cell? ⟨w.heap.size + 1 + 1 + 1 + 1 + 1 + 1, 2, none⟩ = some (.int .u32 f.b) ∧ W.cell? ⟨w.heap.size + 1 + 1 + 1 + 1 + 1 + 1, 3, none⟩ = some (.int .u8 f.pc) ∧ W.cell? ⟨w.heap.size + 1 + 1 + 1 + 1 + 1 + 1, 4, none⟩ = some (.int .u8 f.i) ∧ W.cell? ⟨w.heap.size + 1 + 1 + 1 + 1 + 1 + 1, 5, none⟩ = some (.int .u8 f.j) ∧ W.cell? ⟨w.heap.size + 1 + 1 + 1 + 1 + 1 + 1, 6, none⟩ = some (.int .u8 f.n) ∧ W.cell? ⟨w.heap.size + 1 + 1 + 1 + 1 + 1 + 1, 7, none⟩ = some (.int .u8 f.p) ∧ W.cell? ⟨w.heap.size + 1 + 1 + 1 + 1 + 1 + 1, 8, none⟩ = some (.int .u8 f.h) ∧ W.cell? ⟨w.heap.size + 1 + 1 + 1 + 1 + 1 + 1, 9, none⟩ = some (.int .u32 f.x) ∧ W.cell? ⟨w.heap.size + 1 + 1 + 1 + 1 + 1 + 1, 10, none⟩ = some (.int .u32 f.y) ∧ W.cell? ⟨w.heap.size + 1 + 1 + 1 + 1 + 1 + 1 + 1 + 1 + cnt (both os os1), 1, none⟩ = some (.int .i64 A.at') ∧ W.cell? ⟨w.heap.size + 1 + 1 + 1 + 1 + 1 + 1 + 1 + 1 + 1 + 1 + cnt (both os os1), A.at'.toNat * 4, none⟩ = some (.int .u64 l.tag) ∧ W.cell? ⟨w.heap.size + 1 + 1 + 1 + 1 + 1 + 1 + 1 + 1 + 1 + 1 + cnt (both os os1), A.at'.toNat * 4 + 1, none⟩ = some (.int .u64 l.a) ∧ W.cell? ⟨w.heap.size + 1 + 1 + 1 + 1 + 1 + 1 + 1 + 1 + 1 + 1 + cnt (both os os1), A.at'.toNat * 4 + 2, none⟩ = some (.int .u64 l.b) ∧ W.cell? ⟨w.heap.size + 1 + 1 + 1 + 1 + 1 + 1 + 1 + 1 + 1 + 1 + cnt (both os os1), A.at'.toNat * 4 + 3, none⟩ = some (.int .u64 l.c))
                (exact HK.out.ext (by (repeat (first | with_reducible exact Ext.refl _ | with_reducible assumption | with_reducible refine Ext.alloc ?_ _ | with_reducible refine Ext.gr ?_ _ | with_reducible refine Ext.drewN ?_ _ | with_reducible refine Ext.drew ?_ | with_reducible refine Ext.setCell ?_ ?_ _ | with_reducible refine Ext.more ?_ _ _ | (show _ ≤ _; dsimp only; omega)))))
                (first | (go_at_call 11; refine (gateAfter_any c f l HF.out _ (Tab.ext (Tab.ext HT.out HW.out) (by repeat (first | with_reducible exact Ext.refl _ | with_reducible assumption | with_reducible refine Ext.alloc ?_ _ | with_reducible refine Ext.gr ?_ _ | with_reducible refine Ext.drewN ?_ _ | with_reducible refine Ext.drew ?_ | with_reducible refine Ext.setCell ?_ ?_ _ | with_reducible refine Ext.more ?_ _ _ | (show _ ≤ _; dsimp only; omega))))).mono ?_; rintro e w2 ⟨rfl, os2, n2, rfl⟩; rw [HE.out]))
              all_goals
                have hX := HX.out
                clear HX HW HK
                unfold doneBase at hX
                obtain ⟨os', d', rfl⟩ := hX
                go_wp2
                go_roundg m
                case measure => omega
                case rel =>
                  refine ⟨gateAfterA c f l, L'.set A.at'.toNat l, r, n + 1, _, _, by omega, by rw [HSET.out], by go_num, gateAfter_fits HF.out HLF.out HE.out, HL.out.set _ HLF.out, by rw [HSET.out]; exact hlen', hr, by omega, by omega, HO2, Lib.hid (SlIn.mid HS2.out (Mid.ext (HB.out (.cells #[.int .i64 0, .int .u32 0, .slice none 0 0] 51) (.cells #[.int .i64 0, .int .i64 0, .int .i64 0] 53) (.cells #[.int .i64 0, .int .u32 0, .slice none 0 0] 51) (.cells #[.int .i64 0, .int .i64 0, .int .i64 0] 53) f (gateAfterA c f l) r (n + 1) r (n + 1) os' d' d') (by unfold doneBase; exact (by repeat (first | with_reducible exact Ext.refl _ | with_reducible assumption | with_reducible apply Ext.bothR | with_reducible refine Ext.alloc ?_ _ | with_reducible refine Ext.gr ?_ _ | with_reducible refine Ext.drewN ?_ _ | with_reducible refine Ext.drew ?_ | with_reducible refine Ext.setCell ?_ ?_ _ | with_reducible refine Ext.more ?_ _ _ | (show _ ≤ _; dsimp only; omega)))))), ?_⟩
                  unfold doneBase
                  exact (by repeat (first | with_reducible exact Ext.refl _ | with_reducible assumption | with_reducible refine Ext.alloc ?_ _ | with_reducible refine Ext.gr ?_ _ | with_reducible refine Ext.drewN ?_ _ | with_reducible refine Ext.drew ?_ | with_reducible refine Ext.setCell ?_ ?_ _ | with_reducible refine Ext.more ?_ _ _ | (show _ ≤ _; dsimp only; omega)))
          · have HO2 := Lib.hid (HO'.out.trans (gateRun_out m L' r n HE.out (by rw [← HA.out]; exact h4) (by rw [← HA.out]; exact hat)))
            have hat2 : A.at' < 0 ∨ (L'.length : Int) ≤ A.at' := by omega
            clear HO' hat
            rcases hat2 with hat2 | hat2
            all_goals
              go_wp2_with (go_at_call 9; refine (gateNext_any c f HF.out _ (Tab.ext HT.out (by repeat (first | with_reducible exact Ext.refl _ | with_reducible assumption | with_reducible refine Ext.alloc ?_ _ | with_reducible refine Ext.gr ?_ _ | with_reducible refine Ext.drewN ?_ _ | with_reducible refine Ext.drew ?_ | with_reducible refine Ext.setCell ?_ ?_ _ | with_reducible refine Ext.more ?_ _ _ | (show _ ≤ _; dsimp only; omega))))).mono ?_; rintro e w1 ⟨rfl, os1, n1, rfl⟩; rw [HE.out, HN.out])
              go_region
              all_goals go_wp2
              all_goals (refine bodyPost_ret (v := .tuple #[.slice ad' L'.length cap', .agg #[.int .i64 0, .int .u32 0, .slice none 0 0], .agg #[.int .i64 r, .int .i64 n, .int .i64 0], .bool false]) (by simp [results, Tryd.results16, go_sem]) rfl ⟨_, ⟨by rw [HO2.out], by rw [HO2.out]; exact ⟨_, _, rfl, SlIn.at (SlIn.mid HS'.out (Mid.ext (HB.out (.cells #[.int .i64 0, .int .u32 0, .slice none 0 0] 51) (.cells #[.int .i64 0, .int .i64 0, .int .i64 0] 53) (.cells #[.int .i64 0, .int .u32 0, .slice none 0 0] 51) (.cells #[.int .i64 r, .int .i64 n, .int .i64 0] 53) f f r n r n os d d) (by unfold doneBase; exact (by repeat (first | with_reducible exact Ext.refl _ | with_reducible assumption | with_reducible apply Ext.bothR | with_reducible refine Ext.alloc ?_ _ | with_reducible refine Ext.gr ?_ _ | with_reducible refine Ext.drewN ?_ _ | with_reducible refine Ext.drew ?_ | with_reducible refine Ext.setCell ?_ ?_ _ | with_reducible refine Ext.more ?_ _ _ | (show _ ≤ _; dsimp only; omega))))))⟩⟩, (by repeat (first | with_reducible exact Ext.refl _ | with_reducible assumption | with_reducible refine Ext.alloc ?_ _ | with_reducible refine Ext.gr ?_ _ | with_reducible refine Ext.drewN ?_ _ | with_reducible refine Ext.drew ?_ | with_reducible refine Ext.setCell ?_ ?_ _ | with_reducible refine Ext.more ?_ _ _ | (show _ ≤ _; dsimp only; omega)))⟩)
        · have HO2 := Lib.hid (HO'.out.trans (gateRun_done m L' r n HE.out (by rw [← HA.out]; exact h4)))
          clear HO'
          go_wp2_with (go_at_call 9; refine (gateNext_any c f HF.out _ (Tab.ext HT.out (by repeat (first | with_reducible exact Ext.refl _ | with_reducible assumption | with_reducible refine Ext.alloc ?_ _ | with_reducible refine Ext.gr ?_ _ | with_reducible refine Ext.drewN ?_ _ | with_reducible refine Ext.drew ?_ | with_reducible refine Ext.setCell ?_ ?_ _ | with_reducible refine Ext.more ?_ _ _ | (show _ ≤ _; dsimp only; omega))))).mono ?_; rintro e w1 ⟨rfl, os1, n1, rfl⟩; rw [HE.out, HN.out])
          go_region
          all_goals go_wp2
          all_goals (refine bodyPost_ret (v := .tuple #[.slice ad' L'.length cap', .agg #[.int .i64 A.code, .int .u32 A.v', .slice none 0 0], .agg #[.int .i64 r, .int .i64 n, .int .i64 0], .bool true]) (by simp [results, Tryd.results16, go_sem]) rfl ⟨_, ⟨by rw [HO2.out, ← HA.out], by rw [HO2.out]; exact ⟨_, _, rfl, SlIn.at (SlIn.mid HS'.out (Mid.ext (HB.out (.cells #[.int .i64 0, .int .u32 0, .slice none 0 0] 51) (.cells #[.int .i64 0, .int .i64 0, .int .i64 0] 53) (.cells #[.int .i64 A.code, .int .u32 A.v', .slice none 0 0] 51) (.cells #[.int .i64 r, .int .i64 n, .int .i64 0] 53) f f r n r n os d d) (by unfold doneBase; exact (by repeat (first | with_reducible exact Ext.refl _ | with_reducible assumption | with_reducible apply Ext.bothR | with_reducible refine Ext.alloc ?_ _ | with_reducible refine Ext.gr ?_ _ | with_reducible refine Ext.drewN ?_ _ | with_reducible refine Ext.drew ?_ | with_reducible refine Ext.setCell ?_ ?_ _ | with_reducible refine Ext.more ?_ _ _ | (show _ ≤ _; dsimp only; omega))))))⟩⟩, (by repeat (first | with_reducible exact Ext.refl _ | with_reducible assumption | with_reducible refine Ext.alloc ?_ _ | with_reducible refine Ext.gr ?_ _ | with_reducible refine Ext.drewN ?_ _ | with_reducible refine Ext.drew ?_ | with_reducible refine Ext.setCell ?_ ?_ _ | with_reducible refine Ext.more ?_ _ _ | (show _ ≤ _; dsimp only; omega)))⟩)
end Go.Proofs.YtaijkpfgnlkppaaDoor
