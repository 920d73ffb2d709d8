/- The walk of 'done', layer 'branch'. -/
import Derived.Test.YtmbodooikfmegaaDoorBr4
import Derived.Test.YtmbodooikfmegaaDoorBr8
import Derived.Test.YtmbodooikfmegaaDoorBrD
import Derived.Test.YtmbodooikfmegaaDoorA5
import Derived.Test.YtmbodooikfmegaaDoorStart
import Derived.Deep.LoopGhost
import Derived.Deep.RegionHeld3
import Derived.Outline
namespace Go.Proofs.YtmbodooikfmegaaDoor
open Go Go.RowKit
set_option maxRecDepth 100000
set_option maxHeartbeats 8000000

theorem info_cel : (Tryd.prog.info? 37).map (fun i => (i.zero, i.size, i.bytes)) = some (some (.agg #[.int .u64 0, .int .u64 0, .int .u64 0, .int .u64 0]), 4, 32) := by kernel_rfl
theorem info_int : (Tryd.prog.info? 3).map (fun i => (i.zero, i.size, i.bytes)) = some (some (.int .i64 0), 1, 8) := by kernel_rfl
abbrev offV (t : List Int) : List Value := t.map (Value.int .i64)

def doneBase (w : World) (c : Cfg) (o : Opn) (x1 y1 R : Obj) (f : Frm) : World :=
  (((((w.alloc (.cells #[.int .u8 c.object, .int .i64 c.instances, .int .i64 c.threads, .int .u8 c.kind, .int .i64 c.stripes, .int .i64 c.bits, .int .i64 c.cap, .int .i64 c.node, .int .i64 c.batch, .int .i64 c.chunk, .int .u64 c.limit, .int .u64 c.most] 24)).alloc
    (.cells #[.int .u8 o.kind, .int .u32 o.a, .int .u32 o.b, .int .u32 o.c] 47)).alloc
    R).alloc x1).alloc y1).alloc
    (.cells #[.int .u8 f.kind, .int .u32 f.a, .int .u32 f.b, .int .u8 f.pc, .int .u8 f.i, .int .u8 f.j, .int .u8 f.n, .int .u8 f.p, .int .u8 f.h, .int .u32 f.x, .int .u32 f.y] 27)
theorem base_size (w : World) (c : Cfg) (o : Opn) (x1 y1 R : Obj) (f : Frm) : (doneBase w c o x1 y1 R f).heap.size = w.heap.size + 6 := by simp [doneBase, go_sem]
theorem base_facts (w : World) (c : Cfg) (o : Opn) (x1 y1 R : Obj) (f : Frm) {W : World} (e : Ext (doneBase w c o x1 y1 R f) W) : Holds W ([(w.heap.size, 0, .int .u8 c.object), (w.heap.size, 1, .int .i64 c.instances), (w.heap.size, 2, .int .i64 c.threads), (w.heap.size, 3, .int .u8 c.kind), (w.heap.size, 4, .int .i64 c.stripes), (w.heap.size, 5, .int .i64 c.bits), (w.heap.size, 6, .int .i64 c.cap), (w.heap.size, 7, .int .i64 c.node), (w.heap.size, 8, .int .i64 c.batch), (w.heap.size, 9, .int .i64 c.chunk), (w.heap.size, 10, .int .u64 c.limit), (w.heap.size, 11, .int .u64 c.most)] ++ [(w.heap.size + 1 + 1 + 1 + 1 + 1, 0, .int .u8 f.kind), (w.heap.size + 1 + 1 + 1 + 1 + 1, 1, .int .u32 f.a), (w.heap.size + 1 + 1 + 1 + 1 + 1, 2, .int .u32 f.b), (w.heap.size + 1 + 1 + 1 + 1 + 1, 3, .int .u8 f.pc), (w.heap.size + 1 + 1 + 1 + 1 + 1, 4, .int .u8 f.i), (w.heap.size + 1 + 1 + 1 + 1 + 1, 5, .int .u8 f.j), (w.heap.size + 1 + 1 + 1 + 1 + 1, 6, .int .u8 f.n), (w.heap.size + 1 + 1 + 1 + 1 + 1, 7, .int .u8 f.p), (w.heap.size + 1 + 1 + 1 + 1 + 1, 8, .int .u8 f.h), (w.heap.size + 1 + 1 + 1 + 1 + 1, 9, .int .u32 f.x), (w.heap.size + 1 + 1 + 1 + 1 + 1, 10, .int .u32 f.y)]) := by
  refine Holds.ext ?_ e
  rw [holds_iff]
  simp [doneBase, go_sem]
theorem base_mid (w : World) (c : Cfg) (o : Opn) (x1 y1 R R' : Obj) (f f' : Frm) (os : Array Obj) (d d' : Nat) :
    Mid w.heap.size (w.heap.size + 6) (grew (doneBase w c o x1 y1 R f) os d) (grew (doneBase w c o x1 y1 R' f') os d') := by
  have hz := base_size w c o x1 y1 R f
  rw [← hz]
  have e1 : Ext w (doneBase w c o x1 y1 R f) := by unfold doneBase; exact EX
  have e2 : Ext w (doneBase w c o x1 y1 R' f') := by unfold doneBase; exact EX
  exact mid_grew (by simp [doneBase, go_sem]) (fun k hk => (ext_heap e2 hk).trans (ext_heap e1 hk).symm) os d d'
/-- The block of a slice of cells: none of the call's own, and not the offsets'. -/
def Off (w : World) (v : Value) (b : Nat) : Prop := (b < w.heap.size ∨ w.heap.size + 6 ≤ b) ∧ some b ≠ v.ownBlock
theorem base_no {w : World} {c : Cfg} {o : Opn} {x1 y1 R R' : Obj} {f f' : Frm} {os : Array Obj} {d d' : Nat} {v : Value} {ad : Option Addr} {n cap : Nat} {cs : List Value}
    (h : SlNo (Off w v) (grew (doneBase w c o x1 y1 R f) os d) ad n cap cs) : SlNo (Off w v) (grew (doneBase w c o x1 y1 R' f') os d') ad n cap cs :=
  h.to fun _ _ _ hs hc => ⟨hs, base_mid w c o x1 y1 R R' f f' os d d' _ _ _ hs.1 hc⟩
theorem base_own {w : World} {c : Cfg} {o : Opn} {x1 y1 R R' : Obj} {f f' : Frm} {os : Array Obj} {d d' : Nat} {v : Value} {n : Nat} {xs : List Value}
    (h : (grew (doneBase w c o x1 y1 R f) os d).ownsRow (w.heap.size + 6) 3 1 v n xs) : (grew (doneBase w c o x1 y1 R' f') os d').ownsRow (w.heap.size + 6) 3 1 v n xs :=
  own_of h fun g hg _ => heap_grew_ge (by rw [base_size, base_size]) os d d' (by rw [base_size]; exact hg)

def DonePost (w : World) (O : OutB) (e : Ending) (w' : World) : Prop :=
  ∃ ad cap v, e = .returned (.tuple #[.slice ad O.cells.length cap, .agg #[.int .i64 O.code, .int .u32 O.word, .slice none 0 0], v, .bool O.ok]) ∧
    SlAt w' ad O.cells.length cap (celCells O.cells) ∧ SlB w.heap.size w' v O.offs.length (offV O.offs) ∧ Ext w w'
theorem done_post {w : World} {c : Cfg} {o : Opn} {x1 y1 R R' : Obj} {f f' : Frm} {os : Array Obj} {d : Nat} {v : Value} {ad : Option Addr} {cap : Nat} {L : List Cel} {t : List Int} {O : OutB} {W : World} {code word : Int} {ok : Bool}
    (hO : O = ⟨L, code, word, t, ok⟩) (h1 : SlNo (Off w v) (grew (doneBase w c o x1 y1 R f) os d) ad L.length cap (celCells L))
    (h2 : (grew (doneBase w c o x1 y1 R f) os d).ownsRow (w.heap.size + 6) 3 1 v t.length (offV t)) (hW : Ext (grew (doneBase w c o x1 y1 R' f') os d) W) :
    DonePost w O (.returned (.tuple #[.slice ad L.length cap, .agg #[.int .i64 code, .int .u32 word, .slice none 0 0], v, .bool ok])) W := by
  subst hO
  refine ⟨ad, cap, v, rfl, ((base_no h1).ext hW).at, own_slB (own_ext (base_own h2) hW) (by omega), ?_⟩
  refine Ext.trans ?_ hW
  unfold doneBase
  exact EX


theorem one_new {w : World} {b : Nat} {x : Value} (h : w.cell? ⟨b, 0, none⟩ = some x) : ∀ (j : Nat) (u : Value), [x][j]? = some u → w.cell? ((⟨b, 0, none⟩ : Addr).add j) = some u := by
  intro j u hu
  cases j with
  | zero =>
    simp at hu
    subst hu
    exact h
  | succ j => simp at hu
theorem done_any (c : Cfg) (o : Opn) (ho : o.Fits) (L : List Cel) (hL : CelsFit L) (v : Value) (w : World) (ht : Tab w) (hs : Sl w v L.length (celCells L)) (hlen : L.length ≤ 1000) :
    Calls Tryd.prog 16 #[c.v, v, o.v] w (DonePost w (brRun c 200 (startF o) L [])) := by
  obtain ⟨O, hO⟩ : ∃ O, O = brRun c 200 (startF o) L [] := ⟨_, rfl⟩
  rw [← hO]
  have HO := Lib.hid hO
  obtain ⟨ad, cap, rfl, hs⟩ := hs
  have HS := Lib.hid hs
  have HT := Lib.hid ht
  clear hO hs ht
  go_enter Tryd.func16, Tryd.ntmps16
  go_wp2_with (go_at_call 15; refine (regStart_any o _).mono ?_; rintro e w1 ⟨rfl, x1, y1, rfl⟩)
  go_loopg [1, 11, 12] 200 (fun gk t1 t11 t12 wr => ∃ (f : Frm) (L : List Cel) (t : List Int) (ad : Option Addr) (cap : Nat), gk ≤ 200 ∧ t1 = .slice ad L.length cap ∧ t12 = .int .i64 (200 - (gk : Int)) ∧ f.Fits ∧ CelsFit L ∧ L.length ≤ 1000 ∧ t.length + gk = 200 ∧ Hid (O = brRun c gk f L t) ∧
    Hid (SlNo (Off w t11) wr ad L.length cap (celCells L)) ∧ Hid (wr.ownsRow (w.heap.size + 6) 3 1 t11 t.length (offV t)) ∧ Ext (doneBase w c o x1 y1 (.cells #[.int .i64 0, .int .u32 0, .slice none 0 0] 51) f) wr)
  case atStart =>
    refine ⟨startF o, L, [], ad, cap, Nat.le_refl _, rfl, by go_num, startF_fits ho, hL, hlen, rfl, HO, Lib.hid (SlAt.no HS.out fun b i v hc => ⟨⟨Or.inl (World.block_lt_of_cell? w ⟨b, i, none⟩ hc), by intro h; cases h⟩, ext_cell EX hc⟩), Lib.hid (own_nil _ _ _ _), ?_⟩
    unfold doneBase
    exact Ext.refl _
  case round =>
    obtain ⟨f, L', t, ad', cap', hk, rfl, rfl, hf, hL', hlen', htn, HO', HS', HW', os, d, hw⟩ := hrel
    unfold doneBase at hw
    subst hw
    have HF := Lib.hid hf
    have HL := Lib.hid hL'
    clear hf hL' HO HS hL hlen ho
    cases gk with
    | zero =>
      have HO2 := Lib.hid (HO'.out.trans (brRun_zero c f L' t))
      clear HO'
      go_wp2
      refine bodyPost_ret (v := .tuple #[.slice ad' L'.length cap', .agg #[.int .i64 0, .int .u32 0, .slice none 0 0], u11, .bool false]) (by simp [results, Tryd.results16, go_sem]) rfl ?_
      exact (done_post (c := c) (o := o) (x1 := x1) (y1 := y1) (R := (.cells #[.int .i64 0, .int .u32 0, .slice none 0 0] 51)) (f := f) (R' := (.cells #[.int .i64 0, .int .u32 0, .slice none 0 0] 51)) (f' := f) HO2.out HS'.out HW'.out (by unfold doneBase; exact EXX))
    | succ m =>
      obtain ⟨A, hA⟩ : ∃ A, A = brStep f := ⟨_, rfl⟩
      cases hE : (brErr c f == 0)
      · have HN : Hid (brNextA c f = zeroAct) := Lib.hid (by simp [brNextA, hE])
        obtain ⟨E, hE1⟩ : ∃ E, brErr c f = E := ⟨_, rfl⟩
        have hE2 : (E != 0) = true := by rw [← hE1]; simpa using hE
        have HE1 := Lib.hid hE1
        have HO2 := Lib.hid (HO'.out.trans (brRun_bad m L' t hE))
        clear hE hE1 HO' hA
        go_wp2_with (go_at_call 9; refine (brNext_any c f HF.out _ (Tab.ext HT.out EX)).mono ?_; rintro e w1 ⟨rfl, os1, n1, rfl⟩; rw [HN.out, HE1.out])
        refine bodyPost_ret (v := .tuple #[.slice ad' L'.length cap', .agg #[.int .i64 0, .int .u32 0, .slice none 0 0], u11, .bool false]) (by simp [results, Tryd.results16, go_sem]) rfl ?_
        exact (done_post (c := c) (o := o) (x1 := x1) (y1 := y1) (R := (.cells #[.int .i64 0, .int .u32 0, .slice none 0 0] 51)) (f := f) (R' := (.cells #[.int .i64 0, .int .u32 0, .slice none 0 0] 51)) (f' := f) HO2.out HS'.out HW'.out (by unfold doneBase; exact EXX))
      · have HE : Hid (brErr c f = 0) := Lib.hid (by simpa using hE)
        have HN : Hid (brNextA c f = A) := Lib.hid (by rw [hA]; simp [brNextA, hE])
        have HE1 := HE
        have HA := Lib.hid hA
        clear hE hA
        cases h4 : (A.kind == 4)
        · by_cases hat : 0 ≤ A.at' ∧ A.at' < L'.length
          · obtain ⟨ha0, ha1⟩ := hat
            obtain ⟨i1, hi, hz0, hz1, hz2⟩ := info_parts info_int
            have HI1 := Lib.hid (And.intro hi (And.intro hz0 (And.intro hz1 hz2)))
            clear hi hz0 hz1 hz2
            have HWU := HW'
            have HGB : Hid (∀ k, u11.ownBlock = some k → w.heap.size + 6 ≤ k ∧ k < w.heap.size + 6 + cnt os) := Lib.hid fun k hk => by
              have := own_block HW'.out hk
              simp [go_sem] at this
              omega
            cases h2 : (A.kind == 2)
            · obtain ⟨b, o', rfl, hb, hc⟩ := HS'.out.cel ha0 ha1
              obtain ⟨l, hl⟩ : ∃ l, l = L'.getD A.at'.toNat ⟨0, 0, 0, 0⟩ := ⟨_, rfl⟩
              rw [← hl] at hc
              have HLF : Hid l.Fits := Lib.hid (by rw [hl]; exact HL.out.get _)
              have HO2 : Hid (O = brRun c m (brAfterA c f l) L' (t ++ [A.at'])) := Lib.hid (HO'.out.trans (by rw [hl, HA.out]; exact brRun_read m L' t HE.out (by rw [← HA.out]; exact h4) (by rw [← HA.out]; exact ha0) (by rw [← HA.out]; exact ha1) (by rw [← HA.out]; exact h2)))
              have HC := Lib.hid hc
              have HBB := Lib.hid hb
              have HSU := HS'
              clear hc hb hl HO'
              go_wp2_with (first | (go_at_call 9; refine (brNext_any c f HF.out _ (Tab.ext HT.out EX)).mono ?_; rintro e w1 ⟨rfl, os1, n1, rfl⟩; rw [HN.out, HE1.out]) | (at_builtin; refine wpList_append_own_at _ rfl _ _ 52 rfl (w.heap.size + 6) 3 i1 (.int .i64 0) 1 8 Tryd.underlying52 HI1.out.1 HI1.out.2.1 HI1.out.2.2.1 HI1.out.2.2.2 rfl (by decide) u11 t.length (offV t) (by rfl) (by exact own_ext HWU.out EXX) _ 1 1 [.int .i64 A.at'] (by rfl) (by rfl) (by exact one_new (by simp [go_sem])) (by simp [Value.oneCell']) (by unfold maxLen; omega) (by omega) (by simp [go_sem]; omega) ?_; intro v2 w2 hown2 hgrow2 _ hat2; have HO3 := Lib.hid hown2; have HG2 := Lib.hid hgrow2; have HAT2 := Lib.hid hat2; clear hown2 hgrow2 hat2))
              refine wp_gen (fun W => Ext (doneBase w c o x1 y1 (.cells #[.int .i64 0, .int .u32 0, .slice none 0 0] 51) f) W ∧ SlNo (Off w v2) W (some ⟨b, o', none⟩) L'.length cap' (celCells L') ∧ W.ownsRow (w.heap.size + 6) 3 1 v2 (t ++ [A.at']).length (offV (t ++ [A.at'])) ∧
                Holds W (([(w.heap.size, 0, .int .u8 c.object), (w.heap.size, 1, .int .i64 c.instances), (w.heap.size, 2, .int .i64 c.threads), (w.heap.size, 3, .int .u8 c.kind), (w.heap.size, 4, .int .i64 c.stripes), (w.heap.size, 5, .int .i64 c.bits), (w.heap.size, 6, .int .i64 c.cap), (w.heap.size, 7, .int .i64 c.node), (w.heap.size, 8, .int .i64 c.batch), (w.heap.size, 9, .int .i64 c.chunk), (w.heap.size, 10, .int .u64 c.limit), (w.heap.size, 11, .int .u64 c.most)] ++ [(w.heap.size + 1 + 1 + 1 + 1 + 1, 0, .int .u8 f.kind), (w.heap.size + 1 + 1 + 1 + 1 + 1, 1, .int .u32 f.a), (w.heap.size + 1 + 1 + 1 + 1 + 1, 2, .int .u32 f.b), (w.heap.size + 1 + 1 + 1 + 1 + 1, 3, .int .u8 f.pc), (w.heap.size + 1 + 1 + 1 + 1 + 1, 4, .int .u8 f.i), (w.heap.size + 1 + 1 + 1 + 1 + 1, 5, .int .u8 f.j), (w.heap.size + 1 + 1 + 1 + 1 + 1, 6, .int .u8 f.n), (w.heap.size + 1 + 1 + 1 + 1 + 1, 7, .int .u8 f.p), (w.heap.size + 1 + 1 + 1 + 1 + 1, 8, .int .u8 f.h), (w.heap.size + 1 + 1 + 1 + 1 + 1, 9, .int .u32 f.x), (w.heap.size + 1 + 1 + 1 + 1 + 1, 10, .int .u32 f.y)]) ++ ([(w.heap.size + 1 + 1 + 1 + 1 + 1 + 1 + cnt (both os os1), 1, .int .i64 A.at')] ++ [(b, o' + A.at'.toNat * 4, .int .u64 l.tag), (b, o' + A.at'.toNat * 4 + 1, .int .u64 l.a), (b, o' + A.at'.toNat * 4 + 2, .int .u64 l.b), (b, o' + A.at'.toNat * 4 + 3, .int .u64 l.c)]))) ?_ ?_
              · have e1 : Ext (doneBase w c o x1 y1 (.cells #[.int .i64 0, .int .u32 0, .slice none 0 0] 51) f) w2 := ext_grown (by unfold doneBase; exact EX) HG2.out (fun k hk => by rw [base_size]; exact (HGB.out k hk).1)
                refine ⟨e1, HSU.out.to fun b' i' u hs hc' => ⟨⟨hs.1, ?_⟩, HG2.out.cell (ext_cell EXX hc') hs.2⟩, by simpa using HO3.out, (base_facts w c o x1 y1 (.cells #[.int .i64 0, .int .u32 0, .slice none 0 0] 51) f e1).app (Holds.app ?_ ?_)⟩
                · intro e
                  rcases HAT2.out with h | h
                  · exact hs.2 (e.trans h)
                  · rw [h] at e
                    cases e
                    exact absurd (World.block_lt_of_cell? _ ⟨_, i', none⟩ (ext_cell EXX hc')) (Nat.lt_irrefl _)
                · refine HG2.out.cell (a := ⟨_, 1, none⟩) (by simp [go_sem]) fun e => ?_
                  have := (HGB.out _ e.symm).2
                  simp only [cnt_both] at this
                  omega
                · exact CelAt.holds ⟨HG2.out.cell (ext_cell EXX HC.out.1) HBB.out.2, HG2.out.cell (ext_cell EXX HC.out.2.1) HBB.out.2, HG2.out.cell (ext_cell EXX HC.out.2.2.1) HBB.out.2, HG2.out.cell (ext_cell EXX HC.out.2.2.2) HBB.out.2⟩
              clear HG2 HO3 HAT2 HC HBB HSU HWU HGB HS' HW'
              intro W HH
              have HW := Lib.hid (Ext.trans (by unfold doneBase; exact EX) HH.1 : Ext w W)
              have HX := Lib.hid HH.1
              have HS2 := Lib.hid HH.2.1
              have HW2 := Lib.hid HH.2.2.1
              have HK := Lib.hid HH.2.2.2
              clear HH
              go_region_held3 (fun W => W.cell? ⟨w.heap.size, 0, none⟩ = some (.int .u8 c.object) ∧ W.cell? ⟨w.heap.size, 1, none⟩ = some (.int .i64 c.instances) ∧ W.cell? ⟨w.heap.size, 2, none⟩ = some (.int .i64 c.threads) ∧ W.cell? ⟨w.heap.size, 3, none⟩ = some (.int .u8 c.kind) ∧ W.cell? ⟨w.heap.size, 4, none⟩ = some (.int .i64 c.stripes) ∧ W.cell? ⟨w.heap.size, 5, none⟩ = some (.int .i64 c.bits) ∧ W.cell? ⟨w.heap.size, 6, none⟩ = some (.int .i64 c.cap) ∧ W.cell? ⟨w.heap.size, 7, none⟩ = some (.int .i64 c.node) ∧ W.cell? ⟨w.heap.size, 8, none⟩ = some (.int .i64 c.batch) ∧ W.cell? ⟨w.heap.size, 9, none⟩ = some (.int .i64 c.chunk) ∧ W.cell? ⟨w.heap.size, 10, none⟩ = some (.int .u64 c.limit) ∧ W.cell? ⟨w.heap.size, 11, none⟩ = some (.int .u64 c.most) ∧ W.cell? ⟨w.heap.size + 1 + 1 + 1 + 1 + 1, 0, none⟩ = some (.int .u8 f.kind) ∧ W.cell? ⟨w.heap.size + 1 + 1 + 1 + 1 + 1, 1, none⟩ = some (.int .u32 f.a) ∧ W.cell? ⟨w.heap.size + 1 + 1 + 1 + 1 + 1, 2, none⟩ = some (.int .u32 f.b) ∧ W.cell? ⟨w.heap.size + 1 + 1 + 1 + 1 + 1, 3, none⟩ = some (.int .u8 f.pc) ∧ W.cell? ⟨w.heap.size + 1 + 1 + 1 + 1 + 1, 4, none⟩ = some (.int .u8 f.i) ∧ W.cell? ⟨w.heap.size + 1 + 1 + 1 + 1 + 1, 5, none⟩ = some (.int .u8 f.j) ∧ W.cell? ⟨w.heap.size + 1 + 1 + 1 + 1 + 1, 6, none⟩ = some (.int .u8 f.n) ∧ W.cell? ⟨w.heap.size + 1 + 1 + 1 + 1 + 1, 7, none⟩ = some (.int .u8 f.p) ∧ W.cell? ⟨w.heap.size + 1 + 1 + 1 + 1 + 1, 8, none⟩ = some (.int .u8 f.h) ∧ W.cell? ⟨w.heap.size + 1 + 1 + 1 + 1 + 1, 9, none⟩ = some (.int .u32 f.x) ∧ W.cell? ⟨w.heap.size + 1 + 1 + 1 + 1 + 1, 10, none⟩ = some (.int .u32 f.y) ∧ W.cell? ⟨w.heap.size + 1 + 1 + 1 + 1 + 1 + 1 + cnt (both os os1), 1, none⟩ = some (.int .i64 A.at') ∧ W.cell? ⟨b, o' + A.at'.toNat * 4, none⟩ = some (.int .u64 l.tag) ∧ W.cell? ⟨b, o' + A.at'.toNat * 4 + 1, none⟩ = some (.int .u64 l.a) ∧ W.cell? ⟨b, o' + A.at'.toNat * 4 + 2, none⟩ = some (.int .u64 l.b) ∧ W.cell? ⟨b, o' + A.at'.toNat * 4 + 3, none⟩ = some (.int .u64 l.c))
                (exact HK.out.ext EX)
                (first | (go_at_call 11; refine (brAfter_any c f l HF.out HLF.out _ (Tab.ext (Tab.ext HT.out HW.out) EX)).mono ?_; rintro e w3 ⟨rfl, os3, n3, rfl⟩; rw [HE.out]))
              all_goals
                have hX := HX.out
                clear HX HW HK
                unfold doneBase at hX
                obtain ⟨os', d', rfl⟩ := hX
                go_wp2
                go_roundg m
                case measure => omega
                case rel =>
                  refine ⟨brAfterA c f l, L', t ++ [A.at'], _, _, by omega, rfl, by go_num, brAfter_fits HF.out HE.out, HL.out, hlen', by simp; omega, HO2, Lib.hid (SlNo.ext (base_no (c := c) (o := o) (x1 := x1) (y1 := y1) (R := (.cells #[.int .i64 0, .int .u32 0, .slice none 0 0] 51)) (R' := (.cells #[.int .i64 0, .int .u32 0, .slice none 0 0] 51)) (f := f) (f' := brAfterA c f l) (os := os') (d := d') (d' := d') HS2.out) (by unfold doneBase; exact EXX)), Lib.hid (own_ext (base_own (c := c) (o := o) (x1 := x1) (y1 := y1) (R := (.cells #[.int .i64 0, .int .u32 0, .slice none 0 0] 51)) (R' := (.cells #[.int .i64 0, .int .u32 0, .slice none 0 0] 51)) (f := f) (f' := brAfterA c f l) (os := os') (d := d') (d' := d') HW2.out) (by unfold doneBase; exact EXX)), ?_⟩
                  unfold doneBase
                  exact EX
            · obtain ⟨b, o', rfl, hc⟩ := HS'.out.at.pos (by omega)
              obtain ⟨l, hl⟩ : ∃ l, l = Cel.mk 0 A.a A.b A.c := ⟨_, rfl⟩
              have HLF : Hid l.Fits := Lib.hid (by rw [hl, HA.out]; exact brStep_fits HF.out)
              have HO2 : Hid (O = brRun c m (brAfterA c f l) (L'.set A.at'.toNat l) (t ++ [A.at'])) := Lib.hid (HO'.out.trans (by rw [hl, HA.out]; exact brRun_write m L' t HE.out (by rw [← HA.out]; exact h4) (by rw [← HA.out]; exact ha0) (by rw [← HA.out]; exact ha1) (by rw [← HA.out]; exact h2)))
              have HLL := Lib.hid hl
              have HC := Lib.hid hc
              clear hc hl HO' HS'
              obtain ⟨i0, hi, hz0, hz1, hz2⟩ := info_parts info_cel
              have HI := Lib.hid (And.intro hi (And.intro hz0 (And.intro hz1 hz2)))
              clear hi hz0 hz1 hz2
              go_wp2_with (first | (go_at_call 9; refine (brNext_any c f HF.out _ (Tab.ext HT.out EX)).mono ?_; rintro e w1 ⟨rfl, os1, n1, rfl⟩; rw [HN.out, HE1.out]) | (at_builtin; refine wpList_append_copy rfl _ _ 45 rfl 37 i0 _ 4 32 Tryd.underlying45 HI.out.1 HI.out.2.1 HI.out.2.2.1 HI.out.2.2.2 _ rfl b o' L'.length cap' (celCells L') rfl (celCells_len L') (fun j u hu => ext_cell EXX (HC.out j u hu)) (celCells_one L') (by omega) (by unfold maxLen; omega) (by omega) ?_; intro C cap2 hC hcap hcap2; obtain ⟨q0, q1, q2, q3, k0, k1, k2, k3, hsz⟩ := cel_in hC ha0 ha1; have HCC := Lib.hid (And.intro hC (And.intro hcap hcap2)); clear hC hcap hcap2) | (at_builtin; refine wpList_append_own_at _ rfl _ _ 52 rfl (w.heap.size + 6) 3 i1 (.int .i64 0) 1 8 Tryd.underlying52 HI1.out.1 HI1.out.2.1 HI1.out.2.2.1 HI1.out.2.2.2 rfl (by decide) u11 t.length (offV t) (by rfl) (by exact own_ext HWU.out EXX) _ 1 1 [.int .i64 A.at'] (by rfl) (by rfl) (by exact one_new (by simp [go_sem])) (by simp [Value.oneCell']) (by unfold maxLen; omega) (by omega) (by simp [go_sem]; omega) ?_; intro v2 w2 hown2 hgrow2 _ hat2; have HO3 := Lib.hid hown2; have HG2 := Lib.hid hgrow2; have HAT2 := Lib.hid hat2; clear hown2 hgrow2 hat2))
              have hset : (L'.set A.at'.toNat l).length = L'.length := List.length_set
              have HSET := Lib.hid hset
              clear hset
              refine wp_gen (fun W => Ext (doneBase w c o x1 y1 (.cells #[.int .i64 0, .int .u32 0, .slice none 0 0] 51) f) W ∧ SlNo (Off w v2) W (some ⟨w.heap.size + 1 + 1 + 1 + 1 + 1 + 1 + 1 + 1 + cnt (both os os1), 0, none⟩) (L'.set A.at'.toNat l).length cap2 (celCells (L'.set A.at'.toNat l)) ∧ W.ownsRow (w.heap.size + 6) 3 1 v2 (t ++ [A.at']).length (offV (t ++ [A.at'])) ∧
                Holds W (([(w.heap.size, 0, .int .u8 c.object), (w.heap.size, 1, .int .i64 c.instances), (w.heap.size, 2, .int .i64 c.threads), (w.heap.size, 3, .int .u8 c.kind), (w.heap.size, 4, .int .i64 c.stripes), (w.heap.size, 5, .int .i64 c.bits), (w.heap.size, 6, .int .i64 c.cap), (w.heap.size, 7, .int .i64 c.node), (w.heap.size, 8, .int .i64 c.batch), (w.heap.size, 9, .int .i64 c.chunk), (w.heap.size, 10, .int .u64 c.limit), (w.heap.size, 11, .int .u64 c.most)] ++ [(w.heap.size + 1 + 1 + 1 + 1 + 1, 0, .int .u8 f.kind), (w.heap.size + 1 + 1 + 1 + 1 + 1, 1, .int .u32 f.a), (w.heap.size + 1 + 1 + 1 + 1 + 1, 2, .int .u32 f.b), (w.heap.size + 1 + 1 + 1 + 1 + 1, 3, .int .u8 f.pc), (w.heap.size + 1 + 1 + 1 + 1 + 1, 4, .int .u8 f.i), (w.heap.size + 1 + 1 + 1 + 1 + 1, 5, .int .u8 f.j), (w.heap.size + 1 + 1 + 1 + 1 + 1, 6, .int .u8 f.n), (w.heap.size + 1 + 1 + 1 + 1 + 1, 7, .int .u8 f.p), (w.heap.size + 1 + 1 + 1 + 1 + 1, 8, .int .u8 f.h), (w.heap.size + 1 + 1 + 1 + 1 + 1, 9, .int .u32 f.x), (w.heap.size + 1 + 1 + 1 + 1 + 1, 10, .int .u32 f.y)]) ++ ([(w.heap.size + 1 + 1 + 1 + 1 + 1 + 1 + cnt (both os os1), 1, .int .i64 A.at')] ++ [(w.heap.size + 1 + 1 + 1 + 1 + 1 + 1 + 1 + 1 + cnt (both os os1), A.at'.toNat * 4, .int .u64 l.tag), (w.heap.size + 1 + 1 + 1 + 1 + 1 + 1 + 1 + 1 + cnt (both os os1), A.at'.toNat * 4 + 1, .int .u64 l.a), (w.heap.size + 1 + 1 + 1 + 1 + 1 + 1 + 1 + 1 + cnt (both os os1), A.at'.toNat * 4 + 2, .int .u64 l.b), (w.heap.size + 1 + 1 + 1 + 1 + 1 + 1 + 1 + 1 + cnt (both os os1), A.at'.toNat * 4 + 3, .int .u64 l.c)]))) ?_ ?_
              · have e1 : Ext (doneBase w c o x1 y1 (.cells #[.int .i64 0, .int .u32 0, .slice none 0 0] 51) f) w2 := ext_grown (by unfold doneBase; exact EX) HG2.out (fun k hk => by rw [base_size]; exact (HGB.out k hk).1)
                have hS : SlNo (Off w v2) w2 (some ⟨w.heap.size + 1 + 1 + 1 + 1 + 1 + 1 + 1 + 1 + cnt (both os os1), 0, none⟩) (L'.set A.at'.toNat l).length cap2 (celCells (L'.set A.at'.toNat l)) := by
                  refine ⟨by rw [HSET.out]; exact HCC.out.2.1, HCC.out.2.2, Or.inr ⟨_, _, rfl, fun j u hu => ⟨⟨Or.inr (by omega), ?_⟩, ?_⟩⟩⟩
                  · intro e
                    rcases HAT2.out with h | h
                    · have := (HGB.out _ (h.symm.trans e.symm)).2
                      simp only [cnt_both] at this
                      omega
                    · rw [h] at e
                      simp [go_sem] at e
                      try omega
                  · refine HG2.out.cell (a := ⟨_, _, none⟩) ?_ fun e => ?_
                    · have hj := cel_set_in HCC.out.1 A.at'.toNat l j u hu
                      rw [HLL.out] at hj
                      simp only [Nat.zero_add]
                      simp [go_sem]
                      exact hj
                    · have := (HGB.out _ e.symm).2
                      simp only [cnt_both] at this
                      omega
                refine ⟨e1, hS, by simpa using HO3.out, (base_facts w c o x1 y1 (.cells #[.int .i64 0, .int .u32 0, .slice none 0 0] 51) f e1).app (Holds.app ?_ ?_)⟩
                · refine HG2.out.cell (a := ⟨_, 1, none⟩) (by simp [go_sem]) fun e => ?_
                  have := (HGB.out _ e.symm).2
                  simp only [cnt_both] at this
                  omega
                · obtain ⟨b2, o2, e2, _, hcel⟩ := hS.cel ha0 (by rw [HSET.out]; exact ha1)
                  cases e2
                  rw [Nat.zero_add, show (L'.set A.at'.toNat l).getD A.at'.toNat ⟨0, 0, 0, 0⟩ = l by rw [List.getD_eq_getElem?_getD, List.getElem?_set_self (by omega)]; rfl] at hcel
                  exact hcel.holds
              clear HG2 HO3 HAT2 HC HCC HWU HGB HW' k0 k1 k2 k3 hsz
              intro W HH
              have HW := Lib.hid (Ext.trans (by unfold doneBase; exact EX) HH.1 : Ext w W)
              have HX := Lib.hid HH.1
              have HS2 := Lib.hid HH.2.1
              have HW2 := Lib.hid HH.2.2.1
              have HK := Lib.hid HH.2.2.2
              clear HH
              go_region_held3 (fun W => W.cell? ⟨w.heap.size, 0, none⟩ = some (.int .u8 c.object) ∧ W.cell? ⟨w.heap.size, 1, none⟩ = some (.int .i64 c.instances) ∧ W.cell? ⟨w.heap.size, 2, none⟩ = some (.int .i64 c.threads) ∧ W.cell? ⟨w.heap.size, 3, none⟩ = some (.int .u8 c.kind) ∧ W.cell? ⟨w.heap.size, 4, none⟩ = some (.int .i64 c.stripes) ∧ W.cell? ⟨w.heap.size, 5, none⟩ = some (.int .i64 c.bits) ∧ W.cell? ⟨w.heap.size, 6, none⟩ = some (.int .i64 c.cap) ∧ W.cell? ⟨w.heap.size, 7, none⟩ = some (.int .i64 c.node) ∧ W.cell? ⟨w.heap.size, 8, none⟩ = some (.int .i64 c.batch) ∧ W.cell? ⟨w.heap.size, 9, none⟩ = some (.int .i64 c.chunk) ∧ W.cell? ⟨w.heap.size, 10, none⟩ = some (.int .u64 c.limit) ∧ W.cell? ⟨w.heap.size, 11, none⟩ = some (.int .u64 c.most) ∧ W.cell? ⟨w.heap.size + 1 + 1 + 1 + 1 + 1, 0, none⟩ = some (.int .u8 f.kind) ∧ W.cell? ⟨w.heap.size + 1 + 1 + 1 + 1 + 1, 1, none⟩ = some (.int .u32 f.a) ∧ W.cell? ⟨w.heap.size + 1 + 1 + 1 + 1 + 1, 2, none⟩ = some (.int .u32 f.b) ∧ W.cell? ⟨w.heap.size + 1 + 1 + 1 + 1 + 1, 3, none⟩ = some (.int .u8 f.pc) ∧ W.cell? ⟨w.heap.size + 1 + 1 + 1 + 1 + 1, 4, none⟩ = some (.int .u8 f.i) ∧ W.cell? ⟨w.heap.size + 1 + 1 + 1 + 1 + 1, 5, none⟩ = some (.int .u8 f.j) ∧ W.cell? ⟨w.heap.size + 1 + 1 + 1 + 1 + 1, 6, none⟩ = some (.int .u8 f.n) ∧ W.cell? ⟨w.heap.size + 1 + 1 + 1 + 1 + 1, 7, none⟩ = some (.int .u8 f.p) ∧ W.cell? ⟨w.heap.size + 1 + 1 + 1 + 1 + 1, 8, none⟩ = some (.int .u8 f.h) ∧ W.cell? ⟨w.heap.size + 1 + 1 + 1 + 1 + 1, 9, none⟩ = some (.int .u32 f.x) ∧ W.cell? ⟨w.heap.size + 1 + 1 + 1 + 1 + 1, 10, none⟩ = some (.int .u32 f.y) ∧ W.cell? ⟨w.heap.size + 1 + 1 + 1 + 1 + 1 + 1 + cnt (both os os1), 1, none⟩ = some (.int .i64 A.at') ∧ W.cell? ⟨w.heap.size + 1 + 1 + 1 + 1 + 1 + 1 + 1 + 1 + cnt (both os os1), A.at'.toNat * 4, none⟩ = some (.int .u64 l.tag) ∧ W.cell? ⟨w.heap.size + 1 + 1 + 1 + 1 + 1 + 1 + 1 + 1 + cnt (both os os1), A.at'.toNat * 4 + 1, none⟩ = some (.int .u64 l.a) ∧ W.cell? ⟨w.heap.size + 1 + 1 + 1 + 1 + 1 + 1 + 1 + 1 + cnt (both os os1), A.at'.toNat * 4 + 2, none⟩ = some (.int .u64 l.b) ∧ W.cell? ⟨w.heap.size + 1 + 1 + 1 + 1 + 1 + 1 + 1 + 1 + cnt (both os os1), A.at'.toNat * 4 + 3, none⟩ = some (.int .u64 l.c))
                (exact HK.out.ext EX)
                (first | (go_at_call 11; refine (brAfter_any c f l HF.out HLF.out _ (Tab.ext (Tab.ext HT.out HW.out) EX)).mono ?_; rintro e w3 ⟨rfl, os3, n3, rfl⟩; rw [HE.out]))
              all_goals
                have hX := HX.out
                clear HX HW HK
                unfold doneBase at hX
                obtain ⟨os', d', rfl⟩ := hX
                go_wp2
                go_roundg m
                case measure => omega
                case rel =>
                  refine ⟨brAfterA c f l, L'.set A.at'.toNat l, t ++ [A.at'], _, _, by omega, by rw [HSET.out], by go_num, brAfter_fits HF.out HE.out, HL.out.set _ HLF.out, by rw [HSET.out]; exact hlen', by simp; omega, HO2, Lib.hid (SlNo.ext (base_no (c := c) (o := o) (x1 := x1) (y1 := y1) (R := (.cells #[.int .i64 0, .int .u32 0, .slice none 0 0] 51)) (R' := (.cells #[.int .i64 0, .int .u32 0, .slice none 0 0] 51)) (f := f) (f' := brAfterA c f l) (os := os') (d := d') (d' := d') HS2.out) (by unfold doneBase; exact EXX)), Lib.hid (own_ext (base_own (c := c) (o := o) (x1 := x1) (y1 := y1) (R := (.cells #[.int .i64 0, .int .u32 0, .slice none 0 0] 51)) (R' := (.cells #[.int .i64 0, .int .u32 0, .slice none 0 0] 51)) (f := f) (f' := brAfterA c f l) (os := os') (d := d') (d' := d') HW2.out) (by unfold doneBase; exact EXX)), ?_⟩
                  unfold doneBase
                  exact EX
          · have HO2 := Lib.hid (HO'.out.trans (brRun_out m L' t HE.out (by rw [← HA.out]; exact h4) (by rw [← HA.out]; exact hat)))
            have hat2 : A.at' < 0 ∨ (L'.length : Int) ≤ A.at' := by omega
            clear HO' hat
            rcases hat2 with hat2 | hat2
            all_goals
              go_wp2_with (go_at_call 9; refine (brNext_any c f HF.out _ (Tab.ext HT.out EX)).mono ?_; rintro e w1 ⟨rfl, os1, n1, rfl⟩; rw [HN.out, HE1.out])
              refine bodyPost_ret (v := .tuple #[.slice ad' L'.length cap', .agg #[.int .i64 0, .int .u32 0, .slice none 0 0], u11, .bool false]) (by simp [results, Tryd.results16, go_sem]) rfl ?_
              exact (done_post (c := c) (o := o) (x1 := x1) (y1 := y1) (R := (.cells #[.int .i64 0, .int .u32 0, .slice none 0 0] 51)) (f := f) (R' := (.cells #[.int .i64 0, .int .u32 0, .slice none 0 0] 51)) (f' := f) HO2.out HS'.out HW'.out (by unfold doneBase; exact EXX))
        · have HO2 := Lib.hid (HO'.out.trans (brRun_done m L' t HE.out (by rw [← HA.out]; exact h4)))
          rw [← HA.out] at HO2
          clear HO'
          go_wp2_with (go_at_call 9; refine (brNext_any c f HF.out _ (Tab.ext HT.out EX)).mono ?_; rintro e w1 ⟨rfl, os1, n1, rfl⟩; rw [HN.out, HE1.out])
          go_region
          all_goals go_wp2
          all_goals (refine bodyPost_ret (v := .tuple #[.slice ad' L'.length cap', .agg #[.int .i64 A.code, .int .u32 A.v', .slice none 0 0], u11, .bool true]) (by simp [results, Tryd.results16, go_sem]) rfl ?_)
          all_goals exact (done_post (c := c) (o := o) (x1 := x1) (y1 := y1) (R := (.cells #[.int .i64 0, .int .u32 0, .slice none 0 0] 51)) (f := f) (R' := (.cells #[.int .i64 A.code, .int .u32 A.v', .slice none 0 0] 51)) (f' := f) HO2.out HS'.out HW'.out (by unfold doneBase; exact EXX))
end Go.Proofs.YtmbodooikfmegaaDoor
