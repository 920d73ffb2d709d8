/- The walk of 'done', layer 'tree'. -/
import Derived.Test.YtkklhhdkokncnaaDoorTreA
import Derived.Test.YtkklhhdkokncnaaDoorTreD
import Derived.Test.YtkklhhdkokncnaaDoorA5
import Derived.Deep.LoopGhost
import Derived.Deep.RegionHeld3
import Derived.Deep.DeepCutAuto
import Derived.Outline
namespace Go.Proofs.YtkklhhdkokncnaaDoor
open Go Go.RowKit
set_option maxRecDepth 100000
set_option maxHeartbeats 8000000

theorem info_cel : (Tryd.prog.info? 37).map (fun i => (i.zero, i.size, i.bytes)) = some (some (.agg #[.int .u64 0, .int .u64 0, .int .u64 0, .int .u64 0]), 4, 32) := by kernel_rfl

theorem info_rw : (Tryd.prog.info? 39).map (fun i => (i.zero, i.size, i.bytes)) = some (some (.agg #[.int .u64 0, .int .u64 0]), 2, 16) := by kernel_rfl
abbrev offV (t : List Int) : List Value := t.map (Value.int .i64)

def doneBase (w : World) (c : Cfg) (o : Opn) (x1 y1 R : Obj) (f : Frm) : World :=
  (((((w.alloc (.cells #[.int .u8 c.object, .int .i64 c.instances, .int .i64 c.threads, .int .u8 c.kind, .int .i64 c.stripes, .int .i64 c.bits, .int .i64 c.cap, .int .i64 c.node, .int .i64 c.batch, .int .i64 c.chunk, .int .u64 c.limit, .int .u64 c.most] 24)).alloc
    (.cells #[.int .u8 o.kind, .int .u32 o.a, .int .u32 o.b, .int .u32 o.c] 54)).alloc
    R).alloc x1).alloc y1).alloc
    (.cells #[.int .u8 f.kind, .int .u32 f.a, .int .u32 f.b, .int .u8 f.pc, .int .u8 f.i, .int .u8 f.j, .int .u8 f.n, .int .u8 f.p, .int .u8 f.h, .int .u32 f.x, .int .u32 f.y] 27)
theorem base_size (w : World) (c : Cfg) (o : Opn) (x1 y1 R : Obj) (f : Frm) : (doneBase w c o x1 y1 R f).heap.size = w.heap.size + 6 := by simp [doneBase, go_sem]
theorem base_facts (w : World) (c : Cfg) (o : Opn) (x1 y1 R : Obj) (f : Frm) {W : World} (e : Ext (doneBase w c o x1 y1 R f) W) : Holds W ([(w.heap.size, 0, .int .u8 c.object), (w.heap.size, 1, .int .i64 c.instances), (w.heap.size, 2, .int .i64 c.threads), (w.heap.size, 3, .int .u8 c.kind), (w.heap.size, 4, .int .i64 c.stripes), (w.heap.size, 5, .int .i64 c.bits), (w.heap.size, 6, .int .i64 c.cap), (w.heap.size, 7, .int .i64 c.node), (w.heap.size, 8, .int .i64 c.batch), (w.heap.size, 9, .int .i64 c.chunk), (w.heap.size, 10, .int .u64 c.limit), (w.heap.size, 11, .int .u64 c.most)] ++ [(w.heap.size + 1 + 1 + 1 + 1 + 1, 0, .int .u8 f.kind), (w.heap.size + 1 + 1 + 1 + 1 + 1, 1, .int .u32 f.a), (w.heap.size + 1 + 1 + 1 + 1 + 1, 2, .int .u32 f.b), (w.heap.size + 1 + 1 + 1 + 1 + 1, 3, .int .u8 f.pc), (w.heap.size + 1 + 1 + 1 + 1 + 1, 4, .int .u8 f.i), (w.heap.size + 1 + 1 + 1 + 1 + 1, 5, .int .u8 f.j), (w.heap.size + 1 + 1 + 1 + 1 + 1, 6, .int .u8 f.n), (w.heap.size + 1 + 1 + 1 + 1 + 1, 7, .int .u8 f.p), (w.heap.size + 1 + 1 + 1 + 1 + 1, 8, .int .u8 f.h), (w.heap.size + 1 + 1 + 1 + 1 + 1, 9, .int .u32 f.x), (w.heap.size + 1 + 1 + 1 + 1 + 1, 10, .int .u32 f.y)]) := by
  refine Holds.ext ?_ e
  rw [holds_iff]
  simp [doneBase, go_sem]
theorem base_mid (w : World) (c : Cfg) (o : Opn) (x1 y1 R R' : Obj) (f f' : Frm) (os : Array Obj) (d d' : Nat) :
    Mid w.heap.size (w.heap.size + 6) (grew (doneBase w c o x1 y1 R f) os d) (grew (doneBase w c o x1 y1 R' f') os d') := by
  have hz := base_size w c o x1 y1 R f
  rw [← hz]
  have e1 : Ext w (doneBase w c o x1 y1 R f) := by unfold doneBase; exact EX
  have e2 : Ext w (doneBase w c o x1 y1 R' f') := by unfold doneBase; exact EX
  exact mid_grew (by simp [doneBase, go_sem]) (fun k hk => (ext_heap e2 hk).trans (ext_heap e1 hk).symm) os d d'
/-- The block of a slice of cells: none of the call's own, and not the offsets', and not the rows'. -/
def Off (w : World) (v r : Value) (b : Nat) : Prop := (b < w.heap.size ∨ w.heap.size + 6 ≤ b) ∧ some b ≠ v.ownBlock ∧ some b ≠ r.ownBlock
theorem base_no {w : World} {c : Cfg} {o : Opn} {x1 y1 R R' : Obj} {f f' : Frm} {os : Array Obj} {d d' : Nat} {v r : Value} {ad : Option Addr} {n cap : Nat} {cs : List Value}
    (h : SlNo (Off w v r) (grew (doneBase w c o x1 y1 R f) os d) ad n cap cs) : SlNo (Off w v r) (grew (doneBase w c o x1 y1 R' f') os d') ad n cap cs :=
  h.to fun _ _ _ hs hc => ⟨hs, base_mid w c o x1 y1 R R' f f' os d d' _ _ _ hs.1 hc⟩
theorem base_own {w : World} {c : Cfg} {o : Opn} {x1 y1 R R' : Obj} {f f' : Frm} {os : Array Obj} {d d' : Nat} {v : Value} {e : TypeId} {s n : Nat} {xs : List Value}
    (h : (grew (doneBase w c o x1 y1 R f) os d).ownsRow (w.heap.size + 6) e s v n xs) : (grew (doneBase w c o x1 y1 R' f') os d').ownsRow (w.heap.size + 6) e s v n xs :=
  own_of h fun g hg _ => heap_grew_ge (by rw [base_size, base_size]) os d d' (by rw [base_size]; exact hg)
theorem own_out {w : World} {base : Nat} {e : TypeId} {size n : Nat} {v : Value} {xs : List Value} (h : w.ownsRow base e size v n xs) {k : Nat} {o : Obj} (hk : w.heap[k]? = some o) (hne : ∀ cur fr, o ≠ .cells cur e fr) : ∀ g, v.ownBlock = some g → g ≠ k := by
  intro g hg e'
  subst e'
  obtain ⟨_, h2⟩ := h
  rcases h2 with ⟨rfl, _⟩ | ⟨g2, cap, cur, rfl, _, hc, _⟩
  · cases hg
  · cases hg
    rw [hk] at hc
    exact hne _ _ (Option.some.inj hc)
theorem own_apart {w : World} {base base' : Nat} {e e' : TypeId} {size size' n n' : Nat} {v v' : Value} {xs xs' : List Value} (h : w.ownsRow base e size v n xs) (h' : w.ownsRow base' e' size' v' n' xs') (hee : e ≠ e') : ∀ g, v.ownBlock = some g → v'.ownBlock ≠ some g := by
  intro g hg hg'
  obtain ⟨_, h2⟩ := h'
  rcases h2 with ⟨rfl, _⟩ | ⟨g2, cap, cur, rfl, _, hc, _⟩
  · cases hg'
  · obtain rfl : g2 = g := by injection hg'
    exact own_out h hc (fun cur' fr e2 => hee (by cases e2; rfl)) g2 hg rfl
theorem own_grown {w w' : World} {r : Option Nat} (h : w.grownBy w' r) {base : Nat} {e : TypeId} {size n : Nat} {v : Value} {xs : List Value} (ho : w.ownsRow base e size v n xs) (hne : ∀ g, r = some g → v.ownBlock ≠ some g) : w'.ownsRow base e size v n xs := by
  obtain ⟨h1, h2⟩ := ho
  refine ⟨h1, ?_⟩
  rcases h2 with h2 | ⟨g, cap, cur, rfl, hg, hc, h3⟩
  · exact Or.inl h2
  · refine Or.inr ⟨g, cap, cur, rfl, hg, ?_, h3⟩
    rw [h.block g (Array.getElem?_eq_some_iff.1 hc).1 (fun e' => hne g e'.symm rfl)]
    exact hc

theorem holds_grown {w w' : World} {r : Option Nat} (h : w.grownBy w' r) {b : Nat} {l : List (Nat × Nat × Value)} (hh : Holds w l) (hl : ∀ x ∈ l, x.1 = b) (hne : some b ≠ r) : Holds w' l := by
  rw [holds_iff] at hh ⊢
  intro x hx
  exact h.cell (a := ⟨x.1, x.2.1, none⟩) (hh x hx) (by rw [hl x hx]; exact hne)
/-- What 'done' leaves. -/
def DonePost (w : World) (O : OutT) (e : Ending) (w' : World) : Prop :=
  ∃ ad cap v r, e = .returned (.tuple #[.slice ad O.cells.length cap, .agg #[.int .i64 O.code, .int .u32 O.word, r], v, .bool O.ok]) ∧
    SlAt w' ad O.cells.length cap (celCells O.cells) ∧ SlB w.heap.size w' v O.offs.length (offV O.offs) ∧ Rws w' r O.rows ∧ Ext w w'
theorem done_post {w : World} {c : Cfg} {o : Opn} {x1 y1 R R' : Obj} {f f' : Frm} {os : Array Obj} {d : Nat} {v r q : Value} {ad : Option Addr} {cap : Nat} {L : List Cel} {t : List Int} {S Z : List Rw} {O : OutT} {W : World} {code word : Int} {ok : Bool}
    (hO : O = ⟨L, code, word, S, t, ok⟩) (h1 : SlNo (Off w v q) (grew (doneBase w c o x1 y1 R f) os d) ad L.length cap (celCells L))
    (h2 : (grew (doneBase w c o x1 y1 R f) os d).ownsRow (w.heap.size + 6) 3 1 v t.length (offV t)) (h3 : (r = .slice none 0 0 ∧ S = []) ∨ (r = q ∧ S = Z ∧ (grew (doneBase w c o x1 y1 R f) os d).ownsRow (w.heap.size + 6) 39 2 q Z.length (rwCells Z)))
    (hW : Ext (grew (doneBase w c o x1 y1 R' f') os d) W) :
    DonePost w O (.returned (.tuple #[.slice ad L.length cap, .agg #[.int .i64 code, .int .u32 word, r], v, .bool ok])) W := by
  subst hO
  refine ⟨ad, cap, v, r, rfl, ((base_no h1).ext hW).at, own_slB (own_ext (base_own h2) hW) (by omega), ?_, ?_⟩
  · rcases h3 with ⟨rfl, rfl⟩ | ⟨rfl, rfl, h3⟩
    · exact Rws.nil W
    · exact own_rws (own_ext (base_own h3) hW)
  · refine Ext.trans ?_ hW
    unfold doneBase
    exact EX
theorem one_at {w : World} {b : Nat} {x : Value} (h : w.cell? ⟨b, 0, none⟩ = some x) : ∀ (j : Nat) (u : Value), [x][j]? = some u → w.cell? ((⟨b, 0, none⟩ : Addr).add j) = some u := by
  intro j u hu
  cases j with
  | zero =>
    simp at hu
    subst hu
    exact h
  | succ j => simp at hu
theorem two_at {w : World} {b : Nat} {x y : Value} (h : w.cell? ⟨b, 0, none⟩ = some x) (h2 : w.cell? ⟨b, 1, none⟩ = some y) : ∀ (j : Nat) (u : Value), [x, y][j]? = some u → w.cell? ((⟨b, 0, none⟩ : Addr).add j) = some u := by
  intro j u hu
  match j, hu with
  | 0, hu => simp at hu; subst hu; exact h
  | 1, hu => simp at hu; subst hu; exact h2
  | j + 2, hu => simp at hu

theorem done_any (c : Cfg) (o : Opn) (ho : o.Fits) (L : List Cel) (hL : CelsFit L) (v : Value) (w : World) (ht : Tab w) (hs : Sl w v L.length (celCells L)) (hlen : L.length ≤ 1000) :
    Calls Tryd.prog 14 #[c.v, v, o.v] w (DonePost w (treRun c 400 (startF o) L [] [])) := by
  obtain ⟨O, hO⟩ : ∃ O, O = treRun c 400 (startF o) L [] [] := ⟨_, rfl⟩
  rw [← hO]
  have HO := Lib.hid hO
  obtain ⟨ad, cap, rfl, hs⟩ := hs
  have HS := Lib.hid hs
  have HT := Lib.hid ht
  clear hO hs ht
  go_enter Tryd.func14, Tryd.ntmps14
  go_wp2_with (go_at_call 23; refine (regStart_any o _).mono ?_; rintro e w1 ⟨rfl, x1, y1, rfl⟩)
  go_loopg [1, 11, 12, 13] 400 (fun gk t1 t11 t12 t13 wr => ∃ (f : Frm) (L : List Cel) (t : List Int) (S : List Rw) (ad : Option Addr) (cap : Nat), gk ≤ 400 ∧ t1 = .slice ad L.length cap ∧ t13 = .int .i64 (400 - (gk : Int)) ∧ f.Fits ∧ CelsFit L ∧ L.length ≤ 1000 ∧ t.length + gk ≤ 400 ∧ S.length + gk ≤ 400 ∧ Hid (O = treRun c gk f L t S) ∧
    Hid (SlNo (Off w t11 t12) wr ad L.length cap (celCells L)) ∧ Hid (wr.ownsRow (w.heap.size + 6) 3 1 t11 t.length (offV t)) ∧ Hid (wr.ownsRow (w.heap.size + 6) 39 2 t12 S.length (rwCells S)) ∧ Ext (doneBase w c o x1 y1 (.cells #[.int .i64 0, .int .u32 0, .slice none 0 0] 49) f) wr)
  case atStart =>
    refine ⟨startF o, L, [], [], ad, cap, Nat.le_refl _, rfl, by go_num, startF_fits ho, hL, hlen, by simp, by simp, HO, Lib.hid (SlAt.no HS.out fun b i v hc => ⟨⟨Or.inl (World.block_lt_of_cell? w ⟨b, i, none⟩ hc), by (intro h; cases h), by (intro h; cases h)⟩, ext_cell EX hc⟩), Lib.hid (own_nil _ _ _ _), Lib.hid (own_nil _ _ _ _), ?_⟩
    unfold doneBase
    exact Ext.refl _
  case round =>
    obtain ⟨f, L', t, S, ad', cap', hk, rfl, rfl, hf, hL', hlen', htn, hsn, HO', HS', HW', HR', os, d, hw⟩ := hrel
    unfold doneBase at hw
    subst hw
    have HF := Lib.hid hf
    have HL := Lib.hid hL'
    clear hf hL' HO HS hL hlen ho
    cases gk with
    | zero =>
      have HO2 := Lib.hid (HO'.out.trans (treRun_zero c f L' t S))
      clear HO'
      go_wp2
      (refine bodyPost_ret (v := .tuple #[.slice ad' L'.length cap', .agg #[.int .i64 0, .int .u32 0, .slice none 0 0], u11, .bool false]) (by simp [results, Tryd.results14, go_sem]) rfl ?_; exact (done_post (c := c) (o := o) (x1 := x1) (y1 := y1) (R := (.cells #[.int .i64 0, .int .u32 0, .slice none 0 0] 49)) (f := f) (R' := (.cells #[.int .i64 0, .int .u32 0, .slice none 0 0] 49)) (f' := f) (q := u12) (Z := S) HO2.out HS'.out HW'.out (Or.inl ⟨rfl, rfl⟩) (by unfold doneBase; exact EXX)))
    | succ m =>
      obtain ⟨A, hA⟩ : ∃ A, A = treStep c f := ⟨_, rfl⟩
      cases hE : (treErr c f == 0)
      · have HN : Hid (treNextA c f = zeroAct) := Lib.hid (by simp [treNextA, hE])
        obtain ⟨E, hE1⟩ : ∃ E, treErr c f = E := ⟨_, rfl⟩
        have hE2 : (E != 0) = true := by rw [← hE1]; simpa using hE
        have HE1 := Lib.hid hE1
        have HO2 := Lib.hid (HO'.out.trans (treRun_bad m L' t S hE))
        clear hE hE1 HO' hA
        go_wp2_with (go_at_call 9; refine (treNext_any c f HF.out _ (Tab.ext HT.out EX)).mono ?_; rintro e w1 ⟨rfl, os1, n1, rfl⟩; rw [HN.out, HE1.out])
        (refine bodyPost_ret (v := .tuple #[.slice ad' L'.length cap', .agg #[.int .i64 0, .int .u32 0, .slice none 0 0], u11, .bool false]) (by simp [results, Tryd.results14, go_sem]) rfl ?_; exact (done_post (c := c) (o := o) (x1 := x1) (y1 := y1) (R := (.cells #[.int .i64 0, .int .u32 0, .slice none 0 0] 49)) (f := f) (R' := (.cells #[.int .i64 0, .int .u32 0, .slice none 0 0] 49)) (f' := f) (q := u12) (Z := S) HO2.out HS'.out HW'.out (Or.inl ⟨rfl, rfl⟩) (by unfold doneBase; exact EXX)))
      · have HE : Hid (treErr c f = 0) := Lib.hid (by simpa using hE)
        have HN : Hid (treNextA c f = A) := Lib.hid (by rw [hA]; simp [treNextA, hE])
        have HE1 := HE
        have HA := Lib.hid hA
        clear hE hA
        cases h4 : (A.kind == 4)
        · by_cases hat : 0 ≤ A.at' ∧ A.at' < L'.length
          · obtain ⟨ha0, ha1⟩ := hat
            obtain ⟨i1, hi, hz0, hz1, hz2⟩ := info_parts info_int
            have HI1 := Lib.hid (And.intro hi (And.intro hz0 (And.intro hz1 hz2)))
            clear hi hz0 hz1 hz2
            obtain ⟨i2, hi, hz0, hz1, hz2⟩ := info_parts info_rw
            have HI2 := Lib.hid (And.intro hi (And.intro hz0 (And.intro hz1 hz2)))
            clear hi hz0 hz1 hz2
            obtain ⟨L2, hL2⟩ : ∃ L2, trePut A L' = L2 := ⟨_, rfl⟩
            have HLEN : Hid (L2.length = L'.length) := Lib.hid (by rw [← hL2]; exact trePut_len A L')
            have HL2F : Hid (CelsFit L2) := Lib.hid (by rw [← hL2, HA.out]; exact trePut_fits HF.out HL.out)
            obtain ⟨l, hl⟩ : ∃ l, L2.getD A.at'.toNat ⟨0, 0, 0, 0⟩ = l := ⟨_, rfl⟩
            have HLF : Hid l.Fits := Lib.hid (by rw [← hl]; exact HL2F.out.get _)
            obtain ⟨G, T, hGT⟩ : ∃ G T, treAfterA c f l = (G, T) := ⟨_, _, rfl⟩
            have HGF : Hid G.Fits := Lib.hid (by have := treAfter_fits HF.out HLF.out HE.out; rw [hGT] at this; exact this)
            obtain ⟨K, hK⟩ : ∃ K, (if T then G.x else 0) = K := ⟨_, rfl⟩
            obtain ⟨U, hU⟩ : ∃ U, (if T then G.y else 0) = U := ⟨_, rfl⟩
            have HZ : Hid (treOutV (treAfterA c f l) (treErr c f) = .tuple #[G.v, .agg #[.int .u64 K, .int .u64 U], .bool T, .int .i64 0]) := Lib.hid (by rw [hGT, HE.out, ← hK, ← hU])
            obtain ⟨t2, ht2⟩ : ∃ t2, treOffs A t = t2 := ⟨_, rfl⟩
            obtain ⟨S2, hS2⟩ : ∃ S2, treRows (G, T) S = S2 := ⟨_, rfl⟩
            have HO2 : Hid (O = treRun c m G L2 t2 S2) := Lib.hid (HO'.out.trans (by rw [treRun_step m L' t S HE.out (by rw [← HA.out]; exact h4) (by rw [← HA.out]; exact ha0) (by rw [← HA.out]; exact ha1), ← HA.out, hL2, hl, hGT, ht2, hS2]))
            have HL2 := Lib.hid hL2
            have HLL := Lib.hid hl
            have HTT := Lib.hid ht2
            have HSS := Lib.hid (And.intro hS2 (And.intro hK hU))
            have hll' : t2.length ≤ t.length + 1 := by rw [← ht2]; unfold treOffs; split <;> simp
            have hss' : S2.length ≤ S.length + 1 := by rw [← hS2]; unfold treRows; split <;> simp
            have HN11 : Hid (∀ k, u11.ownBlock = some k → w.heap.size + 6 ≤ k ∧ k < w.heap.size + 6 + cnt os) := Lib.hid fun k hk => by
              have := own_block HW'.out hk
              simp [go_sem] at this
              omega
            have HN12 : Hid (∀ k, u12.ownBlock = some k → w.heap.size + 6 ≤ k ∧ k < w.heap.size + 6 + cnt os) := Lib.hid fun k hk => by
              have := own_block HR'.out hk
              simp [go_sem] at this
              omega
            obtain ⟨N, hN⟩ : ∃ N, L'.length = N := ⟨_, rfl⟩
            have HNN := Lib.hid hN
            clear hL2 hl hGT hK hU ht2 hS2 HO' HL hN
            go_upto_if 63 with (go_at_call 9; refine (treNext_any c f HF.out _ (Tab.ext HT.out EX)).mono ?_; rintro e w1 ⟨rfl, os1, n1, rfl⟩; rw [HN.out, HE1.out])
            go_cut [1] (fun t1 wn => ∃ ad1 cap1, t1 = .slice ad1 L'.length cap1 ∧ Hid (Ext (doneBase w c o x1 y1 (.cells #[.int .i64 0, .int .u32 0, .slice none 0 0] 49) f) wn) ∧ Hid (SlNo (Off w u11 u12) wn ad1 L'.length cap1 (celCells L2)) ∧ Hid (wn.ownsRow (w.heap.size + 6) 3 1 u11 t.length (offV t)) ∧ Hid (wn.ownsRow (w.heap.size + 6) 39 2 u12 S.length (rwCells S)) ∧ Hid (Holds wn [(w.heap.size + 1 + 1 + 1 + 1 + 1 + 1 + cnt (both os os1), 0, .int .u8 A.kind), (w.heap.size + 1 + 1 + 1 + 1 + 1 + 1 + cnt (both os os1), 1, .int .i64 A.at'), (w.heap.size + 1 + 1 + 1 + 1 + 1 + 1 + cnt (both os os1), 2, .int .u64 A.a), (w.heap.size + 1 + 1 + 1 + 1 + 1 + 1 + cnt (both os os1), 3, .int .u64 A.b), (w.heap.size + 1 + 1 + 1 + 1 + 1 + 1 + cnt (both os os1), 4, .int .u64 A.c), (w.heap.size + 1 + 1 + 1 + 1 + 1 + 1 + cnt (both os os1), 5, .int .i64 A.code), (w.heap.size + 1 + 1 + 1 + 1 + 1 + 1 + cnt (both os os1), 6, .int .u32 A.v')]))
            case first =>
              cases h2 : (A.kind == 2)
              · have e2 : L2 = L' := by rw [← HL2.out]; simp [trePut, h2]
                subst e2
                go_wp2_with fail
                go_meet
                case rel => exact ⟨_, _, rfl, Lib.hid (by unfold doneBase; exact EXX), Lib.hid (HS'.out.ext EXX), Lib.hid (own_ext HW'.out EXX), Lib.hid (own_ext HR'.out EXX), Lib.hid (by rw [holds_iff]; simp [go_sem])⟩
              · have e2 : L2 = L'.set A.at'.toNat ⟨0, A.a, A.b, A.c⟩ := by rw [← HL2.out]; simp [trePut, h2]
                obtain ⟨b, o', rfl, hc⟩ := HS'.out.at.pos (by omega)
                have HC := Lib.hid hc
                have HE2 := Lib.hid e2
                clear hc e2
                obtain ⟨i0, hi, hz0, hz1, hz2⟩ := info_parts info_cel
                have HI := Lib.hid (And.intro hi (And.intro hz0 (And.intro hz1 hz2)))
                clear hi hz0 hz1 hz2
                go_wp2_with (at_builtin; refine wpList_append_copy rfl _ _ 46 rfl 37 i0 _ 4 32 Tryd.underlying46 HI.out.1 HI.out.2.1 HI.out.2.2.1 HI.out.2.2.2 _ rfl b o' L'.length cap' (celCells L') rfl (celCells_len L') (fun j u hu => ext_cell EXX (HC.out j u hu)) (celCells_one L') (by omega) (by unfold maxLen; omega) (by omega) ?_; intro C cap2 hC hcap hcap2; obtain ⟨q0, q1, q2, q3, k0, k1, k2, k3, hsz⟩ := cel_in hC ha0 ha1; have HCC := Lib.hid (And.intro hC (And.intro hcap hcap2)); clear hC hcap hcap2)
                go_meet
                case rel =>
                  refine ⟨some ⟨w.heap.size + 1 + 1 + 1 + 1 + 1 + 1 + 1 + 1 + cnt (both os os1), 0, none⟩, cap2, rfl, Lib.hid (by unfold doneBase; exact EXX), Lib.hid ⟨HCC.out.2.1, HCC.out.2.2, Or.inr ⟨_, _, rfl, fun j u hu => ⟨⟨Or.inr (by omega), ?_, ?_⟩, ?_⟩⟩⟩, Lib.hid (own_ext HW'.out EXX), Lib.hid (own_ext HR'.out EXX), Lib.hid (by rw [holds_iff]; simp [go_sem])⟩
                  · intro e
                    have := (HN11.out _ e.symm).2
                    simp only [cnt_both] at this
                    omega
                  · intro e
                    have := (HN12.out _ e.symm).2
                    simp only [cnt_both] at this
                    omega
                  · have hj := cel_set_in HCC.out.1 A.at'.toNat ⟨0, A.a, A.b, A.c⟩ j u (by rw [← HE2.out]; exact hu)
                    simp only [Nat.zero_add]
                    simp [go_sem]
                    simpa using hj
            case rest =>
              obtain ⟨ad1, cap1, rfl, HX1, HS1, HA1, HR1, HH1⟩ := hcut
              clear HS' HW' HR'
              obtain ⟨ad3, cap3, e3⟩ := own_form HR1.out
              subst e3
              have HWW : Hid (Ext w wc) := Lib.hid (Ext.trans (by unfold doneBase; exact EX) HX1.out)
              obtain ⟨B14, hB14⟩ : ∃ B, w.heap.size + 1 + 1 + 1 + 1 + 1 + 1 + cnt (both os os1) = B := ⟨_, rfl⟩
              have HNA : Hid (some B14 ≠ u11.ownBlock) := Lib.hid fun e => by
                have := (HN11.out _ e.symm).2
                rw [← hB14] at this
                simp only [cnt_both] at this
                omega
              rw [hB14] at HH1
              have K1 := HH1.out
              simp [Holds] at K1
              obtain ⟨K1, K2, _⟩ := K1
              have B1 := World.block_lt_of_cell? _ _ K1
              dsimp only at B1
              have B2 : ∀ n1 : Nat, B14 < wc.heap.size + n1 := by intros; omega
              simp only [hB14]
              clear hB14
              have hwz : w.heap.size + 6 ≤ wc.heap.size := by have := HX1.out.size; rw [base_size] at this; exact this
              go_upto_if 80 with fail
              go_cut [11] (fun t11 wn => ∃ ad2 cap2, t11 = .slice ad2 t2.length cap2 ∧ Hid (Ext (doneBase w c o x1 y1 (.cells #[.int .i64 0, .int .u32 0, .slice none 0 0] 49) f) wn) ∧ Hid (SlNo (Off w (.slice ad2 t2.length cap2) (.slice ad3 S.length cap3)) wn ad1 L'.length cap1 (celCells L2)) ∧ Hid (wn.ownsRow (w.heap.size + 6) 3 1 (.slice ad2 t2.length cap2) t2.length (offV t2)) ∧ Hid (wn.ownsRow (w.heap.size + 6) 39 2 (.slice ad3 S.length cap3) S.length (rwCells S)) ∧ Hid (Holds wn [(B14, 0, .int .u8 A.kind), (B14, 1, .int .i64 A.at'), (B14, 2, .int .u64 A.a), (B14, 3, .int .u64 A.b), (B14, 4, .int .u64 A.c), (B14, 5, .int .i64 A.code), (B14, 6, .int .u32 A.v')]))
              case first =>
                cases h3 : (A.kind == 3)
                · have h3' : (A.kind != 3) = true := by simpa using h3
                  have et : t ++ [A.at'] = t2 := by rw [← HTT.out]; simp [treOffs, h3]
                  have HET := Lib.hid et
                  clear et
                  go_wp2_with (at_builtin; refine wpList_append_own_at _ rfl _ _ 50 rfl (w.heap.size + 6) 3 i1 (.int .i64 0) 1 8 Tryd.underlying50 HI1.out.1 HI1.out.2.1 HI1.out.2.2.1 HI1.out.2.2.2 rfl (by decide) u11 t.length (offV t) (by rfl) (by exact own_ext HA1.out EXX) _ 1 1 [.int .i64 A.at'] (by rfl) (by rfl) (by exact one_at (by simp [go_sem])) (by simp [Value.oneCell']) (by unfold maxLen; omega) (by omega) (by simp [go_sem]; omega) ?_; intro v2 w2 hown2 hgrow2 _ hat2; have HO3 := Lib.hid hown2; have HG2 := Lib.hid hgrow2; have HAT2 := Lib.hid hat2; clear hown2 hgrow2 hat2)
                  go_meet
                  case rel =>
                    have hown3 : w2.ownsRow (w.heap.size + 6) 3 1 v2 t2.length (offV t2) := by
                      rw [← HET.out]
                      simpa using HO3.out
                    obtain ⟨ad2, cap2, rfl⟩ := own_form hown3
                    refine ⟨ad2, cap2, rfl, Lib.hid (ext_grown (Ext.trans HX1.out EXX) HG2.out (fun k hk => by rw [base_size]; exact (own_block HA1.out hk).1)), Lib.hid (HS1.out.to fun b' i' u hs hc' => ⟨⟨hs.1, ?_, hs.2.2⟩, HG2.out.cell (ext_cell EXX hc') hs.2.1⟩), Lib.hid hown3, Lib.hid (own_grown HG2.out (own_ext HR1.out EXX) (own_apart HA1.out HR1.out (by decide))), Lib.hid (holds_grown HG2.out (HH1.out.ext EXX) (by simp) HNA.out)⟩
                    intro e
                    rcases HAT2.out with h | h
                    · exact hs.2.1 (e.trans h)
                    · rw [h] at e
                      cases e
                      exact absurd (World.block_lt_of_cell? _ ⟨_, i', none⟩ (ext_cell EXX hc')) (Nat.lt_irrefl _)
                · have h3' : (A.kind != 3) = false := by simpa using h3
                  have et : t = t2 := by rw [← HTT.out]; simp [treOffs, h3]
                  subst et
                  obtain ⟨ad2, cap2, e4⟩ := own_form HA1.out
                  subst e4
                  go_wp2_with fail
                  go_meet
                  case rel => exact ⟨_, _, rfl, Lib.hid (HX1.out.trans EXX), Lib.hid (HS1.out.ext EXX), Lib.hid (own_ext HA1.out EXX), Lib.hid (own_ext HR1.out EXX), Lib.hid (HH1.out.ext EXX)⟩
              case rest =>
                obtain ⟨ad2, cap2, rfl, HX2, HS2, HA2, HR2, HH2⟩ := hcut
                clear HX1 HS1 HA1 HR1 HH1 K1 K2 B1 B2
                have hs2 := HS2.out
                rw [← HLEN.out] at hs2
                obtain ⟨b, o', e5, hb, hc⟩ := hs2.cel ha0 (by rw [HLEN.out]; exact ha1)
                subst e5
                rw [HLL.out] at hc
                have HW : Hid (Ext w wc) := Lib.hid (Ext.trans (by unfold doneBase; exact EX) HX2.out)
                have k2 : wc.cell? ⟨B14, 1, none⟩ = some (.int .i64 A.at') := by
                  have := HH2.out
                  simp [Holds] at this
                  exact this.2.1
                have HK : Hid (Holds wc (([(w.heap.size, 0, .int .u8 c.object), (w.heap.size, 1, .int .i64 c.instances), (w.heap.size, 2, .int .i64 c.threads), (w.heap.size, 3, .int .u8 c.kind), (w.heap.size, 4, .int .i64 c.stripes), (w.heap.size, 5, .int .i64 c.bits), (w.heap.size, 6, .int .i64 c.cap), (w.heap.size, 7, .int .i64 c.node), (w.heap.size, 8, .int .i64 c.batch), (w.heap.size, 9, .int .i64 c.chunk), (w.heap.size, 10, .int .u64 c.limit), (w.heap.size, 11, .int .u64 c.most)] ++ [(w.heap.size + 1 + 1 + 1 + 1 + 1, 0, .int .u8 f.kind), (w.heap.size + 1 + 1 + 1 + 1 + 1, 1, .int .u32 f.a), (w.heap.size + 1 + 1 + 1 + 1 + 1, 2, .int .u32 f.b), (w.heap.size + 1 + 1 + 1 + 1 + 1, 3, .int .u8 f.pc), (w.heap.size + 1 + 1 + 1 + 1 + 1, 4, .int .u8 f.i), (w.heap.size + 1 + 1 + 1 + 1 + 1, 5, .int .u8 f.j), (w.heap.size + 1 + 1 + 1 + 1 + 1, 6, .int .u8 f.n), (w.heap.size + 1 + 1 + 1 + 1 + 1, 7, .int .u8 f.p), (w.heap.size + 1 + 1 + 1 + 1 + 1, 8, .int .u8 f.h), (w.heap.size + 1 + 1 + 1 + 1 + 1, 9, .int .u32 f.x), (w.heap.size + 1 + 1 + 1 + 1 + 1, 10, .int .u32 f.y)]) ++ ([(B14, 1, .int .i64 A.at')] ++ [(b, o' + A.at'.toNat * 4, .int .u64 l.tag), (b, o' + A.at'.toNat * 4 + 1, .int .u64 l.a), (b, o' + A.at'.toNat * 4 + 2, .int .u64 l.b), (b, o' + A.at'.toNat * 4 + 3, .int .u64 l.c)]))) := Lib.hid ((base_facts w c o x1 y1 (.cells #[.int .i64 0, .int .u32 0, .slice none 0 0] 49) f HX2.out).app (Holds.app (by simpa [Holds] using k2) hc.holds))
                clear hs2 hc k2 HH2 HWW
                have hwz : w.heap.size + 6 ≤ wc.heap.size := by have := HX2.out.size; rw [base_size] at this; exact this
                go_upto_region 19 with fail
                go_cut [16, 17, 18, 19] (fun t16 t17 t18 t19 wn => ∃ b16 b17, t16 = .pointer (some ⟨b16, 0, none⟩) ∧ t17 = .pointer (some ⟨b17, 0, none⟩) ∧ t18 = .bool T ∧ t19 = .int .i64 0 ∧ Hid (Ext (doneBase w c o x1 y1 (.cells #[.int .i64 0, .int .u32 0, .slice none 0 0] 49) f) wn) ∧ Hid (SlNo (Off w (.slice ad2 t2.length cap2) (.slice ad3 S.length cap3)) wn (some ⟨b, o', none⟩) L'.length cap1 (celCells L2)) ∧ Hid (wn.ownsRow (w.heap.size + 6) 3 1 (.slice ad2 t2.length cap2) t2.length (offV t2)) ∧ Hid (wn.ownsRow (w.heap.size + 6) 39 2 (.slice ad3 S.length cap3) S.length (rwCells S)) ∧ Hid (Holds wn [(b16, 0, .int .u8 G.kind), (b16, 1, .int .u32 G.a), (b16, 2, .int .u32 G.b), (b16, 3, .int .u8 G.pc), (b16, 4, .int .u8 G.i), (b16, 5, .int .u8 G.j), (b16, 6, .int .u8 G.n), (b16, 7, .int .u8 G.p), (b16, 8, .int .u8 G.h), (b16, 9, .int .u32 G.x), (b16, 10, .int .u32 G.y)]) ∧ Hid (Holds wn [(b17, 0, .int .u64 K), (b17, 1, .int .u64 U)]) ∧ Hid (some b16 ≠ (Value.slice ad3 S.length cap3).ownBlock))
                case first =>
                  go_region_held3 (fun W => W.cell? ⟨w.heap.size, 0, none⟩ = some (.int .u8 c.object) ∧ W.cell? ⟨w.heap.size, 1, none⟩ = some (.int .i64 c.instances) ∧ W.cell? ⟨w.heap.size, 2, none⟩ = some (.int .i64 c.threads) ∧ W.cell? ⟨w.heap.size, 3, none⟩ = some (.int .u8 c.kind) ∧ W.cell? ⟨w.heap.size, 4, none⟩ = some (.int .i64 c.stripes) ∧ W.cell? ⟨w.heap.size, 5, none⟩ = some (.int .i64 c.bits) ∧ W.cell? ⟨w.heap.size, 6, none⟩ = some (.int .i64 c.cap) ∧ W.cell? ⟨w.heap.size, 7, none⟩ = some (.int .i64 c.node) ∧ W.cell? ⟨w.heap.size, 8, none⟩ = some (.int .i64 c.batch) ∧ W.cell? ⟨w.heap.size, 9, none⟩ = some (.int .i64 c.chunk) ∧ W.cell? ⟨w.heap.size, 10, none⟩ = some (.int .u64 c.limit) ∧ W.cell? ⟨w.heap.size, 11, none⟩ = some (.int .u64 c.most) ∧ W.cell? ⟨w.heap.size + 1 + 1 + 1 + 1 + 1, 0, none⟩ = some (.int .u8 f.kind) ∧ W.cell? ⟨w.heap.size + 1 + 1 + 1 + 1 + 1, 1, none⟩ = some (.int .u32 f.a) ∧ W.cell? ⟨w.heap.size + 1 + 1 + 1 + 1 + 1, 2, none⟩ = some (.int .u32 f.b) ∧ W.cell? ⟨w.heap.size + 1 + 1 + 1 + 1 + 1, 3, none⟩ = some (.int .u8 f.pc) ∧ W.cell? ⟨w.heap.size + 1 + 1 + 1 + 1 + 1, 4, none⟩ = some (.int .u8 f.i) ∧ W.cell? ⟨w.heap.size + 1 + 1 + 1 + 1 + 1, 5, none⟩ = some (.int .u8 f.j) ∧ W.cell? ⟨w.heap.size + 1 + 1 + 1 + 1 + 1, 6, none⟩ = some (.int .u8 f.n) ∧ W.cell? ⟨w.heap.size + 1 + 1 + 1 + 1 + 1, 7, none⟩ = some (.int .u8 f.p) ∧ W.cell? ⟨w.heap.size + 1 + 1 + 1 + 1 + 1, 8, none⟩ = some (.int .u8 f.h) ∧ W.cell? ⟨w.heap.size + 1 + 1 + 1 + 1 + 1, 9, none⟩ = some (.int .u32 f.x) ∧ W.cell? ⟨w.heap.size + 1 + 1 + 1 + 1 + 1, 10, none⟩ = some (.int .u32 f.y) ∧ W.cell? ⟨B14, 1, none⟩ = some (.int .i64 A.at') ∧ W.cell? ⟨b, o' + A.at'.toNat * 4, none⟩ = some (.int .u64 l.tag) ∧ W.cell? ⟨b, o' + A.at'.toNat * 4 + 1, none⟩ = some (.int .u64 l.a) ∧ W.cell? ⟨b, o' + A.at'.toNat * 4 + 2, none⟩ = some (.int .u64 l.b) ∧ W.cell? ⟨b, o' + A.at'.toNat * 4 + 3, none⟩ = some (.int .u64 l.c))
                    (exact HK.out.ext EX)
                    (first | (go_at_call 11; refine (treAfter_any c f l HF.out HLF.out _ (Tab.ext (Tab.ext HT.out HW.out) EX)).mono ?_; rintro e w3 ⟨rfl, os3, n3, rfl⟩; rw [HZ.out]))
                  all_goals
                    go_wp2_with fail
                    go_meet
                    case rel => exact ⟨_, _, rfl, rfl, rfl, rfl, Lib.hid (HX2.out.trans EXX), Lib.hid (HS2.out.ext EXX), Lib.hid (own_ext HA2.out EXX), Lib.hid (own_ext HR2.out EXX), Lib.hid (by rw [holds_iff]; simp [go_sem]), Lib.hid (by rw [holds_iff]; simp [go_sem]), Lib.hid (fun e => by have := (own_block HR2.out e.symm).2; omega)⟩
                case rest =>
                  obtain ⟨b16, b17, rfl, rfl, rfl, rfl, HXA, HSA, HAA, HRA, HHA, HHB, HNB⟩ := hcut
                  clear HX2 HS2 HA2 HR2 HK HW hb hwz
                  have HX2 := HXA
                  have HS2 := HSA
                  have HA2 := HAA
                  have HR2 := HRA
                  clear HXA HSA HAA HRA
                  have K1 := HHB.out
                  simp [Holds] at K1
                  obtain ⟨K1, K2⟩ := K1
                  have B1 := World.block_lt_of_cell? _ _ K1
                  dsimp only at B1
                  have B2 : ∀ n1 : Nat, b17 < wc.heap.size + n1 := by intros; omega
                  have hwz : w.heap.size + 6 ≤ wc.heap.size := by have := HX2.out.size; rw [base_size] at this; exact this
                  go_upto_if 104 with fail
                  go_cut [12] (fun t12 wn => ∃ ad4 cap4, t12 = .slice ad4 S2.length cap4 ∧ Hid (Ext (doneBase w c o x1 y1 (.cells #[.int .i64 0, .int .u32 0, .slice none 0 0] 49) f) wn) ∧ Hid (SlNo (Off w (.slice ad2 t2.length cap2) (.slice ad4 S2.length cap4)) wn (some ⟨b, o', none⟩) L'.length cap1 (celCells L2)) ∧ Hid (wn.ownsRow (w.heap.size + 6) 3 1 (.slice ad2 t2.length cap2) t2.length (offV t2)) ∧ Hid (wn.ownsRow (w.heap.size + 6) 39 2 (.slice ad4 S2.length cap4) S2.length (rwCells S2)) ∧ Hid (Holds wn [(b16, 0, .int .u8 G.kind), (b16, 1, .int .u32 G.a), (b16, 2, .int .u32 G.b), (b16, 3, .int .u8 G.pc), (b16, 4, .int .u8 G.i), (b16, 5, .int .u8 G.j), (b16, 6, .int .u8 G.n), (b16, 7, .int .u8 G.p), (b16, 8, .int .u8 G.h), (b16, 9, .int .u32 G.x), (b16, 10, .int .u32 G.y)]))
                  case first =>
                    cases T
                    · have es : S = S2 := by rw [← HSS.out.1]; simp [treRows]
                      subst es
                      go_wp2_with fail
                      go_meet
                      case rel => exact ⟨_, _, rfl, Lib.hid (HX2.out.trans EXX), Lib.hid (HS2.out.ext EXX), Lib.hid (own_ext HA2.out EXX), Lib.hid (own_ext HR2.out EXX), Lib.hid (HHA.out.ext EXX)⟩
                    · have es : S ++ [⟨K, U⟩] = S2 := by rw [← HSS.out.1, ← HSS.out.2.1, ← HSS.out.2.2]; simp [treRows]
                      have HES := Lib.hid es
                      clear es
                      go_wp2_with (at_builtin; refine wpList_append_own_at _ rfl _ _ 47 rfl (w.heap.size + 6) 39 i2 (.agg #[.int .u64 0, .int .u64 0]) 2 16 Tryd.underlying47 HI2.out.1 HI2.out.2.1 HI2.out.2.2.1 HI2.out.2.2.2 rfl (by decide) (.slice ad3 S.length cap3) S.length (rwCells S) (by rfl) (by exact own_ext HR2.out EXX) _ 1 1 [.int .u64 K, .int .u64 U] (by rfl) (by rfl) (by exact two_at (by simp [go_sem]) (by simp [go_sem])) (by simp [Value.oneCell']) (by unfold maxLen; omega) (by omega) (by simp [go_sem]; omega) ?_; intro v3 w3 hown3 hgrow3 _ hat3; have HO4 := Lib.hid hown3; have HG3 := Lib.hid hgrow3; have HAT3 := Lib.hid hat3; clear hown3 hgrow3 hat3)
                      go_meet
                      case rel =>
                        have hown4 : w3.ownsRow (w.heap.size + 6) 39 2 v3 S2.length (rwCells S2) := by
                          rw [← HES.out]
                          simpa [rwCells, Rw.cells] using HO4.out
                        obtain ⟨ad4, cap4, rfl⟩ := own_form hown4
                        refine ⟨ad4, cap4, rfl, Lib.hid (ext_grown (Ext.trans HX2.out EXX) HG3.out (fun k hk => by rw [base_size]; exact (own_block HR2.out hk).1)), Lib.hid (HS2.out.to fun b' i' u hs hc' => ⟨⟨hs.1, hs.2.1, ?_⟩, HG3.out.cell (ext_cell EXX hc') hs.2.2⟩), Lib.hid (own_grown HG3.out (own_ext HA2.out EXX) (own_apart HR2.out HA2.out (by decide))), Lib.hid hown4, Lib.hid (holds_grown HG3.out (HHA.out.ext EXX) (by simp) HNB.out)⟩
                        intro e
                        rcases HAT3.out with h | h
                        · exact hs.2.2 (e.trans h)
                        · rw [h] at e
                          cases e
                          exact absurd (World.block_lt_of_cell? _ ⟨_, i', none⟩ (ext_cell EXX hc')) (Nat.lt_irrefl _)
                  case rest =>
                    obtain ⟨ad4, cap4, rfl, HX3, HS3, HA3, HR3, HH3⟩ := hcut
                    clear HX2 HS2 HA2 HR2 HHA HHB HNB K1 K2 B1 B2 hwz
                    have hX := HX3.out
                    have hH := HH3.out
                    have hS3 := HS3.out
                    have hA3 := HA3.out
                    have hR3 := HR3.out
                    clear HX3 HH3 HS3 HA3 HR3
                    unfold doneBase at hX
                    obtain ⟨os', d', rfl⟩ := hX
                    have HS3 := Lib.hid hS3
                    have HA3 := Lib.hid hA3
                    have HR3 := Lib.hid hR3
                    simp only [Holds] at hH
                    obtain ⟨g0, g1, g2, g3, g4, g5, g6, g7, g8, g9, g10⟩ := hH
                    clear hS3 hA3 hR3
                    go_wp2
                    go_roundg m
                    case measure => omega
                    case rel =>
                      have e6 : L'.length = L2.length := HLEN.out.symm
                      refine ⟨G, L2, t2, S2, some ⟨b, o', none⟩, cap1, by omega, by rw [e6], by go_num, HGF.out, HL2F.out, by omega, by omega, by omega, HO2, Lib.hid ?_, Lib.hid (own_ext (base_own (c := c) (o := o) (x1 := x1) (y1 := y1) (R := (.cells #[.int .i64 0, .int .u32 0, .slice none 0 0] 49)) (R' := (.cells #[.int .i64 0, .int .u32 0, .slice none 0 0] 49)) (f := f) (f' := G) (os := os') (d := d') (d' := d') HA3.out) (by unfold doneBase; exact EXX)), Lib.hid (own_ext (base_own (c := c) (o := o) (x1 := x1) (y1 := y1) (R := (.cells #[.int .i64 0, .int .u32 0, .slice none 0 0] 49)) (R' := (.cells #[.int .i64 0, .int .u32 0, .slice none 0 0] 49)) (f := f) (f' := G) (os := os') (d := d') (d' := d') HR3.out) (by unfold doneBase; exact EXX)), ?_⟩
                      · have h := SlNo.ext (base_no (c := c) (o := o) (x1 := x1) (y1 := y1) (R := (.cells #[.int .i64 0, .int .u32 0, .slice none 0 0] 49)) (R' := (.cells #[.int .i64 0, .int .u32 0, .slice none 0 0] 49)) (f := f) (f' := G) (os := os') (d := d') (d' := d') HS3.out) (by unfold doneBase; exact EXX)
                        rw [e6] at h
                        exact h
                      · unfold doneBase
                        exact EX
          · have HO2 := Lib.hid (HO'.out.trans (treRun_out m L' t S HE.out (by rw [← HA.out]; exact h4) (by rw [← HA.out]; exact hat)))
            have hat2 : A.at' < 0 ∨ (L'.length : Int) ≤ A.at' := by omega
            clear HO' hat
            rcases hat2 with hat2 | hat2
            all_goals
              go_wp2_with (go_at_call 9; refine (treNext_any c f HF.out _ (Tab.ext HT.out EX)).mono ?_; rintro e w1 ⟨rfl, os1, n1, rfl⟩; rw [HN.out, HE1.out])
              (refine bodyPost_ret (v := .tuple #[.slice ad' L'.length cap', .agg #[.int .i64 0, .int .u32 0, .slice none 0 0], u11, .bool false]) (by simp [results, Tryd.results14, go_sem]) rfl ?_; exact (done_post (c := c) (o := o) (x1 := x1) (y1 := y1) (R := (.cells #[.int .i64 0, .int .u32 0, .slice none 0 0] 49)) (f := f) (R' := (.cells #[.int .i64 0, .int .u32 0, .slice none 0 0] 49)) (f' := f) (q := u12) (Z := S) HO2.out HS'.out HW'.out (Or.inl ⟨rfl, rfl⟩) (by unfold doneBase; exact EXX)))
        · have HO2 := Lib.hid (HO'.out.trans (treRun_done m L' t S HE.out (by rw [← HA.out]; exact h4)))
          rw [← HA.out] at HO2
          clear HO'
          obtain ⟨ad3, cap3, e3⟩ := own_form HR'.out
          subst e3
          go_wp2_with (go_at_call 9; refine (treNext_any c f HF.out _ (Tab.ext HT.out EX)).mono ?_; rintro e w1 ⟨rfl, os1, n1, rfl⟩; rw [HN.out, HE1.out])
          go_region
          all_goals go_wp2
          all_goals (refine bodyPost_ret (v := .tuple #[.slice ad' L'.length cap', .agg #[.int .i64 A.code, .int .u32 A.v', .slice ad3 S.length cap3], u11, .bool true]) (by simp [results, Tryd.results14, go_sem]) rfl ?_)
          all_goals exact (done_post (c := c) (o := o) (x1 := x1) (y1 := y1) (R := (.cells #[.int .i64 0, .int .u32 0, .slice none 0 0] 49)) (f := f) (R' := (.cells #[.int .i64 A.code, .int .u32 A.v', .slice ad3 S.length cap3] 49)) (f' := f) (q := .slice ad3 S.length cap3) (Z := S) HO2.out HS'.out HW'.out (Or.inr ⟨rfl, rfl, HR'.out⟩) (by unfold doneBase; exact EXX))
end Go.Proofs.YtkklhhdkokncnaaDoor
