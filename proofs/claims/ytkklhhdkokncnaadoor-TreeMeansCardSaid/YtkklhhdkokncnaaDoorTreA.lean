/- The walk of 'tree.After'. -/
import Derived.Test.YtkklhhdkokncnaaDoorGk
import Derived.Test.YtkklhhdkokncnaaDoorTre11
import Derived.Test.YtkklhhdkokncnaaDoorTre12
import Derived.Test.YtkklhhdkokncnaaDoorTre13
import Derived.Test.YtkklhhdkokncnaaDoorTre14
namespace Go.Proofs.YtkklhhdkokncnaaDoor
open Go Go.RowKit
set_option maxRecDepth 100000
set_option maxHeartbeats 8000000

/-- What 'After' answers, of the frame behind, whether a row is told, and an error. -/
abbrev treOutV (x : Frm × Bool) (e : Int) : Value := .tuple #[x.1.v, .agg #[.int .u64 (if x.2 then x.1.x else 0), .int .u64 (if x.2 then x.1.y else 0)], .bool x.2, .int .i64 e]
theorem treAfterP_any (c : Cfg) (s : Value) (hok : TreOk c) (f : Frm) (l : Cel) (hl : l.Fits) (hf : f.Fits) (hhas : treHas f = true) (hnum : treNum c f = true) (hi : f.pc = 1 ∨ f.pc = 14 → f.i ≤ 32) (h15 : f.pc = 15 → 1 ≤ f.n) (V w : World) (ht : Tab V) (hsw : ∀ (o : Obj) (W' : World), Ext (swp o V w) W' → Sl W' s (lvC c) (lvL c)) (hw : Ext (V.alloc (.cells (trA c s (⟨f, 0, 0, false⟩)) 84)) w) : Calls Tryd.prog 34 #[.pointer (some ⟨V.heap.size, 0, none⟩), l.v] w (fun e w' => e = .returned (.tuple #[]) ∧ Ext (swp (.cells (trA c s (tOut (treBehind c f l))) 84) V w) w') := by
  rw [← tAfter_out]
  have hpc : f.pc = 0 ∨ f.pc = 1 ∨ f.pc = 3 ∨ f.pc = 4 ∨ f.pc = 5 ∨ f.pc = 6 ∨ f.pc = 7 ∨ f.pc = 8 ∨ f.pc = 9 ∨ f.pc = 11 ∨ f.pc = 12 ∨ f.pc = 13 ∨ f.pc = 14 ∨ f.pc = 15 ∨ f.pc = 16 ∨ f.pc = 17 ∨ f.pc = 20 ∨ f.pc = 21 ∨ f.pc = 22 ∨ f.pc = 23 ∨ f.pc = 24 ∨ f.pc = 25 := by
    simp only [treHas, Bool.or_eq_true, Bool.and_eq_true, beq_iff_eq] at hhas
    omega
  rcases hpc with h | h | h | h | h | h | h | h | h | h | h | h | h | h | h | h | h | h | h | h | h | h
  · exact treAfter_0 c s hok f 0 0 false l hl hf hnum hi h15 h V w ht hsw hw
  · exact treAfter_1 c s hok f 0 0 false l hl hf hnum hi h15 h V w ht hsw hw
  · exact treAfter_3 c s hok f 0 0 false l hl hf hnum hi h15 h V w ht hsw hw
  · exact treAfter_4 c s hok f 0 0 false l hl hf hnum hi h15 h V w ht hsw hw
  · exact treAfter_5 c s hok f 0 0 false l hl hf hnum hi h15 h V w ht hsw hw
  · exact treAfter_6 c s hok f 0 0 false l hl hf hnum hi h15 h V w ht hsw hw
  · exact treAfter_7 c s hok f 0 0 false l hl hf hnum hi h15 h V w ht hsw hw
  · exact treAfter_8 c s hok f 0 0 false l hl hf hnum hi h15 h V w ht hsw hw
  · exact treAfter_9 c s hok f 0 0 false l hl hf hnum hi h15 h V w ht hsw hw
  · exact treAfter_11 c s hok f 0 0 false l hl hf hnum hi h15 h V w ht hsw hw
  · exact treAfter_12 c s hok f 0 0 false l hl hf hnum hi h15 h V w ht hsw hw
  · exact treAfter_13 c s hok f 0 0 false l hl hf hnum hi h15 h V w ht hsw hw
  · exact treAfter_14 c s hok f 0 0 false l hl hf hnum hi h15 h V w ht hsw hw
  · exact treAfter_15 c s hok f 0 0 false l hl hf hnum hi h15 h V w ht hsw hw
  · exact treAfter_16 c s hok f 0 0 false l hl hf hnum hi h15 h V w ht hsw hw
  · exact treAfter_17 c s hok f 0 0 false l hl hf hnum hi h15 h V w ht hsw hw
  · exact treAfter_20 c s hok f 0 0 false l hl hf hnum hi h15 h V w ht hsw hw
  · exact treAfter_21 c s hok f 0 0 false l hl hf hnum hi h15 h V w ht hsw hw
  · exact treAfter_22 c s hok f 0 0 false l hl hf hnum hi h15 h V w ht hsw hw
  · exact treAfter_23 c s hok f 0 0 false l hl hf hnum hi h15 h V w ht hsw hw
  · exact treAfter_24 c s hok f 0 0 false l hl hf hnum hi h15 h V w ht hsw hw
  · exact treAfter_25 c s hok f 0 0 false l hl hf hnum hi h15 h V w ht hsw hw
theorem treAfterP_at (c : Cfg) (s : Value) (hok : TreOk c) (f : Frm) (l : Cel) (hl : l.Fits) (hf : f.Fits) (hhas : treHas f = true) (hnum : treNum c f = true) (hi : f.pc = 1 ∨ f.pc = 14 → f.i ≤ 32) (h15 : f.pc = 15 → 1 ≤ f.n) (V w : World) (b : Nat) (hb : V.heap.size = b) (ht : Tab V) (hsw : ∀ (o : Obj) (W' : World), Ext (swp o V w) W' → Sl W' s (lvC c) (lvL c)) (hw : Ext (V.alloc (.cells (trA c s (⟨f, 0, 0, false⟩)) 84)) w) : Calls Tryd.prog 34 #[.pointer (some ⟨b, 0, none⟩), l.v] w (fun e w' => e = .returned (.tuple #[]) ∧ Ext (swp (.cells (trA c s (tOut (treBehind c f l))) 84) V w) w') := by
  subst hb
  exact treAfterP_any c s hok f l hl hf hhas hnum hi h15 V w ht hsw hw
theorem startYes_sw {c : Cfg} {V : World} {a : Array Value} {t : TypeId} {os : Array Obj} {d cap : Nat} {ad : Option Addr} (h : SlNo (fun b => V.heap.size + 1 ≤ b) (grew (V.alloc (.cells a t)) os d) ad (lvC c) cap (lvL c)) :
    ∀ (o : Obj) (W' : World), Ext (swp o V (grew (V.alloc (.cells a t)) os d)) W' → Sl W' (.slice ad (lvC c) cap) (lvC c) (lvL c) := by
  intro o W' e
  rw [swp_a] at e
  exact ((slB_swap (X := V.alloc (.cells a t)) (X' := V.alloc o) (d' := d) (SlB.of h) (by simp) (by simp)).ext e).sl
theorem treAfter_any (c : Cfg) (f : Frm) (l : Cel) (hf : f.Fits) (hl : l.Fits) (w : World) (ht : Tab w) : Calls Tryd.prog 11 #[c.v, f.v, l.v] w
    fun e w' => e = .returned (treOutV (treAfterA c f l) (treErr c f)) ∧ Ext w w' := by
  have HF := Lib.hid hf
  have HL := Lib.hid hl
  have HT := Lib.hid ht
  clear ht
  cases h0 : (treErr c f == 0)
  · have HN : Hid (treAfterA c f l = (zeroFrm, false)) := Lib.hid (by simp [treAfterA, h0])
    have H0 := Lib.hid h0
    obtain ⟨E, hE⟩ : ∃ E, E = treErr c f := ⟨_, rfl⟩
    have HE := Lib.hid hE
    have h1 : (E != 0) = true := by rw [hE]; simpa using h0
    clear h0 hE hf hl
    go_enter Tryd.func11, Tryd.ntmps11
    go_wp2_with (go_at_call 29; refine (treStart_no c f HF.out H0.out _ (Tab.ext HT.out EX)).mono ?_; rintro e w1 ⟨rfl, os1, n1, rfl⟩; rw [← HE.out])
    (refine bodyPost_ret (v := treOutV (zeroFrm, false) E) (by simp [results, Tryd.results11, go_sem]) rfl ?_)
    exact ⟨by rw [HN.out, HE.out], EX⟩
  · have he : treErr c f = 0 := by simpa using h0
    have hok := treErr_ok he
    have HE := Lib.hid he
    have hc := treOk_of hok.1 hok.2.1
    have HOK := Lib.hid hc
    have hm := treMay_facts hok.2.2
    have HM := Lib.hid hm
    have hb := treBound hc hf hok.2.2
    have HB := Lib.hid hb
    have hgf := behind_fits hc hf hl hm.2.2.1 hb.1 hb.2
    obtain ⟨G, T, hGT⟩ : ∃ G T, treBehind c f l = (G, T) := ⟨_, _, rfl⟩
    rw [hGT] at hgf
    have HN : Hid (treAfterA c f l = (G, T)) := Lib.hid (by simp [treAfterA, he, hGT])
    obtain ⟨K, hK⟩ : ∃ K, (if T then G.x else 0) = K := ⟨_, rfl⟩
    obtain ⟨U, hU⟩ : ∃ U, (if T then G.y else 0) = U := ⟨_, rfl⟩
    have HQ : Hid (tOut (treBehind c f l) = ⟨G, K, U, T⟩) := Lib.hid (by rw [hGT, ← hK, ← hU]; rfl)
    have HV : Hid (treOutV (G, T) 0 = .tuple #[G.v, .agg #[.int .u64 K, .int .u64 U], .bool T, .int .i64 0]) := Lib.hid (by rw [← hK, ← hU])
    clear h0 he hok hc hm hb hgf hGT hK hU hf hl
    go_enter Tryd.func11, Tryd.ntmps11
    go_upto_region 5 with (first | (go_at_call 29; refine (treStart_yes c f HF.out HE.out _ (Tab.ext HT.out EX)).mono ?_; rintro e w1 ⟨V, ad, cap, ⟨osv, dv, rfl⟩, rfl, os1, n1, rfl, hsl⟩; have HSW := Lib.hid (startYes_sw hsl); clear hsl) | (go_at_call 34; refine (treAfterP_at c (.slice ad (lvC c) cap) HOK.out f l HL.out HF.out HM.out.2.1 HM.out.2.2.1 HB.out.1 HB.out.2 (grew (((((w.alloc (.cells #[.int .u8 c.object, .int .i64 c.instances, .int .i64 c.threads, .int .u8 c.kind, .int .i64 c.stripes, .int .i64 c.bits, .int .i64 c.cap, .int .i64 c.node, .int .i64 c.batch, .int .i64 c.chunk, .int .u64 c.limit, .int .u64 c.most] 24)).alloc (.cells #[.int .u8 f.kind, .int .u32 f.a, .int .u32 f.b, .int .u8 f.pc, .int .u8 f.i, .int .u8 f.j, .int .u8 f.n, .int .u8 f.p, .int .u8 f.h, .int .u32 f.x, .int .u32 f.y] 27)).alloc (.cells #[.int .u64 l.tag, .int .u64 l.a, .int .u64 l.b, .int .u64 l.c] 37)).alloc (.cells #[.int .u8 zeroFrm.kind, .int .u32 zeroFrm.a, .int .u32 zeroFrm.b, .int .u8 zeroFrm.pc, .int .u8 zeroFrm.i, .int .u8 zeroFrm.j, .int .u8 zeroFrm.n, .int .u8 zeroFrm.p, .int .u8 zeroFrm.h, .int .u32 zeroFrm.x, .int .u32 zeroFrm.y] 27)).alloc (.cells #[.int .u64 0, .int .u64 0] 39)) osv dv) _ _ (by simp [go_sem]) (Tab.ext HT.out EXX) HSW.out EXX).mono ?_; rintro e w2 ⟨rfl, os2, n2, rfl⟩; rw [HQ.out]; (try rw [swp_drew]); (try rw [swp_c]); (try rw [swp_b]); (try rw [swp_a])))
    go_region
    all_goals
      go_wp2
      (refine bodyPost_ret (v := .tuple #[G.v, .agg #[.int .u64 K, .int .u64 U], .bool T, .int .i64 0]) (by simp [results, Tryd.results11, go_sem]) rfl ?_)
      exact ⟨by rw [HN.out, HE.out, HV.out], EXX⟩
end Go.Proofs.YtkklhhdkokncnaaDoor
