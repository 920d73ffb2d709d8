/- The walk of 'branch.After'. -/
import Derived.Test.YtmbodooikfmegaaDoorBr7
namespace Go.Proofs.YtmbodooikfmegaaDoor
open Go Go.RowKit
set_option maxRecDepth 100000
set_option maxHeartbeats 8000000

theorem brAfterW_any (c : Cfg) (f : Frm) (hf : f.Fits) (l : Cel) (hl : l.Fits) (he : brErr c f = 0) (M : Int) (hLM : brLong f = M) (V w : World) (b : Nat) (hb : V.heap.size = b) (hw : Ext (V.alloc (.cells (wlM c (f) M) 79)) w) : Calls Tryd.prog 28 #[.pointer (some ⟨b, 0, none⟩), l.v] w
    fun e w' => e = .returned (.tuple #[]) ∧ Ext (V.alloc (.cells (wlM c (brBehind c f l) M) 79)) w' := by
  subst hb
  obtain ⟨hp, ho, h4⟩ := brErr_ok he
  obtain ⟨m1, m2, m3, m4, m5, m6, m7, m8, m9, m10, m11⟩ := brMay_facts h4
  have hc := (partOk_cap hp).2
  have hl3 := brLong_le f
  rw [hLM] at hl3 m7 m8
  have hpc := brHas_pc m2
  have hat : (f.pc = 0 → f.i < c.cap) ∧ (f.pc = 2 → f.j < c.cap) := by
    constructor <;> (intro h; simpa [brAt, h] using m10)
  have hn := m5
  rcases hpc with h | h | h | h | h | h | h | h | h | h
  · exact brAfterW_0 c f hf l hl hc (hat.1 h) (by omega) M hl3 hLM (m8 (Or.inl h)) h V w hw
  · exact brAfterW_3 c f hf l hl hc M hl3 h V w hw
  · exact brAfterW_5 c f hf l hl hc M hl3 h V w hw
  · exact brAfterW_4 c f l M (Or.inr h) V w hw
  · exact brAfterW_2 c f hf l hl hc (hat.2 h) M hl3 hLM (m8 (Or.inr h)) h V w hw
  · exact brAfterW_4 c f l M (Or.inl h) V w hw
  · exact brAfterW_20 c f l M (by omega) V w hw
  · exact brAfterW_20 c f l M (by omega) V w hw
  · exact brAfterW_20 c f l M (by omega) V w hw
  · exact brAfterW_20 c f l M (by omega) V w hw

theorem brStart_yesM (c : Cfg) (f : Frm) (hf : f.Fits) (he : brErr c f = 0) (M : Int) (hLM : brLong f = M) (w : World) (ht : Tab w) : Calls Tryd.prog 23 #[c.v, f.v] w
    fun e w' => ∃ V, Ext w V ∧ e = .returned (.tuple #[.pointer (some ⟨V.heap.size, 0, none⟩), .int .i64 0]) ∧ ∃ os d, w' = grew (V.alloc (.cells (wlM c f M) 79)) os d := by
  refine (brStart_yes c f hf he w ht).mono ?_
  rintro e w' ⟨V, hV, rfl, os, d, rfl⟩
  obtain ⟨hp, ho, h4⟩ := brErr_ok he
  obtain ⟨m1, m2, m3, m4, m5, m6, m7, m8, m9, m10, m11⟩ := brMay_facts h4
  refine ⟨V, hV, rfl, os, d, ?_⟩
  have h : wlArr c f = wlM c f M := by
    have := (brMany_pos ho m1).1
    rw [hLM] at this
    simp only [wlArr, wlM, this]
  rw [h]

theorem brAfter_any (c : Cfg) (f : Frm) (l : Cel) (hf : f.Fits) (hl : l.Fits) (w : World) (ht : Tab w) : Calls Tryd.prog 11 #[c.v, f.v, l.v] w
    fun e w' => e = .returned (.tuple #[(brAfterA c f l).v, .int .i64 (brErr c f)]) ∧ Ext w w' := by
  have HF := Lib.hid hf
  have HT := Lib.hid ht
  have HL := Lib.hid hl
  clear ht hf hl
  cases h0 : (brErr c f == 0)
  · have HN : Hid (brAfterA c f l = zeroFrm) := Lib.hid (by simp [brAfterA, h0])
    have H0 := Lib.hid h0
    obtain ⟨E, hE⟩ : ∃ E, E = brErr c f := ⟨_, rfl⟩
    have HE := Lib.hid hE
    have h1 : (E != 0) = true := by rw [hE]; simpa using h0
    clear h0 hE
    go_enter Tryd.func11, Tryd.ntmps11
    go_wp2_with (go_at_call 23; refine (brStart_no c f HF.out H0.out _ (Tab.ext HT.out EX)).mono ?_; rintro e w1 ⟨rfl, os1, n1, rfl⟩; rw [← HE.out])
    (refine bodyPost_ret (v := .tuple #[(zeroFrm).v, .int .i64 E]) (by simp [results, Tryd.results11, go_sem]) rfl ?_)
    exact ⟨by rw [HN.out, HE.out], EX⟩
  · have he : brErr c f = 0 := by simpa using h0
    have HN : Hid (brAfterA c f l = brBehind c f l) := Lib.hid (by simp [brAfterA, he])
    obtain ⟨G, hG⟩ : ∃ G, brBehind c f l = G := ⟨_, rfl⟩
    have HG := Lib.hid hG
    have HE := Lib.hid he
    obtain ⟨M, hLM⟩ : ∃ M, brLong f = M := ⟨_, rfl⟩
    have HLM := Lib.hid hLM
    clear h0 he hG hLM
    go_enter Tryd.func11, Tryd.ntmps11
    go_wp2_with (first | (go_at_call 23; refine (brStart_yesM c f HF.out HE.out M HLM.out _ (Tab.ext HT.out EX)).mono ?_; rintro e w1 ⟨V, ⟨osv, dv, rfl⟩, rfl, os1, n1, rfl⟩) | ((go_at_call 28; refine (brAfterW_any c f HF.out l HL.out HE.out M HLM.out (grew ((((w.alloc (.cells #[.int .u8 c.object, .int .i64 c.instances, .int .i64 c.threads, .int .u8 c.kind, .int .i64 c.stripes, .int .i64 c.bits, .int .i64 c.cap, .int .i64 c.node, .int .i64 c.batch, .int .i64 c.chunk, .int .u64 c.limit, .int .u64 c.most] 24)).alloc (.cells #[.int .u8 f.kind, .int .u32 f.a, .int .u32 f.b, .int .u8 f.pc, .int .u8 f.i, .int .u8 f.j, .int .u8 f.n, .int .u8 f.p, .int .u8 f.h, .int .u32 f.x, .int .u32 f.y] 27)).alloc (.cells #[.int .u64 l.tag, .int .u64 l.a, .int .u64 l.b, .int .u64 l.c] 37)).alloc (.cells #[.int .u8 zeroFrm.kind, .int .u32 zeroFrm.a, .int .u32 zeroFrm.b, .int .u8 zeroFrm.pc, .int .u8 zeroFrm.i, .int .u8 zeroFrm.j, .int .u8 zeroFrm.n, .int .u8 zeroFrm.p, .int .u8 zeroFrm.h, .int .u32 zeroFrm.x, .int .u32 zeroFrm.y] 27)) osv dv) _ _ (by simp [go_sem]) EX).mono ?_; rintro e w2 ⟨rfl, os2, n2, rfl⟩); rw [HG.out]))
    (refine bodyPost_ret (v := .tuple #[G.v, .int .i64 0]) (by simp [results, Tryd.results11, go_sem]) rfl ?_)
    exact ⟨by rw [HN.out, HE.out, HG.out], EX⟩
end Go.Proofs.YtmbodooikfmegaaDoor
