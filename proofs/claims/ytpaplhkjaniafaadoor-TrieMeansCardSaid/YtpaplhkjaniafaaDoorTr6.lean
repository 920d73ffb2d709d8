/- The walks of 'trie.Next' and 'trie.After'. -/
import Derived.Test.YtpaplhkjaniafaaDoorTr3
import Derived.Test.YtpaplhkjaniafaaDoorTr4
import Derived.Test.YtpaplhkjaniafaaDoorTr5a
import Derived.Test.YtpaplhkjaniafaaDoorTr5b
import Derived.Test.YtpaplhkjaniafaaDoorTr5c
namespace Go.Proofs.YtpaplhkjaniafaaDoor
open Go Go.RowKit
set_option maxRecDepth 100000
set_option maxHeartbeats 8000000

theorem trStepP_any (c : Cfg) (f : Frm) (l : Cel) (hf : f.Fits) (hl : l.Fits) (he : trErr c f = 0) (w : World) (ht : Tab w) : Calls Tryd.prog 24 #[c.v, f.v, l.v] w
    fun e w' => e = .returned (.tuple #[(trStep c f).v, (trBehind c f l).v, .int .i64 0]) ∧ Ext w w' := by
  obtain ⟨hp, ho, hm⟩ := trErr_ok he
  have hft := trMay_facts hf ho hm
  have h1 := hft.there
  have h3 := hf.pc
  rcases hft.kind with hk | hk | hk
  · have hk3 : (f.kind == 3) = false := by rw [hk]; rfl
    have hpc : f.pc = 0 ∨ f.pc = 1 ∨ f.pc = 2 ∨ f.pc = 3 ∨ f.pc = 5 ∨ f.pc = 6 ∨ f.pc = 7 := by simp [trThere, hk] at h1; omega
    rcases hpc with p | p | p | p | p | p | p
    · exact trStepP_seek c f l hf he (by simp [trFn, hk, p]) (fun V os d => trSeek_any c f hf l hl hft hk3 p V os d) w ht
    · exact trStepP_room c f l hf he (by simp [trFn, hk, p]) (fun V os d => trRoom_any c f l hl hk3 p hft.cap V os d) w ht
    · exact trStepP_load c f l hf he (by simp [trFn, hk, p]) (fun V os d => trLoad_any c f hf l hl hft hk3 p V os d) w ht
    · exact trStepP_save c f l hf he (by simp [trFn, hk, p]) (fun V os d => trSave_any c f hf l hl hft hk3 p V os d) w ht
    · exact trStepP_turn c f l hf he (by simp [trFn, hk, p]) (fun V os d => trTurn_any c f hf l hl hft hk3 p V os d) w ht
    · exact trStepP_told c f l hf he (by simp [trFn, hk, p]) (fun V os d => trTold_any c f l p V os d) w ht
    · exact trStepP_full c f l hf he (by simp [trFn, hk, p]) (fun V os d => trFull_any c f l p V os d) w ht
  · have hk3 : (f.kind == 3) = false := by rw [hk]; rfl
    have hpc : f.pc = 0 ∨ f.pc = 2 ∨ f.pc = 3 ∨ f.pc = 6 ∨ f.pc = 8 := by simp [trThere, hk] at h1; omega
    rcases hpc with p | p | p | p | p
    · exact trStepP_seek c f l hf he (by simp [trFn, hk, p]) (fun V os d => trSeek_any c f hf l hl hft hk3 p V os d) w ht
    · exact trStepP_load c f l hf he (by simp [trFn, hk, p]) (fun V os d => trLoad_any c f hf l hl hft hk3 p V os d) w ht
    · exact trStepP_save c f l hf he (by simp [trFn, hk, p]) (fun V os d => trSave_any c f hf l hl hft hk3 p V os d) w ht
    · exact trStepP_told c f l hf he (by simp [trFn, hk, p]) (fun V os d => trTold_any c f l p V os d) w ht
    · exact trStepP_none c f l hf he (by simp [trFn, hk, p]) (fun V os d => trNone_any c f l p V os d) w ht
  · have hk3 : (f.kind == 3) = true := by rw [hk]; rfl
    have hpc : f.pc = 0 ∨ f.pc = 6 ∨ f.pc = 8 := by simp [trThere, hk] at h1; omega
    rcases hpc with p | p | p
    · exact trStepP_look c f l hf he (by simp [trFn, hk, p]) (fun V os d => trLook_any c f hf l hl hft hk3 p V os d) w ht
    · exact trStepP_told c f l hf he (by simp [trFn, hk, p]) (fun V os d => trTold_any c f l p V os d) w ht
    · exact trStepP_none c f l hf he (by simp [trFn, hk, p]) (fun V os d => trNone_any c f l p V os d) w ht

theorem trStepP_no (c : Cfg) (f : Frm) (l : Cel) (hf : f.Fits) (he : (trErr c f == 0) = false) (w : World) (ht : Tab w) : Calls Tryd.prog 24 #[c.v, f.v, l.v] w
    fun e w' => e = .returned (.tuple #[zeroAct.v, zeroFrm.v, .int .i64 (trErr c f)]) ∧ Ext w w' := by
  have HF := Lib.hid hf
  have HT := Lib.hid ht
  clear hf ht
  cases hp : partOk c
  · have HG := Lib.hid (trErr_conf (f := f) hp)
    have HC := Lib.hid (conf_no hp)
    clear hp he
    go_enter Tryd.func24, Tryd.ntmps24
    go_wp2_with (go_at_call 44; refine (partCheck_any c _).mono ?_; rintro e w1 ⟨rfl, os1, n1, rfl⟩; rw [HC.out])
    (refine bodyPost_ret (v := .tuple #[zeroAct.v, zeroFrm.v, .int .i64 40]) (by simp [results, Tryd.results24, go_sem]) rfl ⟨by rw [HG.out], EX⟩)
  · have HC := Lib.hid (conf_ok hp)
    cases h2 : (c.object == 1)
    · have HG := Lib.hid (trErr_obj (f := f) h2)
      have h3 : (c.object != 1) = true := by simpa using h2
      clear hp he
      go_enter Tryd.func24, Tryd.ntmps24
      go_wp2_with (go_at_call 44; refine (partCheck_any c _).mono ?_; rintro e w1 ⟨rfl, os1, n1, rfl⟩; rw [HC.out])
      (refine bodyPost_ret (v := .tuple #[zeroAct.v, zeroFrm.v, .int .i64 40]) (by simp [results, Tryd.results24, go_sem]) rfl ⟨by rw [HG.out], EX⟩)
    · cases h4 : trMay c f
      · have HG := Lib.hid (trErr_arg hp h2 h4)
        have HM := Lib.hid h4
        have HOB : Hid (c.object = 1) := Lib.hid (by simpa using h2)
        have h3 : (c.object != 1) = false := by simpa using h2
        clear hp he h4
        go_enter Tryd.func24, Tryd.ntmps24
        go_wp2_with (first | (go_at_call 44; refine (partCheck_any c _).mono ?_; rintro e w1 ⟨rfl, os1, n1, rfl⟩; rw [HC.out]) | (go_at_call 45; refine (trMay_b c f HF.out HOB.out (((((w.alloc (.cells #[.int .u8 c.object, .int .i64 c.instances, .int .i64 c.threads, .int .u8 c.kind, .int .i64 c.stripes, .int .i64 c.bits, .int .i64 c.cap, .int .i64 c.node, .int .i64 c.batch, .int .i64 c.chunk, .int .u64 c.limit, .int .u64 c.most] 24)).alloc (.cells #[.int .u8 f.kind, .int .u32 f.a, .int .u32 f.b, .int .u8 f.pc, .int .u8 f.i, .int .u8 f.j, .int .u8 f.n, .int .u8 f.p, .int .u8 f.h, .int .u32 f.x, .int .u32 f.y] 27)).alloc (.cells #[.int .u64 l.tag, .int .u64 l.a, .int .u64 l.b, .int .u64 l.c] 37)).alloc (.cells #[.int .u8 0, .int .i64 0, .int .u64 0, .int .u64 0, .int .u64 0, .int .i64 0, .int .u32 0] 30)).alloc (.cells #[.int .u8 zeroFrm.kind, .int .u32 zeroFrm.a, .int .u32 zeroFrm.b, .int .u8 zeroFrm.pc, .int .u8 zeroFrm.i, .int .u8 zeroFrm.j, .int .u8 zeroFrm.n, .int .u8 zeroFrm.p, .int .u8 zeroFrm.h, .int .u32 zeroFrm.x, .int .u32 zeroFrm.y] 27)) _ _ (by simp [go_sem]) (Tab.ext HT.out EX) EX).mono ?_; rintro e w2 ⟨rfl, os2, n2, rfl⟩; rw [HM.out]))
        (refine bodyPost_ret (v := .tuple #[zeroAct.v, zeroFrm.v, .int .i64 2]) (by simp [results, Tryd.results24, go_sem]) rfl ⟨by rw [HG.out], EX⟩)
      · rw [trErr_yes hp h2 h4] at he
        cases he

theorem zeroCel_fits : (Cel.mk 0 0 0 0).Fits := ⟨by decide, by decide, by decide, by decide⟩
theorem trNext_any (c : Cfg) (f : Frm) (hf : f.Fits) (w : World) (ht : Tab w) : Calls Tryd.prog 8 #[c.v, f.v] w
    fun e w' => e = .returned (.tuple #[(trNextA c f).v, .int .i64 (trErr c f)]) ∧ Ext w w' := by
  have HF := Lib.hid hf
  have HT := Lib.hid ht
  clear ht hf
  obtain ⟨E, hE⟩ : ∃ E, trErr c f = E := ⟨_, rfl⟩
  have HE := Lib.hid hE
  cases h0 : (E == 0)
  · have HN : Hid (trNextA c f = zeroAct) := Lib.hid (by simp [trNextA, hE, h0])
    have H0 : Hid ((trErr c f == 0) = false) := Lib.hid (by rw [hE]; exact h0)
    clear hE
    go_enter Tryd.func8, Tryd.ntmps8
    go_wp2_with (go_at_call 24; refine (trStepP_no c f ⟨0, 0, 0, 0⟩ HF.out H0.out _ (Tab.ext HT.out EX)).mono ?_; rintro e w1 ⟨rfl, os1, n1, rfl⟩; rw [HE.out])
    refine bodyPost_ret (v := .tuple #[zeroAct.v, .int .i64 E]) (by simp [results, Tryd.results8, go_sem]) rfl ?_
    exact ⟨by rw [HN.out, HE.out], EX⟩
  · obtain rfl : E = 0 := by simpa using h0
    have HN : Hid (trNextA c f = trStep c f) := Lib.hid (by simp [trNextA, hE])
    obtain ⟨A, hA⟩ : ∃ A, trStep c f = A := ⟨_, rfl⟩
    obtain ⟨G, hG⟩ : ∃ G, trBehind c f ⟨0, 0, 0, 0⟩ = G := ⟨_, rfl⟩
    have HA := Lib.hid hA
    have HG := Lib.hid hG
    clear hE hA hG
    go_enter Tryd.func8, Tryd.ntmps8
    go_wp2_with (go_at_call 24; refine (trStepP_any c f ⟨0, 0, 0, 0⟩ HF.out zeroCel_fits HE.out _ (Tab.ext HT.out EX)).mono ?_; rintro e w1 ⟨rfl, os1, n1, rfl⟩; rw [HA.out, HG.out])
    refine bodyPost_ret (v := .tuple #[A.v, .int .i64 0]) (by simp [results, Tryd.results8, go_sem]) rfl ?_
    exact ⟨by rw [HN.out, HE.out, HA.out], EX⟩
theorem trAfter_any (c : Cfg) (f : Frm) (l : Cel) (hf : f.Fits) (hl : l.Fits) (w : World) (ht : Tab w) : Calls Tryd.prog 10 #[c.v, f.v, l.v] w
    fun e w' => e = .returned (.tuple #[(trAfterA c f l).v, .int .i64 (trErr c f)]) ∧ Ext w w' := by
  have HF := Lib.hid hf
  have HT := Lib.hid ht
  have HL := Lib.hid hl
  clear ht hf hl
  obtain ⟨E, hE⟩ : ∃ E, trErr c f = E := ⟨_, rfl⟩
  have HE := Lib.hid hE
  cases h0 : (E == 0)
  · have HN : Hid (trAfterA c f l = zeroFrm) := Lib.hid (by simp [trAfterA, hE, h0])
    have H0 : Hid ((trErr c f == 0) = false) := Lib.hid (by rw [hE]; exact h0)
    clear hE
    go_enter Tryd.func10, Tryd.ntmps10
    go_wp2_with (go_at_call 24; refine (trStepP_no c f l HF.out H0.out _ (Tab.ext HT.out EX)).mono ?_; rintro e w1 ⟨rfl, os1, n1, rfl⟩; rw [HE.out])
    refine bodyPost_ret (v := .tuple #[zeroFrm.v, .int .i64 E]) (by simp [results, Tryd.results10, go_sem]) rfl ?_
    exact ⟨by rw [HN.out, HE.out], EX⟩
  · obtain rfl : E = 0 := by simpa using h0
    have HN : Hid (trAfterA c f l = trBehind c f l) := Lib.hid (by simp [trAfterA, hE])
    obtain ⟨A, hA⟩ : ∃ A, trStep c f = A := ⟨_, rfl⟩
    obtain ⟨G, hG⟩ : ∃ G, trBehind c f l = G := ⟨_, rfl⟩
    have HA := Lib.hid hA
    have HG := Lib.hid hG
    clear hE hA hG
    go_enter Tryd.func10, Tryd.ntmps10
    go_wp2_with (go_at_call 24; refine (trStepP_any c f l HF.out HL.out HE.out _ (Tab.ext HT.out EX)).mono ?_; rintro e w1 ⟨rfl, os1, n1, rfl⟩; rw [HA.out, HG.out])
    refine bodyPost_ret (v := .tuple #[G.v, .int .i64 0]) (by simp [results, Tryd.results10, go_sem]) rfl ?_
    exact ⟨by rw [HN.out, HE.out, HG.out], EX⟩
end Go.Proofs.YtpaplhkjaniafaaDoor
