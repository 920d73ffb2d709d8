/- The walk of 'may', the layer 'tree'. -/
import Derived.Test.YtkklhhdkokncnaaDoorTre5a0
import Derived.Test.YtkklhhdkokncnaaDoorTre5a1
import Derived.Test.YtkklhhdkokncnaaDoorTre5a2
import Derived.Test.YtkklhhdkokncnaaDoorTre5a3
import Derived.Test.YtkklhhdkokncnaaDoorTre5b0
import Derived.Test.YtkklhhdkokncnaaDoorTre5b1
import Derived.Test.YtkklhhdkokncnaaDoorTre5b2
import Derived.Test.YtkklhhdkokncnaaDoorTre5b3
import Derived.Test.YtkklhhdkokncnaaDoorAx
namespace Go.Proofs.YtkklhhdkokncnaaDoor
open Go Go.RowKit
set_option maxRecDepth 100000
set_option maxHeartbeats 8000000

theorem treMay_other (c : Cfg) (f : Frm) (s : Value) (hok : TreOk c) (hf : f.Fits) (hk : (f.kind == 5) = false) (b : Nat) (w : World) (ht : Tab w) (hw : Holds w (tl c f s b)) (hs : Sl w s (lvC c) (lvL c)) : Calls Tryd.prog 55 #[.pointer (some ⟨b, 0, none⟩)] w
    fun e w' => e = .returned (.bool (treMay c f)) ∧ Ext w w' := by
  cases e0 : (opErr c ⟨f.kind, f.a, f.b, 0⟩ == 0)
  · exact treMay_other_e c f s hok hf hk b w ht hw hs e0
  cases hb0 : treHas f
  · exact treMay_other_b c f s hok hf hk b w ht hw hs e0 hb0
  cases mn : decide (c.cap < f.n)
  case true => exact treMay_other_mn c f s hok hf hk b w ht hw hs e0 hb0 mn
  cases mp : decide (c.cap < f.p)
  case true => exact treMay_other_mp c f s hok hf hk b w ht hw hs e0 hb0 mn mp
  cases mj : decide (c.chunk < f.j)
  case true => exact treMay_other_mj c f s hok hf hk b w ht hw hs e0 hb0 mn mp mj
  cases mh : decide (treTop c < f.h)
  case true => exact treMay_other_mh c f s hok hf hk b w ht hw hs e0 hb0 mn mp mj mh
  cases z16 : (f.pc == 16)
  case true => exact treMay_other_p2 c f s hok hf hk b w ht hw hs e0 hb0 mn mp mj mh z16
  cases jc : (f.j == c.chunk)
  · exact treMay_other_p1 c f s hok hf hk b w ht hw hs e0 hb0 mn mp mj mh z16 jc
  · exact treMay_other_jc c f s hok hf hk b w ht hw hs e0 hb0 mn mp mj mh z16 jc
end Go.Proofs.YtkklhhdkokncnaaDoor
/- The walk of 'may', the layer 'tree'. -/
namespace Go.Proofs.YtkklhhdkokncnaaDoor
open Go Go.RowKit
set_option maxRecDepth 100000
set_option maxHeartbeats 8000000

theorem treMay_delete (c : Cfg) (f : Frm) (s : Value) (hok : TreOk c) (hf : f.Fits) (hk : (f.kind == 5) = true) (b : Nat) (w : World) (ht : Tab w) (hw : Holds w (tl c f s b)) (hs : Sl w s (lvC c) (lvL c)) : Calls Tryd.prog 55 #[.pointer (some ⟨b, 0, none⟩)] w
    fun e w' => e = .returned (.bool (treMay c f)) ∧ Ext w w' := by
  cases e0 : (opErr c ⟨f.kind, f.a, 0, 0⟩ == 0)
  · exact treMay_delete_e c f s hok hf hk b w ht hw hs e0
  cases hb0 : treHas f
  · exact treMay_delete_b c f s hok hf hk b w ht hw hs e0 hb0
  cases mn : decide (c.cap < f.n)
  case true => exact treMay_delete_mn c f s hok hf hk b w ht hw hs e0 hb0 mn
  cases mp : decide (c.cap < f.p)
  case true => exact treMay_delete_mp c f s hok hf hk b w ht hw hs e0 hb0 mn mp
  cases mj : decide (c.chunk < f.j)
  case true => exact treMay_delete_mj c f s hok hf hk b w ht hw hs e0 hb0 mn mp mj
  cases mh : decide (treTop c < f.h)
  case true => exact treMay_delete_mh c f s hok hf hk b w ht hw hs e0 hb0 mn mp mj mh
  cases z16 : (f.pc == 16)
  case true => exact treMay_delete_p2 c f s hok hf hk b w ht hw hs e0 hb0 mn mp mj mh z16
  cases jc : (f.j == c.chunk)
  · exact treMay_delete_p1 c f s hok hf hk b w ht hw hs e0 hb0 mn mp mj mh z16 jc
  · exact treMay_delete_jc c f s hok hf hk b w ht hw hs e0 hb0 mn mp mj mh z16 jc
end Go.Proofs.YtkklhhdkokncnaaDoor
/- The walks of 'start' and of 'tree.Next'. -/
namespace Go.Proofs.YtkklhhdkokncnaaDoor
open Go Go.RowKit
set_option maxRecDepth 100000
set_option maxHeartbeats 8000000

theorem SlB.low {lo lo' : Nat} {w : World} {v : Value} {n : Nat} {cs : List Value} (h : SlB lo w v n cs) (hl : lo' ≤ lo) : SlB lo' w v n cs := by
  obtain ⟨ad, cap, h1, h2⟩ := h
  exact ⟨ad, cap, h1, h2.to fun b i x hs hc => ⟨Nat.le_trans hl hs, hc⟩⟩
theorem SlB.of {lo : Nat} {w : World} {ad : Option Addr} {n cap : Nat} {cs : List Value} (h : SlNo (fun b => lo ≤ b) w ad n cap cs) : SlB lo w (.slice ad n cap) n cs := ⟨ad, cap, rfl, h⟩
theorem slB_swap {X X' : World} {os : Array Obj} {d d' lo : Nat} {v : Value} {n : Nat} {cs : List Value} (h : SlB lo (grew X os d) v n cs) (hl : X.heap.size ≤ lo) (hs : X'.heap.size = X.heap.size) : SlB X.heap.size (grew X' os d') v n cs :=
  SlB.turn (SlB.low h hl) hs
theorem treMay_any (c : Cfg) (f : Frm) (s : Value) (hok : TreOk c) (hf : f.Fits) (b : Nat) (w : World) (ht : Tab w) (hw : Holds w (tl c f s b)) (hs : Sl w s (lvC c) (lvL c)) : Calls Tryd.prog 55 #[.pointer (some ⟨b, 0, none⟩)] w
    fun e w' => e = .returned (.bool (treMay c f)) ∧ Ext w w' := by
  cases hk : (f.kind == 5)
  · exact treMay_other c f s hok hf hk b w ht hw hs
  · exact treMay_delete c f s hok hf hk b w ht hw hs

/-- A run's cells, all of them. -/
abbrev trArr (c : Cfg) (f : Frm) (s : Value) (rk rv : Int) (td : Bool) : Array Value :=
  #[.int .u8 f.kind, .int .u32 f.a, .int .u32 f.b, .int .u8 f.pc, .int .u8 f.i, .int .u8 f.j, .int .u8 f.n, .int .u8 f.p, .int .u8 f.h, .int .u32 f.x, .int .u32 f.y, .int .u8 c.object, .int .i64 c.instances, .int .i64 c.threads, .int .u8 c.kind, .int .i64 c.stripes, .int .i64 c.bits, .int .i64 c.cap, .int .i64 c.node, .int .i64 c.batch, .int .i64 c.chunk, .int .u64 c.limit, .int .u64 c.most, s, .int .u64 rk, .int .u64 rv, .bool td]

theorem treStart_no (c : Cfg) (f : Frm) (hf : f.Fits) (he : (treErr c f == 0) = false) (w : World) (ht : Tab w) : Calls Tryd.prog 29 #[c.v, f.v] w
    fun e w' => e = .returned (.tuple #[.pointer none, .int .i64 (treErr c f)]) ∧ Ext w w' := by
  have HF := Lib.hid hf
  have HT := Lib.hid ht
  clear hf ht
  cases hp : partOk c
  · have HE := Lib.hid (treErr_conf (f := f) hp)
    have HC := Lib.hid (conf_no hp)
    clear hp he
    go_enter Tryd.func29, Tryd.ntmps29
    go_wp2_with (go_at_call 53; refine (partCheck_any c _).mono ?_; rintro e w1 ⟨rfl, os1, n1, rfl⟩; rw [HC.out])
    go_ret2
    exact ⟨by rw [HE.out]; rfl, EX⟩
  · have HC := Lib.hid (conf_ok hp)
    cases h2 : (c.object == 2)
    · have HE := Lib.hid (treErr_obj (f := f) h2)
      have h3 : (c.object != 2) = true := by simpa using h2
      clear hp he
      go_enter Tryd.func29, Tryd.ntmps29
      go_wp2_with (go_at_call 53; refine (partCheck_any c _).mono ?_; rintro e w1 ⟨rfl, os1, n1, rfl⟩; rw [HC.out])
      go_ret2
      exact ⟨by rw [HE.out]; rfl, EX⟩
    · cases h4 : treMay c f
      · have HE := Lib.hid (treErr_arg hp h2 h4)
        have HM := Lib.hid h4
        have HOK := Lib.hid (treOk_of hp (by simpa using h2))
        have h3 : (c.object != 2) = false := by simpa using h2
        clear hp he h4
        go_enter Tryd.func29, Tryd.ntmps29
        go_upto_region 5 with (first | (go_at_call 53; refine (partCheck_any c _).mono ?_; rintro e w1 ⟨rfl, os1, n1, rfl⟩; rw [HC.out]) | (go_at_call 54; refine (rankLevels_any c.cap c.node HOK.out.cap HOK.out.node _ (Tab.ext HT.out EX)).mono ?_; rintro e w2 ⟨v, rfl, hlv, os2, n2, rfl⟩; obtain ⟨ad, cap, rfl, hlv⟩ := hlv; (try simp only [grew_grew] at hlv); have HLV := Lib.hid hlv; clear hlv))
        refine wp_have (fun W => Hid (Sl W (.slice ad (lvC c) cap) (lvC c) (lvL c))) (Lib.hid (slB_swap (SlB.of HLV.out) (by simp [go_sem]) (by simp [go_sem])).sl) ?_
        intro HSL
        clear HLV
        go_wp2_with (go_at_call 55; refine (treMay_any c f (.slice ad (lvC c) cap) HOK.out HF.out _ _ (Tab.ext HT.out EXX) (by simp [tl, Holds, go_sem]) HSL.out).mono ?_; rintro e w3 ⟨rfl, os3, n3, rfl⟩; rw [HM.out])
        go_ret2
        exact ⟨by rw [HE.out]; rfl, EX⟩
      · rw [treErr_yes hp h2 h4] at he
        cases he

/-- Where a frame may be: its run lies in a new block, behind which only new blocks are laid, its levels among them. -/
def StartYes (c : Cfg) (f : Frm) (w : World) (e : Ending) (w' : World) : Prop :=
  ∃ V ad cap, Ext w V ∧ e = .returned (.tuple #[.pointer (some ⟨V.heap.size, 0, none⟩), .int .i64 0]) ∧ ∃ os d, w' = grew (V.alloc (.cells (trArr c f (.slice ad (lvC c) cap) 0 0 false) 84)) os d ∧ SlNo (fun b => V.heap.size + 1 ≤ b) w' ad (lvC c) cap (lvL c)
theorem treStart_yes (c : Cfg) (f : Frm) (hf : f.Fits) (he : treErr c f = 0) (w : World) (ht : Tab w) : Calls Tryd.prog 29 #[c.v, f.v] w (StartYes c f w) := by
  have HF := Lib.hid hf
  have HT := Lib.hid ht
  obtain ⟨hp, ho, h4⟩ := treErr_ok he
  have HC := Lib.hid (conf_ok hp)
  have HM := Lib.hid h4
  have HOK := Lib.hid (treOk_of hp ho)
  have h2 : (c.object == 2) = true := by simpa using ho
  have h3 : (c.object != 2) = false := by simpa using ho
  clear hf ht hp he h4 ho
  go_enter Tryd.func29, Tryd.ntmps29
  go_upto_region 5 with (first | (go_at_call 53; refine (partCheck_any c _).mono ?_; rintro e w1 ⟨rfl, os1, n1, rfl⟩; rw [HC.out]) | (go_at_call 54; refine (rankLevels_any c.cap c.node HOK.out.cap HOK.out.node _ (Tab.ext HT.out EX)).mono ?_; rintro e w2 ⟨v, rfl, hlv, os2, n2, rfl⟩; obtain ⟨ad, cap, rfl, hlv⟩ := hlv; (try simp only [grew_grew] at hlv); have HLV := Lib.hid hlv; clear hlv))
  refine wp_have (fun W => Hid (SlB (w.heap.size + 3) W (.slice ad (lvC c) cap) (lvC c) (lvL c))) (Lib.hid (SlB.low (slB_swap (SlB.of HLV.out) (by simp [go_sem]) (by simp [go_sem])) (by simp [go_sem]))) ?_
  intro HSB
  have HSL := Lib.hid HSB.out.sl
  clear HLV
  go_wp2_with (go_at_call 55; refine (treMay_any c f (.slice ad (lvC c) cap) HOK.out HF.out _ _ (Tab.ext HT.out EXX) (by simp [tl, Holds, go_sem]) HSL.out).mono ?_; rintro e w3 ⟨rfl, os3, n3, rfl⟩; rw [HM.out])
  refine bodyPost_ret (results_tmp2 rfl _ _ _) rfl ⟨(w.alloc (.cells #[.int .u8 c.object, .int .i64 c.instances, .int .i64 c.threads, .int .u8 c.kind, .int .i64 c.stripes, .int .i64 c.bits, .int .i64 c.cap, .int .i64 c.node, .int .i64 c.batch, .int .i64 c.chunk, .int .u64 c.limit, .int .u64 c.most] 24)).alloc (.cells #[.int .u8 f.kind, .int .u32 f.a, .int .u32 f.b, .int .u8 f.pc, .int .u8 f.i, .int .u8 f.j, .int .u8 f.n, .int .u8 f.p, .int .u8 f.h, .int .u32 f.x, .int .u32 f.y] 27), ad, cap, EX, ?_, _, _, rfl, ?_⟩
  · simp [go_sem]
  · obtain ⟨ad', cap', e, h⟩ := HSB.out
    cases e
    refine h.to fun b i x hs hc => ⟨?_, ext_cell EXX hc⟩
    simp [go_sem]
    omega

theorem treNext_any (c : Cfg) (f : Frm) (hf : f.Fits) (w : World) (ht : Tab w) : Calls Tryd.prog 9 #[c.v, f.v] w
    fun e w' => e = .returned (.tuple #[(treNextA c f).v, .int .i64 (treErr c f)]) ∧ Ext w w' := by
  have HF := Lib.hid hf
  have HT := Lib.hid ht
  clear ht hf
  cases h0 : (treErr c f == 0)
  · have HN : Hid (treNextA c f = zeroAct) := Lib.hid (by simp [treNextA, h0])
    have H0 := Lib.hid h0
    obtain ⟨E, hE⟩ : ∃ E, E = treErr c f := ⟨_, rfl⟩
    have HE := Lib.hid hE
    have h1 : (E != 0) = true := by rw [hE]; simpa using h0
    clear h0 hE
    go_enter Tryd.func9, Tryd.ntmps9
    go_wp2_with (go_at_call 29; refine (treStart_no c f HF.out H0.out _ (Tab.ext HT.out EX)).mono ?_; rintro e w1 ⟨rfl, os1, n1, rfl⟩; rw [← HE.out])
    (refine bodyPost_ret (v := .tuple #[(zeroAct).v, .int .i64 E]) (by simp [results, Tryd.results9, go_sem]) rfl ?_)
    exact ⟨by rw [HN.out, HE.out], EX⟩
  · have he : treErr c f = 0 := by simpa using h0
    have hok := treErr_ok he
    have HN : Hid (treNextA c f = treStep c f) := Lib.hid (by simp [treNextA, he])
    have HE := Lib.hid he
    have HOK := Lib.hid (treOk_of hok.1 hok.2.1)
    have HM := Lib.hid (treMay_facts hok.2.2)
    clear h0 he hok
    go_enter Tryd.func9, Tryd.ntmps9
    go_wp2_with (first | (go_at_call 29; refine (treStart_yes c f HF.out HE.out _ (Tab.ext HT.out EX)).mono ?_; rintro e w1 ⟨V, ad, cap, ⟨osv, dv, rfl⟩, rfl, os1, n1, rfl, hsl⟩; have HSL := Lib.hid hsl.at; clear hsl) | (go_at_call 30; refine (treAct_any c f (.slice ad (lvC c) cap) HOK.out HF.out HM.out.2.1 HM.out.2.2.1 _ _ (Tab.ext HT.out EXX) (by simp [tl, Holds, go_sem]) ⟨ad, cap, rfl, HSL.out.ext EXX⟩).mono ?_; rintro e w2 ⟨rfl, os2, n2, rfl⟩))
    (refine bodyPost_ret (v := .tuple #[(treStep c f).v, .int .i64 0]) (by simp [results, Tryd.results9, go_sem]) rfl ?_)
    exact ⟨by rw [HN.out, HE.out], EX⟩
end Go.Proofs.YtkklhhdkokncnaaDoor
