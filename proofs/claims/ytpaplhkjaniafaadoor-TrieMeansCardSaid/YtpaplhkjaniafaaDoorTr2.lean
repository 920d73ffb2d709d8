/- The walks of the layer 'trie': whether a frame may be. -/
import Derived.Test.YtpaplhkjaniafaaDoorTr1
namespace Go.Proofs.YtpaplhkjaniafaaDoor
open Go Go.RowKit
set_option maxRecDepth 100000
set_option maxHeartbeats 8000000

theorem trFn_there {f : Frm} (hk : f.kind = 1 ∨ f.kind = 2 ∨ f.kind = 3) (hp : 0 ≤ f.pc) : (trFn f).isSome = trThere f.kind f.pc := by
  rcases hk with hk | hk | hk
  · by_cases h0 : f.pc = 0
    · simp [trFn, trThere, hk, h0]
    by_cases h1 : f.pc = 1
    · simp [trFn, trThere, hk, h1]
    by_cases h2 : f.pc = 2
    · simp [trFn, trThere, hk, h2]
    by_cases h3 : f.pc = 3
    · simp [trFn, trThere, hk, h3]
    by_cases h5 : f.pc = 5
    · simp [trFn, trThere, hk, h5]
    by_cases h6 : f.pc = 6
    · simp [trFn, trThere, hk, h6]
    by_cases h7 : f.pc = 7
    · simp [trFn, trThere, hk, h7]
    simp [trFn, trThere, hk, h0, h1, h2, h3, h5, h6, h7]
    omega
  all_goals
    by_cases h0 : f.pc = 0
    · simp [trFn, trThere, hk, h0]
    by_cases h2 : f.pc = 2
    · simp [trFn, trThere, hk, h2]
    by_cases h3 : f.pc = 3
    · simp [trFn, trThere, hk, h3]
    by_cases h6 : f.pc = 6
    · simp [trFn, trThere, hk, h6]
    by_cases h8 : f.pc = 8
    · simp [trFn, trThere, hk, h8]
    simp [trFn, trThere, hk, h0, h2, h3, h6, h8]
theorem trMay_eq {c : Cfg} {f : Frm} (hf : f.Fits) (ho : c.object = 1) : trMay c f = (opErr c (trOp f) == 0 && decide (f.h ≤ trMost c f) && (trFn f).isSome) := by
  by_cases h : opErr c (trOp f) = 0
  · rw [trFn_there (opErr_facts hf ho h).1 hf.pc.1, trMay]
    cases (opErr c (trOp f) == 0) <;> cases decide (f.h ≤ trMost c f) <;> cases trThere f.kind f.pc <;> rfl
  · have h' : (opErr c (trOp f) == 0) = false := by simpa using h
    rw [trMay, h']
    rfl
theorem trFn_g (f : Frm) : trFn f = none ∨ ∃ g, trFn f = some g := by
  cases trFn f with
  | none => exact Or.inl rfl
  | some g => exact Or.inr ⟨g, rfl⟩

theorem trMayW_any (c : Cfg) (f : Frm) (hf : f.Fits) (ho : c.object = 1) (V w : World) (ht : Tab w) (hw : Ext (V.alloc (.cells (rn c (f)) 97)) w) : Calls Tryd.prog 45 #[.pointer (some ⟨V.heap.size, 0, none⟩)] w
    fun e w' => e = .returned (.bool (trMay c f)) ∧ Ext w w' := by
  have HT := Lib.hid ht
  have HF := Lib.hid hf
  have hop := trOp_fits hf
  have hM := trMay_eq hf ho
  have HB : Hid (opErr c (trOp f) = 0 → 1 ≤ c.bits ∧ c.bits ≤ 6) := Lib.hid fun h => (opErr_facts hf ho h).2.2.2.2
  clear ht
  obtain ⟨os, d, rfl⟩ := hw
  obtain ⟨⟨k0, k1⟩, ⟨a0, a1⟩, ⟨b0, b1⟩, ⟨p0, p1⟩, ⟨i0, i1⟩, ⟨j0, j1⟩, ⟨m0, m1⟩, ⟨q0, q1⟩, ⟨h0, h1⟩, ⟨x0, x1⟩, ⟨y0, y1⟩⟩ := hf
  clear ho
  obtain ⟨E, hE⟩ : ∃ E, opErr c (trOp f) = E := ⟨_, rfl⟩
  rw [hE] at hM
  have HE := Lib.hid hE
  have HB : Hid (E = 0 → 1 ≤ c.bits ∧ c.bits ≤ 6) := Lib.hid (by rw [← hE]; exact HB.out)
  clear hE
  have hne1 : ∀ (w : World) (g : Nat), Sem.run Tryd.prog (binOp .neq 99 (.func (.func g) #[] #[]) .nilFunc) w = .ok (.bool true) w := fun _ _ => by kernel_rfl
  have hne0 : ∀ (w : World), Sem.run Tryd.prog (binOp .neq 99 .nilFunc .nilFunc) w = .ok (.bool false) w := fun _ => by kernel_rfl
  cases hk1 : (f.kind == 1)
  · cases hk3 : (f.kind == 3)
    · skip
      have hop' : trOp f = ⟨f.kind, f.a, f.b, 0⟩ := by unfold trOp; rw [hk1]; rfl
      have hmo : trMost c f = f.b := by unfold trMost; rw [hk3]; rfl
      rw [hmo] at hM
      rw [hop'] at hop HE
      have HO := Lib.hid hop
      clear hop hop' hmo
      cases e0 : (E == 0)
      · have HM : Hid (trMay c f = false) := Lib.hid (by rw [hM, e0]; rfl)
        have e1 : (E != 0) = true := by simpa using e0
        clear hM
        go_enter Tryd.func45, Tryd.ntmps45
        go_wp2
        go_region
        go_upto_region 8 with fail
        have HG : Hid (trFnV (trFn f) = trFnV (trFn f)) := rfl
        ((refine wp_region_ext_lit (by kernel_rfl) (by kernel_rfl) ?_); (repeat (go_big_quiet_step ((first | (go_at_call 37; exact quiet_ext ((opCheck_any c ⟨f.kind, f.a, f.b, 0⟩ HO.out _ (Tab.ext HT.out EX)).mono fun e w' ⟨he, hx⟩ => ⟨by rw [he, HE.out], hx⟩)) | (go_at_call 46; exact quiet_ext ((trState_any c f HF.out V _ EX).mono fun e w' ⟨he, hx⟩ => ⟨by rw [he, HG.out], hx⟩)))))); (refine wpQuiet_nil ?_; intro _ hw'; obtain ⟨⟨osq, nq⟩, hw''⟩ := hw'; replace hw'' : _ = grew _ osq nq := hw''; subst hw''))
        go_wp2
        go_ret
        refine ⟨ret_bool ?_, EX⟩
        rw [HM.out]
      · obtain rfl : E = 0 := by simpa using e0
        rcases trFn_g f with hg | ⟨g, hg⟩
        · have HG : Hid (trFnV (trFn f) = .nilFunc) := Lib.hid (by rw [hg]; rfl)
          rw [hg] at hM
          have HM := Lib.hid hM
          clear hM hg
          cases hh : decide (f.h ≤ f.b)
          · have HH := Lib.hid hh
            go_enter Tryd.func45, Tryd.ntmps45
            go_wp2
            go_region
            go_upto_region 8 with fail
            ((refine wp_region_ext_lit (by kernel_rfl) (by kernel_rfl) ?_); (repeat (go_big_quiet_step ((first | (go_at_call 37; exact quiet_ext ((opCheck_any c ⟨f.kind, f.a, f.b, 0⟩ HO.out _ (Tab.ext HT.out EX)).mono fun e w' ⟨he, hx⟩ => ⟨by rw [he, HE.out], hx⟩)) | (go_at_call 46; exact quiet_ext ((trState_any c f HF.out V _ EX).mono fun e w' ⟨he, hx⟩ => ⟨by rw [he, HG.out], hx⟩)))))); (refine wpQuiet_nil ?_; intro _ hw'; obtain ⟨⟨osq, nq⟩, hw''⟩ := hw'; replace hw'' : _ = grew _ osq nq := hw''; subst hw''))
            go_wp2
            go_ret
            refine ⟨ret_bool ?_, EX⟩
            rw [HM.out, HH.out]
            rfl
          · have HH := Lib.hid hh
            go_enter Tryd.func45, Tryd.ntmps45
            go_wp2
            go_region
            go_upto_region 8 with fail
            ((refine wp_region_ext_lit (by kernel_rfl) (by kernel_rfl) ?_); (repeat (go_big_quiet_step ((first | (go_at_call 37; exact quiet_ext ((opCheck_any c ⟨f.kind, f.a, f.b, 0⟩ HO.out _ (Tab.ext HT.out EX)).mono fun e w' ⟨he, hx⟩ => ⟨by rw [he, HE.out], hx⟩)) | (go_at_call 46; exact quiet_ext ((trState_any c f HF.out V _ EX).mono fun e w' ⟨he, hx⟩ => ⟨by rw [he, HG.out], hx⟩)))))); (refine wpQuiet_nil ?_; intro _ hw'; obtain ⟨⟨osq, nq⟩, hw''⟩ := hw'; replace hw'' : _ = grew _ osq nq := hw''; subst hw''))
            go_wp2
            go_ret
            refine ⟨ret_bool ?_, EX⟩
            rw [HM.out, HH.out]
            rfl
        · have HG : Hid (trFnV (trFn f) = (.func (.func g) #[] #[])) := Lib.hid (by rw [hg]; rfl)
          rw [hg] at hM
          have HM := Lib.hid hM
          clear hM hg
          cases hh : decide (f.h ≤ f.b)
          · have HH := Lib.hid hh
            go_enter Tryd.func45, Tryd.ntmps45
            go_wp2
            go_region
            go_upto_region 8 with fail
            ((refine wp_region_ext_lit (by kernel_rfl) (by kernel_rfl) ?_); (repeat (go_big_quiet_step ((first | (go_at_call 37; exact quiet_ext ((opCheck_any c ⟨f.kind, f.a, f.b, 0⟩ HO.out _ (Tab.ext HT.out EX)).mono fun e w' ⟨he, hx⟩ => ⟨by rw [he, HE.out], hx⟩)) | (go_at_call 46; exact quiet_ext ((trState_any c f HF.out V _ EX).mono fun e w' ⟨he, hx⟩ => ⟨by rw [he, HG.out], hx⟩)))))); (refine wpQuiet_nil ?_; intro _ hw'; obtain ⟨⟨osq, nq⟩, hw''⟩ := hw'; replace hw'' : _ = grew _ osq nq := hw''; subst hw''))
            go_wp2
            go_ret
            refine ⟨ret_bool ?_, EX⟩
            rw [HM.out, HH.out]
            rfl
          · have HH := Lib.hid hh
            go_enter Tryd.func45, Tryd.ntmps45
            go_wp2
            go_region
            go_upto_region 8 with fail
            ((refine wp_region_ext_lit (by kernel_rfl) (by kernel_rfl) ?_); (repeat (go_big_quiet_step ((first | (go_at_call 37; exact quiet_ext ((opCheck_any c ⟨f.kind, f.a, f.b, 0⟩ HO.out _ (Tab.ext HT.out EX)).mono fun e w' ⟨he, hx⟩ => ⟨by rw [he, HE.out], hx⟩)) | (go_at_call 46; exact quiet_ext ((trState_any c f HF.out V _ EX).mono fun e w' ⟨he, hx⟩ => ⟨by rw [he, HG.out], hx⟩)))))); (refine wpQuiet_nil ?_; intro _ hw'; obtain ⟨⟨osq, nq⟩, hw''⟩ := hw'; replace hw'' : _ = grew _ osq nq := hw''; subst hw''))
            go_wp2
            go_ret
            refine ⟨ret_bool ?_, EX⟩
            rw [HM.out, HH.out]
            rfl
    · skip
      have hop' : trOp f = ⟨f.kind, f.a, f.b, 0⟩ := by unfold trOp; rw [hk1]; rfl
      have hmo : trMost c f = c.bits := by unfold trMost; rw [hk3]; rfl
      rw [hmo] at hM
      rw [hop'] at hop HE
      have HO := Lib.hid hop
      clear hop hop' hmo
      cases e0 : (E == 0)
      · have HM : Hid (trMay c f = false) := Lib.hid (by rw [hM, e0]; rfl)
        have e1 : (E != 0) = true := by simpa using e0
        clear hM
        go_enter Tryd.func45, Tryd.ntmps45
        go_wp2
        go_region
        go_upto_region 8 with fail
        have HG : Hid (trFnV (trFn f) = trFnV (trFn f)) := rfl
        ((refine wp_region_ext_lit (by kernel_rfl) (by kernel_rfl) ?_); (repeat (go_big_quiet_step ((first | (go_at_call 37; exact quiet_ext ((opCheck_any c ⟨f.kind, f.a, f.b, 0⟩ HO.out _ (Tab.ext HT.out EX)).mono fun e w' ⟨he, hx⟩ => ⟨by rw [he, HE.out], hx⟩)) | (go_at_call 46; exact quiet_ext ((trState_any c f HF.out V _ EX).mono fun e w' ⟨he, hx⟩ => ⟨by rw [he, HG.out], hx⟩)))))); (refine wpQuiet_nil ?_; intro _ hw'; obtain ⟨⟨osq, nq⟩, hw''⟩ := hw'; replace hw'' : _ = grew _ osq nq := hw''; subst hw''))
        go_wp2
        go_ret
        refine ⟨ret_bool ?_, EX⟩
        rw [HM.out]
      · obtain rfl : E = 0 := by simpa using e0
        obtain ⟨cb0, cb1⟩ := HB.out rfl
        have hwb : IntKind.u32.wrap c.bits = c.bits := by rw [IntKind.wrap_u32]; omega
        rcases trFn_g f with hg | ⟨g, hg⟩
        · have HG : Hid (trFnV (trFn f) = .nilFunc) := Lib.hid (by rw [hg]; rfl)
          rw [hg] at hM
          have HM := Lib.hid hM
          clear hM hg
          cases hh : decide (f.h ≤ c.bits)
          · have HH := Lib.hid hh
            go_enter Tryd.func45, Tryd.ntmps45
            go_wp2
            go_region
            go_upto_region 8 with fail
            ((refine wp_region_ext_lit (by kernel_rfl) (by kernel_rfl) ?_); (repeat (go_big_quiet_step ((first | (go_at_call 37; exact quiet_ext ((opCheck_any c ⟨f.kind, f.a, f.b, 0⟩ HO.out _ (Tab.ext HT.out EX)).mono fun e w' ⟨he, hx⟩ => ⟨by rw [he, HE.out], hx⟩)) | (go_at_call 46; exact quiet_ext ((trState_any c f HF.out V _ EX).mono fun e w' ⟨he, hx⟩ => ⟨by rw [he, HG.out], hx⟩)))))); (refine wpQuiet_nil ?_; intro _ hw'; obtain ⟨⟨osq, nq⟩, hw''⟩ := hw'; replace hw'' : _ = grew _ osq nq := hw''; subst hw''))
            go_wp2
            go_ret
            refine ⟨ret_bool ?_, EX⟩
            rw [HM.out, HH.out]
            rfl
          · have HH := Lib.hid hh
            go_enter Tryd.func45, Tryd.ntmps45
            go_wp2
            go_region
            go_upto_region 8 with fail
            ((refine wp_region_ext_lit (by kernel_rfl) (by kernel_rfl) ?_); (repeat (go_big_quiet_step ((first | (go_at_call 37; exact quiet_ext ((opCheck_any c ⟨f.kind, f.a, f.b, 0⟩ HO.out _ (Tab.ext HT.out EX)).mono fun e w' ⟨he, hx⟩ => ⟨by rw [he, HE.out], hx⟩)) | (go_at_call 46; exact quiet_ext ((trState_any c f HF.out V _ EX).mono fun e w' ⟨he, hx⟩ => ⟨by rw [he, HG.out], hx⟩)))))); (refine wpQuiet_nil ?_; intro _ hw'; obtain ⟨⟨osq, nq⟩, hw''⟩ := hw'; replace hw'' : _ = grew _ osq nq := hw''; subst hw''))
            go_wp2
            go_ret
            refine ⟨ret_bool ?_, EX⟩
            rw [HM.out, HH.out]
            rfl
        · have HG : Hid (trFnV (trFn f) = (.func (.func g) #[] #[])) := Lib.hid (by rw [hg]; rfl)
          rw [hg] at hM
          have HM := Lib.hid hM
          clear hM hg
          cases hh : decide (f.h ≤ c.bits)
          · have HH := Lib.hid hh
            go_enter Tryd.func45, Tryd.ntmps45
            go_wp2
            go_region
            go_upto_region 8 with fail
            ((refine wp_region_ext_lit (by kernel_rfl) (by kernel_rfl) ?_); (repeat (go_big_quiet_step ((first | (go_at_call 37; exact quiet_ext ((opCheck_any c ⟨f.kind, f.a, f.b, 0⟩ HO.out _ (Tab.ext HT.out EX)).mono fun e w' ⟨he, hx⟩ => ⟨by rw [he, HE.out], hx⟩)) | (go_at_call 46; exact quiet_ext ((trState_any c f HF.out V _ EX).mono fun e w' ⟨he, hx⟩ => ⟨by rw [he, HG.out], hx⟩)))))); (refine wpQuiet_nil ?_; intro _ hw'; obtain ⟨⟨osq, nq⟩, hw''⟩ := hw'; replace hw'' : _ = grew _ osq nq := hw''; subst hw''))
            go_wp2
            go_ret
            refine ⟨ret_bool ?_, EX⟩
            rw [HM.out, HH.out]
            rfl
          · have HH := Lib.hid hh
            go_enter Tryd.func45, Tryd.ntmps45
            go_wp2
            go_region
            go_upto_region 8 with fail
            ((refine wp_region_ext_lit (by kernel_rfl) (by kernel_rfl) ?_); (repeat (go_big_quiet_step ((first | (go_at_call 37; exact quiet_ext ((opCheck_any c ⟨f.kind, f.a, f.b, 0⟩ HO.out _ (Tab.ext HT.out EX)).mono fun e w' ⟨he, hx⟩ => ⟨by rw [he, HE.out], hx⟩)) | (go_at_call 46; exact quiet_ext ((trState_any c f HF.out V _ EX).mono fun e w' ⟨he, hx⟩ => ⟨by rw [he, HG.out], hx⟩)))))); (refine wpQuiet_nil ?_; intro _ hw'; obtain ⟨⟨osq, nq⟩, hw''⟩ := hw'; replace hw'' : _ = grew _ osq nq := hw''; subst hw''))
            go_wp2
            go_ret
            refine ⟨ret_bool ?_, EX⟩
            rw [HM.out, HH.out]
            rfl
  · have hk3 : (f.kind == 3) = false := by simp at hk1 ⊢; omega
    have hop' : trOp f = ⟨f.kind, f.a, f.b, f.y⟩ := by unfold trOp; rw [hk1]; rfl
    have hmo : trMost c f = f.b := by unfold trMost; rw [hk3]; rfl
    rw [hmo] at hM
    rw [hop'] at hop HE
    have HO := Lib.hid hop
    clear hop hop' hmo
    cases e0 : (E == 0)
    · have HM : Hid (trMay c f = false) := Lib.hid (by rw [hM, e0]; rfl)
      have e1 : (E != 0) = true := by simpa using e0
      clear hM
      go_enter Tryd.func45, Tryd.ntmps45
      go_wp2
      go_region
      go_upto_region 8 with fail
      have HG : Hid (trFnV (trFn f) = trFnV (trFn f)) := rfl
      ((refine wp_region_ext_lit (by kernel_rfl) (by kernel_rfl) ?_); (repeat (go_big_quiet_step ((first | (go_at_call 37; exact quiet_ext ((opCheck_any c ⟨f.kind, f.a, f.b, f.y⟩ HO.out _ (Tab.ext HT.out EX)).mono fun e w' ⟨he, hx⟩ => ⟨by rw [he, HE.out], hx⟩)) | (go_at_call 46; exact quiet_ext ((trState_any c f HF.out V _ EX).mono fun e w' ⟨he, hx⟩ => ⟨by rw [he, HG.out], hx⟩)))))); (refine wpQuiet_nil ?_; intro _ hw'; obtain ⟨⟨osq, nq⟩, hw''⟩ := hw'; replace hw'' : _ = grew _ osq nq := hw''; subst hw''))
      go_wp2
      go_ret
      refine ⟨ret_bool ?_, EX⟩
      rw [HM.out]
    · obtain rfl : E = 0 := by simpa using e0
      rcases trFn_g f with hg | ⟨g, hg⟩
      · have HG : Hid (trFnV (trFn f) = .nilFunc) := Lib.hid (by rw [hg]; rfl)
        rw [hg] at hM
        have HM := Lib.hid hM
        clear hM hg
        cases hh : decide (f.h ≤ f.b)
        · have HH := Lib.hid hh
          go_enter Tryd.func45, Tryd.ntmps45
          go_wp2
          go_region
          go_upto_region 8 with fail
          ((refine wp_region_ext_lit (by kernel_rfl) (by kernel_rfl) ?_); (repeat (go_big_quiet_step ((first | (go_at_call 37; exact quiet_ext ((opCheck_any c ⟨f.kind, f.a, f.b, f.y⟩ HO.out _ (Tab.ext HT.out EX)).mono fun e w' ⟨he, hx⟩ => ⟨by rw [he, HE.out], hx⟩)) | (go_at_call 46; exact quiet_ext ((trState_any c f HF.out V _ EX).mono fun e w' ⟨he, hx⟩ => ⟨by rw [he, HG.out], hx⟩)))))); (refine wpQuiet_nil ?_; intro _ hw'; obtain ⟨⟨osq, nq⟩, hw''⟩ := hw'; replace hw'' : _ = grew _ osq nq := hw''; subst hw''))
          go_wp2
          go_ret
          refine ⟨ret_bool ?_, EX⟩
          rw [HM.out, HH.out]
          rfl
        · have HH := Lib.hid hh
          go_enter Tryd.func45, Tryd.ntmps45
          go_wp2
          go_region
          go_upto_region 8 with fail
          ((refine wp_region_ext_lit (by kernel_rfl) (by kernel_rfl) ?_); (repeat (go_big_quiet_step ((first | (go_at_call 37; exact quiet_ext ((opCheck_any c ⟨f.kind, f.a, f.b, f.y⟩ HO.out _ (Tab.ext HT.out EX)).mono fun e w' ⟨he, hx⟩ => ⟨by rw [he, HE.out], hx⟩)) | (go_at_call 46; exact quiet_ext ((trState_any c f HF.out V _ EX).mono fun e w' ⟨he, hx⟩ => ⟨by rw [he, HG.out], hx⟩)))))); (refine wpQuiet_nil ?_; intro _ hw'; obtain ⟨⟨osq, nq⟩, hw''⟩ := hw'; replace hw'' : _ = grew _ osq nq := hw''; subst hw''))
          go_wp2
          go_ret
          refine ⟨ret_bool ?_, EX⟩
          rw [HM.out, HH.out]
          rfl
      · have HG : Hid (trFnV (trFn f) = (.func (.func g) #[] #[])) := Lib.hid (by rw [hg]; rfl)
        rw [hg] at hM
        have HM := Lib.hid hM
        clear hM hg
        cases hh : decide (f.h ≤ f.b)
        · have HH := Lib.hid hh
          go_enter Tryd.func45, Tryd.ntmps45
          go_wp2
          go_region
          go_upto_region 8 with fail
          ((refine wp_region_ext_lit (by kernel_rfl) (by kernel_rfl) ?_); (repeat (go_big_quiet_step ((first | (go_at_call 37; exact quiet_ext ((opCheck_any c ⟨f.kind, f.a, f.b, f.y⟩ HO.out _ (Tab.ext HT.out EX)).mono fun e w' ⟨he, hx⟩ => ⟨by rw [he, HE.out], hx⟩)) | (go_at_call 46; exact quiet_ext ((trState_any c f HF.out V _ EX).mono fun e w' ⟨he, hx⟩ => ⟨by rw [he, HG.out], hx⟩)))))); (refine wpQuiet_nil ?_; intro _ hw'; obtain ⟨⟨osq, nq⟩, hw''⟩ := hw'; replace hw'' : _ = grew _ osq nq := hw''; subst hw''))
          go_wp2
          go_ret
          refine ⟨ret_bool ?_, EX⟩
          rw [HM.out, HH.out]
          rfl
        · have HH := Lib.hid hh
          go_enter Tryd.func45, Tryd.ntmps45
          go_wp2
          go_region
          go_upto_region 8 with fail
          ((refine wp_region_ext_lit (by kernel_rfl) (by kernel_rfl) ?_); (repeat (go_big_quiet_step ((first | (go_at_call 37; exact quiet_ext ((opCheck_any c ⟨f.kind, f.a, f.b, f.y⟩ HO.out _ (Tab.ext HT.out EX)).mono fun e w' ⟨he, hx⟩ => ⟨by rw [he, HE.out], hx⟩)) | (go_at_call 46; exact quiet_ext ((trState_any c f HF.out V _ EX).mono fun e w' ⟨he, hx⟩ => ⟨by rw [he, HG.out], hx⟩)))))); (refine wpQuiet_nil ?_; intro _ hw'; obtain ⟨⟨osq, nq⟩, hw''⟩ := hw'; replace hw'' : _ = grew _ osq nq := hw''; subst hw''))
          go_wp2
          go_ret
          refine ⟨ret_bool ?_, EX⟩
          rw [HM.out, HH.out]
          rfl
end Go.Proofs.YtpaplhkjaniafaaDoor
