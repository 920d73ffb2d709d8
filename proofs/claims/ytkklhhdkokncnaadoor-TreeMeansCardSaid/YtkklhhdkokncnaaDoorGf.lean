/- The walk of 'act', the layer 'tree'. -/
import Derived.Test.YtkklhhdkokncnaaDoorTre3a
import Derived.Test.YtkklhhdkokncnaaDoorGe
import Derived.Test.YtkklhhdkokncnaaDoorTre3b
import Derived.Test.YtkklhhdkokncnaaDoorPO
namespace Go.Proofs.YtkklhhdkokncnaaDoor
open Go Go.RowKit
set_option maxRecDepth 100000
set_option maxHeartbeats 8000000

theorem treAct_20 (c : Cfg) (f : Frm) (s : Value) (hc : TreOk c) (hf : f.Fits) (hnum : treNum c f = true) (hp : f.pc = 20) (b : Nat) (w : World) (ht : Tab w) (hw : Holds w (tl c f s b)) (hs : Sl w s (lvC c) (lvL c)) : Calls Tryd.prog 30 #[.pointer (some ⟨b, 0, none⟩)] w
    fun e w' => e = .returned (treStep c f).v ∧ Ext w w' := by
  have hb := tl_lt hw
  have hb1 : b < w.heap.size + 1 := by omega
  have hb2 : b < w.heap.size + 1 + 1 := by omega
  have HK := Lib.hid hw
  have HS := Lib.hid hs
  have HT := Lib.hid ht
  have HF := Lib.hid hf
  have HP := Lib.hid hp
  obtain ⟨m1, m2, m3, m4, m5, m6, m7, m8⟩ := treNum_facts hnum
  have htop := topI_bd c.cap c.node
  change 0 ≤ treTop c ∧ treTop c ≤ 4 at htop
  have hcap := hc.cap
  obtain ⟨⟨k0, k1⟩, ⟨a0, a1⟩, ⟨b0, b1⟩, ⟨p0, p1⟩, ⟨i0, i1⟩, ⟨j0, j1⟩, ⟨n0, n1⟩, ⟨q0, q1⟩, ⟨h0, h1⟩, ⟨x0, x1⟩, ⟨y0, y1⟩⟩ := hf
  obtain ⟨A, hA⟩ : ∃ A, treStep c f = A := ⟨_, rfl⟩
  have HS1 := Lib.hid hA
  have hp' : (f.pc == 20) = true := by simpa using hp
  have hwi : IntKind.i64.wrap f.i = f.i := by rw [IntKind.wrap_i64]; omega
  have hwn : IntKind.i64.wrap f.n = f.n := by rw [IntKind.wrap_i64]; omega
  have hwp : IntKind.i64.wrap f.p = f.p := by rw [IntKind.wrap_i64]; omega
  have hwh : IntKind.i64.wrap f.h = f.h := by rw [IntKind.wrap_i64]; omega
  have hwi1 : IntKind.i64.wrap (f.i - 1) = f.i - 1 := by rw [IntKind.wrap_i64]; omega
  have HBX : Hid (∀ W' : World, Ext (w.alloc (.cells #[.pointer (some ⟨b, 0, none⟩)] 76)) W' → W'.cell? ⟨w.heap.size, 0, none⟩ = some (.pointer (some ⟨b, 0, none⟩))) := Lib.hid fun W' e => ext_cell e (by simp [go_sem])
  simp only [tl, Holds, List.cons_append, List.nil_append] at hw
  clear hp hnum m5 m6 m7 m8 ht hs hA
  go_enter Tryd.func30, Tryd.ntmps30
  go_wp2_with (go_at_call 61; (with_reducible refine (treDone_20 c f s HF.out HP.out b _ (HK.out.ext EX)).mono ?_); rintro e w1 ⟨rfl, os1, n1, rfl⟩; rw [HS1.out])
  refine bodyPost_ret (v := (treStep c f).v) (by rw [HS1.out]; simp [results, Tryd.results30, go_sem]) rfl ⟨rfl, EX⟩
theorem treAct_21 (c : Cfg) (f : Frm) (s : Value) (hc : TreOk c) (hf : f.Fits) (hnum : treNum c f = true) (hp : f.pc = 21) (b : Nat) (w : World) (ht : Tab w) (hw : Holds w (tl c f s b)) (hs : Sl w s (lvC c) (lvL c)) : Calls Tryd.prog 30 #[.pointer (some ⟨b, 0, none⟩)] w
    fun e w' => e = .returned (treStep c f).v ∧ Ext w w' := by
  have hb := tl_lt hw
  have hb1 : b < w.heap.size + 1 := by omega
  have hb2 : b < w.heap.size + 1 + 1 := by omega
  have HK := Lib.hid hw
  have HS := Lib.hid hs
  have HT := Lib.hid ht
  have HF := Lib.hid hf
  have HP := Lib.hid hp
  obtain ⟨m1, m2, m3, m4, m5, m6, m7, m8⟩ := treNum_facts hnum
  have htop := topI_bd c.cap c.node
  change 0 ≤ treTop c ∧ treTop c ≤ 4 at htop
  have hcap := hc.cap
  obtain ⟨⟨k0, k1⟩, ⟨a0, a1⟩, ⟨b0, b1⟩, ⟨p0, p1⟩, ⟨i0, i1⟩, ⟨j0, j1⟩, ⟨n0, n1⟩, ⟨q0, q1⟩, ⟨h0, h1⟩, ⟨x0, x1⟩, ⟨y0, y1⟩⟩ := hf
  obtain ⟨A, hA⟩ : ∃ A, treStep c f = A := ⟨_, rfl⟩
  have HS1 := Lib.hid hA
  have hp' : (f.pc == 21) = true := by simpa using hp
  have hwi : IntKind.i64.wrap f.i = f.i := by rw [IntKind.wrap_i64]; omega
  have hwn : IntKind.i64.wrap f.n = f.n := by rw [IntKind.wrap_i64]; omega
  have hwp : IntKind.i64.wrap f.p = f.p := by rw [IntKind.wrap_i64]; omega
  have hwh : IntKind.i64.wrap f.h = f.h := by rw [IntKind.wrap_i64]; omega
  have hwi1 : IntKind.i64.wrap (f.i - 1) = f.i - 1 := by rw [IntKind.wrap_i64]; omega
  have HBX : Hid (∀ W' : World, Ext (w.alloc (.cells #[.pointer (some ⟨b, 0, none⟩)] 76)) W' → W'.cell? ⟨w.heap.size, 0, none⟩ = some (.pointer (some ⟨b, 0, none⟩))) := Lib.hid fun W' e => ext_cell e (by simp [go_sem])
  simp only [tl, Holds, List.cons_append, List.nil_append] at hw
  clear hp hnum m5 m6 m7 m8 ht hs hA
  go_enter Tryd.func30, Tryd.ntmps30
  go_wp2_with (go_at_call 61; (with_reducible refine (treDone_21 c f s HF.out HP.out b _ (HK.out.ext EX)).mono ?_); rintro e w1 ⟨rfl, os1, n1, rfl⟩; rw [HS1.out])
  refine bodyPost_ret (v := (treStep c f).v) (by rw [HS1.out]; simp [results, Tryd.results30, go_sem]) rfl ⟨rfl, EX⟩
theorem treAct_22 (c : Cfg) (f : Frm) (s : Value) (hc : TreOk c) (hf : f.Fits) (hnum : treNum c f = true) (hp : f.pc = 22) (b : Nat) (w : World) (ht : Tab w) (hw : Holds w (tl c f s b)) (hs : Sl w s (lvC c) (lvL c)) : Calls Tryd.prog 30 #[.pointer (some ⟨b, 0, none⟩)] w
    fun e w' => e = .returned (treStep c f).v ∧ Ext w w' := by
  have hb := tl_lt hw
  have hb1 : b < w.heap.size + 1 := by omega
  have hb2 : b < w.heap.size + 1 + 1 := by omega
  have HK := Lib.hid hw
  have HS := Lib.hid hs
  have HT := Lib.hid ht
  have HF := Lib.hid hf
  have HP := Lib.hid hp
  obtain ⟨m1, m2, m3, m4, m5, m6, m7, m8⟩ := treNum_facts hnum
  have htop := topI_bd c.cap c.node
  change 0 ≤ treTop c ∧ treTop c ≤ 4 at htop
  have hcap := hc.cap
  obtain ⟨⟨k0, k1⟩, ⟨a0, a1⟩, ⟨b0, b1⟩, ⟨p0, p1⟩, ⟨i0, i1⟩, ⟨j0, j1⟩, ⟨n0, n1⟩, ⟨q0, q1⟩, ⟨h0, h1⟩, ⟨x0, x1⟩, ⟨y0, y1⟩⟩ := hf
  obtain ⟨A, hA⟩ : ∃ A, treStep c f = A := ⟨_, rfl⟩
  have HS1 := Lib.hid hA
  have hp' : (f.pc == 22) = true := by simpa using hp
  have hwi : IntKind.i64.wrap f.i = f.i := by rw [IntKind.wrap_i64]; omega
  have hwn : IntKind.i64.wrap f.n = f.n := by rw [IntKind.wrap_i64]; omega
  have hwp : IntKind.i64.wrap f.p = f.p := by rw [IntKind.wrap_i64]; omega
  have hwh : IntKind.i64.wrap f.h = f.h := by rw [IntKind.wrap_i64]; omega
  have hwi1 : IntKind.i64.wrap (f.i - 1) = f.i - 1 := by rw [IntKind.wrap_i64]; omega
  have HBX : Hid (∀ W' : World, Ext (w.alloc (.cells #[.pointer (some ⟨b, 0, none⟩)] 76)) W' → W'.cell? ⟨w.heap.size, 0, none⟩ = some (.pointer (some ⟨b, 0, none⟩))) := Lib.hid fun W' e => ext_cell e (by simp [go_sem])
  simp only [tl, Holds, List.cons_append, List.nil_append] at hw
  clear hp hnum m5 m6 m7 m8 ht hs hA
  go_enter Tryd.func30, Tryd.ntmps30
  go_wp2_with (go_at_call 61; (with_reducible refine (treDone_22 c f s HF.out HP.out b _ (HK.out.ext EX)).mono ?_); rintro e w1 ⟨rfl, os1, n1, rfl⟩; rw [HS1.out])
  refine bodyPost_ret (v := (treStep c f).v) (by rw [HS1.out]; simp [results, Tryd.results30, go_sem]) rfl ⟨rfl, EX⟩
theorem treAct_23 (c : Cfg) (f : Frm) (s : Value) (hc : TreOk c) (hf : f.Fits) (hnum : treNum c f = true) (hp : f.pc = 23) (b : Nat) (w : World) (ht : Tab w) (hw : Holds w (tl c f s b)) (hs : Sl w s (lvC c) (lvL c)) : Calls Tryd.prog 30 #[.pointer (some ⟨b, 0, none⟩)] w
    fun e w' => e = .returned (treStep c f).v ∧ Ext w w' := by
  have hb := tl_lt hw
  have hb1 : b < w.heap.size + 1 := by omega
  have hb2 : b < w.heap.size + 1 + 1 := by omega
  have HK := Lib.hid hw
  have HS := Lib.hid hs
  have HT := Lib.hid ht
  have HF := Lib.hid hf
  have HP := Lib.hid hp
  obtain ⟨m1, m2, m3, m4, m5, m6, m7, m8⟩ := treNum_facts hnum
  have htop := topI_bd c.cap c.node
  change 0 ≤ treTop c ∧ treTop c ≤ 4 at htop
  have hcap := hc.cap
  obtain ⟨⟨k0, k1⟩, ⟨a0, a1⟩, ⟨b0, b1⟩, ⟨p0, p1⟩, ⟨i0, i1⟩, ⟨j0, j1⟩, ⟨n0, n1⟩, ⟨q0, q1⟩, ⟨h0, h1⟩, ⟨x0, x1⟩, ⟨y0, y1⟩⟩ := hf
  obtain ⟨A, hA⟩ : ∃ A, treStep c f = A := ⟨_, rfl⟩
  have HS1 := Lib.hid hA
  have hp' : (f.pc == 23) = true := by simpa using hp
  have hwi : IntKind.i64.wrap f.i = f.i := by rw [IntKind.wrap_i64]; omega
  have hwn : IntKind.i64.wrap f.n = f.n := by rw [IntKind.wrap_i64]; omega
  have hwp : IntKind.i64.wrap f.p = f.p := by rw [IntKind.wrap_i64]; omega
  have hwh : IntKind.i64.wrap f.h = f.h := by rw [IntKind.wrap_i64]; omega
  have hwi1 : IntKind.i64.wrap (f.i - 1) = f.i - 1 := by rw [IntKind.wrap_i64]; omega
  have HBX : Hid (∀ W' : World, Ext (w.alloc (.cells #[.pointer (some ⟨b, 0, none⟩)] 76)) W' → W'.cell? ⟨w.heap.size, 0, none⟩ = some (.pointer (some ⟨b, 0, none⟩))) := Lib.hid fun W' e => ext_cell e (by simp [go_sem])
  simp only [tl, Holds, List.cons_append, List.nil_append] at hw
  clear hp hnum m5 m6 m7 m8 ht hs hA
  go_enter Tryd.func30, Tryd.ntmps30
  go_wp2_with (go_at_call 61; (with_reducible refine (treDone_23 c f s HF.out HP.out b _ (HK.out.ext EX)).mono ?_); rintro e w1 ⟨rfl, os1, n1, rfl⟩; rw [HS1.out])
  refine bodyPost_ret (v := (treStep c f).v) (by rw [HS1.out]; simp [results, Tryd.results30, go_sem]) rfl ⟨rfl, EX⟩
theorem treAct_24 (c : Cfg) (f : Frm) (s : Value) (hc : TreOk c) (hf : f.Fits) (hnum : treNum c f = true) (hp : f.pc = 24) (b : Nat) (w : World) (ht : Tab w) (hw : Holds w (tl c f s b)) (hs : Sl w s (lvC c) (lvL c)) : Calls Tryd.prog 30 #[.pointer (some ⟨b, 0, none⟩)] w
    fun e w' => e = .returned (treStep c f).v ∧ Ext w w' := by
  have hb := tl_lt hw
  have hb1 : b < w.heap.size + 1 := by omega
  have hb2 : b < w.heap.size + 1 + 1 := by omega
  have HK := Lib.hid hw
  have HS := Lib.hid hs
  have HT := Lib.hid ht
  have HF := Lib.hid hf
  have HP := Lib.hid hp
  obtain ⟨m1, m2, m3, m4, m5, m6, m7, m8⟩ := treNum_facts hnum
  have htop := topI_bd c.cap c.node
  change 0 ≤ treTop c ∧ treTop c ≤ 4 at htop
  have hcap := hc.cap
  obtain ⟨⟨k0, k1⟩, ⟨a0, a1⟩, ⟨b0, b1⟩, ⟨p0, p1⟩, ⟨i0, i1⟩, ⟨j0, j1⟩, ⟨n0, n1⟩, ⟨q0, q1⟩, ⟨h0, h1⟩, ⟨x0, x1⟩, ⟨y0, y1⟩⟩ := hf
  obtain ⟨A, hA⟩ : ∃ A, treStep c f = A := ⟨_, rfl⟩
  have HS1 := Lib.hid hA
  have hp' : (f.pc == 24) = true := by simpa using hp
  have hwi : IntKind.i64.wrap f.i = f.i := by rw [IntKind.wrap_i64]; omega
  have hwn : IntKind.i64.wrap f.n = f.n := by rw [IntKind.wrap_i64]; omega
  have hwp : IntKind.i64.wrap f.p = f.p := by rw [IntKind.wrap_i64]; omega
  have hwh : IntKind.i64.wrap f.h = f.h := by rw [IntKind.wrap_i64]; omega
  have hwi1 : IntKind.i64.wrap (f.i - 1) = f.i - 1 := by rw [IntKind.wrap_i64]; omega
  have HBX : Hid (∀ W' : World, Ext (w.alloc (.cells #[.pointer (some ⟨b, 0, none⟩)] 76)) W' → W'.cell? ⟨w.heap.size, 0, none⟩ = some (.pointer (some ⟨b, 0, none⟩))) := Lib.hid fun W' e => ext_cell e (by simp [go_sem])
  simp only [tl, Holds, List.cons_append, List.nil_append] at hw
  clear hp hnum m5 m6 m7 m8 ht hs hA
  go_enter Tryd.func30, Tryd.ntmps30
  go_wp2_with (go_at_call 61; (with_reducible refine (treDone_24 c f s HF.out HP.out b _ (HK.out.ext EX)).mono ?_); rintro e w1 ⟨rfl, os1, n1, rfl⟩; rw [HS1.out])
  refine bodyPost_ret (v := (treStep c f).v) (by rw [HS1.out]; simp [results, Tryd.results30, go_sem]) rfl ⟨rfl, EX⟩
theorem treAct_25 (c : Cfg) (f : Frm) (s : Value) (hc : TreOk c) (hf : f.Fits) (hnum : treNum c f = true) (hp : f.pc = 25) (b : Nat) (w : World) (ht : Tab w) (hw : Holds w (tl c f s b)) (hs : Sl w s (lvC c) (lvL c)) : Calls Tryd.prog 30 #[.pointer (some ⟨b, 0, none⟩)] w
    fun e w' => e = .returned (treStep c f).v ∧ Ext w w' := by
  have hb := tl_lt hw
  have hb1 : b < w.heap.size + 1 := by omega
  have hb2 : b < w.heap.size + 1 + 1 := by omega
  have HK := Lib.hid hw
  have HS := Lib.hid hs
  have HT := Lib.hid ht
  have HF := Lib.hid hf
  have HP := Lib.hid hp
  obtain ⟨m1, m2, m3, m4, m5, m6, m7, m8⟩ := treNum_facts hnum
  have htop := topI_bd c.cap c.node
  change 0 ≤ treTop c ∧ treTop c ≤ 4 at htop
  have hcap := hc.cap
  obtain ⟨⟨k0, k1⟩, ⟨a0, a1⟩, ⟨b0, b1⟩, ⟨p0, p1⟩, ⟨i0, i1⟩, ⟨j0, j1⟩, ⟨n0, n1⟩, ⟨q0, q1⟩, ⟨h0, h1⟩, ⟨x0, x1⟩, ⟨y0, y1⟩⟩ := hf
  obtain ⟨A, hA⟩ : ∃ A, treStep c f = A := ⟨_, rfl⟩
  have HS1 := Lib.hid hA
  have hp' : (f.pc == 25) = true := by simpa using hp
  have hwi : IntKind.i64.wrap f.i = f.i := by rw [IntKind.wrap_i64]; omega
  have hwn : IntKind.i64.wrap f.n = f.n := by rw [IntKind.wrap_i64]; omega
  have hwp : IntKind.i64.wrap f.p = f.p := by rw [IntKind.wrap_i64]; omega
  have hwh : IntKind.i64.wrap f.h = f.h := by rw [IntKind.wrap_i64]; omega
  have hwi1 : IntKind.i64.wrap (f.i - 1) = f.i - 1 := by rw [IntKind.wrap_i64]; omega
  have HBX : Hid (∀ W' : World, Ext (w.alloc (.cells #[.pointer (some ⟨b, 0, none⟩)] 76)) W' → W'.cell? ⟨w.heap.size, 0, none⟩ = some (.pointer (some ⟨b, 0, none⟩))) := Lib.hid fun W' e => ext_cell e (by simp [go_sem])
  simp only [tl, Holds, List.cons_append, List.nil_append] at hw
  clear hp hnum m5 m6 m7 m8 ht hs hA
  go_enter Tryd.func30, Tryd.ntmps30
  go_wp2_with (go_at_call 61; (with_reducible refine (treDone_25 c f s HF.out HP.out b _ (HK.out.ext EX)).mono ?_); rintro e w1 ⟨rfl, os1, n1, rfl⟩; rw [HS1.out])
  refine bodyPost_ret (v := (treStep c f).v) (by rw [HS1.out]; simp [results, Tryd.results30, go_sem]) rfl ⟨rfl, EX⟩
/-- An act. -/
theorem treAct_any (c : Cfg) (f : Frm) (s : Value) (hc : TreOk c) (hf : f.Fits) (hhas : treHas f = true) (hnum : treNum c f = true) (b : Nat) (w : World) (ht : Tab w) (hw : Holds w (tl c f s b)) (hs : Sl w s (lvC c) (lvL c)) : Calls Tryd.prog 30 #[.pointer (some ⟨b, 0, none⟩)] w
    fun e w' => e = .returned (treStep c f).v ∧ Ext w w' := by
  have hpc : f.pc = 0 ∨ f.pc = 1 ∨ f.pc = 3 ∨ f.pc = 4 ∨ f.pc = 5 ∨ f.pc = 6 ∨ f.pc = 7 ∨ f.pc = 8 ∨ f.pc = 9 ∨ f.pc = 11 ∨ f.pc = 12 ∨ f.pc = 13 ∨ f.pc = 14 ∨ f.pc = 15 ∨ f.pc = 16 ∨ f.pc = 17 ∨ f.pc = 20 ∨ f.pc = 21 ∨ f.pc = 22 ∨ f.pc = 23 ∨ f.pc = 24 ∨ f.pc = 25 := by
    simp only [treHas, Bool.or_eq_true, Bool.and_eq_true, beq_iff_eq] at hhas
    omega
  rcases hpc with h | h | h | h | h | h | h | h | h | h | h | h | h | h | h | h | h | h | h | h | h | h
  · exact treAct_0 c f s hc hf hnum h b w ht hw hs
  · exact treAct_1 c f s hc hf hnum h b w ht hw hs
  · exact treAct_3 c f s hc hf hnum h b w ht hw hs
  · exact treAct_4 c f s hc hf hnum h b w ht hw hs
  · exact treAct_5 c f s hc hf hnum h b w ht hw hs
  · exact treAct_6 c f s hc hf hnum h b w ht hw hs
  · exact treAct_7 c f s hc hf hnum h b w ht hw hs
  · exact treAct_8 c f s hc hf hnum h b w ht hw hs
  · exact treAct_9 c f s hc hf hnum h b w ht hw hs
  · exact treAct_11 c f s hc hf hnum h b w ht hw hs
  · exact treAct_12 c f s hc hf hnum h b w ht hw hs
  · exact treAct_13 c f s hc hf hnum h b w ht hw hs
  · exact treAct_14 c f s hc hf hnum h b w ht hw hs
  · exact treAct_15 c f s hc hf hnum h b w ht hw hs
  · exact treAct_16 c f s hc hf hnum h b w ht hw hs
  · exact treAct_17 c f s hc hf hnum h b w ht hw hs
  · exact treAct_20 c f s hc hf hnum h b w ht hw hs
  · exact treAct_21 c f s hc hf hnum h b w ht hw hs
  · exact treAct_22 c f s hc hf hnum h b w ht hw hs
  · exact treAct_23 c f s hc hf hnum h b w ht hw hs
  · exact treAct_24 c f s hc hf hnum h b w ht hw hs
  · exact treAct_25 c f s hc hf hnum h b w ht hw hs
end Go.Proofs.YtkklhhdkokncnaaDoor
/- The walk of 'may', the layer 'tree'. -/
namespace Go.Proofs.YtkklhhdkokncnaaDoor
open Go Go.RowKit
set_option maxRecDepth 100000
set_option maxHeartbeats 8000000

theorem opErr_part {c : Cfg} {o : Opn} (h : opErr c o = 0) : partOk c = true := by
  unfold opErr at h
  split at h
  · assumption
  · cases h
theorem opErr_kind {c : Cfg} {o : Opn} (h : opErr c o = 0) : objOf o.kind = c.object := by
  unfold opErr at h
  split at h
  · split at h
    · rename_i h2
      simpa using h2
    · cases h
  · cases h
theorem treOk_of {c : Cfg} (h : partOk c = true) (ho : c.object = 2) : TreOk c := by
  simp [partOk, within, ho] at h
  exact ⟨by omega, by omega, by omega⟩
theorem treOp_fits {f : Frm} (h : f.Fits) : (treOp f).Fits := ⟨h.kind, h.a, by unfold treOp; have := h.b; dsimp only; split <;> omega, by simp [treOp]⟩
theorem treNum_of {c : Cfg} {f : Frm} (m1 : f.n ≤ c.cap) (m2 : f.p ≤ c.cap) (m3 : f.j ≤ c.chunk) (m4 : f.h ≤ treTop c) (m5 : f.pc = 16 ∨ f.j ≠ c.chunk) (m6 : f.pc = 6 → 1 ≤ f.i) (m7 : f.pc = 9 ∨ f.pc = 11 → 1 ≤ f.h ∧ f.i < treUp c f.n f.h) (m8 : f.pc = 12 → 1 ≤ f.h) : treNum c f = true := by
  simp only [treNum, Bool.and_eq_true, decide_eq_true_eq]
  refine ⟨⟨⟨⟨⟨m1, m2⟩, m3⟩, m4⟩, ?_⟩, ?_⟩
  · simpa using m5
  · by_cases h6 : f.pc = 6
    · simpa [h6] using m6 h6
    · by_cases h9 : f.pc = 9 ∨ f.pc = 11
      · have := m7 h9
        rcases h9 with h | h <;> simpa [h] using this
      · by_cases h12 : f.pc = 12
        · simpa [h12] using m8 h12
        · simp only [not_or] at h9
          simp [h6, h9.1, h9.2, h12]
theorem treNum_no {c : Cfg} {f : Frm} (h : c.cap < f.n ∨ c.cap < f.p ∨ c.chunk < f.j ∨ treTop c < f.h ∨ (f.pc ≠ 16 ∧ f.j = c.chunk) ∨ (f.pc = 6 ∧ f.i < 1) ∨ ((f.pc = 9 ∨ f.pc = 11) ∧ (f.h < 1 ∨ treUp c f.n f.h ≤ f.i)) ∨ (f.pc = 12 ∧ f.h < 1)) : treNum c f = false := by
  cases hn : treNum c f
  · rfl
  · exfalso
    obtain ⟨m1, m2, m3, m4, m5, m6, m7, m8⟩ := treNum_facts hn
    rcases h with h | h | h | h | h | h | h | h
    · omega
    · omega
    · omega
    · omega
    · rcases m8 with m | m
      · exact h.1 m
      · exact m h.2
    · have := m5 h.1
      omega
    · have := m6 h.1
      omega
    · have := m7 h.1
      omega
end Go.Proofs.YtkklhhdkokncnaaDoor
