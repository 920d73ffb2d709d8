/- The walks of the states of the layer 'trie': those that go on. -/
import Derived.Test.YtpaplhkjaniafaaDoorTr1
import Derived.Deep.RegionHeld3
namespace Go.Proofs.YtpaplhkjaniafaaDoor
open Go Go.RowKit
set_option maxRecDepth 100000
set_option maxHeartbeats 8000000


theorem trTold_any (c : Cfg) (f : Frm) (l : Cel) (hp : f.pc = 6) (V : World) (os : Array Obj) (d : Nat) : Calls Tryd.prog 67 #[.pointer (some ⟨V.heap.size, 0, none⟩), l.v] (grew (V.alloc (.cells (rn c (f)) 97)) os d) (fun e w' => e = .returned (trStep c f).v ∧ Ext (grew (V.alloc (.cells (rn c (trBehind c f l)) 97)) os d) w') := by
  have HS : Hid (trStep c f = ⟨4, 0, 0, 0, 0, 0, f.x⟩) := Lib.hid (by simp [trStep, hp])
  have HB : Hid (trBehind c f l = f) := Lib.hid (by simp [trBehind, hp])
  clear hp
  go_enter Tryd.func67, Tryd.ntmps67
  go_wp2
  (refine bodyPost_ret (v := (trStep c f).v) (by rw [HS.out]; simp [results, Tryd.results67, go_sem]) rfl ⟨rfl, ?_⟩; rw [HB.out]; first | exact EX | exact EXB)
theorem trFull_any (c : Cfg) (f : Frm) (l : Cel) (hp : f.pc = 7) (V : World) (os : Array Obj) (d : Nat) : Calls Tryd.prog 65 #[.pointer (some ⟨V.heap.size, 0, none⟩), l.v] (grew (V.alloc (.cells (rn c (f)) 97)) os d) (fun e w' => e = .returned (trStep c f).v ∧ Ext (grew (V.alloc (.cells (rn c (trBehind c f l)) 97)) os d) w') := by
  have HS : Hid (trStep c f = ⟨4, 0, 0, 0, 0, 9, 0⟩) := Lib.hid (by simp [trStep, hp])
  have HB : Hid (trBehind c f l = f) := Lib.hid (by simp [trBehind, hp])
  clear hp
  go_enter Tryd.func65, Tryd.ntmps65
  go_wp2
  (refine bodyPost_ret (v := (trStep c f).v) (by rw [HS.out]; simp [results, Tryd.results65, go_sem]) rfl ⟨rfl, ?_⟩; rw [HB.out]; first | exact EX | exact EXB)
theorem trNone_any (c : Cfg) (f : Frm) (l : Cel) (hp : f.pc = 8) (V : World) (os : Array Obj) (d : Nat) : Calls Tryd.prog 66 #[.pointer (some ⟨V.heap.size, 0, none⟩), l.v] (grew (V.alloc (.cells (rn c (f)) 97)) os d) (fun e w' => e = .returned (trStep c f).v ∧ Ext (grew (V.alloc (.cells (rn c (trBehind c f l)) 97)) os d) w') := by
  have HS : Hid (trStep c f = ⟨4, 0, 0, 0, 0, 6, 0⟩) := Lib.hid (by simp [trStep, hp])
  have HB : Hid (trBehind c f l = f) := Lib.hid (by simp [trBehind, hp])
  clear hp
  go_enter Tryd.func66, Tryd.ntmps66
  go_wp2
  (refine bodyPost_ret (v := (trStep c f).v) (by rw [HS.out]; simp [results, Tryd.results66, go_sem]) rfl ⟨rfl, ?_⟩; rw [HB.out]; first | exact EX | exact EXB)

theorem trRoom_any (c : Cfg) (f : Frm) (l : Cel) (hl : l.Fits) (hk : (f.kind == 3) = false) (hp : f.pc = 1) (hc : 1 ≤ c.cap ∧ c.cap ≤ 32) (V : World) (os : Array Obj) (d : Nat) : Calls Tryd.prog 63 #[.pointer (some ⟨V.heap.size, 0, none⟩), l.v] (grew (V.alloc (.cells (rn c (f)) 97)) os d) (fun e w' => e = .returned (trStep c f).v ∧ Ext (grew (V.alloc (.cells (rn c (trBehind c f l)) 97)) os d) w') := by
  obtain ⟨⟨t0, t1⟩, ⟨la0, la1⟩, ⟨lb0, lb1⟩, ⟨lc0, lc1⟩⟩ := hl
  obtain ⟨c0, c1⟩ := hc
  have HS : Hid (trStep c f = ⟨1, 1, 0, 0, 0, 0, 0⟩) := Lib.hid (by simp [trStep, hp])
  have hwc : IntKind.u64.wrap c.cap = c.cap := by rw [IntKind.wrap_u64]; omega
  cases hb : decide (c.cap ≤ l.b)
  · have HB : Hid (trBehind c f l = { f with pc := 2, h := 0 }) := Lib.hid (by simp at hb; simp [trBehind, hp, hk, hb])
    clear hp hk
    go_enter Tryd.func63, Tryd.ntmps63
    go_wp2
    (refine wp_region_ext_lit (by kernel_rfl) (by kernel_rfl) ?_); (repeat (go_big_quiet_step (fail))); (refine wpQuiet_nil ?_; intro _ hw'; obtain ⟨⟨osq, nq⟩, hw''⟩ := hw'; replace hw'' : _ = grew _ osq nq := hw''; subst hw'')
    go_wp2
    (refine bodyPost_ret (v := (trStep c f).v) (by rw [HS.out]; simp [results, Tryd.results63, go_sem]) rfl ⟨rfl, ?_⟩; rw [HB.out]; first | exact EX | exact EXB)
  · have HB : Hid (trBehind c f l = { f with pc := 7 }) := Lib.hid (by simp at hb; simp [trBehind, hp, hk]; omega)
    clear hp hk
    go_enter Tryd.func63, Tryd.ntmps63
    go_wp2
    (refine wp_region_ext_lit (by kernel_rfl) (by kernel_rfl) ?_); (repeat (go_big_quiet_step (fail))); (refine wpQuiet_nil ?_; intro _ hw'; obtain ⟨⟨osq, nq⟩, hw''⟩ := hw'; replace hw'' : _ = grew _ osq nq := hw''; subst hw'')
    go_wp2
    (refine bodyPost_ret (v := (trStep c f).v) (by rw [HS.out]; simp [results, Tryd.results63, go_sem]) rfl ⟨rfl, ?_⟩; rw [HB.out]; first | exact EX | exact EXB)

theorem trSeek_any (c : Cfg) (f : Frm) (hf : f.Fits) (l : Cel) (hl : l.Fits) (ht : TrFacts c f) (hk : (f.kind == 3) = false) (hp : f.pc = 0) (V : World) (os : Array Obj) (d : Nat) : Calls Tryd.prog 68 #[.pointer (some ⟨V.heap.size, 0, none⟩), l.v] (grew (V.alloc (.cells (rn c (f)) 97)) os d) (fun e w' => e = .returned (trStep c f).v ∧ Ext (grew (V.alloc (.cells (rn c (trBehind c f l)) 97)) os d) w') := by
  have HF := Lib.hid hf
  have HL := Lib.hid hl
  have hmo : trMost c f = f.b := by simp [trMost, hk]
  have HN : Hid (f.b ≤ 6 ∧ f.a < 2 ^ f.b.toNat) := Lib.hid ⟨by rw [← hmo]; exact ht.most.2, by rw [← hmo]; exact ht.a⟩
  have hk2 : f.kind = 1 ∨ f.kind = 2 := by have := ht.kind; simp at hk; omega
  obtain ⟨Q, hQ⟩ : ∃ Q, (2 : Int) ^ f.b.toNat + f.a = Q := ⟨_, rfl⟩
  have HQ := Lib.hid hQ
  have HS : Hid (trStep c f = ⟨1, Q, 0, 0, 0, 0, 0⟩) := Lib.hid (by simp [trStep, hp, hk, trM, hmo, hQ])
  obtain ⟨X, hX⟩ : ∃ X, l.a % 4294967296 = X := ⟨_, rfl⟩
  obtain ⟨N, hN⟩ : ∃ N, l.b % 64 = N := ⟨_, rfl⟩
  have HX := Lib.hid hX
  have HNN := Lib.hid hN
  obtain ⟨⟨k0, k1⟩, ⟨a0, a1⟩, ⟨b0, b1⟩, ⟨p0, p1⟩, ⟨i0, i1⟩, ⟨j0, j1⟩, ⟨m0, m1⟩, ⟨q0, q1⟩, ⟨h0, h1⟩, ⟨x0, x1⟩, ⟨y0, y1⟩⟩ := hf; obtain ⟨⟨t0, t1⟩, ⟨la0, la1⟩, ⟨lb0, lb1⟩, ⟨lc0, lc1⟩⟩ := hl
  have hx2 : 0 ≤ X ∧ X ≤ 4294967295 := by omega
  have hn2 : 0 ≤ N ∧ N ≤ 63 := by omega
  have hw1 : IntKind.u32.wrap l.a = X := by rw [IntKind.wrap_u32, hX]
  have hw2 : IntKind.u8.wrap N = N := by rw [IntKind.wrap_u8]; omega
  clear ht hmo hQ
  cases hk1 : (f.kind == 1)
  · cases xz : (X == 0)
    · have HB : Hid (trBehind c f l = { f with x := X, n := N, pc := 2, h := 0 }) := Lib.hid (by simp only [trBehind, hp, hk, hk1, hX, hN, xz]; rfl)
      have xz' : (X != 0) = true := by simpa using xz
      clear hp hk hk2
      go_enter Tryd.func68, Tryd.ntmps68
      go_wp2_with (first | (go_at_call 81; refine (trNode_any c f HF.out HN.out.1 HN.out.2 V _ EX).mono ?_; rintro e w1 ⟨rfl, os1, n1, rfl⟩; rw [HQ.out]) | (go_at_call 82; go_in))
      go_region
      go_wp2
      (go_end0; simp only []; go_at_K)
      go_wp2
      (refine bodyPost_ret (v := (trStep c f).v) (by rw [HS.out]; simp [results, Tryd.results68, go_sem]) rfl ⟨rfl, ?_⟩; rw [HB.out]; first | exact EX | exact EXB)
    · have HB : Hid (trBehind c f l = { f with x := X, n := N, pc := 8 }) := Lib.hid (by simp only [trBehind, hp, hk, hk1, hX, hN, xz]; rfl)
      have xz' : (X != 0) = false := by simpa using xz
      clear hp hk hk2
      go_enter Tryd.func68, Tryd.ntmps68
      go_wp2_with (first | (go_at_call 81; refine (trNode_any c f HF.out HN.out.1 HN.out.2 V _ EX).mono ?_; rintro e w1 ⟨rfl, os1, n1, rfl⟩; rw [HQ.out]) | (go_at_call 82; go_in))
      go_region
      go_wp2
      (go_end0; simp only []; go_at_K)
      go_wp2
      (refine bodyPost_ret (v := (trStep c f).v) (by rw [HS.out]; simp [results, Tryd.results68, go_sem]) rfl ⟨rfl, ?_⟩; rw [HB.out]; first | exact EX | exact EXB)
  · cases xz : (X == 0)
    · have HB : Hid (trBehind c f l = { f with x := X, n := N, pc := 5 }) := Lib.hid (by simp only [trBehind, hp, hk, hk1, hX, hN, xz]; rfl)
      have xz' : (X != 0) = true := by simpa using xz
      clear hp hk hk2
      go_enter Tryd.func68, Tryd.ntmps68
      go_wp2_with (first | (go_at_call 81; refine (trNode_any c f HF.out HN.out.1 HN.out.2 V _ EX).mono ?_; rintro e w1 ⟨rfl, os1, n1, rfl⟩; rw [HQ.out]) | (go_at_call 82; go_in))
      go_region
      go_wp2
      (go_end0; simp only []; go_at_K)
      go_wp2
      (refine bodyPost_ret (v := (trStep c f).v) (by rw [HS.out]; simp [results, Tryd.results68, go_sem]) rfl ⟨rfl, ?_⟩; rw [HB.out]; first | exact EX | exact EXB)
    · have HB : Hid (trBehind c f l = { f with x := X, n := N, pc := 1 }) := Lib.hid (by simp only [trBehind, hp, hk, hk1, hX, hN, xz]; rfl)
      have xz' : (X != 0) = false := by simpa using xz
      clear hp hk hk2
      go_enter Tryd.func68, Tryd.ntmps68
      go_wp2_with (first | (go_at_call 81; refine (trNode_any c f HF.out HN.out.1 HN.out.2 V _ EX).mono ?_; rintro e w1 ⟨rfl, os1, n1, rfl⟩; rw [HQ.out]) | (go_at_call 82; go_in))
      go_region
      go_wp2
      (go_end0; simp only []; go_at_K)
      go_wp2
      (refine bodyPost_ret (v := (trStep c f).v) (by rw [HS.out]; simp [results, Tryd.results68, go_sem]) rfl ⟨rfl, ?_⟩; rw [HB.out]; first | exact EX | exact EXB)

theorem trLoad_any (c : Cfg) (f : Frm) (hf : f.Fits) (l : Cel) (hl : l.Fits) (ht : TrFacts c f) (hk : (f.kind == 3) = false) (hp : f.pc = 2) (V : World) (os : Array Obj) (d : Nat) : Calls Tryd.prog 69 #[.pointer (some ⟨V.heap.size, 0, none⟩), l.v] (grew (V.alloc (.cells (rn c (f)) 97)) os d) (fun e w' => e = .returned (trStep c f).v ∧ Ext (grew (V.alloc (.cells (rn c (trBehind c f l)) 97)) os d) w') := by
  have HF := Lib.hid hf
  have HL := Lib.hid hl
  have hmo : trMost c f = f.b := by simp [trMost, hk]
  have HNB : Hid ((0 ≤ f.b ∧ f.b ≤ 6) ∧ f.h ≤ f.b ∧ f.a < 2 ^ f.b.toNat) := Lib.hid (by rw [← hmo]; exact ⟨ht.most, ht.h, ht.a⟩)
  obtain ⟨Q, hQ⟩ : ∃ Q, ((2 : Int) ^ f.b.toNat + f.a) / 2 ^ (f.b - f.h).toNat = Q := ⟨_, rfl⟩
  have HQ := Lib.hid hQ
  have HS : Hid (trStep c f = ⟨1, Q, 0, 0, 0, 0, 0⟩) := Lib.hid (by simp [trStep, hp, trD, trM, hmo, hQ])
  obtain ⟨X, hX⟩ : ∃ X, l.a % 4294967296 = X := ⟨_, rfl⟩
  obtain ⟨N, hN⟩ : ∃ N, l.b % 64 = N := ⟨_, rfl⟩
  have HX := Lib.hid hX
  have HNN := Lib.hid hN
  have hb6 := HNB.out.1
  obtain ⟨⟨k0, k1⟩, ⟨a0, a1⟩, ⟨b0, b1⟩, ⟨p0, p1⟩, ⟨i0, i1⟩, ⟨j0, j1⟩, ⟨m0, m1⟩, ⟨q0, q1⟩, ⟨h0, h1⟩, ⟨x0, x1⟩, ⟨y0, y1⟩⟩ := hf; obtain ⟨⟨t0, t1⟩, ⟨la0, la1⟩, ⟨lb0, lb1⟩, ⟨lc0, lc1⟩⟩ := hl
  have HB : Hid (trBehind c f l = { f with x := X, n := N, pc := 3 }) := Lib.hid (by simp only [trBehind, hp, hk, hX, hN]; rfl)
  have hwb : IntKind.i64.wrap f.b = f.b := by rw [IntKind.wrap_i64]; omega
  have hx2 : 0 ≤ X ∧ X ≤ 4294967295 := by omega
  have hn2 : 0 ≤ N ∧ N ≤ 63 := by omega
  have hw1 : IntKind.u32.wrap l.a = X := by rw [IntKind.wrap_u32, hX]
  have hw2 : IntKind.u8.wrap N = N := by rw [IntKind.wrap_u8]; omega
  clear ht hmo hQ hp hk
  go_enter Tryd.func69, Tryd.ntmps69
  go_wp2_with (first | (go_at_call 80; refine (trAt_any c f HF.out f.b HNB.out.1 HNB.out.2.1 HNB.out.2.2 V _ EX).mono ?_; rintro e w1 ⟨rfl, os1, n1, rfl⟩; rw [HQ.out]) | (go_at_call 82; go_in))
  go_region
  go_wp2
  (go_end0; simp only []; go_at_K)
  go_wp2
  (refine bodyPost_ret (v := (trStep c f).v) (by rw [HS.out]; simp [results, Tryd.results69, go_sem]) rfl ⟨rfl, ?_⟩; rw [HB.out]; first | exact EX | exact EXB)
end Go.Proofs.YtpaplhkjaniafaaDoor
