/- The walks of the states of the layer 'trie': those that write, and the look-up. -/
import Derived.Test.YtpaplhkjaniafaaDoorTr1
import Derived.Deep.RegionHeld3
namespace Go.Proofs.YtpaplhkjaniafaaDoor
open Go Go.RowKit
set_option maxRecDepth 100000
set_option maxHeartbeats 8000000


theorem trSave_any (c : Cfg) (f : Frm) (hf : f.Fits) (l : Cel) (hl : l.Fits) (ht : TrFacts c f) (hk : (f.kind == 3) = false) (hp : f.pc = 3) (V : World) (os : Array Obj) (d : Nat) : Calls Tryd.prog 70 #[.pointer (some ⟨V.heap.size, 0, none⟩), l.v] (grew (V.alloc (.cells (rn c (f)) 97)) os d) (fun e w' => e = .returned (trStep c f).v ∧ Ext (grew (V.alloc (.cells (rn c (trBehind c f l)) 97)) os d) w') := by
  have HF := Lib.hid hf
  have hmo : trMost c f = f.b := by simp [trMost, hk]
  have HNB : Hid ((0 ≤ f.b ∧ f.b ≤ 6) ∧ f.h ≤ f.b ∧ f.a < 2 ^ f.b.toNat) := Lib.hid (by rw [← hmo]; exact ⟨ht.most, ht.h, ht.a⟩)
  obtain ⟨Q, hQ⟩ : ∃ Q, ((2 : Int) ^ f.b.toNat + f.a) / 2 ^ (f.b - f.h).toNat = Q := ⟨_, rfl⟩
  have HQ := Lib.hid hQ
  have hD : trD c f = Q := by simp [trD, trM, hmo, hQ]
  have hk2 : f.kind = 1 ∨ f.kind = 2 := by have := ht.kind; simp at hk; omega
  have hb6 := HNB.out.1
  have hhb := HNB.out.2.1
  obtain ⟨⟨k0, k1⟩, ⟨a0, a1⟩, ⟨b0, b1⟩, ⟨p0, p1⟩, ⟨i0, i1⟩, ⟨j0, j1⟩, ⟨m0, m1⟩, ⟨q0, q1⟩, ⟨h0, h1⟩, ⟨x0, x1⟩, ⟨y0, y1⟩⟩ := hf; obtain ⟨⟨t0, t1⟩, ⟨la0, la1⟩, ⟨lb0, lb1⟩, ⟨lc0, lc1⟩⟩ := hl
  obtain ⟨U, hU⟩ : ∃ U, IntKind.u8.wrap (f.n + 1) = U := ⟨_, rfl⟩
  obtain ⟨K, hK⟩ : ∃ K, (f.n + 1) % 64 = K := ⟨_, rfl⟩
  have hu2 : 0 ≤ U ∧ U ≤ 255 ∧ U % 64 = K := by rw [IntKind.wrap_u8] at hU; omega
  have hK2 : 0 ≤ K ∧ K ≤ 63 := by omega
  have hut : U.tmod 64 = K := by rw [Int.tmod_eq_emod_of_nonneg hu2.1]; exact hu2.2.2
  have hum := hu2.2.2
  have wb : IntKind.i64.wrap f.b = f.b := by rw [IntKind.wrap_i64]; omega
  have wx : IntKind.u64.wrap f.x = f.x := by rw [IntKind.wrap_u64]; omega
  have wu : IntKind.u64.wrap U = U := by rw [IntKind.wrap_u64]; omega
  have wh : IntKind.u32.wrap f.h = f.h := by rw [IntKind.wrap_u32]; omega
  have HKK := Lib.hid hK
  obtain ⟨u0, u1, _⟩ := hu2
  clear ht hmo hQ
  have HK : Hid (Holds (V.alloc (.cells (rn c (f)) 97)) [(V.heap.size, 0, .int .u8 f.kind), (V.heap.size, 1, .int .u32 f.a), (V.heap.size, 2, .int .u32 f.b), (V.heap.size, 3, .int .u8 f.pc), (V.heap.size, 4, .int .u8 f.i), (V.heap.size, 5, .int .u8 f.j), (V.heap.size, 6, .int .u8 f.n), (V.heap.size, 7, .int .u8 f.p), (V.heap.size, 8, .int .u8 f.h), (V.heap.size, 9, .int .u32 f.x), (V.heap.size, 10, .int .u32 f.y)]) := Lib.hid (by simp [Holds, go_sem])
  cases hz : (f.h == f.b)
  · cases hk1 : (f.kind == 2)
    · skip
      have HS : Hid (trStep c f = ⟨2, Q, f.x, K, 0, 0, 0⟩) := Lib.hid (by simp only [trStep, hp, hD, hz, hk1, hK]; rfl)
      have HB : Hid (trBehind c f l = { f with pc := 2, h := f.h + 1 }) := Lib.hid (by simp only [trBehind, hp, hk, hz]; rfl)
      clear hp hk hk2 hD hK
      go_enter Tryd.func70, Tryd.ntmps70
      go_upto_region 1 with fail
      go_region_held3 (fun W => W.cell? ⟨V.heap.size, 0, none⟩ = some (.int .u8 f.kind) ∧ W.cell? ⟨V.heap.size, 1, none⟩ = some (.int .u32 f.a) ∧ W.cell? ⟨V.heap.size, 2, none⟩ = some (.int .u32 f.b) ∧ W.cell? ⟨V.heap.size, 3, none⟩ = some (.int .u8 f.pc) ∧ W.cell? ⟨V.heap.size, 4, none⟩ = some (.int .u8 f.i) ∧ W.cell? ⟨V.heap.size, 5, none⟩ = some (.int .u8 f.j) ∧ W.cell? ⟨V.heap.size, 6, none⟩ = some (.int .u8 f.n) ∧ W.cell? ⟨V.heap.size, 7, none⟩ = some (.int .u8 f.p) ∧ W.cell? ⟨V.heap.size, 8, none⟩ = some (.int .u8 f.h) ∧ W.cell? ⟨V.heap.size, 9, none⟩ = some (.int .u32 f.x) ∧ W.cell? ⟨V.heap.size, 10, none⟩ = some (.int .u32 f.y)) (exact HK.out.ext EX) (first | (go_at_call 80; refine (trAt_any c f HF.out f.b HNB.out.1 HNB.out.2.1 HNB.out.2.2 V _ EX).mono ?_; rintro e w1 ⟨rfl, os1, n1, rfl⟩; rw [HQ.out]))
      all_goals
        clear HK
        go_wp2
        ((refine wp_region_ext_lit (by kernel_rfl) (by kernel_rfl) ?_); (repeat (go_big_quiet_step (fail))); (refine wpQuiet_nil ?_; intro _ hw'; obtain ⟨⟨osq, nq⟩, hw''⟩ := hw'; replace hw'' : _ = grew _ osq nq := hw''; subst hw''))
        go_wp2
        (refine bodyPost_ret (v := (trStep c f).v) (by rw [HS.out]; simp [results, Tryd.results70, go_sem]) rfl ⟨rfl, ?_⟩; rw [HB.out]; first | exact EX | exact EXB)
    · skip
      have HS : Hid (trStep c f = ⟨2, Q, f.x, (f.n + 63) % 64, 0, 0, 0⟩) := Lib.hid (by simp only [trStep, hp, hD, hz, hk1, hK]; rfl)
      have HB : Hid (trBehind c f l = { f with pc := 2, h := f.h + 1 }) := Lib.hid (by simp only [trBehind, hp, hk, hz]; rfl)
      obtain ⟨M, hM⟩ : ∃ M, (f.n + 63) % 64 = M := ⟨_, rfl⟩
      have HMM := Lib.hid hM
      have hm63 : IntKind.u8.wrap (f.n + 63) % 64 = M := by rw [IntKind.wrap_u8]; omega
      obtain ⟨Z, hZ⟩ : ∃ Z, IntKind.u8.wrap (f.n + 63) = Z := ⟨_, rfl⟩
      have hz2 : 0 ≤ Z ∧ Z ≤ 255 := by rw [IntKind.wrap_u8] at hZ; omega
      rw [hZ] at hm63
      have hm2 : 0 ≤ M ∧ M ≤ 63 := by omega
      have HS : Hid (trStep c f = ⟨2, Q, f.x, M, 0, 0, 0⟩) := Lib.hid (by rw [HS.out, hM])
      clear hM
      clear hp hk hk2 hD hK
      go_enter Tryd.func70, Tryd.ntmps70
      go_upto_region 1 with fail
      go_region_held3 (fun W => W.cell? ⟨V.heap.size, 0, none⟩ = some (.int .u8 f.kind) ∧ W.cell? ⟨V.heap.size, 1, none⟩ = some (.int .u32 f.a) ∧ W.cell? ⟨V.heap.size, 2, none⟩ = some (.int .u32 f.b) ∧ W.cell? ⟨V.heap.size, 3, none⟩ = some (.int .u8 f.pc) ∧ W.cell? ⟨V.heap.size, 4, none⟩ = some (.int .u8 f.i) ∧ W.cell? ⟨V.heap.size, 5, none⟩ = some (.int .u8 f.j) ∧ W.cell? ⟨V.heap.size, 6, none⟩ = some (.int .u8 f.n) ∧ W.cell? ⟨V.heap.size, 7, none⟩ = some (.int .u8 f.p) ∧ W.cell? ⟨V.heap.size, 8, none⟩ = some (.int .u8 f.h) ∧ W.cell? ⟨V.heap.size, 9, none⟩ = some (.int .u32 f.x) ∧ W.cell? ⟨V.heap.size, 10, none⟩ = some (.int .u32 f.y)) (exact HK.out.ext EX) (first | (go_at_call 80; refine (trAt_any c f HF.out f.b HNB.out.1 HNB.out.2.1 HNB.out.2.2 V _ EX).mono ?_; rintro e w1 ⟨rfl, os1, n1, rfl⟩; rw [HQ.out]))
      all_goals
        clear HK
        go_wp2
        ((refine wp_region_ext_lit (by kernel_rfl) (by kernel_rfl) ?_); (repeat (go_big_quiet_step (fail))); (refine wpQuiet_nil ?_; intro _ hw'; obtain ⟨⟨osq, nq⟩, hw''⟩ := hw'; replace hw'' : _ = grew _ osq nq := hw''; subst hw''))
        go_wp2
        (refine bodyPost_ret (v := (trStep c f).v) (by rw [HS.out]; simp [results, Tryd.results70, go_sem]) rfl ⟨rfl, ?_⟩; rw [HB.out]; first | exact EX | exact EXB)
  · cases hk1 : (f.kind == 2)
    · skip
      have HS : Hid (trStep c f = ⟨2, Q, f.y + 1, K, 0, 0, 0⟩) := Lib.hid (by simp only [trStep, hp, hD, hz, hk1, hK]; rfl)
      have HB : Hid (trBehind c f l = { f with pc := 6 }) := Lib.hid (by simp only [trBehind, hp, hk, hz]; rfl)
      clear hp hk hk2 hD hK
      go_enter Tryd.func70, Tryd.ntmps70
      go_upto_region 1 with fail
      go_region_held3 (fun W => W.cell? ⟨V.heap.size, 0, none⟩ = some (.int .u8 f.kind) ∧ W.cell? ⟨V.heap.size, 1, none⟩ = some (.int .u32 f.a) ∧ W.cell? ⟨V.heap.size, 2, none⟩ = some (.int .u32 f.b) ∧ W.cell? ⟨V.heap.size, 3, none⟩ = some (.int .u8 f.pc) ∧ W.cell? ⟨V.heap.size, 4, none⟩ = some (.int .u8 f.i) ∧ W.cell? ⟨V.heap.size, 5, none⟩ = some (.int .u8 f.j) ∧ W.cell? ⟨V.heap.size, 6, none⟩ = some (.int .u8 f.n) ∧ W.cell? ⟨V.heap.size, 7, none⟩ = some (.int .u8 f.p) ∧ W.cell? ⟨V.heap.size, 8, none⟩ = some (.int .u8 f.h) ∧ W.cell? ⟨V.heap.size, 9, none⟩ = some (.int .u32 f.x) ∧ W.cell? ⟨V.heap.size, 10, none⟩ = some (.int .u32 f.y)) (exact HK.out.ext EX) (first | (go_at_call 80; refine (trAt_any c f HF.out f.b HNB.out.1 HNB.out.2.1 HNB.out.2.2 V _ EX).mono ?_; rintro e w1 ⟨rfl, os1, n1, rfl⟩; rw [HQ.out]))
      all_goals
        clear HK
        go_wp2
        ((refine wp_region_ext_lit (by kernel_rfl) (by kernel_rfl) ?_); (repeat (go_big_quiet_step (fail))); (refine wpQuiet_nil ?_; intro _ hw'; obtain ⟨⟨osq, nq⟩, hw''⟩ := hw'; replace hw'' : _ = grew _ osq nq := hw''; subst hw''))
        go_wp2
        (refine bodyPost_ret (v := (trStep c f).v) (by rw [HS.out]; simp [results, Tryd.results70, go_sem]) rfl ⟨rfl, ?_⟩; rw [HB.out]; first | exact EX | exact EXB)
    · skip
      have HS : Hid (trStep c f = ⟨2, Q, 0, (f.n + 63) % 64, 0, 0, 0⟩) := Lib.hid (by simp only [trStep, hp, hD, hz, hk1, hK]; rfl)
      have HB : Hid (trBehind c f l = { f with pc := 6 }) := Lib.hid (by simp only [trBehind, hp, hk, hz]; rfl)
      obtain ⟨M, hM⟩ : ∃ M, (f.n + 63) % 64 = M := ⟨_, rfl⟩
      have HMM := Lib.hid hM
      have hm63 : IntKind.u8.wrap (f.n + 63) % 64 = M := by rw [IntKind.wrap_u8]; omega
      obtain ⟨Z, hZ⟩ : ∃ Z, IntKind.u8.wrap (f.n + 63) = Z := ⟨_, rfl⟩
      have hz2 : 0 ≤ Z ∧ Z ≤ 255 := by rw [IntKind.wrap_u8] at hZ; omega
      rw [hZ] at hm63
      have hm2 : 0 ≤ M ∧ M ≤ 63 := by omega
      have HS : Hid (trStep c f = ⟨2, Q, 0, M, 0, 0, 0⟩) := Lib.hid (by rw [HS.out, hM])
      clear hM
      clear hp hk hk2 hD hK
      go_enter Tryd.func70, Tryd.ntmps70
      go_upto_region 1 with fail
      go_region_held3 (fun W => W.cell? ⟨V.heap.size, 0, none⟩ = some (.int .u8 f.kind) ∧ W.cell? ⟨V.heap.size, 1, none⟩ = some (.int .u32 f.a) ∧ W.cell? ⟨V.heap.size, 2, none⟩ = some (.int .u32 f.b) ∧ W.cell? ⟨V.heap.size, 3, none⟩ = some (.int .u8 f.pc) ∧ W.cell? ⟨V.heap.size, 4, none⟩ = some (.int .u8 f.i) ∧ W.cell? ⟨V.heap.size, 5, none⟩ = some (.int .u8 f.j) ∧ W.cell? ⟨V.heap.size, 6, none⟩ = some (.int .u8 f.n) ∧ W.cell? ⟨V.heap.size, 7, none⟩ = some (.int .u8 f.p) ∧ W.cell? ⟨V.heap.size, 8, none⟩ = some (.int .u8 f.h) ∧ W.cell? ⟨V.heap.size, 9, none⟩ = some (.int .u32 f.x) ∧ W.cell? ⟨V.heap.size, 10, none⟩ = some (.int .u32 f.y)) (exact HK.out.ext EX) (first | (go_at_call 80; refine (trAt_any c f HF.out f.b HNB.out.1 HNB.out.2.1 HNB.out.2.2 V _ EX).mono ?_; rintro e w1 ⟨rfl, os1, n1, rfl⟩; rw [HQ.out]))
      all_goals
        clear HK
        go_wp2
        ((refine wp_region_ext_lit (by kernel_rfl) (by kernel_rfl) ?_); (repeat (go_big_quiet_step (fail))); (refine wpQuiet_nil ?_; intro _ hw'; obtain ⟨⟨osq, nq⟩, hw''⟩ := hw'; replace hw'' : _ = grew _ osq nq := hw''; subst hw''))
        go_wp2
        (refine bodyPost_ret (v := (trStep c f).v) (by rw [HS.out]; simp [results, Tryd.results70, go_sem]) rfl ⟨rfl, ?_⟩; rw [HB.out]; first | exact EX | exact EXB)

theorem trTurn_any (c : Cfg) (f : Frm) (hf : f.Fits) (l : Cel) (hl : l.Fits) (ht : TrFacts c f) (hk : (f.kind == 3) = false) (hp : f.pc = 5) (V : World) (os : Array Obj) (d : Nat) : Calls Tryd.prog 64 #[.pointer (some ⟨V.heap.size, 0, none⟩), l.v] (grew (V.alloc (.cells (rn c (f)) 97)) os d) (fun e w' => e = .returned (trStep c f).v ∧ Ext (grew (V.alloc (.cells (rn c (trBehind c f l)) 97)) os d) w') := by
  have hmo : trMost c f = f.b := by simp [trMost, hk]
  have HN : Hid (f.b ≤ 6 ∧ f.a < 2 ^ f.b.toNat) := Lib.hid ⟨by rw [← hmo]; exact ht.most.2, by rw [← hmo]; exact ht.a⟩
  obtain ⟨Q, hQ⟩ : ∃ Q, (2 : Int) ^ f.b.toNat + f.a = Q := ⟨_, rfl⟩
  have HQ := Lib.hid hQ
  obtain ⟨K, hK⟩ : ∃ K, f.n % 64 = K := ⟨_, rfl⟩
  have HS : Hid (trStep c f = ⟨2, Q, f.y + 1, K, 0, 0, 0⟩) := Lib.hid (by simp [trStep, hp, trM, hmo, hQ, hK])
  have HB : Hid (trBehind c f l = { f with pc := 6 }) := Lib.hid (by simp only [trBehind, hp, hk]; rfl)
  have HF : Hid (Frm.mk f.kind f.a f.b 6 f.i f.j f.n f.p f.h f.x f.y).Fits := Lib.hid ⟨hf.kind, hf.a, hf.b, by constructor <;> simp, hf.i, hf.j, hf.n, hf.p, hf.h, hf.x, hf.y⟩
  obtain ⟨⟨k0, k1⟩, ⟨a0, a1⟩, ⟨b0, b1⟩, ⟨p0, p1⟩, ⟨i0, i1⟩, ⟨j0, j1⟩, ⟨m0, m1⟩, ⟨q0, q1⟩, ⟨h0, h1⟩, ⟨x0, x1⟩, ⟨y0, y1⟩⟩ := hf; obtain ⟨⟨t0, t1⟩, ⟨la0, la1⟩, ⟨lb0, lb1⟩, ⟨lc0, lc1⟩⟩ := hl
  have hK2 : 0 ≤ K ∧ K ≤ 63 := by omega
  have hKt : f.n.tmod 64 = K := by rw [Int.tmod_eq_emod_of_nonneg m0]; exact hK
  have wy : IntKind.u64.wrap f.y = f.y := by rw [IntKind.wrap_u64]; omega
  have wy1 : IntKind.u64.wrap (f.y + 1) = f.y + 1 := by rw [IntKind.wrap_u64]; omega
  have wk : IntKind.u64.wrap K = K := by rw [IntKind.wrap_u64]; omega
  have wk8 : IntKind.u8.wrap K = K := by rw [IntKind.wrap_u8]; omega
  clear ht hmo hQ hp hk
  have HK : Hid (Holds (V.alloc (.cells (rn c (Frm.mk f.kind f.a f.b 6 f.i f.j f.n f.p f.h f.x f.y)) 97)) ([(V.heap.size, 6, .int .u8 f.n), (V.heap.size, 10, .int .u32 f.y)])) := Lib.hid (by simp [Holds, go_sem])
  go_enter Tryd.func64, Tryd.ntmps64
  go_upto_region 2 with fail
  go_region_held3 (fun W => W.cell? ⟨V.heap.size, 6, none⟩ = some (.int .u8 f.n) ∧ W.cell? ⟨V.heap.size, 10, none⟩ = some (.int .u32 f.y)) (exact HK.out.ext EX) (first | (go_at_call 81; refine (trNode_any c (Frm.mk f.kind f.a f.b 6 f.i f.j f.n f.p f.h f.x f.y) HF.out HN.out.1 HN.out.2 V _ EX).mono ?_; rintro e w1 ⟨rfl, os1, n1, rfl⟩; dsimp only; rw [HQ.out]))
  all_goals
    clear HK
    go_wp2
    (refine bodyPost_ret (v := (trStep c f).v) (by rw [HS.out]; simp [results, Tryd.results64, go_sem]) rfl ⟨rfl, ?_⟩; rw [HB.out]; first | exact EX | exact EXB)

theorem trLook_any (c : Cfg) (f : Frm) (hf : f.Fits) (l : Cel) (hl : l.Fits) (ht : TrFacts c f) (hk : (f.kind == 3) = true) (hp : f.pc = 0) (V : World) (os : Array Obj) (d : Nat) : Calls Tryd.prog 62 #[.pointer (some ⟨V.heap.size, 0, none⟩), l.v] (grew (V.alloc (.cells (rn c (f)) 97)) os d) (fun e w' => e = .returned (trStep c f).v ∧ Ext (grew (V.alloc (.cells (rn c (trBehind c f l)) 97)) os d) w') := by
  have HF := Lib.hid hf
  have hmo : trMost c f = c.bits := by simp [trMost, hk]
  have HNB : Hid ((0 ≤ c.bits ∧ c.bits ≤ 6) ∧ f.h ≤ c.bits ∧ f.a < 2 ^ c.bits.toNat) := Lib.hid (by rw [← hmo]; exact ⟨ht.most, ht.h, ht.a⟩)
  obtain ⟨Q, hQ⟩ : ∃ Q, ((2 : Int) ^ c.bits.toNat + f.a) / 2 ^ (c.bits - f.h).toNat = Q := ⟨_, rfl⟩
  have HQ := Lib.hid hQ
  have HS : Hid (trStep c f = ⟨1, Q, 0, 0, 0, 0, 0⟩) := Lib.hid (by simp [trStep, hp, hk, trD, trM, hmo, hQ])
  obtain ⟨X, hX⟩ : ∃ X, l.a % 4294967296 = X := ⟨_, rfl⟩
  have HX := Lib.hid hX
  have hb6 := HNB.out.1
  have hhb := HNB.out.2.1
  obtain ⟨⟨k0, k1⟩, ⟨a0, a1⟩, ⟨b0, b1⟩, ⟨p0, p1⟩, ⟨i0, i1⟩, ⟨j0, j1⟩, ⟨m0, m1⟩, ⟨q0, q1⟩, ⟨h0, h1⟩, ⟨x0, x1⟩, ⟨y0, y1⟩⟩ := hf; obtain ⟨⟨t0, t1⟩, ⟨la0, la1⟩, ⟨lb0, lb1⟩, ⟨lc0, lc1⟩⟩ := hl
  have hx2 : 0 ≤ X ∧ X ≤ 4294967295 := by omega
  have hw1 : IntKind.u32.wrap l.a = X := by rw [IntKind.wrap_u32, hX]
  have HBB : Hid (trBehind c f l = trLook c f l) := Lib.hid (by simp [trBehind, hp, hk])
  clear ht hmo hQ hp hk hX
  cases xz : (X == 0)
  · skip
    have xz' : (X != 0) = true := by simpa using xz
    by_cases hon : f.h < c.bits ∧ 1 < l.b
    · obtain ⟨hon1, hon2⟩ := hon
      have hon : f.h < c.bits ∧ 1 < l.b := ⟨hon1, hon2⟩
      have d1 : decide (f.h < c.bits) = true := by simpa using hon1
      have d2 : decide (1 < l.b) = true := by simpa using hon2
      have HB : Hid (trBehind c f l = { { f with x := X } with h := f.h + 1 }) := Lib.hid (by rw [HBB.out]; simp only [trLook, trLooked, HX.out, xz, if_pos hon]; rfl)
      clear hon hon1 hon2
      go_enter Tryd.func62, Tryd.ntmps62
      go_wp2_with (go_at_call 80; refine (trAt_any c f HF.out c.bits HNB.out.1 HNB.out.2.1 HNB.out.2.2 V _ EX).mono ?_; rintro e w1 ⟨rfl, os1, n1, rfl⟩; rw [HQ.out])
      ((refine wp_region_ext_lit (by kernel_rfl) (by kernel_rfl) ?_); (repeat (go_big_quiet_step (fail))); (refine wpQuiet_nil ?_; intro _ hw'; obtain ⟨⟨osq, nq⟩, hw''⟩ := hw'; replace hw'' : _ = grew _ osq nq := hw''; subst hw''))
      go_wp2
      (refine bodyPost_ret (v := (trStep c f).v) (by rw [HS.out]; simp [results, Tryd.results62, go_sem]) rfl ⟨rfl, ?_⟩; rw [HB.out]; first | exact EX | exact EXB)
    · by_cases hon1 : f.h < c.bits
      · have hon2 : ¬ 1 < l.b := fun h => hon ⟨hon1, h⟩
        have d1 : decide (f.h < c.bits) = true := by simpa using hon1
        have d2 : decide (1 < l.b) = false := by simpa using hon2
        clear hon1 hon2
        have fx := xz
        have HB : Hid (trBehind c f l = { { f with x := X } with pc := 6 }) := Lib.hid (by rw [HBB.out]; simp only [trLook, trLooked, HX.out, xz, if_neg hon]; rfl)
        clear hon
        go_enter Tryd.func62, Tryd.ntmps62
        go_wp2_with (go_at_call 80; refine (trAt_any c f HF.out c.bits HNB.out.1 HNB.out.2.1 HNB.out.2.2 V _ EX).mono ?_; rintro e w1 ⟨rfl, os1, n1, rfl⟩; rw [HQ.out])
        ((refine wp_region_ext_lit (by kernel_rfl) (by kernel_rfl) ?_); (repeat (go_big_quiet_step (fail))); (refine wpQuiet_nil ?_; intro _ hw'; obtain ⟨⟨osq, nq⟩, hw''⟩ := hw'; replace hw'' : _ = grew _ osq nq := hw''; subst hw''))
        go_wp2
        (refine bodyPost_ret (v := (trStep c f).v) (by rw [HS.out]; simp [results, Tryd.results62, go_sem]) rfl ⟨rfl, ?_⟩; rw [HB.out]; first | exact EX | exact EXB)
      · have d1 : decide (f.h < c.bits) = false := by simpa using hon1
        clear hon1
        have fx := xz
        have HB : Hid (trBehind c f l = { { f with x := X } with pc := 6 }) := Lib.hid (by rw [HBB.out]; simp only [trLook, trLooked, HX.out, xz, if_neg hon]; rfl)
        clear hon
        go_enter Tryd.func62, Tryd.ntmps62
        go_wp2_with (go_at_call 80; refine (trAt_any c f HF.out c.bits HNB.out.1 HNB.out.2.1 HNB.out.2.2 V _ EX).mono ?_; rintro e w1 ⟨rfl, os1, n1, rfl⟩; rw [HQ.out])
        ((refine wp_region_ext_lit (by kernel_rfl) (by kernel_rfl) ?_); (repeat (go_big_quiet_step (fail))); (refine wpQuiet_nil ?_; intro _ hw'; obtain ⟨⟨osq, nq⟩, hw''⟩ := hw'; replace hw'' : _ = grew _ osq nq := hw''; subst hw''))
        go_wp2
        (refine bodyPost_ret (v := (trStep c f).v) (by rw [HS.out]; simp [results, Tryd.results62, go_sem]) rfl ⟨rfl, ?_⟩; rw [HB.out]; first | exact EX | exact EXB)
  · skip
    have xz' : (X != 0) = false := by simpa using xz
    by_cases hon : f.h < c.bits ∧ 0 < l.b
    · obtain ⟨hon1, hon2⟩ := hon
      have hon : f.h < c.bits ∧ 0 < l.b := ⟨hon1, hon2⟩
      have d1 : decide (f.h < c.bits) = true := by simpa using hon1
      have d2 : decide (0 < l.b) = true := by simpa using hon2
      have HB : Hid (trBehind c f l = { f with h := f.h + 1 }) := Lib.hid (by rw [HBB.out]; simp only [trLook, trLooked, HX.out, xz, if_pos hon]; rfl)
      clear hon hon1 hon2
      go_enter Tryd.func62, Tryd.ntmps62
      go_wp2_with (go_at_call 80; refine (trAt_any c f HF.out c.bits HNB.out.1 HNB.out.2.1 HNB.out.2.2 V _ EX).mono ?_; rintro e w1 ⟨rfl, os1, n1, rfl⟩; rw [HQ.out])
      ((refine wp_region_ext_lit (by kernel_rfl) (by kernel_rfl) ?_); (repeat (go_big_quiet_step (fail))); (refine wpQuiet_nil ?_; intro _ hw'; obtain ⟨⟨osq, nq⟩, hw''⟩ := hw'; replace hw'' : _ = grew _ osq nq := hw''; subst hw''))
      go_wp2
      (refine bodyPost_ret (v := (trStep c f).v) (by rw [HS.out]; simp [results, Tryd.results62, go_sem]) rfl ⟨rfl, ?_⟩; rw [HB.out]; first | exact EX | exact EXB)
    · by_cases hon1 : f.h < c.bits
      · have hon2 : ¬ 0 < l.b := fun h => hon ⟨hon1, h⟩
        have d1 : decide (f.h < c.bits) = true := by simpa using hon1
        have d2 : decide (0 < l.b) = false := by simpa using hon2
        clear hon1 hon2
        cases fx : (f.x == 0)
        · have fx' : (f.x != 0) = true := by simpa using fx
          have HB : Hid (trBehind c f l = { f with pc := 6 }) := Lib.hid (by rw [HBB.out]; simp only [trLook, trLooked, HX.out, xz, if_neg hon, fx]; rfl)
          clear hon
          go_enter Tryd.func62, Tryd.ntmps62
          go_wp2_with (go_at_call 80; refine (trAt_any c f HF.out c.bits HNB.out.1 HNB.out.2.1 HNB.out.2.2 V _ EX).mono ?_; rintro e w1 ⟨rfl, os1, n1, rfl⟩; rw [HQ.out])
          ((refine wp_region_ext_lit (by kernel_rfl) (by kernel_rfl) ?_); (repeat (go_big_quiet_step (fail))); (refine wpQuiet_nil ?_; intro _ hw'; obtain ⟨⟨osq, nq⟩, hw''⟩ := hw'; replace hw'' : _ = grew _ osq nq := hw''; subst hw''))
          go_wp2
          (refine bodyPost_ret (v := (trStep c f).v) (by rw [HS.out]; simp [results, Tryd.results62, go_sem]) rfl ⟨rfl, ?_⟩; rw [HB.out]; first | exact EX | exact EXB)
        · have fx' : (f.x != 0) = false := by simpa using fx
          have HB : Hid (trBehind c f l = { f with pc := 8 }) := Lib.hid (by rw [HBB.out]; simp only [trLook, trLooked, HX.out, xz, if_neg hon, fx]; rfl)
          clear hon
          go_enter Tryd.func62, Tryd.ntmps62
          go_wp2_with (go_at_call 80; refine (trAt_any c f HF.out c.bits HNB.out.1 HNB.out.2.1 HNB.out.2.2 V _ EX).mono ?_; rintro e w1 ⟨rfl, os1, n1, rfl⟩; rw [HQ.out])
          ((refine wp_region_ext_lit (by kernel_rfl) (by kernel_rfl) ?_); (repeat (go_big_quiet_step (fail))); (refine wpQuiet_nil ?_; intro _ hw'; obtain ⟨⟨osq, nq⟩, hw''⟩ := hw'; replace hw'' : _ = grew _ osq nq := hw''; subst hw''))
          go_wp2
          (refine bodyPost_ret (v := (trStep c f).v) (by rw [HS.out]; simp [results, Tryd.results62, go_sem]) rfl ⟨rfl, ?_⟩; rw [HB.out]; first | exact EX | exact EXB)
      · have d1 : decide (f.h < c.bits) = false := by simpa using hon1
        clear hon1
        cases fx : (f.x == 0)
        · have fx' : (f.x != 0) = true := by simpa using fx
          have HB : Hid (trBehind c f l = { f with pc := 6 }) := Lib.hid (by rw [HBB.out]; simp only [trLook, trLooked, HX.out, xz, if_neg hon, fx]; rfl)
          clear hon
          go_enter Tryd.func62, Tryd.ntmps62
          go_wp2_with (go_at_call 80; refine (trAt_any c f HF.out c.bits HNB.out.1 HNB.out.2.1 HNB.out.2.2 V _ EX).mono ?_; rintro e w1 ⟨rfl, os1, n1, rfl⟩; rw [HQ.out])
          ((refine wp_region_ext_lit (by kernel_rfl) (by kernel_rfl) ?_); (repeat (go_big_quiet_step (fail))); (refine wpQuiet_nil ?_; intro _ hw'; obtain ⟨⟨osq, nq⟩, hw''⟩ := hw'; replace hw'' : _ = grew _ osq nq := hw''; subst hw''))
          go_wp2
          (refine bodyPost_ret (v := (trStep c f).v) (by rw [HS.out]; simp [results, Tryd.results62, go_sem]) rfl ⟨rfl, ?_⟩; rw [HB.out]; first | exact EX | exact EXB)
        · have fx' : (f.x != 0) = false := by simpa using fx
          have HB : Hid (trBehind c f l = { f with pc := 8 }) := Lib.hid (by rw [HBB.out]; simp only [trLook, trLooked, HX.out, xz, if_neg hon, fx]; rfl)
          clear hon
          go_enter Tryd.func62, Tryd.ntmps62
          go_wp2_with (go_at_call 80; refine (trAt_any c f HF.out c.bits HNB.out.1 HNB.out.2.1 HNB.out.2.2 V _ EX).mono ?_; rintro e w1 ⟨rfl, os1, n1, rfl⟩; rw [HQ.out])
          ((refine wp_region_ext_lit (by kernel_rfl) (by kernel_rfl) ?_); (repeat (go_big_quiet_step (fail))); (refine wpQuiet_nil ?_; intro _ hw'; obtain ⟨⟨osq, nq⟩, hw''⟩ := hw'; replace hw'' : _ = grew _ osq nq := hw''; subst hw''))
          go_wp2
          (refine bodyPost_ret (v := (trStep c f).v) (by rw [HS.out]; simp [results, Tryd.results62, go_sem]) rfl ⟨rfl, ?_⟩; rw [HB.out]; first | exact EX | exact EXB)
end Go.Proofs.YtpaplhkjaniafaaDoor
