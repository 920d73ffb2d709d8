/- The walk of 'ProgStarts'. -/
import Derived.Test.YtmhmaifmendebaaDoorPgE
import Derived.Test.YtmhmaifmendebaaDoorPgS
import Derived.Test.YtmhmaifmendebaaDoorCheck
namespace Go.Proofs.YtmhmaifmendebaaDoor
open Go Go.RowKit
set_option maxRecDepth 100000
set_option maxHeartbeats 8000000

theorem opCheck_as (c : Cfg) (o : Opn) (D : Int) (hD : opErr c o = D) (ho : o.Fits) (w : World) (ht : Tab w) : Calls Tryd.prog 12 #[c.v, o.v] w fun e w' => e = .returned (.int .i64 D) ∧ Ext w w' := by
  subst hD
  exact opCheck_any c o ho w ht
theorem starts_key {D E k : Int} (hE : E = if D == 40 then 40 else if D == 0 then 0 else 2) (hk : E = 0 → k = 1) :
    ((D == 40) = true ∧ (E == 40) = true) ∨ ((D == 40) = false ∧ (D != 0) = true ∧ (E == 2) = true) ∨ ((D == 40) = false ∧ (D != 0) = false ∧ (E == 0) = true ∧ (k == 1) = true) := by
  cases h : (D == 40)
  · cases h0 : (D == 0)
    · exact .inr (.inl ⟨rfl, by simpa using h0, by simp [hE, h, h0]⟩)
    · have e : E = 0 := by simp [hE, h, h0]
      exact .inr (.inr ⟨rfl, by simpa using h0, by simpa using e, by simpa using hk e⟩)
  · exact .inl ⟨rfl, by simp [hE, h]⟩
theorem cell_other {V : World} {o o' : Obj} {os : Array Obj} {d b i : Nat} {v : Value} (hb : V.heap.size + 1 ≤ b) (h : (grew (V.alloc o) os d).cell? ⟨b, i, none⟩ = some v) : (grew (V.alloc o') os d).cell? ⟨b, i, none⟩ = some v :=
  mid_grew (B := V.alloc o) (B' := V.alloc o') (lo := V.heap.size) (by simp) (fun k hk => by rw [alloc_heap, alloc_heap, if_neg (by omega), if_neg (by omega)]) os d d b i v (.inr (by simpa using hb)) h
theorem cell_both {X : World} {os : Array Obj} {d b i : Nat} {v : Value} (h : (grew X os d).cell? ⟨b, i, none⟩ = some v) (os' : Array Obj) (n : Nat) : (grew X (both os os') n).cell? ⟨b, i, none⟩ = some v := by
  rw [← grew_grew X os os' d n]
  exact ext_cell ((Ext.refl _).more os' n) h
theorem progStarts_k1 (c : Cfg) (o : Opn) (ho : o.Fits) (hk : o.kind = 1) (A : Actn) (E D : Int) (hA : pgNextA c (startF o) = A) (hE : pgErr c (startF o) = E) (hD : opErr c ⟨o.kind, o.a, o.b, o.c⟩ = D)
    (hd : ((D == 40) = true ∧ (E == 40) = true) ∨ ((D == 40) = false ∧ (D != 0) = true ∧ (E == 2) = true) ∨ ((D == 40) = false ∧ (D != 0) = false ∧ (E == 0) = true ∧ (A.kind == 1) = true)) (w : World) (ht : Tab w) : Calls Tryd.prog 4 #[c.v, o.v] w
    fun e w' => e = .returned (.bool true) ∧ Ext w w' := by
  have HT := Lib.hid ht
  have HA := Lib.hid hA
  have HE := Lib.hid hE
  have HF := Lib.hid (startF_fits ho)
  have HO : Hid (Opn.Fits ⟨o.kind, o.a, o.b, o.c⟩) := Lib.hid ⟨ho.kind, ho.a, ho.b, ho.c⟩
  have HD := Lib.hid hD
  have HR := Lib.hid hd
  have k1 : (o.kind == 1) = true := by simp; omega
  have n1 : (o.kind != 1) = false := by simp; omega
  have k9 : (o.kind == 9) = false := by simp; omega
  have n9 : (o.kind != 9) = true := by simp; omega
  have k12 : (o.kind == 12) = false := by simp; omega
  have n12 : (o.kind != 12) = true := by simp; omega
  have k5 : (o.kind == 5) = false := by simp; omega
  have n5 : (o.kind != 5) = true := by simp; omega
  clear hA hE hD ht ho hk hd
  go_enter Tryd.func4, Tryd.ntmps4
  go_upto_region 2 with (go_at_call 11; refine (alive_any _ (Tab.ext HT.out EX)).mono ?_; rintro e w1 ⟨rfl, os1, n1, rfl⟩)
  go_cut [6, 7] (fun t6 t7 wn => ∃ b6, t6 = .pointer (some ⟨b6, 0, none⟩) ∧ t7 = .int .i64 E ∧ w.heap.size + 1 + 1 ≤ b6 ∧ Hid (Holds wn ([(b6, 0, .int .u8 A.kind), (b6, 1, .int .i64 A.at'), (b6, 2, .int .u64 A.a), (b6, 3, .int .u64 A.b), (b6, 4, .int .u64 A.c), (b6, 5, .int .i64 A.code), (b6, 6, .int .u32 A.v')])) ∧ Hid (Ext ((w.alloc (.cells #[.int .u8 c.object, .int .i64 c.instances, .int .i64 c.threads, .int .u8 c.kind, .int .i64 c.stripes, .int .i64 c.bits, .int .i64 c.cap, .int .i64 c.node, .int .i64 c.batch, .int .i64 c.chunk, .int .u64 c.limit, .int .u64 c.most] 24)).alloc (.cells #[.int .u8 o.kind, .int .u32 o.a, .int .u32 o.b, .int .u32 o.c] 36)) wn))
  case first =>
    go_region_held3 (fun W => W.cell? ⟨w.heap.size, 0, none⟩ = some (.int .u8 c.object) ∧ W.cell? ⟨w.heap.size, 1, none⟩ = some (.int .i64 c.instances) ∧ W.cell? ⟨w.heap.size, 2, none⟩ = some (.int .i64 c.threads) ∧ W.cell? ⟨w.heap.size, 3, none⟩ = some (.int .u8 c.kind) ∧ W.cell? ⟨w.heap.size, 4, none⟩ = some (.int .i64 c.stripes) ∧ W.cell? ⟨w.heap.size, 5, none⟩ = some (.int .i64 c.bits) ∧ W.cell? ⟨w.heap.size, 6, none⟩ = some (.int .i64 c.cap) ∧ W.cell? ⟨w.heap.size, 7, none⟩ = some (.int .i64 c.node) ∧ W.cell? ⟨w.heap.size, 8, none⟩ = some (.int .i64 c.batch) ∧ W.cell? ⟨w.heap.size, 9, none⟩ = some (.int .i64 c.chunk) ∧ W.cell? ⟨w.heap.size, 10, none⟩ = some (.int .u64 c.limit) ∧ W.cell? ⟨w.heap.size, 11, none⟩ = some (.int .u64 c.most) ∧ W.cell? ⟨w.heap.size + 1, 0, none⟩ = some (.int .u8 o.kind) ∧ W.cell? ⟨w.heap.size + 1, 1, none⟩ = some (.int .u32 o.a) ∧ W.cell? ⟨w.heap.size + 1, 2, none⟩ = some (.int .u32 o.b) ∧ W.cell? ⟨w.heap.size + 1, 3, none⟩ = some (.int .u32 o.c)) ((simp [go_sem]; done)) (first | (go_at_call 9; (with_reducible refine (regStart_any o _).mono ?_); rintro e w1 ⟨rfl, x1, y1, rfl⟩) | (go_at_call 8; refine (pnext_as c (startF o) A E HA.out HE.out HF.out _ (Tab.ext HT.out EX)).mono ?_; rintro e w1 ⟨rfl, os2, n2, rfl⟩))
    all_goals
      go_wp2_with fail
      go_meet
      case rel => exact ⟨_, rfl, rfl, by omega, Lib.hid (by simp [Holds, go_sem]), Lib.hid EXX⟩
  case rest =>
    obtain ⟨b6, rfl, rfl, hb6, HH, HX⟩ := hcut
    have q0 := HH.out
    obtain ⟨os, d, rfl⟩ := HX.out
    clear HX HH
    simp only [Holds] at q0
    obtain ⟨q0, _⟩ := q0
    have q1 := cell_other (o' := .cells #[.int .u8 o.kind, .int .u32 o.a, .int .u32 o.b, .int .u32 o.c] 36) (by simp; omega) q0
    clear q0
    rcases HR.out with ⟨d1, e1⟩ | ⟨d1, d0, e1⟩ | ⟨d1, d0, e1, a1⟩
    all_goals
      go_wp2_with (go_at_call 12; refine (opCheck_as c ⟨o.kind, o.a, o.b, o.c⟩ D HD.out HO.out _ (Tab.ext HT.out EX)).mono ?_; rintro e w1 ⟨rfl, os3, n3, rfl⟩; have q2 := cell_both q1 os3 n3)
      go_ret
      exact ⟨rfl, EX⟩
theorem progStarts_k9 (c : Cfg) (o : Opn) (ho : o.Fits) (hk : o.kind = 9) (A : Actn) (E D : Int) (hA : pgNextA c (startF o) = A) (hE : pgErr c (startF o) = E) (hD : opErr c ⟨o.kind, o.a, o.b, o.c⟩ = D)
    (hd : ((D == 40) = true ∧ (E == 40) = true) ∨ ((D == 40) = false ∧ (D != 0) = true ∧ (E == 2) = true) ∨ ((D == 40) = false ∧ (D != 0) = false ∧ (E == 0) = true ∧ (A.kind == 1) = true)) (w : World) (ht : Tab w) : Calls Tryd.prog 4 #[c.v, o.v] w
    fun e w' => e = .returned (.bool true) ∧ Ext w w' := by
  have HT := Lib.hid ht
  have HA := Lib.hid hA
  have HE := Lib.hid hE
  have HF := Lib.hid (startF_fits ho)
  have HO : Hid (Opn.Fits ⟨o.kind, o.a, o.b, o.c⟩) := Lib.hid ⟨ho.kind, ho.a, ho.b, ho.c⟩
  have HD := Lib.hid hD
  have HR := Lib.hid hd
  have k1 : (o.kind == 1) = false := by simp; omega
  have n1 : (o.kind != 1) = true := by simp; omega
  have k9 : (o.kind == 9) = true := by simp; omega
  have n9 : (o.kind != 9) = false := by simp; omega
  have k12 : (o.kind == 12) = false := by simp; omega
  have n12 : (o.kind != 12) = true := by simp; omega
  have k5 : (o.kind == 5) = false := by simp; omega
  have n5 : (o.kind != 5) = true := by simp; omega
  clear hA hE hD ht ho hk hd
  go_enter Tryd.func4, Tryd.ntmps4
  go_upto_region 2 with (go_at_call 11; refine (alive_any _ (Tab.ext HT.out EX)).mono ?_; rintro e w1 ⟨rfl, os1, n1, rfl⟩)
  go_cut [6, 7] (fun t6 t7 wn => ∃ b6, t6 = .pointer (some ⟨b6, 0, none⟩) ∧ t7 = .int .i64 E ∧ w.heap.size + 1 + 1 ≤ b6 ∧ Hid (Holds wn ([(b6, 0, .int .u8 A.kind), (b6, 1, .int .i64 A.at'), (b6, 2, .int .u64 A.a), (b6, 3, .int .u64 A.b), (b6, 4, .int .u64 A.c), (b6, 5, .int .i64 A.code), (b6, 6, .int .u32 A.v')])) ∧ Hid (Ext ((w.alloc (.cells #[.int .u8 c.object, .int .i64 c.instances, .int .i64 c.threads, .int .u8 c.kind, .int .i64 c.stripes, .int .i64 c.bits, .int .i64 c.cap, .int .i64 c.node, .int .i64 c.batch, .int .i64 c.chunk, .int .u64 c.limit, .int .u64 c.most] 24)).alloc (.cells #[.int .u8 o.kind, .int .u32 o.a, .int .u32 o.b, .int .u32 o.c] 36)) wn))
  case first =>
    go_region_held3 (fun W => W.cell? ⟨w.heap.size, 0, none⟩ = some (.int .u8 c.object) ∧ W.cell? ⟨w.heap.size, 1, none⟩ = some (.int .i64 c.instances) ∧ W.cell? ⟨w.heap.size, 2, none⟩ = some (.int .i64 c.threads) ∧ W.cell? ⟨w.heap.size, 3, none⟩ = some (.int .u8 c.kind) ∧ W.cell? ⟨w.heap.size, 4, none⟩ = some (.int .i64 c.stripes) ∧ W.cell? ⟨w.heap.size, 5, none⟩ = some (.int .i64 c.bits) ∧ W.cell? ⟨w.heap.size, 6, none⟩ = some (.int .i64 c.cap) ∧ W.cell? ⟨w.heap.size, 7, none⟩ = some (.int .i64 c.node) ∧ W.cell? ⟨w.heap.size, 8, none⟩ = some (.int .i64 c.batch) ∧ W.cell? ⟨w.heap.size, 9, none⟩ = some (.int .i64 c.chunk) ∧ W.cell? ⟨w.heap.size, 10, none⟩ = some (.int .u64 c.limit) ∧ W.cell? ⟨w.heap.size, 11, none⟩ = some (.int .u64 c.most) ∧ W.cell? ⟨w.heap.size + 1, 0, none⟩ = some (.int .u8 o.kind) ∧ W.cell? ⟨w.heap.size + 1, 1, none⟩ = some (.int .u32 o.a) ∧ W.cell? ⟨w.heap.size + 1, 2, none⟩ = some (.int .u32 o.b) ∧ W.cell? ⟨w.heap.size + 1, 3, none⟩ = some (.int .u32 o.c)) ((simp [go_sem]; done)) (first | (go_at_call 9; (with_reducible refine (regStart_any o _).mono ?_); rintro e w1 ⟨rfl, x1, y1, rfl⟩) | (go_at_call 8; refine (pnext_as c (startF o) A E HA.out HE.out HF.out _ (Tab.ext HT.out EX)).mono ?_; rintro e w1 ⟨rfl, os2, n2, rfl⟩))
    all_goals
      go_wp2_with fail
      go_meet
      case rel => exact ⟨_, rfl, rfl, by omega, Lib.hid (by simp [Holds, go_sem]), Lib.hid EXX⟩
  case rest =>
    obtain ⟨b6, rfl, rfl, hb6, HH, HX⟩ := hcut
    have q0 := HH.out
    obtain ⟨os, d, rfl⟩ := HX.out
    clear HX HH
    simp only [Holds] at q0
    obtain ⟨q0, _⟩ := q0
    have q1 := cell_other (o' := .cells #[.int .u8 o.kind, .int .u32 o.a, .int .u32 o.b, .int .u32 o.c] 36) (by simp; omega) q0
    clear q0
    rcases HR.out with ⟨d1, e1⟩ | ⟨d1, d0, e1⟩ | ⟨d1, d0, e1, a1⟩
    all_goals
      go_wp2_with (go_at_call 12; refine (opCheck_as c ⟨o.kind, o.a, o.b, o.c⟩ D HD.out HO.out _ (Tab.ext HT.out EX)).mono ?_; rintro e w1 ⟨rfl, os3, n3, rfl⟩; have q2 := cell_both q1 os3 n3)
      go_ret
      exact ⟨rfl, EX⟩
theorem progStarts_k12 (c : Cfg) (o : Opn) (ho : o.Fits) (hk : o.kind = 12) (A : Actn) (E D : Int) (hA : pgNextA c (startF o) = A) (hE : pgErr c (startF o) = E) (hD : opErr c ⟨o.kind, o.a, o.b, o.c⟩ = D)
    (hd : ((D == 40) = true ∧ (E == 40) = true) ∨ ((D == 40) = false ∧ (D != 0) = true ∧ (E == 2) = true) ∨ ((D == 40) = false ∧ (D != 0) = false ∧ (E == 0) = true ∧ (A.kind == 1) = true)) (w : World) (ht : Tab w) : Calls Tryd.prog 4 #[c.v, o.v] w
    fun e w' => e = .returned (.bool true) ∧ Ext w w' := by
  have HT := Lib.hid ht
  have HA := Lib.hid hA
  have HE := Lib.hid hE
  have HF := Lib.hid (startF_fits ho)
  have HO : Hid (Opn.Fits ⟨o.kind, o.a, o.b, o.c⟩) := Lib.hid ⟨ho.kind, ho.a, ho.b, ho.c⟩
  have HD := Lib.hid hD
  have HR := Lib.hid hd
  have k1 : (o.kind == 1) = false := by simp; omega
  have n1 : (o.kind != 1) = true := by simp; omega
  have k9 : (o.kind == 9) = false := by simp; omega
  have n9 : (o.kind != 9) = true := by simp; omega
  have k12 : (o.kind == 12) = true := by simp; omega
  have n12 : (o.kind != 12) = false := by simp; omega
  have k5 : (o.kind == 5) = false := by simp; omega
  have n5 : (o.kind != 5) = true := by simp; omega
  clear hA hE hD ht ho hk hd
  go_enter Tryd.func4, Tryd.ntmps4
  go_upto_region 2 with (go_at_call 11; refine (alive_any _ (Tab.ext HT.out EX)).mono ?_; rintro e w1 ⟨rfl, os1, n1, rfl⟩)
  go_cut [6, 7] (fun t6 t7 wn => ∃ b6, t6 = .pointer (some ⟨b6, 0, none⟩) ∧ t7 = .int .i64 E ∧ w.heap.size + 1 + 1 ≤ b6 ∧ Hid (Holds wn ([(b6, 0, .int .u8 A.kind), (b6, 1, .int .i64 A.at'), (b6, 2, .int .u64 A.a), (b6, 3, .int .u64 A.b), (b6, 4, .int .u64 A.c), (b6, 5, .int .i64 A.code), (b6, 6, .int .u32 A.v')])) ∧ Hid (Ext ((w.alloc (.cells #[.int .u8 c.object, .int .i64 c.instances, .int .i64 c.threads, .int .u8 c.kind, .int .i64 c.stripes, .int .i64 c.bits, .int .i64 c.cap, .int .i64 c.node, .int .i64 c.batch, .int .i64 c.chunk, .int .u64 c.limit, .int .u64 c.most] 24)).alloc (.cells #[.int .u8 o.kind, .int .u32 o.a, .int .u32 o.b, .int .u32 o.c] 36)) wn))
  case first =>
    go_region_held3 (fun W => W.cell? ⟨w.heap.size, 0, none⟩ = some (.int .u8 c.object) ∧ W.cell? ⟨w.heap.size, 1, none⟩ = some (.int .i64 c.instances) ∧ W.cell? ⟨w.heap.size, 2, none⟩ = some (.int .i64 c.threads) ∧ W.cell? ⟨w.heap.size, 3, none⟩ = some (.int .u8 c.kind) ∧ W.cell? ⟨w.heap.size, 4, none⟩ = some (.int .i64 c.stripes) ∧ W.cell? ⟨w.heap.size, 5, none⟩ = some (.int .i64 c.bits) ∧ W.cell? ⟨w.heap.size, 6, none⟩ = some (.int .i64 c.cap) ∧ W.cell? ⟨w.heap.size, 7, none⟩ = some (.int .i64 c.node) ∧ W.cell? ⟨w.heap.size, 8, none⟩ = some (.int .i64 c.batch) ∧ W.cell? ⟨w.heap.size, 9, none⟩ = some (.int .i64 c.chunk) ∧ W.cell? ⟨w.heap.size, 10, none⟩ = some (.int .u64 c.limit) ∧ W.cell? ⟨w.heap.size, 11, none⟩ = some (.int .u64 c.most) ∧ W.cell? ⟨w.heap.size + 1, 0, none⟩ = some (.int .u8 o.kind) ∧ W.cell? ⟨w.heap.size + 1, 1, none⟩ = some (.int .u32 o.a) ∧ W.cell? ⟨w.heap.size + 1, 2, none⟩ = some (.int .u32 o.b) ∧ W.cell? ⟨w.heap.size + 1, 3, none⟩ = some (.int .u32 o.c)) ((simp [go_sem]; done)) (first | (go_at_call 9; (with_reducible refine (regStart_any o _).mono ?_); rintro e w1 ⟨rfl, x1, y1, rfl⟩) | (go_at_call 8; refine (pnext_as c (startF o) A E HA.out HE.out HF.out _ (Tab.ext HT.out EX)).mono ?_; rintro e w1 ⟨rfl, os2, n2, rfl⟩))
    all_goals
      go_wp2_with fail
      go_meet
      case rel => exact ⟨_, rfl, rfl, by omega, Lib.hid (by simp [Holds, go_sem]), Lib.hid EXX⟩
  case rest =>
    obtain ⟨b6, rfl, rfl, hb6, HH, HX⟩ := hcut
    have q0 := HH.out
    obtain ⟨os, d, rfl⟩ := HX.out
    clear HX HH
    simp only [Holds] at q0
    obtain ⟨q0, _⟩ := q0
    have q1 := cell_other (o' := .cells #[.int .u8 o.kind, .int .u32 o.a, .int .u32 o.b, .int .u32 o.c] 36) (by simp; omega) q0
    clear q0
    rcases HR.out with ⟨d1, e1⟩ | ⟨d1, d0, e1⟩ | ⟨d1, d0, e1, a1⟩
    all_goals
      go_wp2_with (go_at_call 12; refine (opCheck_as c ⟨o.kind, o.a, o.b, o.c⟩ D HD.out HO.out _ (Tab.ext HT.out EX)).mono ?_; rintro e w1 ⟨rfl, os3, n3, rfl⟩; have q2 := cell_both q1 os3 n3)
      go_ret
      exact ⟨rfl, EX⟩
theorem progStarts_k5 (c : Cfg) (o : Opn) (ho : o.Fits) (hk : o.kind = 5) (A : Actn) (E D : Int) (hA : pgNextA c (startF o) = A) (hE : pgErr c (startF o) = E) (hD : opErr c ⟨o.kind, o.a, 0, 0⟩ = D)
    (hd : ((D == 40) = true ∧ (E == 40) = true) ∨ ((D == 40) = false ∧ (D != 0) = true ∧ (E == 2) = true) ∨ ((D == 40) = false ∧ (D != 0) = false ∧ (E == 0) = true ∧ (A.kind == 1) = true)) (w : World) (ht : Tab w) : Calls Tryd.prog 4 #[c.v, o.v] w
    fun e w' => e = .returned (.bool true) ∧ Ext w w' := by
  have HT := Lib.hid ht
  have HA := Lib.hid hA
  have HE := Lib.hid hE
  have HF := Lib.hid (startF_fits ho)
  have HO : Hid (Opn.Fits ⟨o.kind, o.a, 0, 0⟩) := Lib.hid ⟨ho.kind, ho.a, ⟨by simp, by simp⟩, ⟨by simp, by simp⟩⟩
  have HD := Lib.hid hD
  have HR := Lib.hid hd
  have k1 : (o.kind == 1) = false := by simp; omega
  have n1 : (o.kind != 1) = true := by simp; omega
  have k9 : (o.kind == 9) = false := by simp; omega
  have n9 : (o.kind != 9) = true := by simp; omega
  have k12 : (o.kind == 12) = false := by simp; omega
  have n12 : (o.kind != 12) = true := by simp; omega
  have k5 : (o.kind == 5) = true := by simp; omega
  have n5 : (o.kind != 5) = false := by simp; omega
  clear hA hE hD ht ho hk hd
  go_enter Tryd.func4, Tryd.ntmps4
  go_upto_region 2 with (go_at_call 11; refine (alive_any _ (Tab.ext HT.out EX)).mono ?_; rintro e w1 ⟨rfl, os1, n1, rfl⟩)
  go_cut [6, 7] (fun t6 t7 wn => ∃ b6, t6 = .pointer (some ⟨b6, 0, none⟩) ∧ t7 = .int .i64 E ∧ w.heap.size + 1 + 1 ≤ b6 ∧ Hid (Holds wn ([(b6, 0, .int .u8 A.kind), (b6, 1, .int .i64 A.at'), (b6, 2, .int .u64 A.a), (b6, 3, .int .u64 A.b), (b6, 4, .int .u64 A.c), (b6, 5, .int .i64 A.code), (b6, 6, .int .u32 A.v')])) ∧ Hid (Ext ((w.alloc (.cells #[.int .u8 c.object, .int .i64 c.instances, .int .i64 c.threads, .int .u8 c.kind, .int .i64 c.stripes, .int .i64 c.bits, .int .i64 c.cap, .int .i64 c.node, .int .i64 c.batch, .int .i64 c.chunk, .int .u64 c.limit, .int .u64 c.most] 24)).alloc (.cells #[.int .u8 o.kind, .int .u32 o.a, .int .u32 o.b, .int .u32 o.c] 36)) wn))
  case first =>
    go_region_held3 (fun W => W.cell? ⟨w.heap.size, 0, none⟩ = some (.int .u8 c.object) ∧ W.cell? ⟨w.heap.size, 1, none⟩ = some (.int .i64 c.instances) ∧ W.cell? ⟨w.heap.size, 2, none⟩ = some (.int .i64 c.threads) ∧ W.cell? ⟨w.heap.size, 3, none⟩ = some (.int .u8 c.kind) ∧ W.cell? ⟨w.heap.size, 4, none⟩ = some (.int .i64 c.stripes) ∧ W.cell? ⟨w.heap.size, 5, none⟩ = some (.int .i64 c.bits) ∧ W.cell? ⟨w.heap.size, 6, none⟩ = some (.int .i64 c.cap) ∧ W.cell? ⟨w.heap.size, 7, none⟩ = some (.int .i64 c.node) ∧ W.cell? ⟨w.heap.size, 8, none⟩ = some (.int .i64 c.batch) ∧ W.cell? ⟨w.heap.size, 9, none⟩ = some (.int .i64 c.chunk) ∧ W.cell? ⟨w.heap.size, 10, none⟩ = some (.int .u64 c.limit) ∧ W.cell? ⟨w.heap.size, 11, none⟩ = some (.int .u64 c.most) ∧ W.cell? ⟨w.heap.size + 1, 0, none⟩ = some (.int .u8 o.kind) ∧ W.cell? ⟨w.heap.size + 1, 1, none⟩ = some (.int .u32 o.a) ∧ W.cell? ⟨w.heap.size + 1, 2, none⟩ = some (.int .u32 o.b) ∧ W.cell? ⟨w.heap.size + 1, 3, none⟩ = some (.int .u32 o.c)) ((simp [go_sem]; done)) (first | (go_at_call 9; (with_reducible refine (regStart_any o _).mono ?_); rintro e w1 ⟨rfl, x1, y1, rfl⟩) | (go_at_call 8; refine (pnext_as c (startF o) A E HA.out HE.out HF.out _ (Tab.ext HT.out EX)).mono ?_; rintro e w1 ⟨rfl, os2, n2, rfl⟩))
    all_goals
      go_wp2_with fail
      go_meet
      case rel => exact ⟨_, rfl, rfl, by omega, Lib.hid (by simp [Holds, go_sem]), Lib.hid EXX⟩
  case rest =>
    obtain ⟨b6, rfl, rfl, hb6, HH, HX⟩ := hcut
    have q0 := HH.out
    obtain ⟨os, d, rfl⟩ := HX.out
    clear HX HH
    simp only [Holds] at q0
    obtain ⟨q0, _⟩ := q0
    have q1 := cell_other (o' := .cells #[.int .u8 o.kind, .int .u32 o.a, .int .u32 0, .int .u32 0] 36) (by simp; omega) q0
    clear q0
    rcases HR.out with ⟨d1, e1⟩ | ⟨d1, d0, e1⟩ | ⟨d1, d0, e1, a1⟩
    all_goals
      go_wp2_with (go_at_call 12; refine (opCheck_as c ⟨o.kind, o.a, 0, 0⟩ D HD.out HO.out _ (Tab.ext HT.out EX)).mono ?_; rintro e w1 ⟨rfl, os3, n3, rfl⟩; have q2 := cell_both q1 os3 n3)
      go_ret
      exact ⟨rfl, EX⟩
theorem progStarts_k0 (c : Cfg) (o : Opn) (ho : o.Fits) (hk : o.kind ≠ 1 ∧ o.kind ≠ 9 ∧ o.kind ≠ 12 ∧ o.kind ≠ 5) (A : Actn) (E D : Int) (hA : pgNextA c (startF o) = A) (hE : pgErr c (startF o) = E) (hD : opErr c ⟨o.kind, o.a, o.b, 0⟩ = D)
    (hd : ((D == 40) = true ∧ (E == 40) = true) ∨ ((D == 40) = false ∧ (D != 0) = true ∧ (E == 2) = true) ∨ ((D == 40) = false ∧ (D != 0) = false ∧ (E == 0) = true ∧ (A.kind == 1) = true)) (w : World) (ht : Tab w) : Calls Tryd.prog 4 #[c.v, o.v] w
    fun e w' => e = .returned (.bool true) ∧ Ext w w' := by
  have HT := Lib.hid ht
  have HA := Lib.hid hA
  have HE := Lib.hid hE
  have HF := Lib.hid (startF_fits ho)
  have HO : Hid (Opn.Fits ⟨o.kind, o.a, o.b, 0⟩) := Lib.hid ⟨ho.kind, ho.a, ho.b, ⟨by simp, by simp⟩⟩
  have HD := Lib.hid hD
  have HR := Lib.hid hd
  have k1 : (o.kind == 1) = false := by simp; omega
  have n1 : (o.kind != 1) = true := by simp; omega
  have k9 : (o.kind == 9) = false := by simp; omega
  have n9 : (o.kind != 9) = true := by simp; omega
  have k12 : (o.kind == 12) = false := by simp; omega
  have n12 : (o.kind != 12) = true := by simp; omega
  have k5 : (o.kind == 5) = false := by simp; omega
  have n5 : (o.kind != 5) = true := by simp; omega
  clear hA hE hD ht ho hk hd
  go_enter Tryd.func4, Tryd.ntmps4
  go_upto_region 2 with (go_at_call 11; refine (alive_any _ (Tab.ext HT.out EX)).mono ?_; rintro e w1 ⟨rfl, os1, n1, rfl⟩)
  go_cut [6, 7] (fun t6 t7 wn => ∃ b6, t6 = .pointer (some ⟨b6, 0, none⟩) ∧ t7 = .int .i64 E ∧ w.heap.size + 1 + 1 ≤ b6 ∧ Hid (Holds wn ([(b6, 0, .int .u8 A.kind), (b6, 1, .int .i64 A.at'), (b6, 2, .int .u64 A.a), (b6, 3, .int .u64 A.b), (b6, 4, .int .u64 A.c), (b6, 5, .int .i64 A.code), (b6, 6, .int .u32 A.v')])) ∧ Hid (Ext ((w.alloc (.cells #[.int .u8 c.object, .int .i64 c.instances, .int .i64 c.threads, .int .u8 c.kind, .int .i64 c.stripes, .int .i64 c.bits, .int .i64 c.cap, .int .i64 c.node, .int .i64 c.batch, .int .i64 c.chunk, .int .u64 c.limit, .int .u64 c.most] 24)).alloc (.cells #[.int .u8 o.kind, .int .u32 o.a, .int .u32 o.b, .int .u32 o.c] 36)) wn))
  case first =>
    go_region_held3 (fun W => W.cell? ⟨w.heap.size, 0, none⟩ = some (.int .u8 c.object) ∧ W.cell? ⟨w.heap.size, 1, none⟩ = some (.int .i64 c.instances) ∧ W.cell? ⟨w.heap.size, 2, none⟩ = some (.int .i64 c.threads) ∧ W.cell? ⟨w.heap.size, 3, none⟩ = some (.int .u8 c.kind) ∧ W.cell? ⟨w.heap.size, 4, none⟩ = some (.int .i64 c.stripes) ∧ W.cell? ⟨w.heap.size, 5, none⟩ = some (.int .i64 c.bits) ∧ W.cell? ⟨w.heap.size, 6, none⟩ = some (.int .i64 c.cap) ∧ W.cell? ⟨w.heap.size, 7, none⟩ = some (.int .i64 c.node) ∧ W.cell? ⟨w.heap.size, 8, none⟩ = some (.int .i64 c.batch) ∧ W.cell? ⟨w.heap.size, 9, none⟩ = some (.int .i64 c.chunk) ∧ W.cell? ⟨w.heap.size, 10, none⟩ = some (.int .u64 c.limit) ∧ W.cell? ⟨w.heap.size, 11, none⟩ = some (.int .u64 c.most) ∧ W.cell? ⟨w.heap.size + 1, 0, none⟩ = some (.int .u8 o.kind) ∧ W.cell? ⟨w.heap.size + 1, 1, none⟩ = some (.int .u32 o.a) ∧ W.cell? ⟨w.heap.size + 1, 2, none⟩ = some (.int .u32 o.b) ∧ W.cell? ⟨w.heap.size + 1, 3, none⟩ = some (.int .u32 o.c)) ((simp [go_sem]; done)) (first | (go_at_call 9; (with_reducible refine (regStart_any o _).mono ?_); rintro e w1 ⟨rfl, x1, y1, rfl⟩) | (go_at_call 8; refine (pnext_as c (startF o) A E HA.out HE.out HF.out _ (Tab.ext HT.out EX)).mono ?_; rintro e w1 ⟨rfl, os2, n2, rfl⟩))
    all_goals
      go_wp2_with fail
      go_meet
      case rel => exact ⟨_, rfl, rfl, by omega, Lib.hid (by simp [Holds, go_sem]), Lib.hid EXX⟩
  case rest =>
    obtain ⟨b6, rfl, rfl, hb6, HH, HX⟩ := hcut
    have q0 := HH.out
    obtain ⟨os, d, rfl⟩ := HX.out
    clear HX HH
    simp only [Holds] at q0
    obtain ⟨q0, _⟩ := q0
    have q1 := cell_other (o' := .cells #[.int .u8 o.kind, .int .u32 o.a, .int .u32 o.b, .int .u32 0] 36) (by simp; omega) q0
    clear q0
    rcases HR.out with ⟨d1, e1⟩ | ⟨d1, d0, e1⟩ | ⟨d1, d0, e1, a1⟩
    all_goals
      go_wp2_with (go_at_call 12; refine (opCheck_as c ⟨o.kind, o.a, o.b, 0⟩ D HD.out HO.out _ (Tab.ext HT.out EX)).mono ?_; rintro e w1 ⟨rfl, os3, n3, rfl⟩; have q2 := cell_both q1 os3 n3)
      go_ret
      exact ⟨rfl, EX⟩
theorem progStarts_walk (c : Cfg) (o : Opn) (ho : o.Fits) (w : World) (ht : Tab w) : Calls Tryd.prog 4 #[c.v, o.v] w
    fun e w' => e = .returned (.bool true) ∧ Ext w w' := by
  have h1 : pgErr c (startF o) = _ := pgStart_err (c := c) ho
  have h2 : pgErr c (startF o) = 0 → (pgNextA c (startF o)).kind = 1 := fun h => pgStart_reads h
  have d := starts_key h1 h2
  by_cases k1 : o.kind = 1
  · have hop : pgOp o = ⟨o.kind, o.a, o.b, o.c⟩ := by simp [pgOp, k1]
    exact progStarts_k1 c o ho k1 _ _ _ rfl rfl (by rw [← hop]) d w ht
  · by_cases k9 : o.kind = 9
    · have hop : pgOp o = ⟨o.kind, o.a, o.b, o.c⟩ := by simp [pgOp, k9]
      exact progStarts_k9 c o ho k9 _ _ _ rfl rfl (by rw [← hop]) d w ht
    · by_cases k12 : o.kind = 12
      · have hop : pgOp o = ⟨o.kind, o.a, o.b, o.c⟩ := by simp [pgOp, k12]
        exact progStarts_k12 c o ho k12 _ _ _ rfl rfl (by rw [← hop]) d w ht
      · by_cases k5 : o.kind = 5
        · have hop : pgOp o = ⟨o.kind, o.a, 0, 0⟩ := by simp [pgOp, k5]
          exact progStarts_k5 c o ho k5 _ _ _ rfl rfl (by rw [← hop]) d w ht
        · have hop : pgOp o = ⟨o.kind, o.a, o.b, 0⟩ := by simp [pgOp, k1, k9, k12, k5]
          exact progStarts_k0 c o ho ⟨k1, k9, k12, k5⟩ _ _ _ rfl rfl (by rw [← hop]) d w ht
end Go.Proofs.YtmhmaifmendebaaDoor
