/- The walks of the layer 'trie': nodes, taking over, the state. -/
import Derived.Test.YtmhmaifmendebaaGreatDoorA4
import Derived.Test.YtmhmaifmendebaaGreatDoorA1
import Derived.Test.YtmhmaifmendebaaGreatDoorA0
import Derived.Deep.QuietTactic
import Derived.BigQuiet
import Derived.BigRegion
import Derived.Lib.Hide
import Derived.Deep.Light
import Derived.Outline
import Derived.Laws.EntriesVeiled
namespace Go.Proofs.YtmhmaifmendebaaGreatDoor.trie
open Go Go.RowKit
set_option maxRecDepth 100000
set_option maxHeartbeats 8000000

/-- A run's cells: its frame's, and its config's. -/
abbrev rn (c : Cfg) (f : Frm) : Array Value := #[.int .u8 f.kind, .int .u32 f.a, .int .u32 f.b, .int .u8 f.pc, .int .u8 f.i, .int .u8 f.j, .int .u8 f.n, .int .u8 f.p, .int .u8 f.h, .int .u32 f.x, .int .u32 f.y, .int .u8 c.object, .int .i64 c.instances, .int .i64 c.threads, .int .u8 c.kind, .int .i64 c.stripes, .int .i64 c.bits, .int .i64 c.cap, .int .i64 c.node, .int .i64 c.batch, .int .i64 c.chunk, .int .u64 c.limit, .int .u64 c.most]

theorem trNode_any (c : Cfg) (f : Frm) (hf : f.Fits) (hb : f.b ≤ 6) (ha : f.a < 2 ^ f.b.toNat) (V w : World) (hw : Ext (V.alloc (.cells (rn c (f)) 108)) w) : Calls Tryz.prog 140 #[.pointer (some ⟨V.heap.size, 0, none⟩)] w
    fun e w' => e = .returned (.int .i64 (2 ^ f.b.toNat + f.a)) ∧ Ext w w' := by
  obtain ⟨os, d, rfl⟩ := hw
  obtain ⟨⟨k0, k1⟩, ⟨a0, a1⟩, ⟨b0, b1⟩, ⟨p0, p1⟩, ⟨i0, i1⟩, ⟨j0, j1⟩, ⟨m0, m1⟩, ⟨q0, q1⟩, ⟨h0, h1⟩, ⟨x0, x1⟩, ⟨y0, y1⟩⟩ := hf
  have hor := or_pow' f.b ⟨b0, hb⟩ f.a a0 ha
  have hle := pow_le f.b hb
  have hpos : (0 : Int) < 2 ^ f.b.toNat := Int.pow_pos (by decide)
  obtain ⟨P, hP⟩ : ∃ P, (2 : Int) ^ f.b.toNat = P := ⟨_, rfl⟩
  rw [hP] at hor hle hpos ha ⊢
  obtain ⟨Q, hQ⟩ : ∃ Q, P + f.a = Q := ⟨_, rfl⟩
  rw [hQ] at hor ⊢
  clear hQ
  go_enter Tryz.func140, Tryz.ntmps140
  go_wp2
  ((refine wp_region_ext_lit (by kernel_rfl) (by kernel_rfl) ?_); (repeat (go_big_quiet_step (fail))); (refine wpQuiet_nil ?_; intro _ hw'; obtain ⟨⟨osq, nq⟩, hw''⟩ := hw'; replace hw'' : _ = grew _ osq nq := hw''; subst hw''))
  go_wp2
  go_ret
  exact ⟨rfl, EX⟩

theorem trAt_any (c : Cfg) (f : Frm) (hf : f.Fits) (n : Int) (hn : 0 ≤ n ∧ n ≤ 6) (hh : f.h ≤ n) (ha : f.a < 2 ^ n.toNat) (V w : World) (hw : Ext (V.alloc (.cells (rn c (f)) 108)) w) : Calls Tryz.prog 139 #[.pointer (some ⟨V.heap.size, 0, none⟩), .int .i64 n] w
    fun e w' => e = .returned (.int .i64 ((2 ^ n.toNat + f.a) / 2 ^ (n - f.h).toNat)) ∧ Ext w w' := by
  obtain ⟨os, d, rfl⟩ := hw
  obtain ⟨⟨k0, k1⟩, ⟨a0, a1⟩, ⟨b0, b1⟩, ⟨p0, p1⟩, ⟨i0, i1⟩, ⟨j0, j1⟩, ⟨m0, m1⟩, ⟨q0, q1⟩, ⟨h0, h1⟩, ⟨x0, x1⟩, ⟨y0, y1⟩⟩ := hf
  obtain ⟨n0, n1⟩ := hn
  have hor := or_pow' n ⟨n0, n1⟩ f.a a0 ha
  have hle := pow_le n n1
  have hpos : (0 : Int) < 2 ^ n.toNat := Int.pow_pos (by decide)
  obtain ⟨P, hP⟩ : ∃ P, (2 : Int) ^ n.toNat = P := ⟨_, rfl⟩
  rw [hP] at hor hle hpos ha ⊢
  obtain ⟨Q, hQ⟩ : ∃ Q, P + f.a = Q := ⟨_, rfl⟩
  rw [hQ] at hor ⊢
  clear hQ
  have hs : 0 ≤ n - f.h := by omega
  go_enter Tryz.func139, Tryz.ntmps139
  go_wp2
  ((refine wp_region_ext_lit (by kernel_rfl) (by kernel_rfl) ?_); (repeat (go_big_quiet_step (fail))); (refine wpQuiet_nil ?_; intro _ hw'; obtain ⟨⟨osq, nq⟩, hw''⟩ := hw'; replace hw'' : _ = grew _ osq nq := hw''; subst hw''))
  go_wp2
  go_ret
  exact ⟨rfl, EX⟩

theorem trTake_any (c : Cfg) (f : Frm) (l : Cel) (hl : l.Fits) (V w : World) (hw : Ext (V.alloc (.cells (rn c (f)) 108)) w) : Calls Tryz.prog 141 #[.pointer (some ⟨V.heap.size, 0, none⟩), l.v] w
    fun e w' => e = .returned (.tuple #[]) ∧ Ext (V.alloc (.cells (rn c ({ f with x := l.a % 4294967296, n := l.b % 64 })) 108)) w' := by
  obtain ⟨os, d, rfl⟩ := hw
  obtain ⟨⟨t0, t1⟩, ⟨la0, la1⟩, ⟨lb0, lb1⟩, ⟨lc0, lc1⟩⟩ := hl
  obtain ⟨X, hX⟩ : ∃ X, l.a % 4294967296 = X := ⟨_, rfl⟩
  obtain ⟨N, hN⟩ : ∃ N, l.b % 64 = N := ⟨_, rfl⟩
  have hx2 : 0 ≤ X ∧ X ≤ 4294967295 := by omega
  have hn2 : 0 ≤ N ∧ N ≤ 63 := by omega
  have hw1 : IntKind.u32.wrap l.a = X := by rw [IntKind.wrap_u32, hX]
  have hw2 : IntKind.u8.wrap N = N := by rw [IntKind.wrap_u8]; omega
  go_enter Tryz.func141, Tryz.ntmps141
  go_upto_region 1 with fail
  go_region
  go_end0
  refine ⟨rfl, ?_⟩
  rw [hX, hN]
  exact EX

/-- Which function the program runs where it is. -/
def trFn (f : Frm) : Option Nat :=
  if f.kind == 3 && f.pc == 0 then some 124
  else if f.kind == 1 && f.pc == 1 then some 125
  else if f.kind == 1 && f.pc == 5 then some 126
  else if f.kind == 1 && f.pc == 7 then some 127
  else if !(f.kind == 1) && f.pc == 8 then some 128
  else if f.pc == 6 then some 129
  else if !(f.kind == 3) && f.pc == 0 then some 130
  else if !(f.kind == 3) && f.pc == 2 then some 131
  else if !(f.kind == 3) && f.pc == 3 then some 132
  else none
def trFnV : Option Nat → Value
  | some g => .func (.func g) #[] #[]
  | none => .nilFunc
theorem trState_any (c : Cfg) (f : Frm) (hf : f.Fits) (V w : World) (hw : Ext (V.alloc (.cells (rn c (f)) 108)) w) : Calls Tryz.prog 92 #[.pointer (some ⟨V.heap.size, 0, none⟩)] w
    fun e w' => e = .returned (trFnV (trFn f)) ∧ Ext w w' := by
  obtain ⟨os, d, rfl⟩ := hw
  obtain ⟨⟨k0, k1⟩, ⟨a0, a1⟩, ⟨b0, b1⟩, ⟨p0, p1⟩, ⟨i0, i1⟩, ⟨j0, j1⟩, ⟨m0, m1⟩, ⟨q0, q1⟩, ⟨h0, h1⟩, ⟨x0, x1⟩, ⟨y0, y1⟩⟩ := hf
  cases k3 : (f.kind == 3)
  all_goals
    go_enter Tryz.func92, Tryz.ntmps92
    go_wp2
    all_goals
      go_ret
      refine ⟨congrArg Ending.returned ?_, EX⟩
      simp_all [trFn, trFnV]
end Go.Proofs.YtmhmaifmendebaaGreatDoor.trie
/- The walks of the layer 'trie': whether a frame may be. -/
namespace Go.Proofs.YtmhmaifmendebaaGreatDoor.trie
open Go Go.RowKit
set_option maxRecDepth 100000
set_option maxHeartbeats 8000000

theorem trFn_there {f : Frm} (hk : f.kind = 1 ∨ f.kind = 2 ∨ f.kind = 3) (hp : 0 ≤ f.pc) : (trFn f).isSome = trThere f.kind f.pc := by
  rcases hk with hk | hk | hk
  · by_cases h0 : f.pc = 0
    · simp [trFn, trThere, hk, h0]
    by_cases h1 : f.pc = 1
    · simp [trFn, trThere, hk, h1]
    by_cases h2 : f.pc = 2
    · simp [trFn, trThere, hk, h2]
    by_cases h3 : f.pc = 3
    · simp [trFn, trThere, hk, h3]
    by_cases h5 : f.pc = 5
    · simp [trFn, trThere, hk, h5]
    by_cases h6 : f.pc = 6
    · simp [trFn, trThere, hk, h6]
    by_cases h7 : f.pc = 7
    · simp [trFn, trThere, hk, h7]
    simp [trFn, trThere, hk, h0, h1, h2, h3, h5, h6, h7]
    omega
  all_goals
    by_cases h0 : f.pc = 0
    · simp [trFn, trThere, hk, h0]
    by_cases h2 : f.pc = 2
    · simp [trFn, trThere, hk, h2]
    by_cases h3 : f.pc = 3
    · simp [trFn, trThere, hk, h3]
    by_cases h6 : f.pc = 6
    · simp [trFn, trThere, hk, h6]
    by_cases h8 : f.pc = 8
    · simp [trFn, trThere, hk, h8]
    simp [trFn, trThere, hk, h0, h2, h3, h6, h8]
theorem trMay_eq {c : Cfg} {f : Frm} (hf : f.Fits) (ho : c.object = 1) : trMay c f = (opErr c (trOp f) == 0 && decide (f.h ≤ trMost c f) && (trFn f).isSome) := by
  by_cases h : opErr c (trOp f) = 0
  · rw [trFn_there (opErr_facts hf ho h).1 hf.pc.1, trMay]
    cases (opErr c (trOp f) == 0) <;> cases decide (f.h ≤ trMost c f) <;> cases trThere f.kind f.pc <;> rfl
  · have h' : (opErr c (trOp f) == 0) = false := by simpa using h
    rw [trMay, h']
    rfl
theorem trFn_g (f : Frm) : trFn f = none ∨ ∃ g, trFn f = some g := by
  cases trFn f with
  | none => exact Or.inl rfl
  | some g => exact Or.inr ⟨g, rfl⟩

theorem trMayW_any (c : Cfg) (f : Frm) (hf : f.Fits) (ho : c.object = 1) (V w : World) (ht : Tab w) (hw : Ext (V.alloc (.cells (rn c (f)) 108)) w) : Calls Tryz.prog 91 #[.pointer (some ⟨V.heap.size, 0, none⟩)] w
    fun e w' => e = .returned (.bool (trMay c f)) ∧ Ext w w' := by
  have HT := Lib.hid ht
  have HF := Lib.hid hf
  have hop := trOp_fits hf
  have hM := trMay_eq hf ho
  have HB : Hid (opErr c (trOp f) = 0 → 1 ≤ c.bits ∧ c.bits ≤ 6) := Lib.hid fun h => (opErr_facts hf ho h).2.2.2.2
  clear ht
  obtain ⟨os, d, rfl⟩ := hw
  obtain ⟨⟨k0, k1⟩, ⟨a0, a1⟩, ⟨b0, b1⟩, ⟨p0, p1⟩, ⟨i0, i1⟩, ⟨j0, j1⟩, ⟨m0, m1⟩, ⟨q0, q1⟩, ⟨h0, h1⟩, ⟨x0, x1⟩, ⟨y0, y1⟩⟩ := hf
  clear ho
  obtain ⟨E, hE⟩ : ∃ E, opErr c (trOp f) = E := ⟨_, rfl⟩
  rw [hE] at hM
  have HE := Lib.hid hE
  have HB : Hid (E = 0 → 1 ≤ c.bits ∧ c.bits ≤ 6) := Lib.hid (by rw [← hE]; exact HB.out)
  clear hE
  have hne1 : ∀ (w : World) (g : Nat), Sem.run Tryz.prog (binOp .neq 109 (.func (.func g) #[] #[]) .nilFunc) w = .ok (.bool true) w := fun _ _ => by kernel_rfl
  have hne0 : ∀ (w : World), Sem.run Tryz.prog (binOp .neq 109 .nilFunc .nilFunc) w = .ok (.bool false) w := fun _ => by kernel_rfl
  cases hk1 : (f.kind == 1)
  · cases hk3 : (f.kind == 3)
    · skip
      have hop' : trOp f = ⟨f.kind, f.a, f.b, 0⟩ := by unfold trOp; rw [hk1]; rfl
      have hmo : trMost c f = f.b := by unfold trMost; rw [hk3]; rfl
      rw [hmo] at hM
      rw [hop'] at hop HE
      have HO := Lib.hid hop
      clear hop hop' hmo
      cases e0 : (E == 0)
      · have HM : Hid (trMay c f = false) := Lib.hid (by rw [hM, e0]; rfl)
        have e1 : (E != 0) = true := by simpa using e0
        clear hM
        go_enter Tryz.func91, Tryz.ntmps91
        go_wp2
        go_region
        go_upto_region 8 with fail
        have HG : Hid (trFnV (trFn f) = trFnV (trFn f)) := rfl
        ((refine wp_region_ext_lit (by kernel_rfl) (by kernel_rfl) ?_); (repeat (go_big_quiet_step ((first | (go_at_call 115; exact quiet_ext ((opCheck_any c ⟨f.kind, f.a, f.b, 0⟩ HO.out _ (Tab.ext HT.out EX)).mono fun e w' ⟨he, hx⟩ => ⟨by rw [he, HE.out], hx⟩)) | (go_at_call 92; exact quiet_ext ((trState_any c f HF.out V _ EX).mono fun e w' ⟨he, hx⟩ => ⟨by rw [he, HG.out], hx⟩)))))); (refine wpQuiet_nil ?_; intro _ hw'; obtain ⟨⟨osq, nq⟩, hw''⟩ := hw'; replace hw'' : _ = grew _ osq nq := hw''; subst hw''))
        go_wp2
        go_ret
        refine ⟨ret_bool ?_, EX⟩
        rw [HM.out]
      · obtain rfl : E = 0 := by simpa using e0
        rcases trFn_g f with hg | ⟨g, hg⟩
        · have HG : Hid (trFnV (trFn f) = .nilFunc) := Lib.hid (by rw [hg]; rfl)
          rw [hg] at hM
          have HM := Lib.hid hM
          clear hM hg
          cases hh : decide (f.h ≤ f.b)
          · have HH := Lib.hid hh
            go_enter Tryz.func91, Tryz.ntmps91
            go_wp2
            go_region
            go_upto_region 8 with fail
            ((refine wp_region_ext_lit (by kernel_rfl) (by kernel_rfl) ?_); (repeat (go_big_quiet_step ((first | (go_at_call 115; exact quiet_ext ((opCheck_any c ⟨f.kind, f.a, f.b, 0⟩ HO.out _ (Tab.ext HT.out EX)).mono fun e w' ⟨he, hx⟩ => ⟨by rw [he, HE.out], hx⟩)) | (go_at_call 92; exact quiet_ext ((trState_any c f HF.out V _ EX).mono fun e w' ⟨he, hx⟩ => ⟨by rw [he, HG.out], hx⟩)))))); (refine wpQuiet_nil ?_; intro _ hw'; obtain ⟨⟨osq, nq⟩, hw''⟩ := hw'; replace hw'' : _ = grew _ osq nq := hw''; subst hw''))
            go_wp2
            go_ret
            refine ⟨ret_bool ?_, EX⟩
            rw [HM.out, HH.out]
            rfl
          · have HH := Lib.hid hh
            go_enter Tryz.func91, Tryz.ntmps91
            go_wp2
            go_region
            go_upto_region 8 with fail
            ((refine wp_region_ext_lit (by kernel_rfl) (by kernel_rfl) ?_); (repeat (go_big_quiet_step ((first | (go_at_call 115; exact quiet_ext ((opCheck_any c ⟨f.kind, f.a, f.b, 0⟩ HO.out _ (Tab.ext HT.out EX)).mono fun e w' ⟨he, hx⟩ => ⟨by rw [he, HE.out], hx⟩)) | (go_at_call 92; exact quiet_ext ((trState_any c f HF.out V _ EX).mono fun e w' ⟨he, hx⟩ => ⟨by rw [he, HG.out], hx⟩)))))); (refine wpQuiet_nil ?_; intro _ hw'; obtain ⟨⟨osq, nq⟩, hw''⟩ := hw'; replace hw'' : _ = grew _ osq nq := hw''; subst hw''))
            go_wp2
            go_ret
            refine ⟨ret_bool ?_, EX⟩
            rw [HM.out, HH.out]
            rfl
        · have HG : Hid (trFnV (trFn f) = (.func (.func g) #[] #[])) := Lib.hid (by rw [hg]; rfl)
          rw [hg] at hM
          have HM := Lib.hid hM
          clear hM hg
          cases hh : decide (f.h ≤ f.b)
          · have HH := Lib.hid hh
            go_enter Tryz.func91, Tryz.ntmps91
            go_wp2
            go_region
            go_upto_region 8 with fail
            ((refine wp_region_ext_lit (by kernel_rfl) (by kernel_rfl) ?_); (repeat (go_big_quiet_step ((first | (go_at_call 115; exact quiet_ext ((opCheck_any c ⟨f.kind, f.a, f.b, 0⟩ HO.out _ (Tab.ext HT.out EX)).mono fun e w' ⟨he, hx⟩ => ⟨by rw [he, HE.out], hx⟩)) | (go_at_call 92; exact quiet_ext ((trState_any c f HF.out V _ EX).mono fun e w' ⟨he, hx⟩ => ⟨by rw [he, HG.out], hx⟩)))))); (refine wpQuiet_nil ?_; intro _ hw'; obtain ⟨⟨osq, nq⟩, hw''⟩ := hw'; replace hw'' : _ = grew _ osq nq := hw''; subst hw''))
            go_wp2
            go_ret
            refine ⟨ret_bool ?_, EX⟩
            rw [HM.out, HH.out]
            rfl
          · have HH := Lib.hid hh
            go_enter Tryz.func91, Tryz.ntmps91
            go_wp2
            go_region
            go_upto_region 8 with fail
            ((refine wp_region_ext_lit (by kernel_rfl) (by kernel_rfl) ?_); (repeat (go_big_quiet_step ((first | (go_at_call 115; exact quiet_ext ((opCheck_any c ⟨f.kind, f.a, f.b, 0⟩ HO.out _ (Tab.ext HT.out EX)).mono fun e w' ⟨he, hx⟩ => ⟨by rw [he, HE.out], hx⟩)) | (go_at_call 92; exact quiet_ext ((trState_any c f HF.out V _ EX).mono fun e w' ⟨he, hx⟩ => ⟨by rw [he, HG.out], hx⟩)))))); (refine wpQuiet_nil ?_; intro _ hw'; obtain ⟨⟨osq, nq⟩, hw''⟩ := hw'; replace hw'' : _ = grew _ osq nq := hw''; subst hw''))
            go_wp2
            go_ret
            refine ⟨ret_bool ?_, EX⟩
            rw [HM.out, HH.out]
            rfl
    · skip
      have hop' : trOp f = ⟨f.kind, f.a, f.b, 0⟩ := by unfold trOp; rw [hk1]; rfl
      have hmo : trMost c f = c.bits := by unfold trMost; rw [hk3]; rfl
      rw [hmo] at hM
      rw [hop'] at hop HE
      have HO := Lib.hid hop
      clear hop hop' hmo
      cases e0 : (E == 0)
      · have HM : Hid (trMay c f = false) := Lib.hid (by rw [hM, e0]; rfl)
        have e1 : (E != 0) = true := by simpa using e0
        clear hM
        go_enter Tryz.func91, Tryz.ntmps91
        go_wp2
        go_region
        go_upto_region 8 with fail
        have HG : Hid (trFnV (trFn f) = trFnV (trFn f)) := rfl
        ((refine wp_region_ext_lit (by kernel_rfl) (by kernel_rfl) ?_); (repeat (go_big_quiet_step ((first | (go_at_call 115; exact quiet_ext ((opCheck_any c ⟨f.kind, f.a, f.b, 0⟩ HO.out _ (Tab.ext HT.out EX)).mono fun e w' ⟨he, hx⟩ => ⟨by rw [he, HE.out], hx⟩)) | (go_at_call 92; exact quiet_ext ((trState_any c f HF.out V _ EX).mono fun e w' ⟨he, hx⟩ => ⟨by rw [he, HG.out], hx⟩)))))); (refine wpQuiet_nil ?_; intro _ hw'; obtain ⟨⟨osq, nq⟩, hw''⟩ := hw'; replace hw'' : _ = grew _ osq nq := hw''; subst hw''))
        go_wp2
        go_ret
        refine ⟨ret_bool ?_, EX⟩
        rw [HM.out]
      · obtain rfl : E = 0 := by simpa using e0
        obtain ⟨cb0, cb1⟩ := HB.out rfl
        have hwb : IntKind.u32.wrap c.bits = c.bits := by rw [IntKind.wrap_u32]; omega
        rcases trFn_g f with hg | ⟨g, hg⟩
        · have HG : Hid (trFnV (trFn f) = .nilFunc) := Lib.hid (by rw [hg]; rfl)
          rw [hg] at hM
          have HM := Lib.hid hM
          clear hM hg
          cases hh : decide (f.h ≤ c.bits)
          · have HH := Lib.hid hh
            go_enter Tryz.func91, Tryz.ntmps91
            go_wp2
            go_region
            go_upto_region 8 with fail
            ((refine wp_region_ext_lit (by kernel_rfl) (by kernel_rfl) ?_); (repeat (go_big_quiet_step ((first | (go_at_call 115; exact quiet_ext ((opCheck_any c ⟨f.kind, f.a, f.b, 0⟩ HO.out _ (Tab.ext HT.out EX)).mono fun e w' ⟨he, hx⟩ => ⟨by rw [he, HE.out], hx⟩)) | (go_at_call 92; exact quiet_ext ((trState_any c f HF.out V _ EX).mono fun e w' ⟨he, hx⟩ => ⟨by rw [he, HG.out], hx⟩)))))); (refine wpQuiet_nil ?_; intro _ hw'; obtain ⟨⟨osq, nq⟩, hw''⟩ := hw'; replace hw'' : _ = grew _ osq nq := hw''; subst hw''))
            go_wp2
            go_ret
            refine ⟨ret_bool ?_, EX⟩
            rw [HM.out, HH.out]
            rfl
          · have HH := Lib.hid hh
            go_enter Tryz.func91, Tryz.ntmps91
            go_wp2
            go_region
            go_upto_region 8 with fail
            ((refine wp_region_ext_lit (by kernel_rfl) (by kernel_rfl) ?_); (repeat (go_big_quiet_step ((first | (go_at_call 115; exact quiet_ext ((opCheck_any c ⟨f.kind, f.a, f.b, 0⟩ HO.out _ (Tab.ext HT.out EX)).mono fun e w' ⟨he, hx⟩ => ⟨by rw [he, HE.out], hx⟩)) | (go_at_call 92; exact quiet_ext ((trState_any c f HF.out V _ EX).mono fun e w' ⟨he, hx⟩ => ⟨by rw [he, HG.out], hx⟩)))))); (refine wpQuiet_nil ?_; intro _ hw'; obtain ⟨⟨osq, nq⟩, hw''⟩ := hw'; replace hw'' : _ = grew _ osq nq := hw''; subst hw''))
            go_wp2
            go_ret
            refine ⟨ret_bool ?_, EX⟩
            rw [HM.out, HH.out]
            rfl
        · have HG : Hid (trFnV (trFn f) = (.func (.func g) #[] #[])) := Lib.hid (by rw [hg]; rfl)
          rw [hg] at hM
          have HM := Lib.hid hM
          clear hM hg
          cases hh : decide (f.h ≤ c.bits)
          · have HH := Lib.hid hh
            go_enter Tryz.func91, Tryz.ntmps91
            go_wp2
            go_region
            go_upto_region 8 with fail
            ((refine wp_region_ext_lit (by kernel_rfl) (by kernel_rfl) ?_); (repeat (go_big_quiet_step ((first | (go_at_call 115; exact quiet_ext ((opCheck_any c ⟨f.kind, f.a, f.b, 0⟩ HO.out _ (Tab.ext HT.out EX)).mono fun e w' ⟨he, hx⟩ => ⟨by rw [he, HE.out], hx⟩)) | (go_at_call 92; exact quiet_ext ((trState_any c f HF.out V _ EX).mono fun e w' ⟨he, hx⟩ => ⟨by rw [he, HG.out], hx⟩)))))); (refine wpQuiet_nil ?_; intro _ hw'; obtain ⟨⟨osq, nq⟩, hw''⟩ := hw'; replace hw'' : _ = grew _ osq nq := hw''; subst hw''))
            go_wp2
            go_ret
            refine ⟨ret_bool ?_, EX⟩
            rw [HM.out, HH.out]
            rfl
          · have HH := Lib.hid hh
            go_enter Tryz.func91, Tryz.ntmps91
            go_wp2
            go_region
            go_upto_region 8 with fail
            ((refine wp_region_ext_lit (by kernel_rfl) (by kernel_rfl) ?_); (repeat (go_big_quiet_step ((first | (go_at_call 115; exact quiet_ext ((opCheck_any c ⟨f.kind, f.a, f.b, 0⟩ HO.out _ (Tab.ext HT.out EX)).mono fun e w' ⟨he, hx⟩ => ⟨by rw [he, HE.out], hx⟩)) | (go_at_call 92; exact quiet_ext ((trState_any c f HF.out V _ EX).mono fun e w' ⟨he, hx⟩ => ⟨by rw [he, HG.out], hx⟩)))))); (refine wpQuiet_nil ?_; intro _ hw'; obtain ⟨⟨osq, nq⟩, hw''⟩ := hw'; replace hw'' : _ = grew _ osq nq := hw''; subst hw''))
            go_wp2
            go_ret
            refine ⟨ret_bool ?_, EX⟩
            rw [HM.out, HH.out]
            rfl
  · have hk3 : (f.kind == 3) = false := by simp at hk1 ⊢; omega
    have hop' : trOp f = ⟨f.kind, f.a, f.b, f.y⟩ := by unfold trOp; rw [hk1]; rfl
    have hmo : trMost c f = f.b := by unfold trMost; rw [hk3]; rfl
    rw [hmo] at hM
    rw [hop'] at hop HE
    have HO := Lib.hid hop
    clear hop hop' hmo
    cases e0 : (E == 0)
    · have HM : Hid (trMay c f = false) := Lib.hid (by rw [hM, e0]; rfl)
      have e1 : (E != 0) = true := by simpa using e0
      clear hM
      go_enter Tryz.func91, Tryz.ntmps91
      go_wp2
      go_region
      go_upto_region 8 with fail
      have HG : Hid (trFnV (trFn f) = trFnV (trFn f)) := rfl
      ((refine wp_region_ext_lit (by kernel_rfl) (by kernel_rfl) ?_); (repeat (go_big_quiet_step ((first | (go_at_call 115; exact quiet_ext ((opCheck_any c ⟨f.kind, f.a, f.b, f.y⟩ HO.out _ (Tab.ext HT.out EX)).mono fun e w' ⟨he, hx⟩ => ⟨by rw [he, HE.out], hx⟩)) | (go_at_call 92; exact quiet_ext ((trState_any c f HF.out V _ EX).mono fun e w' ⟨he, hx⟩ => ⟨by rw [he, HG.out], hx⟩)))))); (refine wpQuiet_nil ?_; intro _ hw'; obtain ⟨⟨osq, nq⟩, hw''⟩ := hw'; replace hw'' : _ = grew _ osq nq := hw''; subst hw''))
      go_wp2
      go_ret
      refine ⟨ret_bool ?_, EX⟩
      rw [HM.out]
    · obtain rfl : E = 0 := by simpa using e0
      rcases trFn_g f with hg | ⟨g, hg⟩
      · have HG : Hid (trFnV (trFn f) = .nilFunc) := Lib.hid (by rw [hg]; rfl)
        rw [hg] at hM
        have HM := Lib.hid hM
        clear hM hg
        cases hh : decide (f.h ≤ f.b)
        · have HH := Lib.hid hh
          go_enter Tryz.func91, Tryz.ntmps91
          go_wp2
          go_region
          go_upto_region 8 with fail
          ((refine wp_region_ext_lit (by kernel_rfl) (by kernel_rfl) ?_); (repeat (go_big_quiet_step ((first | (go_at_call 115; exact quiet_ext ((opCheck_any c ⟨f.kind, f.a, f.b, f.y⟩ HO.out _ (Tab.ext HT.out EX)).mono fun e w' ⟨he, hx⟩ => ⟨by rw [he, HE.out], hx⟩)) | (go_at_call 92; exact quiet_ext ((trState_any c f HF.out V _ EX).mono fun e w' ⟨he, hx⟩ => ⟨by rw [he, HG.out], hx⟩)))))); (refine wpQuiet_nil ?_; intro _ hw'; obtain ⟨⟨osq, nq⟩, hw''⟩ := hw'; replace hw'' : _ = grew _ osq nq := hw''; subst hw''))
          go_wp2
          go_ret
          refine ⟨ret_bool ?_, EX⟩
          rw [HM.out, HH.out]
          rfl
        · have HH := Lib.hid hh
          go_enter Tryz.func91, Tryz.ntmps91
          go_wp2
          go_region
          go_upto_region 8 with fail
          ((refine wp_region_ext_lit (by kernel_rfl) (by kernel_rfl) ?_); (repeat (go_big_quiet_step ((first | (go_at_call 115; exact quiet_ext ((opCheck_any c ⟨f.kind, f.a, f.b, f.y⟩ HO.out _ (Tab.ext HT.out EX)).mono fun e w' ⟨he, hx⟩ => ⟨by rw [he, HE.out], hx⟩)) | (go_at_call 92; exact quiet_ext ((trState_any c f HF.out V _ EX).mono fun e w' ⟨he, hx⟩ => ⟨by rw [he, HG.out], hx⟩)))))); (refine wpQuiet_nil ?_; intro _ hw'; obtain ⟨⟨osq, nq⟩, hw''⟩ := hw'; replace hw'' : _ = grew _ osq nq := hw''; subst hw''))
          go_wp2
          go_ret
          refine ⟨ret_bool ?_, EX⟩
          rw [HM.out, HH.out]
          rfl
      · have HG : Hid (trFnV (trFn f) = (.func (.func g) #[] #[])) := Lib.hid (by rw [hg]; rfl)
        rw [hg] at hM
        have HM := Lib.hid hM
        clear hM hg
        cases hh : decide (f.h ≤ f.b)
        · have HH := Lib.hid hh
          go_enter Tryz.func91, Tryz.ntmps91
          go_wp2
          go_region
          go_upto_region 8 with fail
          ((refine wp_region_ext_lit (by kernel_rfl) (by kernel_rfl) ?_); (repeat (go_big_quiet_step ((first | (go_at_call 115; exact quiet_ext ((opCheck_any c ⟨f.kind, f.a, f.b, f.y⟩ HO.out _ (Tab.ext HT.out EX)).mono fun e w' ⟨he, hx⟩ => ⟨by rw [he, HE.out], hx⟩)) | (go_at_call 92; exact quiet_ext ((trState_any c f HF.out V _ EX).mono fun e w' ⟨he, hx⟩ => ⟨by rw [he, HG.out], hx⟩)))))); (refine wpQuiet_nil ?_; intro _ hw'; obtain ⟨⟨osq, nq⟩, hw''⟩ := hw'; replace hw'' : _ = grew _ osq nq := hw''; subst hw''))
          go_wp2
          go_ret
          refine ⟨ret_bool ?_, EX⟩
          rw [HM.out, HH.out]
          rfl
        · have HH := Lib.hid hh
          go_enter Tryz.func91, Tryz.ntmps91
          go_wp2
          go_region
          go_upto_region 8 with fail
          ((refine wp_region_ext_lit (by kernel_rfl) (by kernel_rfl) ?_); (repeat (go_big_quiet_step ((first | (go_at_call 115; exact quiet_ext ((opCheck_any c ⟨f.kind, f.a, f.b, f.y⟩ HO.out _ (Tab.ext HT.out EX)).mono fun e w' ⟨he, hx⟩ => ⟨by rw [he, HE.out], hx⟩)) | (go_at_call 92; exact quiet_ext ((trState_any c f HF.out V _ EX).mono fun e w' ⟨he, hx⟩ => ⟨by rw [he, HG.out], hx⟩)))))); (refine wpQuiet_nil ?_; intro _ hw'; obtain ⟨⟨osq, nq⟩, hw''⟩ := hw'; replace hw'' : _ = grew _ osq nq := hw''; subst hw''))
          go_wp2
          go_ret
          refine ⟨ret_bool ?_, EX⟩
          rw [HM.out, HH.out]
          rfl
end Go.Proofs.YtmhmaifmendebaaGreatDoor.trie
