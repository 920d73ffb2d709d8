/- The walks of the layer 'trie': nodes, taking over, the state. -/
import Derived.Test.YtpaplhkjaniafaaDoorCheck
import Derived.Test.YtpaplhkjaniafaaDoorTrieP
import Derived.Test.YtpaplhkjaniafaaDoorA0
import Derived.Deep.QuietTactic
import Derived.BigQuiet
import Derived.BigRegion
import Derived.Lib.Hide
import Derived.Deep.Light
import Derived.Outline
import Derived.Laws.EntriesVeiled
namespace Go.Proofs.YtpaplhkjaniafaaDoor
open Go Go.RowKit
set_option maxRecDepth 100000
set_option maxHeartbeats 8000000

/-- A run's cells: its frame's, and its config's. -/
abbrev rn (c : Cfg) (f : Frm) : Array Value := #[.int .u8 f.kind, .int .u32 f.a, .int .u32 f.b, .int .u8 f.pc, .int .u8 f.i, .int .u8 f.j, .int .u8 f.n, .int .u8 f.p, .int .u8 f.h, .int .u32 f.x, .int .u32 f.y, .int .u8 c.object, .int .i64 c.instances, .int .i64 c.threads, .int .u8 c.kind, .int .i64 c.stripes, .int .i64 c.bits, .int .i64 c.cap, .int .i64 c.node, .int .i64 c.batch, .int .i64 c.chunk, .int .u64 c.limit, .int .u64 c.most]

theorem trNode_any (c : Cfg) (f : Frm) (hf : f.Fits) (hb : f.b ≤ 6) (ha : f.a < 2 ^ f.b.toNat) (V w : World) (hw : Ext (V.alloc (.cells (rn c (f)) 97)) w) : Calls Tryd.prog 81 #[.pointer (some ⟨V.heap.size, 0, none⟩)] w
    fun e w' => e = .returned (.int .i64 (2 ^ f.b.toNat + f.a)) ∧ Ext w w' := by
  obtain ⟨os, d, rfl⟩ := hw
  obtain ⟨⟨k0, k1⟩, ⟨a0, a1⟩, ⟨b0, b1⟩, ⟨p0, p1⟩, ⟨i0, i1⟩, ⟨j0, j1⟩, ⟨m0, m1⟩, ⟨q0, q1⟩, ⟨h0, h1⟩, ⟨x0, x1⟩, ⟨y0, y1⟩⟩ := hf
  have hor := or_pow' f.b ⟨b0, hb⟩ f.a a0 ha
  have hle := pow_le f.b hb
  have hpos : (0 : Int) < 2 ^ f.b.toNat := Int.pow_pos (by decide)
  obtain ⟨P, hP⟩ : ∃ P, (2 : Int) ^ f.b.toNat = P := ⟨_, rfl⟩
  rw [hP] at hor hle hpos ha ⊢
  obtain ⟨Q, hQ⟩ : ∃ Q, P + f.a = Q := ⟨_, rfl⟩
  rw [hQ] at hor ⊢
  clear hQ
  go_enter Tryd.func81, Tryd.ntmps81
  go_wp2
  ((refine wp_region_ext_lit (by kernel_rfl) (by kernel_rfl) ?_); (repeat (go_big_quiet_step (fail))); (refine wpQuiet_nil ?_; intro _ hw'; obtain ⟨⟨osq, nq⟩, hw''⟩ := hw'; replace hw'' : _ = grew _ osq nq := hw''; subst hw''))
  go_wp2
  go_ret
  exact ⟨rfl, EX⟩

theorem trAt_any (c : Cfg) (f : Frm) (hf : f.Fits) (n : Int) (hn : 0 ≤ n ∧ n ≤ 6) (hh : f.h ≤ n) (ha : f.a < 2 ^ n.toNat) (V w : World) (hw : Ext (V.alloc (.cells (rn c (f)) 97)) w) : Calls Tryd.prog 80 #[.pointer (some ⟨V.heap.size, 0, none⟩), .int .i64 n] w
    fun e w' => e = .returned (.int .i64 ((2 ^ n.toNat + f.a) / 2 ^ (n - f.h).toNat)) ∧ Ext w w' := by
  obtain ⟨os, d, rfl⟩ := hw
  obtain ⟨⟨k0, k1⟩, ⟨a0, a1⟩, ⟨b0, b1⟩, ⟨p0, p1⟩, ⟨i0, i1⟩, ⟨j0, j1⟩, ⟨m0, m1⟩, ⟨q0, q1⟩, ⟨h0, h1⟩, ⟨x0, x1⟩, ⟨y0, y1⟩⟩ := hf
  obtain ⟨n0, n1⟩ := hn
  have hor := or_pow' n ⟨n0, n1⟩ f.a a0 ha
  have hle := pow_le n n1
  have hpos : (0 : Int) < 2 ^ n.toNat := Int.pow_pos (by decide)
  obtain ⟨P, hP⟩ : ∃ P, (2 : Int) ^ n.toNat = P := ⟨_, rfl⟩
  rw [hP] at hor hle hpos ha ⊢
  obtain ⟨Q, hQ⟩ : ∃ Q, P + f.a = Q := ⟨_, rfl⟩
  rw [hQ] at hor ⊢
  clear hQ
  have hs : 0 ≤ n - f.h := by omega
  go_enter Tryd.func80, Tryd.ntmps80
  go_wp2
  ((refine wp_region_ext_lit (by kernel_rfl) (by kernel_rfl) ?_); (repeat (go_big_quiet_step (fail))); (refine wpQuiet_nil ?_; intro _ hw'; obtain ⟨⟨osq, nq⟩, hw''⟩ := hw'; replace hw'' : _ = grew _ osq nq := hw''; subst hw''))
  go_wp2
  go_ret
  exact ⟨rfl, EX⟩

theorem trTake_any (c : Cfg) (f : Frm) (l : Cel) (hl : l.Fits) (V w : World) (hw : Ext (V.alloc (.cells (rn c (f)) 97)) w) : Calls Tryd.prog 82 #[.pointer (some ⟨V.heap.size, 0, none⟩), l.v] w
    fun e w' => e = .returned (.tuple #[]) ∧ Ext (V.alloc (.cells (rn c ({ f with x := l.a % 4294967296, n := l.b % 64 })) 97)) w' := by
  obtain ⟨os, d, rfl⟩ := hw
  obtain ⟨⟨t0, t1⟩, ⟨la0, la1⟩, ⟨lb0, lb1⟩, ⟨lc0, lc1⟩⟩ := hl
  obtain ⟨X, hX⟩ : ∃ X, l.a % 4294967296 = X := ⟨_, rfl⟩
  obtain ⟨N, hN⟩ : ∃ N, l.b % 64 = N := ⟨_, rfl⟩
  have hx2 : 0 ≤ X ∧ X ≤ 4294967295 := by omega
  have hn2 : 0 ≤ N ∧ N ≤ 63 := by omega
  have hw1 : IntKind.u32.wrap l.a = X := by rw [IntKind.wrap_u32, hX]
  have hw2 : IntKind.u8.wrap N = N := by rw [IntKind.wrap_u8]; omega
  go_enter Tryd.func82, Tryd.ntmps82
  go_upto_region 1 with fail
  go_region
  go_end0
  refine ⟨rfl, ?_⟩
  rw [hX, hN]
  exact EX

/-- Which function the program runs where it is. -/
def trFn (f : Frm) : Option Nat :=
  if f.kind == 3 && f.pc == 0 then some 62
  else if f.kind == 1 && f.pc == 1 then some 63
  else if f.kind == 1 && f.pc == 5 then some 64
  else if f.kind == 1 && f.pc == 7 then some 65
  else if !(f.kind == 1) && f.pc == 8 then some 66
  else if f.pc == 6 then some 67
  else if !(f.kind == 3) && f.pc == 0 then some 68
  else if !(f.kind == 3) && f.pc == 2 then some 69
  else if !(f.kind == 3) && f.pc == 3 then some 70
  else none
def trFnV : Option Nat → Value
  | some g => .func (.func g) #[] #[]
  | none => .nilFunc
theorem trState_any (c : Cfg) (f : Frm) (hf : f.Fits) (V w : World) (hw : Ext (V.alloc (.cells (rn c (f)) 97)) w) : Calls Tryd.prog 46 #[.pointer (some ⟨V.heap.size, 0, none⟩)] w
    fun e w' => e = .returned (trFnV (trFn f)) ∧ Ext w w' := by
  obtain ⟨os, d, rfl⟩ := hw
  obtain ⟨⟨k0, k1⟩, ⟨a0, a1⟩, ⟨b0, b1⟩, ⟨p0, p1⟩, ⟨i0, i1⟩, ⟨j0, j1⟩, ⟨m0, m1⟩, ⟨q0, q1⟩, ⟨h0, h1⟩, ⟨x0, x1⟩, ⟨y0, y1⟩⟩ := hf
  cases k3 : (f.kind == 3)
  all_goals
    go_enter Tryd.func46, Tryd.ntmps46
    go_wp2
    all_goals
      go_ret
      refine ⟨congrArg Ending.returned ?_, EX⟩
      simp_all [trFn, trFnV]
end Go.Proofs.YtpaplhkjaniafaaDoor
