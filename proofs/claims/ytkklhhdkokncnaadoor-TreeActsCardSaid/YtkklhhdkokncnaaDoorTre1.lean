/- The walks of the layer 'tree': the top, a count, an offset, whether the table has a frame, what a done one answers. -/
import Derived.Test.YtkklhhdkokncnaaDoorTre0
import Derived.LoopTactic
namespace Go.Proofs.YtkklhhdkokncnaaDoor
open Go Go.RowKit

/-- A run's cells. -/
abbrev tl (c : Cfg) (f : Frm) (s : Value) (b : Nat) : List (Nat × Nat × Value) :=
  [(b, 0, .int .u8 f.kind), (b, 1, .int .u32 f.a), (b, 2, .int .u32 f.b), (b, 3, .int .u8 f.pc), (b, 4, .int .u8 f.i), (b, 5, .int .u8 f.j), (b, 6, .int .u8 f.n), (b, 7, .int .u8 f.p), (b, 8, .int .u8 f.h), (b, 9, .int .u32 f.x), (b, 10, .int .u32 f.y)] ++ [(b, 11, .int .u8 c.object), (b, 12, .int .i64 c.instances), (b, 13, .int .i64 c.threads), (b, 14, .int .u8 c.kind), (b, 15, .int .i64 c.stripes), (b, 16, .int .i64 c.bits), (b, 17, .int .i64 c.cap), (b, 18, .int .i64 c.node), (b, 19, .int .i64 c.batch), (b, 20, .int .i64 c.chunk), (b, 21, .int .u64 c.limit), (b, 22, .int .u64 c.most), (b, 23, s)]
abbrev lvC (c : Cfg) : Nat := lvN c.cap c.node
abbrev lvL (c : Cfg) : List Value := lvP c.cap c.node (lvC c)
structure TreOk (c : Cfg) : Prop where
  cap : 1 ≤ c.cap ∧ c.cap ≤ 32
  node : c.node = 2 ∨ c.node = 3 ∨ c.node = 4
  chunk : 1 ≤ c.chunk ∧ c.chunk ≤ 8
theorem tl_lt {c : Cfg} {f : Frm} {s : Value} {b : Nat} {w : World} (h : Holds w (tl c f s b)) : b < w.heap.size :=
  World.block_lt_of_cell? w ⟨b, 0, none⟩ (u := .int .u8 f.kind) ((holds_iff _ _).1 h (b, 0, .int .u8 f.kind) (by simp [tl]))
theorem lvC_top (c : Cfg) : (lvC c : Int) = treTop c + 1 := by
  have := (topI_bd c.cap c.node).1
  unfold lvC lvN treTop
  omega
theorem ret_u8 {a b : Int} (h : a = b) : Ending.returned (.int .u8 a) = .returned (.int .u8 b) := by rw [h]

set_option maxRecDepth 100000 in
set_option maxHeartbeats 4000000 in
theorem treTop_any (c : Cfg) (f : Frm) (s : Value) (b : Nat) (w : World) (hw : Holds w (tl c f s b)) (hs : Sl w s (lvC c) (lvL c)) : Calls Tryd.prog 69 #[.pointer (some ⟨b, 0, none⟩)] w
    fun e w' => e = .returned (.int .u8 (treTop c)) ∧ w = w' := by
  obtain ⟨ad, cap, rfl, hs⟩ := hs
  have hn := lvC_top c
  have ht := topI_bd c.cap c.node
  change 0 ≤ treTop c ∧ treTop c ≤ 4 at ht
  obtain ⟨T, hT⟩ : ∃ T, treTop c = T := ⟨_, rfl⟩
  rw [hT] at hn ht ⊢
  simp only [tl, Holds, List.cons_append, List.nil_append] at hw
  go_enter Tryd.func69, Tryd.ntmps69
  go_wp2
  go_ret
  exact ⟨rfl, rfl⟩

set_option maxRecDepth 100000 in
set_option maxHeartbeats 4000000 in
theorem treCount_any (c : Cfg) (f : Frm) (s : Value) (hc : TreOk c) (n h : Int) (hn : 0 ≤ n ∧ n ≤ 32) (hh : 0 ≤ h ∧ h ≤ 4) (b : Nat) (w : World) (ht : Tab w) (hw : Holds w (tl c f s b)) : Calls Tryd.prog 60 #[.pointer (some ⟨b, 0, none⟩), .int .u8 n, .int .u8 h] w
    fun e w' => e = .returned (.int .i64 (treUp c n h)) ∧ w = w' := by
  have HT := Lib.hid ht
  obtain ⟨hcap, hnode, _⟩ := hc
  obtain ⟨U, hU⟩ : ∃ U, upI n c.node h = U := ⟨_, rfl⟩
  have HU := Lib.hid hU
  have HV : Hid (treUp c n h = U) := Lib.hid hU
  clear ht hU
  simp only [tl, Holds, List.cons_append, List.nil_append] at hw
  go_enter Tryd.func60, Tryd.ntmps60
  go_wp2_with (go_at_call 95; refine (rankCount_any n c.node h (by omega) (by omega) (by omega) _ HT.out).mono ?_; rintro e w1 ⟨rfl, rfl⟩; rw [HU.out])
  go_ret
  exact ⟨by rw [HV.out]; rfl, rfl⟩

theorem offI_yes {n w h i : Int} (h0 : 0 ≤ h) (h1 : h ≤ topI n w) (i0 : 0 ≤ i) (i1 : i < upI n w h) : offI n w h i = 1 + sumI n w h.toNat + i := by
  unfold offI
  rw [if_pos ⟨h0, h1, i0, i1⟩]
theorem sumI_bd {n w : Int} (hn : 0 ≤ n ∧ n ≤ 32) (hw : w = 2 ∨ w = 3 ∨ w = 4) : ∀ k : Nat, k ≤ 5 → 0 ≤ sumI n w k ∧ sumI n w k ≤ 32 * k := by
  intro k
  induction k with
  | zero => intro _; exact ⟨by simp [sumI], by simp [sumI]⟩
  | succ k ih =>
    intro hk
    have h1 := ih (by omega)
    have h2 := upI_nonneg n w k
    have h3 := upI_le (n := n) (w := w) (h := k) hn.1 hw (by omega)
    simp only [sumI]
    omega
theorem offI_no {n w h i : Int} (hx : topI n w < h ∨ i < 0 ∨ upI n w h ≤ i) : offI n w h i = -1 := by
  unfold offI
  rw [if_neg]
  omega
set_option maxRecDepth 100000 in
set_option maxHeartbeats 4000000 in
theorem treOff_any (c : Cfg) (f : Frm) (s : Value) (hc : TreOk c) (h i : Int) (hh : 0 ≤ h ∧ h ≤ 255) (hi : -1000 ≤ i ∧ i ≤ 1000) (b : Nat) (w : World) (hw : Holds w (tl c f s b)) (hs : Sl w s (lvC c) (lvL c)) : Calls Tryd.prog 57 #[.pointer (some ⟨b, 0, none⟩), .int .u8 h, .int .i64 i] w
    fun e w' => e = .returned (.int .i64 (treOff c h i)) ∧ Ext w w' := by
  obtain ⟨ad, cap, rfl, hs⟩ := hs
  have hn := lvC_top c
  have htop := topI_bd c.cap c.node
  change 0 ≤ treTop c ∧ treTop c ≤ 4 at htop
  obtain ⟨b2, o2, rfl, hcl⟩ := hs.pos (by omega)
  obtain ⟨k, rfl⟩ : ∃ k : Nat, h = k := ⟨h.toNat, by omega⟩
  obtain ⟨hcap, hnode, _⟩ := hc
  have hb := tl_lt hw
  have hle := fun j : Nat => fun hj : j ≤ 4 => upI_le (n := c.cap) (w := c.node) (h := j) (by omega) hnode (by omega)
  have HCL := Lib.hid hcl
  have HLE := Lib.hid hle
  have hcap2 := hs.1
  have hcap3 := hs.2.1
  unfold maxLen at hcap3
  simp only [tl, Holds, List.cons_append, List.nil_append] at hw
  clear hcl hle hs
  cases d1 : decide (lvC c ≤ k)
  · have hk : k < lvC c := by simp at d1; exact d1
    have c1 := HCL.out k _ (lvP_at hk)
    have l1 := World.block_lt_of_cell? _ _ c1
    dsimp only at l1
    have u1 := HLE.out k (by omega)
    have u0 := upI_nonneg c.cap c.node k
    obtain ⟨U, hU⟩ : ∃ U, upI c.cap c.node k = U := ⟨_, rfl⟩
    rw [hU] at c1 u1 u0
    have HU := Lib.hid hU
    have k0 : (0 : Int) ≤ (k : Int) := by omega
    have k1 : (k : Int) < (lvC c : Int) := by omega
    have k2 : (k : Int) ≤ (lvC c : Int) := by omega
    have k3 : (k : Int) ≤ (cap : Int) := by omega
    clear hU
    cases d2 : decide (i < 0)
    · cases d3 : decide (U ≤ i)
      · have HO : Hid (treOff c k i = 1 + sumI c.cap c.node k + i) := Lib.hid (offI_yes k0 (by change (k : Int) ≤ treTop c; omega) (by simpa using d2) (by rw [HU.out]; simpa using d3))
        have HSB := Lib.hid (fun j : Nat => fun hj : j ≤ 5 => sumI_bd (n := c.cap) (w := c.node) (by omega) hnode j hj)
        have hk5 : k ≤ 4 := by omega
        have HN := Lib.hid hn
        clear hn
        go_enter Tryd.func57, Tryd.ntmps57
        go_wp2
        go_loopw [7, 9, 40] (fun t7 _ t40 wr => ∃ j : Nat, j ≤ k ∧ t40 = .int .i64 j ∧ t7 = .int .i64 (1 + sumI c.cap c.node j) ∧ Ext w wr) (fun _ _ t40 _ => k - (intOf t40).toNat)
        case atStart => exact ⟨0, Nat.zero_le _, rfl, rfl, Ext.refl _⟩
        case round =>
          obtain ⟨j, hj, rfl, rfl, hx⟩ := hrel
          obtain ⟨S, hS⟩ : ∃ S, sumI c.cap c.node j = S := ⟨_, rfl⟩
          have hsb := HSB.out j (by omega)
          rw [hS] at hsb
          have HS := Lib.hid hS
          have HX := Lib.hid hx
          clear hx hS
          by_cases hlt : j < k
          · have c2 := ext_cell HX.out (HCL.out j _ (lvP_at (by omega)))
            have l2 := World.block_lt_of_cell? _ _ c2
            dsimp only at l2
            have u2 := HLE.out j (by omega)
            have u3 := upI_nonneg c.cap c.node j
            obtain ⟨U2, hU2⟩ : ∃ U2, upI c.cap c.node j = U2 := ⟨_, rfl⟩
            rw [hU2] at c2 u2 u3
            have HU2 := Lib.hid hU2
            have j0 : (0 : Int) ≤ (j : Int) := by omega
            have j1 : (j : Int) < (k : Int) := by omega
            have hw1 : wrap64 (1 + S + U2) = 1 + S + U2 := by unfold wrap64; omega
            clear hU2
            go_wp2
            go_roundw
            case rel => exact ⟨j + 1, by omega, by go_num, by simp only [sumI, HS.out, HU2.out]; rw [hw1, Int.add_assoc], HX.out⟩
            case measure => simp [intOf]; omega
          · obtain rfl : j = k := by omega
            have hw1 : wrap64 (1 + S + i) = 1 + S + i := by unfold wrap64; omega
            go_wp2
            go_ret
            exact ⟨by rw [HO.out, HS.out]; show Ending.returned (.int .i64 (wrap64 (1 + S + i))) = _; rw [hw1], HX.out⟩
      · have HO : Hid (treOff c k i = -1) := Lib.hid (offI_no (by rw [HU.out]; simp at d3; omega))
        have HN := Lib.hid hn
        clear hn
        go_enter Tryd.func57, Tryd.ntmps57
        go_wp2
        go_ret
        exact ⟨by rw [HO.out]; rfl, (by repeat (first | with_reducible exact Ext.refl _ | with_reducible assumption | with_reducible refine Ext.alloc ?_ _ | with_reducible refine Ext.gr ?_ _ | with_reducible refine Ext.drewN ?_ _ | with_reducible refine Ext.drew ?_ | with_reducible refine Ext.setCell ?_ ?_ _ | with_reducible refine Ext.more ?_ _ _ | (show _ ≤ _; dsimp only; omega)))⟩
    · have HO : Hid (treOff c k i = -1) := Lib.hid (offI_no (by simp at d2; omega))
      have HN := Lib.hid hn
      clear hn
      go_enter Tryd.func57, Tryd.ntmps57
      go_wp2
      go_ret
      exact ⟨by rw [HO.out]; rfl, (by repeat (first | with_reducible exact Ext.refl _ | with_reducible assumption | with_reducible refine Ext.alloc ?_ _ | with_reducible refine Ext.gr ?_ _ | with_reducible refine Ext.drewN ?_ _ | with_reducible refine Ext.drew ?_ | with_reducible refine Ext.setCell ?_ ?_ _ | with_reducible refine Ext.more ?_ _ _ | (show _ ≤ _; dsimp only; omega)))⟩
  · have HO : Hid (treOff c k i = -1) := Lib.hid (offI_no (by simp at d1; change treTop c < _ ∨ _; omega))
    have HN := Lib.hid hn
    clear hn
    go_enter Tryd.func57, Tryd.ntmps57
    go_wp2
    go_ret
    exact ⟨by rw [HO.out]; rfl, (by repeat (first | with_reducible exact Ext.refl _ | with_reducible assumption | with_reducible refine Ext.alloc ?_ _ | with_reducible refine Ext.gr ?_ _ | with_reducible refine Ext.drewN ?_ _ | with_reducible refine Ext.drew ?_ | with_reducible refine Ext.setCell ?_ ?_ _ | with_reducible refine Ext.more ?_ _ _ | (show _ ≤ _; dsimp only; omega)))⟩
end Go.Proofs.YtkklhhdkokncnaaDoor
