/- The walks of 'slices.IndexFunc' at rows, with the closures of 'rules'; of 'key', 'of', 'Is'. -/
import Derived.Test.YtaijkpfgnlkppaaDoorRef6
import Derived.Test.YtaijkpfgnlkppaaDoorRul0
import Derived.Test.YtaijkpfgnlkppaaDoorCheck
import Derived.Deep.LoopGhost
import Derived.Deep.QuietTactic
import Derived.BigQuiet
namespace Go.Proofs.YtaijkpfgnlkppaaDoor.rules
open Go Go.RowKit

/-- Where the first row stands of which something holds; -1: there is none. -/
def findP (p : Rw → Bool) (L : List Rw) : Int := match L.findIdx? p with | some i => (i : Int) | none => -1
theorem findP_hit {p : Rw → Bool} {L : List Rw} {k : Nat} (h : k < L.length) (h1 : p (L.getD k zrw) = true) (h2 : ∀ j, j < k → p (L.getD j zrw) = false) : findP p L = k := by
  have : L.findIdx? p = some k := by
    rw [List.findIdx?_eq_some_iff_getElem]
    refine ⟨h, by rwa [getD_rw L k h] at h1, fun j hj => ?_⟩
    have := h2 j hj
    rw [getD_rw L j (by omega)] at this
    rw [this]; simp
  unfold findP
  rw [this]
theorem findP_miss {p : Rw → Bool} {L : List Rw} (h2 : ∀ j, j < L.length → p (L.getD j zrw) = false) : findP p L = -1 := by
  have : L.findIdx? p = none := by
    rw [List.findIdx?_eq_none_iff]
    intro x hx
    obtain ⟨j, hj, rfl⟩ := List.getElem_of_mem hx
    have := h2 j hj
    rwa [getD_rw L j hj] at this
  unfold findP
  rw [this]

theorem ofInt_nat (a : Nat) (ha : a < 4611686018427387904) : (BitVec.ofInt 64 (a : Int)).toNat = a := by
  rw [BitVec.ofInt_natCast, BitVec.toNat_ofNat]; exact Nat.mod_eq_of_lt (by omega)
theorem key_any (a b : Int) (ha : 0 ≤ a ∧ a ≤ 65535) (hb : 0 ≤ b ∧ b ≤ 65535) (w : World) : Calls Tryd.prog 36 #[.int .u32 a, .int .u32 b] w fun e w' => e = .returned (.int .u64 (a * 65536 + b)) ∧ w = w' := by
  have hor : bits .or .u64 (a * 65536) b = a * 65536 + b := by
    obtain ⟨m, rfl⟩ := Int.eq_ofNat_of_zero_le ha.1
    obtain ⟨n, rfl⟩ := Int.eq_ofNat_of_zero_le hb.1
    have h1 : (m : Int) * 65536 = ((65536 * m : Nat) : Int) := by omega
    have ho : 65536 * m ||| n = 65536 * m + n := (Nat.two_pow_add_eq_or_of_lt (i := 16) (b := n) (by omega) m).symm
    rw [h1]
    show IntKind.u64.wrap ((BitVec.ofInt 64 ((65536 * m : Nat) : Int) ||| BitVec.ofInt 64 (n : Int)).toNat : Int) = _
    rw [BitVec.toNat_or, ofInt_nat _ (by omega), ofInt_nat _ (by omega), ho, IntKind.wrap_u64]
    omega
  go_enter Tryd.func36, Tryd.ntmps36
  go_wp2
  go_ret
  exact ⟨rfl, rfl⟩

theorem cl26_any (x : Rw) (q : Int) (B : Nat) (w : World) (hB : w.cell? ⟨B, 0, none⟩ = some (.int .u64 q)) : Calls Tryd.prog 38 #[x.val, .pointer (some ⟨B, 0, none⟩)] w
    fun e w' => e = .returned (.bool (decide (q ≤ x.k))) ∧ Ext w w' := by
  have hl := World.block_lt_of_cell? _ _ hB
  dsimp only at hl
  go_enter Tryd.func38, Tryd.ntmps38
  go_wp2
  all_goals (go_ret; exact ⟨by simp_all, (by repeat (first | with_reducible exact Ext.refl _ | with_reducible assumption | with_reducible refine Ext.alloc ?_ _ | with_reducible refine Ext.gr ?_ _ | with_reducible refine Ext.drewN ?_ _ | with_reducible refine Ext.drew ?_ | with_reducible refine Ext.setCell ?_ ?_ _ | with_reducible refine Ext.more ?_ _ _ | (show _ ≤ _; dsimp only; omega)))⟩)

set_option maxRecDepth 100000 in
set_option maxHeartbeats 2000000 in
theorem idx26_any (v : Value) (L : List Rw) (q : Int) (B : Nat) (w : World) (hv : Sl w v L.length (rwCells L)) (hB : w.cell? ⟨B, 0, none⟩ = some (.int .u64 q)) :
    Calls Tryd.prog 37 #[v, .func (.func 38) #[] #[.pointer (some ⟨B, 0, none⟩)]] w
    fun e w' => e = .returned (.int .i64 (findP (fun x => decide (q ≤ x.k)) L)) ∧ Ext w w' := by
  obtain ⟨ad, cap, rfl, hv⟩ := hv
  have hm := hv.len
  have HV := Lib.hid hv
  have HB := Lib.hid hB
  clear hv hB
  obtain ⟨R, hR⟩ : ∃ R, findP (fun x => decide (q ≤ x.k)) L = R := ⟨_, rfl⟩
  rw [hR]
  have HR := Lib.hid hR
  clear hR
  go_enter Tryd.func37, Tryd.ntmps37
  go_wp2
  go_loopw [5, 8] (fun _ i wr => ∃ k : Nat, k ≤ L.length ∧ i = .int .i64 k ∧ Ext w wr ∧ Hid (∀ j, j < k → decide (q ≤ (L.getD j zrw).k) = false)) (fun _ i _ => L.length - (intOf i).toNat)
  case atStart => exact ⟨0, Nat.zero_le _, rfl, Ext.refl _, Lib.hid fun j hj => absurd hj (Nat.not_lt_zero _)⟩
  case round =>
    obtain ⟨k, hk, rfl, he, HT⟩ := hrel
    have HE := Lib.hid he
    clear he
    by_cases hlt : k < L.length
    · obtain ⟨b, o, rfl, _, r1, r2⟩ := (HV.out.ext HE.out).rw hlt
      obtain ⟨x, hx⟩ : ∃ x, L.getD k zrw = x := ⟨_, rfl⟩
      rw [hx] at r1 r2
      have HX := Lib.hid hx
      have i0 : (0 : Int) ≤ (k : Int) := by omega
      have i1 : (k : Int) < (L.length : Int) := by omega
      clear hx
      cases h1 : decide (q ≤ x.k)
      · have HQ := Lib.hid h1
        have HT2 : Hid (∀ j, j < k + 1 → decide (q ≤ (L.getD j zrw).k) = false) := Lib.hid (by
          intro j hj
          by_cases e : j = k
          · subst e; rw [HX.out]; exact h1
          · exact HT.out j (by omega))
        clear h1
        go_wp2_with (go_at_call 38; refine (cl26_any x q B _ (ext_cell (HE.out.trans (by repeat (first | with_reducible exact Ext.refl _ | with_reducible assumption | with_reducible refine Ext.alloc ?_ _ | with_reducible refine Ext.gr ?_ _ | with_reducible refine Ext.drewN ?_ _ | with_reducible refine Ext.drew ?_ | with_reducible refine Ext.setCell ?_ ?_ _ | with_reducible refine Ext.more ?_ _ _ | (show _ ≤ _; dsimp only; omega)))) HB.out)).mono ?_; rintro e w1 ⟨rfl, os1, n1, rfl⟩; rw [HQ.out])
        go_roundw
        case rel => exact ⟨k + 1, by omega, by go_num, HE.out.trans (by repeat (first | with_reducible exact Ext.refl _ | with_reducible assumption | with_reducible refine Ext.alloc ?_ _ | with_reducible refine Ext.gr ?_ _ | with_reducible refine Ext.drewN ?_ _ | with_reducible refine Ext.drew ?_ | with_reducible refine Ext.setCell ?_ ?_ _ | with_reducible refine Ext.more ?_ _ _ | (show _ ≤ _; dsimp only; omega))), HT2⟩
        case measure => simp [intOf]; omega
      · have HQ := Lib.hid h1
        have HR2 : Hid ((k : Int) = R) := Lib.hid (by
          rw [← HR.out]
          exact (findP_hit hlt (by rw [HX.out]; exact h1) HT.out).symm)
        clear h1
        go_wp2_with (go_at_call 38; refine (cl26_any x q B _ (ext_cell (HE.out.trans (by repeat (first | with_reducible exact Ext.refl _ | with_reducible assumption | with_reducible refine Ext.alloc ?_ _ | with_reducible refine Ext.gr ?_ _ | with_reducible refine Ext.drewN ?_ _ | with_reducible refine Ext.drew ?_ | with_reducible refine Ext.setCell ?_ ?_ _ | with_reducible refine Ext.more ?_ _ _ | (show _ ≤ _; dsimp only; omega)))) HB.out)).mono ?_; rintro e w1 ⟨rfl, os1, n1, rfl⟩; rw [HQ.out])
        go_ret
        exact ⟨by rw [HR2.out] <;> rfl, HE.out.trans (by repeat (first | with_reducible exact Ext.refl _ | with_reducible assumption | with_reducible refine Ext.alloc ?_ _ | with_reducible refine Ext.gr ?_ _ | with_reducible refine Ext.drewN ?_ _ | with_reducible refine Ext.drew ?_ | with_reducible refine Ext.setCell ?_ ?_ _ | with_reducible refine Ext.more ?_ _ _ | (show _ ≤ _; dsimp only; omega)))⟩
    · obtain rfl : k = L.length := by omega
      have HR2 : Hid (-1 = R) := Lib.hid (by
        rw [← HR.out]
        exact (findP_miss HT.out).symm)
      go_wp2
      go_ret
      exact ⟨by rw [HR2.out] <;> rfl, HE.out⟩

theorem of_any (c : Cfg) (w : World) : Calls Tryd.prog 32 #[c.v] w fun e w' => e = .returned (.bool (partOk c && (c.object == 3))) ∧ Ext w w' := by
  cases hp : partOk c
  · have HC := Lib.hid (conf_no hp)
    go_enter Tryd.func32, Tryd.ntmps32
    go_wp2_with (go_at_call 43; refine (partCheck_any c _).mono ?_; rintro e w1 ⟨rfl, os1, n1, rfl⟩; rw [HC.out])
    go_ret
    exact ⟨rfl, (by repeat (first | with_reducible exact Ext.refl _ | with_reducible assumption | with_reducible refine Ext.alloc ?_ _ | with_reducible refine Ext.gr ?_ _ | with_reducible refine Ext.drewN ?_ _ | with_reducible refine Ext.drew ?_ | with_reducible refine Ext.setCell ?_ ?_ _ | with_reducible refine Ext.more ?_ _ _ | (show _ ≤ _; dsimp only; omega)))⟩
  · have HC := Lib.hid (conf_ok hp)
    cases h1 : (c.object == 3)
    all_goals
      go_enter Tryd.func32, Tryd.ntmps32
      go_wp2_with (go_at_call 43; refine (partCheck_any c _).mono ?_; rintro e w1 ⟨rfl, os1, n1, rfl⟩; rw [HC.out])
      go_ret
      exact ⟨rfl, (by repeat (first | with_reducible exact Ext.refl _ | with_reducible assumption | with_reducible refine Ext.alloc ?_ _ | with_reducible refine Ext.gr ?_ _ | with_reducible refine Ext.drewN ?_ _ | with_reducible refine Ext.drew ?_ | with_reducible refine Ext.setCell ?_ ?_ _ | with_reducible refine Ext.more ?_ _ _ | (show _ ≤ _; dsimp only; omega)))⟩
end Go.Proofs.YtaijkpfgnlkppaaDoor.rules
