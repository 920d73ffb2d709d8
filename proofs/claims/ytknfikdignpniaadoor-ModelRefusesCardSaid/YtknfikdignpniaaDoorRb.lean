/- The walks of 'slices.IndexFunc' at rows, with the closures of 'rules'; of 'key', 'of', 'Is'. -/
import Derived.Test.YtknfikdignpniaaDoorRef6
import Derived.Test.YtknfikdignpniaaDoorRa
import Derived.Test.YtknfikdignpniaaDoorCheck
import Derived.Deep.LoopGhost
import Derived.Deep.QuietTactic
import Derived.BigQuiet
namespace Go.Proofs.YtknfikdignpniaaDoor.rules
open Go Go.RowKit
set_option maxRecDepth 100000
set_option maxHeartbeats 8000000

/-- Where the first row stands of which something holds; -1: there is none. -/
def findP (p : Rw → Bool) (L : List Rw) : Int := match L.findIdx? p with | some i => (i : Int) | none => -1
theorem findP_hit {p : Rw → Bool} {L : List Rw} {k : Nat} (h : k < L.length) (h1 : p (L.getD k zrw) = true) (h2 : ∀ j, j < k → p (L.getD j zrw) = false) : findP p L = k := by
  have : L.findIdx? p = some k := by
    rw [List.findIdx?_eq_some_iff_getElem]
    refine ⟨h, by rwa [getD_rw L k h] at h1, fun j hj => ?_⟩
    have := h2 j hj
    rw [getD_rw L j (by omega)] at this
    rw [this]; simp
  unfold findP
  rw [this]
theorem findP_miss {p : Rw → Bool} {L : List Rw} (h2 : ∀ j, j < L.length → p (L.getD j zrw) = false) : findP p L = -1 := by
  have : L.findIdx? p = none := by
    rw [List.findIdx?_eq_none_iff]
    intro x hx
    obtain ⟨j, hj, rfl⟩ := List.getElem_of_mem hx
    have := h2 j hj
    rwa [getD_rw L j hj] at this
  unfold findP
  rw [this]

theorem ofInt_nat (a : Nat) (ha : a < 4611686018427387904) : (BitVec.ofInt 64 (a : Int)).toNat = a := by
  rw [BitVec.ofInt_natCast, BitVec.toNat_ofNat]; exact Nat.mod_eq_of_lt (by omega)
theorem key_any (a b : Int) (ha : 0 ≤ a ∧ a ≤ 65535) (hb : 0 ≤ b ∧ b ≤ 65535) (w : World) : Calls Tryd.prog 72 #[.int .u32 a, .int .u32 b] w fun e w' => e = .returned (.int .u64 (a * 65536 + b)) ∧ w = w' := by
  have hor : bits .or .u64 (a * 65536) b = a * 65536 + b := by
    obtain ⟨m, rfl⟩ := Int.eq_ofNat_of_zero_le ha.1
    obtain ⟨n, rfl⟩ := Int.eq_ofNat_of_zero_le hb.1
    have h1 : (m : Int) * 65536 = ((65536 * m : Nat) : Int) := by omega
    have ho : 65536 * m ||| n = 65536 * m + n := (Nat.two_pow_add_eq_or_of_lt (i := 16) (b := n) (by omega) m).symm
    rw [h1]
    show IntKind.u64.wrap ((BitVec.ofInt 64 ((65536 * m : Nat) : Int) ||| BitVec.ofInt 64 (n : Int)).toNat : Int) = _
    rw [BitVec.toNat_or, ofInt_nat _ (by omega), ofInt_nat _ (by omega), ho, IntKind.wrap_u64]
    omega
  go_enter Tryd.func72, Tryd.ntmps72
  go_wp2
  go_ret
  exact ⟨rfl, rfl⟩

theorem cl26_any (x : Rw) (q : Int) (B : Nat) (w : World) (hB : w.cell? ⟨B, 0, none⟩ = some (.int .u64 q)) : Calls Tryd.prog 74 #[x.val, .pointer (some ⟨B, 0, none⟩)] w
    fun e w' => e = .returned (.bool (decide (q ≤ x.k))) ∧ Ext w w' := by
  have hl := World.block_lt_of_cell? _ _ hB
  dsimp only at hl
  go_enter Tryd.func74, Tryd.ntmps74
  go_wp2
  all_goals (go_ret; exact ⟨by simp_all, EX⟩)

theorem idx26_any (v : Value) (L : List Rw) (q : Int) (B : Nat) (w : World) (hv : Sl w v L.length (rwCells L)) (hB : w.cell? ⟨B, 0, none⟩ = some (.int .u64 q)) :
    Calls Tryd.prog 73 #[v, .func (.func 74) #[] #[.pointer (some ⟨B, 0, none⟩)]] w
    fun e w' => e = .returned (.int .i64 (findP (fun x => decide (q ≤ x.k)) L)) ∧ Ext w w' := by
  obtain ⟨ad, cap, rfl, hv⟩ := hv
  have hm := hv.len
  have HV := Lib.hid hv
  have HB := Lib.hid hB
  clear hv hB
  obtain ⟨R, hR⟩ : ∃ R, findP (fun x => decide (q ≤ x.k)) L = R := ⟨_, rfl⟩
  rw [hR]
  have HR := Lib.hid hR
  clear hR
  go_enter Tryd.func73, Tryd.ntmps73
  go_wp2
  go_loopw [5, 8] (fun _ i wr => ∃ k : Nat, k ≤ L.length ∧ i = .int .i64 k ∧ Ext w wr ∧ Hid (∀ j, j < k → decide (q ≤ (L.getD j zrw).k) = false)) (fun _ i _ => L.length - (intOf i).toNat)
  case atStart => exact ⟨0, Nat.zero_le _, rfl, Ext.refl _, Lib.hid fun j hj => absurd hj (Nat.not_lt_zero _)⟩
  case round =>
    obtain ⟨k, hk, rfl, he, HT⟩ := hrel
    have HE := Lib.hid he
    clear he
    by_cases hlt : k < L.length
    · obtain ⟨b, o, rfl, _, r1, r2⟩ := (HV.out.ext HE.out).rw hlt
      obtain ⟨x, hx⟩ : ∃ x, L.getD k zrw = x := ⟨_, rfl⟩
      rw [hx] at r1 r2
      have HX := Lib.hid hx
      have i0 : (0 : Int) ≤ (k : Int) := by omega
      have i1 : (k : Int) < (L.length : Int) := by omega
      clear hx
      cases h1 : decide (q ≤ x.k)
      · have HQ := Lib.hid h1
        have HT2 : Hid (∀ j, j < k + 1 → decide (q ≤ (L.getD j zrw).k) = false) := Lib.hid (by
          intro j hj
          by_cases e : j = k
          · subst e; rw [HX.out]; exact h1
          · exact HT.out j (by omega))
        clear h1
        go_wp2_with (go_at_call 74; refine (cl26_any x q B _ (ext_cell (HE.out.trans EX) HB.out)).mono ?_; rintro e w1 ⟨rfl, os1, n1, rfl⟩; rw [HQ.out])
        go_roundw
        case rel => exact ⟨k + 1, by omega, by go_num, HE.out.trans EX, HT2⟩
        case measure => simp [intOf]; omega
      · have HQ := Lib.hid h1
        have HR2 : Hid ((k : Int) = R) := Lib.hid (by
          rw [← HR.out]
          exact (findP_hit hlt (by rw [HX.out]; exact h1) HT.out).symm)
        clear h1
        go_wp2_with (go_at_call 74; refine (cl26_any x q B _ (ext_cell (HE.out.trans EX) HB.out)).mono ?_; rintro e w1 ⟨rfl, os1, n1, rfl⟩; rw [HQ.out])
        go_ret
        exact ⟨by rw [HR2.out] <;> rfl, HE.out.trans EX⟩
    · obtain rfl : k = L.length := by omega
      have HR2 : Hid (-1 = R) := Lib.hid (by
        rw [← HR.out]
        exact (findP_miss HT.out).symm)
      go_wp2
      go_ret
      exact ⟨by rw [HR2.out] <;> rfl, HE.out⟩

theorem of_any (c : Cfg) (w : World) : Calls Tryd.prog 69 #[c.v] w fun e w' => e = .returned (.bool (partOk c && (c.object == 3))) ∧ Ext w w' := by
  cases hp : partOk c
  · have HC := Lib.hid (conf_no hp)
    go_enter Tryd.func69, Tryd.ntmps69
    go_wp2_with (go_at_call 11; refine (partCheck_any c _).mono ?_; rintro e w1 ⟨rfl, os1, n1, rfl⟩; rw [HC.out])
    go_ret
    exact ⟨rfl, EX⟩
  · have HC := Lib.hid (conf_ok hp)
    cases h1 : (c.object == 3)
    all_goals
      go_enter Tryd.func69, Tryd.ntmps69
      go_wp2_with (go_at_call 11; refine (partCheck_any c _).mono ?_; rintro e w1 ⟨rfl, os1, n1, rfl⟩; rw [HC.out])
      go_ret
      exact ⟨rfl, EX⟩
end Go.Proofs.YtknfikdignpniaaDoor.rules
/- The walk of 'rules.Is'. -/
namespace Go.Proofs.YtknfikdignpniaaDoor.rules
open Go Go.RowKit
set_option maxRecDepth 100000
set_option maxHeartbeats 8000000

def okAt (L : List Rw) (j : Nat) : Prop := ruleB (L.getD j zrw) = true ∧ (0 < j → (L.getD (j - 1) zrw).k < (L.getD j zrw).k)
theorem ok_all {L : List Rw} (h : ∀ j, j < L.length → okAt L j) : (risesB L && L.all ruleB) = true := by
  rw [Bool.and_eq_true]
  refine ⟨(risesB_iff L).2 (rises_of fun i hi => ?_), all_of fun j hj => (h j hj).1⟩
  have := (h (i + 1) hi).2 (by omega)
  simpa using this
theorem ok_not {L : List Rw} {j : Nat} (hj : j < L.length) (h : ¬ okAt L j) : (risesB L && L.all ruleB) = false := by
  rw [← Bool.not_eq_true, Bool.and_eq_true]
  rintro ⟨h1, h2⟩
  refine h ⟨?_, fun h0 => rises_at ((risesB_iff L).1 h1) (by omega) hj⟩
  rw [getD_rw L j hj]
  exact List.all_eq_true.1 h2 _ (List.getElem_mem hj)
theorem ok_step {L : List Rw} {k : Nat} (h : ∀ j, j < k → okAt L j) (hk : okAt L k) : ∀ j, j < k + 1 → okAt L j := fun j hj => by
  by_cases e : j = k
  · subst e; exact hk
  · exact h j (by omega)
theorem is_any (c : Cfg) (v : Value) (L : List Rw) (hf : RwsFit L) (w : World) (hv : Sl w v L.length (rwCells L)) : Calls Tryd.prog 70 #[c.v, v] w
    fun e w' => e = .returned (.bool (rulesIs c L)) ∧ Ext w w' := by
  have HF := Lib.hid hf
  clear hf
  obtain ⟨ad, cap, rfl, hs⟩ := hv
  have hm := hs.len
  have HS := Lib.hid hs
  clear hs
  obtain ⟨R, hR⟩ : ∃ R, rulesIs c L = R := ⟨_, rfl⟩
  rw [hR]
  unfold rulesIs at hR
  cases hp : (partOk c && (c.object == 3))
  · have HC := Lib.hid hp
    have HR : Hid (false = R) := Lib.hid (by rw [← hR, hp]; rfl)
    clear hp hR
    go_enter Tryd.func70, Tryd.ntmps70
    go_wp2_with (go_at_call 69; refine (of_any c _).mono ?_; rintro e w1 ⟨rfl, os1, n1, rfl⟩; rw [HC.out])
    go_ret
    exact ⟨by rw [← HR.out] <;> rfl, EX⟩
  · have HC := Lib.hid hp
    rw [hp] at hR
    clear hp
    by_cases h2 : (L.length : Int) ≤ c.cap
    · have h2' : ¬ c.cap < (L.length : Int) := by omega
      simp only [h2, decide_true, Bool.and_true, Bool.true_and] at hR
      have HR : Hid ((risesB L && L.all ruleB) = R) := Lib.hid hR
      clear hR
      go_enter Tryd.func70, Tryd.ntmps70
      go_wp2_with (go_at_call 69; refine (of_any c _).mono ?_; rintro e w1 ⟨rfl, os1, n1, rfl⟩; rw [HC.out])
      go_loopw [5, 6, 19] (fun _ _ i wr => ∃ k : Nat, k ≤ L.length ∧ i = .int .i64 k ∧ Ext w wr ∧ Hid (∀ j, j < k → okAt L j)) (fun _ _ i _ => L.length - (intOf i).toNat)
      case atStart => exact ⟨0, Nat.zero_le _, rfl, EX, Lib.hid fun j hj => absurd hj (Nat.not_lt_zero _)⟩
      case round =>
        obtain ⟨k, hk, rfl, he, HT⟩ := hrel
        have HE := Lib.hid he
        clear he
        by_cases hlt : k < L.length
        · obtain ⟨b, o, rfl, hbl, r1, r2⟩ := (HS.out.ext HE.out).rw hlt
          obtain ⟨x, hx⟩ : ∃ x, L.getD k zrw = x := ⟨_, rfl⟩
          rw [hx] at r1 r2
          have hk0 := (HF.out.get k).k
          rw [hx] at hk0
          have HX := Lib.hid hx
          have i0 : (0 : Int) ≤ (k : Int) := by omega
          have i1 : (k : Int) < (L.length : Int) := by omega
          clear hx
          have hbad : (¬ (x.k < 4294967296 ∧ 1 ≤ x.v ∧ x.v ≤ 2)) → Hid (false = R) := fun hb => Lib.hid (by
            rw [← HR.out]
            refine (ok_not hlt fun h => hb ?_).symm
            have := h.1
            rw [HX.out] at this
            simp [ruleB] at this
            omega)
          have HBAD := Lib.hid hbad
          clear hbad
          by_cases h5 : 4294967296 ≤ x.k
          · have HR2 := HBAD.out (by omega)
            go_wp2
            (refine wp_region_ext_lit (by kernel_rfl) (by kernel_rfl) ?_); (repeat (go_big_quiet_step (fail))); (refine wpQuiet_nil ?_; intro _ hw'; obtain ⟨⟨osq, nq⟩, hw''⟩ := hw'; replace hw'' : _ = grew _ osq nq := hw''; subst hw'')
            go_wp2
            go_ret
            exact ⟨by rw [← HR2.out] <;> rfl, HE.out.trans EX⟩
          · have g5 : decide (4294967296 ≤ x.k) = false := by simp; omega
            by_cases h6 : x.v < 1
            · have HR2 := HBAD.out (by omega)
              go_wp2
              (refine wp_region_ext_lit (by kernel_rfl) (by kernel_rfl) ?_); (repeat (go_big_quiet_step (fail))); (refine wpQuiet_nil ?_; intro _ hw'; obtain ⟨⟨osq, nq⟩, hw''⟩ := hw'; replace hw'' : _ = grew _ osq nq := hw''; subst hw'')
              go_wp2
              go_ret
              exact ⟨by rw [← HR2.out] <;> rfl, HE.out.trans EX⟩
            · have g6 : decide (x.v < 1) = false := by simp; omega
              by_cases h7 : 2 < x.v
              · have HR2 := HBAD.out (by omega)
                go_wp2
                (refine wp_region_ext_lit (by kernel_rfl) (by kernel_rfl) ?_); (repeat (go_big_quiet_step (fail))); (refine wpQuiet_nil ?_; intro _ hw'; obtain ⟨⟨osq, nq⟩, hw''⟩ := hw'; replace hw'' : _ = grew _ osq nq := hw''; subst hw'')
                go_wp2
                go_ret
                exact ⟨by rw [← HR2.out] <;> rfl, HE.out.trans EX⟩
              · have g7 : decide (2 < x.v) = false := by simp; omega
                have hrb : ruleB x = true := by simp [ruleB]; omega
                by_cases h8 : k = 0
                · have HT2 : Hid (∀ j, j < k + 1 → okAt L j) := Lib.hid (ok_step HT.out ⟨by rw [HX.out]; exact hrb, fun h => by omega⟩)
                  have g8 : decide ((0 : Int) < (k : Int)) = false := by simp; omega
                  have g8n : decide (0 < k) = false := by simp; omega
                  clear hrb h8
                  go_wp2
                  (refine wp_region_ext_lit (by kernel_rfl) (by kernel_rfl) ?_); (repeat (go_big_quiet_step (fail))); (refine wpQuiet_nil ?_; intro _ hw'; obtain ⟨⟨osq, nq⟩, hw''⟩ := hw'; replace hw'' : _ = grew _ osq nq := hw''; subst hw'')
                  go_wp2
                  go_roundw
                  case rel => exact ⟨k + 1, by omega, by go_num, HE.out.trans EX, HT2⟩
                  case measure => simp [intOf]; omega
                · obtain ⟨j, rfl⟩ : ∃ j, k = j + 1 := ⟨k - 1, by omega⟩
                  obtain ⟨b', o', e2, _, s1, s2⟩ := (HS.out.ext HE.out).rw (i := j) (by omega)
                  cases e2
                  obtain ⟨y, hy⟩ : ∃ y, L.getD j zrw = y := ⟨_, rfl⟩
                  rw [hy] at s1 s2
                  have HY := Lib.hid hy
                  have i3 : (0 : Int) ≤ (j : Int) := by omega
                  have i4 : (j : Int) < (L.length : Int) := by omega
                  have i2 : IntKind.i64.wrap (((j + 1 : Nat) : Int) - 1) = (j : Int) := by rw [IntKind.wrap_i64]; omega
                  have i5 : (0 : Int) < ((j + 1 : Nat) : Int) := by omega
                  have g8 : decide ((0 : Int) < ((j + 1 : Nat) : Int)) = true := decide_eq_true i5
                  clear hy s2
                  by_cases h9 : x.k ≤ y.k
                  · have HR2 : Hid (false = R) := Lib.hid (by
                      rw [← HR.out]
                      refine (ok_not hlt fun h => ?_).symm
                      have := h.2 (by omega)
                      rw [Nat.add_sub_cancel, HX.out, HY.out] at this
                      omega)
                    clear hrb
                    go_wp2
                    (refine wp_region_ext_lit (by kernel_rfl) (by kernel_rfl) ?_); (repeat (go_big_quiet_step (fail))); (refine wpQuiet_nil ?_; intro _ hw'; obtain ⟨⟨osq, nq⟩, hw''⟩ := hw'; replace hw'' : _ = grew _ osq nq := hw''; subst hw'')
                    go_wp2
                    go_ret
                    exact ⟨by rw [← HR2.out] <;> rfl, HE.out.trans EX⟩
                  · have g9 : decide (x.k ≤ y.k) = false := by simp; omega
                    have HT2 : Hid (∀ i, i < j + 1 + 1 → okAt L i) := Lib.hid (ok_step HT.out ⟨by rw [HX.out]; exact hrb, fun _ => by rw [Nat.add_sub_cancel, HX.out, HY.out]; omega⟩)
                    clear hrb
                    go_wp2
                    (refine wp_region_ext_lit (by kernel_rfl) (by kernel_rfl) ?_); (repeat (go_big_quiet_step (fail))); (refine wpQuiet_nil ?_; intro _ hw'; obtain ⟨⟨osq, nq⟩, hw''⟩ := hw'; replace hw'' : _ = grew _ osq nq := hw''; subst hw'')
                    go_wp2
                    go_roundw
                    case rel => exact ⟨j + 1 + 1, by omega, by go_num, HE.out.trans EX, HT2⟩
                    case measure => simp [intOf]; omega
        · obtain rfl : k = L.length := by omega
          have HR2 : Hid (true = R) := Lib.hid (by rw [← HR.out]; exact (ok_all HT.out).symm)
          go_wp2
          go_ret
          exact ⟨by rw [← HR2.out] <;> rfl, HE.out⟩
    · have h2' : c.cap < (L.length : Int) := by omega
      have HR : Hid (false = R) := Lib.hid (by rw [← hR]; simp [h2])
      clear hR
      go_enter Tryd.func70, Tryd.ntmps70
      go_wp2_with (go_at_call 69; refine (of_any c _).mono ?_; rintro e w1 ⟨rfl, os1, n1, rfl⟩; rw [HC.out])
      go_ret
      exact ⟨by rw [← HR.out] <;> rfl, EX⟩
end Go.Proofs.YtknfikdignpniaaDoor.rules
