/- The walk of 'table.Is'. -/
import Derived.Test.YtknfikdignpniaaDoorTabI
import Derived.Deep.QuietTactic
import Derived.BigQuiet
namespace Go.Proofs.YtknfikdignpniaaDoor.table
open Go Go.RowKit
set_option maxRecDepth 100000
set_option maxHeartbeats 8000000
theorem pow_all : ((List.range 7).all fun b => decide (IntKind.u64.wrap (2 * (2 : Int) ^ b) = ((2 * 2 ^ b : Nat) : Int)) && decide (2 * 2 ^ b ≤ 128)) = true := by kernel_rfl
theorem pow_plain {b : Nat} (h : b ≤ 6) : IntKind.u64.wrap (2 * (2 : Int) ^ b) = ((2 * 2 ^ b : Nat) : Int) ∧ 2 * 2 ^ b ≤ 128 := by
  have h := List.all_eq_true.1 pow_all b (List.mem_range.2 (by omega))
  rw [Bool.and_eq_true, decide_eq_true_eq, decide_eq_true_eq] at h
  exact h
def okT (c : Cfg) (L : List Rw) (j : Nat) : Prop := tabB c (L.getD j zrw) = true ∧ (0 < j → (L.getD (j - 1) zrw).k < (L.getD j zrw).k)
theorem okT_all {c : Cfg} {L : List Rw} (h : ∀ j, j < L.length → okT c L j) : (risesB L && L.all (tabB c)) = true := by
  rw [Bool.and_eq_true]
  refine ⟨(risesB_iff L).2 (rises_of fun i hi => ?_), all_of fun j hj => (h j hj).1⟩
  have := (h (i + 1) hi).2 (by omega)
  simpa using this
theorem okT_not {c : Cfg} {L : List Rw} {j : Nat} (hj : j < L.length) (h : ¬ okT c L j) : (risesB L && L.all (tabB c)) = false := by
  rw [← Bool.not_eq_true, Bool.and_eq_true]
  rintro ⟨h1, h2⟩
  refine h ⟨?_, fun h0 => rises_at ((risesB_iff L).1 h1) (by omega) hj⟩
  rw [getD_rw L j hj]
  exact List.all_eq_true.1 h2 _ (List.getElem_mem hj)
theorem is_run (c : Cfg) (v : Value) (L : List Rw) (hf : RwsFit L) (hb : 0 ≤ c.bits ∧ c.bits ≤ 6) (w : World) (hv : Sl w v L.length (rwCells L)) (h2 : (L.length : Int) ≤ c.cap) (hp : (partOk c && (c.object == 1)) = true) : Calls Tryd.prog 38 #[c.v, v] w
    fun e w' => e = .returned (.bool (tabIs c L)) ∧ Ext w w' := by
  have HF := Lib.hid hf
  clear hf
  obtain ⟨ad, cap, rfl, hs⟩ := hv
  have hm := hs.len
  have HS := Lib.hid hs
  clear hs
  obtain ⟨R, hR⟩ : ∃ R, tabIs c L = R := ⟨_, rfl⟩
  rw [hR]
  obtain ⟨hb0, hb1⟩ := hb
  have HC := Lib.hid hp
  have h2' : ¬ c.cap < (L.length : Int) := by omega
  clear hp
  go_enter Tryd.func38, Tryd.ntmps38
  go_wp2_with (go_at_call 37; refine (of_any c _).mono ?_; rintro e w1 ⟨rfl, os1, n1, rfl⟩; rw [HC.out])
  have HR : Hid ((risesB L && L.all (tabB c)) = R) := Lib.hid (by
    rw [← hR, tabIs, HC.out]
    simp [h2])
  clear hR
  obtain ⟨hw1, hw2⟩ := pow_plain (b := c.bits.toNat) (by omega)
  have HW := Lib.hid (And.intro hw1 hw2)
  clear hw1 hw2
  go_loopw [5, 7, 20] (fun u _ i wr => ∃ (k : Nat) (least : Int), k ≤ L.length ∧ i = .int .i64 k ∧ u = .int .u64 least ∧ 1 ≤ least ∧ Hid (if k = 0 then least = 1 else least = (L.getD (k - 1) zrw).k + 1) ∧ Hid (∀ j, j < k → okT c L j) ∧ Hid (Ext (w.alloc (.cells #[.int .u8 c.object, .int .i64 c.instances, .int .i64 c.threads, .int .u8 c.kind, .int .i64 c.stripes, .int .i64 c.bits, .int .i64 c.cap, .int .i64 c.node, .int .i64 c.batch, .int .i64 c.chunk, .int .u64 c.limit, .int .u64 c.most] 24)) wr)) (fun _ _ i _ => L.length - (intOf i).toNat)
  case atStart => exact ⟨0, 1, Nat.zero_le _, rfl, rfl, by omega, Lib.hid rfl, Lib.hid fun j hj => absurd hj (Nat.not_lt_zero _), Lib.hid EX⟩
  case round =>
    obtain ⟨k, least, hk, rfl, rfl, hle, HLE, HT, HE⟩ := hrel
    by_cases hlt : k < L.length
    · obtain ⟨b, o, rfl, hbl, r1, r2⟩ := (HS.out.ext (Ext.trans EX HE.out)).rw hlt
      have kb : wr.cell? ⟨w.heap.size, 5, none⟩ = some (.int .i64 c.bits) := ext_cell HE.out (by simp [go_sem])
      have lb := World.block_lt_of_cell? _ _ kb
      dsimp only at lb
      obtain ⟨x, hx⟩ : ∃ x, L.getD k zrw = x := ⟨_, rfl⟩
      rw [hx] at r1 r2
      have HX := Lib.hid hx
      have i0 : (0 : Int) ≤ (k : Int) := by omega
      have i1 : (k : Int) < (L.length : Int) := by omega
      clear hx
      have hbad : (¬ (least ≤ x.k ∧ x.k < ((2 * 2 ^ c.bits.toNat : Nat) : Int) ∧ x.v ≤ 2147483647)) → Hid (false = R) := fun hb => Lib.hid (by
        rw [← HR.out]
        refine (okT_not hlt fun h => hb ?_).symm
        obtain ⟨h3, h4⟩ := h
        rw [HX.out] at h3 h4
        simp only [tabB, Bool.and_eq_true, decide_eq_true_eq] at h3
        refine ⟨?_, h3.1.2, h3.2⟩
        have h6 := HLE.out
        split at h6
        · omega
        · have := h4 (by omega)
          omega)
      have HBAD := Lib.hid hbad
      clear hbad
      by_cases h5 : x.k < least
      · have g5 : decide (x.k < least) = true := by simpa using h5
        have HR2 := HBAD.out (by omega)
        go_wp2
        (refine wp_region_ext_lit (by kernel_rfl) (by kernel_rfl) ?_); (repeat (go_big_quiet_step (fail))); (refine wpQuiet_nil ?_; intro _ hw'; obtain ⟨⟨osq, nq⟩, hw''⟩ := hw'; replace hw'' : _ = grew _ osq nq := hw''; subst hw'')
        go_wp2
        go_ret
        exact ⟨by rw [← HR2.out] <;> rfl, (Ext.trans EX HE.out).trans EX⟩
      · have g5 : decide (x.k < least) = false := by simp; omega
        by_cases h6 : IntKind.u64.wrap (2 * (2 : Int) ^ c.bits.toNat) ≤ x.k
        · have g6 : decide (IntKind.u64.wrap (2 * (2 : Int) ^ c.bits.toNat) ≤ x.k) = true := by simpa using h6
          have HR2 := HBAD.out (by have := HW.out.1; omega)
          go_wp2
          (refine wp_region_ext_lit (by kernel_rfl) (by kernel_rfl) ?_); (repeat (go_big_quiet_step (fail))); (refine wpQuiet_nil ?_; intro _ hw'; obtain ⟨⟨osq, nq⟩, hw''⟩ := hw'; replace hw'' : _ = grew _ osq nq := hw''; subst hw'')
          go_wp2
          go_ret
          exact ⟨by rw [← HR2.out] <;> rfl, (Ext.trans EX HE.out).trans EX⟩
        · have g6 : decide (IntKind.u64.wrap (2 * (2 : Int) ^ c.bits.toNat) ≤ x.k) = false := decide_eq_false h6
          by_cases h7 : 2147483647 < x.v
          · have g7 : decide (2147483647 < x.v) = true := by simpa using h7
            have HR2 := HBAD.out (by omega)
            go_wp2
            (refine wp_region_ext_lit (by kernel_rfl) (by kernel_rfl) ?_); (repeat (go_big_quiet_step (fail))); (refine wpQuiet_nil ?_; intro _ hw'; obtain ⟨⟨osq, nq⟩, hw''⟩ := hw'; replace hw'' : _ = grew _ osq nq := hw''; subst hw'')
            go_wp2
            go_ret
            exact ⟨by rw [← HR2.out] <;> rfl, (Ext.trans EX HE.out).trans EX⟩
          · have g7 : decide (2147483647 < x.v) = false := by simp; omega
            have hx2 : x.k < ((2 * 2 ^ c.bits.toNat : Nat) : Int) := by have := HW.out.1; omega
            have hx3 : x.k < 128 := by have := HW.out.2; omega
            have hx1 : 0 ≤ x.k := by omega
            have HT2 : Hid (∀ j, j < k + 1 → okT c L j) := Lib.hid fun j hj => by
              by_cases e : j = k
              · subst e
                refine ⟨?_, fun h0 => ?_⟩
                · rw [HX.out]
                  simp only [tabB, Bool.and_eq_true, decide_eq_true_eq]
                  omega
                · have h8 := HLE.out
                  rw [if_neg (by omega)] at h8
                  rw [HX.out]
                  omega
              · exact HT.out j (by omega)
            clear hx2
            go_wp2
            (refine wp_region_ext_lit (by kernel_rfl) (by kernel_rfl) ?_); (repeat (go_big_quiet_step (fail))); (refine wpQuiet_nil ?_; intro _ hw'; obtain ⟨⟨osq, nq⟩, hw''⟩ := hw'; replace hw'' : _ = grew _ osq nq := hw''; subst hw'')
            go_wp2
            go_roundw
            case rel => exact ⟨k + 1, x.k + 1, by omega, by go_num, by first | rfl | go_num, by omega, Lib.hid (by rw [if_neg (by omega), Nat.add_sub_cancel, HX.out]), HT2, Lib.hid (HE.out.trans EX)⟩
            case measure => simp [intOf]; omega
    · obtain rfl : k = L.length := by omega
      have HR2 : Hid (true = R) := Lib.hid (by rw [← HR.out, okT_all HT.out])
      go_wp2
      go_ret
      exact ⟨by rw [← HR2.out] <;> rfl, (Ext.trans EX HE.out).trans EX⟩
theorem is_any (c : Cfg) (v : Value) (L : List Rw) (hf : RwsFit L) (w : World) (hv : Sl w v L.length (rwCells L)) : Calls Tryd.prog 38 #[c.v, v] w
    fun e w' => e = .returned (.bool (tabIs c L)) ∧ Ext w w' := by
  cases hp : (partOk c && (c.object == 1))
  · have hz : tabIs c L = false := by rw [tabIs, hp]; rfl
    rw [hz]
    obtain ⟨ad, cap, rfl, hs⟩ := hv
    have hm := hs.len
    have HC := Lib.hid hp
    clear hs hp hz
    go_enter Tryd.func38, Tryd.ntmps38
    go_wp2_with (go_at_call 37; refine (of_any c _).mono ?_; rintro e w1 ⟨rfl, os1, n1, rfl⟩; rw [HC.out])
    go_ret
    exact ⟨rfl, EX⟩
  · by_cases h2 : (L.length : Int) ≤ c.cap
    · refine is_run c v L hf ?_ w hv h2 hp
      rw [Bool.and_eq_true] at hp
      have hb := partOk_bits hp.1
      omega
    · have hz : tabIs c L = false := by rw [tabIs, decide_eq_false h2]; simp
      rw [hz]
      obtain ⟨ad, cap, rfl, hs⟩ := hv
      have hm := hs.len
      have HC := Lib.hid hp
      have h2' : c.cap < (L.length : Int) := by omega
      clear hs hp hz h2
      go_enter Tryd.func38, Tryd.ntmps38
      go_wp2_with (go_at_call 37; refine (of_any c _).mono ?_; rintro e w1 ⟨rfl, os1, n1, rfl⟩; rw [HC.out])
      go_ret
      exact ⟨rfl, EX⟩
end Go.Proofs.YtknfikdignpniaaDoor.table
