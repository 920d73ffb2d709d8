/- The walk of 'table.longest'. -/
import Derived.Test.YtknfikdignpniaaDoorTab2
import Derived.Test.YtknfikdignpniaaDoorTabI2
namespace Go.Proofs.YtknfikdignpniaaDoor.table
open Go Go.RowKit
set_option maxRecDepth 100000
set_option maxHeartbeats 8000000

theorem at_ex {L : List Rw} (hr : Rises L) (q : Int) : ∃ i, At L q i := by
  obtain ⟨i, h1, h2, h3, _⟩ := findP_pos q hr
  exact ⟨i, h1, h2, h3⟩
theorem at_uniq {L : List Rw} {q : Int} {i j : Nat} (h1 : At L q i) (h2 : At L q j) : i = j := by
  by_cases h : i < j
  · have a := h2.lo i h
    have b := h1.hi i (Nat.le_refl _) (by have := h2.le; omega)
    omega
  · by_cases h' : j < i
    · have a := h1.lo j h'
      have b := h2.hi j (Nat.le_refl _) (by have := h1.le; omega)
      omega
    · omega
theorem tfind_as (v : Value) (L : List Rw) (q : Int) (hq : 0 ≤ q ∧ q ≤ 4611686018427387904) (hr : Rises L) (hn : L.length ≤ 1000000) (w : World) (hv : Sl w v L.length (rwCells L)) (i : Nat) (hi : At L q i) (b : Bool) (hb : (look L q).isSome = b) :
    Calls Tryd.prog 42 #[v, .int .i64 q] w fun e w' => e = .returned (.tuple #[.int .i64 i, .bool b]) ∧ Ext w w' := by
  refine (tfind_any v L q hq hr hn w hv).mono fun e w' h => ?_
  obtain ⟨⟨j, rfl, hj⟩, h2⟩ := h
  obtain rfl := at_uniq hj hi
  exact ⟨by rw [bin_is hr hj, hb], h2⟩
theorem node_i (l p : Int) (hl : 0 ≤ l ∧ l ≤ 6) (hp0 : 0 ≤ p) (hp : p.toNat < 2 ^ l.toNat) (w : World) (q : Int) (hq : ((2 ^ l.toNat + p.toNat : Nat) : Int) = q) : Calls Tryd.prog 41 #[.int .i64 l, .int .i64 p] w fun e w' => e = .returned (.tuple #[.int .i64 q, .int .i64 0]) ∧ Ext w w' := by
  subst hq
  have h := node_any l.toNat p.toNat (by omega) hp w
  rw [Int.toNat_of_nonneg hl.1, Int.toNat_of_nonneg hp0] at h
  exact h
abbrev resV (code word : Int) : Value := .agg #[.int .i64 code, .int .u32 word, .slice none 0 0]
def longRes : Option Int → Value
  | some u => resV 0 (u + 1)
  | none => resV 6 0
theorem climb_zero (L : List Rw) (f : Nat) : climb L f 0 = none := by cases f <;> rfl
theorem climb_hit {L : List Rw} {f n : Nat} {u : Int} (h : look L n = some u) (h0 : 0 < n) : climb L (f + 1) n = some u := by
  simp only [climb, h]
  rw [if_neg (by omega)]
theorem climb_miss {L : List Rw} {f n : Nat} (h : look L n = none) : climb L (f + 1) n = climb L f (n / 2) := by
  simp only [climb, h]
  split
  · subst_vars; exact (climb_zero L f).symm
  · rfl
theorem long_any (c : Cfg) (v : Value) (L : List Rw) (a : Int) (hb : 0 ≤ c.bits ∧ c.bits ≤ 6) (ha0 : 0 ≤ a) (ha : a < 2 ^ c.bits.toNat) (hr : Rises L) (hn : L.length ≤ 1000) (hok : ∀ x ∈ L, RouteOk c x) (w : World) (hv : Sl w v L.length (rwCells L)) :
    Calls Tryd.prog 40 #[c.v, v, .int .i64 a] w fun e w' => e = .returned (longRes (tabLook c L a)) ∧ Ext w w' := by
  obtain ⟨hp1, hp2, hp3⟩ := leaf_bd ha0 hb.2 ha
  obtain ⟨R, hR⟩ : ∃ R, tabLook c L a = R := ⟨_, rfl⟩
  rw [hR]
  have HB := Lib.hid hb
  have HA0 := Lib.hid ha0
  have HA := Lib.hid hp1
  have HR := Lib.hid hr
  have HOK := Lib.hid hok
  have HV := Lib.hid hv
  have HL : Hid (L.length ≤ 1000000) := Lib.hid (by omega)
  obtain ⟨q0, hq0⟩ : ∃ q0, 2 ^ c.bits.toNat + a.toNat = q0 := ⟨_, rfl⟩
  rw [hq0] at hp2
  obtain ⟨q, hq⟩ : ∃ q : Int, (q0 : Int) = q := ⟨_, rfl⟩
  have HQ : Hid (((2 ^ c.bits.toNat + a.toNat : Nat) : Int) = q) := Lib.hid (by rw [hq0, hq])
  have HRR : Hid (climb L 8 q0 = R) := Lib.hid (by rw [← hR, tabLook, hq0])
  obtain ⟨ad, cap, rfl, hs⟩ := hv
  have hm := hs.len
  have HSA := Lib.hid hs
  clear hr hok hs hq0 hR hb ha0 ha hp1
  go_enter Tryd.func40, Tryd.ntmps40
  go_wp2_with (go_at_call 41; (with_reducible refine (node_i c.bits a HB.out HA0.out HA.out _ q HQ.out).mono ?_); rintro e w1 ⟨rfl, os1, n1, rfl⟩)
  go_loopw [7, 9, 10] (fun x _ _ wr => ∃ (m f : Nat), x = .int .i64 m ∧ m < 2 ^ f ∧ m ≤ 127 ∧ Hid (climb L f m = R) ∧ Hid (Ext ((w.alloc (.cells #[.int .u8 c.object, .int .i64 c.instances, .int .i64 c.threads, .int .u8 c.kind, .int .i64 c.stripes, .int .i64 c.bits, .int .i64 c.cap, .int .i64 c.node, .int .i64 c.batch, .int .i64 c.chunk, .int .u64 c.limit, .int .u64 c.most] 24)).alloc (.cells #[.int .i64 0, .int .u32 0, .slice none 0 0] 36)) wr)) (fun x _ _ _ => (intOf x).toNat)
  case atStart => exact ⟨q0, 8, by rw [hq], by omega, by omega, HRR, Lib.hid EX⟩
  case round =>
    obtain ⟨m, f, rfl, hmf, hm127, HT, HE⟩ := hrel
    obtain ⟨os', d', rfl⟩ := HE.out
    clear HE
    obtain ⟨n, hn⟩ : ∃ n : Int, (m : Int) = n := ⟨_, rfl⟩
    have HMN := Lib.hid hn
    by_cases h0 : m = 0
    · have HR2 : Hid (none = R) := Lib.hid (by rw [← HT.out, h0, climb_zero])
      have i0 : ¬ (0 : Int) < (m : Int) := by omega
      go_wp2
      refine bodyPost_ret (v := resV 6 0) (by simp [results, Tryd.results40, go_sem]) rfl ?_
      exact ⟨by rw [← HR2.out] <;> rfl, EXY⟩
    · have i0 : (0 : Int) < (m : Int) := by omega
      have HN : Hid (0 ≤ n ∧ n ≤ 4611686018427387904) := Lib.hid (by omega)
      obtain ⟨i, hi⟩ := at_ex HR.out n
      have HI := Lib.hid hi
      obtain ⟨g, rfl⟩ : ∃ g, f = g + 1 := by
        cases f with
        | zero => simp at hmf; omega
        | succ g => exact ⟨g, rfl⟩
      cases hl : look L n with
      | none =>
        have HS : Hid ((look L n).isSome = false) := Lib.hid (by rw [hl]; rfl)
        have HT2 : Hid (climb L g (m / 2) = R) := Lib.hid (by rw [← HT.out, climb_miss (by rw [HMN.out]; exact hl)])
        have hp : m / 2 < 2 ^ g := by rw [Nat.pow_succ] at hmf; omega
        clear hl hi
        go_wp2_with (go_at_call 42; (with_reducible refine (tfind_as _ L n HN.out HR.out HL.out _ (HV.out.ext EXY) i HI.out _ HS.out).mono ?_); rintro e w2 ⟨rfl, os2, n2, rfl⟩)
        go_roundw
        case rel => exact ⟨m / 2, g, by first | go_num | (congr 1; omega), hp, by omega, HT2, Lib.hid EXY⟩
        case measure => simp [intOf]; omega
      | some u =>
        have HS : Hid ((look L n).isSome = true) := Lib.hid (by rw [hl]; rfl)
        have HR2 : Hid (some u = R) := Lib.hid (by rw [← HT.out, climb_hit (by rw [HMN.out]; exact hl) (by omega)])
        obtain ⟨hil, hg, _, _⟩ := bin_some HR.out hi hl
        obtain ⟨b, o, rfl, hbl, hrw⟩ := HSA.out.rw hil
        rw [hg] at hrw
        obtain ⟨r1, r2⟩ := hrw
        dsimp only at r1 r2
        have HU : Hid (0 ≤ u ∧ u ≤ 2147483647) := Lib.hid (HOK.out _ (look_mem hl)).2
        have j0 : (0 : Int) ≤ (i : Int) := by omega
        have j1 : (i : Int) < (L.length : Int) := by omega
        have hbl1 : b < w.heap.size + 1 := by omega
        have hbl2 : b < w.heap.size + 1 + 1 := by omega
        clear hl hi hg
        go_wp2_with (first | (go_at_call 42; (with_reducible refine (tfind_as _ L n HN.out HR.out HL.out _ (HV.out.ext EXY) i HI.out _ HS.out).mono ?_); rintro e w2 ⟨rfl, os2, n2, rfl⟩) | (go_at_call 43; (with_reducible refine (word_any u HU.out _).mono ?_); rintro e w3 ⟨rfl, os3, n3, rfl⟩))
        refine bodyPost_ret (v := resV 0 (u + 1)) (by simp [results, Tryd.results40, go_sem]) rfl ?_
        exact ⟨by rw [← HR2.out] <;> rfl, EXY⟩
end Go.Proofs.YtknfikdignpniaaDoor.table
