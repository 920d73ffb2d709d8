/- The walks of the layer 'paths': 'of', 'names', 'key', 'whole', 'find'. -/
import Derived.Test.YtmbodooikfmegaaDoorPatM
import Derived.Test.YtmbodooikfmegaaDoorBin
import Derived.Test.YtmbodooikfmegaaDoorCheck
namespace Go.Proofs.YtmbodooikfmegaaDoor.paths
open Go Go.RowKit
set_option maxRecDepth 100000
set_option maxHeartbeats 8000000

theorem of_any (c : Cfg) (w : World) : Calls Tryd.prog 34 #[c.v] w fun e w' => e = .returned (.bool (partOk c && (c.object == 4))) ∧ Ext w w' := by
  cases hp : partOk c
  · have HC := Lib.hid (conf_no hp)
    go_enter Tryd.func34, Tryd.ntmps34
    go_wp2_with (go_at_call 47; refine (partCheck_any c _).mono ?_; rintro e w1 ⟨rfl, os1, n1, rfl⟩; rw [HC.out])
    go_ret
    exact ⟨rfl, EX⟩
  · have HC := Lib.hid (conf_ok hp)
    cases h1 : (c.object == 4)
    all_goals
      go_enter Tryd.func34, Tryd.ntmps34
      go_wp2_with (go_at_call 47; refine (partCheck_any c _).mono ?_; rintro e w1 ⟨rfl, os1, n1, rfl⟩; rw [HC.out])
      go_ret
      exact ⟨rfl, EX⟩
/-- A key's names. -/
abbrev namesV (k : Int) : Value := .agg #[.int .u64 (k / 4294967296), .int .u64 (k / 65536 % 65536), .int .u64 (k % 65536)]
theorem pnames_any (k : Int) (hk : 0 ≤ k ∧ k ≤ 18446744073709551615) (w : World) : Calls Tryd.prog 64 #[.int .u64 k] w fun e w' => e = .returned (namesV k) ∧ Ext w w' := by
  have m1 : bits .and .u64 (k / 65536) 65535 = k / 65536 % 65536 := mask_a _ (by omega) (by omega)
  have m2 : bits .and .u64 k 65535 = k % 65536 := mask_a _ hk.1 hk.2
  obtain ⟨A, hA⟩ : ∃ A, k / 65536 % 65536 = A := ⟨_, rfl⟩
  obtain ⟨B, hB⟩ : ∃ B, k % 65536 = B := ⟨_, rfl⟩
  unfold namesV
  rw [hA] at m1 ⊢
  rw [hB] at m2 ⊢
  clear hA hB
  go_enter Tryd.func64, Tryd.ntmps64
  go_wp2
  exact bodyPost_ret (v := .agg #[.int .u64 (k / 4294967296), .int .u64 A, .int .u64 B]) (by simp [results, Tryd.results64, go_sem]) rfl ⟨rfl, EX⟩
theorem pkey_any (o : Opn) (ho : o.Fits) (hb : o.b ≤ 65535) (w : World) : Calls Tryd.prog 41 #[o.v] w fun e w' => e = .returned (.int .u64 (pathKey o)) ∧ Ext w w' := by
  have ha := ho.a
  have hb0 := ho.b.1
  have m1 : bits .and .u32 o.a 65535 = o.a % 65536 := and_mask o.a ha.1 ha.2
  have m2 := key_or o.a o.b ha ⟨hb0, hb⟩
  have e1 : IntKind.u64.wrap (o.a % 65536) = o.a % 65536 := by rw [IntKind.wrap_u64]; omega
  have e2 : IntKind.u64.wrap (o.a % 65536 * 4294967296) = o.a % 65536 * 4294967296 := by rw [IntKind.wrap_u64]; omega
  have e3 : IntKind.u64.wrap (o.a / 65536) = o.a / 65536 := by rw [IntKind.wrap_u64]; omega
  have e4 : IntKind.u64.wrap (o.a / 65536 * 65536) = o.a / 65536 * 65536 := by rw [IntKind.wrap_u64]; omega
  have e5 : IntKind.u64.wrap o.b = o.b := by rw [IntKind.wrap_u64]; omega
  clear ho
  go_enter Tryd.func41, Tryd.ntmps41
  go_wp2
  go_ret
  exact ⟨rfl, EX⟩
theorem whole_any (k : Int) (hk : 0 ≤ k ∧ k ≤ 18446744073709551615) (w : World) : Calls Tryd.prog 35 #[.int .u64 k] w fun e w' => e = .returned (.bool (wholeK k)) ∧ Ext w w' := by
  have hw := whole_iff k
  go_enter Tryd.func35, Tryd.ntmps35
  go_wp2_with (go_at_call 64; refine (pnames_any k hk _).mono ?_; rintro e w1 ⟨rfl, os1, n1, rfl⟩)
  all_goals
    go_ret
    refine ⟨ret_bool ?_, EX⟩
    rw [Bool.eq_iff_iff, hw]
    simp
    try omega
theorem tfind_any (v : Value) (L : List Rw) (q : Int) (hr : Rises L) (hn : L.length ≤ 1000000) (w : World) (hv : Sl w v L.length (rwCells L)) :
    Calls Tryd.prog 43 #[v, .int .u64 q] w
    fun e w' => (∃ i : Nat, e = .returned (.tuple #[.int .i64 i, .bool (decide (i < L.length) && decide ((L.getD i zrw).k = q))]) ∧ At L q i) ∧ Ext w w' := by
  have HV := Lib.hid hv
  have HR := Lib.hid hr
  obtain ⟨ad, cap, rfl, hs⟩ := hv
  have hm := hs.len
  clear hs hr
  go_enter Tryd.func43, Tryd.ntmps43
  go_wp2_with (go_at_call 69; (with_reducible refine (bin_any _ L q HR.out hn _ (HV.out.ext EX)).mono ?_); rintro e w1 ⟨⟨i, rfl, HP⟩, os1, n1, rfl⟩)
  refine bodyPost_ret (v := .tuple #[.int .i64 i, .bool (decide (i < L.length) && decide ((L.getD i zrw).k = q))]) (by simp [results, Tryd.results43, go_sem]) rfl ?_
  exact ⟨⟨i, rfl, HP⟩, EX⟩
end Go.Proofs.YtmbodooikfmegaaDoor.paths
