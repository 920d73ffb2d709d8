/- 'table.find', 'table.word', 'rank.Node'. -/
import Derived.Test.YtknfikdignpniaaDoorBin
namespace Go.Proofs.YtknfikdignpniaaDoor.table
open Go Go.RowKit
set_option maxRecDepth 100000
set_option maxHeartbeats 8000000

theorem tfind_any (v : Value) (L : List Rw) (q : Int) (hq : 0 ≤ q ∧ q ≤ 4611686018427387904) (hr : Rises L) (hn : L.length ≤ 1000000) (w : World) (hv : Sl w v L.length (rwCells L)) :
    Calls Tryd.prog 42 #[v, .int .i64 q] w
    fun e w' => (∃ i : Nat, e = .returned (.tuple #[.int .i64 i, .bool (decide (i < L.length) && decide ((L.getD i zrw).k = q))]) ∧ At L q i) ∧ Ext w w' := by
  have HV := Lib.hid hv
  have HR := Lib.hid hr
  obtain ⟨ad, cap, rfl, hs⟩ := hv
  have hm := hs.len
  clear hs hr
  obtain ⟨hq0, hq1⟩ := hq
  go_enter Tryd.func42, Tryd.ntmps42
  go_wp2_with (go_at_call 46; (with_reducible refine (bin_any _ L q HR.out hn _ (HV.out.ext EX)).mono ?_); rintro e w1 ⟨⟨i, rfl, HP⟩, os1, n1, rfl⟩)
  refine bodyPost_ret (v := .tuple #[.int .i64 i, .bool (decide (i < L.length) && decide ((L.getD i zrw).k = q))]) (by simp [results, Tryd.results42, go_sem]) rfl ?_
  exact ⟨⟨i, rfl, HP⟩, EX⟩
theorem word_any (v : Int) (hv : 0 ≤ v ∧ v ≤ 2147483647) (w : World) : Calls Tryd.prog 43 #[.int .u64 v] w fun e w' => e = .returned (.int .u32 (v + 1)) ∧ Ext w w' := by
  obtain ⟨h0, h1⟩ := hv
  go_enter Tryd.func43, Tryd.ntmps43
  go_wp2
  go_ret
  exact ⟨by first | rfl | (simp [go_sem]; done) | (simp [go_sem]; omega), EX⟩
theorem node_all : ((List.range 7).all fun l => (List.range (2 ^ l)).all fun p => decide (bits BinOp.or IntKind.i64 (wrap64 ((2 : Int) ^ l)) (p : Int) = (2 : Int) ^ l + (p : Int)) && decide (wrap64 ((2 : Int) ^ l) = (2 : Int) ^ l)) = true := by kernel_rfl
theorem node_plain {l p : Nat} (hl : l ≤ 6) (hp : p < 2 ^ l) : bits BinOp.or IntKind.i64 (wrap64 ((2 : Int) ^ l)) (p : Int) = (2 : Int) ^ l + (p : Int) ∧ wrap64 ((2 : Int) ^ l) = (2 : Int) ^ l := by
  have h := List.all_eq_true.1 (List.all_eq_true.1 node_all l (List.mem_range.2 (by omega))) p (List.mem_range.2 hp)
  simpa using h
theorem node_any (l p : Nat) (hl : l ≤ 6) (hp : p < 2 ^ l) (w : World) : Calls Tryd.prog 41 #[.int .i64 l, .int .i64 p] w fun e w' => e = .returned (.tuple #[.int .i64 ((2 ^ l + p : Nat) : Int), .int .i64 0]) ∧ Ext w w' := by
  have i0 : ¬ (l : Int) < 0 := by omega
  have i1 : ¬ (6 : Int) < (l : Int) := by omega
  have i2 : ¬ (p : Int) < 0 := by omega
  obtain ⟨n1, n2⟩ := node_plain hl hp
  have N1 := Lib.hid n1
  have i3 : ¬ wrap64 ((2 : Int) ^ l) ≤ (p : Int) := by
    rw [n2]
    exact Int.not_le.2 (by exact_mod_cast hp)
  clear n1 n2
  go_enter Tryd.func41, Tryd.ntmps41
  go_wp2
  refine bodyPost_ret (v := .tuple #[.int .i64 ((2 ^ l + p : Nat) : Int), .int .i64 0]) (by simp [results, Tryd.results41, go_sem, N1.out]) rfl ⟨by simp, EX⟩
end Go.Proofs.YtknfikdignpniaaDoor.table
