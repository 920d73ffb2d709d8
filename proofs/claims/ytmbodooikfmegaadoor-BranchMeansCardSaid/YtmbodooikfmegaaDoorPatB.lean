/- The walks of the layer 'paths': 'line'. -/
import Derived.Test.YtmbodooikfmegaaDoorPatA
import Derived.Test.YtmbodooikfmegaaDoorA5
namespace Go.Proofs.YtmbodooikfmegaaDoor.paths
open Go Go.RowKit
set_option maxRecDepth 100000
set_option maxHeartbeats 8000000

theorem line_one {k : Int} (h : wholeK k = true) (h1 : k / 65536 % 65536 = 0) : lineK k = [k / 4294967296 * 4294967296] := by
  have h' := (whole_iff k).1 h
  have e : parK k = 0 := by unfold parK; rw [if_pos (h'.2.2 h1), if_pos h1]
  unfold lineK
  rw [if_pos e]
  have := h'.2.2 h1
  congr 1
  omega
theorem line_two {k : Int} (h : wholeK k = true) (h1 : ¬ k / 65536 % 65536 = 0) (h2 : k % 65536 = 0) : lineK k = [k / 4294967296 * 4294967296, k / 65536 * 65536] := by
  have h' := (whole_iff k).1 h
  have e : parK k = k / 4294967296 * 4294967296 := by unfold parK; rw [if_pos h2, if_neg h1]
  have e2 : parK (parK k) = 0 := by rw [e]; unfold parK; rw [if_pos (by omega), if_pos (by omega)]
  unfold lineK
  rw [if_neg (by omega), if_pos e2, e]
  congr 2
  omega
theorem line_three {k : Int} (h : wholeK k = true) (_h1 : ¬ k / 65536 % 65536 = 0) (h2 : ¬ k % 65536 = 0) : lineK k = [k / 4294967296 * 4294967296, k / 65536 * 65536, k] := by
  have h' := (whole_iff k).1 h
  have e : parK k = k / 4294967296 * 4294967296 + k / 65536 % 65536 * 65536 := by unfold parK; rw [if_neg h2]
  have e2 : parK (parK k) = k / 4294967296 * 4294967296 := by
    rw [e]; unfold parK; rw [if_pos (by omega), if_neg (by omega)]; omega
  unfold lineK
  rw [if_neg (by omega), if_neg (by omega), e2, e]
  congr 2
  omega
theorem one_new {w : World} {b : Nat} {x : Value} (h : w.cell? ⟨b, 0, none⟩ = some x) : ∀ (j : Nat) (u : Value), [x][j]? = some u → w.cell? ((⟨b, 0, none⟩ : Addr).add j) = some u
  | 0, u, hj => by cases hj; exact h
  | j + 1, u, hj => by cases hj
theorem info_u64 : (Tryd.prog.info? 22).map (fun i => (i.zero, i.size, i.bytes)) = some (some (.int .u64 0), 1, 8) := by kernel_rfl
theorem line_own (k : Int) (hw : wholeK k = true) (w : World) : Calls Tryd.prog 37 #[.int .u64 k] w fun e w' => ∃ r, e = .returned r ∧ Hid (w'.ownsRow w.heap.size 22 1 r (lineK k).length ((lineK k).map fun p => .int .u64 p)) ∧ Ext w w' := by
  have hb := whole_bd hw
  have h' := (whole_iff k).1 hw
  have HK : Hid (0 ≤ k ∧ k ≤ 18446744073709551615) := Lib.hid (by omega)
  have m0 := mask_0 k (by omega) hb.2
  have m1 := mask_1 k (by omega) hb.2
  have m2 := mask_2 k (by omega) hb.2
  have b0 : bits .or .u64 281470681743360 4294901760 = 281474976645120 := by kernel_rfl
  have b1 : bits .or .u64 281474976645120 65535 = 281474976710655 := by kernel_rfl
  have b2 : bits .or .u64 281474976710655 65535 = 281474976710655 := by kernel_rfl
  have hn0 : (k / 4294967296 == 0) = false := by simp; omega
  have i0 : ∀ (x y z : Value) (w : World), (Instr.index 101 (.agg #[x, y, z]) (.int .i64 0)).run Tryd.prog w = .ok x w := fun _ _ _ _ => by kernel_rfl
  have i1 : ∀ (x y z : Value) (w : World), (Instr.index 101 (.agg #[x, y, z]) (.int .i64 1)).run Tryd.prog w = .ok y w := fun _ _ _ _ => by kernel_rfl
  have i2 : ∀ (x y z : Value) (w : World), (Instr.index 101 (.agg #[x, y, z]) (.int .i64 2)).run Tryd.prog w = .ok z w := fun _ _ _ _ => by kernel_rfl
  obtain ⟨ti, HI1, HI2, HI3, HI4⟩ := info_parts info_u64
  have HI := Lib.hid (And.intro HI1 (And.intro HI2 (And.intro HI3 HI4)))
  clear HI1 HI2 HI3 HI4
  by_cases h1 : k / 65536 % 65536 = 0
  · rw [line_one hw h1]
    have h2 := h'.2.2 h1
    have g1 : (k / 65536 % 65536 == 0) = true := by simpa using h1
    have g2 : (k % 65536 == 0) = true := by simpa using h2
    clear h1 h2 h' hb hw
    go_enter Tryd.func37, Tryd.ntmps37
    go_wp2_with (go_at_call 64; (with_reducible refine (pnames_any k HK.out _).mono ?_); rintro e w1 ⟨rfl, os1, n1, rfl⟩)
    refine wp_loop_rounds 4 ?_
    repeat (rw [rounds_succ]; go_wp2_with (first | (at_builtin; refine wpList_append_own_at _ rfl _ _ 82 rfl w.heap.size 22 ti _ 1 8 Tryd.underlying82 HI.out.1 HI.out.2.1 HI.out.2.2.1 HI.out.2.2.2 rfl (by decide) (.slice none 0 0) 0 [] (by rfl) (World.ownsRow_nil _ _ _ _) _ 1 1 [.int .u64 (k / 4294967296 * 4294967296)] (by rfl) (by rfl) (one_new (by simp [go_sem])) (by simp [Value.oneCell']) (by decide) (by decide) (by simp [go_sem]; try omega) ?_; intro v2 w2 hown2 hgrow2 _ _; have he2 := ext_grown (U := w) EXX hgrow2 (by intro k hk; cases hk); have HO2 := Lib.hid hown2; clear hown2 hgrow2; obtain ⟨ob2, nb2, rfl⟩ := he2) | (at_builtin; refine wpList_append_own_at _ rfl _ _ 82 rfl w.heap.size 22 ti _ 1 8 Tryd.underlying82 HI.out.1 HI.out.2.1 HI.out.2.2.1 HI.out.2.2.2 rfl (by decide) v2 1 [.int .u64 (k / 4294967296 * 4294967296)] (by rfl) (by exact own_ext HO2.out EXX) _ 1 1 [.int .u64 (k / 65536 * 65536)] (by rfl) (by rfl) (one_new (by simp [go_sem])) (by simp [Value.oneCell']) (by decide) (by decide) (by simp [go_sem]; try omega) ?_; intro v3 w3 hown3 hgrow3 _ _; have he3 := ext_grown (U := w) EXX hgrow3 (by intro k hk; exact (own_block HO2.out hk).1); have HO3 := Lib.hid hown3; clear hown3 hgrow3; obtain ⟨ob3, nb3, rfl⟩ := he3) | (at_builtin; refine wpList_append_own_at _ rfl _ _ 82 rfl w.heap.size 22 ti _ 1 8 Tryd.underlying82 HI.out.1 HI.out.2.1 HI.out.2.2.1 HI.out.2.2.2 rfl (by decide) v3 2 [.int .u64 (k / 4294967296 * 4294967296), .int .u64 (k / 65536 * 65536)] (by rfl) (by exact own_ext HO3.out EXX) _ 1 1 [.int .u64 (k)] (by rfl) (by rfl) (one_new (by simp [go_sem])) (by simp [Value.oneCell']) (by decide) (by decide) (by simp [go_sem]; try omega) ?_; intro v4 w4 hown4 hgrow4 _ _; have he4 := ext_grown (U := w) EXX hgrow4 (by intro k hk; exact (own_block HO3.out hk).1); have HO4 := Lib.hid hown4; clear hown4 hgrow4; obtain ⟨ob4, nb4, rfl⟩ := he4)))
    go_ret
    exact ⟨v2, rfl, Lib.hid (by have h := HO2.out; simpa using h), EXY⟩
  · have g1 : (k / 65536 % 65536 == 0) = false := by simpa using h1
    by_cases h2 : k % 65536 = 0
    · rw [line_two hw h1 h2]
      have g2 : (k % 65536 == 0) = true := by simpa using h2
      clear h1 h2 h' hb hw
      go_enter Tryd.func37, Tryd.ntmps37
      go_wp2_with (go_at_call 64; (with_reducible refine (pnames_any k HK.out _).mono ?_); rintro e w1 ⟨rfl, os1, n1, rfl⟩)
      refine wp_loop_rounds 4 ?_
      repeat (rw [rounds_succ]; go_wp2_with (first | (at_builtin; refine wpList_append_own_at _ rfl _ _ 82 rfl w.heap.size 22 ti _ 1 8 Tryd.underlying82 HI.out.1 HI.out.2.1 HI.out.2.2.1 HI.out.2.2.2 rfl (by decide) (.slice none 0 0) 0 [] (by rfl) (World.ownsRow_nil _ _ _ _) _ 1 1 [.int .u64 (k / 4294967296 * 4294967296)] (by rfl) (by rfl) (one_new (by simp [go_sem])) (by simp [Value.oneCell']) (by decide) (by decide) (by simp [go_sem]; try omega) ?_; intro v2 w2 hown2 hgrow2 _ _; have he2 := ext_grown (U := w) EXX hgrow2 (by intro k hk; cases hk); have HO2 := Lib.hid hown2; clear hown2 hgrow2; obtain ⟨ob2, nb2, rfl⟩ := he2) | (at_builtin; refine wpList_append_own_at _ rfl _ _ 82 rfl w.heap.size 22 ti _ 1 8 Tryd.underlying82 HI.out.1 HI.out.2.1 HI.out.2.2.1 HI.out.2.2.2 rfl (by decide) v2 1 [.int .u64 (k / 4294967296 * 4294967296)] (by rfl) (by exact own_ext HO2.out EXX) _ 1 1 [.int .u64 (k / 65536 * 65536)] (by rfl) (by rfl) (one_new (by simp [go_sem])) (by simp [Value.oneCell']) (by decide) (by decide) (by simp [go_sem]; try omega) ?_; intro v3 w3 hown3 hgrow3 _ _; have he3 := ext_grown (U := w) EXX hgrow3 (by intro k hk; exact (own_block HO2.out hk).1); have HO3 := Lib.hid hown3; clear hown3 hgrow3; obtain ⟨ob3, nb3, rfl⟩ := he3) | (at_builtin; refine wpList_append_own_at _ rfl _ _ 82 rfl w.heap.size 22 ti _ 1 8 Tryd.underlying82 HI.out.1 HI.out.2.1 HI.out.2.2.1 HI.out.2.2.2 rfl (by decide) v3 2 [.int .u64 (k / 4294967296 * 4294967296), .int .u64 (k / 65536 * 65536)] (by rfl) (by exact own_ext HO3.out EXX) _ 1 1 [.int .u64 (k)] (by rfl) (by rfl) (one_new (by simp [go_sem])) (by simp [Value.oneCell']) (by decide) (by decide) (by simp [go_sem]; try omega) ?_; intro v4 w4 hown4 hgrow4 _ _; have he4 := ext_grown (U := w) EXX hgrow4 (by intro k hk; exact (own_block HO3.out hk).1); have HO4 := Lib.hid hown4; clear hown4 hgrow4; obtain ⟨ob4, nb4, rfl⟩ := he4)))
      go_ret
      exact ⟨v3, rfl, Lib.hid (by have h := HO3.out; simpa using h), EXY⟩
    · rw [line_three hw h1 h2]
      have g2 : (k % 65536 == 0) = false := by simpa using h2
      clear h1 h2 h' hb hw
      go_enter Tryd.func37, Tryd.ntmps37
      go_wp2_with (go_at_call 64; (with_reducible refine (pnames_any k HK.out _).mono ?_); rintro e w1 ⟨rfl, os1, n1, rfl⟩)
      refine wp_loop_rounds 4 ?_
      repeat (rw [rounds_succ]; go_wp2_with (first | (at_builtin; refine wpList_append_own_at _ rfl _ _ 82 rfl w.heap.size 22 ti _ 1 8 Tryd.underlying82 HI.out.1 HI.out.2.1 HI.out.2.2.1 HI.out.2.2.2 rfl (by decide) (.slice none 0 0) 0 [] (by rfl) (World.ownsRow_nil _ _ _ _) _ 1 1 [.int .u64 (k / 4294967296 * 4294967296)] (by rfl) (by rfl) (one_new (by simp [go_sem])) (by simp [Value.oneCell']) (by decide) (by decide) (by simp [go_sem]; try omega) ?_; intro v2 w2 hown2 hgrow2 _ _; have he2 := ext_grown (U := w) EXX hgrow2 (by intro k hk; cases hk); have HO2 := Lib.hid hown2; clear hown2 hgrow2; obtain ⟨ob2, nb2, rfl⟩ := he2) | (at_builtin; refine wpList_append_own_at _ rfl _ _ 82 rfl w.heap.size 22 ti _ 1 8 Tryd.underlying82 HI.out.1 HI.out.2.1 HI.out.2.2.1 HI.out.2.2.2 rfl (by decide) v2 1 [.int .u64 (k / 4294967296 * 4294967296)] (by rfl) (by exact own_ext HO2.out EXX) _ 1 1 [.int .u64 (k / 65536 * 65536)] (by rfl) (by rfl) (one_new (by simp [go_sem])) (by simp [Value.oneCell']) (by decide) (by decide) (by simp [go_sem]; try omega) ?_; intro v3 w3 hown3 hgrow3 _ _; have he3 := ext_grown (U := w) EXX hgrow3 (by intro k hk; exact (own_block HO2.out hk).1); have HO3 := Lib.hid hown3; clear hown3 hgrow3; obtain ⟨ob3, nb3, rfl⟩ := he3) | (at_builtin; refine wpList_append_own_at _ rfl _ _ 82 rfl w.heap.size 22 ti _ 1 8 Tryd.underlying82 HI.out.1 HI.out.2.1 HI.out.2.2.1 HI.out.2.2.2 rfl (by decide) v3 2 [.int .u64 (k / 4294967296 * 4294967296), .int .u64 (k / 65536 * 65536)] (by rfl) (by exact own_ext HO3.out EXX) _ 1 1 [.int .u64 (k)] (by rfl) (by rfl) (one_new (by simp [go_sem])) (by simp [Value.oneCell']) (by decide) (by decide) (by simp [go_sem]; try omega) ?_; intro v4 w4 hown4 hgrow4 _ _; have he4 := ext_grown (U := w) EXX hgrow4 (by intro k hk; exact (own_block HO3.out hk).1); have HO4 := Lib.hid hown4; clear hown4 hgrow4; obtain ⟨ob4, nb4, rfl⟩ := he4)))
      go_ret
      exact ⟨v4, rfl, Lib.hid (by have h := HO4.out; simpa using h), EXY⟩
theorem line_any (k : Int) (hw : wholeK k = true) (w : World) : Calls Tryd.prog 37 #[.int .u64 k] w fun e w' => ∃ r, e = .returned r ∧ Hid (Sl w' r (lineK k).length ((lineK k).map fun p => .int .u64 p)) ∧ Ext w w' :=
  (line_own k hw w).mono fun _ _ ⟨r, h1, h2, h3⟩ => ⟨r, h1, Lib.hid (own_sl h2.out), h3⟩
end Go.Proofs.YtmbodooikfmegaaDoor.paths
