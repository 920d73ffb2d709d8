/- The walks of the layer 'paths': 'line'. -/
import Derived.Test.YtknfikdignpniaaDoorPa
import Derived.Test.YtknfikdignpniaaDoorOwnI
import Derived.Test.YtknfikdignpniaaDoorProg
import Derived.Maps.OwnSet
import Derived.WalkArith
import Derived.Test.YtknfikdignpniaaDoorIns3
import Derived.Test.YtknfikdignpniaaDoorDel
import Derived.Test.YtknfikdignpniaaDoorOwnP
import Derived.Test.YtknfikdignpniaaDoorLawP
import Derived.Test.YtknfikdignpniaaDoorWorld
import Derived.Deep.RegionHeld3
namespace Go.Proofs.YtknfikdignpniaaDoor.paths
open Go Go.RowKit
set_option maxRecDepth 100000
set_option maxHeartbeats 8000000

theorem line_one {k : Int} (h : wholeK k = true) (h1 : k / 65536 % 65536 = 0) : lineK k = [k / 4294967296 * 4294967296] := by
  have h' := (whole_iff k).1 h
  have e : parK k = 0 := by unfold parK; rw [if_pos (h'.2.2 h1), if_pos h1]
  unfold lineK
  rw [if_pos e]
  have := h'.2.2 h1
  congr 1
  omega
theorem line_two {k : Int} (h : wholeK k = true) (h1 : ¬ k / 65536 % 65536 = 0) (h2 : k % 65536 = 0) : lineK k = [k / 4294967296 * 4294967296, k / 65536 * 65536] := by
  have h' := (whole_iff k).1 h
  have e : parK k = k / 4294967296 * 4294967296 := by unfold parK; rw [if_pos h2, if_neg h1]
  have e2 : parK (parK k) = 0 := by rw [e]; unfold parK; rw [if_pos (by omega), if_pos (by omega)]
  unfold lineK
  rw [if_neg (by omega), if_pos e2, e]
  congr 2
  omega
theorem line_three {k : Int} (h : wholeK k = true) (_h1 : ¬ k / 65536 % 65536 = 0) (h2 : ¬ k % 65536 = 0) : lineK k = [k / 4294967296 * 4294967296, k / 65536 * 65536, k] := by
  have h' := (whole_iff k).1 h
  have e : parK k = k / 4294967296 * 4294967296 + k / 65536 % 65536 * 65536 := by unfold parK; rw [if_neg h2]
  have e2 : parK (parK k) = k / 4294967296 * 4294967296 := by
    rw [e]; unfold parK; rw [if_pos (by omega), if_neg (by omega)]; omega
  unfold lineK
  rw [if_neg (by omega), if_neg (by omega), e2, e]
  congr 2
  omega
theorem one_new {w : World} {b : Nat} {x : Value} (h : w.cell? ⟨b, 0, none⟩ = some x) : ∀ (j : Nat) (u : Value), [x][j]? = some u → w.cell? ((⟨b, 0, none⟩ : Addr).add j) = some u
  | 0, u, hj => by cases hj; exact h
  | j + 1, u, hj => by cases hj
theorem info_u64 : (Tryd.prog.info? 22).map (fun i => (i.zero, i.size, i.bytes)) = some (some (.int .u64 0), 1, 8) := by kernel_rfl
theorem line_own (k : Int) (hw : wholeK k = true) (w : World) : Calls Tryd.prog 89 #[.int .u64 k] w fun e w' => ∃ r, e = .returned r ∧ Hid (w'.ownsRow w.heap.size 22 1 r (lineK k).length ((lineK k).map fun p => .int .u64 p)) ∧ Ext w w' := by
  have hb := whole_bd hw
  have h' := (whole_iff k).1 hw
  have HK : Hid (0 ≤ k ∧ k ≤ 18446744073709551615) := Lib.hid (by omega)
  have m0 := mask_0 k (by omega) hb.2
  have m1 := mask_1 k (by omega) hb.2
  have m2 := mask_2 k (by omega) hb.2
  have b0 : bits .or .u64 281470681743360 4294901760 = 281474976645120 := by kernel_rfl
  have b1 : bits .or .u64 281474976645120 65535 = 281474976710655 := by kernel_rfl
  have b2 : bits .or .u64 281474976710655 65535 = 281474976710655 := by kernel_rfl
  have hn0 : (k / 4294967296 == 0) = false := by simp; omega
  have i0 : ∀ (x y z : Value) (w : World), (Instr.index 121 (.agg #[x, y, z]) (.int .i64 0)).run Tryd.prog w = .ok x w := fun _ _ _ _ => by kernel_rfl
  have i1 : ∀ (x y z : Value) (w : World), (Instr.index 121 (.agg #[x, y, z]) (.int .i64 1)).run Tryd.prog w = .ok y w := fun _ _ _ _ => by kernel_rfl
  have i2 : ∀ (x y z : Value) (w : World), (Instr.index 121 (.agg #[x, y, z]) (.int .i64 2)).run Tryd.prog w = .ok z w := fun _ _ _ _ => by kernel_rfl
  obtain ⟨ti, HI1, HI2, HI3, HI4⟩ := info_parts info_u64
  have HI := Lib.hid (And.intro HI1 (And.intro HI2 (And.intro HI3 HI4)))
  clear HI1 HI2 HI3 HI4
  by_cases h1 : k / 65536 % 65536 = 0
  · rw [line_one hw h1]
    have h2 := h'.2.2 h1
    have g1 : (k / 65536 % 65536 == 0) = true := by simpa using h1
    have g2 : (k % 65536 == 0) = true := by simpa using h2
    clear h1 h2 h' hb hw
    go_enter Tryd.func89, Tryd.ntmps89
    go_wp2_with (go_at_call 91; (with_reducible refine (pnames_any k HK.out _).mono ?_); rintro e w1 ⟨rfl, os1, n1, rfl⟩)
    refine wp_loop_rounds 4 ?_
    repeat (rw [rounds_succ]; go_wp2_with (first | (at_builtin; refine wpList_append_own_at _ rfl _ _ 119 rfl w.heap.size 22 ti _ 1 8 Tryd.underlying119 HI.out.1 HI.out.2.1 HI.out.2.2.1 HI.out.2.2.2 rfl (by decide) (.slice none 0 0) 0 [] (by rfl) (World.ownsRow_nil _ _ _ _) _ 1 1 [.int .u64 (k / 4294967296 * 4294967296)] (by rfl) (by rfl) (one_new (by simp [go_sem])) (by simp [Value.oneCell']) (by decide) (by decide) (by simp [go_sem]; try omega) ?_; intro v2 w2 hown2 hgrow2 _ _; have he2 := ext_grown (U := w) EXX hgrow2 (by intro k hk; cases hk); have HO2 := Lib.hid hown2; clear hown2 hgrow2; obtain ⟨ob2, nb2, rfl⟩ := he2) | (at_builtin; refine wpList_append_own_at _ rfl _ _ 119 rfl w.heap.size 22 ti _ 1 8 Tryd.underlying119 HI.out.1 HI.out.2.1 HI.out.2.2.1 HI.out.2.2.2 rfl (by decide) v2 1 [.int .u64 (k / 4294967296 * 4294967296)] (by rfl) (by exact own_ext HO2.out EXX) _ 1 1 [.int .u64 (k / 65536 * 65536)] (by rfl) (by rfl) (one_new (by simp [go_sem])) (by simp [Value.oneCell']) (by decide) (by decide) (by simp [go_sem]; try omega) ?_; intro v3 w3 hown3 hgrow3 _ _; have he3 := ext_grown (U := w) EXX hgrow3 (by intro k hk; exact (own_block HO2.out hk).1); have HO3 := Lib.hid hown3; clear hown3 hgrow3; obtain ⟨ob3, nb3, rfl⟩ := he3) | (at_builtin; refine wpList_append_own_at _ rfl _ _ 119 rfl w.heap.size 22 ti _ 1 8 Tryd.underlying119 HI.out.1 HI.out.2.1 HI.out.2.2.1 HI.out.2.2.2 rfl (by decide) v3 2 [.int .u64 (k / 4294967296 * 4294967296), .int .u64 (k / 65536 * 65536)] (by rfl) (by exact own_ext HO3.out EXX) _ 1 1 [.int .u64 (k)] (by rfl) (by rfl) (one_new (by simp [go_sem])) (by simp [Value.oneCell']) (by decide) (by decide) (by simp [go_sem]; try omega) ?_; intro v4 w4 hown4 hgrow4 _ _; have he4 := ext_grown (U := w) EXX hgrow4 (by intro k hk; exact (own_block HO3.out hk).1); have HO4 := Lib.hid hown4; clear hown4 hgrow4; obtain ⟨ob4, nb4, rfl⟩ := he4)))
    go_ret
    exact ⟨v2, rfl, Lib.hid (by have h := HO2.out; simpa using h), EXY⟩
  · have g1 : (k / 65536 % 65536 == 0) = false := by simpa using h1
    by_cases h2 : k % 65536 = 0
    · rw [line_two hw h1 h2]
      have g2 : (k % 65536 == 0) = true := by simpa using h2
      clear h1 h2 h' hb hw
      go_enter Tryd.func89, Tryd.ntmps89
      go_wp2_with (go_at_call 91; (with_reducible refine (pnames_any k HK.out _).mono ?_); rintro e w1 ⟨rfl, os1, n1, rfl⟩)
      refine wp_loop_rounds 4 ?_
      repeat (rw [rounds_succ]; go_wp2_with (first | (at_builtin; refine wpList_append_own_at _ rfl _ _ 119 rfl w.heap.size 22 ti _ 1 8 Tryd.underlying119 HI.out.1 HI.out.2.1 HI.out.2.2.1 HI.out.2.2.2 rfl (by decide) (.slice none 0 0) 0 [] (by rfl) (World.ownsRow_nil _ _ _ _) _ 1 1 [.int .u64 (k / 4294967296 * 4294967296)] (by rfl) (by rfl) (one_new (by simp [go_sem])) (by simp [Value.oneCell']) (by decide) (by decide) (by simp [go_sem]; try omega) ?_; intro v2 w2 hown2 hgrow2 _ _; have he2 := ext_grown (U := w) EXX hgrow2 (by intro k hk; cases hk); have HO2 := Lib.hid hown2; clear hown2 hgrow2; obtain ⟨ob2, nb2, rfl⟩ := he2) | (at_builtin; refine wpList_append_own_at _ rfl _ _ 119 rfl w.heap.size 22 ti _ 1 8 Tryd.underlying119 HI.out.1 HI.out.2.1 HI.out.2.2.1 HI.out.2.2.2 rfl (by decide) v2 1 [.int .u64 (k / 4294967296 * 4294967296)] (by rfl) (by exact own_ext HO2.out EXX) _ 1 1 [.int .u64 (k / 65536 * 65536)] (by rfl) (by rfl) (one_new (by simp [go_sem])) (by simp [Value.oneCell']) (by decide) (by decide) (by simp [go_sem]; try omega) ?_; intro v3 w3 hown3 hgrow3 _ _; have he3 := ext_grown (U := w) EXX hgrow3 (by intro k hk; exact (own_block HO2.out hk).1); have HO3 := Lib.hid hown3; clear hown3 hgrow3; obtain ⟨ob3, nb3, rfl⟩ := he3) | (at_builtin; refine wpList_append_own_at _ rfl _ _ 119 rfl w.heap.size 22 ti _ 1 8 Tryd.underlying119 HI.out.1 HI.out.2.1 HI.out.2.2.1 HI.out.2.2.2 rfl (by decide) v3 2 [.int .u64 (k / 4294967296 * 4294967296), .int .u64 (k / 65536 * 65536)] (by rfl) (by exact own_ext HO3.out EXX) _ 1 1 [.int .u64 (k)] (by rfl) (by rfl) (one_new (by simp [go_sem])) (by simp [Value.oneCell']) (by decide) (by decide) (by simp [go_sem]; try omega) ?_; intro v4 w4 hown4 hgrow4 _ _; have he4 := ext_grown (U := w) EXX hgrow4 (by intro k hk; exact (own_block HO3.out hk).1); have HO4 := Lib.hid hown4; clear hown4 hgrow4; obtain ⟨ob4, nb4, rfl⟩ := he4)))
      go_ret
      exact ⟨v3, rfl, Lib.hid (by have h := HO3.out; simpa using h), EXY⟩
    · rw [line_three hw h1 h2]
      have g2 : (k % 65536 == 0) = false := by simpa using h2
      clear h1 h2 h' hb hw
      go_enter Tryd.func89, Tryd.ntmps89
      go_wp2_with (go_at_call 91; (with_reducible refine (pnames_any k HK.out _).mono ?_); rintro e w1 ⟨rfl, os1, n1, rfl⟩)
      refine wp_loop_rounds 4 ?_
      repeat (rw [rounds_succ]; go_wp2_with (first | (at_builtin; refine wpList_append_own_at _ rfl _ _ 119 rfl w.heap.size 22 ti _ 1 8 Tryd.underlying119 HI.out.1 HI.out.2.1 HI.out.2.2.1 HI.out.2.2.2 rfl (by decide) (.slice none 0 0) 0 [] (by rfl) (World.ownsRow_nil _ _ _ _) _ 1 1 [.int .u64 (k / 4294967296 * 4294967296)] (by rfl) (by rfl) (one_new (by simp [go_sem])) (by simp [Value.oneCell']) (by decide) (by decide) (by simp [go_sem]; try omega) ?_; intro v2 w2 hown2 hgrow2 _ _; have he2 := ext_grown (U := w) EXX hgrow2 (by intro k hk; cases hk); have HO2 := Lib.hid hown2; clear hown2 hgrow2; obtain ⟨ob2, nb2, rfl⟩ := he2) | (at_builtin; refine wpList_append_own_at _ rfl _ _ 119 rfl w.heap.size 22 ti _ 1 8 Tryd.underlying119 HI.out.1 HI.out.2.1 HI.out.2.2.1 HI.out.2.2.2 rfl (by decide) v2 1 [.int .u64 (k / 4294967296 * 4294967296)] (by rfl) (by exact own_ext HO2.out EXX) _ 1 1 [.int .u64 (k / 65536 * 65536)] (by rfl) (by rfl) (one_new (by simp [go_sem])) (by simp [Value.oneCell']) (by decide) (by decide) (by simp [go_sem]; try omega) ?_; intro v3 w3 hown3 hgrow3 _ _; have he3 := ext_grown (U := w) EXX hgrow3 (by intro k hk; exact (own_block HO2.out hk).1); have HO3 := Lib.hid hown3; clear hown3 hgrow3; obtain ⟨ob3, nb3, rfl⟩ := he3) | (at_builtin; refine wpList_append_own_at _ rfl _ _ 119 rfl w.heap.size 22 ti _ 1 8 Tryd.underlying119 HI.out.1 HI.out.2.1 HI.out.2.2.1 HI.out.2.2.2 rfl (by decide) v3 2 [.int .u64 (k / 4294967296 * 4294967296), .int .u64 (k / 65536 * 65536)] (by rfl) (by exact own_ext HO3.out EXX) _ 1 1 [.int .u64 (k)] (by rfl) (by rfl) (one_new (by simp [go_sem])) (by simp [Value.oneCell']) (by decide) (by decide) (by simp [go_sem]; try omega) ?_; intro v4 w4 hown4 hgrow4 _ _; have he4 := ext_grown (U := w) EXX hgrow4 (by intro k hk; exact (own_block HO3.out hk).1); have HO4 := Lib.hid hown4; clear hown4 hgrow4; obtain ⟨ob4, nb4, rfl⟩ := he4)))
      go_ret
      exact ⟨v4, rfl, Lib.hid (by have h := HO4.out; simpa using h), EXY⟩
theorem line_any (k : Int) (hw : wholeK k = true) (w : World) : Calls Tryd.prog 89 #[.int .u64 k] w fun e w' => ∃ r, e = .returned r ∧ Hid (Sl w' r (lineK k).length ((lineK k).map fun p => .int .u64 p)) ∧ Ext w w' :=
  (line_own k hw w).mono fun _ _ ⟨r, h1, h2, h3⟩ => ⟨r, h1, Lib.hid (own_sl h2.out), h3⟩
end Go.Proofs.YtknfikdignpniaaDoor.paths
/- What is lacking of a path: a map of keys, as a list of them. -/
namespace Go.Proofs.YtknfikdignpniaaDoor.paths
open Go Go.RowKit
set_option maxRecDepth 100000
set_option maxHeartbeats 8000000

theorem law_u64 : Maps.Keyed Tryd.prog 22 := Maps.int_keyed Tryd.underlying22
theorem zero_int (w : World) : (zeroValue 3).run Tryd.prog w = .ok (.int .i64 0) w := by kernel_rfl
theorem key_u64 {q : Int} (h : 0 ≤ q ∧ q ≤ 18446744073709551615) : keyOf Tryd.prog 22 (.int .u64 q) = some (.int .u64 q) := Maps.keyOf_int_mk Tryd.underlying22 (WalkArith.wf_u64 h)
/-- Block b is a map whose keys are just those of a list, none twice. -/
def Lack (w : World) (b n : Nat) (S : List Int) : Prop := ∃ D : DataW Unit, w.ownsMap Tryd.prog 22 (plainElem Tryd.prog 3) b n D ∧ (∀ q, Maps.has D (.int .u64 q) = decide (q ∈ S)) ∧ Maps.size D = S.length ∧ S.Nodup
theorem Lack.made (w : World) : Lack (w.alloc (.map #[] 0)) w.heap.size 0 [] := ⟨.map [], World.ownsMap_made _ _ _ _, fun _ => rfl, rfl, List.nodup_nil⟩
theorem Lack.lt {w : World} {b n : Nat} {S : List Int} (h : Lack w b n S) : b < w.heap.size := by
  obtain ⟨D, h1, _⟩ := h
  exact h1.lt
theorem Lack.ext {w w' : World} {b n : Nat} {S : List Int} (h : Lack w b n S) (e : Ext w w') : Lack w' b n S := by
  obtain ⟨D, ⟨es, clock, hb, r⟩, h2⟩ := h
  exact ⟨D, ⟨es, clock, by rw [ext_heap e (Array.getElem?_eq_some_iff.1 hb).1]; exact hb, r⟩, h2⟩
theorem lit_ne {a b : Int} (h : ¬ a = b) : (Lit.int .u64 a) ≠ .int .u64 b := fun e => h (by cases e; rfl)
theorem lack_put {w' : World} {b n : Nat} {S : List Int} {D : DataW Unit} {q : Int} {d : DataW Unit} (h0 : ∀ q, Maps.has D (.int .u64 q) = decide (q ∈ S)) (h1 : Maps.size D = S.length) (hnd : S.Nodup) (ht : Maps.Tidy D) (hq : ¬ q ∈ S)
    (h : w'.ownsMap Tryd.prog 22 (plainElem Tryd.prog 3) b (n + 1) (D.put (.int .u64 q) d)) : Lack w' b (n + 1) (S ++ [q]) := by
  refine ⟨_, h, fun j => ?_, ?_, ?_⟩
  · by_cases e : j = q
    · subst e
      rw [Maps.has_put_same ht.isMap (by trivial)]
      simp
    · rw [Maps.has_put_other (lit_ne e), h0]
      simp [e]
  · rw [Maps.size_put ht, h0, decide_eq_false hq, h1]
    simp
  · rw [List.nodup_append]
    refine ⟨hnd, by simp, fun x hx y hy => ?_⟩
    simp at hy
    subst hy
    exact fun e => hq (e ▸ hx)
theorem filter_ne_len {S : List Int} (h : S.Nodup) (q : Int) : (S.filter fun j => !(j == q)).length + (if q ∈ S then 1 else 0) = S.length := by
  induction S with
  | nil => rfl
  | cons x S ih =>
    obtain ⟨h1, h2⟩ := List.nodup_cons.1 h
    have h3 := ih h2
    rw [List.filter_cons]
    by_cases e : x = q
    · subst e
      simp [h1] at h3 ⊢
      omega
    · have e' : ¬ q = x := fun e2 => e e2.symm
      simp [e, e'] at h3 ⊢
      omega
theorem lack_del {w' : World} {b n : Nat} {S : List Int} {D : DataW Unit} {q : Int} (h0 : ∀ q, Maps.has D (.int .u64 q) = decide (q ∈ S)) (h1 : Maps.size D = S.length) (hnd : S.Nodup) (ht : Maps.Tidy D)
    (h : w'.ownsMap Tryd.prog 22 (plainElem Tryd.prog 3) b n (D.del (.int .u64 q))) : Lack w' b n (S.filter fun j => !(j == q)) := by
  refine ⟨_, h, fun j => ?_, ?_, hnd.filter _⟩
  · by_cases e : j = q
    · subst e
      rw [Maps.has_del_same]
      simp
    · rw [Maps.has_del_other (lit_ne e), h0]
      simp [List.mem_filter, e]
  · have h2 := Maps.size_del (k := .int .u64 q) ht
    have h3 := filter_ne_len hnd q
    rw [h0, h1] at h2
    by_cases e : q ∈ S
    · rw [if_pos (by simpa using e)] at h2
      rw [if_pos e] at h3
      omega
    · rw [if_neg (by simpa using e)] at h2
      rw [if_neg e] at h3
      omega
/-- The path's keys that no row has. -/
def lackL (L : List Rw) (ps : List Int) : List Int := ps.filter fun p => !(look L p).isSome
theorem lack_step (L : List Rw) (ps : List Int) (x : Rw) : (lackL L ps).filter (fun j => !(j == x.k)) = lackL (L ++ [x]) ps := by
  unfold lackL
  rw [List.filter_filter]
  refine List.filter_congr fun p _ => ?_
  have e : (look (L ++ [x]) p).isSome = ((look L p).isSome || x.k == p) := by
    unfold look
    rw [List.find?_append]
    cases List.find? (fun y => y.k == p) L with
    | some y => rfl
    | none =>
      simp only [Option.none_or, List.find?_cons, List.find?_nil]
      cases (x.k == p) <;> rfl
  rw [e]
  have e2 : (p == x.k) = (x.k == p) := by rw [Bool.eq_iff_iff]; simp only [beq_iff_eq]; exact eq_comm
  rw [e2]
  cases (look L p).isSome <;> cases (x.k == p) <;> rfl
theorem lackL_nil (ps : List Int) : lackL [] ps = ps := by
  unfold lackL
  exact List.filter_eq_self.2 fun p _ => rfl
theorem lackL_len (L : List Rw) (k : Int) (hr : Rises L) (hk : wholeK k = true) : (madeK k L).length = L.length + (lackL L (lineK k)).length := len_fold hr (line_nodup hk)
theorem lackL_pos (L : List Rw) (k : Int) : decide (0 < ((lackL L (lineK k)).length : Int)) = lackB L k := by
  unfold lackL lackB
  rw [Bool.eq_iff_iff, List.any_eq_true, decide_eq_true_eq]
  constructor
  · intro h
    obtain ⟨p, hp⟩ := List.exists_mem_of_length_pos (l := (lineK k).filter fun p => !(look L p).isSome) (by omega)
    rw [List.mem_filter] at hp
    exact ⟨p, hp.1, hp.2⟩
  · rintro ⟨p, h1, h2⟩
    have := List.length_pos_of_mem (a := p) (l := (lineK k).filter fun p => !(look L p).isSome) (List.mem_filter.2 ⟨h1, h2⟩)
    omega
end Go.Proofs.YtknfikdignpniaaDoor.paths
/- The walks of the layer 'paths': 'missing'. -/
namespace Go.Proofs.YtknfikdignpniaaDoor.paths
open Go Go.RowKit
set_option maxRecDepth 100000
set_option maxHeartbeats 8000000

theorem take_not_mem {ps : List Int} (h : ps.Nodup) {k : Nat} (hk : k < ps.length) : ¬ ps[k] ∈ ps.take k := by
  intro hm
  obtain ⟨i, hi, e⟩ := List.mem_iff_getElem.1 hm
  rw [List.getElem_take] at e
  have hi' : i < k := by have := List.length_take_le k ps; rw [List.length_take] at hi; omega
  have := (List.nodup_iff_pairwise_ne.1 h)
  exact (List.pairwise_iff_getElem.1 this i k (by omega) hk hi') e
theorem missing_any (v u : Value) (L : List Rw) (ps : List Int) (hf : RwsFit L) (hps : ∀ p ∈ ps, 0 ≤ p ∧ p ≤ 18446744073709551615) (hnd : ps.Nodup) (hn : ps.length ≤ 1000) (w : World) (hv : Rws w v L) (hu : Sl w u ps.length (ps.map fun p => .int .u64 p)) :
    Calls Tryd.prog 88 #[v, u] w fun e w' => ∃ b n, e = .returned (.map (some b)) ∧ Hid (w.heap.size ≤ b ∧ Lack w' b n (lackL L ps)) ∧ Ext w w' := by
  obtain ⟨ad, cap, rfl, hs, hs2⟩ := hv
  obtain ⟨ad2, cap2, rfl, hs3⟩ := hu
  have hm := hs.len
  have HV := Lib.hid hs
  have HU := Lib.hid hs3
  have HPS := Lib.hid hps
  have HN0 := Lib.hid hnd
  have HF := Lib.hid hf
  have hmm := @run_makeMap Tryd.prog
  clear hs hs2 hs3 hps hnd hf
  go_enter Tryd.func88, Tryd.ntmps88
  go_wp2
  go_loopw [13] (fun i wr => ∃ k : Nat, k ≤ ps.length ∧ i = .int .i64 k ∧ Hid (Lack wr w.heap.size k (ps.take k)) ∧ Hid (Ext w wr)) (fun i _ => ps.length - (intOf i).toNat)
  case atStart => exact ⟨0, Nat.zero_le _, rfl, Lib.hid (by have := Lack.made w; simpa using this), Lib.hid EX⟩
  case round =>
    obtain ⟨k, hk, rfl, HL, HE⟩ := hrel
    by_cases hlt : k < ps.length
    · obtain ⟨b, o, rfl, hc⟩ := (HU.out.ext HE.out).pos (by omega)
      obtain ⟨q, hq⟩ : ∃ q, ps[k] = q := ⟨_, rfl⟩
      have c0 : wr.cell? ⟨b, o + k, none⟩ = some (.int .u64 q) := hc k _ (by simp [hlt, hq])
      have HQ : Hid (0 ≤ q ∧ q ≤ 18446744073709551615) := Lib.hid (HPS.out q (by rw [← hq]; exact List.getElem_mem _))
      obtain ⟨D, hown, h0, h1, hnd2⟩ := HL.out
      have HOW := Lib.hid hown
      have HH := Lib.hid h0
      have HZ := Lib.hid h1
      have HND := Lib.hid hnd2
      have HTD := Lib.hid (hown.tidy law_u64)
      have HNI : Hid (¬ q ∈ ps.take k) := Lib.hid (by
        rw [← hq]
        exact take_not_mem HN0.out hlt)
      have HTK : Hid (ps.take k ++ [q] = ps.take (k + 1)) := Lib.hid (by rw [← hq]; exact List.take_append_getElem hlt)
      have i1 : (k : Int) < (ps.length : Int) := by omega
      have i2 : (0 : Int) ≤ (k : Int) := by omega
      have hE := HE.out
      clear hc hq hown h0 h1 hnd2 HL
      go_wp2_with (at_mapUpdate; refine wpList_mapUpdate_own _ rfl _ _ _ 117 rfl 22 3 law_u64 Tryd.underlying117 _ w.heap.size k _ rfl HOW.out (by unfold maxLen; omega) _ _ _ rfl rfl (key_u64 HQ.out) _ [] (plainElem_int Tryd.underlying3 (WalkArith.wf_i64 (by omega))) ?_; intro w1 hown1 hgrow1; have he1 := ext_grown (U := w) EXX hgrow1 (by intro k hk; cases hk; exact Nat.le_refl _); have HL1 := Lib.hid (lack_put HH.out HZ.out HND.out HTD.out HNI.out hown1); have HE1 := Lib.hid he1; clear hown1 hgrow1 he1)
      go_roundw
      case rel => exact ⟨k + 1, by omega, by go_num, Lib.hid (by rw [← HTK.out]; exact HL1.out), HE1⟩
      case measure => simp [intOf]; omega
    · obtain rfl : k = ps.length := by omega
      have HL0 : Hid (Lack wr w.heap.size ps.length (lackL (L.take 0) ps)) := Lib.hid (by
        have h := HL.out
        rw [List.take_length] at h
        rw [List.take_zero, lackL_nil]
        exact h)
      have hE := HE.out
      clear HL
      go_wp2
      go_loopw [24] (fun i wr => ∃ k : Nat, k ≤ L.length ∧ i = .int .i64 k ∧ Hid (Lack wr w.heap.size ps.length (lackL (L.take k) ps)) ∧ Hid (Ext w wr)) (fun i _ => L.length - (intOf i).toNat)
      case atStart => exact ⟨0, Nat.zero_le _, rfl, HL0, HE⟩
      case round =>
        obtain ⟨k, hk, rfl, HL, HE⟩ := hrel
        by_cases hlt : k < L.length
        · obtain ⟨b, o, rfl, hbl, r1, r2⟩ := (HV.out.ext HE.out).rw hlt
          obtain ⟨x, hx⟩ : ∃ x, L.getD k zrw = x := ⟨_, rfl⟩
          rw [hx] at r1 r2
          have HQ : Hid (0 ≤ x.k ∧ x.k ≤ 18446744073709551615) := Lib.hid (by rw [← hx]; exact (HF.out.get k).k)
          obtain ⟨S, hS⟩ : ∃ S, lackL (L.take k) ps = S := ⟨_, rfl⟩
          have HTK : Hid (S.filter (fun j => !(j == x.k)) = lackL (L.take (k + 1)) ps) := Lib.hid (by
            rw [← hS, lack_step, ← hx, getD_rw L k hlt, List.take_append_getElem hlt])
          rw [hS] at HL
          obtain ⟨D, hown, h0, h1, hnd2⟩ := HL.out
          have HOW := Lib.hid hown
          have HH := Lib.hid h0
          have HZ := Lib.hid h1
          have HND := Lib.hid hnd2
          have HTD := Lib.hid (hown.tidy law_u64)
          have i1 : (k : Int) < (L.length : Int) := by omega
          have i2 : (0 : Int) ≤ (k : Int) := by omega
          have hE := HE.out
          clear hx hS hown h0 h1 hnd2 HL
          go_wp2_with (at_delete; refine wpList_delete_own _ rfl _ _ 117 22 rfl 3 law_u64 Tryd.underlying117 _ w.heap.size ps.length _ rfl (HOW.out.alloc _) _ _ rfl (key_u64 HQ.out) ?_; intro w1 hown1 hturn1; have he1 := ext_grown (U := w) EXX hturn1.grown (by intro k hk; cases hk; exact Nat.le_refl _); have HL1 := Lib.hid (lack_del HH.out HZ.out HND.out HTD.out hown1); have HE1 := Lib.hid he1; clear hown1 hturn1 he1)
          go_roundw
          case rel => exact ⟨k + 1, by omega, by go_num, Lib.hid (by rw [← HTK.out]; exact HL1.out), HE1⟩
          case measure => simp [intOf]; omega
        · obtain rfl : k = L.length := by omega
          have hE := HE.out
          go_wp2
          go_ret
          exact ⟨w.heap.size, ps.length, rfl, Lib.hid ⟨Nat.le_refl _, by have h := HL.out; rw [List.take_length] at h; exact h⟩, hE⟩
theorem lack_grew {W : World} {os : Array Obj} {d : Nat} {b n : Nat} {S : List Int} (h : Lack (grew W os d) b n S) (d' : Nat) : Lack (grew W os d') b n S := by
  obtain ⟨D, ⟨es, clock, hb, r⟩, h2⟩ := h
  exact ⟨D, ⟨es, clock, hb, r⟩, h2⟩
end Go.Proofs.YtknfikdignpniaaDoor.paths
/- Plain: where the search stands; rows of the call's own, and other blocks. -/
namespace Go.Proofs.YtknfikdignpniaaDoor.paths
open Go Go.RowKit
set_option maxRecDepth 100000
set_option maxHeartbeats 8000000

theorem bin_pos {L : List Rw} {q : Int} {i : Nat} (h : At L q i) : findP (fun x => decide (q ≤ x.k)) L = if i < L.length then (i : Int) else -1 := by
  by_cases hi : i < L.length
  · rw [if_pos hi]
    exact findP_hit hi (by simpa using h.hi i (Nat.le_refl _) hi) fun j hj => by
      have := h.lo j hj
      simp only [decide_eq_false_iff_not]
      omega
  · rw [if_neg hi]
    exact findP_miss fun j hj => by
      have := h.lo j (by omega)
      simp only [decide_eq_false_iff_not]
      omega
/-- A key that is there: where the search stands. -/
theorem bin_some {L : List Rw} {q u : Int} {i : Nat} (hr : Rises L) (h : At L q i) (hl : look L q = some u) : i < L.length ∧ L.getD i zrw = ⟨q, u⟩ ∧ (∀ z, withK q z L = L.set i ⟨q, z⟩) ∧ withoutK q L = L.take i ++ L.drop (i + 1) := by
  obtain ⟨j, h1, h2, h3, h4, h5⟩ := pos_some hr hl
  rw [bin_pos h] at h2
  split at h2
  · obtain rfl : i = j := by omega
    exact ⟨h1, h3, h4, h5⟩
  · omega
/-- A key that is not there: where its row would stand. -/
theorem bin_none {L : List Rw} {q : Int} {i : Nat} (hr : Rises L) (h : At L q i) (hl : look L q = none) : i ≤ L.length ∧ (i < L.length → ¬ (L.getD i zrw).k = q) ∧ (∀ z, withK q z L = L.take i ++ ⟨q, z⟩ :: L.drop i) := by
  obtain ⟨j, h1, h2, h3, h4⟩ := pos_none hr hl
  rw [bin_pos h] at h2
  have hi := h.le
  have e : i = j := by
    by_cases g1 : i < L.length
    · by_cases g2 : j < L.length
      · rw [if_pos g1, if_pos g2] at h2
        omega
      · rw [if_pos g1, if_neg g2] at h2
        omega
    · by_cases g2 : j < L.length
      · rw [if_neg g1, if_pos g2] at h2
        omega
      · omega
  subst e
  exact ⟨h1, h3, h4⟩
theorem bin_is {L : List Rw} {q : Int} {i : Nat} (hr : Rises L) (h : At L q i) : (decide (i < L.length) && decide ((L.getD i zrw).k = q)) = (look L q).isSome := by
  cases hl : look L q with
  | some u =>
    obtain ⟨h1, h2, _⟩ := bin_some hr h hl
    rw [h2]
    simp [h1]
  | none =>
    obtain ⟨_, h2, _⟩ := bin_none hr h hl
    by_cases hi : i < L.length
    · rw [decide_eq_false (h2 hi)]
      simp
    · simp [hi]
theorem at_ex {L : List Rw} (hr : Rises L) (q : Int) : ∃ i, At L q i := by
  obtain ⟨i, h1, h2, h3, _⟩ := findP_pos q hr
  exact ⟨i, h1, h2, h3⟩
theorem at_uniq {L : List Rw} {q : Int} {i j : Nat} (h1 : At L q i) (h2 : At L q j) : i = j := by
  by_cases h : i < j
  · have a := h2.lo i h
    have b := h1.hi i (Nat.le_refl _) (by have := h2.le; omega)
    omega
  · by_cases h' : j < i
    · have a := h1.lo j h'
      have b := h2.hi j (Nat.le_refl _) (by have := h1.le; omega)
      omega
    · omega
theorem tfind_as (v : Value) (L : List Rw) (q : Int) (hr : Rises L) (hn : L.length ≤ 1000000) (w : World) (hv : Sl w v L.length (rwCells L)) (i : Nat) (hi : At L q i) (b : Bool) (hb : (look L q).isSome = b) :
    Calls Tryd.prog 86 #[v, .int .u64 q] w fun e w' => e = .returned (.tuple #[.int .i64 i, .bool b]) ∧ Ext w w' := by
  refine (tfind_any v L q hr hn w hv).mono fun e w' h => ?_
  obtain ⟨⟨j, rfl, hj⟩, h2⟩ := h
  obtain rfl := at_uniq hj hi
  exact ⟨by rw [bin_is hr hj, hb], h2⟩
abbrev resV (code word : Int) : Value := .agg #[.int .i64 code, .int .u32 word, .slice none 0 0]
/-- A row of the call's own lies in no block of another kind. -/
theorem own_not {w : World} {base : Nat} {e : TypeId} {size n : Nat} {v : Value} {xs : List Value} (h : w.ownsRow base e size v n xs) {k : Nat} {o : Obj} (hk : w.heap[k]? = some o) (hne : ∀ cur fr, o ≠ .cells cur e fr) : ∀ g, v.ownBlock = some g → g ≠ k := by
  intro g hg e'
  subst e'
  obtain ⟨_, h2⟩ := h
  rcases h2 with ⟨rfl, _⟩ | ⟨g2, cap, cur, rfl, _, hc, _⟩
  · cases hg
  · cases hg
    rw [hk] at hc
    exact hne _ _ (Option.some.inj hc)
theorem grown_at {w w' : World} {r : Option Nat} (h : w.grownBy w' r) {k : Nat} {o : Obj} (hk : w.heap[k]? = some o) (hne : ∀ g, r = some g → g ≠ k) : w'.heap[k]? = some o := by
  rw [h.block k (Array.getElem?_eq_some_iff.1 hk).1 (fun e => hne k e.symm rfl)]
  exact hk
theorem own_grown {w w' : World} {r : Option Nat} (h : w.grownBy w' r) {base : Nat} {e : TypeId} {size n : Nat} {v : Value} {xs : List Value} (ho : w.ownsRow base e size v n xs) (hne : ∀ g, r = some g → v.ownBlock ≠ some g) : w'.ownsRow base e size v n xs := by
  obtain ⟨h1, h2⟩ := ho
  refine ⟨h1, ?_⟩
  rcases h2 with h2 | ⟨g, cap, cur, rfl, hg, hc, h3⟩
  · exact Or.inl h2
  · exact Or.inr ⟨g, cap, cur, rfl, hg, grown_at h hc (fun g' hg' e' => hne g' hg' (by rw [e']; rfl)), h3⟩
theorem Lack.grown {w w' : World} {r : Option Nat} (h : w.grownBy w' r) {b n : Nat} {S : List Int} (hl : Lack w b n S) (hne : ∀ g, r = some g → g ≠ b) : Lack w' b n S := by
  obtain ⟨D, ⟨es, clock, hb, r⟩, h2⟩ := hl
  exact ⟨D, ⟨es, clock, grown_at h hb hne, r⟩, h2⟩
theorem Lack.obj {w : World} {b n : Nat} {S : List Int} (hl : Lack w b n S) : ∃ es clock, w.heap[b]? = some (.map es clock) := by
  obtain ⟨D, ⟨es, clock, hb, _⟩, _⟩ := hl
  exact ⟨es, clock, hb⟩
theorem own_ne {w : World} {base base' : Nat} {e e' : TypeId} {size size' n n' : Nat} {v v' : Value} {xs xs' : List Value} (h : w.ownsRow base e size v n xs) (h' : w.ownsRow base' e' size' v' n' xs') (hee : e ≠ e') : ∀ g, v.ownBlock = some g → v'.ownBlock ≠ some g := by
  intro g hg hg'
  obtain ⟨_, h2⟩ := h'
  rcases h2 with ⟨rfl, _⟩ | ⟨g2, cap, cur, rfl, _, hc, _⟩
  · cases hg'
  · obtain rfl : g2 = g := by injection hg'
    exact own_not h hc (fun cur' fr e2 => hee (by cases e2; rfl)) g2 hg rfl
theorem fold_take {ps : List Int} {L : List Rw} {k : Nat} (hk : k < ps.length) : (ps.take (k + 1)).foldl ins0 L = ins0 ((ps.take k).foldl ins0 L) ps[k] := by
  rw [← List.take_append_getElem hk, List.foldl_append]
  rfl
theorem fold_len_le {ps : List Int} : ∀ {L : List Rw}, (ps.foldl ins0 L).length ≤ L.length + ps.length := by
  induction ps with
  | nil => intro L; simp
  | cons p ps ih =>
    intro L
    have h := ih (L := ins0 L p)
    rw [List.foldl_cons]
    have h2 := len_ins0 L p
    rw [List.length_cons]
    split at h2 <;> omega
end Go.Proofs.YtknfikdignpniaaDoor.paths
/- Plain: what the laws of a tree by paths need; no program in sight. -/
namespace Go.Proofs.YtknfikdignpniaaDoor.paths
open Go Go.RowKit
set_option maxRecDepth 100000
set_option maxHeartbeats 8000000

theorem path_err {c : Cfg} {L : List Rw} {o : Opn} {M : List Rw} {dc dw de : Int} (h : pathDo c L o = ⟨M, dc, dw, de⟩) (he : ¬ de = 0) : M = [] ∧ dc = 0 ∧ pathIs c L = false := by
  cases h1 : (partOk c && (c.object == 4))
  · rw [pathDo_conf L o h1] at h
    cases h
    exact ⟨rfl, rfl, by simp [pathIs, h1]⟩
  · cases h2 : pathIs c L
    · rw [pathDo_arg o h1 h2] at h
      cases h
      exact ⟨rfl, rfl, rfl⟩
    · exfalso
      cases h3 : (opErr c o == 0)
      · rw [pathDo_bad h1 h2 h3] at h
        cases h
        exact he rfl
      · rw [pathDo_ok h1 h2 h3] at h
        unfold pathDone at h
        split at h
        · split at h <;> (cases h; exact he rfl)
        · split at h
          · cases h; exact he rfl
          · split at h
            · split at h <;> (cases h; exact he rfl)
            · split at h <;> (cases h; exact he rfl)
/-- What kinds of operations a tree has. -/
theorem path_kind {c : Cfg} {o : Opn} (hc : c.object = 4) (h : (opErr c o == 0) = true) : partOk c = true ∧ (o.kind = 12 ∨ o.kind = 13 ∨ o.kind = 14) ∧ fitsB c o = true := by
  have h' : opErr c o = 0 := by simpa using h
  unfold opErr at h'
  split at h'
  · rename_i hp
    split at h'
    · rename_i hk
      split at h'
      · rename_i hf
        refine ⟨hp, ?_, hf⟩
        have hk' : objOf o.kind = c.object := by simpa using hk
        rw [hc] at hk'
        unfold objOf at hk'
        split at hk' <;> (try split at hk') <;> (try split at hk') <;> (try split at hk') <;> (try split at hk') <;> omega
      · omega
    · omega
  · omega
/-- What an operation's numbers are. -/
theorem path_fits {c : Cfg} {o : Opn} (ho : o.Fits) (h : fitsB c o = true) (k : o.kind = 12 ∨ o.kind = 13 ∨ o.kind = 14) : pathB o.a o.b = true ∧ o.b ≤ 65535 ∧ (o.kind = 12 → o.c ≤ 2147483647) ∧ (¬ o.kind = 12 → o.c = 0) ∧ wholeK (pathKey o) = true := by
  have ha := ho.a
  have hb := ho.b
  have hp : pathB o.a o.b = true ∧ (o.kind = 12 → o.c ≤ 2147483647) ∧ (¬ o.kind = 12 → o.c = 0) := by
    rcases k with k | k | k
    · simp [fitsB, k] at h
      exact ⟨h.2, fun _ => h.1, fun e => absurd k e⟩
    · simp [fitsB, k] at h
      exact ⟨h.2, fun e => by omega, fun _ => h.1⟩
    · simp [fitsB, k] at h
      exact ⟨h.2, fun e => by omega, fun _ => h.1⟩
  refine ⟨hp.1, ?_, hp.2.1, hp.2.2, ?_⟩
  · have h1 := hp.1
    simp only [pathB, Bool.and_eq_true, decide_eq_true_eq] at h1
    exact h1.2
  · have h1 := hp.1
    simp only [pathB, Bool.and_eq_true, decide_eq_true_eq, Bool.or_eq_true, Bool.not_eq_true', beq_eq_false_iff_ne, ne_eq, beq_iff_eq] at h1
    obtain ⟨⟨h2, h3⟩, h4⟩ := h1
    rw [whole_iff]
    unfold pathKey
    refine ⟨by omega, by omega, fun h5 => ?_⟩
    rcases h3 with h3 | h3
    · omega
    · omega
/-- What an answer without an error is. -/
theorem path_ways {c : Cfg} {L : List Rw} {o : Opn} {M : List Rw} {dc dw : Int} (hf : RwsFit L) (h : pathDo c L o = ⟨M, dc, dw, 0⟩) :
    pathIs c L = true ∧ ((opErr c o ≠ 0 ∧ M = L ∧ dc = opErr c o ∧ dw = 0) ∨ (opErr c o = 0 ∧ (o.kind = 12 ∨ o.kind = 13 ∨ o.kind = 14) ∧ fitsB c o = true ∧ pathDone c L o = ⟨M, dc, dw, 0⟩)) := by
  cases h1 : (partOk c && (c.object == 4))
  · rw [pathDo_conf L o h1] at h
    cases h
  · cases h2 : pathIs c L
    · rw [pathDo_arg o h1 h2] at h
      cases h
    · refine ⟨rfl, ?_⟩
      cases h3 : (opErr c o == 0)
      · rw [pathDo_bad h1 h2 h3] at h
        have h3' : ¬ opErr c o = 0 := by simpa using h3
        cases h
        exact Or.inl ⟨h3', rfl, rfl, rfl⟩
      · rw [pathDo_ok h1 h2 h3] at h
        obtain ⟨_, hc, _⟩ := pathIs_ok hf h2
        obtain ⟨_, hk, hft⟩ := path_kind hc h3
        exact Or.inr ⟨by simpa using h3, hk, hft, h⟩
theorem rises_made {k : Int} {L : List Rw} (h : Rises L) : Rises (madeK k L) := rises_fold h
theorem set_look {k v : Int} {L : List Rw} (h : Rises L) (j : Int) : look (withK k v (madeK k L)) j = if k = j then some v else if j ∈ lineK k then some ((look L j).getD 0) else look L j := by
  rw [look_withK k v (rises_made h)]
  split
  · rfl
  · unfold madeK
    rw [look_fold h]
theorem set_len {k v : Int} {L : List Rw} (h : Rises L) : (withK k v (madeK k L)).length = (madeK k L).length := withK_len_some k v (rises_fold h) (look_made h)
theorem made_len {k : Int} {L : List Rw} (h : Rises L) (hk : wholeK k = true) : L.length ≤ (madeK k L).length ∧ (madeK k L).length ≤ L.length + 3 := by
  unfold madeK
  rw [len_fold h (line_nodup hk)]
  have h1 := List.length_filter_le (fun p => !(look L p).isSome) (lineK k)
  have h2 := (line_len (k := k)).2
  omega
theorem node_ok_of {M : List Rw} (hr : Rises M) (h : ∀ j v, look M j = some v → wholeK j = true ∧ (0 ≤ v ∧ v ≤ 2147483648) ∧ (parK j = 0 ∨ (look M (parK j)).isSome = true)) : ∀ x ∈ M, NodeOk M x := fun x hx => h x.k x.v (look_of_mem hr hx)
theorem of_node_ok {M : List Rw} (h : ∀ x ∈ M, NodeOk M x) {j v : Int} (hl : look M j = some v) : wholeK j = true ∧ (0 ≤ v ∧ v ≤ 2147483648) ∧ (parK j = 0 ∨ (look M (parK j)).isSome = true) := h _ (look_mem hl)
theorem nodes_set {k v : Int} {L : List Rw} (hr : Rises L) (hn : ∀ x ∈ L, NodeOk L x) (hk : wholeK k = true) (hv : 0 ≤ v ∧ v ≤ 2147483648) : ∀ x ∈ withK k v (madeK k L), NodeOk (withK k v (madeK k L)) x := by
  have hr2 : Rises (withK k v (madeK k L)) := rises_withK _ _ (rises_fold hr)
  have hl := set_look (k := k) (v := v) hr
  have hin : ∀ j, j ∈ lineK k → (look (withK k v (madeK k L)) j).isSome = true := fun j hj => by
    rw [hl]
    simp only [hj, if_true]
    split <;> rfl
  have hup : ∀ j, (look L j).isSome = true → (look (withK k v (madeK k L)) j).isSome = true := fun j hj => by
    rw [hl]
    split
    · rfl
    · split
      · rfl
      · exact hj
  have hline : ∀ j, j ∈ lineK k → wholeK j = true ∧ (parK j = 0 ∨ (look (withK k v (madeK k L)) (parK j)).isSome = true) := fun j hj => by
    refine ⟨line_whole hk hj, ?_⟩
    by_cases h0 : parK j = 0
    · exact Or.inl h0
    · exact Or.inr (hin _ (line_sub hk hj _ (line_mem.2 (Or.inr ⟨h0, Or.inl rfl⟩))))
  refine node_ok_of hr2 fun j u hu => ?_
  rw [hl] at hu
  split at hu
  · rename_i e
    subst e
    cases hu
    obtain ⟨a, b⟩ := hline k (line_self k)
    exact ⟨a, hv, b⟩
  · split at hu
    · rename_i hm
      obtain ⟨a, b⟩ := hline j hm
      refine ⟨a, ?_, b⟩
      cases hlj : look L j with
      | none => rw [hlj] at hu; cases hu; simp
      | some z =>
        rw [hlj] at hu
        cases hu
        exact (of_node_ok hn hlj).2.1
    · obtain ⟨a, b, d⟩ := of_node_ok hn hu
      exact ⟨a, b, d.imp id (hup _)⟩
theorem nodes_take {k : Int} {L : List Rw} (hn : ∀ x ∈ L, NodeOk L x) (hu : usedB k L = false) : ∀ x ∈ withoutK k L, NodeOk (withoutK k L) x := by
  intro x hx
  have hm := withoutK_sub k L x hx
  obtain ⟨a, b, d⟩ := hn x hm
  refine ⟨a, b, d.imp id fun h => ?_⟩
  rw [look_withoutK]
  have hne : ¬ k = parK x.k := fun e => by
    rw [usedB, Bool.eq_false_iff] at hu
    exact hu (List.any_eq_true.2 ⟨x, hm, by simp [e]⟩)
  rw [if_neg hne]
  exact h
theorem path_is {c : Cfg} {L : List Rw} {o : Opn} {M : List Rw} {dc dw : Int} (hf : RwsFit L) (ho : o.Fits) (h : pathDo c L o = ⟨M, dc, dw, 0⟩) : pathIs c M = true ∧ RwsFit M := by
  obtain ⟨hi, hw⟩ := path_ways hf h
  rcases hw with ⟨_, rfl, _, _⟩ | ⟨_, hk, hft, hd⟩
  · exact ⟨hi, hf⟩
  · obtain ⟨_, _, hc1, _, hwk⟩ := path_fits ho hft hk
    obtain ⟨hp, hob, hlc, hr, hn⟩ := pathIs_ok hf hi
    have hcc := ho.c
    have hbd := whole_bd hwk
    unfold pathDone at hd
    split at hd
    · rename_i h12
      have h12' : o.kind = 12 := by simpa using h12
      have := hc1 h12'
      split at hd
      · cases hd; exact ⟨hi, hf⟩
      · rename_i hcap
        cases hd
        refine ⟨pathIs_mk hp hob (by rw [set_len hr]; omega) (rises_withK _ _ (rises_fold hr)) (nodes_set hr hn hwk (by omega)), fits_withK (fits_made hwk hf) (by omega) (by omega)⟩
    · split at hd
      · cases hd; exact ⟨hi, hf⟩
      · split at hd
        · split at hd <;> (cases hd; exact ⟨hi, hf⟩)
        · split at hd
          · cases hd; exact ⟨hi, hf⟩
          · rename_i hu
            cases hd
            have := withoutK_len (pathKey o) L
            exact ⟨pathIs_mk hp hob (by omega) (rises_withoutK _ hr) (nodes_take hn (by simpa using hu)), fits_withoutK hf⟩
theorem path_len {c : Cfg} {L : List Rw} {o : Opn} {M : List Rw} {dc dw de : Int} (hf : RwsFit L) (ho : o.Fits) (h : pathDo c L o = ⟨M, dc, dw, de⟩) : M.length ≤ L.length + 3 := by
  by_cases he : de = 0
  · subst he
    obtain ⟨hi, hw⟩ := path_ways hf h
    rcases hw with ⟨_, rfl, _, _⟩ | ⟨_, hk, hft, hd⟩
    · omega
    · obtain ⟨_, _, _, _, hwk⟩ := path_fits ho hft hk
      obtain ⟨_, _, _, hr, _⟩ := pathIs_ok hf hi
      unfold pathDone at hd
      split at hd
      · split at hd
        · cases hd; omega
        · cases hd
          rw [set_len hr]
          exact (made_len hr hwk).2
      · split at hd
        · cases hd; omega
        · split at hd
          · split at hd <;> (cases hd; omega)
          · split at hd
            · cases hd; omega
            · cases hd
              have := withoutK_len (pathKey o) L
              omega
  · obtain ⟨rfl, _⟩ := path_err h he
    simp
theorem path_fit {c : Cfg} {L : List Rw} {o : Opn} {M : List Rw} {dc dw de : Int} (hf : RwsFit L) (ho : o.Fits) (h : pathDo c L o = ⟨M, dc, dw, de⟩) : RwsFit M := by
  by_cases he : de = 0
  · subst he; exact (path_is hf ho h).2
  · obtain ⟨rfl, _⟩ := path_err h he
    exact fun x hx => by cases hx
theorem path_same {c : Cfg} {L : List Rw} {o : Opn} {M : List Rw} {dc dw : Int} (hf : RwsFit L) (h : pathDo c L o = ⟨M, dc, dw, 0⟩) (hk : ¬ dc = 0 ∨ o.kind = 14) : M = L := by
  obtain ⟨_, hw⟩ := path_ways hf h
  rcases hw with ⟨_, rfl, _, _⟩ | ⟨_, _, _, hd⟩
  · rfl
  · unfold pathDone at hd
    split at hd
    · rename_i h12
      have h12' : o.kind = 12 := by simpa using h12
      split at hd
      · cases hd; rfl
      · cases hd; omega
    · split at hd
      · cases hd; rfl
      · split at hd
        · split at hd <;> (cases hd; rfl)
        · rename_i h14
          have h14' : ¬ o.kind = 14 := by simpa using h14
          split at hd
          · cases hd; rfl
          · cases hd; omega
end Go.Proofs.YtknfikdignpniaaDoor.paths
/- A region that draws its order and holds calls: one walk in the text's order, where each operation but the calls yields one value in every world of a class, and no other operation may come up beside a call. -/
namespace Go.Proofs.YtknfikdignpniaaDoor
open Go Go.RowKit
set_option maxRecDepth 100000
set_option maxHeartbeats 8000000

/-- The walk in the text's order: an operation yields (or is passed over), or is the one that may come up and is run. -/
def wpLexH (P : Program) (ops : Array Oper) (Q : Exit → Act → World → Prop) (S : World → Prop) : List Oper → Nat → Array Bool → Act → World → Prop
  | [], _, _, a, w => Q .normal a w
  | o :: rest, k, listed, a, w => (∃ v, YieldsIf P ops S o v a ∧ wpLexH P ops Q S rest (k + 1) (listed.setIfInBounds k true) (a.put o.dst v) w) ∨
      (Region.ready .any ops listed = [k] ∧ wpOp P ops Q k (fun a' w' => S w' ∧ wpLexH P ops Q S rest (k + 1) (listed.setIfInBounds k true) a' w') a w)
theorem wpAnyH_lex {P : Program} {ops : Array Oper} {Q : Exit → Act → World → Prop} {S : World → Prop} (hs : Region.noSelect ops = true) (hQ : ∀ c a w (d : Option Tmp) (v : Value), Q (.panic c) (a.put d v) w → Q (.panic c) a w) :
    ∀ (l : List Oper) (k : Nat) (listed : Array Bool) (a : Act) (w : World), (∀ j, l[j]? = ops[k + j]?) → Region.lexFrom .any ops l.length k listed = true → S w → wpLexH P ops Q S l k listed a w → wpAnyH P .any ops Q S l.length listed a w
  | [], _, _, _, _, _, hB, _, h => ⟨by simpa [Region.lexFrom] using hB, h⟩
  | o :: l, k, listed, a, w, hl, hB, hS, h => by
    have h0 : ops[k]? = some o := by simpa using (hl 0).symm
    have hn : ∀ j, l[j]? = ops[k + 1 + j]? := fun j => by have := hl (j + 1); simpa [Nat.add_assoc, Nat.add_comm 1 j] using this
    simp only [List.length_cons, Region.lexFrom, Bool.and_eq_true] at hB
    obtain ⟨⟨hr, hf⟩, hB'⟩ := hB
    rcases h with ⟨v, hy, hK⟩ | ⟨hr1, hrun⟩
    · exact wpAnyH_first h0 (Region.noSelect_spec hs) (fun c a w => hQ c a w _ _) l.length listed a w (Region.free_spec h0 hf) (by simpa using hr) hy hS
        (wpAnyH_lex hs hQ l (k + 1) _ _ w hn hB' hS hK)
    · refine wpAnyH_all hr1 (by simp) fun i hi => ?_
      obtain rfl : i = k := by simpa using hi
      exact wpOp_mono (fun a' w' h' => ⟨h'.1, wpAnyH_lex hs hQ l (i + 1) _ a' w' hn hB' h'.1 h'.2⟩) hrun
theorem wp_region_lexH {P : Program} {id : Nat} {Q : Exit → Act → World → Prop} {a : Act} {W : World} {l : List Oper} (S : World → Prop) (hm : P.follows .mixedOrders = true) (hB : Region.lexB .any l.toArray = true) (hS : S W.drew)
    (h : wpLexH P l.toArray (NoPanic Q) S l 0 (Array.replicate l.length false) a W.drew) : (Code.region id l.toArray true).wp P Q a W := by
  simp only [Region.lexB, Bool.and_eq_true] at hB
  refine wp_region_noPanic (wp_region_held (S := S) hm ?_)
  have h2 := wpAnyH_lex (Q := NoPanic Q) (S := S) hB.1 (fun c a w d v h => h) l 0 (Array.replicate l.toArray.size false) a W.drew (by simp) (by simpa using hB.2) hS (by simpa using h)
  simpa using h2
theorem lexH_take {P : Program} {ops : Array Oper} {Q : Exit → Act → World → Prop} {S : World → Prop} {o : Oper} {rest : List Oper} {k : Nat} {listed : Array Bool} {a : Act} {w : World} (v : Value)
    (hw : Region.wanted o (yielded ops a.tmps) = true) (hy : ∀ w, S w → (execOp a.eval o).run P w = .ok (.value v) w) (h : wpLexH P ops Q S rest (k + 1) (listed.setIfInBounds k true) (a.put o.dst v) w) : wpLexH P ops Q S (o :: rest) k listed a w :=
  Or.inl ⟨v, Or.inl ⟨hw, hy⟩, h⟩
theorem lexH_skip {P : Program} {ops : Array Oper} {Q : Exit → Act → World → Prop} {S : World → Prop} {o : Oper} {rest : List Oper} {k : Nat} {listed : Array Bool} {a : Act} {w : World}
    (hw : Region.wanted o (yielded ops a.tmps) = false) (h : wpLexH P ops Q S rest (k + 1) (listed.setIfInBounds k true) (a.put o.dst undef) w) : wpLexH P ops Q S (o :: rest) k listed a w :=
  Or.inl ⟨undef, Or.inr ⟨hw, rfl⟩, h⟩
theorem lexH_move {P : Program} {ops : Array Oper} {Q : Exit → Act → World → Prop} {S : World → Prop} {o : Oper} {rest : List Oper} {k : Nat} {listed : Array Bool} {a : Act} {w : World} (x : Operand) (ho : o.op = .move x ∨ o.op = .assign x)
    (hw : Region.wanted o (yielded ops a.tmps) = true) (h : wpLexH P ops Q S rest (k + 1) (listed.setIfInBounds k true) (a.put o.dst (a.eval x)) w) : wpLexH P ops Q S (o :: rest) k listed a w :=
  lexH_take _ hw (fun w _ => by unfold execOp; rcases ho with ho | ho <;> (rw [ho]; rfl)) h
theorem lexH_run {P : Program} {ops : Array Oper} {Q : Exit → Act → World → Prop} {S : World → Prop} {o : Oper} {rest : List Oper} {k : Nat} {listed : Array Bool} {a : Act} {w : World}
    (hr : Region.ready .any ops listed = [k]) (hi : ops[k]? = some o) (hw : Region.wanted o (yielded ops a.tmps) = true)
    (h : ∀ K' : Act → World → Prop, Shut (∀ a' w', S w' → wpLexH P ops Q S rest (k + 1) (listed.setIfInBounds k true) a' w' → K' a' w') → Oper.wp P o a w K' Q) : wpLexH P ops Q S (o :: rest) k listed a w := by
  refine Or.inr ⟨hr, ?_⟩
  unfold wpOp
  simp only [hi, hw, if_true]
  exact Or.inl (h _ fun a' w' h1 h2 => ⟨h1, h2⟩)
theorem lexH_nil {P : Program} {ops : Array Oper} {Q : Exit → Act → World → Prop} {S : World → Prop} {k : Nat} {listed : Array Bool} {a : Act} {w : World} (h : Q .normal a w) : wpLexH P ops (NoPanic Q) S [] k listed a w := h
/-- The like where an operation may be held back (a call beside which loads may come up): what is held, what is to come in the text's order. -/
def wpRemH (P : Program) (ops : Array Oper) (Q : Exit → Act → World → Prop) (S : World → Prop) (held : List (Nat × Oper)) (k : Nat) (l : List Oper) (listed : Array Bool) (a : Act) (w : World) : Prop :=
  Region.noSelect ops = true → (∀ p ∈ held, ops[p.1]? = some p.2) → (∀ j, l[j]? = ops[k + j]?) → S w → wpAnyH P .any ops (NoPanic Q) S (l.length + held.length) listed a w
theorem wp_region_remH {P : Program} {id : Nat} {Q : Exit → Act → World → Prop} {a : Act} {W : World} {l : List Oper} (S : World → Prop) (hm : P.follows .mixedOrders = true) (hB : Region.noSelect l.toArray = true) (hS : S W.drew)
    (h : wpRemH P l.toArray Q S [] 0 l (Array.replicate l.length false) a W.drew) : (Code.region id l.toArray true).wp P Q a W := by
  refine wp_region_noPanic (wp_region_held (S := S) hm ?_)
  have h2 := h hB (fun p hp => by cases hp) (by simp) hS
  simpa using h2
theorem remH_take {P : Program} {ops : Array Oper} {Q : Exit → Act → World → Prop} {S : World → Prop} {held : List (Nat × Oper)} {o : Oper} {rest : List Oper} {k : Nat} {listed : Array Bool} {a : Act} {w : World} (v : Value)
    (hr : (Region.ready .any ops listed).contains k = true) (hf : Region.free .any ops listed k = true) (hw : Region.wanted o (yielded ops a.tmps) = true) (hy : ∀ w, S w → (execOp a.eval o).run P w = .ok (.value v) w)
    (h : wpRemH P ops Q S held (k + 1) rest (listed.setIfInBounds k true) (a.put o.dst v) w) : wpRemH P ops Q S held k (o :: rest) listed a w := fun h1 h2 h3 h4 => by
  have h0 : ops[k]? = some o := by simpa using (h3 0).symm
  have hn : ∀ j, rest[j]? = ops[k + 1 + j]? := fun j => by have := h3 (j + 1); simpa [Nat.add_assoc, Nat.add_comm 1 j] using this
  have h5 := h h1 h2 hn h4
  rw [show (o :: rest).length + held.length = (rest.length + held.length) + 1 by simp; omega]
  exact wpAnyH_first h0 (Region.noSelect_spec h1) (fun c a w h => h) _ listed a w (Region.free_spec h0 hf) (by simpa using hr) (Or.inl ⟨hw, hy⟩) h4 h5
theorem remH_skip {P : Program} {ops : Array Oper} {Q : Exit → Act → World → Prop} {S : World → Prop} {held : List (Nat × Oper)} {o : Oper} {rest : List Oper} {k : Nat} {listed : Array Bool} {a : Act} {w : World}
    (hr : (Region.ready .any ops listed).contains k = true) (hf : Region.free .any ops listed k = true) (hw : Region.wanted o (yielded ops a.tmps) = false)
    (h : wpRemH P ops Q S held (k + 1) rest (listed.setIfInBounds k true) (a.put o.dst undef) w) : wpRemH P ops Q S held k (o :: rest) listed a w := fun h1 h2 h3 h4 => by
  have h0 : ops[k]? = some o := by simpa using (h3 0).symm
  have hn : ∀ j, rest[j]? = ops[k + 1 + j]? := fun j => by have := h3 (j + 1); simpa [Nat.add_assoc, Nat.add_comm 1 j] using this
  have h5 := h h1 h2 hn h4
  rw [show (o :: rest).length + held.length = (rest.length + held.length) + 1 by simp; omega]
  exact wpAnyH_first h0 (Region.noSelect_spec h1) (fun c a w h => h) _ listed a w (Region.free_spec h0 hf) (by simpa using hr) (Or.inr ⟨hw, rfl⟩) h4 h5
theorem remH_hold {P : Program} {ops : Array Oper} {Q : Exit → Act → World → Prop} {S : World → Prop} {held : List (Nat × Oper)} {o : Oper} {rest : List Oper} {k : Nat} {listed : Array Bool} {a : Act} {w : World}
    (h : wpRemH P ops Q S (held ++ [(k, o)]) (k + 1) rest listed a w) : wpRemH P ops Q S held k (o :: rest) listed a w := fun h1 h2 h3 h4 => by
  have h0 : ops[k]? = some o := by simpa using (h3 0).symm
  have hn : ∀ j, rest[j]? = ops[k + 1 + j]? := fun j => by have := h3 (j + 1); simpa [Nat.add_assoc, Nat.add_comm 1 j] using this
  have h5 := h h1 (fun p hp => by
    rcases List.mem_append.1 hp with hp | hp
    · exact h2 p hp
    · obtain rfl : p = (k, o) := by simpa using hp
      exact h0) hn h4
  rw [show (o :: rest).length + held.length = rest.length + (held ++ [(k, o)]).length by simp; omega]
  exact h5
theorem remH_runHeld {P : Program} {ops : Array Oper} {Q : Exit → Act → World → Prop} {S : World → Prop} {held : List (Nat × Oper)} {o : Oper} {l : List Oper} {i k : Nat} {listed : Array Bool} {a : Act} {w : World}
    (hr : Region.ready .any ops listed = [i]) (hw : Region.wanted o (yielded ops a.tmps) = true)
    (h : ∀ K' : Act → World → Prop, Shut (∀ a' w', S w' → wpRemH P ops Q S held k l (listed.setIfInBounds i true) a' w' → K' a' w') → Oper.wp P o a w K' (NoPanic Q)) : wpRemH P ops Q S ((i, o) :: held) k l listed a w := fun h1 h2 h3 h4 => by
  have h0 : ops[i]? = some o := h2 (i, o) (List.mem_cons_self ..)
  rw [show l.length + ((i, o) :: held).length = (l.length + held.length) + 1 by simp; omega]
  refine wpAnyH_all hr (by simp) fun j hj => ?_
  obtain rfl : j = i := by simpa using hj
  unfold wpOp
  simp only [h0, hw, if_true]
  exact Or.inl (h _ fun a' w' h5 h6 => ⟨h5, h6 h1 (fun p hp => h2 p (List.mem_cons_of_mem _ hp)) h3 h5⟩)
theorem remH_run {P : Program} {ops : Array Oper} {Q : Exit → Act → World → Prop} {S : World → Prop} {held : List (Nat × Oper)} {o : Oper} {rest : List Oper} {k : Nat} {listed : Array Bool} {a : Act} {w : World}
    (hr : Region.ready .any ops listed = [k]) (hw : Region.wanted o (yielded ops a.tmps) = true)
    (h : ∀ K' : Act → World → Prop, Shut (∀ a' w', S w' → wpRemH P ops Q S held (k + 1) rest (listed.setIfInBounds k true) a' w' → K' a' w') → Oper.wp P o a w K' (NoPanic Q)) : wpRemH P ops Q S held k (o :: rest) listed a w := fun h1 h2 h3 h4 => by
  have h0 : ops[k]? = some o := by simpa using (h3 0).symm
  have hn : ∀ j, rest[j]? = ops[k + 1 + j]? := fun j => by have := h3 (j + 1); simpa [Nat.add_assoc, Nat.add_comm 1 j] using this
  rw [show (o :: rest).length + held.length = (rest.length + held.length) + 1 by simp; omega]
  refine wpAnyH_all hr (by simp) fun j hj => ?_
  obtain rfl : j = k := by simpa using hj
  unfold wpOp
  simp only [h0, hw, if_true]
  exact Or.inl (h _ fun a' w' h5 h6 => ⟨h5, h6 h1 h2 hn h5⟩)
theorem remH_nil {P : Program} {ops : Array Oper} {Q : Exit → Act → World → Prop} {S : World → Prop} {k : Nat} {listed : Array Bool} {a : Act} {w : World} (hr : Region.ready .any ops listed = []) (h : Q .normal a w) : wpRemH P ops Q S [] k [] listed a w :=
  fun _ _ _ _ => wpAnyH_done (P := P) (S := S) (Q := NoPanic Q) hr h 0
end Go.Proofs.YtknfikdignpniaaDoor
/- Plain: what is set is read; taking out takes one node; no program in sight. -/
namespace Go.Proofs.YtknfikdignpniaaDoor.paths
open Go Go.RowKit
set_option maxRecDepth 100000
set_option maxHeartbeats 8000000

theorem path_no_err {c : Cfg} {L : List Rw} (_hf : RwsFit L) (h : pathIs c L = true) (o : Opn) : ∃ M dc dw, pathDo c L o = ⟨M, dc, dw, 0⟩ := by
  obtain ⟨M, dc, dw, de, hz⟩ : ∃ M dc dw de, pathDo c L o = ⟨M, dc, dw, de⟩ := ⟨_, _, _, _, rfl⟩
  by_cases he : de = 0
  · subst he; exact ⟨M, dc, dw, hz⟩
  · have := (path_err hz he).2.2
    rw [h] at this
    cases this
theorem path_read {c : Cfg} {M : List Rw} (hf : RwsFit M) (h : pathIs c M = true) {a b v : Int} (hp : pathB a b = true) (hl : look M (pathKey ⟨14, a, b, 0⟩) = some (v + 1)) (hv : 0 ≤ v) : pathDo c M ⟨14, a, b, 0⟩ = ⟨M, 0, v + 1, 0⟩ := by
  obtain ⟨hpo, hob, _⟩ := pathIs_ok hf h
  have hp2 : (partOk c && (c.object == 4)) = true := by rw [hpo, hob]; rfl
  have he : opErr c ⟨14, a, b, 0⟩ = 0 := by simp [opErr, hpo, hob, objOf, fitsB, hp]
  rw [pathDo_ok hp2 h (by rw [he]; rfl)]
  have e : ¬ v + 1 = 0 := by omega
  simp [pathDone, hl, e]
theorem key_inj {a b a' b' : Int} (h0 : 0 ≤ a) (h1 : 0 ≤ b) (h2 : b ≤ 65535) (h3 : a ≤ 4294967295) (h0' : 0 ≤ a') (h1' : 0 ≤ b') (h2' : b' ≤ 65535) (h3' : a' ≤ 4294967295) (h : a % 65536 * 4294967296 + a / 65536 * 65536 + b = a' % 65536 * 4294967296 + a' / 65536 * 65536 + b') : a = a' ∧ b = b' := by omega
/-- What is set is there, its path too; the other rows are as they were. -/
theorem read_plain {c : Cfg} {L : List Rw} {o : Opn} {M : List Rw} {dw : Int} (hf : RwsFit L) (ho : o.Fits) (hk : o.kind = 12) (h : pathDo c L o = ⟨M, 0, dw, 0⟩) :
    wholeK (pathKey o) = true ∧ (pathB o.a o.b = true ∧ o.b ≤ 65535 ∧ o.c ≤ 2147483647) ∧ L.length ≤ M.length ∧
    (∀ x ∈ M, (look L x.k = none → x.k ∈ lineK (pathKey o)) ∧ ∀ u, look L x.k = some u → x.v = u ∨ x.k = pathKey o) ∧
    pathDo c M ⟨14, o.a, o.b, 0⟩ = ⟨M, 0, o.c + 1, 0⟩ ∧
    (∀ t N dcn dwn, t.Fits → pathDo c M t = ⟨N, dcn, dwn, 0⟩ → (t.a = o.a ∧ t.b = o.b) ∨ pathDo c N ⟨14, o.a, o.b, 0⟩ = ⟨N, 0, o.c + 1, 0⟩) := by
  obtain ⟨hMi, hMf⟩ := path_is hf ho h
  obtain ⟨hi, hw⟩ := path_ways hf h
  have hoa := ho.a
  have hobb := ho.b
  have hoc := ho.c
  rcases hw with ⟨he, _, e, _⟩ | ⟨he, hkk, hft, hd⟩
  · exact absurd e.symm he
  · obtain ⟨hpb, hb, hc1, _, hwk⟩ := path_fits ho hft hkk
    have hc := hc1 hk
    obtain ⟨hp, hob, hlc, hr, hn⟩ := pathIs_ok hf hi
    unfold pathDone at hd
    rw [if_pos (by simp [hk])] at hd
    split at hd
    · cases hd
    · cases hd
      have hrM : Rises (withK (pathKey o) (o.c + 1) (madeK (pathKey o) L)) := rises_withK _ _ (rises_made hr)
      have hlk := set_look (k := pathKey o) (v := o.c + 1) hr
      have hself : look (withK (pathKey o) (o.c + 1) (madeK (pathKey o) L)) (pathKey o) = some (o.c + 1) := by rw [hlk, if_pos rfl]
      have ekey : pathKey ⟨14, o.a, o.b, 0⟩ = pathKey o := rfl
      refine ⟨hwk, ⟨hpb, hb, hc⟩, ?_, ?_, ?_, ?_⟩
      · rw [set_len hr]
        exact (made_len hr hwk).1
      · intro x hx
        have hxl := look_of_mem hrM hx
        rw [hlk] at hxl
        constructor
        · intro hnone
          split at hxl
          · rename_i e; rw [← e]; exact line_self _
          · split at hxl
            · assumption
            · rw [hnone] at hxl; cases hxl
        · intro u hu
          split at hxl
          · rename_i e; exact Or.inr e.symm
          · left
            split at hxl
            · rw [hu] at hxl
              exact (Option.some.inj hxl).symm
            · rw [hu] at hxl
              exact (Option.some.inj hxl).symm
      · exact path_read hMf hMi hpb (by rw [ekey]; exact hself) hoc.1
      · intro t N dcn dwn htf ht
        obtain ⟨hNi, hNf⟩ := path_is hMf htf ht
        obtain ⟨_, hwt⟩ := path_ways hMf ht
        have fin : look N (pathKey o) = some (o.c + 1) → pathDo c N ⟨14, o.a, o.b, 0⟩ = ⟨N, 0, o.c + 1, 0⟩ := fun hl => path_read hNf hNi hpb (by rw [ekey]; exact hl) hoc.1
        rcases hwt with ⟨_, rfl, _, _⟩ | ⟨_, hkt, hftt, hdt⟩
        · exact Or.inr (fin hself)
        · obtain ⟨_, htb, _, _, hwkt⟩ := path_fits htf hftt hkt
          have hta := htf.a
          have htb0 := htf.b
          by_cases e : pathKey t = pathKey o
          · exact Or.inl (key_inj hta.1 htb0.1 htb hta.2 hoa.1 hobb.1 hb hoa.2 e)
          · right
            refine fin ?_
            unfold pathDone at hdt
            split at hdt
            · split at hdt
              · cases hdt; exact hself
              · cases hdt
                rw [set_look hrM, if_neg e]
                split
                · rw [hself]; rfl
                · exact hself
            · split at hdt
              · cases hdt; exact hself
              · split at hdt
                · split at hdt <;> (cases hdt; exact hself)
                · split at hdt
                  · cases hdt; exact hself
                  · cases hdt
                    rw [look_withoutK, if_neg e]
                    exact hself
/-- What taking out answers. -/
theorem take_plain {c : Cfg} {L : List Rw} {a b : Int} {M : List Rw} {dc dw : Int} (hf : RwsFit L) (ho : Opn.Fits ⟨13, a, b, 0⟩) (h : pathDo c L ⟨13, a, b, 0⟩ = ⟨M, dc, dw, 0⟩) (hd : ¬ dc = 10) :
    (wholeK (pathKey ⟨13, a, b, 0⟩) = true ∧ b ≤ 65535) ∧ (∀ x ∈ L, NodeOk L x) ∧ Rises L ∧ ((look L (pathKey ⟨13, a, b, 0⟩) = none ∧ dc = 6) ∨ ∃ u, look L (pathKey ⟨13, a, b, 0⟩) = some u ∧ ((usedB (pathKey ⟨13, a, b, 0⟩) L = true ∧ dc = 90) ∨ (usedB (pathKey ⟨13, a, b, 0⟩) L = false ∧ dc = 0 ∧ dw = u ∧ M = withoutK (pathKey ⟨13, a, b, 0⟩) L))) := by
  obtain ⟨hi, hw⟩ := path_ways hf h
  obtain ⟨hp, hob, hlc, hr, hn⟩ := pathIs_ok hf hi
  rcases hw with ⟨he, _, e, _⟩ | ⟨_, hkk, hft, hdn⟩
  · exfalso
    subst e
    simp [opErr, hp, hob, objOf] at he hd
    simp [hd] at he
  · obtain ⟨_, hb, _, _, hwk⟩ := path_fits ho hft hkk
    refine ⟨⟨hwk, hb⟩, hn, hr, ?_⟩
    unfold pathDone at hdn
    rw [if_neg (by simp)] at hdn
    cases hl : look L (pathKey ⟨13, a, b, 0⟩) with
    | none => rw [hl] at hdn; cases hdn; exact Or.inl ⟨rfl, rfl⟩
    | some u =>
      rw [hl] at hdn
      simp only [show ((13 : Int) == 14) = false from rfl, if_neg (Bool.false_ne_true)] at hdn
      right
      refine ⟨u, rfl, ?_⟩
      cases hu : usedB (pathKey ⟨13, a, b, 0⟩) L
      · rw [hu] at hdn; cases hdn; exact Or.inr ⟨rfl, rfl, rfl, rfl⟩
      · rw [hu] at hdn; cases hdn; exact Or.inl ⟨rfl, rfl⟩
end Go.Proofs.YtknfikdignpniaaDoor.paths
