/- A law's row (models): its arguments opened, the listed variable, the row's last step. -/
import Derived.Test.YtknfikdignpniaaDoorRows
import Derived.Test.YtknfikdignpniaaDoorFrame
import Derived.ProofKit
import Derived.LaidMore
import Derived.OpenShut
import Derived.Stop.Joined
import Derived.Lib.SmallJoins
import Derived.Deep.Slices
import Derived.Deep.Fields
import Derived.ChangeSame
import Derived.SevenTiedAt
import Derived.Test.YtknfikdignpniaaDoorRws
import GoSem.Claims
namespace Go.Proofs.YtknfikdignpniaaDoor
open Go.ChangeShapes Go.WideShapes Go.ChangeAt Go.WideMaps Go.WideElems Go.RowKit Go.Joins Go.Deep
set_option maxRecDepth 100000
set_option maxHeartbeats 8000000

section
variable {H : Type} {enc : TypeId × Value → H} {P : Program} {w : World} {base : Nat} {spare : Nat → Bool} {held : Bool}

theorem open_agg12' {r : Reach} {b0 : Nat} {t : TypeId} {f0 f1 f2 f3 f4 f5 f6 f7 f8 f9 f10 f11 : Field} {v : Value} {d : DataW H} {p : List MemPlace} (hs : P.underlying t = some (.struct #[f0, f1, f2, f3, f4, f5, f6, f7, f8, f9, f10, f11])) (hone : oneCellFields P #[f0, f1, f2, f3, f4, f5, f6, f7, f8, f9, f10, f11] = true) (hC : P.cellsOf t = 12)
    (hv : Value.okWide P w r b0 t v) (h : DataW.Trod enc P w base spare held t v d p) :
    ∃ (v0 v1 v2 v3 v4 v5 v6 v7 v8 v9 v10 v11 : Value) (y0 y1 y2 y3 y4 y5 y6 y7 y8 y9 y10 y11 : DataW H × List MemPlace) (n : Nat), v = .agg #[v0, v1, v2, v3, v4, v5, v6, v7, v8, v9, v10, v11] ∧ d = .agg [y0.1, y1.1, y2.1, y3.1, y4.1, y5.1, y6.1, y7.1, y8.1, y9.1, y10.1, y11.1] ∧ p = y0.2 ++ (y1.2 ++ (y2.2 ++ (y3.2 ++ (y4.2 ++ (y5.2 ++ (y6.2 ++ (y7.2 ++ (y8.2 ++ (y9.2 ++ (y10.2 ++ (y11.2))))))))))) ∧
      DataW.trod enc P w base spare held n f0.type [v0] = some y0 ∧ DataW.trod enc P w base spare held n f1.type [v1] = some y1 ∧ DataW.trod enc P w base spare held n f2.type [v2] = some y2 ∧ DataW.trod enc P w base spare held n f3.type [v3] = some y3 ∧ DataW.trod enc P w base spare held n f4.type [v4] = some y4 ∧ DataW.trod enc P w base spare held n f5.type [v5] = some y5 ∧ DataW.trod enc P w base spare held n f6.type [v6] = some y6 ∧ DataW.trod enc P w base spare held n f7.type [v7] = some y7 ∧ DataW.trod enc P w base spare held n f8.type [v8] = some y8 ∧ DataW.trod enc P w base spare held n f9.type [v9] = some y9 ∧ DataW.trod enc P w base spare held n f10.type [v10] = some y10 ∧ DataW.trod enc P w base spare held n f11.type [v11] = some y11 := by
  obtain ⟨cs, rfl, hsz⟩ := okWide_struct hs hv
  obtain ⟨l⟩ := cs
  match l, hsz.trans hC with
  | [c0, c1, c2, c3, c4, c5, c6, c7, c8, c9, c10, c11], _ =>
    obtain ⟨fuel, hf⟩ := h
    obtain ⟨xs, n, _, hx, _, hlen, hg⟩ := DataW.trod_struct hs hf
    obtain ⟨o0, k0⟩ := hone_of hone 0 f0 rfl
    obtain ⟨o1, k1⟩ := hone_of hone 1 f1 rfl
    obtain ⟨o2, k2⟩ := hone_of hone 2 f2 rfl
    obtain ⟨o3, k3⟩ := hone_of hone 3 f3 rfl
    obtain ⟨o4, k4⟩ := hone_of hone 4 f4 rfl
    obtain ⟨o5, k5⟩ := hone_of hone 5 f5 rfl
    obtain ⟨o6, k6⟩ := hone_of hone 6 f6 rfl
    obtain ⟨o7, k7⟩ := hone_of hone 7 f7 rfl
    obtain ⟨o8, k8⟩ := hone_of hone 8 f8 rfl
    obtain ⟨o9, k9⟩ := hone_of hone 9 f9 rfl
    obtain ⟨o10, k10⟩ := hone_of hone 10 f10 rfl
    obtain ⟨o11, k11⟩ := hone_of hone 11 f11 rfl
    match xs, hlen with
    | [y0, y1, y2, y3, y4, y5, y6, y7, y8, y9, y10, y11], _ =>
      simp only [Prod.mk.injEq] at hx
      exact ⟨c0, c1, c2, c3, c4, c5, c6, c7, c8, c9, c10, c11, y0, y1, y2, y3, y4, y5, y6, y7, y8, y9, y10, y11, n, rfl, by simpa using hx.1, by simpa using hx.2, by simpa [Value.cells, o0, k0] using hg 0 f0 rfl, by simpa [Value.cells, o1, k1] using hg 1 f1 rfl, by simpa [Value.cells, o2, k2] using hg 2 f2 rfl, by simpa [Value.cells, o3, k3] using hg 3 f3 rfl, by simpa [Value.cells, o4, k4] using hg 4 f4 rfl, by simpa [Value.cells, o5, k5] using hg 5 f5 rfl, by simpa [Value.cells, o6, k6] using hg 6 f6 rfl, by simpa [Value.cells, o7, k7] using hg 7 f7 rfl, by simpa [Value.cells, o8, k8] using hg 8 f8 rfl, by simpa [Value.cells, o9, k9] using hg 9 f9 rfl, by simpa [Value.cells, o10, k10] using hg 10 f10 rfl, by simpa [Value.cells, o11, k11] using hg 11 f11 rfl⟩

theorem open_agg11' {r : Reach} {b0 : Nat} {t : TypeId} {f0 f1 f2 f3 f4 f5 f6 f7 f8 f9 f10 : Field} {v : Value} {d : DataW H} {p : List MemPlace} (hs : P.underlying t = some (.struct #[f0, f1, f2, f3, f4, f5, f6, f7, f8, f9, f10])) (hone : oneCellFields P #[f0, f1, f2, f3, f4, f5, f6, f7, f8, f9, f10] = true) (hC : P.cellsOf t = 11)
    (hv : Value.okWide P w r b0 t v) (h : DataW.Trod enc P w base spare held t v d p) :
    ∃ (v0 v1 v2 v3 v4 v5 v6 v7 v8 v9 v10 : Value) (y0 y1 y2 y3 y4 y5 y6 y7 y8 y9 y10 : DataW H × List MemPlace) (n : Nat), v = .agg #[v0, v1, v2, v3, v4, v5, v6, v7, v8, v9, v10] ∧ d = .agg [y0.1, y1.1, y2.1, y3.1, y4.1, y5.1, y6.1, y7.1, y8.1, y9.1, y10.1] ∧ p = y0.2 ++ (y1.2 ++ (y2.2 ++ (y3.2 ++ (y4.2 ++ (y5.2 ++ (y6.2 ++ (y7.2 ++ (y8.2 ++ (y9.2 ++ (y10.2)))))))))) ∧
      DataW.trod enc P w base spare held n f0.type [v0] = some y0 ∧ DataW.trod enc P w base spare held n f1.type [v1] = some y1 ∧ DataW.trod enc P w base spare held n f2.type [v2] = some y2 ∧ DataW.trod enc P w base spare held n f3.type [v3] = some y3 ∧ DataW.trod enc P w base spare held n f4.type [v4] = some y4 ∧ DataW.trod enc P w base spare held n f5.type [v5] = some y5 ∧ DataW.trod enc P w base spare held n f6.type [v6] = some y6 ∧ DataW.trod enc P w base spare held n f7.type [v7] = some y7 ∧ DataW.trod enc P w base spare held n f8.type [v8] = some y8 ∧ DataW.trod enc P w base spare held n f9.type [v9] = some y9 ∧ DataW.trod enc P w base spare held n f10.type [v10] = some y10 := by
  obtain ⟨cs, rfl, hsz⟩ := okWide_struct hs hv
  obtain ⟨l⟩ := cs
  match l, hsz.trans hC with
  | [c0, c1, c2, c3, c4, c5, c6, c7, c8, c9, c10], _ =>
    obtain ⟨fuel, hf⟩ := h
    obtain ⟨xs, n, _, hx, _, hlen, hg⟩ := DataW.trod_struct hs hf
    obtain ⟨o0, k0⟩ := hone_of hone 0 f0 rfl
    obtain ⟨o1, k1⟩ := hone_of hone 1 f1 rfl
    obtain ⟨o2, k2⟩ := hone_of hone 2 f2 rfl
    obtain ⟨o3, k3⟩ := hone_of hone 3 f3 rfl
    obtain ⟨o4, k4⟩ := hone_of hone 4 f4 rfl
    obtain ⟨o5, k5⟩ := hone_of hone 5 f5 rfl
    obtain ⟨o6, k6⟩ := hone_of hone 6 f6 rfl
    obtain ⟨o7, k7⟩ := hone_of hone 7 f7 rfl
    obtain ⟨o8, k8⟩ := hone_of hone 8 f8 rfl
    obtain ⟨o9, k9⟩ := hone_of hone 9 f9 rfl
    obtain ⟨o10, k10⟩ := hone_of hone 10 f10 rfl
    match xs, hlen with
    | [y0, y1, y2, y3, y4, y5, y6, y7, y8, y9, y10], _ =>
      simp only [Prod.mk.injEq] at hx
      exact ⟨c0, c1, c2, c3, c4, c5, c6, c7, c8, c9, c10, y0, y1, y2, y3, y4, y5, y6, y7, y8, y9, y10, n, rfl, by simpa using hx.1, by simpa using hx.2, by simpa [Value.cells, o0, k0] using hg 0 f0 rfl, by simpa [Value.cells, o1, k1] using hg 1 f1 rfl, by simpa [Value.cells, o2, k2] using hg 2 f2 rfl, by simpa [Value.cells, o3, k3] using hg 3 f3 rfl, by simpa [Value.cells, o4, k4] using hg 4 f4 rfl, by simpa [Value.cells, o5, k5] using hg 5 f5 rfl, by simpa [Value.cells, o6, k6] using hg 6 f6 rfl, by simpa [Value.cells, o7, k7] using hg 7 f7 rfl, by simpa [Value.cells, o8, k8] using hg 8 f8 rfl, by simpa [Value.cells, o9, k9] using hg 9 f9 rfl, by simpa [Value.cells, o10, k10] using hg 10 f10 rfl⟩

theorem open_agg4' {r : Reach} {b0 : Nat} {t : TypeId} {f0 f1 f2 f3 : Field} {v : Value} {d : DataW H} {p : List MemPlace} (hs : P.underlying t = some (.struct #[f0, f1, f2, f3])) (hone : oneCellFields P #[f0, f1, f2, f3] = true) (hC : P.cellsOf t = 4)
    (hv : Value.okWide P w r b0 t v) (h : DataW.Trod enc P w base spare held t v d p) :
    ∃ (v0 v1 v2 v3 : Value) (y0 y1 y2 y3 : DataW H × List MemPlace) (n : Nat), v = .agg #[v0, v1, v2, v3] ∧ d = .agg [y0.1, y1.1, y2.1, y3.1] ∧ p = y0.2 ++ (y1.2 ++ (y2.2 ++ (y3.2))) ∧
      DataW.trod enc P w base spare held n f0.type [v0] = some y0 ∧ DataW.trod enc P w base spare held n f1.type [v1] = some y1 ∧ DataW.trod enc P w base spare held n f2.type [v2] = some y2 ∧ DataW.trod enc P w base spare held n f3.type [v3] = some y3 := by
  obtain ⟨cs, rfl, hsz⟩ := okWide_struct hs hv
  obtain ⟨l⟩ := cs
  match l, hsz.trans hC with
  | [c0, c1, c2, c3], _ =>
    obtain ⟨fuel, hf⟩ := h
    obtain ⟨xs, n, _, hx, _, hlen, hg⟩ := DataW.trod_struct hs hf
    obtain ⟨o0, k0⟩ := hone_of hone 0 f0 rfl
    obtain ⟨o1, k1⟩ := hone_of hone 1 f1 rfl
    obtain ⟨o2, k2⟩ := hone_of hone 2 f2 rfl
    obtain ⟨o3, k3⟩ := hone_of hone 3 f3 rfl
    match xs, hlen with
    | [y0, y1, y2, y3], _ =>
      simp only [Prod.mk.injEq] at hx
      exact ⟨c0, c1, c2, c3, y0, y1, y2, y3, n, rfl, by simpa using hx.1, by simpa using hx.2, by simpa [Value.cells, o0, k0] using hg 0 f0 rfl, by simpa [Value.cells, o1, k1] using hg 1 f1 rfl, by simpa [Value.cells, o2, k2] using hg 2 f2 rfl, by simpa [Value.cells, o3, k3] using hg 3 f3 rfl⟩
end

theorem wf_bd {k : IntKind} {n : Int} (h : (Lit.int k n).wf = true) : k.min ≤ n ∧ n ≤ k.max := by
  simpa [Lit.wf] using h

theorem cells_cfg : Tryd.prog.cellsOf 24 = 12 := by kernel_rfl
theorem open_cfg {H : Type} {enc : TypeId × Value → H} {W : World} {b0 base : Nat} {spare : Nat → Bool} {held : Bool} {r : Reach} {v : Value} {d : DataW H} {p : List MemPlace} (hv : Value.okWide Tryd.prog W r b0 24 v) (h : DataW.Trod enc Tryd.prog W base spare held 24 v d p) :
    ∃ c : Cfg, v = c.v ∧ p = [] := by
  obtain ⟨v0, v1, v2, v3, v4, v5, v6, v7, v8, v9, v10, v11, y0, y1, y2, y3, y4, y5, y6, y7, y8, y9, y10, y11, m, rfl, _, rfl, t0, t1, t2, t3, t4, t5, t6, t7, t8, t9, t10, t11⟩ := open_agg12' Tryd.underlying24 (by kernel_rfl) cells_cfg hv h
  obtain ⟨a0, e0, rfl, w0⟩ := DataW.trod_int Tryd.underlying5 t0
  obtain ⟨a1, e1, rfl, w1⟩ := DataW.trod_int Tryd.underlying3 t1
  obtain ⟨a2, e2, rfl, w2⟩ := DataW.trod_int Tryd.underlying3 t2
  obtain ⟨a3, e3, rfl, w3⟩ := DataW.trod_int Tryd.underlying5 t3
  obtain ⟨a4, e4, rfl, w4⟩ := DataW.trod_int Tryd.underlying3 t4
  obtain ⟨a5, e5, rfl, w5⟩ := DataW.trod_int Tryd.underlying3 t5
  obtain ⟨a6, e6, rfl, w6⟩ := DataW.trod_int Tryd.underlying3 t6
  obtain ⟨a7, e7, rfl, w7⟩ := DataW.trod_int Tryd.underlying3 t7
  obtain ⟨a8, e8, rfl, w8⟩ := DataW.trod_int Tryd.underlying3 t8
  obtain ⟨a9, e9, rfl, w9⟩ := DataW.trod_int Tryd.underlying3 t9
  obtain ⟨a10, e10, rfl, w10⟩ := DataW.trod_int Tryd.underlying22 t10
  obtain ⟨a11, e11, rfl, w11⟩ := DataW.trod_int Tryd.underlying22 t11
  simp only [List.cons.injEq, and_true] at e0 e1 e2 e3 e4 e5 e6 e7 e8 e9 e10 e11
  subst e0 e1 e2 e3 e4 e5 e6 e7 e8 e9 e10 e11
  exact ⟨⟨a0, a1, a2, a3, a4, a5, a6, a7, a8, a9, a10, a11⟩, rfl, rfl⟩

theorem cells_opn : Tryd.prog.cellsOf 28 = 4 := by kernel_rfl
theorem open_opn {H : Type} {enc : TypeId × Value → H} {W : World} {b0 base : Nat} {spare : Nat → Bool} {held : Bool} {r : Reach} {v : Value} {d : DataW H} {p : List MemPlace} (hv : Value.okWide Tryd.prog W r b0 28 v) (h : DataW.Trod enc Tryd.prog W base spare held 28 v d p) :
    ∃ c : Opn, v = c.v ∧ p = [] ∧ c.Fits := by
  obtain ⟨v0, v1, v2, v3, y0, y1, y2, y3, m, rfl, _, rfl, t0, t1, t2, t3⟩ := open_agg4' Tryd.underlying28 (by kernel_rfl) cells_opn hv h
  obtain ⟨a0, e0, rfl, w0⟩ := DataW.trod_int Tryd.underlying5 t0
  obtain ⟨a1, e1, rfl, w1⟩ := DataW.trod_int Tryd.underlying26 t1
  obtain ⟨a2, e2, rfl, w2⟩ := DataW.trod_int Tryd.underlying26 t2
  obtain ⟨a3, e3, rfl, w3⟩ := DataW.trod_int Tryd.underlying26 t3
  simp only [List.cons.injEq, and_true] at e0 e1 e2 e3
  subst e0 e1 e2 e3
  have b0 := wf_bd w0
  have b1 := wf_bd w1
  have b2 := wf_bd w2
  have b3 := wf_bd w3
  exact ⟨⟨a0, a1, a2, a3⟩, rfl, rfl, ⟨b0, b1, b2, b3⟩⟩

theorem own : ownKnob Tryd.prog.godebug = none := by kernel_rfl
theorem gObjects : Tryd.prog.globalNamed "bascule/op.objects" = some 0 := by kernel_rfl
theorem tObjects : (Tryd.prog.globals[0]?).map (·.type) = some 59 := by kernel_rfl
theorem cellsU8 : Tryd.prog.cellsOf 5 = 1 := by kernel_rfl
theorem cellsObjects : Tryd.prog.cellsOf 59 = 15 := by kernel_rfl
abbrev laidL : List (String × DataW Unit) := [("bascule/op.objects", Rows.laid_bascule_op_objects)]

/-- The door's own heap meets the condition. -/
theorem door_met (os : Os) (args : Array Value) : laidMetH Tryd.prog laidL ((World.doorLaid Tryd.prog 400 os).forCall (fun _ _ => 0) ⟨#[], args, []⟩).memory :=
  laidMetH_of_parts3 (fuel := 8) (laidMet_of_run' 8 (by kernel_rfl) (by kernel_rfl)) (by kernel_rfl) (by kernel_rfl)

theorem tab_cell {H : Type} {enc : TypeId × Value → H} {W : World} {base m : Nat} {spare : Nat → Bool} {held : Bool} {l : List Value} {k : Nat} {y : DataW H × List MemPlace} {n : Int}
    (h : DataW.trod enc Tryd.prog W base spare held m 5 ((l.drop (k * 1)).take 1) = some y) (hy : y.1 = .lit (.int .u8 n)) : l[k]? = some (.int .u8 n) := by
  obtain ⟨a, e, rfl, _⟩ := DataW.trod_int Tryd.underlying5 h
  simp only [DataW.lit.injEq, Lit.int.injEq, true_and] at hy
  subst hy
  have h1 : ((l.drop (k * 1)).take 1)[0]? = some (.int .u8 a) := by rw [e]; rfl
  simpa using h1

/-- What the condition gives the walks. -/
theorem tab_of_laid {W : World} (h : laidMetH Tryd.prog laidL W) : Tab W := by
  rw [MakeChecks.laidMetH_plain _ _ _ (by kernel_rfl)] at h
  obtain ⟨ps, ⟨g0, t0, cs0, f0, p0, q0, hg0, ht0, hv0, hd0, _, _⟩, _, _⟩ := h
  obtain rfl := Option.some.inj (gObjects.symm.trans hg0)
  obtain rfl := Option.some.inj (tObjects.symm.trans ht0)
  obtain ⟨xs, m1, rfl, hx1, hlen, hn3, hel⟩ := DataW.trod_array Tryd.underlying59 hd0
  rw [cellsU8] at hel
  simp only [Prod.mk.injEq, Rows.laid_bascule_op_objects, DataW.agg.injEq] at hx1
  have hc : ∀ k : Nat, k < 15 → W.cell? ⟨0, k, none⟩ = some (.int .u8 (objOf k)) := fun k hk => by
    have h1 := hel k hk
    have hk' : k < xs.length := by omega
    rw [List.getElem?_eq_getElem hk'] at h1
    have hy : (xs.map (·.1))[k]? = some (xs[k].1) := by simp [hk']
    rw [← hx1.1] at hy
    have h2 := World.var?_cell hg0 hv0 k
    rw [h2, ← Array.getElem?_toList]
    refine tab_cell h1 ?_
    have h3 : xs[k].1 = DataW.lit (.int .u8 (objOf k)) := by
      refine Option.some.inj (hy.symm.trans ?_)
      obtain h | h | h | h | h | h | h | h | h | h | h | h | h | h | h : k = 0 ∨ k = 1 ∨ k = 2 ∨ k = 3 ∨ k = 4 ∨ k = 5 ∨ k = 6 ∨ k = 7 ∨ k = 8 ∨ k = 9 ∨ k = 10 ∨ k = 11 ∨ k = 12 ∨ k = 13 ∨ k = 14 := by omega
      all_goals (subst h; rfl)
    exact h3
  exact ⟨World.block_lt_of_cell? (w := W) (a := ⟨0, 0, none⟩) (hc 0 (by omega)), hc⟩

theorem wants_all {P : Program} {ts : Array TypeId} (h : (ts.all fun t => P.wantsStandIn t == false) = true) : ∀ (j : Nat) t, ts[j]? = some t → P.wantsStandIn t = false := fun j t ht => by
  have hj := (Array.getElem?_eq_some_iff.1 ht)
  have h1 := Array.all_eq_true.1 h j hj.1
  rw [hj.2] at h1
  simpa using h1

section
variable {H : Type} {enc : TypeId × Value → H} {P : Program}
theorem trodAll_below (hl : laidOutB P = true) {W W' : World} (hb : Below W.heap.size W W') : ∀ {ts : List TypeId} {vs : List Value} {ds : List (DataW H)} {ps : List MemPlace},
    (ts.all fun t => P.readableRec t && decide (t < P.types.size)) = true → DataW.TrodAll enc P W 0 (fun _ => true) true ts vs ds ps → (∀ x ∈ ps, x.block < W.heap.size) →
    DataW.TrodAll enc P W' 0 (fun b => decide (b < W.heap.size)) true ts vs ds ps
  | [], [], [], _, _, h, _ => h
  | _ :: _, _ :: _, _ :: _, _, hT, ⟨p, q, h1, h2, e⟩, hs => by
    simp only [List.all_cons, Bool.and_eq_true, decide_eq_true_eq] at hT
    exact ⟨p, q, Below.trod hl hT.1.1 hT.1.2 h1 hb (fun x hx => hs x (by rw [e]; exact List.mem_append_left _ hx)),
      trodAll_below hl hb (by simpa using hT.2) h2 (fun x hx => hs x (by rw [e]; exact List.mem_append_right _ hx)), e⟩

/-- A law's last step: true; the arguments read as they did. -/
theorem post_law (hl : laidOutB P = true) {f : Func} {s : ChangeSpec} {W W' : World} {args : Array Value} {ds gs : List (DataW H)} {before : List MemPlace} {tb : TypeId}
    (hW : DataW.Whole enc P f.params.toList s.vars false W args.toList ds gs before) (hvars : s.vars = []) (hres : f.resultTypes = #[tb]) (hbool : P.underlying tb = some .bool)
    (hfn : s.fn H (ds ++ gs) = { results := [.lit (.bool true)], args := ds }) (hT : (f.params.toList.all fun t => P.readableRec t && decide (t < P.types.size)) = true)
    (hb : Below W.heap.size W W') : s.post enc P f false true false false W args (.bool true) W' := by
  have hlt : ∀ p ∈ before, p.block < W.heap.size := fun p hp => hW.lt p hp
  have hW' := hW
  obtain ⟨p, q, hA, hV, rfl, _, _⟩ := hW
  rw [hvars] at hV
  obtain ⟨rfl, rfl⟩ := trodVars_none hV
  simp only [List.append_nil] at hlt hW' hfn
  refine ⟨ds, [], _, [], p, [], by simpa using hW', ?_, ?_, ?_, ?_, fun h => by cases h⟩
  · rw [List.append_nil, hfn, hres]; exact trodAll_mk1 (shut_bool hbool true)
  · rw [List.append_nil, hfn]
    exact (trodAll_below hl hb hT hA hlt)
  · rw [List.append_nil, hfn, hvars]; rfl
  · exact hb.frame _
end
end Go.Proofs.YtknfikdignpniaaDoor
/- A law's arguments that are slices of rows, or of operations, opened. -/
namespace Go.Proofs.YtknfikdignpniaaDoor
open Go.ChangeShapes Go.WideShapes Go.ChangeAt Go.WideMaps Go.WideElems Go.RowKit Go.Joins Go.Deep
set_option maxRecDepth 100000
set_option maxHeartbeats 8000000

section
variable {H : Type} {enc : TypeId × Value → H} {P : Program} {w : World} {base : Nat} {spare : Nat → Bool} {held : Bool}
/-- A slice of structs whose fields have one cell each: nil, or cells behind an address. -/
theorem open_structs {t e : TypeId} {fs : Array Field} {fuel : Nat} {cs : List Value} {x : DataW H × List MemPlace} (ht : P.underlying t = some (.slice e)) (he : P.underlying e = some (.struct fs))
    (hone : oneCellFields P fs = true) (hC : P.cellsOf e = fs.size) (h : DataW.trod enc P w base spare held fuel t cs = some x) :
    cs = [.slice none 0 0] ∨
    ∃ (a : Addr) (len cap : Nat), cs = [.slice (some a) len cap] ∧ len ≤ cap ∧ cap ≤ maxLen ∧
      ∀ i, i < len → ∀ (j : Nat) (f : Field), fs[j]? = some f → ∃ (v : Value) (y : DataW H × List MemPlace) (n : Nat), w.cell? (a.add (i * fs.size + j)) = some v ∧ DataW.trod enc P w base spare held n f.type [v] = some y := by
  rcases open_slice ht h with h0 | ⟨a, len, cap, m, n, D, Pl, hcs, hb, hl, hm, hmm, hx, hi⟩
  · exact .inl h0.1
  · refine .inr ⟨a, len, cap, hcs, hl, hm, fun i him j f hj => ?_⟩
    have hlm : len ≤ m := by rw [hmm]; split <;> omega
    obtain ⟨cs', hc, ht'⟩ := hi i (by omega)
    rw [hC] at hc
    obtain ⟨ys, n', hn', hy, hlen, hyl, hf⟩ := DataW.trod_struct he ht'
    obtain ⟨_, hcl, hat⟩ := World.cells?_some hc
    obtain ⟨ho, hk⟩ := hone_of hone j f hj
    have hjl : j < fs.size := (Array.getElem?_eq_some_iff.1 hj).1
    have hcell := hat j hjl
    have hv : cs'[j]? = some (cs'[j]'(by omega)) := List.getElem?_eq_getElem (by omega)
    have h1 := hf j f hj
    rw [ho, hk] at h1
    have hone' : (cs'.drop j).take 1 = [cs'[j]'(by omega)] := by
      rw [List.drop_eq_getElem_cons (by omega)]
      rfl
    rw [hone'] at h1
    have hys : ys[j]? = some (ys[j]'(by omega)) := List.getElem?_eq_getElem (by omega)
    refine ⟨_, _, _, ?_, h1.trans hys⟩
    rw [← Go.Deep.add_add, hcell, hv]
end

theorem cells_row : Tryd.prog.cellsOf 44 = 2 := by kernel_rfl
theorem open_rws {H : Type} {enc : TypeId × Value → H} {W : World} {b0 base : Nat} {spare : Nat → Bool} {held : Bool} {r : Reach} {v : Value} {d : DataW H} {p : List MemPlace} (hv : Value.okWide Tryd.prog W r b0 30 v) (h : DataW.Trod enc Tryd.prog W base spare held 30 v d p) :
    ∃ L : List Rw, RwsFit L ∧ Rws W v L := by
  obtain ⟨a0, len, cap, rfl⟩ := okWide_slice Tryd.underlying30 hv
  obtain ⟨fuel, hf⟩ := h
  rcases open_structs Tryd.underlying30 Tryd.underlying44 (by kernel_rfl) cells_row hf with h0 | ⟨a, len', cap', hcs, h1, h2, hi⟩
  · simp [Value.cells] at h0
    obtain ⟨rfl, rfl, rfl⟩ := h0
    exact ⟨[], fun x hx => (by cases hx), Rws.nil W⟩
  · simp [Value.cells] at hcs
    obtain ⟨rfl, rfl, rfl⟩ := hcs
    have key : ∀ k, k ≤ len → ∃ L : List Rw, L.length = k ∧ RwsFit L ∧ ∀ (j : Nat) (u : Value), (rwCells L)[j]? = some u → W.cell? (a.add j) = some u := by
      intro k
      induction k with
      | zero => intro _; exact ⟨[], rfl, fun x hx => (by cases hx), fun j u hu => by simp [rwCells] at hu⟩
      | succ k ih =>
        intro hk
        obtain ⟨L, hl, hfit, hc⟩ := ih (by omega)
        obtain ⟨v0, y0, n0, c0, t0⟩ := hi k (by omega) 0 _ rfl
        obtain ⟨v1, y1, n1, c1, t1⟩ := hi k (by omega) 1 _ rfl
        obtain ⟨a0, e0, rfl, w0⟩ := DataW.trod_int Tryd.underlying22 t0
        obtain ⟨a1, e1, rfl, w1⟩ := DataW.trod_int Tryd.underlying22 t1
        simp only [List.cons.injEq, and_true] at e0 e1
        subst e0 e1
        refine ⟨L ++ [⟨a0, a1⟩], by simp [hl], ?_, fun j u hu => ?_⟩
        · intro x hx
          rcases List.mem_append.1 hx with hx | hx
          · exact hfit x hx
          · simp at hx
            subst hx
            exact ⟨wf_bd w0, wf_bd w1⟩
        · rw [rwCells_app] at hu
          have hlen : (rwCells L).length = k * 2 := by rw [rwCells_len, hl]
          by_cases hj : j < (rwCells L).length
          · rw [List.getElem?_append_left hj] at hu
            exact hc j u hu
          · rw [List.getElem?_append_right (by omega), hlen] at hu
            rw [hlen] at hj
            have hj4 := (List.getElem?_eq_some_iff.1 hu).1
            simp [rwCells, Rw.cells] at hj4
            obtain h | h : j = k * 2 + 0 ∨ j = k * 2 + 1 := by omega
            all_goals
              subst h
              simp [rwCells, Rw.cells] at hu
              subst hu
              first | exact c0 | exact c1
    obtain ⟨L, hl, hfit, hc⟩ := key len (Nat.le_refl _)
    refine ⟨L, hfit, some a, cap, by rw [hl], ⟨by rw [hl]; exact h1, h2, ?_⟩, fun h => by cases h⟩
    by_cases h0 : len = 0
    · subst h0
      obtain rfl : L = [] := List.eq_nil_of_length_eq_zero hl
      exact Or.inl ⟨rfl, rfl⟩
    · obtain ⟨b, o, sp⟩ := a
      have hx := hc 0 (.int .u64 (L[0]'(by omega)).k) (rwCells_at L 0 (by omega)).1
      cases sp with
      | some z =>
        exfalso
        simp only [World.cell?, Addr.add, Option.isSome_some, if_true] at hx
        split at hx <;> simp at hx
      | none => exact Or.inr ⟨b, o, rfl, fun j u hu => by have := hc j u hu; rwa [Addr.add_lit] at this⟩
end Go.Proofs.YtknfikdignpniaaDoor
/- Plain: slices of operations as flat cells in a world; no program in sight. -/
namespace Go.Proofs.YtknfikdignpniaaDoor
open Go Go.RowKit
set_option maxRecDepth 100000
set_option maxHeartbeats 8000000

abbrev zop : Opn := ⟨0, 0, 0, 0⟩
def Opn.cells (o : Opn) : List Value := [.int .u8 o.kind, .int .u32 o.a, .int .u32 o.b, .int .u32 o.c]
def opCells (L : List Opn) : List Value := L.flatMap Opn.cells
def OpsFit (L : List Opn) : Prop := ∀ o ∈ L, o.Fits
theorem opCells_nil : opCells [] = [] := rfl
theorem opCells_cons (x : Opn) (L : List Opn) : opCells (x :: L) = .int .u8 x.kind :: .int .u32 x.a :: .int .u32 x.b :: .int .u32 x.c :: opCells L := rfl
theorem opCells_len (L : List Opn) : (opCells L).length = L.length * 4 := by
  induction L with
  | nil => rfl
  | cons x L ih => rw [opCells_cons]; simp [ih]; omega
theorem opCells_app (L M : List Opn) : opCells (L ++ M) = opCells L ++ opCells M := by simp [opCells]
theorem opCells_at (L : List Opn) (i : Nat) (h : i < L.length) : (opCells L)[i * 4]? = some (.int .u8 L[i].kind) ∧ (opCells L)[i * 4 + 1]? = some (.int .u32 L[i].a) ∧ (opCells L)[i * 4 + 2]? = some (.int .u32 L[i].b) ∧ (opCells L)[i * 4 + 3]? = some (.int .u32 L[i].c) := by
  induction L generalizing i with
  | nil => simp at h
  | cons x L ih =>
    rw [opCells_cons]
    cases i with
    | zero => exact ⟨rfl, rfl, rfl, rfl⟩
    | succ i =>
      have e : (i + 1) * 4 = i * 4 + 4 := by omega
      have := ih i (by simpa using h)
      simp only [e, List.getElem_cons_succ]
      exact this
/-- An operation's four numbers lie there. -/
def OpAt (w : World) (b o : Nat) (x : Opn) : Prop := w.cell? ⟨b, o, none⟩ = some (.int .u8 x.kind) ∧ w.cell? ⟨b, o + 1, none⟩ = some (.int .u32 x.a) ∧ w.cell? ⟨b, o + 2, none⟩ = some (.int .u32 x.b) ∧ w.cell? ⟨b, o + 3, none⟩ = some (.int .u32 x.c)
theorem OpAt.ext {w w' : World} {b o : Nat} {x : Opn} (h : OpAt w b o x) (e : Ext w w') : OpAt w' b o x := ⟨ext_cell e h.1, ext_cell e h.2.1, ext_cell e h.2.2.1, ext_cell e h.2.2.2⟩
theorem getD_op (L : List Opn) (i : Nat) (h : i < L.length) : L.getD i zop = L[i] := by simp [h]
theorem OpsFit.get {L : List Opn} (h : OpsFit L) (i : Nat) : (L.getD i zop).Fits := by
  by_cases hi : i < L.length
  · rw [getD_op L i hi]; exact h _ (List.getElem_mem hi)
  · rw [List.getD_eq_getElem?_getD, List.getElem?_eq_none (by omega)]
    exact ⟨by decide, by decide, by decide, by decide⟩
/-- The cells of an operation of a slice. -/
theorem SlAt.op {w : World} {ad : Option Addr} {n cap : Nat} {L : List Opn} (h : SlAt w ad n cap (opCells L)) {i : Nat} (h1 : i < L.length) :
    ∃ b o, ad = some ⟨b, o, none⟩ ∧ b < w.heap.size ∧ OpAt w b (o + i * 4) (L.getD i zop) := by
  obtain ⟨c0, c1, c2, c3⟩ := opCells_at L i h1
  obtain ⟨_, _, h3⟩ := h
  rw [getD_op L i h1]
  rcases h3 with ⟨_, h⟩ | ⟨b, o, e, hc⟩
  · rw [h] at c0; simp at c0
  · exact ⟨b, o, e, World.block_lt_of_cell? w _ (hc _ _ c0), hc _ _ c0, hc _ _ c1, hc _ _ c2, hc _ _ c3⟩
end Go.Proofs.YtknfikdignpniaaDoor
/- A law's arguments that are slices of operations, opened. -/
namespace Go.Proofs.YtknfikdignpniaaDoor
open Go.ChangeShapes Go.WideShapes Go.ChangeAt Go.WideMaps Go.WideElems Go.RowKit Go.Joins Go.Deep
set_option maxRecDepth 100000
set_option maxHeartbeats 8000000

theorem open_ops {H : Type} {enc : TypeId × Value → H} {W : World} {b0 base : Nat} {spare : Nat → Bool} {held : Bool} {r : Reach} {v : Value} {d : DataW H} {p : List MemPlace} (hv : Value.okWide Tryd.prog W r b0 25 v) (h : DataW.Trod enc Tryd.prog W base spare held 25 v d p) :
    ∃ L : List Opn, OpsFit L ∧ Sl W v L.length (opCells L) := by
  obtain ⟨a0, len, cap, rfl⟩ := okWide_slice Tryd.underlying25 hv
  obtain ⟨fuel, hf⟩ := h
  rcases open_structs Tryd.underlying25 Tryd.underlying28 (by kernel_rfl) cells_opn hf with h0 | ⟨a, len', cap', hcs, h1, h2, hi⟩
  · simp [Value.cells] at h0
    obtain ⟨rfl, rfl, rfl⟩ := h0
    exact ⟨[], fun x hx => (by cases hx), none, 0, rfl, Nat.le_refl _, by decide, Or.inl ⟨rfl, rfl⟩⟩
  · simp [Value.cells] at hcs
    obtain ⟨rfl, rfl, rfl⟩ := hcs
    have key : ∀ k, k ≤ len → ∃ L : List Opn, L.length = k ∧ OpsFit L ∧ ∀ (j : Nat) (u : Value), (opCells L)[j]? = some u → W.cell? (a.add j) = some u := by
      intro k
      induction k with
      | zero => intro _; exact ⟨[], rfl, fun x hx => (by cases hx), fun j u hu => by simp [opCells] at hu⟩
      | succ k ih =>
        intro hk
        obtain ⟨L, hl, hfit, hc⟩ := ih (by omega)
        obtain ⟨v0, y0, n0, c0, t0⟩ := hi k (by omega) 0 _ rfl
        obtain ⟨v1, y1, n1, c1, t1⟩ := hi k (by omega) 1 _ rfl
        obtain ⟨v2, y2, n2, c2, t2⟩ := hi k (by omega) 2 _ rfl
        obtain ⟨v3, y3, n3, c3, t3⟩ := hi k (by omega) 3 _ rfl
        obtain ⟨a0, e0, rfl, w0⟩ := DataW.trod_int Tryd.underlying5 t0
        obtain ⟨a1, e1, rfl, w1⟩ := DataW.trod_int Tryd.underlying26 t1
        obtain ⟨a2, e2, rfl, w2⟩ := DataW.trod_int Tryd.underlying26 t2
        obtain ⟨a3, e3, rfl, w3⟩ := DataW.trod_int Tryd.underlying26 t3
        simp only [List.cons.injEq, and_true] at e0 e1 e2 e3
        subst e0 e1 e2 e3
        refine ⟨L ++ [⟨a0, a1, a2, a3⟩], by simp [hl], ?_, fun j u hu => ?_⟩
        · intro x hx
          rcases List.mem_append.1 hx with hx | hx
          · exact hfit x hx
          · simp at hx
            subst hx
            exact ⟨wf_bd w0, wf_bd w1, wf_bd w2, wf_bd w3⟩
        · rw [opCells_app] at hu
          have hlen : (opCells L).length = k * 4 := by rw [opCells_len, hl]
          by_cases hj : j < (opCells L).length
          · rw [List.getElem?_append_left hj] at hu
            exact hc j u hu
          · rw [List.getElem?_append_right (by omega), hlen] at hu
            rw [hlen] at hj
            have hj4 := (List.getElem?_eq_some_iff.1 hu).1
            simp [opCells, Opn.cells] at hj4
            obtain h | h | h | h : j = k * 4 + 0 ∨ j = k * 4 + 1 ∨ j = k * 4 + 2 ∨ j = k * 4 + 3 := by omega
            all_goals
              subst h
              simp [opCells, Opn.cells] at hu
              subst hu
              first | exact c0 | exact c1 | exact c2 | exact c3
    obtain ⟨L, hl, hfit, hc⟩ := key len (Nat.le_refl _)
    refine ⟨L, hfit, some a, cap, by rw [hl], by rw [hl]; exact h1, h2, ?_⟩
    by_cases h0 : len = 0
    · subst h0
      obtain rfl : L = [] := List.eq_nil_of_length_eq_zero hl
      exact Or.inl ⟨rfl, rfl⟩
    · obtain ⟨b, o, sp⟩ := a
      have hx := hc 0 (.int .u8 (L[0]'(by omega)).kind) (opCells_at L 0 (by omega)).1
      cases sp with
      | some z =>
        exfalso
        simp only [World.cell?, Addr.add, Option.isSome_some, if_true] at hx
        split at hx <;> simp at hx
      | none => exact Or.inr ⟨b, o, rfl, fun j u hu => by have := hc j u hu; rwa [Addr.add_lit] at this⟩
end Go.Proofs.YtknfikdignpniaaDoor
/- A law's row where a package variable is read that the statement does not list: what the world's shape says of it. -/
namespace Go.Proofs.YtknfikdignpniaaDoor
open Go Go.ChangeShapes Go.WideShapes Go.ChangeAt Go.RowKit
set_option maxRecDepth 100000
set_option maxHeartbeats 8000000

/-- The row's wrap with a condition on the laid variables, the world's shape kept. -/
theorem rowShaped {H : Type} {enc : TypeId × Value → H} {a : Assume} {C : Checked} {os : Os} {f : FuncId} {fn : Func} {s : ChangeSpec} {conds : List PathCond} {apart fresh handsOn again : Bool} {X : World → Array Value → Prop}
    (hX : ∀ (w w' : World) (args : Array Value), w.heap = w'.heap → X w args → X w' args)
    (ow : ownKnob C.prog.godebug = none) (started : os.Started) (noInit : C.prog.inits.idxOf? f = none) (hfn : C.prog.funcs[f]? = some fn)
    (witness : ∃ (w : World) (tape : Tape) (i : Input), w.os = os ∧ (w.forCall tape i).Shaped C.prog ∧ i.vars = [] ∧ Input.okWide C.prog (w.forCall tape i) .any w.heap.size f i ∧
      ((s.pre enc C.prog fn conds apart (w.forCall tape i).memory i.args ∧ X (w.forCall tape i).memory i.args) ∧ sizedMet enc C.prog fn (OpenSpec.ofChange s) apart (w.forCall tape i).memory i.args) ∧ a.holds C.prog (lone (Frame.enter C.prog f i.args .normal) [] (w.forCall tape i)))
    (contract : ∀ (W : World) (base : Nat) (args : Array Value) (ds gs : List (DataW H)) (before : List MemPlace),
      (∀ (j : Nat) t v, fn.params[j]? = some t → args[j]? = some v → Value.okWide C.prog W .any base t v) →
      DataW.Whole enc C.prog fn.params.toList s.vars apart W args.toList ds gs before →
      X W args → W.ShapedOpen C.prog →
      Calls C.prog f args W fun e W' => ∃ v, e = .returned v ∧ s.post enc C.prog fn apart fresh handsOn again W args v W') :
    ReturnsInHanded a C os f .any (fun w args => (s.pre enc C.prog fn conds apart w args ∧ X w args) ∧ sizedMet enc C.prog fn (OpenSpec.ofChange s) apart w args) (s.post enc C.prog fn apart fresh handsOn again) := by
  refine returnsInHanded_of_calls ow started noInit witness fun w tape i _ hsh _ hok hpre _ => ?_
  obtain ⟨_, _, _, fn', hfn', _, _, _, _, hval⟩ := hok
  obtain rfl : fn' = fn := Option.some.inj (hfn'.symm.trans hfn)
  obtain ⟨⟨⟨ds, gs, before, hw, _⟩, hx⟩, _⟩ := hpre
  refine (contract (w.forCall tape i) w.heap.size i.args ds gs before hval (DataW.Whole.of_heap (w' := w.forCall tape i) (by rfl) hw) (hX _ _ _ (by rfl) hx) hsh).mono fun e W' ⟨v, he, hp⟩ => ?_
  subst he
  exact ChangeSpec.post_blind hp
/-- The table of writers holds some Bools, in every world of the right shape. -/
theorem bools_of_shaped {W : World} (h : W.ShapedOpen Tryd.prog) : 1 < W.heap.size ∧ ∀ k : Nat, k < 15 → ∃ b, W.cell? ⟨1, k, none⟩ = some (.bool b) := by
  obtain ⟨cs, hh, hs, hr⟩ := h.1 1 (Array.replicate 15 (.bool false)) 99 (by decide +kernel) (by kernel_rfl)
  have hs' : cs.size = 15 := hs
  obtain ⟨ts, hts, _, hall⟩ := hr (by kernel_rfl)
  have hq : Tryd.prog.cellTypes Tryd.prog.depth 99 = some (List.replicate 15 4) := by kernel_rfl
  rw [hq] at hts
  cases hts
  refine ⟨(Array.getElem?_eq_some_iff.1 hh).1, fun k hk => ?_⟩
  have h1 : k < cs.size := by omega
  obtain ⟨u, hu, hok⟩ := hall k cs[k] (by simp [h1])
  rw [List.length_replicate, Nat.mod_eq_of_lt hk] at hu
  have hu' : u = 4 := by
    rw [List.getElem?_replicate, if_pos hk] at hu
    exact (Option.some.inj hu).symm
  subst hu'
  have hcell : W.cell? ⟨1, k, none⟩ = some cs[k] := by simp [World.cell?, hh, h1]
  rw [hcell]
  unfold Cell.ok at hok
  rw [Tryd.underlying4] at hok
  cases hv : cs[k] <;> rw [hv] at hok <;> simp at hok
  case bool b => exact ⟨b, rfl⟩
theorem tabQ_of {W : World} (h : laidMetH Tryd.prog laidL W) (hs : W.ShapedOpen Tryd.prog) : TabQ W := ⟨tab_of_laid h, bools_of_shaped hs⟩
end Go.Proofs.YtknfikdignpniaaDoor
