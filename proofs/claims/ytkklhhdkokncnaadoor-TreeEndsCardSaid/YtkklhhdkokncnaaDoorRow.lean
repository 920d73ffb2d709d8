/- A law's row: its arguments opened, the listed variable, the row's last step. -/
import Derived.Test.YtkklhhdkokncnaaDoorRows
import Derived.Test.YtkklhhdkokncnaaDoorA0
import Derived.ProofKit
import Derived.LaidMore
import Derived.OpenShut
import Derived.Stop.Joined
import Derived.Lib.SmallJoins
import Derived.Deep.Slices
import Derived.Deep.Fields
import Derived.ChangeSame
import Derived.SevenTiedAt
namespace Go.Proofs.YtkklhhdkokncnaaDoor
open Go.ChangeShapes Go.WideShapes Go.ChangeAt Go.WideMaps Go.WideElems Go.RowKit Go.Joins Go.Deep
set_option maxRecDepth 100000
set_option maxHeartbeats 8000000

section
variable {H : Type} {enc : TypeId × Value → H} {P : Program} {w : World} {base : Nat} {spare : Nat → Bool} {held : Bool}

theorem open_agg12' {r : Reach} {b0 : Nat} {t : TypeId} {f0 f1 f2 f3 f4 f5 f6 f7 f8 f9 f10 f11 : Field} {v : Value} {d : DataW H} {p : List MemPlace} (hs : P.underlying t = some (.struct #[f0, f1, f2, f3, f4, f5, f6, f7, f8, f9, f10, f11])) (hone : oneCellFields P #[f0, f1, f2, f3, f4, f5, f6, f7, f8, f9, f10, f11] = true) (hC : P.cellsOf t = 12)
    (hv : Value.okWide P w r b0 t v) (h : DataW.Trod enc P w base spare held t v d p) :
    ∃ (v0 v1 v2 v3 v4 v5 v6 v7 v8 v9 v10 v11 : Value) (y0 y1 y2 y3 y4 y5 y6 y7 y8 y9 y10 y11 : DataW H × List MemPlace) (n : Nat), v = .agg #[v0, v1, v2, v3, v4, v5, v6, v7, v8, v9, v10, v11] ∧ d = .agg [y0.1, y1.1, y2.1, y3.1, y4.1, y5.1, y6.1, y7.1, y8.1, y9.1, y10.1, y11.1] ∧ p = y0.2 ++ (y1.2 ++ (y2.2 ++ (y3.2 ++ (y4.2 ++ (y5.2 ++ (y6.2 ++ (y7.2 ++ (y8.2 ++ (y9.2 ++ (y10.2 ++ (y11.2))))))))))) ∧
      DataW.trod enc P w base spare held n f0.type [v0] = some y0 ∧ DataW.trod enc P w base spare held n f1.type [v1] = some y1 ∧ DataW.trod enc P w base spare held n f2.type [v2] = some y2 ∧ DataW.trod enc P w base spare held n f3.type [v3] = some y3 ∧ DataW.trod enc P w base spare held n f4.type [v4] = some y4 ∧ DataW.trod enc P w base spare held n f5.type [v5] = some y5 ∧ DataW.trod enc P w base spare held n f6.type [v6] = some y6 ∧ DataW.trod enc P w base spare held n f7.type [v7] = some y7 ∧ DataW.trod enc P w base spare held n f8.type [v8] = some y8 ∧ DataW.trod enc P w base spare held n f9.type [v9] = some y9 ∧ DataW.trod enc P w base spare held n f10.type [v10] = some y10 ∧ DataW.trod enc P w base spare held n f11.type [v11] = some y11 := by
  obtain ⟨cs, rfl, hsz⟩ := okWide_struct hs hv
  obtain ⟨l⟩ := cs
  match l, hsz.trans hC with
  | [c0, c1, c2, c3, c4, c5, c6, c7, c8, c9, c10, c11], _ =>
    obtain ⟨fuel, hf⟩ := h
    obtain ⟨xs, n, _, hx, _, hlen, hg⟩ := DataW.trod_struct hs hf
    obtain ⟨o0, k0⟩ := hone_of hone 0 f0 rfl
    obtain ⟨o1, k1⟩ := hone_of hone 1 f1 rfl
    obtain ⟨o2, k2⟩ := hone_of hone 2 f2 rfl
    obtain ⟨o3, k3⟩ := hone_of hone 3 f3 rfl
    obtain ⟨o4, k4⟩ := hone_of hone 4 f4 rfl
    obtain ⟨o5, k5⟩ := hone_of hone 5 f5 rfl
    obtain ⟨o6, k6⟩ := hone_of hone 6 f6 rfl
    obtain ⟨o7, k7⟩ := hone_of hone 7 f7 rfl
    obtain ⟨o8, k8⟩ := hone_of hone 8 f8 rfl
    obtain ⟨o9, k9⟩ := hone_of hone 9 f9 rfl
    obtain ⟨o10, k10⟩ := hone_of hone 10 f10 rfl
    obtain ⟨o11, k11⟩ := hone_of hone 11 f11 rfl
    match xs, hlen with
    | [y0, y1, y2, y3, y4, y5, y6, y7, y8, y9, y10, y11], _ =>
      simp only [Prod.mk.injEq] at hx
      exact ⟨c0, c1, c2, c3, c4, c5, c6, c7, c8, c9, c10, c11, y0, y1, y2, y3, y4, y5, y6, y7, y8, y9, y10, y11, n, rfl, by simpa using hx.1, by simpa using hx.2, by simpa [Value.cells, o0, k0] using hg 0 f0 rfl, by simpa [Value.cells, o1, k1] using hg 1 f1 rfl, by simpa [Value.cells, o2, k2] using hg 2 f2 rfl, by simpa [Value.cells, o3, k3] using hg 3 f3 rfl, by simpa [Value.cells, o4, k4] using hg 4 f4 rfl, by simpa [Value.cells, o5, k5] using hg 5 f5 rfl, by simpa [Value.cells, o6, k6] using hg 6 f6 rfl, by simpa [Value.cells, o7, k7] using hg 7 f7 rfl, by simpa [Value.cells, o8, k8] using hg 8 f8 rfl, by simpa [Value.cells, o9, k9] using hg 9 f9 rfl, by simpa [Value.cells, o10, k10] using hg 10 f10 rfl, by simpa [Value.cells, o11, k11] using hg 11 f11 rfl⟩

theorem open_agg11' {r : Reach} {b0 : Nat} {t : TypeId} {f0 f1 f2 f3 f4 f5 f6 f7 f8 f9 f10 : Field} {v : Value} {d : DataW H} {p : List MemPlace} (hs : P.underlying t = some (.struct #[f0, f1, f2, f3, f4, f5, f6, f7, f8, f9, f10])) (hone : oneCellFields P #[f0, f1, f2, f3, f4, f5, f6, f7, f8, f9, f10] = true) (hC : P.cellsOf t = 11)
    (hv : Value.okWide P w r b0 t v) (h : DataW.Trod enc P w base spare held t v d p) :
    ∃ (v0 v1 v2 v3 v4 v5 v6 v7 v8 v9 v10 : Value) (y0 y1 y2 y3 y4 y5 y6 y7 y8 y9 y10 : DataW H × List MemPlace) (n : Nat), v = .agg #[v0, v1, v2, v3, v4, v5, v6, v7, v8, v9, v10] ∧ d = .agg [y0.1, y1.1, y2.1, y3.1, y4.1, y5.1, y6.1, y7.1, y8.1, y9.1, y10.1] ∧ p = y0.2 ++ (y1.2 ++ (y2.2 ++ (y3.2 ++ (y4.2 ++ (y5.2 ++ (y6.2 ++ (y7.2 ++ (y8.2 ++ (y9.2 ++ (y10.2)))))))))) ∧
      DataW.trod enc P w base spare held n f0.type [v0] = some y0 ∧ DataW.trod enc P w base spare held n f1.type [v1] = some y1 ∧ DataW.trod enc P w base spare held n f2.type [v2] = some y2 ∧ DataW.trod enc P w base spare held n f3.type [v3] = some y3 ∧ DataW.trod enc P w base spare held n f4.type [v4] = some y4 ∧ DataW.trod enc P w base spare held n f5.type [v5] = some y5 ∧ DataW.trod enc P w base spare held n f6.type [v6] = some y6 ∧ DataW.trod enc P w base spare held n f7.type [v7] = some y7 ∧ DataW.trod enc P w base spare held n f8.type [v8] = some y8 ∧ DataW.trod enc P w base spare held n f9.type [v9] = some y9 ∧ DataW.trod enc P w base spare held n f10.type [v10] = some y10 := by
  obtain ⟨cs, rfl, hsz⟩ := okWide_struct hs hv
  obtain ⟨l⟩ := cs
  match l, hsz.trans hC with
  | [c0, c1, c2, c3, c4, c5, c6, c7, c8, c9, c10], _ =>
    obtain ⟨fuel, hf⟩ := h
    obtain ⟨xs, n, _, hx, _, hlen, hg⟩ := DataW.trod_struct hs hf
    obtain ⟨o0, k0⟩ := hone_of hone 0 f0 rfl
    obtain ⟨o1, k1⟩ := hone_of hone 1 f1 rfl
    obtain ⟨o2, k2⟩ := hone_of hone 2 f2 rfl
    obtain ⟨o3, k3⟩ := hone_of hone 3 f3 rfl
    obtain ⟨o4, k4⟩ := hone_of hone 4 f4 rfl
    obtain ⟨o5, k5⟩ := hone_of hone 5 f5 rfl
    obtain ⟨o6, k6⟩ := hone_of hone 6 f6 rfl
    obtain ⟨o7, k7⟩ := hone_of hone 7 f7 rfl
    obtain ⟨o8, k8⟩ := hone_of hone 8 f8 rfl
    obtain ⟨o9, k9⟩ := hone_of hone 9 f9 rfl
    obtain ⟨o10, k10⟩ := hone_of hone 10 f10 rfl
    match xs, hlen with
    | [y0, y1, y2, y3, y4, y5, y6, y7, y8, y9, y10], _ =>
      simp only [Prod.mk.injEq] at hx
      exact ⟨c0, c1, c2, c3, c4, c5, c6, c7, c8, c9, c10, y0, y1, y2, y3, y4, y5, y6, y7, y8, y9, y10, n, rfl, by simpa using hx.1, by simpa using hx.2, by simpa [Value.cells, o0, k0] using hg 0 f0 rfl, by simpa [Value.cells, o1, k1] using hg 1 f1 rfl, by simpa [Value.cells, o2, k2] using hg 2 f2 rfl, by simpa [Value.cells, o3, k3] using hg 3 f3 rfl, by simpa [Value.cells, o4, k4] using hg 4 f4 rfl, by simpa [Value.cells, o5, k5] using hg 5 f5 rfl, by simpa [Value.cells, o6, k6] using hg 6 f6 rfl, by simpa [Value.cells, o7, k7] using hg 7 f7 rfl, by simpa [Value.cells, o8, k8] using hg 8 f8 rfl, by simpa [Value.cells, o9, k9] using hg 9 f9 rfl, by simpa [Value.cells, o10, k10] using hg 10 f10 rfl⟩

theorem open_agg4' {r : Reach} {b0 : Nat} {t : TypeId} {f0 f1 f2 f3 : Field} {v : Value} {d : DataW H} {p : List MemPlace} (hs : P.underlying t = some (.struct #[f0, f1, f2, f3])) (hone : oneCellFields P #[f0, f1, f2, f3] = true) (hC : P.cellsOf t = 4)
    (hv : Value.okWide P w r b0 t v) (h : DataW.Trod enc P w base spare held t v d p) :
    ∃ (v0 v1 v2 v3 : Value) (y0 y1 y2 y3 : DataW H × List MemPlace) (n : Nat), v = .agg #[v0, v1, v2, v3] ∧ d = .agg [y0.1, y1.1, y2.1, y3.1] ∧ p = y0.2 ++ (y1.2 ++ (y2.2 ++ (y3.2))) ∧
      DataW.trod enc P w base spare held n f0.type [v0] = some y0 ∧ DataW.trod enc P w base spare held n f1.type [v1] = some y1 ∧ DataW.trod enc P w base spare held n f2.type [v2] = some y2 ∧ DataW.trod enc P w base spare held n f3.type [v3] = some y3 := by
  obtain ⟨cs, rfl, hsz⟩ := okWide_struct hs hv
  obtain ⟨l⟩ := cs
  match l, hsz.trans hC with
  | [c0, c1, c2, c3], _ =>
    obtain ⟨fuel, hf⟩ := h
    obtain ⟨xs, n, _, hx, _, hlen, hg⟩ := DataW.trod_struct hs hf
    obtain ⟨o0, k0⟩ := hone_of hone 0 f0 rfl
    obtain ⟨o1, k1⟩ := hone_of hone 1 f1 rfl
    obtain ⟨o2, k2⟩ := hone_of hone 2 f2 rfl
    obtain ⟨o3, k3⟩ := hone_of hone 3 f3 rfl
    match xs, hlen with
    | [y0, y1, y2, y3], _ =>
      simp only [Prod.mk.injEq] at hx
      exact ⟨c0, c1, c2, c3, y0, y1, y2, y3, n, rfl, by simpa using hx.1, by simpa using hx.2, by simpa [Value.cells, o0, k0] using hg 0 f0 rfl, by simpa [Value.cells, o1, k1] using hg 1 f1 rfl, by simpa [Value.cells, o2, k2] using hg 2 f2 rfl, by simpa [Value.cells, o3, k3] using hg 3 f3 rfl⟩
end

theorem wf_bd {k : IntKind} {n : Int} (h : (Lit.int k n).wf = true) : k.min ≤ n ∧ n ≤ k.max := by
  simpa [Lit.wf] using h

theorem cells_cfg : Tryd.prog.cellsOf 24 = 12 := by kernel_rfl
theorem open_cfg {H : Type} {enc : TypeId × Value → H} {W : World} {b0 base : Nat} {spare : Nat → Bool} {held : Bool} {r : Reach} {v : Value} {d : DataW H} {p : List MemPlace} (hv : Value.okWide Tryd.prog W r b0 24 v) (h : DataW.Trod enc Tryd.prog W base spare held 24 v d p) :
    ∃ c : Cfg, v = c.v ∧ p = [] := by
  obtain ⟨v0, v1, v2, v3, v4, v5, v6, v7, v8, v9, v10, v11, y0, y1, y2, y3, y4, y5, y6, y7, y8, y9, y10, y11, m, rfl, _, rfl, t0, t1, t2, t3, t4, t5, t6, t7, t8, t9, t10, t11⟩ := open_agg12' Tryd.underlying24 (by kernel_rfl) cells_cfg hv h
  obtain ⟨a0, e0, rfl, w0⟩ := DataW.trod_int Tryd.underlying5 t0
  obtain ⟨a1, e1, rfl, w1⟩ := DataW.trod_int Tryd.underlying3 t1
  obtain ⟨a2, e2, rfl, w2⟩ := DataW.trod_int Tryd.underlying3 t2
  obtain ⟨a3, e3, rfl, w3⟩ := DataW.trod_int Tryd.underlying5 t3
  obtain ⟨a4, e4, rfl, w4⟩ := DataW.trod_int Tryd.underlying3 t4
  obtain ⟨a5, e5, rfl, w5⟩ := DataW.trod_int Tryd.underlying3 t5
  obtain ⟨a6, e6, rfl, w6⟩ := DataW.trod_int Tryd.underlying3 t6
  obtain ⟨a7, e7, rfl, w7⟩ := DataW.trod_int Tryd.underlying3 t7
  obtain ⟨a8, e8, rfl, w8⟩ := DataW.trod_int Tryd.underlying3 t8
  obtain ⟨a9, e9, rfl, w9⟩ := DataW.trod_int Tryd.underlying3 t9
  obtain ⟨a10, e10, rfl, w10⟩ := DataW.trod_int Tryd.underlying22 t10
  obtain ⟨a11, e11, rfl, w11⟩ := DataW.trod_int Tryd.underlying22 t11
  simp only [List.cons.injEq, and_true] at e0 e1 e2 e3 e4 e5 e6 e7 e8 e9 e10 e11
  subst e0 e1 e2 e3 e4 e5 e6 e7 e8 e9 e10 e11
  exact ⟨⟨a0, a1, a2, a3, a4, a5, a6, a7, a8, a9, a10, a11⟩, rfl, rfl⟩

theorem cells_cel : Tryd.prog.cellsOf 37 = 4 := by kernel_rfl
theorem open_cel {H : Type} {enc : TypeId × Value → H} {W : World} {b0 base : Nat} {spare : Nat → Bool} {held : Bool} {r : Reach} {v : Value} {d : DataW H} {p : List MemPlace} (hv : Value.okWide Tryd.prog W r b0 37 v) (h : DataW.Trod enc Tryd.prog W base spare held 37 v d p) :
    ∃ c : Cel, v = c.v ∧ p = [] ∧ c.Fits := by
  obtain ⟨v0, v1, v2, v3, y0, y1, y2, y3, m, rfl, _, rfl, t0, t1, t2, t3⟩ := open_agg4' Tryd.underlying37 (by kernel_rfl) cells_cel hv h
  obtain ⟨a0, e0, rfl, w0⟩ := DataW.trod_int Tryd.underlying22 t0
  obtain ⟨a1, e1, rfl, w1⟩ := DataW.trod_int Tryd.underlying22 t1
  obtain ⟨a2, e2, rfl, w2⟩ := DataW.trod_int Tryd.underlying22 t2
  obtain ⟨a3, e3, rfl, w3⟩ := DataW.trod_int Tryd.underlying22 t3
  simp only [List.cons.injEq, and_true] at e0 e1 e2 e3
  subst e0 e1 e2 e3
  have b0 := wf_bd w0
  have b1 := wf_bd w1
  have b2 := wf_bd w2
  have b3 := wf_bd w3
  exact ⟨⟨a0, a1, a2, a3⟩, rfl, rfl, ⟨b0, b1, b2, b3⟩⟩

theorem cells_opn : Tryd.prog.cellsOf 54 = 4 := by kernel_rfl
theorem open_opn {H : Type} {enc : TypeId × Value → H} {W : World} {b0 base : Nat} {spare : Nat → Bool} {held : Bool} {r : Reach} {v : Value} {d : DataW H} {p : List MemPlace} (hv : Value.okWide Tryd.prog W r b0 54 v) (h : DataW.Trod enc Tryd.prog W base spare held 54 v d p) :
    ∃ c : Opn, v = c.v ∧ p = [] ∧ c.Fits := by
  obtain ⟨v0, v1, v2, v3, y0, y1, y2, y3, m, rfl, _, rfl, t0, t1, t2, t3⟩ := open_agg4' Tryd.underlying54 (by kernel_rfl) cells_opn hv h
  obtain ⟨a0, e0, rfl, w0⟩ := DataW.trod_int Tryd.underlying5 t0
  obtain ⟨a1, e1, rfl, w1⟩ := DataW.trod_int Tryd.underlying25 t1
  obtain ⟨a2, e2, rfl, w2⟩ := DataW.trod_int Tryd.underlying25 t2
  obtain ⟨a3, e3, rfl, w3⟩ := DataW.trod_int Tryd.underlying25 t3
  simp only [List.cons.injEq, and_true] at e0 e1 e2 e3
  subst e0 e1 e2 e3
  have b0 := wf_bd w0
  have b1 := wf_bd w1
  have b2 := wf_bd w2
  have b3 := wf_bd w3
  exact ⟨⟨a0, a1, a2, a3⟩, rfl, rfl, ⟨b0, b1, b2, b3⟩⟩

theorem cells_frm : Tryd.prog.cellsOf 27 = 11 := by kernel_rfl
theorem open_frm {H : Type} {enc : TypeId × Value → H} {W : World} {b0 base : Nat} {spare : Nat → Bool} {held : Bool} {r : Reach} {v : Value} {d : DataW H} {p : List MemPlace} (hv : Value.okWide Tryd.prog W r b0 27 v) (h : DataW.Trod enc Tryd.prog W base spare held 27 v d p) :
    ∃ c : Frm, v = c.v ∧ p = [] ∧ c.Fits := by
  obtain ⟨v0, v1, v2, v3, v4, v5, v6, v7, v8, v9, v10, y0, y1, y2, y3, y4, y5, y6, y7, y8, y9, y10, m, rfl, _, rfl, t0, t1, t2, t3, t4, t5, t6, t7, t8, t9, t10⟩ := open_agg11' Tryd.underlying27 (by kernel_rfl) cells_frm hv h
  obtain ⟨a0, e0, rfl, w0⟩ := DataW.trod_int Tryd.underlying5 t0
  obtain ⟨a1, e1, rfl, w1⟩ := DataW.trod_int Tryd.underlying25 t1
  obtain ⟨a2, e2, rfl, w2⟩ := DataW.trod_int Tryd.underlying25 t2
  obtain ⟨a3, e3, rfl, w3⟩ := DataW.trod_int Tryd.underlying5 t3
  obtain ⟨a4, e4, rfl, w4⟩ := DataW.trod_int Tryd.underlying5 t4
  obtain ⟨a5, e5, rfl, w5⟩ := DataW.trod_int Tryd.underlying5 t5
  obtain ⟨a6, e6, rfl, w6⟩ := DataW.trod_int Tryd.underlying5 t6
  obtain ⟨a7, e7, rfl, w7⟩ := DataW.trod_int Tryd.underlying5 t7
  obtain ⟨a8, e8, rfl, w8⟩ := DataW.trod_int Tryd.underlying5 t8
  obtain ⟨a9, e9, rfl, w9⟩ := DataW.trod_int Tryd.underlying25 t9
  obtain ⟨a10, e10, rfl, w10⟩ := DataW.trod_int Tryd.underlying25 t10
  simp only [List.cons.injEq, and_true] at e0 e1 e2 e3 e4 e5 e6 e7 e8 e9 e10
  subst e0 e1 e2 e3 e4 e5 e6 e7 e8 e9 e10
  have b0 := wf_bd w0
  have b1 := wf_bd w1
  have b2 := wf_bd w2
  have b3 := wf_bd w3
  have b4 := wf_bd w4
  have b5 := wf_bd w5
  have b6 := wf_bd w6
  have b7 := wf_bd w7
  have b8 := wf_bd w8
  have b9 := wf_bd w9
  have b10 := wf_bd w10
  exact ⟨⟨a0, a1, a2, a3, a4, a5, a6, a7, a8, a9, a10⟩, rfl, rfl, ⟨b0, b1, b2, b3, b4, b5, b6, b7, b8, b9, b10⟩⟩

theorem own : ownKnob Tryd.prog.godebug = none := by kernel_rfl
theorem gObjects : Tryd.prog.globalNamed "bascule/op.objects" = some 1 := by kernel_rfl
theorem tObjects : (Tryd.prog.globals[1]?).map (·.type) = some 151 := by kernel_rfl
theorem gPowers : Tryd.prog.globalNamed "bascule/rank.powers" = some 2 := by kernel_rfl
theorem tPowers : (Tryd.prog.globals[2]?).map (·.type) = some 154 := by kernel_rfl
theorem cellsU8 : Tryd.prog.cellsOf 5 = 1 := by kernel_rfl
theorem cellsI : Tryd.prog.cellsOf 3 = 1 := by kernel_rfl
theorem cells5 : Tryd.prog.cellsOf 140 = 5 := by kernel_rfl
abbrev laidL : List (String × DataW Unit) := [("bascule/rank.powers", Rows.laid_bascule_rank_powers), ("bascule/op.objects", Rows.laid_bascule_op_objects)]
/-- The door's own heap meets the condition. -/
theorem door_met (os : Os) (args : Array Value) : laidMetH Tryd.prog laidL ((World.doorLaid Tryd.prog 400 os).forCall (fun _ _ => 0) ⟨#[], args, []⟩).memory :=
  laidMetH_of_parts3 (fuel := 8) (laidMet_of_run' 8 (by kernel_rfl) (by kernel_rfl)) (by kernel_rfl) (by kernel_rfl)
theorem tab_cell {H : Type} {enc : TypeId × Value → H} {W : World} {base m : Nat} {spare : Nat → Bool} {held : Bool} {l : List Value} {k : Nat} {y : DataW H × List MemPlace} {n : Int}
    (h : DataW.trod enc Tryd.prog W base spare held m 5 ((l.drop (k * 1)).take 1) = some y) (hy : y.1 = .lit (.int .u8 n)) : l[k]? = some (.int .u8 n) := by
  obtain ⟨a, e, rfl, _⟩ := DataW.trod_int Tryd.underlying5 h
  simp only [DataW.lit.injEq, Lit.int.injEq, true_and] at hy
  subst hy
  have h1 : ((l.drop (k * 1)).take 1)[0]? = some (.int .u8 a) := by rw [e]; rfl
  simpa using h1
theorem tab_cellI {H : Type} {enc : TypeId × Value → H} {W : World} {base m : Nat} {spare : Nat → Bool} {held : Bool} {l : List Value} {k : Nat} {y : DataW H × List MemPlace} {n : Int}
    (h : DataW.trod enc Tryd.prog W base spare held m 3 ((l.drop (k * 1)).take 1) = some y) (hy : y.1 = .lit (.int .i64 n)) : l[k]? = some (.int .i64 n) := by
  obtain ⟨a, e, rfl, _⟩ := DataW.trod_int Tryd.underlying3 h
  simp only [DataW.lit.injEq, Lit.int.injEq, true_and] at hy
  subst hy
  have h1 : ((l.drop (k * 1)).take 1)[0]? = some (.int .i64 a) := by rw [e]; rfl
  simpa using h1
theorem tab_row {H : Type} {enc : TypeId × Value → H} {W : World} {base m : Nat} {spare : Nat → Bool} {held : Bool} {l : List Value} {i : Nat} {y : DataW H × List MemPlace} {a b c d e : Int}
    (h : DataW.trod enc Tryd.prog W base spare held m 140 ((l.drop (i * 5)).take 5) = some y) (hy : y.1 = .agg [.lit (.int .i64 a), .lit (.int .i64 b), .lit (.int .i64 c), .lit (.int .i64 d), .lit (.int .i64 e)]) :
    ∀ k : Nat, k < 5 → l[i * 5 + k]? = some (.int .i64 ([a, b, c, d, e].getD k 0)) := by
  intro k hk
  obtain ⟨xs, m1, rfl, hx1, hlen, hn3, hel⟩ := DataW.trod_array Tryd.underlying140 h
  rw [cellsI] at hel
  rw [hx1] at hy
  simp only [DataW.agg.injEq] at hy
  have h1 := hel k hk
  have hk' : k < xs.length := by omega
  rw [List.getElem?_eq_getElem hk'] at h1
  have hq : (xs.map (·.1))[k]? = some (xs[k].1) := by simp [hk']
  rw [hy] at hq
  have h2 : ((l.drop (i * 5)).take 5)[k]? = l[i * 5 + k]? := by simp [hk]
  rw [← h2]
  refine tab_cellI h1 ?_
  refine Option.some.inj (hq.symm.trans ?_)
  obtain h | h | h | h | h : k = 0 ∨ k = 1 ∨ k = 2 ∨ k = 3 ∨ k = 4 := by omega
  all_goals (subst h; rfl)
/-- What the condition gives the walks. -/
theorem tab_of_laid {W : World} (h : laidMetH Tryd.prog laidL W) : Tab W := by
  rw [MakeChecks.laidMetH_plain _ _ _ (by kernel_rfl)] at h
  obtain ⟨ps, ⟨g1, t1, cs1, f1, p1, q1, hg1, ht1, hv1, hd1, ⟨g0, t0, cs0, f0, p0, q0, hg0, ht0, hv0, hd0, _, _⟩, _⟩, _, _⟩ := h
  obtain rfl := Option.some.inj (gObjects.symm.trans hg0)
  obtain rfl := Option.some.inj (tObjects.symm.trans ht0)
  obtain rfl := Option.some.inj (gPowers.symm.trans hg1)
  obtain rfl := Option.some.inj (tPowers.symm.trans ht1)
  obtain ⟨xs, m1, rfl, hx1, hlen, hn3, hel⟩ := DataW.trod_array Tryd.underlying151 hd0
  obtain ⟨ys, m2, rfl, hy1, hlen2, hn4, hel2⟩ := DataW.trod_array Tryd.underlying154 hd1
  rw [cellsU8] at hel
  rw [cells5] at hel2
  simp only [Prod.mk.injEq, Rows.laid_bascule_op_objects, DataW.agg.injEq] at hx1
  simp only [Prod.mk.injEq, Rows.laid_bascule_rank_powers, DataW.agg.injEq] at hy1
  have hc : ∀ k : Nat, k < 15 → W.cell? ⟨1, k, none⟩ = some (.int .u8 (objOf k)) := fun k hk => by
    have h1 := hel k hk
    have hk' : k < xs.length := by omega
    rw [List.getElem?_eq_getElem hk'] at h1
    have hy : (xs.map (·.1))[k]? = some (xs[k].1) := by simp [hk']
    rw [← hx1.1] at hy
    have h2 := World.var?_cell hg0 hv0 k
    rw [h2, ← Array.getElem?_toList]
    refine tab_cell h1 ?_
    have h3 : xs[k].1 = DataW.lit (.int .u8 (objOf k)) := by
      refine Option.some.inj (hy.symm.trans ?_)
      obtain h | h | h | h | h | h | h | h | h | h | h | h | h | h | h : k = 0 ∨ k = 1 ∨ k = 2 ∨ k = 3 ∨ k = 4 ∨ k = 5 ∨ k = 6 ∨ k = 7 ∨ k = 8 ∨ k = 9 ∨ k = 10 ∨ k = 11 ∨ k = 12 ∨ k = 13 ∨ k = 14 := by omega
      all_goals (subst h; rfl)
    exact h3
  have hrow : ∀ i : Nat, i < 3 → ∀ k : Nat, k < 5 → W.cell? ⟨2, i * 5 + k, none⟩ = some (.int .i64 (powI (i * 5 + k))) := fun i hi k hk => by
    have h1 := hel2 i hi
    have hi' : i < ys.length := by omega
    rw [List.getElem?_eq_getElem hi'] at h1
    have hy : (ys.map (·.1))[i]? = some (ys[i].1) := by simp [hi']
    rw [← hy1.1] at hy
    have h2 := World.var?_cell hg1 hv1 (i * 5 + k)
    rw [h2, ← Array.getElem?_toList]
    obtain rfl | rfl | rfl : i = 0 ∨ i = 1 ∨ i = 2 := by omega
    all_goals
      rw [tab_row h1 (Option.some.inj (hy.symm.trans rfl)) k hk]
      obtain h | h | h | h | h : k = 0 ∨ k = 1 ∨ k = 2 ∨ k = 3 ∨ k = 4 := by omega
      all_goals (subst h; rfl)
  have hw : ∀ k : Nat, k < 15 → W.cell? ⟨2, k, none⟩ = some (.int .i64 (powI k)) := fun k hk => by
    have h1 := hrow (k / 5) (by omega) (k % 5) (by omega)
    rwa [show k / 5 * 5 + k % 5 = k by omega] at h1
  exact ⟨World.block_lt_of_cell? (w := W) (a := ⟨1, 0, none⟩) (hc 0 (by omega)), hc, World.block_lt_of_cell? (w := W) (a := ⟨2, 0, none⟩) (hw 0 (by omega)), hw⟩

theorem wants_all {P : Program} {ts : Array TypeId} (h : (ts.all fun t => P.wantsStandIn t == false) = true) : ∀ (j : Nat) t, ts[j]? = some t → P.wantsStandIn t = false := fun j t ht => by
  have hj := (Array.getElem?_eq_some_iff.1 ht)
  have h1 := Array.all_eq_true.1 h j hj.1
  rw [hj.2] at h1
  simpa using h1

section
variable {H : Type} {enc : TypeId × Value → H} {P : Program}
theorem trodAll_below (hl : laidOutB P = true) {W W' : World} (hb : Below W.heap.size W W') : ∀ {ts : List TypeId} {vs : List Value} {ds : List (DataW H)} {ps : List MemPlace},
    (ts.all fun t => P.readableRec t && decide (t < P.types.size)) = true → DataW.TrodAll enc P W 0 (fun _ => true) true ts vs ds ps → (∀ x ∈ ps, x.block < W.heap.size) →
    DataW.TrodAll enc P W' 0 (fun b => decide (b < W.heap.size)) true ts vs ds ps
  | [], [], [], _, _, h, _ => h
  | _ :: _, _ :: _, _ :: _, _, hT, ⟨p, q, h1, h2, e⟩, hs => by
    simp only [List.all_cons, Bool.and_eq_true, decide_eq_true_eq] at hT
    exact ⟨p, q, Below.trod hl hT.1.1 hT.1.2 h1 hb (fun x hx => hs x (by rw [e]; exact List.mem_append_left _ hx)),
      trodAll_below hl hb (by simpa using hT.2) h2 (fun x hx => hs x (by rw [e]; exact List.mem_append_right _ hx)), e⟩

/-- A law's last step: true; the arguments read as they did. -/
theorem post_law (hl : laidOutB P = true) {f : Func} {s : ChangeSpec} {W W' : World} {args : Array Value} {ds gs : List (DataW H)} {before : List MemPlace} {tb : TypeId}
    (hW : DataW.Whole enc P f.params.toList s.vars false W args.toList ds gs before) (hvars : s.vars = []) (hres : f.resultTypes = #[tb]) (hbool : P.underlying tb = some .bool)
    (hfn : s.fn H (ds ++ gs) = { results := [.lit (.bool true)], args := ds }) (hT : (f.params.toList.all fun t => P.readableRec t && decide (t < P.types.size)) = true)
    (hb : Below W.heap.size W W') : s.post enc P f false true false false W args (.bool true) W' := by
  have hlt : ∀ p ∈ before, p.block < W.heap.size := fun p hp => hW.lt p hp
  have hW' := hW
  obtain ⟨p, q, hA, hV, rfl, _, _⟩ := hW
  rw [hvars] at hV
  obtain ⟨rfl, rfl⟩ := trodVars_none hV
  simp only [List.append_nil] at hlt hW' hfn
  refine ⟨ds, [], _, [], p, [], by simpa using hW', ?_, ?_, ?_, ?_, fun h => by cases h⟩
  · rw [List.append_nil, hfn, hres]; exact trodAll_mk1 (shut_bool hbool true)
  · rw [List.append_nil, hfn]
    exact (trodAll_below hl hb hT hA hlt)
  · rw [List.append_nil, hfn, hvars]; rfl
  · exact hb.frame _
end
end Go.Proofs.YtkklhhdkokncnaaDoor
