/- Small laws for the walks of statements on rows: rows in a literal block, calls with hidden answers. -/
import Derived.Test.YtknfikdignpniaaDoorRef6b
namespace Go.Proofs.YtknfikdignpniaaDoor
open Go Go.RowKit
set_option maxRecDepth 100000
set_option maxHeartbeats 8000000

/-- The count of draws is no matter. -/
theorem Ext.sameG (w : World) (x : Array Obj) (n m : Nat) : Ext (grew w x n) (grew w x m) := ⟨#[], m, by simp [grew]⟩
theorem rws_lit {W : World} {b o n cap : Nat} {L : List Rw} (hn : L.length = n) (h1 : n ≤ cap) (h2 : cap ≤ maxLen) (h : ∀ (j : Nat) (u : Value), (rwCells L)[j]? = some u → W.cell? ⟨b, o + j, none⟩ = some u) : Rws W (.slice (some ⟨b, o, none⟩) n cap) L := by
  subst hn
  exact ⟨some ⟨b, o, none⟩, cap, rfl, ⟨h1, h2, Or.inr ⟨b, o, rfl, h⟩⟩, fun h => by cases h⟩
theorem rws1 {W : World} {b o cap : Nat} {k v : Int} (h1 : 1 ≤ cap) (h2 : cap ≤ 1000) (c0 : W.cell? ⟨b, o, none⟩ = some (.int .u64 k)) (c1 : W.cell? ⟨b, o + 1, none⟩ = some (.int .u64 v)) : Rws W (.slice (some ⟨b, o, none⟩) 1 cap) [⟨k, v⟩] :=
  rws_lit rfl h1 (by unfold maxLen; omega) fun j u hu => by
    match j, hu with
    | 0, hu => simp [rwCells, Rw.cells] at hu; subst hu; exact c0
    | 1, hu => simp [rwCells, Rw.cells] at hu; subst hu; exact c1
    | j + 2, hu => simp [rwCells, Rw.cells] at hu
theorem rws2 {W : World} {b o cap : Nat} {k v k' v' : Int} (h1 : 2 ≤ cap) (h2 : cap ≤ 1000) (c0 : W.cell? ⟨b, o, none⟩ = some (.int .u64 k)) (c1 : W.cell? ⟨b, o + 1, none⟩ = some (.int .u64 v)) (c2 : W.cell? ⟨b, o + 2, none⟩ = some (.int .u64 k')) (c3 : W.cell? ⟨b, o + 3, none⟩ = some (.int .u64 v')) : Rws W (.slice (some ⟨b, o, none⟩) 2 cap) [⟨k, v⟩, ⟨k', v'⟩] :=
  rws_lit rfl h1 (by unfold maxLen; omega) fun j u hu => by
    match j, hu with
    | 0, hu => simp [rwCells, Rw.cells] at hu; subst hu; exact c0
    | 1, hu => simp [rwCells, Rw.cells] at hu; subst hu; exact c1
    | 2, hu => simp [rwCells, Rw.cells] at hu; subst hu; exact c2
    | 3, hu => simp [rwCells, Rw.cells] at hu; subst hu; exact c3
    | j + 4, hu => simp [rwCells, Rw.cells] at hu
/-- A slice of rows from a place on. -/
theorem Rws.drop {w : World} {b o n cap : Nat} {L : List Rw} (h : Rws w (.slice (some ⟨b, o, none⟩) n cap) L) (i : Nat) (hi : i ≤ n) : Rws w (.slice (some ⟨b, o + i * 2, none⟩) (n - i) (cap - i)) (L.drop i) := by
  obtain ⟨ad, cap', e, hs, _⟩ := h
  cases e
  obtain ⟨h1, h2, h3⟩ := hs
  refine rws_lit (by simp) (by omega) (by omega) fun j u hu => ?_
  have e2 : rwCells (L.drop i) = (rwCells L).drop (i * 2) := by
    clear h1 h2 h3 hu hi
    induction i generalizing L with
    | zero => simp
    | succ i ih =>
      cases L with
      | nil => simp [rwCells]
      | cons x L =>
        have e : (i + 1) * 2 = i * 2 + 2 := by omega
        rw [List.drop_succ_cons, ih, rwCells_cons, e]
        simp
  rw [e2, List.getElem?_drop] at hu
  rcases h3 with ⟨_, h3⟩ | ⟨b', o', h3, h4⟩
  · rw [h3] at hu; simp at hu
  · cases h3
    rw [Nat.add_assoc]
    exact h4 _ _ hu
theorem same_as (v u : Value) (A B : List Rw) (w : World) (hv : Rws w v A) (hu : Rws w u B) (R : Bool) (hR : decide (A = B) = R) : Calls Tryd.prog 8 #[v, u] w fun e w' => e = .returned (.bool R) ∧ Ext w w' := by
  subst hR
  exact sameRows_any v u A B w hv.sl hu.sl
theorem same_refl' (v u : Value) (A : List Rw) (w : World) (hv : Rws w v A) (hu : Rws w u A) : Calls Tryd.prog 8 #[v, u] w fun e w' => e = .returned (.bool true) ∧ Ext w w' :=
  (sameRows_any v u A A w hv.sl hu.sl).mono fun e w' h => by simpa using h
theorem findK_neg {L : List Rw} {k : Int} : decide (0 ≤ findK L k) = (look L k).isSome := by
  cases h : look L k with
  | none => rw [look_findK h]; rfl
  | some u =>
    obtain ⟨i, _, h2, _⟩ := findK_look h
    rw [h2]; simp
theorem withoutK_of_none {L : List Rw} {k : Int} (h : look L k = none) : withoutK k L = L := by
  unfold withoutK
  rw [List.filter_eq_self]
  intro x hx
  have := look_none h x hx
  simpa using this
theorem withoutK_idem (k : Int) (L : List Rw) : withoutK k (withoutK k L) = withoutK k L := withoutK_of_none (by rw [look_withoutK]; simp)
theorem withoutK_withK (k v : Int) {L : List Rw} (h : Rises L) : withoutK k (withK k v L) = withoutK k L := by
  refine rows_ext (rises_withoutK k (rises_withK k v h)) (rises_withoutK k h) fun j => ?_
  rw [look_withoutK, look_withoutK, look_withK k v h]
  split <;> simp_all
end Go.Proofs.YtknfikdignpniaaDoor
