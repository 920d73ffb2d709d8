/- Small laws on a slice that the call has made itself, beside slices in other blocks; no program in sight. -/
import Derived.Test.YtknfikdignpniaaDoorCells
import Derived.Maps.AppendAt
namespace Go.Proofs.YtknfikdignpniaaDoor
open Go Go.RowKit
set_option maxRecDepth 100000
set_option maxHeartbeats 8000000

/-- As 'SlAt', of a slice whose block has a property. -/
def SlNo (S : Nat → Prop) (w : World) (ad : Option Addr) (n cap : Nat) (cs : List Value) : Prop :=
  n ≤ cap ∧ cap ≤ maxLen ∧ ((n = 0 ∧ cs = []) ∨ ∃ b o, ad = some ⟨b, o, none⟩ ∧ ∀ (j : Nat) (u : Value), cs[j]? = some u → S b ∧ w.cell? ⟨b, o + j, none⟩ = some u)
theorem SlNo.at {S : Nat → Prop} {w : World} {ad : Option Addr} {n cap : Nat} {cs : List Value} (h : SlNo S w ad n cap cs) : SlAt w ad n cap cs := by
  obtain ⟨h1, h2, h3⟩ := h
  refine ⟨h1, h2, ?_⟩
  rcases h3 with h | ⟨b, o, h3, h4⟩
  · exact Or.inl h
  · exact Or.inr ⟨b, o, h3, fun j u hu => (h4 j u hu).2⟩
theorem SlAt.no {S : Nat → Prop} {w w' : World} {ad : Option Addr} {n cap : Nat} {cs : List Value} (h : SlAt w ad n cap cs)
    (k : ∀ b i v, w.cell? ⟨b, i, none⟩ = some v → S b ∧ w'.cell? ⟨b, i, none⟩ = some v) : SlNo S w' ad n cap cs := by
  obtain ⟨h1, h2, h3⟩ := h
  refine ⟨h1, h2, ?_⟩
  rcases h3 with h | ⟨b, o, h3, h4⟩
  · exact Or.inl h
  · exact Or.inr ⟨b, o, h3, fun j u hu => k _ _ _ (h4 j u hu)⟩
theorem SlNo.to {S S' : Nat → Prop} {w w' : World} {ad : Option Addr} {n cap : Nat} {cs : List Value} (h : SlNo S w ad n cap cs)
    (k : ∀ b i v, S b → w.cell? ⟨b, i, none⟩ = some v → S' b ∧ w'.cell? ⟨b, i, none⟩ = some v) : SlNo S' w' ad n cap cs := by
  obtain ⟨h1, h2, h3⟩ := h
  refine ⟨h1, h2, ?_⟩
  rcases h3 with h | ⟨b, o, h3, h4⟩
  · exact Or.inl h
  · exact Or.inr ⟨b, o, h3, fun j u hu => k _ _ _ (h4 j u hu).1 (h4 j u hu).2⟩
theorem SlNo.ext {S : Nat → Prop} {w w' : World} {ad : Option Addr} {n cap : Nat} {cs : List Value} (h : SlNo S w ad n cap cs) (e : Ext w w') : SlNo S w' ad n cap cs :=
  h.to fun _ _ _ hs hc => ⟨hs, ext_cell e hc⟩
theorem SlNo.cel {S : Nat → Prop} {w : World} {ad : Option Addr} {cap : Nat} {L : List Cel} (h : SlNo S w ad L.length cap (celCells L)) {i : Int} (h0 : 0 ≤ i) (h1 : i < L.length) :
    ∃ b o, ad = some ⟨b, o, none⟩ ∧ S b ∧ CelAt w b (o + i.toNat * 4) (L.getD i.toNat ⟨0, 0, 0, 0⟩) := by
  obtain ⟨b, o, e, hc⟩ := h.at.cel h0 h1
  refine ⟨b, o, e, ?_, hc⟩
  obtain ⟨_, _, h3⟩ := h
  rcases h3 with ⟨h3, _⟩ | ⟨b', o', h3, h4⟩
  · omega
  · rw [h3] at e
    cases e
    exact (h4 _ _ (celCells_at L i.toNat (by omega)).1).1

theorem own_nil (w : World) (base : Nat) (e : TypeId) (size : Nat) : w.ownsRow base e size (.slice none 0 0) 0 [] := ⟨by simp, Or.inl ⟨rfl, rfl⟩⟩
/-- Where the row's block is as it was, the row is. -/
theorem own_of {w w' : World} {base : Nat} {e : TypeId} {size n : Nat} {v : Value} {xs : List Value} (h : w.ownsRow base e size v n xs)
    (k : ∀ g, base ≤ g → g < w.heap.size → w'.heap[g]? = w.heap[g]?) : w'.ownsRow base e size v n xs := by
  obtain ⟨h1, h2⟩ := h
  refine ⟨h1, ?_⟩
  rcases h2 with h | ⟨g, cap, cur, hv, hg, hc, hr⟩
  · exact Or.inl h
  · exact Or.inr ⟨g, cap, cur, hv, hg, (k g hg (Array.getElem?_eq_some_iff.1 hc).1).trans hc, hr⟩
theorem own_ext {w w' : World} {base : Nat} {e : TypeId} {size n : Nat} {v : Value} {xs : List Value} (h : w.ownsRow base e size v n xs) (x : Ext w w') : w'.ownsRow base e size v n xs :=
  own_of h fun _ _ hk => ext_heap x hk
theorem own_block {w : World} {base : Nat} {e : TypeId} {size n : Nat} {v : Value} {xs : List Value} (h : w.ownsRow base e size v n xs) {k : Nat} (hk : v.ownBlock = some k) : base ≤ k ∧ k < w.heap.size := by
  obtain ⟨_, h2⟩ := h
  rcases h2 with ⟨rfl, _⟩ | ⟨g, cap, cur, rfl, hg, hc, _⟩
  · cases hk
  · cases hk
    exact ⟨hg, (Array.getElem?_eq_some_iff.1 hc).1⟩
theorem own_form {w : World} {base : Nat} {e : TypeId} {size n : Nat} {v : Value} {xs : List Value} (h : w.ownsRow base e size v n xs) : ∃ ad cap, v = .slice ad n cap := by
  obtain ⟨_, h2⟩ := h
  rcases h2 with ⟨rfl, rfl⟩ | ⟨g, cap, cur, rfl, _⟩
  · exact ⟨_, _, rfl⟩
  · exact ⟨_, _, rfl⟩
theorem own_sl {w : World} {base : Nat} {e : TypeId} {n : Nat} {v : Value} {xs : List Value} (h : w.ownsRow base e 1 v n xs) : Sl w v n xs := by
  obtain ⟨h1, h2⟩ := h
  rcases h2 with ⟨rfl, rfl⟩ | ⟨g, cap, cur, rfl, hg, hc, hn, hcap, hs, ht⟩
  · obtain rfl : xs = [] := List.length_eq_zero_iff.1 (by simpa using h1)
    exact Sl.nil w
  · refine ⟨_, _, rfl, hn, hcap, Or.inr ⟨g, 0, rfl, fun j u hu => ?_⟩⟩
    have hj : j < xs.length := (List.getElem?_eq_some_iff.1 hu).1
    rw [← ht, List.getElem?_take] at hu
    split at hu
    · simp only [World.cell?, hc, Option.isSome_none, Bool.false_eq_true, if_false, Nat.zero_add]
      simpa using hu
    · cases hu
/-- A slice in no block below a number. -/
def SlB (lo : Nat) (w : World) (v : Value) (n : Nat) (cs : List Value) : Prop := ∃ ad cap, v = .slice ad n cap ∧ SlNo (fun b => lo ≤ b) w ad n cap cs
theorem SlB.sl {lo : Nat} {w : World} {v : Value} {n : Nat} {cs : List Value} (h : SlB lo w v n cs) : Sl w v n cs := by
  obtain ⟨ad, cap, e, h⟩ := h
  exact ⟨ad, cap, e, h.at⟩
theorem SlB.ext {lo : Nat} {w w' : World} {v : Value} {n : Nat} {cs : List Value} (h : SlB lo w v n cs) (e : Ext w w') : SlB lo w' v n cs := by
  obtain ⟨ad, cap, e1, h⟩ := h
  exact ⟨ad, cap, e1, h.ext e⟩
theorem own_slB {w : World} {base lo : Nat} {e : TypeId} {n : Nat} {v : Value} {xs : List Value} (h : w.ownsRow base e 1 v n xs) (hl : lo ≤ base) : SlB lo w v n xs := by
  obtain ⟨ad, cap, rfl, hs⟩ := own_sl h
  refine ⟨ad, cap, rfl, hs.1, hs.2.1, ?_⟩
  rcases hs.2.2 with h3 | ⟨b, o, rfl, h4⟩
  · exact Or.inl h3
  · refine Or.inr ⟨b, o, rfl, fun j u hu => ⟨?_, h4 j u hu⟩⟩
    have := (own_block h (k := b) rfl).1
    omega
/-- Where blocks below are changed, what lies beyond is as it was. -/
theorem SlB.turn {X X' : World} {os : Array Obj} {d d' : Nat} {v : Value} {n : Nat} {cs : List Value} (h : SlB X.heap.size (grew X os d) v n cs) (hs : X'.heap.size = X.heap.size) : SlB X.heap.size (grew X' os d') v n cs := by
  obtain ⟨ad, cap, e, h⟩ := h
  refine ⟨ad, cap, e, h.to fun b i u hb hc => ⟨hb, ?_⟩⟩
  rw [← hc]
  have hq : (grew X' os d').heap[b]? = (grew X os d).heap[b]? := by
    show (X'.heap ++ os)[b]? = (X.heap ++ os)[b]?
    rw [Array.getElem?_append_right (by omega), Array.getElem?_append_right hb, hs]
  simp only [World.cell?, hq]
/-- New blocks, and a store into a row beyond U's blocks: U's blocks are as they were. -/
theorem ext_grown {U w w' : World} {row : Option Nat} (h : Ext U w) (hg : w.grownBy w' row) (hr : ∀ k, row = some k → U.heap.size ≤ k) : Ext U w' :=
  Ext.of_below (Below.grown h.below hg h.size hr)
theorem heap_grew_ge {B B' : World} (hs : B'.heap.size = B.heap.size) (os : Array Obj) (d d' : Nat) {k : Nat} (hk : B.heap.size ≤ k) : (grew B' os d').heap[k]? = (grew B os d).heap[k]? := by
  show (B'.heap ++ os)[k]? = (B.heap ++ os)[k]?
  rw [Array.getElem?_append_right (by omega), Array.getElem?_append_right hk, hs]
end Go.Proofs.YtknfikdignpniaaDoor
