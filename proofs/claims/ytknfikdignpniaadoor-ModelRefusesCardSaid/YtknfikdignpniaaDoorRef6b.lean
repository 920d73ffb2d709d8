/- The walks of the document's functions that make rows (layer 6): 'Copy', 'Without', 'With'; and of 'slices.Clone'. -/
import Derived.Test.YtknfikdignpniaaDoorRef6
namespace Go.Proofs.YtknfikdignpniaaDoor
open Go Go.RowKit
set_option maxRecDepth 100000
set_option maxHeartbeats 8000000

theorem info_row : (Tryd.prog.info? 44).map (fun i => (i.zero, i.size, i.bytes)) = some (some (.agg #[.int .u64 0, .int .u64 0]), 2, 16) := by kernel_rfl

theorem clone_any (v : Value) (L : List Rw) (hl : L.length ≤ 10000) (w : World) (hv : Rws w v L) : Calls Tryd.prog 39 #[v] w
    fun e w' => ∃ r, e = .returned r ∧ w'.ownsRow w.heap.size 44 2 r (L).length (rwCells (L)) ∧ Ext w w' := by
  obtain ⟨ad, cap, rfl, hs, hn⟩ := hv
  have q25 : ∀ (w : World) (a : Option Addr) (n c n' c' : Nat), (binOp .eql 30 (.slice a n c) (.slice none n' c')).run Tryd.prog w = .ok (.bool a.isNone) w := fun w a n c n' c' => Lib.run_eql_slice_nil w _ _ a n c n' c' Tryd.underlying30
  cases ad with
  | none =>
    obtain rfl := hn rfl
    obtain rfl : L = [] := by
      rcases hs.2.2 with ⟨h1, _⟩ | ⟨b, o, h1, _⟩
      · exact List.length_eq_zero_iff.1 h1
      · cases h1
    go_enter Tryd.func39, Tryd.ntmps39
    go_wp2
    go_ret
    exact ⟨_, rfl, World.ownsRow_nil _ _ _ _, Ext.refl _⟩
  | some ad =>
    have HV := Lib.hid (show Rws w (.slice (some ad) L.length cap) L from ⟨_, _, rfl, hs, hn⟩)
    clear hs hn
    obtain ⟨v, hv⟩ : ∃ v, v = Value.slice (some ad) L.length cap := ⟨_, rfl⟩
    rw [← hv] at HV
    obtain ⟨ti, HI1, HI2, HI3, HI4⟩ := info_parts info_row; have HI := Lib.hid (And.intro HI1 (And.intro HI2 (And.intro HI3 HI4))); clear HI1 HI2 HI3 HI4
    go_enter Tryd.func39, Tryd.ntmps39
    subst hv
    go_wp2_with (at_builtin; refine wpList_append_rws rfl _ _ 30 rfl w.heap.size 44 ti Tryd.underlying30 HI.out.1 HI.out.2.1 HI.out.2.2.1 HI.out.2.2.2 _ 0 [] rfl (World.ownsRow_made w #[] 0 (Nat.le_refl _) (by decide) rfl) _ L (HV.out.ext EX) rfl (by omega) (by simp [go_sem]) ?_; intro v2 w2 hown2 hgrow2 hat2; have HO := Lib.hid hown2; have HG := Lib.hid hgrow2; clear hown2 hgrow2 hat2)
    go_wp2
    go_ret
    exact ⟨_, rfl, by simpa using HO.out, ext_grown EX HG.out (by intro k hk; cases hk; exact Nat.le_refl _)⟩

theorem rows_one {w : World} {b : Nat} {x : Rw} (h : RwAt w b 0 x) : ∀ (j : Nat) (u : Value), (rwCells [x])[j]? = some u → w.cell? ((⟨b, 0, none⟩ : Addr).add j) = some u := by
  intro j u hu
  match j, hu with
  | 0, hu => simp [rwCells, Rw.cells] at hu; subst hu; exact h.1
  | 1, hu => simp [rwCells, Rw.cells] at hu; subst hu; exact h.2
  | j + 2, hu => simp [rwCells, Rw.cells] at hu

end Go.Proofs.YtknfikdignpniaaDoor
