/- What is lacking of a path: a map of keys, as a list of them. -/
import Derived.Test.YtmbodooikfmegaaDoorProg
import Derived.Test.YtmbodooikfmegaaDoorPatM
import Derived.Test.YtmbodooikfmegaaDoorA5
import Derived.Maps.OwnSet
import Derived.WalkArith
namespace Go.Proofs.YtmbodooikfmegaaDoor.paths
open Go Go.RowKit
set_option maxRecDepth 100000
set_option maxHeartbeats 8000000

theorem law_u64 : Maps.Keyed Tryd.prog 22 := Maps.int_keyed Tryd.underlying22
theorem zero_int (w : World) : (zeroValue 3).run Tryd.prog w = .ok (.int .i64 0) w := by kernel_rfl
theorem key_u64 {q : Int} (h : 0 ≤ q ∧ q ≤ 18446744073709551615) : keyOf Tryd.prog 22 (.int .u64 q) = some (.int .u64 q) := Maps.keyOf_int_mk Tryd.underlying22 (WalkArith.wf_u64 h)
/-- Block b is a map whose keys are just those of a list, none twice. -/
def Lack (w : World) (b n : Nat) (S : List Int) : Prop := ∃ D : DataW Unit, w.ownsMap Tryd.prog 22 (plainElem Tryd.prog 3) b n D ∧ (∀ q, Maps.has D (.int .u64 q) = decide (q ∈ S)) ∧ Maps.size D = S.length ∧ S.Nodup
theorem Lack.made (w : World) : Lack (w.alloc (.map #[] 0)) w.heap.size 0 [] := ⟨.map [], World.ownsMap_made _ _ _ _, fun _ => rfl, rfl, List.nodup_nil⟩
theorem Lack.lt {w : World} {b n : Nat} {S : List Int} (h : Lack w b n S) : b < w.heap.size := by
  obtain ⟨D, h1, _⟩ := h
  exact h1.lt
theorem Lack.ext {w w' : World} {b n : Nat} {S : List Int} (h : Lack w b n S) (e : Ext w w') : Lack w' b n S := by
  obtain ⟨D, ⟨es, clock, hb, r⟩, h2⟩ := h
  exact ⟨D, ⟨es, clock, by rw [ext_heap e (Array.getElem?_eq_some_iff.1 hb).1]; exact hb, r⟩, h2⟩
theorem lit_ne {a b : Int} (h : ¬ a = b) : (Lit.int .u64 a) ≠ .int .u64 b := fun e => h (by cases e; rfl)
theorem lack_put {w' : World} {b n : Nat} {S : List Int} {D : DataW Unit} {q : Int} {d : DataW Unit} (h0 : ∀ q, Maps.has D (.int .u64 q) = decide (q ∈ S)) (h1 : Maps.size D = S.length) (hnd : S.Nodup) (ht : Maps.Tidy D) (hq : ¬ q ∈ S)
    (h : w'.ownsMap Tryd.prog 22 (plainElem Tryd.prog 3) b (n + 1) (D.put (.int .u64 q) d)) : Lack w' b (n + 1) (S ++ [q]) := by
  refine ⟨_, h, fun j => ?_, ?_, ?_⟩
  · by_cases e : j = q
    · subst e
      rw [Maps.has_put_same ht.isMap (by trivial)]
      simp
    · rw [Maps.has_put_other (lit_ne e), h0]
      simp [e]
  · rw [Maps.size_put ht, h0, decide_eq_false hq, h1]
    simp
  · rw [List.nodup_append]
    refine ⟨hnd, by simp, fun x hx y hy => ?_⟩
    simp at hy
    subst hy
    exact fun e => hq (e ▸ hx)
theorem filter_ne_len {S : List Int} (h : S.Nodup) (q : Int) : (S.filter fun j => !(j == q)).length + (if q ∈ S then 1 else 0) = S.length := by
  induction S with
  | nil => rfl
  | cons x S ih =>
    obtain ⟨h1, h2⟩ := List.nodup_cons.1 h
    have h3 := ih h2
    rw [List.filter_cons]
    by_cases e : x = q
    · subst e
      simp [h1] at h3 ⊢
      omega
    · have e' : ¬ q = x := fun e2 => e e2.symm
      simp [e, e'] at h3 ⊢
      omega
theorem lack_del {w' : World} {b n : Nat} {S : List Int} {D : DataW Unit} {q : Int} (h0 : ∀ q, Maps.has D (.int .u64 q) = decide (q ∈ S)) (h1 : Maps.size D = S.length) (hnd : S.Nodup) (ht : Maps.Tidy D)
    (h : w'.ownsMap Tryd.prog 22 (plainElem Tryd.prog 3) b n (D.del (.int .u64 q))) : Lack w' b n (S.filter fun j => !(j == q)) := by
  refine ⟨_, h, fun j => ?_, ?_, hnd.filter _⟩
  · by_cases e : j = q
    · subst e
      rw [Maps.has_del_same]
      simp
    · rw [Maps.has_del_other (lit_ne e), h0]
      simp [List.mem_filter, e]
  · have h2 := Maps.size_del (k := .int .u64 q) ht
    have h3 := filter_ne_len hnd q
    rw [h0, h1] at h2
    by_cases e : q ∈ S
    · rw [if_pos (by simpa using e)] at h2
      rw [if_pos e] at h3
      omega
    · rw [if_neg (by simpa using e)] at h2
      rw [if_neg e] at h3
      omega
/-- The path's keys that no row has. -/
def lackL (L : List Rw) (ps : List Int) : List Int := ps.filter fun p => !(look L p).isSome
theorem lack_step (L : List Rw) (ps : List Int) (x : Rw) : (lackL L ps).filter (fun j => !(j == x.k)) = lackL (L ++ [x]) ps := by
  unfold lackL
  rw [List.filter_filter]
  refine List.filter_congr fun p _ => ?_
  have e : (look (L ++ [x]) p).isSome = ((look L p).isSome || x.k == p) := by
    unfold look
    rw [List.find?_append]
    cases List.find? (fun y => y.k == p) L with
    | some y => rfl
    | none =>
      simp only [Option.none_or, List.find?_cons, List.find?_nil]
      cases (x.k == p) <;> rfl
  rw [e]
  have e2 : (p == x.k) = (x.k == p) := by rw [Bool.eq_iff_iff]; simp only [beq_iff_eq]; exact eq_comm
  rw [e2]
  cases (look L p).isSome <;> cases (x.k == p) <;> rfl
theorem lackL_nil (ps : List Int) : lackL [] ps = ps := by
  unfold lackL
  exact List.filter_eq_self.2 fun p _ => rfl
theorem lackL_len (L : List Rw) (k : Int) (hr : Rises L) (hk : wholeK k = true) : (madeK k L).length = L.length + (lackL L (lineK k)).length := len_fold hr (line_nodup hk)
theorem lackL_pos (L : List Rw) (k : Int) : decide (0 < ((lackL L (lineK k)).length : Int)) = lackB L k := by
  unfold lackL lackB
  rw [Bool.eq_iff_iff, List.any_eq_true, decide_eq_true_eq]
  constructor
  · intro h
    obtain ⟨p, hp⟩ := List.exists_mem_of_length_pos (l := (lineK k).filter fun p => !(look L p).isSome) (by omega)
    rw [List.mem_filter] at hp
    exact ⟨p, hp.1, hp.2⟩
  · rintro ⟨p, h1, h2⟩
    have := List.length_pos_of_mem (a := p) (l := (lineK k).filter fun p => !(look L p).isSome) (List.mem_filter.2 ⟨h1, h2⟩)
    omega
end Go.Proofs.YtmbodooikfmegaaDoor.paths
