/- Plain: the numbers of a packed tree in rows: how many items a level has, where they stand, which rows they are for; no program in sight. -/
import Derived.Test.YtkklhhdkokncnaaDoorGZ
import Derived.Test.YtkklhhdkokncnaaDoorTreD
import Derived.Test.YtkklhhdkokncnaaDoorA5
namespace Go.Proofs.YtkklhhdkokncnaaDoor
open Go Go.RowKit
set_option maxRecDepth 100000
set_option maxHeartbeats 8000000

theorem lt_ceil {w : Nat} (hw : 0 < w) (x m : Nat) : x < (m + w - 1) / w ↔ x * w < m := by
  rw [Nat.lt_iff_add_one_le, Nat.le_div_iff_mul_le hw, Nat.add_mul]
  omega
/-- An item is there just if its first row is. -/
theorem lt_it {w : Nat} (hw : 0 < w) : ∀ (h n i : Nat), i < itN w h n ↔ i * w ^ h < n := by
  intro h
  induction h with
  | zero => intro n i; simp [itN]
  | succ h ih =>
    intro n i
    show i < itN w h ((n + w - 1) / w) ↔ _
    rw [ih, lt_ceil hw, Nat.mul_assoc, ← Nat.pow_succ]
/-- The last row that an item is for. -/
def lrN (w n h i : Nat) : Nat := min ((i + 1) * w ^ h) n - 1
theorem it_pos {w : Nat} (hw : 0 < w) {h n : Nat} (hn : 0 < n) : 0 < itN w h n := (lt_it hw h n 0).2 (by omega)
theorem lr_lt {w n h i : Nat} (hw : 0 < w) (hi : i < itN w h n) : lrN w n h i < n ∧ i * w ^ h ≤ lrN w n h i := by
  have h1 := (lt_it hw h n i).1 hi
  have hp : 0 < w ^ h := Nat.pow_pos hw
  have h2 : (i + 1) * w ^ h = i * w ^ h + w ^ h := by rw [Nat.add_mul, Nat.one_mul]
  unfold lrN
  omega
theorem lr_zero {w n i : Nat} (hi : i < n) : lrN w n 0 i = i := by
  unfold lrN
  rw [Nat.pow_zero, Nat.mul_one]
  omega
/-- The last item below an item ends where it ends. -/
theorem lr_down {w n h i : Nat} (hw : 0 < w) (hi : i < itN w (h + 1) n) :
    let e := (if (i + 1) * w ≤ itN w h n then (i + 1) * w else itN w h n) - 1
    e < itN w h n ∧ lrN w n h e = lrN w n (h + 1) i := by
  intro e
  have h1 := (lt_it hw (h + 1) n i).1 hi
  have hn : 0 < n := by omega
  have hup := it_pos hw (h := h) hn
  have hpos : 0 < (i + 1) * w := Nat.mul_pos (by omega) hw
  have hnot : ¬ itN w h n * w ^ h < n := fun q => by
    have := (lt_it hw h n (itN w h n)).2 q
    omega
  by_cases hq : (i + 1) * w ≤ itN w h n
  · have he : e = (i + 1) * w - 1 := by show (if _ then _ else _) - 1 = _; rw [if_pos hq]
    refine ⟨by omega, ?_⟩
    unfold lrN
    rw [he, show (i + 1) * w - 1 + 1 = (i + 1) * w by omega, Nat.mul_assoc, ← Nat.pow_succ']
  · have he : e = itN w h n - 1 := by show (if _ then _ else _) - 1 = _; rw [if_neg hq]
    refine ⟨by omega, ?_⟩
    unfold lrN
    rw [he, show itN w h n - 1 + 1 = itN w h n by omega]
    have h3 : itN w h n * w ^ h ≤ (i + 1) * w * w ^ h := Nat.mul_le_mul_right _ (by omega)
    have h4 : (i + 1) * w ^ (h + 1) = (i + 1) * w * w ^ h := by rw [Nat.pow_succ', Nat.mul_assoc]
    omega
theorem divN {w : Nat} (k : Nat) : ∀ p : Nat, divI (w : Int) k (p : Int) = ((p / w ^ k : Nat) : Int) := by
  induction k with
  | zero => intro p; simp [divI]
  | succ k ih =>
    intro p
    show divI (w : Int) k ((p : Int) / (w : Int)) = _
    rw [← Int.natCast_ediv, ih, Nat.div_div_eq_div_mul, ← Nat.pow_succ']
/-- Of numbers that may be: the top level is one node. -/
theorem top_all : ∀ n : Fin 33, ∀ w : Fin 5, 2 ≤ w.val → itN w.val (topI n.val w.val).toNat n.val ≤ w.val := by decide +kernel

/-- A config's numbers, as natural ones. -/
structure TreN (c : Cfg) (w N T : Nat) : Prop where
  ok : TreOk c
  w : c.node = (w : Int)
  N : c.cap = (N : Int)
  T : treTop c = (T : Int)
theorem treN_of {c : Cfg} (h : TreOk c) : ∃ w N T, TreN c w N T := by
  have h1 := h.cap
  have h2 := h.node
  have h3 := tre_top c
  exact ⟨c.node.toNat, c.cap.toNat, (treTop c).toNat, h, by omega, by omega, by omega⟩
section
variable {c : Cfg} {w N T : Nat}
theorem TreN.bd (h : TreN c w N T) : (w = 2 ∨ w = 3 ∨ w = 4) ∧ (1 ≤ N ∧ N ≤ 32) ∧ T ≤ 4 := by
  have h1 := h.ok.cap
  have h2 := h.ok.node
  have h3 := tre_top c
  have e1 := h.w
  have e2 := h.N
  have e3 := h.T
  omega
theorem TreN.up (h : TreN c w N T) (n k : Nat) : treUp c (n : Int) (k : Int) = ((itN w k n : Nat) : Int) := by
  show ((itN c.node.toNat (k : Int).toNat (n : Int).toNat : Nat) : Int) = _
  rw [h.w]
  simp
theorem TreN.top (h : TreN c w N T) : itN w T N ≤ w := by
  obtain ⟨h1, h2, h3⟩ := h.bd
  have := top_all ⟨N, by omega⟩ ⟨w, by omega⟩ (by show 2 ≤ w; omega)
  dsimp only at this
  have e : (topI (N : Int) (w : Int)).toNat = T := by
    have := h.T
    unfold treTop at this
    rw [h.N, h.w] at this
    omega
  rw [e] at this
  exact this
/-- How many items there are below a level. -/
def sumU (w N : Nat) : Nat → Nat
  | 0 => 0
  | k + 1 => sumU w N k + itN w k N
def ofU (w N h i : Nat) : Nat := 1 + sumU w N h + i
theorem sum_eq (w N : Nat) : ∀ k, sumI (N : Int) (w : Int) k = ((sumU w N k : Nat) : Int) := by
  intro k
  induction k with
  | zero => rfl
  | succ k ih =>
    show sumI (N : Int) (w : Int) k + upI (N : Int) (w : Int) (k : Int) = _
    rw [ih]
    show ((sumU w N k : Nat) : Int) + ((itN (w : Int).toNat (k : Int).toNat (N : Int).toNat : Nat) : Int) = ((sumU w N k + itN w k N : Nat) : Int)
    simp
theorem TreN.off (h : TreN c w N T) {k i : Nat} (hk : k ≤ T) (hi : i < itN w k N) : treOff c (k : Int) (i : Int) = ((ofU w N k i : Nat) : Int) := by
  have e := h.T
  unfold treTop at e
  unfold treOff offI
  rw [h.N, h.w] at e ⊢
  have hu : upI (N : Int) (w : Int) (k : Int) = ((itN w k N : Nat) : Int) := by
    show ((itN (w : Int).toNat (k : Int).toNat (N : Int).toNat : Nat) : Int) = _
    simp
  rw [if_pos ⟨by omega, by rw [e]; omega, by omega, by rw [hu]; omega⟩, Int.toNat_natCast, sum_eq]
  unfold ofU
  omega
theorem sum_mono (w N : Nat) {j k : Nat} (h : j ≤ k) : sumU w N j ≤ sumU w N k := by
  induction k with
  | zero =>
    obtain rfl : j = 0 := by omega
    exact Nat.le_refl _
  | succ k ih =>
    show _ ≤ sumU w N k + itN w k N
    by_cases e : j = k + 1
    · subst e
      exact Nat.le_refl _
    · have := ih (by omega)
      omega
theorem of_lt {w N h h' i i' : Nat} (hh : h < h') (hi : i < itN w h N) : ofU w N h i < ofU w N h' i' := by
  have h1 : sumU w N (h + 1) ≤ sumU w N h' := sum_mono w N hh
  have h2 : sumU w N (h + 1) = sumU w N h + itN w h N := rfl
  unfold ofU
  omega
theorem of_inj {w N h h' i i' : Nat} (hi : i < itN w h N) (hi' : i' < itN w h' N) (he : ofU w N h i = ofU w N h' i') : h = h' ∧ i = i' := by
  by_cases h1 : h < h'
  · have := of_lt (i' := i') h1 hi
    omega
  · by_cases h2 : h' < h
    · have := of_lt (i' := i) h2 hi'
      omega
    · have e : h = h' := by omega
      subst e
      unfold ofU at he
      omega
theorem TreN.great (h : TreN c w N T) : treGreat c = ((1 + sumU w N (T + 1) : Nat) : Int) := by
  unfold treGreat
  have e := h.T
  rw [h.N, h.w, e, Int.toNat_natCast, sum_eq]
  omega
theorem of_great {h i : Nat} (hh : h ≤ T) (hi : i < itN w h N) : ofU w N h i < 1 + sumU w N (T + 1) := by
  have h1 : sumU w N (h + 1) ≤ sumU w N (T + 1) := sum_mono w N (by omega)
  have h2 : sumU w N (h + 1) = sumU w N h + itN w h N := rfl
  unfold ofU
  omega
/-- Each place behind the first is an item's. -/
theorem of_all {k : Nat} (hk : 1 ≤ k) : ∀ T : Nat, k < 1 + sumU w N (T + 1) → ∃ h i, h ≤ T ∧ i < itN w h N ∧ k = ofU w N h i := by
  intro T
  induction T with
  | zero =>
    intro hk2
    have h2 : sumU w N (0 + 1) = 0 + itN w 0 N := rfl
    refine ⟨0, k - 1, Nat.le_refl _, by omega, ?_⟩
    have h3 : sumU w N 0 = 0 := rfl
    unfold ofU
    omega
  | succ T ih =>
    intro hk2
    by_cases h1 : k < 1 + sumU w N (T + 1)
    · obtain ⟨h, i, a, b, e⟩ := ih h1
      exact ⟨h, i, by omega, b, e⟩
    · have h2 : sumU w N (T + 1 + 1) = sumU w N (T + 1) + itN w (T + 1) N := rfl
      refine ⟨T + 1, k - (1 + sumU w N (T + 1)), Nat.le_refl _, by omega, ?_⟩
      unfold ofU
      omega
theorem it_mono {n m h : Nat} (hw : 0 < w) (hn : n ≤ m) : itN w h n ≤ itN w h m := by
  by_cases hq : itN w h n ≤ itN w h m
  · exact hq
  · have h1 := (lt_it hw h n (itN w h m)).1 (by omega)
    have h2 := (lt_it hw h m (itN w h m)).2 (by omega)
    omega
theorem TreN.end' (h : TreN c w N T) {n k i : Nat} (_hi : i < itN w (k + 1) n) : endI (n : Int) c.node ((k + 1 : Nat) : Int) (i : Int) = (((if (i + 1) * w ≤ itN w k n then (i + 1) * w else itN w k n) - 1 : Nat) : Int) := by
  obtain ⟨hw, _, _⟩ := h.bd
  have hu : upI (n : Int) (w : Int) (((k + 1 : Nat) : Int) - 1) = ((itN w k n : Nat) : Int) := by
    rw [show ((k + 1 : Nat) : Int) - 1 = (k : Int) by omega]
    show ((itN (w : Int).toNat (k : Int).toNat (n : Int).toNat : Nat) : Int) = _
    simp
  unfold endI
  rw [h.w, hu]
  have hpos : 0 < (i + 1) * w := Nat.mul_pos (by omega) (by omega)
  have e : ((i : Int) + 1) * (w : Int) = (((i + 1) * w : Nat) : Int) := by simp
  have hup : 0 < itN w k n := by
    refine it_pos (by omega) ?_
    have := (lt_it (w := w) (by omega) (k + 1) n i).1 _hi
    omega
  rw [e]
  by_cases hq : (i + 1) * w ≤ itN w k n
  · rw [if_pos (by omega), if_pos hq]
    omega
  · rw [if_neg (by omega), if_neg hq]
    omega
end
end Go.Proofs.YtkklhhdkokncnaaDoor
/- Plain: the cells of a packed tree, and the acts of an operation in turn; no program in sight. -/
namespace Go.Proofs.YtkklhhdkokncnaaDoor
open Go Go.RowKit
set_option maxRecDepth 100000
set_option maxHeartbeats 8000000

abbrev zce : Cel := ⟨0, 0, 0, 0⟩
def tc (L : List Cel) (i : Nat) : Cel := L.getD i zce
theorem tc_set {L : List Cel} {i : Nat} (x : Cel) (h : i < L.length) (j : Nat) : tc (L.set i x) j = if j = i then x else tc L j := by
  unfold tc
  rw [List.getD_eq_getElem?_getD, List.getD_eq_getElem?_getD, List.getElem?_set]
  by_cases e : i = j
  · subst e
    simp [h]
  · have e' : ¬ j = i := fun q => e q.symm
    simp [e, e']
theorem tc_get {L : List Cel} {i : Nat} (h : i < L.length) : tc L i = L[i] := by simp [tc, h]
def upd (F : Nat → Cel) (i : Nat) (x : Cel) : Nat → Cel := fun j => if j = i then x else F j
def upd2 (G : Nat → Nat → Cel) (h i : Nat) (x : Cel) : Nat → Nat → Cel := fun k j => if k = h ∧ j = i then x else G k j
/-- Cells: a header, rows, and the levels above them. -/
structure Lay (w N T : Nat) (L : List Cel) (H : Cel) (F : Nat → Cel) (G : Nat → Nat → Cel) : Prop where
  len : L.length = 1 + sumU w N (T + 1)
  hdr : tc L 0 = H
  row : ∀ i, i < N → tc L (ofU w N 0 i) = F i
  lev : ∀ h i, 1 ≤ h → h ≤ T → i < itN w h N → tc L (ofU w N h i) = G h i
theorem of_pos (w N h i : Nat) : 0 < ofU w N h i := by
  unfold ofU
  omega
theorem Lay.setH {w N T : Nat} {L : List Cel} {H : Cel} {F : Nat → Cel} {G : Nat → Nat → Cel} (l : Lay w N T L H F G) (x : Cel) : Lay w N T (L.set 0 x) x F G := by
  have h0 : 0 < L.length := by rw [l.len]; omega
  have hs := tc_set x h0
  refine ⟨by rw [List.length_set]; exact l.len, by rw [hs, if_pos rfl], fun i hi => ?_, fun h i h1 h2 hi => ?_⟩
  · rw [hs, if_neg (by have := of_pos w N 0 i; omega)]
    exact l.row i hi
  · rw [hs, if_neg (by have := of_pos w N h i; omega)]
    exact l.lev h i h1 h2 hi
theorem Lay.setF {w N T : Nat} {L : List Cel} {H : Cel} {F : Nat → Cel} {G : Nat → Nat → Cel} (l : Lay w N T L H F G) {k : Nat} (hk : k < N) (x : Cel) : Lay w N T (L.set (ofU w N 0 k) x) H (upd F k x) G := by
  have h0 : ofU w N 0 k < L.length := by rw [l.len]; exact of_great (Nat.zero_le _) hk
  have hs := tc_set x h0
  refine ⟨by rw [List.length_set]; exact l.len, by rw [hs, if_neg (by have := of_pos w N 0 k; omega)]; exact l.hdr, fun i hi => ?_, fun h i h1 h2 hi => ?_⟩
  · rw [hs]
    unfold upd
    by_cases e : i = k
    · rw [if_pos (by rw [e]), if_pos e]
    · rw [if_neg (fun q => e (of_inj hi hk q).2), if_neg e]
      exact l.row i hi
  · rw [hs, if_neg (fun q => by have := (of_inj hi hk q).1; omega)]
    exact l.lev h i h1 h2 hi
theorem Lay.setG {w N T : Nat} {L : List Cel} {H : Cel} {F : Nat → Cel} {G : Nat → Nat → Cel} (l : Lay w N T L H F G) {g k : Nat} (h1 : 1 ≤ g) (h2 : g ≤ T) (hk : k < itN w g N) (x : Cel) : Lay w N T (L.set (ofU w N g k) x) H F (upd2 G g k x) := by
  have h0 : ofU w N g k < L.length := by rw [l.len]; exact of_great h2 hk
  have hs := tc_set x h0
  refine ⟨by rw [List.length_set]; exact l.len, by rw [hs, if_neg (by have := of_pos w N g k; omega)]; exact l.hdr, fun i hi => ?_, fun h i h1' h2' hi => ?_⟩
  · rw [hs, if_neg (fun q => by have := (of_inj (h := 0) hi hk q).1; omega)]
    exact l.row i hi
  · rw [hs]
    unfold upd2
    by_cases e : h = g ∧ i = k
    · rw [if_pos (by rw [e.1, e.2]), if_pos e]
    · rw [if_neg (fun q => e (of_inj hi hk q)), if_neg e]
      exact l.lev h i h1' h2' hi
theorem Lay.to {w N T : Nat} {L : List Cel} {H H' : Cel} {F F' : Nat → Cel} {G G' : Nat → Nat → Cel} (l : Lay w N T L H F G) (h0 : H = H') (h1 : ∀ i, i < N → F i = F' i) (h2 : ∀ h i, 1 ≤ h → h ≤ T → i < itN w h N → G h i = G' h i) : Lay w N T L H' F' G' :=
  ⟨l.len, h0 ▸ l.hdr, fun i hi => (l.row i hi).trans (h1 i hi), fun h i a b hi => (l.lev h i a b hi).trans (h2 h i a b hi)⟩
theorem Lay.same {w N T : Nat} {L L' : List Cel} {H : Cel} {F : Nat → Cel} {G : Nat → Nat → Cel} (l : Lay w N T L H F G) (l' : Lay w N T L' H F G) : L = L' := by
  refine List.ext_getElem (by rw [l.len, l'.len]) fun k hk hk' => ?_
  rw [← tc_get hk, ← tc_get hk']
  by_cases e : k = 0
  · rw [e, l.hdr, l'.hdr]
  · obtain ⟨h, i, a, b, rfl⟩ := of_all (w := w) (N := N) (k := k) (by omega) T (by rw [← l.len]; exact hk)
    by_cases e2 : h = 0
    · subst e2
      rw [l.row i b, l'.row i b]
    · rw [l.lev h i (by omega) a b, l'.lev h i (by omega) a b]
/-- The cells of rows. -/
def hM (M : List Rw) : Cel := ⟨0, (M.length : Int), 0, 0⟩
def fM (M : List Rw) (i : Nat) : Cel := if i < M.length then ⟨0, (M.getD i zrw).k, (M.getD i zrw).v, 0⟩ else zce
def gM (w : Nat) (M : List Rw) (h i : Nat) : Cel := if i < itN w h M.length then ⟨0, (M.getD (lrN w M.length h i) zrw).k, 0, 0⟩ else zce
abbrev LayM (w N T : Nat) (L : List Cel) (M : List Rw) : Prop := Lay w N T L (hM M) (fM M) (gM w M)
/-- An item's key, of any level. -/
theorem LayM.key {w N T : Nat} {L : List Cel} {M : List Rw} (l : LayM w N T L M) (hw : 0 < w) (hn : M.length ≤ N) {h i : Nat} (hh : h ≤ T) (hi : i < itN w h M.length) : (tc L (ofU w N h i)).a = (M.getD (lrN w M.length h i) zrw).k := by
  have hiN : i < itN w h N := Nat.lt_of_lt_of_le hi (it_mono hw hn)
  by_cases e : h = 0
  · subst e
    have hi' : i < M.length := hi
    rw [l.row i hiN]
    unfold fM
    rw [if_pos hi', lr_zero hi']
  · rw [l.lev h i (by omega) hh hiN]
    unfold gM
    rw [if_pos hi]

/-- A frame, its cells, the offsets that were touched, the rows that were told. -/
structure StT where
  f : Frm
  L : List Cel
  t : List Int
  R : List Rw
def stepT (c : Cfg) (s : StT) : StT :=
  ⟨(treBehind c s.f ((trePut (treStep c s.f) s.L).getD (treStep c s.f).at'.toNat ⟨0, 0, 0, 0⟩)).1, trePut (treStep c s.f) s.L, treOffs (treStep c s.f) s.t, treRows (treBehind c s.f ((trePut (treStep c s.f) s.L).getD (treStep c s.f).at'.toNat ⟨0, 0, 0, 0⟩)) s.R⟩
def reachT (c : Cfg) : Nat → StT → StT → Prop
  | 0, s, s' => s = s'
  | n + 1, s, s' => (treStep c s.f).kind ≠ 4 ∧ reachT c n (stepT c s) s'
def ReachT (c : Cfg) (s s' : StT) : Prop := ∃ n, reachT c n s s'
theorem ReachT.refl (c : Cfg) (s : StT) : ReachT c s s := ⟨0, rfl⟩
theorem reachT_trans {c : Cfg} : ∀ (n m : Nat) {s s1 s2 : StT}, reachT c n s s1 → reachT c m s1 s2 → reachT c (n + m) s s2 := by
  intro n
  induction n with
  | zero =>
    intro m s s1 s2 h1 h2
    have e : s = s1 := h1
    rw [Nat.zero_add, e]
    exact h2
  | succ n ih =>
    intro m s s1 s2 h1 h2
    rw [show n + 1 + m = (n + m) + 1 by omega]
    exact ⟨h1.1, ih m h1.2 h2⟩
theorem ReachT.trans {c : Cfg} {s s1 s2 : StT} (h1 : ReachT c s s1) (h2 : ReachT c s1 s2) : ReachT c s s2 := by
  obtain ⟨n, h1⟩ := h1
  obtain ⟨m, h2⟩ := h2
  exact ⟨n + m, reachT_trans n m h1 h2⟩
theorem ReachT.read {c : Cfg} {f : Frm} {L : List Cel} {t : List Int} {R : List Rw} {s : StT} {k : Nat} (hs : treStep c f = ⟨1, (k : Int), 0, 0, 0, 0, 0⟩) (h : ReachT c ⟨(treBehind c f (tc L k)).1, L, t ++ [(k : Int)], treRows (treBehind c f (tc L k)) R⟩ s) : ReachT c ⟨f, L, t, R⟩ s := by
  obtain ⟨n, h⟩ := h
  refine ⟨n + 1, ?_, ?_⟩
  · rw [hs]
    show (1 : Int) ≠ 4
    decide
  · have e : stepT c ⟨f, L, t, R⟩ = ⟨(treBehind c f (tc L k)).1, L, t ++ [(k : Int)], treRows (treBehind c f (tc L k)) R⟩ := by
      unfold stepT
      dsimp only
      rw [hs]
      rfl
    rw [e]
    exact h
theorem ReachT.write {c : Cfg} {f : Frm} {L : List Cel} {t : List Int} {R : List Rw} {s : StT} {k : Nat} {a b : Int} (hs : treStep c f = ⟨2, (k : Int), a, b, 0, 0, 0⟩) (hk : k < L.length)
    (h : ReachT c ⟨(treBehind c f ⟨0, a, b, 0⟩).1, L.set k ⟨0, a, b, 0⟩, t ++ [(k : Int)], treRows (treBehind c f ⟨0, a, b, 0⟩) R⟩ s) : ReachT c ⟨f, L, t, R⟩ s := by
  obtain ⟨n, h⟩ := h
  refine ⟨n + 1, ?_, ?_⟩
  · rw [hs]
    show (2 : Int) ≠ 4
    decide
  · have e0 : (L.set k (⟨0, a, b, 0⟩ : Cel)).getD k ⟨0, 0, 0, 0⟩ = ⟨0, a, b, 0⟩ := by simp [hk]
    have e : stepT c ⟨f, L, t, R⟩ = ⟨(treBehind c f ⟨0, a, b, 0⟩).1, L.set k ⟨0, a, b, 0⟩, t ++ [(k : Int)], treRows (treBehind c f ⟨0, a, b, 0⟩) R⟩ := by
      unfold stepT
      dsimp only
      rw [hs]
      show StT.mk (treBehind c f ((L.set k (⟨0, a, b, 0⟩ : Cel)).getD k ⟨0, 0, 0, 0⟩)).1 _ _ (treRows (treBehind c f ((L.set k (⟨0, a, b, 0⟩ : Cel)).getD k ⟨0, 0, 0, 0⟩)) R) = _
      rw [e0]
      rfl
    rw [e]
    exact h
theorem ReachT.give {c : Cfg} {f : Frm} {L : List Cel} {t : List Int} {R : List Rw} {s : StT} (hs : treStep c f = ⟨3, 0, 0, 0, 0, 0, 0⟩) (h : ReachT c ⟨(treBehind c f (tc L 0)).1, L, t, treRows (treBehind c f (tc L 0)) R⟩ s) : ReachT c ⟨f, L, t, R⟩ s := by
  obtain ⟨n, h⟩ := h
  refine ⟨n + 1, ?_, ?_⟩
  · rw [hs]
    show (3 : Int) ≠ 4
    decide
  · have e : stepT c ⟨f, L, t, R⟩ = ⟨(treBehind c f (tc L 0)).1, L, t, treRows (treBehind c f (tc L 0)) R⟩ := by
      unfold stepT
      dsimp only
      rw [hs]
      rfl
    rw [e]
    exact h
theorem runT_of {c : Cfg} {o : Opn} {s' : StT} (hg : (treStep c s'.f).kind = 4) : ∀ (n : Nat) (s : StT), TreZ c o s.f → CelsFit s.L → (s.L.length : Int) = treGreat c → reachT c n s s' → ∀ (fuel : Nat), treRem c s.f < fuel →
    treRun c fuel s.f s.L s.t s.R = ⟨s'.L, (treStep c s'.f).code, (treStep c s'.f).v', s'.R, s'.t, true⟩ := by
  intro n
  induction n with
  | zero =>
    intro s hin _ _ hr fuel hfu
    have e : s = s' := hr
    have := tre_rem hin
    obtain ⟨k, rfl⟩ : ∃ k, fuel = k + 1 := ⟨fuel - 1, by omega⟩
    rw [e]
    rw [e] at hin
    exact treRun_done k _ _ _ hin.err (by simp [hg])
  | succ n ih =>
    intro s hin hL hl hr fuel hfu
    obtain ⟨h4, hr⟩ := hr
    obtain ⟨_, g1, g2, g3, g4⟩ := (tz_goes hin).resolve_left h4
    have := tre_rem hin
    obtain ⟨k, rfl⟩ : ∃ k, fuel = k + 1 := ⟨fuel - 1, by omega⟩
    have hb : ∀ l, treAfterA c s.f l = treBehind c s.f l := fun l => by simp [treAfterA, hin.err]
    have hput : CelsFit (trePut (treStep c s.f) s.L) := by
      unfold trePut
      split
      · exact hL.set _ (treStep_fits hin.fits)
      · exact hL
    obtain ⟨q1, q2⟩ := g4 _ (hput.get (treStep c s.f).at'.toNat)
    rw [treRun_step k s.L s.t s.R hin.err (by simp [h4]) g1 (by omega), hb]
    exact ih (stepT c s) q1 hput (by show ((trePut (treStep c s.f) s.L).length : Int) = _; rw [trePut_len]; exact hl) hr k (by show treRem c (treBehind c s.f _).1 < _; omega)
/-- A frame of an operation. -/
def ff (o : Opn) (b pc i j n p h x y : Int) : Frm := ⟨o.kind, o.a, b, pc, i, j, n, p, h, x, y⟩
end Go.Proofs.YtkklhhdkokncnaaDoor
/- Plain: a key is sought in a packed tree, level by level; no program in sight. -/
namespace Go.Proofs.YtkklhhdkokncnaaDoor
open Go Go.RowKit
set_option maxRecDepth 100000
set_option maxHeartbeats 8000000

/-- What a seek touches from an item of a level on: items of one node, in order, and then those of the level below. -/
def MidS (w N : Nat) : Nat → Nat → Nat → List Int → Prop
  | 0, m, r, s => ∃ k, 1 ≤ k ∧ r + k ≤ w ∧ m * w + r + k ≤ itN w 0 N ∧ s = (List.range k).map fun x => ((ofU w N 0 (m * w + r + x) : Nat) : Int)
  | h + 1, m, r, s => ∃ k rest, 1 ≤ k ∧ r + k ≤ w ∧ m * w + r + k ≤ itN w (h + 1) N ∧ s = ((List.range k).map fun x => ((ofU w N (h + 1) (m * w + r + x) : Nat) : Int)) ++ rest ∧ (rest = [] ∨ ∃ m', MidS w N h m' 0 rest)
theorem map_next (f : Nat → Int) (k : Nat) : (List.range (k + 1)).map f = f 0 :: (List.range k).map fun x => f (x + 1) := by
  rw [List.range_succ_eq_map]
  simp [List.map_map, Function.comp_def]
theorem MidS.one {w N h m r : Nat} (hr : r < w) (hi : m * w + r < itN w h N) : MidS w N h m r [((ofU w N h (m * w + r) : Nat) : Int)] := by
  cases h with
  | zero => exact ⟨1, by omega, by omega, by omega, by simp⟩
  | succ h => exact ⟨1, [], by omega, by omega, by omega, by simp, .inl rfl⟩
theorem MidS.down {w N h m r m' : Nat} {s : List Int} (hr : r < w) (hi : m * w + r < itN w (h + 1) N) (hs : MidS w N h m' 0 s) : MidS w N (h + 1) m r (((ofU w N (h + 1) (m * w + r) : Nat) : Int) :: s) :=
  ⟨1, s, by omega, by omega, by omega, by simp, .inr ⟨m', hs⟩⟩
theorem MidS.next {w N h m r : Nat} {s : List Int} (hs : MidS w N h m (r + 1) s) : MidS w N h m r (((ofU w N h (m * w + r) : Nat) : Int) :: s) := by
  cases h with
  | zero =>
    obtain ⟨k, h1, h2, h3, rfl⟩ := hs
    refine ⟨k + 1, by omega, by omega, by omega, ?_⟩
    rw [map_next]
    congr 2
    funext x
    rw [show m * w + (r + 1) + x = m * w + r + (x + 1) by omega]
  | succ h =>
    obtain ⟨k, rest, h1, h2, h3, rfl, h4⟩ := hs
    refine ⟨k + 1, rest, by omega, by omega, by omega, ?_, h4⟩
    rw [map_next, List.cons_append]
    congr 3
    funext x
    rw [show m * w + (r + 1) + x = m * w + r + (x + 1) by omega]
theorem div_mw {w m r : Nat} (hr : r < w) : (m * w + r) / w = m := by
  rw [Nat.add_comm, Nat.add_mul_div_right _ _ (by omega), Nat.div_eq_of_lt hr, Nat.zero_add]
theorem mod_mw {w m r : Nat} (hr : r < w) : (m * w + r) % w = r := by
  rw [Nat.add_comm, Nat.add_mul_mod_self_right, Nat.mod_eq_of_lt hr]
section
variable {c : Cfg} {o : Opn} {b i j n p h x y : Int} {l : Cel}
theorem item_eq : treBehind c (ff o b 1 i j n p h x y) l = treItem c (ff o b 1 i j n p h x y) l := by
  unfold treBehind
  rw [if_neg (show ¬ ((ff o b 1 i j n p h x y).pc == 0) = true from by show ¬ ((1 : Int) == 0) = true; decide), if_pos (show ((ff o b 1 i j n p h x y).pc == 1) = true from rfl)]
theorem item_form : treBehind c (ff o b 1 i j n p h x y) l = if o.a ≤ l.a then (if h == 0 then treFound c (ff o b 1 i j n i h (l.a % 4294967296) (l.b % 4294967296)) else (ff o b 1 (i * c.node % 256) j n p (h - 1) x y, false))
    else if (i + 1) % c.node == 0 || decide (treUp c n h ≤ i + 1) then (treNone c (ff o b 1 i j n p h x y), false) else (ff o b 1 (i + 1) j n p h x y, false) := by
  rw [item_eq]
  rfl
theorem item_found (ha : o.a ≤ l.a) : treBehind c (ff o b 1 i j n p 0 x y) l = treFound c (ff o b 1 i j n i 0 (l.a % 4294967296) (l.b % 4294967296)) := by
  rw [item_form, if_pos ha, if_pos (show ((0 : Int) == 0) = true from rfl)]
theorem item_down (ha : o.a ≤ l.a) (hh : ¬ h = 0) : treBehind c (ff o b 1 i j n p h x y) l = (ff o b 1 (i * c.node % 256) j n p (h - 1) x y, false) := by
  rw [item_form, if_pos ha, if_neg (by simp [hh])]
theorem item_next (ha : ¬ o.a ≤ l.a) (h1 : ((i + 1) % c.node == 0) = false) (h2 : ¬ treUp c n h ≤ i + 1) : treBehind c (ff o b 1 i j n p h x y) l = (ff o b 1 (i + 1) j n p h x y, false) := by
  rw [item_form, if_neg ha, h1, decide_eq_false h2, if_neg (by decide)]
theorem item_none (ha : ¬ o.a ≤ l.a) (h2 : treUp c n h ≤ i + 1) : treBehind c (ff o b 1 i j n p h x y) l = (treNone c (ff o b 1 i j n p h x y), false) := by
  rw [item_form, if_neg ha, decide_eq_true h2, Bool.or_true, if_pos rfl]
theorem step1 : treStep c (ff o b 1 i j n p h x y) = ⟨1, treOff c h i, 0, 0, 0, 0, 0⟩ := by simp [treStep, ff]
end
/-- Behind the first key that is not less was found. -/
abbrev fndF (o : Opn) (M : List Rw) (b j : Int) (q : Nat) : Frm := ff o b 1 q j M.length q 0 ((M.getD q zrw).k % 4294967296) ((M.getD q zrw).v % 4294967296)
theorem seek {c : Cfg} {w N T : Nat} (hc : TreN c w N T) {o : Opn} {M : List Rw} {L : List Cel} (hl : LayM w N T L M) (hn : M.length ≤ N) {q : Nat} (hq : q ≤ M.length) (h1 : ∀ r, r < q → (M.getD r zrw).k < o.a) (h2 : ∀ r, q ≤ r → r < M.length → o.a ≤ (M.getD r zrw).k) {b j p x y : Int} {R : List Rw} :
    ∀ (h : Nat), h ≤ T → ∀ (d m r : Nat) (t : List Int), r < w → m * w + r + d = itN w h M.length → 1 ≤ d → (m * w + r) * w ^ h ≤ q → ((h = T ∧ m = 0) ∨ (h < T ∧ q ≤ lrN w M.length (h + 1) m)) →
    ∃ s, MidS w N h m r s ∧ ((q < M.length ∧ ReachT c ⟨ff o b 1 ((m * w + r : Nat) : Int) j M.length p h x y, L, t, R⟩ ⟨(treFound c (fndF o M b j q)).1, L, t ++ s, treRows (treFound c (fndF o M b j q)) R⟩) ∨
      (q = M.length ∧ ∃ i' h' : Int, ReachT c ⟨ff o b 1 ((m * w + r : Nat) : Int) j M.length p h x y, L, t, R⟩ ⟨treNone c (ff o b 1 i' j M.length p h' x y), L, t ++ s, R⟩)) := by
  obtain ⟨hw, hN, hT4⟩ := hc.bd
  have hw0 : 0 < w := by omega
  intro h
  induction h with
  | zero =>
    intro hT d
    induction d with
    | zero => intro _ _ _ _ _ h; omega
    | succ d ihd =>
      intro m r t hr hd _ hlo hpar
      have hi : m * w + r < itN w 0 M.length := by omega
      have hi' : m * w + r < M.length := hi
      have hiN : m * w + r < itN w 0 N := Nat.lt_of_lt_of_le hi (it_mono hw0 hn)
      have hoff := hc.off (k := 0) (Nat.zero_le _) hiN
      have hkey := hl.key hw0 hn (Nat.zero_le _) hi
      rw [lr_zero hi'] at hkey
      rw [Nat.pow_zero, Nat.mul_one] at hlo
      have hs : treStep c (ff o b 1 ((m * w + r : Nat) : Int) j M.length p ((0 : Nat) : Int) x y) = ⟨1, ((ofU w N 0 (m * w + r) : Nat) : Int), 0, 0, 0, 0, 0⟩ := by rw [step1, hoff]
      by_cases hle : o.a ≤ (M.getD (m * w + r) zrw).k
      · have hqi : q = m * w + r := by
          by_cases e : q = m * w + r
          · exact e
          · exfalso
            by_cases e2 : m * w + r < q
            · have := h1 _ e2; omega
            · omega
        have hrow := hl.row (m * w + r) (by omega)
        unfold fM at hrow
        rw [if_pos hi'] at hrow
        refine ⟨[((ofU w N 0 (m * w + r) : Nat) : Int)], MidS.one hr hiN, .inl ⟨by omega, ?_⟩⟩
        refine ReachT.read hs ?_
        rw [show ((0 : Nat) : Int) = 0 from rfl, item_found (by rw [hkey]; exact hle), hrow, hqi]
        exact ReachT.refl _ _
      · by_cases hmore : m * w + r + 1 < M.length
        · have hq1 : m * w + r + 1 ≤ q := by
            by_cases e : q ≤ m * w + r
            · exact absurd (h2 _ e hi') hle
            · omega
          have hr1 : r + 1 < w := by
            by_cases e : r + 1 < w
            · exact e
            · exfalso
              rcases hpar with ⟨e1, e2⟩ | ⟨_, e2⟩
              · have ht := hc.top
                rw [← e1] at ht
                have : itN w 0 N = N := rfl
                rw [e2, Nat.zero_mul] at hmore
                omega
              · unfold lrN at e2
                have : (m + 1) * w ^ (0 + 1) = m * w + r + 1 := by rw [Nat.pow_one, Nat.add_mul, Nat.one_mul]; omega
                rw [this] at e2
                omega
          obtain ⟨s, hs1, hs2⟩ := ihd m (r + 1) (t ++ [((ofU w N 0 (m * w + r) : Nat) : Int)]) hr1 (by omega) (by have : itN w 0 M.length = M.length := rfl; omega) (by rw [Nat.pow_zero, Nat.mul_one]; omega) hpar
          have hmod : ((((m * w + r : Nat) : Int) + 1) % c.node == 0) = false := by
            rw [hc.w, show ((m * w + r : Nat) : Int) + 1 = ((m * w + (r + 1) : Nat) : Int) by omega, ← Int.natCast_emod, mod_mw hr1]
            simp
            omega
          have hup : ¬ treUp c (M.length : Int) ((0 : Nat) : Int) ≤ ((m * w + r : Nat) : Int) + 1 := by
            rw [hc.up]
            have : itN w 0 M.length = M.length := rfl
            omega
          have hnx : treBehind c (ff o b 1 ((m * w + r : Nat) : Int) j M.length p ((0 : Nat) : Int) x y) (tc L (ofU w N 0 (m * w + r))) = (ff o b 1 ((m * w + (r + 1) : Nat) : Int) j M.length p ((0 : Nat) : Int) x y, false) := by
            rw [item_next (by rw [hkey]; exact hle) hmod hup, show ((m * w + r : Nat) : Int) + 1 = ((m * w + (r + 1) : Nat) : Int) by omega]
          refine ⟨_, MidS.next hs1, ?_⟩
          rw [List.append_cons]
          rcases hs2 with ⟨a1, a2⟩ | ⟨a1, i', h', a2⟩
          · refine .inl ⟨a1, ReachT.read hs ?_⟩
            rw [hnx]
            exact a2
          · refine .inr ⟨a1, i', h', ReachT.read hs ?_⟩
            rw [hnx]
            exact a2
        · have hqn : q = M.length := by
            by_cases e : q ≤ m * w + r
            · exact absurd (h2 _ e hi') hle
            · omega
          refine ⟨[((ofU w N 0 (m * w + r) : Nat) : Int)], MidS.one hr hiN, .inr ⟨hqn, ((m * w + r : Nat) : Int), ((0 : Nat) : Int), ReachT.read hs ?_⟩⟩
          rw [item_none (by rw [hkey]; exact hle) (by rw [hc.up]; have : itN w 0 M.length = M.length := rfl; omega)]
          exact ReachT.refl _ _
  | succ h ihh =>
    intro hT d
    induction d with
    | zero => intro _ _ _ _ _ h; omega
    | succ d ihd =>
      intro m r t hr hd _ hlo hpar
      have hi : m * w + r < itN w (h + 1) M.length := by omega
      have hiN : m * w + r < itN w (h + 1) N := Nat.lt_of_lt_of_le hi (it_mono hw0 hn)
      have hoff := hc.off (k := h + 1) hT hiN
      have hkey := hl.key hw0 hn hT hi
      obtain ⟨hlr1, hlr2⟩ := lr_lt hw0 hi
      have hs : treStep c (ff o b 1 ((m * w + r : Nat) : Int) j M.length p ((h + 1 : Nat) : Int) x y) = ⟨1, ((ofU w N (h + 1) (m * w + r) : Nat) : Int), 0, 0, 0, 0, 0⟩ := by rw [step1, hoff]
      by_cases hle : o.a ≤ (M.getD (lrN w M.length (h + 1) (m * w + r)) zrw).k
      · have hqi : q ≤ lrN w M.length (h + 1) (m * w + r) := by
          by_cases e : q ≤ lrN w M.length (h + 1) (m * w + r)
          · exact e
          · have := h1 _ (by omega : lrN w M.length (h + 1) (m * w + r) < q)
            omega
        have hbel : (m * w + r) * w < itN w h M.length := by
          rw [lt_it hw0, Nat.mul_assoc, ← Nat.pow_succ']
          exact (lt_it hw0 (h + 1) _ _).1 hi
        have hbel2 : (m * w + r) * w < N := by
          have h3 : itN w h M.length ≤ M.length := by
            by_cases e : itN w h M.length ≤ M.length
            · exact e
            · have := (lt_it hw0 h M.length M.length).1 (by omega)
              have h4 : 1 ≤ w ^ h := Nat.pow_pos hw0
              have := Nat.mul_le_mul_left M.length h4
              omega
          omega
        obtain ⟨s, hs1, hs2⟩ := ihh (by omega) (itN w h M.length - (m * w + r) * w) (m * w + r) 0 (t ++ [((ofU w N (h + 1) (m * w + r) : Nat) : Int)]) hw0 (by omega) (by omega) (by rw [Nat.add_zero, Nat.mul_assoc, ← Nat.pow_succ']; exact hlo) (.inr ⟨by omega, hqi⟩)
        have hdn : treBehind c (ff o b 1 ((m * w + r : Nat) : Int) j M.length p ((h + 1 : Nat) : Int) x y) (tc L (ofU w N (h + 1) (m * w + r))) = (ff o b 1 (((m * w + r) * w + 0 : Nat) : Int) j M.length p (h : Int) x y, false) := by
          rw [item_down (by rw [hkey]; exact hle) (by omega)]
          have e1 : ((m * w + r : Nat) : Int) * c.node % 256 = (((m * w + r) * w + 0 : Nat) : Int) := by
            rw [hc.w, ← Int.natCast_mul]
            omega
          rw [e1, show ((h + 1 : Nat) : Int) - 1 = (h : Int) by omega]
        refine ⟨_, MidS.down hr hiN hs1, ?_⟩
        rw [List.append_cons]
        rcases hs2 with ⟨a1, a2⟩ | ⟨a1, i', h', a2⟩
        · refine .inl ⟨a1, ReachT.read hs ?_⟩
          rw [hdn]
          exact a2
        · refine .inr ⟨a1, i', h', ReachT.read hs ?_⟩
          rw [hdn]
          exact a2
      · have hql : lrN w M.length (h + 1) (m * w + r) < q := by
          by_cases e : q ≤ lrN w M.length (h + 1) (m * w + r)
          · exact absurd (h2 _ e hlr1) hle
          · omega
        by_cases hmore : m * w + r + 1 < itN w (h + 1) M.length
        · have hmo := (lt_it hw0 (h + 1) _ _).1 hmore
          have hlr3 : lrN w M.length (h + 1) (m * w + r) = (m * w + r + 1) * w ^ (h + 1) - 1 := by
            unfold lrN
            omega
          have hq1 : (m * w + r + 1) * w ^ (h + 1) ≤ q := by omega
          have hr1 : r + 1 < w := by
            by_cases e : r + 1 < w
            · exact e
            · exfalso
              rcases hpar with ⟨e1, e2⟩ | ⟨_, e2⟩
              · have ht := hc.top
                rw [← e1] at ht
                have := it_mono (h := h + 1) hw0 hn
                rw [e2, Nat.zero_mul] at hmore
                omega
              · unfold lrN at e2
                have e3 : (m + 1) * w ^ (h + 1 + 1) = (m * w + r + 1) * w ^ (h + 1) := by
                  rw [Nat.pow_succ', ← Nat.mul_assoc, Nat.add_mul m 1 w, Nat.one_mul, show m * w + w = m * w + r + 1 by omega]
                rw [e3] at e2
                omega
          obtain ⟨s, hs1, hs2⟩ := ihd m (r + 1) (t ++ [((ofU w N (h + 1) (m * w + r) : Nat) : Int)]) hr1 (by omega) (by omega) (by rw [← Nat.add_assoc]; exact hq1) hpar
          have hmod : ((((m * w + r : Nat) : Int) + 1) % c.node == 0) = false := by
            rw [hc.w, show ((m * w + r : Nat) : Int) + 1 = ((m * w + (r + 1) : Nat) : Int) by omega, ← Int.natCast_emod, mod_mw hr1]
            simp
            omega
          have hup : ¬ treUp c (M.length : Int) ((h + 1 : Nat) : Int) ≤ ((m * w + r : Nat) : Int) + 1 := by
            rw [hc.up]
            omega
          have hnx : treBehind c (ff o b 1 ((m * w + r : Nat) : Int) j M.length p ((h + 1 : Nat) : Int) x y) (tc L (ofU w N (h + 1) (m * w + r))) = (ff o b 1 ((m * w + (r + 1) : Nat) : Int) j M.length p ((h + 1 : Nat) : Int) x y, false) := by
            rw [item_next (by rw [hkey]; exact hle) hmod hup, show ((m * w + r : Nat) : Int) + 1 = ((m * w + (r + 1) : Nat) : Int) by omega]
          refine ⟨_, MidS.next hs1, ?_⟩
          rw [List.append_cons]
          rcases hs2 with ⟨a1, a2⟩ | ⟨a1, i', h', a2⟩
          · refine .inl ⟨a1, ReachT.read hs ?_⟩
            rw [hnx]
            exact a2
          · refine .inr ⟨a1, i', h', ReachT.read hs ?_⟩
            rw [hnx]
            exact a2
        · have hqn : q = M.length := by
            have : M.length ≤ (m * w + r + 1) * w ^ (h + 1) := by
              by_cases e : (m * w + r + 1) * w ^ (h + 1) < M.length
              · exact absurd ((lt_it hw0 (h + 1) _ _).2 e) hmore
              · omega
            unfold lrN at hql
            omega
          refine ⟨[((ofU w N (h + 1) (m * w + r) : Nat) : Int)], MidS.one hr hiN, .inr ⟨hqn, ((m * w + r : Nat) : Int), ((h + 1 : Nat) : Int), ReachT.read hs ?_⟩⟩
          rw [item_none (by rw [hkey]; exact hle) (by rw [hc.up]; omega)]
          exact ReachT.refl _ _
/-- From the start: the header is read, and the key sought. -/
theorem seek0 {c : Cfg} {w N T : Nat} (hc : TreN c w N T) {o : Opn} {M : List Rw} {L : List Cel} (hl : LayM w N T L M) (hn : M.length ≤ N) {q : Nat} (hq : q ≤ M.length) (h1 : ∀ r, r < q → (M.getD r zrw).k < o.a) (h2 : ∀ r, q ≤ r → r < M.length → o.a ≤ (M.getD r zrw).k) :
    ∃ s, (s = [] ∨ MidS w N T 0 0 s) ∧ ((q < M.length ∧ ReachT c ⟨startF o, L, [], []⟩ ⟨(treFound c (fndF o M o.b 0 q)).1, L, 0 :: s, treRows (treFound c (fndF o M o.b 0 q)) []⟩) ∨
      (q = M.length ∧ ∃ i' h' x' : Int, ReachT c ⟨startF o, L, [], []⟩ ⟨treNone c (ff o o.b (if M.length = 0 then 0 else 1) i' 0 M.length 0 h' 0 x'), L, 0 :: s, []⟩)) := by
  obtain ⟨hw, hN, hT4⟩ := hc.bd
  have hhd := hl.hdr
  have hs : treStep c (startF o) = ⟨1, ((0 : Nat) : Int), 0, 0, 0, 0, 0⟩ := by simp [treStep, startF]
  have hmin : (if (tc L 0).a < c.cap then (tc L 0).a else c.cap) = (M.length : Int) := by
    rw [hhd, hc.N]
    show (if (M.length : Int) < (N : Int) then (M.length : Int) else (N : Int)) = _
    split <;> omega
  have hb : treBehind c (startF o) (tc L 0) = if ((M.length : Int) == 0) then (treNone c { startF o with n := 0 }, false) else ({ startF o with n := (M.length : Int), h := treTop c, i := 0, pc := 1 }, false) := by
    unfold treBehind
    rw [if_pos (show ((startF o).pc == 0) = true from rfl), hmin]
  by_cases h0 : M.length = 0
  · refine ⟨[], .inl rfl, .inr ⟨by omega, 0, 0, o.c, ReachT.read hs ?_⟩⟩
    rw [hb, if_pos (by simp [h0]), if_pos h0, h0]
    exact ReachT.refl _ _
  · have hup : 0 < itN w T M.length := it_pos (by omega) (by omega)
    obtain ⟨s, hs1, hs2⟩ := seek hc hl hn hq h1 h2 (b := o.b) (j := 0) (p := 0) (x := 0) (y := o.c) (R := []) T (Nat.le_refl _) (itN w T M.length) 0 0 [0] (by omega) (by omega) (by omega) (by rw [Nat.zero_mul, Nat.zero_add, Nat.zero_mul]; exact Nat.zero_le _) (.inl ⟨rfl, rfl⟩)
    have hb2 : treBehind c (startF o) (tc L 0) = (ff o o.b 1 ((0 * w + 0 : Nat) : Int) 0 M.length 0 T 0 o.c, false) := by
      rw [hb, if_neg (show ¬ ((M.length : Int) == 0) = true by rw [beq_iff_eq]; omega), hc.T]
      simp [ff, startF]
    refine ⟨s, .inr hs1, ?_⟩
    rcases hs2 with ⟨a1, a2⟩ | ⟨a1, i', h', a2⟩
    · refine .inl ⟨a1, ReachT.read hs ?_⟩
      rw [hb2]
      exact a2
    · refine .inr ⟨a1, i', h', o.c, ReachT.read hs ?_⟩
      rw [hb2, if_neg h0]
      exact a2
end Go.Proofs.YtkklhhdkokncnaaDoor
