/- Plain: what only reads, of a packed tree, answers what the model says; no program in sight. -/
import Derived.Test.YtkklhhdkokncnaaDoorTm
import Derived.Test.YtkklhhdkokncnaaDoorOrdB
import Derived.Test.YtkklhhdkokncnaaDoorOz
namespace Go.Proofs.YtkklhhdkokncnaaDoor
open Go Go.RowKit order
set_option maxRecDepth 100000
set_option maxHeartbeats 8000000

/-- An operation of a packed tree leaves, and answers, what is said. -/
def EndT (c : Cfg) (w N T : Nat) (o : Opn) (L : List Cel) (Z : order.Outc) (t : List Int) : Prop :=
  ∃ (g : Frm) (L' : List Cel), LayM w N T L' Z.rows ∧ (treStep c g).kind = 4 ∧ (treStep c g).code = Z.code ∧ (treStep c g).v' = Z.word ∧ ReachT c ⟨startF o, L, [], []⟩ ⟨g, L', t, Z.res⟩
theorem end20 (c : Cfg) (o : Opn) (b i j n p h x y : Int) : treStep c (ff o b 20 i j n p h x y) = ⟨4, 0, 0, 0, 0, 0, 0⟩ := by simp [treStep, ff]
theorem end21 (c : Cfg) (o : Opn) (b i j n p h x y : Int) : treStep c (ff o b 21 i j n p h x y) = ⟨4, 0, 0, 0, 0, 6, 0⟩ := by simp [treStep, ff]
theorem end22 (c : Cfg) (o : Opn) (b i j n p h x y : Int) : treStep c (ff o b 22 i j n p h x y) = ⟨4, 0, 0, 0, 0, 9, 0⟩ := by simp [treStep, ff]
theorem end23 (c : Cfg) (o : Opn) (b i j n p h x y : Int) : treStep c (ff o b 23 i j n p h x y) = ⟨4, 0, 0, 0, 0, 0, (y + 1) % 4294967296⟩ := by simp [treStep, ff]
theorem end24 (c : Cfg) (o : Opn) (b i j n p h x y : Int) : treStep c (ff o b 24 i j n p h x y) = ⟨4, 0, 0, 0, 0, 0, 0⟩ := by simp [treStep, ff]
theorem end25 (c : Cfg) (o : Opn) (b i j n p h x y : Int) : treStep c (ff o b 25 i j n p h x y) = ⟨4, 0, 0, 0, 0, 0, b⟩ := by simp [treStep, ff]
theorem read_row {c : Cfg} {w N T : Nat} (hc : TreN c w N T) {L : List Cel} {M : List Rw} (hl : LayM w N T L M) (hn : M.length ≤ N) {i : Nat} (hi : i < M.length) : treOff c 0 (i : Int) = ((ofU w N 0 i : Nat) : Int) ∧ tc L (ofU w N 0 i) = ⟨0, (M.getD i zrw).k, (M.getD i zrw).v, 0⟩ := by
  have hiN : i < itN w 0 N := by
    show i < N
    omega
  refine ⟨hc.off (k := 0) (Nat.zero_le _) hiN, ?_⟩
  rw [hl.row i (by omega)]
  unfold fM
  rw [if_pos hi]
theorem row_mod {M : List Rw} (hM : ∀ x ∈ M, RowOk x) {i : Nat} (hi : i < M.length) : (M.getD i zrw).k % 4294967296 = (M.getD i zrw).k ∧ (M.getD i zrw).v % 4294967296 = (M.getD i zrw).v ∧ RowOk (M.getD i zrw) := by
  have h : RowOk (M.getD i zrw) := by rw [getD_rw M i hi]; exact hM _ (List.getElem_mem hi)
  obtain ⟨⟨h1, h2⟩, h3, h4⟩ := h
  exact ⟨by omega, by omega, ⟨h1, h2⟩, h3, h4⟩
theorem look_at {M : List Rw} (hr : Rises M) {a : Int} {q : Nat} (_hq : q ≤ M.length) (h1 : ∀ r, r < q → (M.getD r zrw).k < a) (h2 : ∀ r, q ≤ r → r < M.length → a ≤ (M.getD r zrw).k) : look M a = if q < M.length ∧ (M.getD q zrw).k = a then some (M.getD q zrw).v else none := by
  split
  · rename_i h
    exact look_hit h.1 h.2 fun j hj e => by have := h1 j hj; omega
  · rename_i h
    refine look_miss fun j hj e => ?_
    by_cases e1 : j < q
    · have := h1 j e1; omega
    · by_cases e2 : j = q
      · subst e2
        exact h ⟨hj, e⟩
      · have h3 := rises_at hr (i := q) (j := j) (by omega) hj
        have h4 := h2 q (Nat.le_refl _) (by omega)
        omega
theorem get_means {c : Cfg} {w N T : Nat} (hc : TreN c w N T) {o : Opn} {M : List Rw} {L : List Cel} (hl : LayM w N T L M) (hn : M.length ≤ N) (hr : Rises M) (hM : ∀ x ∈ M, RowOk x) (hk : o.kind = 6) :
    ∃ s, (s = [] ∨ MidS w N T 0 0 s) ∧ EndT c w N T o L (ordDone c M o) (0 :: s) := by
  obtain ⟨q, hq, h1, h2⟩ := at_any o.a hr
  obtain ⟨s, hs, hx⟩ := seek0 hc hl hn hq h1 h2
  refine ⟨s, hs, ?_⟩
  have hlk := look_at hr hq h1 h2
  have hd : ordDone c M o = match look M o.a with | some u => ⟨M, 0, u + 1, [], 0⟩ | none => ⟨M, 6, 0, [], 0⟩ := by
    unfold ordDone ordRead
    rw [if_pos (by simp [hk]), if_pos (by simp [hk])]
    cases look M o.a <;> rfl
  rw [hd, hlk]
  rcases hx with ⟨a1, a2⟩ | ⟨a1, i', h', x', a2⟩
  · obtain ⟨e1, e2, hro⟩ := row_mod hM a1
    unfold fndF at a2
    rw [e1, e2] at a2
    by_cases e : (M.getD q zrw).k = o.a
    · have hf : treFound c (ff o o.b 1 q 0 M.length q 0 (M.getD q zrw).k (M.getD q zrw).v) = (ff o o.b 23 q 0 M.length q 0 (M.getD q zrw).k (M.getD q zrw).v, false) := by
        simp [treFound, ff, hk, e, -List.getD_eq_getElem?_getD]
      rw [hf] at a2
      rw [if_pos ⟨a1, e⟩]
      refine ⟨_, L, hl, by rw [end23], by rw [end23], ?_, a2⟩
      rw [end23]
      obtain ⟨_, h3, h4⟩ := hro
      show ((M.getD q zrw).v + 1) % 4294967296 = (M.getD q zrw).v + 1
      omega
    · have hf : treFound c (ff o o.b 1 q 0 M.length q 0 (M.getD q zrw).k (M.getD q zrw).v) = (ff o o.b 21 q 0 M.length q 0 (M.getD q zrw).k (M.getD q zrw).v, false) := by
        simp [treFound, ff, hk, e, -List.getD_eq_getElem?_getD]
      rw [hf] at a2
      rw [if_neg (fun z => e z.2)]
      exact ⟨_, L, hl, by rw [end21], by rw [end21], by rw [end21], a2⟩
  · have hf : treNone c (ff o o.b (if M.length = 0 then 0 else 1) i' 0 M.length 0 h' 0 x') = ff o o.b 21 i' 0 M.length M.length h' 0 x' := by
      simp [treNone, ff, hk]
    rw [hf] at a2
    rw [if_neg (fun z => by omega)]
    exact ⟨_, L, hl, by rw [end21], by rw [end21], by rw [end21], a2⟩
/-- Behind a key that was found, a row is told that stands ahead. -/
theorem floor_back {c : Cfg} {w N T : Nat} (hc : TreN c w N T) {o : Opn} {M : List Rw} {L : List Cel} (hl : LayM w N T L M) (hn : M.length ≤ N) (hM : ∀ x ∈ M, RowOk x) {p : Nat} (hp1 : 1 ≤ p) (hp2 : p ≤ M.length) (b i j n h x y : Int) (t : List Int) :
    ∃ (g : Frm) (t' : List Int), (treStep c g).kind = 4 ∧ (treStep c g).code = 0 ∧ (treStep c g).v' = 0 ∧ ReachT c ⟨ff o b 3 i j n p h x y, L, t, []⟩ ⟨g, L, t', [M.getD (p - 1) zrw]⟩ := by
  obtain ⟨e0, e1⟩ := read_row hc hl hn (i := p - 1) (by omega)
  obtain ⟨m1, m2, _⟩ := row_mod hM (i := p - 1) (by omega)
  have hs : treStep c (ff o b 3 i j n p h x y) = ⟨1, ((ofU w N 0 (p - 1) : Nat) : Int), 0, 0, 0, 0, 0⟩ := by
    rw [← e0, show ((p - 1 : Nat) : Int) = (p : Int) - 1 by omega]
    simp [treStep, ff]
  have hb : treBehind c (ff o b 3 i j n p h x y) (tc L (ofU w N 0 (p - 1))) = (ff o b 20 i j n p h (M.getD (p - 1) zrw).k (M.getD (p - 1) zrw).v, true) := by
    rw [e1]
    simp [treBehind, treOver, ff, m1, m2, -List.getD_eq_getElem?_getD]
  refine ⟨ff o b 20 i j n p h (M.getD (p - 1) zrw).k (M.getD (p - 1) zrw).v, t ++ [((ofU w N 0 (p - 1) : Nat) : Int)], by rw [end20], by rw [end20], by rw [end20], ReachT.read hs ?_⟩
  rw [hb]
  exact ReachT.refl _ _
theorem floor_means {c : Cfg} {w N T : Nat} (hc : TreN c w N T) {o : Opn} {M : List Rw} {L : List Cel} (hl : LayM w N T L M) (hn : M.length ≤ N) (hr : Rises M) (hM : ∀ x ∈ M, RowOk x) (hk : o.kind = 7) :
    ∃ t, EndT c w N T o L (ordDone c M o) t := by
  obtain ⟨q, hq, h1, h2⟩ := at_any o.a hr
  obtain ⟨s, hs, hx⟩ := seek0 hc hl hn hq h1 h2
  have hd : ordDone c M o = if (ordFloor M o.a).isEmpty then ⟨M, 6, 0, [], 0⟩ else ⟨M, 0, 0, ordFloor M o.a, 0⟩ := by
    unfold ordDone ordRead
    rw [if_pos (by simp [hk]), if_neg (by simp [hk]), if_neg (by simp [hk])]
  rw [hd]
  rcases hx with ⟨a1, a2⟩ | ⟨a1, i', h', x', a2⟩
  · obtain ⟨e1, e2, hro⟩ := row_mod hM a1
    unfold fndF at a2
    rw [e1, e2] at a2
    by_cases e : (M.getD q zrw).k = o.a
    · have hfl : ordFloor M o.a = [M.getD q zrw] := by
        rw [ordFloor_at o.a (i := q + 1) (by omega) (fun j hj => ?_) (fun j hj hjl => ?_), if_neg (by omega), Nat.add_sub_cancel]
        · by_cases z : j = q
          · rw [z, e]
            exact Int.le_refl _
          · have := h1 j (by omega); omega
        · have := rises_at hr (i := q) (j := j) (by omega) hjl
          omega
      have hf : treFound c (ff o o.b 1 q 0 M.length q 0 (M.getD q zrw).k (M.getD q zrw).v) = (ff o o.b 20 q 0 M.length q 0 (M.getD q zrw).k (M.getD q zrw).v, true) := by
        simp [treFound, ff, hk, e, -List.getD_eq_getElem?_getD]
      rw [hf] at a2
      rw [hfl]
      exact ⟨_, _, L, hl, by rw [end20], by rw [end20]; rfl, by rw [end20]; rfl, a2⟩
    · have hfl := ordFloor_at (L := M) o.a (i := q) hq (fun j hj => by have := h1 j hj; omega) (fun j hj hjl => by
        have h3 := h2 j hj hjl
        by_cases z : j = q
        · rw [z] at h3 ⊢
          omega
        · have := rises_at hr (i := q) (j := j) (by omega) hjl
          have := h2 q (Nat.le_refl _) a1
          omega)
      by_cases q0 : q = 0
      · have hf : treFound c (ff o o.b 1 q 0 M.length q 0 (M.getD q zrw).k (M.getD q zrw).v) = (ff o o.b 21 q 0 M.length q 0 (M.getD q zrw).k (M.getD q zrw).v, false) := by
          have z : ((q : Int) == 0) = true := by simp [q0]
          simp [treFound, ff, hk, e, z, -List.getD_eq_getElem?_getD]
        rw [hf] at a2
        have hfl' : ordFloor M o.a = [] := by rw [hfl, if_pos q0]
        rw [hfl']
        exact ⟨_, _, L, hl, by rw [end21], by rw [end21]; rfl, by rw [end21]; rfl, a2⟩
      · have hf : treFound c (ff o o.b 1 q 0 M.length q 0 (M.getD q zrw).k (M.getD q zrw).v) = (ff o o.b 3 q 0 M.length q 0 (M.getD q zrw).k (M.getD q zrw).v, false) := by
          simp [treFound, ff, hk, e, q0, -List.getD_eq_getElem?_getD]
        rw [hf] at a2
        obtain ⟨g, t', g1, g2, g3, g4⟩ := floor_back hc hl hn hM (o := o) (p := q) (by omega) hq o.b q 0 M.length 0 (M.getD q zrw).k (M.getD q zrw).v (0 :: s)
        have hfl' : ordFloor M o.a = [M.getD (q - 1) zrw] := by rw [hfl, if_neg q0]
        rw [hfl']
        exact ⟨t', g, L, hl, g1, g2, g3, a2.trans g4⟩
  · have hfl := ordFloor_at (L := M) o.a (i := q) hq (fun j hj => by have := h1 j hj; omega) (fun j hj hjl => by omega)
    by_cases q0 : M.length = 0
    · have hf : treNone c (ff o o.b (if M.length = 0 then 0 else 1) i' 0 M.length 0 h' 0 x') = ff o o.b 21 i' 0 M.length M.length h' 0 x' := by
        simp [treNone, ff, hk, q0]
      rw [hf] at a2
      have hfl' : ordFloor M o.a = [] := by rw [hfl, if_pos (show q = 0 by omega)]
      rw [hfl']
      exact ⟨_, _, L, hl, by rw [end21], by rw [end21]; rfl, by rw [end21]; rfl, a2⟩
    · have hf : treNone c (ff o o.b (if M.length = 0 then 0 else 1) i' 0 M.length 0 h' 0 x') = ff o o.b 3 i' 0 M.length M.length h' 0 x' := by
        have z : ((M.length : Int) == 0) = false := by rw [beq_eq_false_iff_ne]; omega
        simp [treNone, ff, hk, z]
      rw [hf] at a2
      obtain ⟨g, t', g1, g2, g3, g4⟩ := floor_back hc hl hn hM (o := o) (p := M.length) (by omega) (Nat.le_refl _) o.b i' 0 M.length h' 0 x' (0 :: s)
      have hfl' : ordFloor M o.a = [M.getD (M.length - 1) zrw] := by rw [hfl, if_neg (show ¬ q = 0 by omega), a1]
      rw [hfl']
      exact ⟨t', g, L, hl, g1, g2, g3, a2.trans g4⟩
theorem go_form (o : Opn) (b pc i j n p h x y : Int) : treGo (ff o b pc i j n p h x y) = if n ≤ p + 1 then ff o b 20 i j n p h x y else ff o b 17 i j n (p + 1) h x y := rfl
theorem on_form (c : Cfg) (o : Opn) (b pc i j n p h x y : Int) : treOn c (ff o b pc i j n p h x y) = if b < x then (ff o b 20 i j n p h x y, false) else if c.chunk ≤ j + 1 then (ff o b 16 i (j + 1) n p h x y, true) else (treGo (ff o b pc i (j + 1) n p h x y), true) := rfl
/-- A scan goes on from a row. -/
def takeB (b : Int) (M : List Rw) : Nat → Nat → List Rw
  | 0, _ => []
  | d + 1, p => if (M.getD p zrw).k ≤ b then M.getD p zrw :: takeB b M d (p + 1) else []
theorem takeB_eq (b : Int) (M : List Rw) : ∀ d p, p + d = M.length → ∃ n, n ≤ d ∧ takeB b M d p = (M.drop p).take n ∧ (∀ j, p ≤ j → j < p + n → (M.getD j zrw).k ≤ b) ∧ (p + n < M.length → b < (M.getD (p + n) zrw).k) := by
  intro d
  induction d with
  | zero => exact fun p hp => ⟨0, by omega, by simp [takeB], fun j _ _ => by omega, fun h => by omega⟩
  | succ d ih =>
    intro p hp
    unfold takeB
    split
    · rename_i hle
      obtain ⟨n, n1, n2, n3, n4⟩ := ih (p + 1) (by omega)
      refine ⟨n + 1, by omega, ?_, fun j hj1 hj2 => ?_, fun h => ?_⟩
      · rw [n2, drop_cons M p (by omega), List.take_succ_cons]
      · by_cases e : j = p
        · rw [e]
          exact hle
        · exact n3 j (by omega) (by omega)
      · rw [show p + (n + 1) = p + 1 + n by omega]
        exact n4 (by omega)
    · rename_i hle
      exact ⟨0, by omega, by simp, fun j _ _ => by omega, fun _ => by rw [Nat.add_zero]; omega⟩
theorem scan_go {c : Cfg} {w N T : Nat} (hc : TreN c w N T) {o : Opn} {M : List Rw} {L : List Cel} (hl : LayM w N T L M) (hn : M.length ≤ N) (hM : ∀ x ∈ M, RowOk x) : ∀ (d p : Nat), p + d = M.length → 1 ≤ d → ∀ (b pc i j h : Int) (t : List Int) (R : List Rw),
    ∃ (g : Frm) (t' : List Int), (treStep c g).kind = 4 ∧ (treStep c g).code = 0 ∧ (treStep c g).v' = 0 ∧
      ReachT c ⟨(treOn c (ff o b pc i j M.length p h (M.getD p zrw).k (M.getD p zrw).v)).1, L, t, treRows (treOn c (ff o b pc i j M.length p h (M.getD p zrw).k (M.getD p zrw).v)) R⟩ ⟨g, L, t', R ++ takeB b M d p⟩ := by
  intro d
  induction d with
  | zero => intro _ _ h; omega
  | succ d ih =>
    intro p hp _ b pc i j h t R
    have hpl : p < M.length := by omega
    -- the next row, if there is one
    have hgo : ∀ (j' pc' : Int) (t : List Int) (R : List Rw), ∃ (g : Frm) (t' : List Int), (treStep c g).kind = 4 ∧ (treStep c g).code = 0 ∧ (treStep c g).v' = 0 ∧ ReachT c ⟨treGo (ff o b pc' i j' M.length p h (M.getD p zrw).k (M.getD p zrw).v), L, t, R⟩ ⟨g, L, t', R ++ takeB b M d (p + 1)⟩ := by
      intro j' pc' t R
      by_cases hd : 1 ≤ d
      · have e : treGo (ff o b pc' i j' M.length p h (M.getD p zrw).k (M.getD p zrw).v) = ff o b 17 i j' M.length ((p + 1 : Nat) : Int) h (M.getD p zrw).k (M.getD p zrw).v := by
          rw [go_form, if_neg (show ¬ (M.length : Int) ≤ (p : Int) + 1 by omega), show (p : Int) + 1 = ((p + 1 : Nat) : Int) by omega]
        obtain ⟨e0, e1⟩ := read_row hc hl hn (i := p + 1) (by omega)
        obtain ⟨m1, m2, _⟩ := row_mod hM (i := p + 1) (by omega)
        have hs : treStep c (ff o b 17 i j' M.length ((p + 1 : Nat) : Int) h (M.getD p zrw).k (M.getD p zrw).v) = ⟨1, ((ofU w N 0 (p + 1) : Nat) : Int), 0, 0, 0, 0, 0⟩ := by
          rw [← e0]
          simp [treStep, ff]
        have hb : treBehind c (ff o b 17 i j' M.length ((p + 1 : Nat) : Int) h (M.getD p zrw).k (M.getD p zrw).v) (tc L (ofU w N 0 (p + 1))) = treOn c (ff o b 17 i j' M.length ((p + 1 : Nat) : Int) h (M.getD (p + 1) zrw).k (M.getD (p + 1) zrw).v) := by
          rw [e1]
          simp [treBehind, treOver, ff, m1, m2, -List.getD_eq_getElem?_getD]
        obtain ⟨g, t', g1, g2, g3, g4⟩ := ih (p + 1) (by omega) hd b 17 i j' h (t ++ [((ofU w N 0 (p + 1) : Nat) : Int)]) R
        refine ⟨g, t', g1, g2, g3, ?_⟩
        rw [e]
        refine ReachT.read hs ?_
        rw [hb]
        exact g4
      · have hd0 : d = 0 := by omega
        subst hd0
        have e : treGo (ff o b pc' i j' M.length p h (M.getD p zrw).k (M.getD p zrw).v) = ff o b 20 i j' M.length p h (M.getD p zrw).k (M.getD p zrw).v := by
          rw [go_form, if_pos (show (M.length : Int) ≤ (p : Int) + 1 by omega)]
        refine ⟨ff o b 20 i j' M.length p h (M.getD p zrw).k (M.getD p zrw).v, t, by rw [end20], by rw [end20], by rw [end20], ?_⟩
        rw [e]
        show ReachT c _ ⟨_, L, t, R ++ []⟩
        rw [List.append_nil]
        exact ReachT.refl _ _
    unfold takeB
    by_cases hle : (M.getD p zrw).k ≤ b
    · rw [if_pos hle]
      have hrow : (⟨(M.getD p zrw).k, (M.getD p zrw).v⟩ : Rw) = M.getD p zrw := rfl
      by_cases hch : c.chunk ≤ j + 1
      · have e : treOn c (ff o b pc i j M.length p h (M.getD p zrw).k (M.getD p zrw).v) = (ff o b 16 i (j + 1) M.length p h (M.getD p zrw).k (M.getD p zrw).v, true) := by
          rw [on_form, if_neg (show ¬ b < (M.getD p zrw).k by omega), if_pos (show c.chunk ≤ j + 1 from hch)]
        obtain ⟨g, t', g1, g2, g3, g4⟩ := hgo 0 16 t (R ++ [M.getD p zrw])
        refine ⟨g, t', g1, g2, g3, ?_⟩
        rw [e]
        have hs : treStep c (ff o b 16 i (j + 1) M.length p h (M.getD p zrw).k (M.getD p zrw).v) = ⟨3, 0, 0, 0, 0, 0, 0⟩ := by simp [treStep, ff]
        refine ReachT.give hs ?_
        have hb : ∀ l, treBehind c (ff o b 16 i (j + 1) M.length p h (M.getD p zrw).k (M.getD p zrw).v) l = (treGo (ff o b 16 i 0 M.length p h (M.getD p zrw).k (M.getD p zrw).v), false) := fun l => by simp [treBehind, ff]
        rw [hb]
        rw [List.append_assoc] at g4
        exact g4
      · have e : treOn c (ff o b pc i j M.length p h (M.getD p zrw).k (M.getD p zrw).v) = (treGo (ff o b pc i (j + 1) M.length p h (M.getD p zrw).k (M.getD p zrw).v), true) := by
          rw [on_form, if_neg (show ¬ b < (M.getD p zrw).k by omega), if_neg (show ¬ c.chunk ≤ j + 1 from hch)]
        obtain ⟨g, t', g1, g2, g3, g4⟩ := hgo (j + 1) pc t (R ++ [M.getD p zrw])
        refine ⟨g, t', g1, g2, g3, ?_⟩
        rw [e]
        have hx : (treGo (ff o b pc i (j + 1) M.length p h (M.getD p zrw).k (M.getD p zrw).v)).x = (M.getD p zrw).k ∧ (treGo (ff o b pc i (j + 1) M.length p h (M.getD p zrw).k (M.getD p zrw).v)).y = (M.getD p zrw).v := by
          rw [go_form]
          split <;> exact ⟨rfl, rfl⟩
        have hR : treRows (treGo (ff o b pc i (j + 1) M.length p h (M.getD p zrw).k (M.getD p zrw).v), true) R = R ++ [M.getD p zrw] := by
          unfold treRows
          rw [if_pos rfl, hx.1, hx.2]
        rw [hR]
        rw [List.append_assoc] at g4
        exact g4
    · rw [if_neg hle, List.append_nil]
      have e : treOn c (ff o b pc i j M.length p h (M.getD p zrw).k (M.getD p zrw).v) = (ff o b 20 i j M.length p h (M.getD p zrw).k (M.getD p zrw).v, false) := by
        rw [on_form, if_pos (show b < (M.getD p zrw).k by omega)]
      rw [e]
      exact ⟨_, t, by rw [end20], by rw [end20], by rw [end20], ReachT.refl _ _⟩
theorem scan_means {c : Cfg} {w N T : Nat} (hc : TreN c w N T) {o : Opn} {M : List Rw} {L : List Cel} (hl : LayM w N T L M) (hn : M.length ≤ N) (hr : Rises M) (hM : ∀ x ∈ M, RowOk x) (hk : o.kind = 8) :
    ∃ t, EndT c w N T o L (ordDone c M o) t := by
  obtain ⟨q, hq, h1, h2⟩ := at_any o.a hr
  obtain ⟨s, hs, hx⟩ := seek0 hc hl hn hq h1 h2
  have hd : ordDone c M o = ⟨M, 0, 0, ordScan M o.a o.b, 0⟩ := by
    unfold ordDone ordRead
    rw [if_pos (by simp [hk]), if_neg (by simp [hk]), if_pos (by simp [hk])]
  rw [hd]
  obtain ⟨n, n1, n2, n3, n4⟩ := takeB_eq o.b M (M.length - q) q (by omega)
  have hsc := scan_at hr o.a o.b (i := q) (n := n) hq h1 h2 (by omega) n3 n4
  rcases hx with ⟨a1, a2⟩ | ⟨a1, i', h', x', a2⟩
  · obtain ⟨e1, e2, hro⟩ := row_mod hM a1
    unfold fndF at a2
    rw [e1, e2] at a2
    have hf : treFound c (ff o o.b 1 q 0 M.length q 0 (M.getD q zrw).k (M.getD q zrw).v) = treOn c (ff o o.b 1 q 0 M.length q 0 (M.getD q zrw).k (M.getD q zrw).v) := by
      simp [treFound, ff, hk, -List.getD_eq_getElem?_getD]
    rw [hf] at a2
    obtain ⟨g, t', g1, g2, g3, g4⟩ := scan_go hc hl hn hM (o := o) (M.length - q) q (by omega) (by omega) o.b 1 q 0 0 (0 :: s) []
    refine ⟨t', g, L, hl, g1, g2, g3, ?_⟩
    rw [List.nil_append, n2, ← hsc] at g4
    exact a2.trans g4
  · have hf : treNone c (ff o o.b (if M.length = 0 then 0 else 1) i' 0 M.length 0 h' 0 x') = ff o o.b 20 i' 0 M.length M.length h' 0 x' := by
      simp [treNone, ff, hk]
    rw [hf] at a2
    have he : ordScan M o.a o.b = [] := by
      rw [hsc, a1, List.drop_length, List.take_nil]
    refine ⟨0 :: s, ff o o.b 20 i' 0 M.length M.length h' 0 x', L, hl, by rw [end20], by rw [end20], by rw [end20], ?_⟩
    show ReachT c _ ⟨_, L, _, ordScan M o.a o.b⟩
    rw [he]
    exact a2
end Go.Proofs.YtkklhhdkokncnaaDoor
/- Plain: the levels of a packed tree are set right behind a row that was put in or taken out; no program in sight. -/
namespace Go.Proofs.YtkklhhdkokncnaaDoor
open Go Go.RowKit order
set_option maxRecDepth 100000
set_option maxHeartbeats 8000000

/-- The levels: new ones below a place, old ones from it on. -/
def gX (w : Nat) (M M' : List Rw) (h i g k : Nat) : Cel := if g < h ∨ (g = h ∧ k < i) then gM w M' g k else gM w M g k
/-- What a row that was put in, or taken out, leaves as it was. -/
structure Turn (N : Nat) (o : Opn) (M M' : List Rw) (p : Nat) : Prop where
  n : M.length ≤ N
  n' : M'.length ≤ N
  lep : p ≤ M.length
  lep' : p ≤ M'.length
  low : ∀ r, r < p → M.getD r zrw = M'.getD r zrw
  ok : ∀ x ∈ M', RowOk x
  kind : (o.kind = 4 ∧ M'.length = M.length + 1) ∨ (o.kind = 5 ∧ M.length = M'.length + 1)
section
variable {c : Cfg} {w N T : Nat} {o : Opn} {M M' : List Rw} {p : Nat}
theorem Turn.agree (hw : 0 < w) (t : Turn N o M M' p) {h i : Nat} (hi : i < p / w ^ h) : gM w M h i = gM w M' h i := by
  have h1 : (i + 1) * w ^ h ≤ p := by
    have h2 := Nat.mul_le_mul_right (w ^ h) (Nat.succ_le_of_lt hi)
    have h3 := Nat.div_mul_le_self p (w ^ h)
    exact Nat.le_trans h2 h3
  have hp : 0 < w ^ h := Nat.pow_pos hw
  have h4 : i * w ^ h < p := by
    have : (i + 1) * w ^ h = i * w ^ h + w ^ h := by rw [Nat.add_mul, Nat.one_mul]
    omega
  have a := t.lep
  have b := t.lep'
  have e1 : lrN w M.length h i = (i + 1) * w ^ h - 1 := by unfold lrN; omega
  have e2 : lrN w M'.length h i = (i + 1) * w ^ h - 1 := by unfold lrN; omega
  have hpos : 0 < (i + 1) * w ^ h := Nat.mul_pos (by omega) hp
  unfold gM
  rw [if_pos ((lt_it hw h _ i).2 (by omega)), if_pos ((lt_it hw h _ i).2 (by omega)), e1, e2, t.low _ (by omega)]
theorem it_succ {w : Nat} (hw : 0 < w) (h n : Nat) : itN w h (n + 1) ≤ itN w h n + 1 := by
  by_cases hq : itN w h (n + 1) ≤ itN w h n + 1
  · exact hq
  · have h1 := (lt_it hw h (n + 1) (itN w h n + 1)).1 (by omega)
    have hp : 0 < w ^ h := Nat.pow_pos hw
    rw [Nat.add_mul, Nat.one_mul] at h1
    have h2 := (lt_it hw h n (itN w h n)).2 (by omega)
    omega
/-- Is an item of a level left over? -/
theorem clears_eq (hc : TreN c w N T) (t : Turn N o M M' p) (b pc i j x y : Int) (h : Nat) : treClears c (ff o b pc i j M'.length p h x y) = decide (itN w h M'.length < itN w h M.length) := by
  have hw := hc.bd.1
  have e : treClears c (ff o b pc i j M'.length p h x y) = (o.kind == 5 && decide (treUp c (M'.length : Int) (h : Int) < treUp c (if (M'.length : Int) < c.cap then (M'.length : Int) + 1 else M'.length) (h : Int))) := rfl
  rw [e]
  have tn := t.n
  rcases t.kind with ⟨k, l⟩ | ⟨k, l⟩
  · have hm := it_mono (w := w) (h := h) (by omega) (by omega : M.length ≤ M'.length)
    rw [decide_eq_false (by omega : ¬ itN w h M'.length < itN w h M.length), k]
    rfl
  · rw [if_pos (by rw [hc.N]; omega), show (M'.length : Int) + 1 = ((M.length : Nat) : Int) by omega, hc.up, hc.up, k]
    simp
theorem gX_done (_hw : 0 < w) (_t : Turn N o M M' p) {h : Nat} (hn : ¬ itN w h M'.length < itN w h M.length) {i : Nat} (hi : itN w h M'.length ≤ i ∨ i = p / w ^ h ∧ itN w h M'.length ≤ p / w ^ h) (g k : Nat) : gX w M M' h i g k = gX w M M' (h + 1) 0 g k := by
  unfold gX
  by_cases e : g < h
  · rw [if_pos (.inl e), if_pos (.inl (by omega))]
  · by_cases e2 : g = h
    · subst e2
      rw [if_pos (show g < g + 1 ∨ (g = g + 1 ∧ k < 0) from .inl (by omega))]
      by_cases e3 : k < i
      · rw [if_pos (.inr ⟨rfl, e3⟩)]
      · rw [if_neg (by omega)]
        by_cases e4 : k < itN w g M'.length
        · omega
        · unfold gM
          rw [if_neg e4, if_neg (by omega)]
    · rw [if_neg (by omega), if_neg (by omega)]
theorem gX_start (hw : 0 < w) (t : Turn N o M M' p) {h i : Nat} (hi : i ≤ p / w ^ h) (g k : Nat) : gX w M M' h 0 g k = gX w M M' h i g k := by
  unfold gX
  by_cases e : g < h
  · rw [if_pos (.inl e), if_pos (.inl e)]
  · by_cases e2 : g = h ∧ k < i
    · obtain ⟨rfl, e3⟩ := e2
      rw [if_neg (by omega), if_pos (.inr ⟨rfl, e3⟩)]
      exact t.agree hw (by omega)
    · rw [if_neg (by omega), if_neg (by omega)]
theorem gX_next (w : Nat) (M M' : List Rw) (h i g k : Nat) : upd2 (gX w M M' h i) h i (gM w M' h i) g k = gX w M M' h (i + 1) g k := by
  unfold upd2 gX
  by_cases e : g = h ∧ k = i
  · obtain ⟨rfl, rfl⟩ := e
    rw [if_pos ⟨rfl, rfl⟩, if_pos (.inr ⟨rfl, by omega⟩)]
  · rw [if_neg e]
    by_cases e2 : g < h ∨ (g = h ∧ k < i)
    · rw [if_pos e2, if_pos (by omega)]
    · rw [if_neg e2, if_neg (by omega)]
/-- What is left over of a level is taken away. -/
theorem clear12 (hc : TreN c w N T) (t : Turn N o M M' p) {k h : Nat} (hk : h + k = T) (h1 : 1 ≤ h) (hcl : itN w h M'.length < itN w h M.length) {L : List Cel} {i0 : Nat} (hi0 : itN w h M'.length ≤ i0 ∨ i0 = p / w ^ h ∧ itN w h M'.length ≤ p / w ^ h) (hl : Lay w N T L (hM M') (fM M') (gX w M M' h i0)) (b i j x y : Int) (ts : List Int) (R : List Rw) :
    ∃ (L' : List Cel) (ts' : List Int), Lay w N T L' (hM M') (fM M') (gX w M M' (h + 1) 0) ∧ ReachT c ⟨ff o b 12 i j M'.length p h x y, L, ts, R⟩ ⟨treClimb c k (ff o b 12 i j M'.length p h x y), L', ts', R⟩ := by
  obtain ⟨hw, hN, hT⟩ := hc.bd
  have hw0 : 0 < w := by omega
  have tn := t.n
  have hlN : itN w h M'.length < itN w h N := Nat.lt_of_lt_of_le hcl (it_mono hw0 tn)
  have hoff := hc.off (k := h) (by omega) hlN
  have hle : itN w h M.length ≤ itN w h M'.length + 1 := by
    rcases t.kind with ⟨_, l⟩ | ⟨_, l⟩
    · have := it_mono (w := w) (h := h) hw0 (by omega : M.length ≤ M'.length); omega
    · rw [l]; exact it_succ hw0 h M'.length
  have hs : treStep c (ff o b 12 i j M'.length p h x y) = ⟨2, ((ofU w N h (itN w h M'.length) : Nat) : Int), 0, 0, 0, 0, 0⟩ := by
    have e : treStep c (ff o b 12 i j M'.length p h x y) = ⟨2, treOff c h (treUp c M'.length h), 0, 0, 0, 0, 0⟩ := by simp [treStep, ff]
    rw [e, hc.up, hoff]
  have hb : ∀ l, treBehind c (ff o b 12 i j M'.length p h x y) l = (treClimb c k (ff o b 12 i j M'.length p h x y), false) := fun l => by
    have e : treBehind c (ff o b 12 i j M'.length p h x y) l = (treUpw c (ff o b 12 i j M'.length p h x y), false) := by simp [treBehind, ff]
    rw [e]
    unfold treUpw
    rw [hc.T, show ((T : Int) - (ff o b 12 i j M'.length p h x y).h).toNat = k by show ((T : Int) - (h : Int)).toNat = k; omega]
  refine ⟨L.set (ofU w N h (itN w h M'.length)) zce, ts ++ [((ofU w N h (itN w h M'.length) : Nat) : Int)], ?_, ?_⟩
  · refine (hl.setG h1 (by omega) hlN zce).to rfl (fun _ _ => rfl) fun g m g1 g2 hm => ?_
    unfold upd2
    by_cases e : g = h ∧ m = itN w h M'.length
    · obtain ⟨rfl, rfl⟩ := e
      rw [if_pos ⟨rfl, rfl⟩]
      unfold gX
      rw [if_pos (.inl (by omega))]
      unfold gM
      rw [if_neg (by omega)]
    · rw [if_neg e]
      unfold gX
      by_cases e1 : g < h
      · rw [if_pos (.inl e1), if_pos (.inl (by omega))]
      · by_cases e2 : g = h
        · subst e2
          rw [if_pos (show g < g + 1 ∨ (g = g + 1 ∧ m < 0) from .inl (by omega))]
          by_cases e3 : m < i0
          · rw [if_pos (.inr ⟨rfl, e3⟩)]
          · rw [if_neg (by omega)]
            by_cases e4 : m < itN w g M'.length
            · omega
            · unfold gM
              rw [if_neg e4, if_neg (by omega)]
        · rw [if_neg (by omega), if_neg (by omega)]
  · refine ReachT.write hs (by rw [hl.len]; exact of_great (by omega) hlN) ?_
    rw [hb]
    exact ReachT.refl _ _
/-- A level's items are set right, from one on. -/
theorem level (hc : TreN c w N T) (t : Turn N o M M' p) {k h : Nat} (hk : h + 1 + k = T) : ∀ (d i : Nat), i + d = itN w (h + 1) M'.length → 1 ≤ d → p / w ^ (h + 1) ≤ i → ∀ {L : List Cel}, Lay w N T L (hM M') (fM M') (gX w M M' (h + 1) i) → ∀ (b j x y : Int) (ts : List Int) (R : List Rw),
    ∃ (L' : List Cel) (ts' : List Int) (pc' i' x' y' : Int), Lay w N T L' (hM M') (fM M') (gX w M M' (h + 1 + 1) 0) ∧ ReachT c ⟨ff o b 9 i j M'.length p ((h + 1 : Nat) : Int) x y, L, ts, R⟩ ⟨treClimb c k (ff o b pc' i' j M'.length p ((h + 1 : Nat) : Int) x' y'), L', ts', R⟩ := by
  obtain ⟨hw, hN, hT⟩ := hc.bd
  have hw0 : 0 < w := by omega
  intro d
  induction d with
  | zero => intro _ _ h; omega
  | succ d ih =>
    intro i hd _ hpi L hl b j x y ts R
    have hi : i < itN w (h + 1) M'.length := by omega
    have hiN : i < itN w (h + 1) N := Nat.lt_of_lt_of_le hi (it_mono hw0 t.n')
    obtain ⟨e, he⟩ : ∃ e, (if (i + 1) * w ≤ itN w h M'.length then (i + 1) * w else itN w h M'.length) - 1 = e := ⟨_, rfl⟩
    obtain ⟨el, er⟩ := lr_down hw0 hi
    rw [he] at el er
    have heN : e < itN w h N := Nat.lt_of_lt_of_le el (it_mono hw0 t.n')
    obtain ⟨lr1, _⟩ := lr_lt hw0 hi
    have hrow := row_mod t.ok lr1
    have hend := hc.end' hi
    rw [he] at hend
    have hoff := hc.off (k := h) (by omega) heN
    have hoff2 := hc.off (k := h + 1) (by omega) hiN
    -- the last item below
    have hcell : (tc L (ofU w N h e)).a = (M'.getD (lrN w M'.length (h + 1) i) zrw).k := by
      by_cases h0 : h = 0
      · subst h0
        have e3 : e < M'.length := el
        rw [lr_zero e3] at er
        rw [hl.row e heN]
        unfold fM
        rw [if_pos e3, ← er]
      · rw [hl.lev h e (by omega) (by omega) heN]
        unfold gX
        rw [if_pos (.inl (by omega))]
        unfold gM
        rw [if_pos el, er]
    obtain ⟨K, hK⟩ : ∃ K, (M'.getD (lrN w M'.length (h + 1) i) zrw).k = K := ⟨_, rfl⟩
    rw [hK] at hcell
    have hKm : K % 4294967296 = K := by rw [← hK]; exact hrow.1
    have hgM : gM w M' (h + 1) i = ⟨0, K, 0, 0⟩ := by
      unfold gM
      rw [if_pos hi, hK]
    have hs9 : treStep c (ff o b 9 i j M'.length p ((h + 1 : Nat) : Int) x y) = ⟨1, ((ofU w N h e : Nat) : Int), 0, 0, 0, 0, 0⟩ := by
      have e1 : treStep c (ff o b 9 i j M'.length p ((h + 1 : Nat) : Int) x y) = ⟨1, treOff c (((h + 1 : Nat) : Int) - 1) (endI M'.length c.node ((h + 1 : Nat) : Int) i), 0, 0, 0, 0, 0⟩ := by simp [treStep, ff]
      rw [e1, hend, show ((h + 1 : Nat) : Int) - 1 = (h : Int) by omega, hoff]
    have hb9 : treBehind c (ff o b 9 i j M'.length p ((h + 1 : Nat) : Int) x y) (tc L (ofU w N h e)) = (ff o b 11 i j M'.length p ((h + 1 : Nat) : Int) K ((tc L (ofU w N h e)).b % 4294967296), false) := by
      have e1 : treBehind c (ff o b 9 i j M'.length p ((h + 1 : Nat) : Int) x y) (tc L (ofU w N h e)) = (ff o b 11 i j M'.length p ((h + 1 : Nat) : Int) ((tc L (ofU w N h e)).a % 4294967296) ((tc L (ofU w N h e)).b % 4294967296), false) := by simp [treBehind, treOver, ff]
      rw [e1, hcell, hKm]
    obtain ⟨Y, hY⟩ : ∃ Y, (tc L (ofU w N h e)).b % 4294967296 = Y := ⟨_, rfl⟩
    rw [hY] at hb9
    have hs11 : treStep c (ff o b 11 i j M'.length p ((h + 1 : Nat) : Int) K Y) = ⟨2, ((ofU w N (h + 1) i : Nat) : Int), K, 0, 0, 0, 0⟩ := by
      have e1 : treStep c (ff o b 11 i j M'.length p ((h + 1 : Nat) : Int) K Y) = ⟨2, treOff c ((h + 1 : Nat) : Int) i, K, 0, 0, 0, 0⟩ := by simp [treStep, ff]
      rw [e1, hoff2]
    have hl2 : Lay w N T (L.set (ofU w N (h + 1) i) ⟨0, K, 0, 0⟩) (hM M') (fM M') (gX w M M' (h + 1) (i + 1)) := by
      refine (hl.setG (by omega) (by omega) hiN ⟨0, K, 0, 0⟩).to rfl (fun _ _ => rfl) fun g m _ _ _ => ?_
      rw [← hgM]
      exact gX_next w M M' (h + 1) i g m
    have hkl : ofU w N (h + 1) i < L.length := by rw [hl.len]; exact of_great (by omega) hiN
    by_cases hmore : 1 ≤ d
    · have hb11 : ∀ l, treBehind c (ff o b 11 i j M'.length p ((h + 1 : Nat) : Int) K Y) l = (ff o b 9 ((i + 1 : Nat) : Int) j M'.length p ((h + 1 : Nat) : Int) K Y, false) := fun l => by
        have e1 : (i : Int) + 1 < treUp c (M'.length : Int) ((h + 1 : Nat) : Int) := by rw [hc.up]; omega
        have e2 : treBehind c (ff o b 11 i j M'.length p ((h + 1 : Nat) : Int) K Y) l = if (i : Int) + 1 < treUp c (M'.length : Int) ((h + 1 : Nat) : Int) then (ff o b 9 ((i : Int) + 1) j M'.length p ((h + 1 : Nat) : Int) K Y, false) else (if treClears c (ff o b 11 i j M'.length p ((h + 1 : Nat) : Int) K Y) then (ff o b 12 ((i : Int) + 1) j M'.length p ((h + 1 : Nat) : Int) K Y, false) else (treUpw c (ff o b 9 ((i : Int) + 1) j M'.length p ((h + 1 : Nat) : Int) K Y), false)) := rfl
        rw [e2, if_pos e1, show (i : Int) + 1 = ((i + 1 : Nat) : Int) by omega]
      obtain ⟨L', ts', pc', i', x', y', r1, r2⟩ := ih (i + 1) (by omega) hmore (by omega) hl2 b j K Y (ts ++ [((ofU w N h e : Nat) : Int)] ++ [((ofU w N (h + 1) i : Nat) : Int)]) R
      refine ⟨L', ts', pc', i', x', y', r1, ReachT.read hs9 ?_⟩
      rw [hb9]
      refine ReachT.write hs11 hkl ?_
      rw [hb11]
      exact r2
    · have hi1 : i + 1 = itN w (h + 1) M'.length := by omega
      have hb11 : ∀ l, treBehind c (ff o b 11 i j M'.length p ((h + 1 : Nat) : Int) K Y) l = if treClears c (ff o b 11 i j M'.length p ((h + 1 : Nat) : Int) K Y) then (ff o b 12 ((i : Int) + 1) j M'.length p ((h + 1 : Nat) : Int) K Y, false) else (treUpw c (ff o b 9 ((i : Int) + 1) j M'.length p ((h + 1 : Nat) : Int) K Y), false) := fun l => by
        have e1 : ¬ (i : Int) + 1 < treUp c (M'.length : Int) ((h + 1 : Nat) : Int) := by rw [hc.up]; omega
        have e2 : treBehind c (ff o b 11 i j M'.length p ((h + 1 : Nat) : Int) K Y) l = if (i : Int) + 1 < treUp c (M'.length : Int) ((h + 1 : Nat) : Int) then (ff o b 9 ((i : Int) + 1) j M'.length p ((h + 1 : Nat) : Int) K Y, false) else (if treClears c (ff o b 11 i j M'.length p ((h + 1 : Nat) : Int) K Y) then (ff o b 12 ((i : Int) + 1) j M'.length p ((h + 1 : Nat) : Int) K Y, false) else (treUpw c (ff o b 9 ((i : Int) + 1) j M'.length p ((h + 1 : Nat) : Int) K Y), false)) := rfl
        rw [e2, if_neg e1]
      rw [clears_eq hc t] at hb11
      by_cases hcl : itN w (h + 1) M'.length < itN w (h + 1) M.length
      · rw [decide_eq_true hcl] at hb11
        obtain ⟨L', ts', r1, r2⟩ := clear12 hc t hk (by omega) hcl (.inl (by omega)) hl2 b ((i : Int) + 1) j K Y (ts ++ [((ofU w N h e : Nat) : Int)] ++ [((ofU w N (h + 1) i : Nat) : Int)]) R
        refine ⟨L', ts', 12, (i : Int) + 1, K, Y, r1, ReachT.read hs9 ?_⟩
        rw [hb9]
        refine ReachT.write hs11 hkl ?_
        rw [hb11]
        exact r2
      · rw [decide_eq_false hcl] at hb11
        refine ⟨_, ts ++ [((ofU w N h e : Nat) : Int)] ++ [((ofU w N (h + 1) i : Nat) : Int)], 9, (i : Int) + 1, K, Y, hl2.to rfl (fun _ _ => rfl) fun g m _ _ _ => gX_done hw0 t hcl (.inl (by omega)) g m, ReachT.read hs9 ?_⟩
        rw [hb9]
        refine ReachT.write hs11 hkl ?_
        rw [hb11]
        have e3 : treUpw c (ff o b 9 ((i : Int) + 1) j M'.length p ((h + 1 : Nat) : Int) K Y) = treClimb c k (ff o b 9 ((i : Int) + 1) j M'.length p ((h + 1 : Nat) : Int) K Y) := by
          unfold treUpw
          rw [hc.T, show ((T : Int) - (ff o b 9 ((i : Int) + 1) j M'.length p ((h + 1 : Nat) : Int) K Y).h).toNat = k by show ((T : Int) - ((h + 1 : Nat) : Int)).toNat = k; omega]
        show ReachT c ⟨treUpw c (ff o b 9 ((i : Int) + 1) j M'.length p ((h + 1 : Nat) : Int) K Y), _, _, _⟩ _
        rw [e3]
        exact ReachT.refl _ _
/-- All levels are set right. -/
theorem levels (hc : TreN c w N T) (t : Turn N o M M' p) : ∀ (k h : Nat), h + k = T → ∀ {L : List Cel}, Lay w N T L (hM M') (fM M') (gX w M M' (h + 1) 0) → ∀ (b pc i j x y : Int) (ts : List Int) (R : List Rw),
    ∃ (L' : List Cel) (ts' : List Int) (i' h' x' y' : Int), LayM w N T L' M' ∧ ReachT c ⟨treClimb c k (ff o b pc i j M'.length p h x y), L, ts, R⟩ ⟨ff o b (if o.kind = 4 then 24 else 25) i' j M'.length p h' x' y', L', ts', R⟩ := by
  obtain ⟨hw, hN, hT⟩ := hc.bd
  have hw0 : 0 < w := by omega
  intro k
  induction k with
  | zero =>
    intro h hk L hl b pc i j x y ts R
    refine ⟨L, ts, i, h, x, y, hl.to rfl (fun _ _ => rfl) fun g m g1 g2 _ => ?_, ?_⟩
    · unfold gX
      rw [if_pos (.inl (by omega))]
    · have e : treClimb c 0 (ff o b pc i j M'.length p h x y) = ff o b (if o.kind = 4 then 24 else 25) i j M'.length p h x y := by
        unfold treClimb
        show (if (o.kind == 4) = true then _ else _) = _
        by_cases k4 : o.kind = 4
        · rw [if_pos (by simp [k4]), if_pos k4]
          rfl
        · rw [if_neg (by simp [k4]), if_neg k4]
          rfl
      rw [e]
      exact ReachT.refl _ _
  | succ k ih =>
    intro h hk L hl b pc i j x y ts R
    have hdv : divI c.node ((h : Int) + 1).toNat (p : Int) = ((p / w ^ (h + 1) : Nat) : Int) := by
      rw [hc.w, show ((h : Int) + 1).toNat = h + 1 by omega, divN]
    have e : treClimb c (k + 1) (ff o b pc i j M'.length p h x y) = if divI c.node ((h : Int) + 1).toNat (p : Int) < treUp c (M'.length : Int) ((h : Int) + 1) then ff o b 9 (divI c.node ((h : Int) + 1).toNat (p : Int)) j M'.length p ((h : Int) + 1) x y
        else if treClears c (ff o b pc i j M'.length p ((h : Int) + 1) x y) then ff o b 12 (divI c.node ((h : Int) + 1).toNat (p : Int)) j M'.length p ((h : Int) + 1) x y
        else treClimb c k (ff o b pc (divI c.node ((h : Int) + 1).toNat (p : Int)) j M'.length p ((h : Int) + 1) x y) := rfl
    rw [hdv, show (h : Int) + 1 = ((h + 1 : Nat) : Int) by omega, hc.up, clears_eq hc t] at e
    have hl0 : Lay w N T L (hM M') (fM M') (gX w M M' (h + 1) (p / w ^ (h + 1))) := hl.to rfl (fun _ _ => rfl) fun g m _ _ _ => gX_start hw0 t (Nat.le_refl _) g m
    rw [e]
    by_cases hlt : p / w ^ (h + 1) < itN w (h + 1) M'.length
    · rw [if_pos (by omega)]
      obtain ⟨L1, ts1, pc1, i1, x1, y1, r1, r2⟩ := level hc t (k := k) (h := h) (by omega) (itN w (h + 1) M'.length - p / w ^ (h + 1)) (p / w ^ (h + 1)) (by omega) (by omega) (Nat.le_refl _) hl0 b j x y ts R
      obtain ⟨L2, ts2, i2, h2, x2, y2, s1, s2⟩ := ih (h + 1) (by omega) r1 b pc1 i1 j x1 y1 ts1 R
      exact ⟨L2, ts2, i2, h2, x2, y2, s1, r2.trans s2⟩
    · rw [if_neg (by omega)]
      by_cases hcl : itN w (h + 1) M'.length < itN w (h + 1) M.length
      · rw [decide_eq_true hcl, if_pos rfl]
        obtain ⟨L1, ts1, r1, r2⟩ := clear12 hc t (k := k) (h := h + 1) (by omega) (by omega) hcl (.inr ⟨rfl, by omega⟩) hl0 b ((p / w ^ (h + 1) : Nat) : Int) j x y ts R
        obtain ⟨L2, ts2, i2, h2, x2, y2, s1, s2⟩ := ih (h + 1) (by omega) r1 b 12 ((p / w ^ (h + 1) : Nat) : Int) j x y ts1 R
        exact ⟨L2, ts2, i2, h2, x2, y2, s1, r2.trans s2⟩
      · rw [decide_eq_false hcl, if_neg (by decide)]
        exact ih (h + 1) (by omega) (hl0.to rfl (fun _ _ => rfl) fun g m _ _ _ => gX_done hw0 t hcl (.inr ⟨rfl, by omega⟩) g m) b pc _ j x y ts R
end
end Go.Proofs.YtkklhhdkokncnaaDoor
/- Plain: done alone, an operation of a packed tree leaves, and answers, what the model says; no program in sight. -/
namespace Go.Proofs.YtkklhhdkokncnaaDoor
open Go Go.RowKit order
set_option maxRecDepth 100000
set_option maxHeartbeats 8000000

section
variable {c : Cfg} {w N T : Nat} {o : Opn} {M : List Rw}
/-- The header is written, and the levels set right. -/
theorem behind8 (hc : TreN c w N T) {M' : List Rw} {p : Nat} (t : Turn N o M M' p) {L : List Cel} (hl : Lay w N T L (hM M) (fM M') (gM w M)) (b i j h x y : Int) (ts : List Int) (R : List Rw) :
    ∃ (L' : List Cel) (ts' : List Int) (i' h' x' y' : Int), LayM w N T L' M' ∧ ReachT c ⟨ff o b 8 i j M'.length p h x y, L, ts, R⟩ ⟨ff o b (if o.kind = 4 then 24 else 25) i' j M'.length p h' x' y', L', ts', R⟩ := by
  have hs : treStep c (ff o b 8 i j M'.length p h x y) = ⟨2, ((0 : Nat) : Int), (M'.length : Int), 0, 0, 0, 0⟩ := by simp [treStep, ff]
  have hb : ∀ l, treBehind c (ff o b 8 i j M'.length p h x y) l = (treClimb c T (ff o b 8 i j M'.length p ((0 : Nat) : Int) x y), false) := fun l => by
    have e : treBehind c (ff o b 8 i j M'.length p h x y) l = (treUpw c (ff o b 8 i j M'.length p ((0 : Nat) : Int) x y), false) := by simp [treBehind, ff]
    rw [e]
    unfold treUpw
    rw [hc.T, show ((T : Int) - (ff o b 8 i j M'.length p ((0 : Nat) : Int) x y).h).toNat = T by show ((T : Int) - ((0 : Nat) : Int)).toNat = T; omega]
  have hl2 : Lay w N T (L.set 0 ⟨0, (M'.length : Int), 0, 0⟩) (hM M') (fM M') (gX w M M' (0 + 1) 0) := by
    refine (hl.setH ⟨0, (M'.length : Int), 0, 0⟩).to rfl (fun _ _ => rfl) fun g m g1 _ _ => ?_
    unfold gX
    rw [if_neg (by omega)]
  obtain ⟨L', ts', i', h', x', y', r1, r2⟩ := levels hc t T 0 (by omega) hl2 b 8 i j x y (ts ++ [((0 : Nat) : Int)]) R
  refine ⟨L', ts', i', h', x', y', r1, ReachT.write hs (by rw [hl.len]; omega) ?_⟩
  rw [hb]
  exact r2
/-- Rows are moved up, to make room. -/
def fU (M : List Rw) (i r : Nat) : Cel := if i < r ∧ r ≤ M.length then fM M (r - 1) else fM M r
theorem move_up (hc : TreN c w N T) (hOk : ∀ x ∈ M, RowOk x) (hn : M.length < N) {p : Nat} : ∀ (d i : Nat), p + d = i → 1 ≤ d → i ≤ M.length → ∀ {L : List Cel}, Lay w N T L (hM M) (fU M i) (gM w M) → ∀ (b j h x y : Int) (ts : List Int) (R : List Rw),
    ∃ (L' : List Cel) (ts' : List Int) (x' y' : Int), Lay w N T L' (hM M) (fU M p) (gM w M) ∧ ReachT c ⟨ff o b 5 i j M.length p h x y, L, ts, R⟩ ⟨ff o b 7 p j M.length p h x' y', L', ts', R⟩ := by
  intro d
  induction d with
  | zero => intro _ _ h; omega
  | succ d ih =>
    intro i hd _ hi L hl b j h x y ts R
    have h1 : i - 1 < itN w 0 N := by show i - 1 < N; omega
    have h2 : i < itN w 0 N := by show i < N; omega
    have hoff := hc.off (k := 0) (Nat.zero_le _) h1
    have hoff2 := hc.off (k := 0) (Nat.zero_le _) h2
    obtain ⟨m1, m2, _⟩ := row_mod hOk (i := i - 1) (by omega)
    have hrow : tc L (ofU w N 0 (i - 1)) = ⟨0, (M.getD (i - 1) zrw).k, (M.getD (i - 1) zrw).v, 0⟩ := by
      rw [hl.row (i - 1) (by omega)]
      unfold fU fM
      rw [if_neg (by omega), if_pos (by omega)]
    have hs5 : treStep c (ff o b 5 i j M.length p h x y) = ⟨1, ((ofU w N 0 (i - 1) : Nat) : Int), 0, 0, 0, 0, 0⟩ := by
      have e : treStep c (ff o b 5 i j M.length p h x y) = ⟨1, treOff c 0 ((i : Int) - 1), 0, 0, 0, 0, 0⟩ := by simp [treStep, ff]
      rw [e, show (i : Int) - 1 = ((i - 1 : Nat) : Int) by omega]
      exact congrArg (fun z => (⟨1, z, 0, 0, 0, 0, 0⟩ : Actn)) hoff
    have hb5 : treBehind c (ff o b 5 i j M.length p h x y) (tc L (ofU w N 0 (i - 1))) = (ff o b 6 i j M.length p h (M.getD (i - 1) zrw).k (M.getD (i - 1) zrw).v, false) := by
      rw [hrow]
      simp [treBehind, treOver, ff, m1, m2, -List.getD_eq_getElem?_getD]
    obtain ⟨K, V, hKV⟩ : ∃ K V, M.getD (i - 1) zrw = ⟨K, V⟩ := ⟨_, _, rfl⟩
    rw [hKV] at hb5
    have hs6 : treStep c (ff o b 6 i j M.length p h K V) = ⟨2, ((ofU w N 0 i : Nat) : Int), K, V, 0, 0, 0⟩ := by
      have e : treStep c (ff o b 6 i j M.length p h K V) = ⟨2, treOff c 0 (i : Int), K, V, 0, 0, 0⟩ := by simp [treStep, ff]
      rw [e]
      exact congrArg (fun z => (⟨2, z, K, V, 0, 0, 0⟩ : Actn)) hoff2
    have hl2 : Lay w N T (L.set (ofU w N 0 i) ⟨0, K, V, 0⟩) (hM M) (fU M (i - 1)) (gM w M) := by
      refine (hl.setF h2 ⟨0, K, V, 0⟩).to rfl (fun r _ => ?_) (fun _ _ _ _ _ => rfl)
      unfold upd fU
      by_cases e : r = i
      · rw [if_pos e, if_pos (by omega)]
        unfold fM
        rw [if_pos (by omega), e, hKV]
      · rw [if_neg e]
        by_cases e2 : i < r ∧ r ≤ M.length
        · rw [if_pos e2, if_pos (by omega)]
        · rw [if_neg e2, if_neg (by omega)]
    have hkl : ofU w N 0 i < L.length := by rw [hl.len]; exact of_great (Nat.zero_le _) h2
    by_cases hmore : 1 ≤ d
    · have hb6 : ∀ l, treBehind c (ff o b 6 i j M.length p h K V) l = (ff o b 5 ((i - 1 : Nat) : Int) j M.length p h K V, false) := fun l => by
        have e1 : ¬ (i : Int) - 1 ≤ (p : Int) := by omega
        have e : treBehind c (ff o b 6 i j M.length p h K V) l = (ff o b 5 ((i : Int) - 1) j M.length p h K V, false) := by simp [treBehind, ff, e1]
        rw [e, show (i : Int) - 1 = ((i - 1 : Nat) : Int) by omega]
      obtain ⟨L', ts', x', y', r1, r2⟩ := ih (i - 1) (by omega) hmore (by omega) hl2 b j h K V (ts ++ [((ofU w N 0 (i - 1) : Nat) : Int)] ++ [((ofU w N 0 i : Nat) : Int)]) R
      refine ⟨L', ts', x', y', r1, ReachT.read hs5 ?_⟩
      rw [hb5]
      refine ReachT.write hs6 hkl ?_
      rw [hb6]
      exact r2
    · have hb6 : ∀ l, treBehind c (ff o b 6 i j M.length p h K V) l = (ff o b 7 p j M.length p h K V, false) := fun l => by
        have e1 : (i : Int) - 1 = (p : Int) := by omega
        simp [treBehind, ff, e1]
      refine ⟨L.set (ofU w N 0 i) ⟨0, K, V, 0⟩, ts ++ [((ofU w N 0 (i - 1) : Nat) : Int)] ++ [((ofU w N 0 i : Nat) : Int)], K, V, ?_, ReachT.read hs5 ?_⟩
      · rw [show p = i - 1 by omega]
        exact hl2
      · rw [hb5]
        refine ReachT.write hs6 hkl ?_
        rw [hb6]
        exact ReachT.refl _ _
/-- Rows are moved down, over one that is taken out. -/
def fD (M : List Rw) (p i r : Nat) : Cel := if p ≤ r ∧ r + 1 < i then fM M (r + 1) else fM M r
theorem move_down (hc : TreN c w N T) (hOk : ∀ x ∈ M, RowOk x) (hn : M.length ≤ N) {p : Nat} : ∀ (d i : Nat), i + d = M.length → 1 ≤ d → p + 1 ≤ i → ∀ {L : List Cel}, Lay w N T L (hM M) (fD M p i) (gM w M) → ∀ (b j h x y : Int) (ts : List Int) (R : List Rw),
    ∃ (L' : List Cel) (ts' : List Int) (i' x' y' : Int), Lay w N T L' (hM M) (fD M p M.length) (gM w M) ∧ ReachT c ⟨ff o b 13 i j M.length p h x y, L, ts, R⟩ ⟨ff o b 15 i' j M.length p h x' y', L', ts', R⟩ := by
  intro d
  induction d with
  | zero => intro _ _ h; omega
  | succ d ih =>
    intro i hd _ hi L hl b j h x y ts R
    have h1 : i < itN w 0 N := by show i < N; omega
    have h2 : i - 1 < itN w 0 N := by show i - 1 < N; omega
    have hoff := hc.off (k := 0) (Nat.zero_le _) h1
    have hoff2 := hc.off (k := 0) (Nat.zero_le _) h2
    obtain ⟨m1, m2, _⟩ := row_mod hOk (i := i) (by omega)
    have hrow : tc L (ofU w N 0 i) = ⟨0, (M.getD i zrw).k, (M.getD i zrw).v, 0⟩ := by
      rw [hl.row i h1]
      unfold fD fM
      rw [if_neg (by omega), if_pos (by omega)]
    have hs13 : treStep c (ff o b 13 i j M.length p h x y) = ⟨1, ((ofU w N 0 i : Nat) : Int), 0, 0, 0, 0, 0⟩ := by
      have e : treStep c (ff o b 13 i j M.length p h x y) = ⟨1, treOff c 0 (i : Int), 0, 0, 0, 0, 0⟩ := by simp [treStep, ff]
      rw [e]
      exact congrArg (fun z => (⟨1, z, 0, 0, 0, 0, 0⟩ : Actn)) hoff
    have hb13 : treBehind c (ff o b 13 i j M.length p h x y) (tc L (ofU w N 0 i)) = (ff o b 14 i j M.length p h (M.getD i zrw).k (M.getD i zrw).v, false) := by
      rw [hrow]
      simp [treBehind, treOver, ff, m1, m2, -List.getD_eq_getElem?_getD]
    obtain ⟨K, V, hKV⟩ : ∃ K V, M.getD i zrw = ⟨K, V⟩ := ⟨_, _, rfl⟩
    rw [hKV] at hb13
    have hs14 : treStep c (ff o b 14 i j M.length p h K V) = ⟨2, ((ofU w N 0 (i - 1) : Nat) : Int), K, V, 0, 0, 0⟩ := by
      have e : treStep c (ff o b 14 i j M.length p h K V) = ⟨2, treOff c 0 ((i : Int) - 1), K, V, 0, 0, 0⟩ := by simp [treStep, ff]
      rw [e, show (i : Int) - 1 = ((i - 1 : Nat) : Int) by omega]
      exact congrArg (fun z => (⟨2, z, K, V, 0, 0, 0⟩ : Actn)) hoff2
    have hl2 : Lay w N T (L.set (ofU w N 0 (i - 1)) ⟨0, K, V, 0⟩) (hM M) (fD M p (i + 1)) (gM w M) := by
      refine (hl.setF h2 ⟨0, K, V, 0⟩).to rfl (fun r _ => ?_) (fun _ _ _ _ _ => rfl)
      unfold upd fD
      by_cases e : r = i - 1
      · rw [if_pos e, if_pos (by omega)]
        unfold fM
        rw [if_pos (by omega), show r + 1 = i by omega, hKV]
      · rw [if_neg e]
        by_cases e2 : p ≤ r ∧ r + 1 < i
        · rw [if_pos e2, if_pos (by omega)]
        · rw [if_neg e2, if_neg (by omega)]
    have hkl : ofU w N 0 (i - 1) < L.length := by rw [hl.len]; exact of_great (Nat.zero_le _) h2
    by_cases hmore : 1 ≤ d
    · have hb14 : ∀ l, treBehind c (ff o b 14 i j M.length p h K V) l = (ff o b 13 ((i + 1 : Nat) : Int) j M.length p h K V, false) := fun l => by
        have e1 : ¬ (M.length : Int) ≤ (i : Int) + 1 := by omega
        have e : treBehind c (ff o b 14 i j M.length p h K V) l = (ff o b 13 ((i : Int) + 1) j M.length p h K V, false) := by simp [treBehind, ff, e1]
        rw [e, show (i : Int) + 1 = ((i + 1 : Nat) : Int) by omega]
      obtain ⟨L', ts', i', x', y', r1, r2⟩ := ih (i + 1) (by omega) hmore (by omega) hl2 b j h K V (ts ++ [((ofU w N 0 i : Nat) : Int)] ++ [((ofU w N 0 (i - 1) : Nat) : Int)]) R
      refine ⟨L', ts', i', x', y', r1, ReachT.read hs13 ?_⟩
      rw [hb13]
      refine ReachT.write hs14 hkl ?_
      rw [hb14]
      exact r2
    · have hb14 : ∀ l, treBehind c (ff o b 14 i j M.length p h K V) l = (ff o b 15 ((i : Int) + 1) j M.length p h K V, false) := fun l => by
        have e1 : (M.length : Int) ≤ (i : Int) + 1 := by omega
        simp [treBehind, ff, e1]
      refine ⟨L.set (ofU w N 0 (i - 1)) ⟨0, K, V, 0⟩, ts ++ [((ofU w N 0 i : Nat) : Int)] ++ [((ofU w N 0 (i - 1) : Nat) : Int)], (i : Int) + 1, K, V, ?_, ReachT.read hs13 ?_⟩
      · rw [show M.length = i + 1 by omega]
        exact hl2
      · rw [hb13]
        refine ReachT.write hs14 hkl ?_
        rw [hb14]
        exact ReachT.refl _ _
theorem getD_take {M : List Rw} {p r : Nat} (h : r < p) : (M.take p).getD r zrw = M.getD r zrw := by
  rw [List.getD_eq_getElem?_getD, List.getD_eq_getElem?_getD, List.getElem?_take_of_lt h]
theorem getD_ins {M : List Rw} {x : Rw} {p : Nat} (hp : p ≤ M.length) (r : Nat) : (M.take p ++ x :: M.drop p).getD r zrw = if r < p then M.getD r zrw else if r = p then x else M.getD (r - 1) zrw := by
  have hl : (M.take p).length = p := by rw [List.length_take]; omega
  rw [List.getD_eq_getElem?_getD]
  by_cases h1 : r < p
  · rw [if_pos h1, List.getElem?_append_left (by omega), List.getElem?_take_of_lt h1, List.getD_eq_getElem?_getD]
  · rw [if_neg h1, List.getElem?_append_right (by omega), hl]
    by_cases h2 : r = p
    · rw [if_pos h2, h2, Nat.sub_self]
      rfl
    · rw [if_neg h2, show r - p = (r - p - 1) + 1 by omega, List.getElem?_cons_succ, List.getElem?_drop, List.getD_eq_getElem?_getD, show p + (r - p - 1) = r - 1 by omega]
theorem getD_del {M : List Rw} {p : Nat} (hp : p < M.length) (r : Nat) : (M.take p ++ M.drop (p + 1)).getD r zrw = if r < p then M.getD r zrw else M.getD (r + 1) zrw := by
  have hl : (M.take p).length = p := by rw [List.length_take]; omega
  rw [List.getD_eq_getElem?_getD]
  by_cases h1 : r < p
  · rw [if_pos h1, List.getElem?_append_left (by omega), List.getElem?_take_of_lt h1, List.getD_eq_getElem?_getD]
  · rw [if_neg h1, List.getElem?_append_right (by omega), hl, List.getElem?_drop, List.getD_eq_getElem?_getD, show p + 1 + (r - p) = r + 1 by omega]
theorem getD_set {M : List Rw} {x : Rw} {p : Nat} (hp : p < M.length) (r : Nat) : (M.set p x).getD r zrw = if r = p then x else M.getD r zrw := by
  rw [List.getD_eq_getElem?_getD, List.getD_eq_getElem?_getD, List.getElem?_set]
  by_cases e : p = r
  · subst e
    simp [hp]
  · have e' : ¬ r = p := fun q => e q.symm
    simp [e, e']
/-- A key that is there is put anew. -/
theorem put_there (hc : TreN c w N T) {L : List Cel} (hl : LayM w N T L M) (hn : M.length ≤ N) {q : Nat} (hq : q < M.length) (hk : (M.getD q zrw).k = o.a) (ts : List Int) (R : List Rw) :
    ∃ (L' : List Cel) (ts' : List Int), LayM w N T L' (M.set q ⟨o.a, o.b⟩) ∧ ReachT c ⟨ff o o.b 4 q 0 M.length q 0 (M.getD q zrw).k (M.getD q zrw).v, L, ts, R⟩ ⟨ff o o.b 23 q 0 M.length q 0 (M.getD q zrw).k (M.getD q zrw).v, L', ts', R⟩ := by
  have h1 : q < itN w 0 N := by show q < N; omega
  have hoff := hc.off (k := 0) (Nat.zero_le _) h1
  have hs : treStep c (ff o o.b 4 q 0 M.length q 0 (M.getD q zrw).k (M.getD q zrw).v) = ⟨2, ((ofU w N 0 q : Nat) : Int), o.a, o.b, 0, 0, 0⟩ := by
    have e : treStep c (ff o o.b 4 q 0 M.length q 0 (M.getD q zrw).k (M.getD q zrw).v) = ⟨2, treOff c 0 (q : Int), o.a, o.b, 0, 0, 0⟩ := by simp [treStep, ff]
    rw [e]
    exact congrArg (fun z => (⟨2, z, o.a, o.b, 0, 0, 0⟩ : Actn)) hoff
  have hbh : ∀ l, treBehind c (ff o o.b 4 q 0 M.length q 0 (M.getD q zrw).k (M.getD q zrw).v) l = (ff o o.b 23 q 0 M.length q 0 (M.getD q zrw).k (M.getD q zrw).v, false) := fun l => by simp [treBehind, ff]
  have hlen : (M.set q (⟨o.a, o.b⟩ : Rw)).length = M.length := List.length_set
  have hkeys : ∀ r, ((M.set q (⟨o.a, o.b⟩ : Rw)).getD r zrw).k = (M.getD r zrw).k := fun r => by
    rw [getD_set hq]
    split
    · rename_i e
      rw [e, hk]
    · rfl
  refine ⟨L.set (ofU w N 0 q) ⟨0, o.a, o.b, 0⟩, ts ++ [((ofU w N 0 q : Nat) : Int)], ?_, ReachT.write hs (by rw [hl.len]; exact of_great (Nat.zero_le _) h1) ?_⟩
  · refine (hl.setF h1 ⟨0, o.a, o.b, 0⟩).to (by unfold hM; rw [hlen]) (fun r _ => ?_) (fun h i _ _ _ => ?_)
    · unfold upd fM
      rw [hlen, getD_set hq]
      by_cases e : r = q
      · rw [if_pos e, if_pos (by omega), if_pos e]
      · rw [if_neg e, if_neg e]
    · unfold gM
      rw [hlen, hkeys]
  · rw [hbh]
    exact ReachT.refl _ _
/-- A new key is put in. -/
theorem put_new (hc : TreN c w N T) {L : List Cel} (hl : LayM w N T L M) (hn : M.length < N) (hOk : ∀ x ∈ M, RowOk x) (h4 : o.kind = 4) (hro : RowOk ⟨o.a, o.b⟩) {q : Nat} (hq : q ≤ M.length) (pc i h x y : Int) (ts : List Int) (R : List Rw) :
    ∃ (L' : List Cel) (ts' : List Int) (i' h' x' y' : Int), LayM w N T L' (M.take q ++ ⟨o.a, o.b⟩ :: M.drop q) ∧ ReachT c ⟨treFresh c (ff o o.b pc i 0 M.length q h x y), L, ts, R⟩ ⟨ff o o.b 24 i' 0 (M.take q ++ ⟨o.a, o.b⟩ :: M.drop q).length q h' x' y', L', ts', R⟩ := by
  obtain ⟨M', hM'⟩ : ∃ M', M.take q ++ (⟨o.a, o.b⟩ : Rw) :: M.drop q = M' := ⟨_, rfl⟩
  have hlen : M'.length = M.length + 1 := by
    rw [← hM', List.length_append, List.length_cons, List.length_take, List.length_drop]
    omega
  have hget : ∀ r, M'.getD r zrw = if r < q then M.getD r zrw else if r = q then ⟨o.a, o.b⟩ else M.getD (r - 1) zrw := fun r => by rw [← hM']; exact getD_ins hq r
  have t : Turn N o M M' q := by
    refine ⟨by omega, by omega, hq, by omega, fun r hr => by rw [hget, if_pos hr], fun z hz => ?_, .inl ⟨h4, hlen⟩⟩
    rw [← hM'] at hz
    rcases List.mem_append.1 hz with hz | hz
    · exact hOk z (List.mem_of_mem_take hz)
    · rcases List.mem_cons.1 hz with rfl | hz
      · exact hro
      · exact hOk z (List.mem_of_mem_drop hz)
  rw [hM']
  have h1 : q < itN w 0 N := by show q < N; omega
  have hoff := hc.off (k := 0) (Nat.zero_le _) h1
  -- the row is written, and the rest set right
  have hrest : ∀ {L1 : List Cel}, Lay w N T L1 (hM M) (fU M q) (gM w M) → ∀ (i1 h1' x1 y1 : Int) (ts1 : List Int), ∃ (L' : List Cel) (ts' : List Int) (i' h' x' y' : Int), LayM w N T L' M' ∧ ReachT c ⟨ff o o.b 7 i1 0 M.length q h1' x1 y1, L1, ts1, R⟩ ⟨ff o o.b 24 i' 0 M'.length q h' x' y', L', ts', R⟩ := by
    intro L1 hl1 i1 h1' x1 y1 ts1
    have hs : treStep c (ff o o.b 7 i1 0 M.length q h1' x1 y1) = ⟨2, ((ofU w N 0 q : Nat) : Int), o.a, o.b, 0, 0, 0⟩ := by
      have e : treStep c (ff o o.b 7 i1 0 M.length q h1' x1 y1) = ⟨2, treOff c 0 (q : Int), o.a, o.b, 0, 0, 0⟩ := by simp [treStep, ff]
      rw [e]
      exact congrArg (fun z => (⟨2, z, o.a, o.b, 0, 0, 0⟩ : Actn)) hoff
    have hbh : ∀ l, treBehind c (ff o o.b 7 i1 0 M.length q h1' x1 y1) l = (ff o o.b 8 i1 0 M'.length q h1' x1 y1, false) := fun l => by
      have e : treBehind c (ff o o.b 7 i1 0 M.length q h1' x1 y1) l = (ff o o.b 8 i1 0 ((M.length : Int) + 1) q h1' x1 y1, false) := by simp [treBehind, ff]
      rw [e, hlen]
      simp
    have hl2 : Lay w N T (L1.set (ofU w N 0 q) ⟨0, o.a, o.b, 0⟩) (hM M) (fM M') (gM w M) := by
      refine (hl1.setF h1 ⟨0, o.a, o.b, 0⟩).to rfl (fun r _ => ?_) (fun _ _ _ _ _ => rfl)
      unfold upd fU fM
      rw [hlen, hget]
      by_cases e : r = q
      · rw [if_pos e, if_pos (by omega), if_neg (by omega), if_pos e]
      · rw [if_neg e]
        by_cases e1 : r < q
        · rw [if_neg (by omega), if_pos (by omega), if_pos (by omega), if_pos e1]
        · by_cases e2 : r ≤ M.length
          · rw [if_pos (by omega), if_pos (by omega), if_pos (by omega), if_neg e1, if_neg e]
          · rw [if_neg (by omega), if_neg (by omega), if_neg (by omega)]
    obtain ⟨L', ts', i', h', x', y', r1, r2⟩ := behind8 hc t hl2 o.b i1 0 h1' x1 y1 (ts1 ++ [((ofU w N 0 q : Nat) : Int)]) R
    rw [if_pos h4] at r2
    refine ⟨L', ts', i', h', x', y', r1, ReachT.write hs (by rw [hl1.len]; exact of_great (Nat.zero_le _) h1) ?_⟩
    rw [hbh]
    exact r2
  have hU : Lay w N T L (hM M) (fU M M.length) (gM w M) := hl.to rfl (fun r _ => by unfold fU; rw [if_neg (by omega)]) (fun _ _ _ _ _ => rfl)
  have hfull : ¬ c.cap ≤ (M.length : Int) := by rw [hc.N]; omega
  by_cases e : (M.length : Int) ≤ (q : Int)
  · have ef : treFresh c (ff o o.b pc i 0 M.length q h x y) = ff o o.b 7 i 0 M.length q h x y := by simp [treFresh, ff, hfull, e]
    rw [ef]
    exact hrest (by rw [show q = M.length by omega]; exact hU) i h x y ts
  · have ef : treFresh c (ff o o.b pc i 0 M.length q h x y) = ff o o.b 5 M.length 0 M.length q h x y := by simp [treFresh, ff, hfull, e]
    rw [ef]
    obtain ⟨L1, ts1, x1, y1, r1, r2⟩ := move_up hc hOk hn (o := o) (p := q) (M.length - q) M.length (by omega) (by omega) (Nat.le_refl _) hU o.b 0 h x y ts R
    obtain ⟨L', ts', i', h', x', y', s1, s2⟩ := hrest r1 q h x1 y1 ts1
    exact ⟨L', ts', i', h', x', y', s1, r2.trans s2⟩
/-- A key is taken out. -/
theorem take_out (hc : TreN c w N T) {L : List Cel} (hl : LayM w N T L M) (hn : M.length ≤ N) (hOk : ∀ x ∈ M, RowOk x) (h5 : o.kind = 5) {q : Nat} (hq : q < M.length) (b h x y : Int) (ts : List Int) (R : List Rw) :
    ∃ (L' : List Cel) (ts' : List Int) (i' h' x' y' : Int), LayM w N T L' (M.take q ++ M.drop (q + 1)) ∧ ReachT c ⟨if M.length ≤ q + 1 then ff o b 15 q 0 M.length q h x y else ff o b 13 ((q + 1 : Nat) : Int) 0 M.length q h x y, L, ts, R⟩ ⟨ff o b 25 i' 0 (M.take q ++ M.drop (q + 1)).length q h' x' y', L', ts', R⟩ := by
  obtain ⟨M', hM'⟩ : ∃ M', M.take q ++ M.drop (q + 1) = M' := ⟨_, rfl⟩
  have hlen : M.length = M'.length + 1 := by
    rw [← hM', List.length_append, List.length_take, List.length_drop]
    omega
  have hget : ∀ r, M'.getD r zrw = if r < q then M.getD r zrw else M.getD (r + 1) zrw := fun r => by rw [← hM']; exact getD_del hq r
  have t : Turn N o M M' q := by
    refine ⟨hn, by omega, by omega, by omega, fun r hr => by rw [hget, if_pos hr], fun z hz => ?_, .inr ⟨h5, hlen⟩⟩
    rw [← hM'] at hz
    rcases List.mem_append.1 hz with hz | hz
    · exact hOk z (List.mem_of_mem_take hz)
    · exact hOk z (List.mem_of_mem_drop hz)
  rw [hM']
  have h1 : M.length - 1 < itN w 0 N := by show M.length - 1 < N; omega
  have hoff := hc.off (k := 0) (Nat.zero_le _) h1
  have hrest : ∀ {L1 : List Cel}, Lay w N T L1 (hM M) (fD M q M.length) (gM w M) → ∀ (i1 x1 y1 : Int) (ts1 : List Int), ∃ (L' : List Cel) (ts' : List Int) (i' h' x' y' : Int), LayM w N T L' M' ∧ ReachT c ⟨ff o b 15 i1 0 M.length q h x1 y1, L1, ts1, R⟩ ⟨ff o b 25 i' 0 M'.length q h' x' y', L', ts', R⟩ := by
    intro L1 hl1 i1 x1 y1 ts1
    have hs : treStep c (ff o b 15 i1 0 M.length q h x1 y1) = ⟨2, ((ofU w N 0 (M.length - 1) : Nat) : Int), 0, 0, 0, 0, 0⟩ := by
      have e : treStep c (ff o b 15 i1 0 M.length q h x1 y1) = ⟨2, treOff c 0 ((M.length : Int) - 1), 0, 0, 0, 0, 0⟩ := by simp [treStep, ff]
      rw [e, show (M.length : Int) - 1 = ((M.length - 1 : Nat) : Int) by omega]
      exact congrArg (fun z => (⟨2, z, 0, 0, 0, 0, 0⟩ : Actn)) hoff
    have hbh : ∀ l, treBehind c (ff o b 15 i1 0 M.length q h x1 y1) l = (ff o b 8 i1 0 M'.length q h x1 y1, false) := fun l => by
      have e : treBehind c (ff o b 15 i1 0 M.length q h x1 y1) l = (ff o b 8 i1 0 ((M.length : Int) - 1) q h x1 y1, false) := by simp [treBehind, ff]
      rw [e, show (M.length : Int) - 1 = (M'.length : Int) by omega]
    have hl2 : Lay w N T (L1.set (ofU w N 0 (M.length - 1)) zce) (hM M) (fM M') (gM w M) := by
      refine (hl1.setF h1 zce).to rfl (fun r _ => ?_) (fun _ _ _ _ _ => rfl)
      unfold upd fD fM
      rw [hget]
      by_cases e : r = M.length - 1
      · rw [if_pos e, if_neg (by omega)]
      · rw [if_neg e]
        by_cases e1 : r < q
        · rw [if_neg (by omega), if_pos (by omega), if_pos (by omega), if_pos e1]
        · by_cases e2 : r + 1 < M.length
          · rw [if_pos (by omega), if_pos (by omega), if_pos (by omega), if_neg e1]
          · rw [if_neg (by omega), if_neg (by omega), if_neg (by omega)]
    obtain ⟨L', ts', i', h', x', y', r1, r2⟩ := behind8 hc t hl2 b i1 0 h x1 y1 (ts1 ++ [((ofU w N 0 (M.length - 1) : Nat) : Int)]) R
    rw [if_neg (by omega)] at r2
    refine ⟨L', ts', i', h', x', y', r1, ReachT.write hs (by rw [hl1.len]; exact of_great (Nat.zero_le _) h1) ?_⟩
    rw [hbh]
    exact r2
  have hD : ∀ i, i ≤ q + 1 → Lay w N T L (hM M) (fD M q i) (gM w M) := fun i hi => hl.to rfl (fun r _ => by unfold fD; rw [if_neg (by omega)]) (fun _ _ _ _ _ => rfl)
  by_cases e : M.length ≤ q + 1
  · rw [if_pos e]
    exact hrest (hD M.length e) q x y ts
  · rw [if_neg e]
    obtain ⟨L1, ts1, i1, x1, y1, r1, r2⟩ := move_down hc hOk hn (o := o) (p := q) (M.length - (q + 1)) (q + 1) (by omega) (by omega) (Nat.le_refl _) (hD (q + 1) (Nat.le_refl _)) b 0 h x y ts R
    obtain ⟨L', ts', i', h', x', y', s1, s2⟩ := hrest r1 i1 x1 y1 ts1
    exact ⟨L', ts', i', h', x', y', s1, r2.trans s2⟩
end
theorem put_means {c : Cfg} {w N T : Nat} (hc : TreN c w N T) {o : Opn} {M : List Rw} {L : List Cel} (hl : LayM w N T L M) (hn : M.length ≤ N) (hr : Rises M) (hOk : ∀ x ∈ M, RowOk x) (hk : o.kind = 4) (hro : RowOk ⟨o.a, o.b⟩) :
    ∃ t, EndT c w N T o L (ordDone c M o) t := by
  obtain ⟨q, hq, h1, h2⟩ := at_any o.a hr
  obtain ⟨s, _, hx⟩ := seek0 hc hl hn hq h1 h2
  have hlk := look_at hr hq h1 h2
  have hd : ordDone c M o = match look M o.a with | some u => ⟨withK o.a o.b M, 0, u + 1, [], 0⟩ | none => if c.cap ≤ (M.length : Int) then ⟨M, 9, 0, [], 0⟩ else ⟨withK o.a o.b M, 0, 0, [], 0⟩ := by
    unfold ordDone
    rw [if_neg (by simp [hk]), if_pos (by simp [hk])]
    cases look M o.a <;> rfl
  have hcap : c.cap ≤ (M.length : Int) ↔ ¬ M.length < N := by rw [hc.N]; omega
  have hnew : look M o.a = none → ∀ (pc i h x y : Int) (ts : List Int), ReachT c ⟨startF o, L, [], []⟩ ⟨treFresh c (ff o o.b pc i 0 M.length q h x y), L, ts, []⟩ → ∃ t, EndT c w N T o L (ordDone c M o) t := by
    intro hno pc i h x y ts hreach
    rw [hd, hno]
    by_cases hf : c.cap ≤ (M.length : Int)
    · have ef : treFresh c (ff o o.b pc i 0 M.length q h x y) = ff o o.b 22 i 0 M.length q h x y := by simp [treFresh, ff, hf]
      rw [ef] at hreach
      show ∃ t, EndT c w N T o L (if c.cap ≤ (M.length : Int) then _ else _) t
      rw [if_pos hf]
      exact ⟨ts, _, L, hl, by rw [end22], by rw [end22], by rw [end22], hreach⟩
    · have hgt : ∀ j, q ≤ j → j < M.length → o.a < (M.getD j zrw).k := fun j hj hjl => by
        have h3 := h2 j hj hjl
        have h4 : (M.getD j zrw).k ≠ o.a := fun e => by
          have := look_of_mem hr (x := M.getD j zrw) (by rw [getD_rw M j hjl]; exact List.getElem_mem hjl)
          rw [e, hno] at this
          cases this
        omega
      have hw := with_pos (u := o.b) hq h1 hgt
      obtain ⟨L', ts', i', h', x', y', r1, r2⟩ := put_new hc hl (by omega) hOk hk hro hq pc i h x y ts []
      show ∃ t, EndT c w N T o L (if c.cap ≤ (M.length : Int) then _ else _) t
      rw [if_neg hf, hw]
      exact ⟨ts', _, L', r1, by rw [end24], by rw [end24], by rw [end24], hreach.trans r2⟩
  rcases hx with ⟨a1, a2⟩ | ⟨a1, i', h', x', a2⟩
  · obtain ⟨e1, e2, hroq⟩ := row_mod hOk a1
    unfold fndF at a2
    rw [e1, e2] at a2
    by_cases e : (M.getD q zrw).k = o.a
    · have hf : treFound c (ff o o.b 1 q 0 M.length q 0 (M.getD q zrw).k (M.getD q zrw).v) = (ff o o.b 4 q 0 M.length q 0 (M.getD q zrw).k (M.getD q zrw).v, false) := by
        simp [treFound, ff, hk, e, -List.getD_eq_getElem?_getD]
      rw [hf] at a2
      obtain ⟨L', ts', r1, r2⟩ := put_there hc hl hn a1 e (0 :: s) []
      have hw : withK o.a o.b M = M.set q ⟨o.a, o.b⟩ := with_at (z := (M.getD q zrw).v) a1 h1 (by rw [← e])
      rw [hd, hlk, if_pos ⟨a1, e⟩, hw]
      refine ⟨ts', _, L', r1, by rw [end23], by rw [end23], ?_, a2.trans r2⟩
      rw [end23]
      obtain ⟨_, h3, h4⟩ := hroq
      show ((M.getD q zrw).v + 1) % 4294967296 = (M.getD q zrw).v + 1
      omega
    · have hf : treFound c (ff o o.b 1 q 0 M.length q 0 (M.getD q zrw).k (M.getD q zrw).v) = (treFresh c (ff o o.b 1 q 0 M.length q 0 (M.getD q zrw).k (M.getD q zrw).v), false) := by
        simp [treFound, ff, hk, e, -List.getD_eq_getElem?_getD]
      rw [hf] at a2
      exact hnew (by rw [hlk, if_neg fun z => e z.2]) 1 q 0 _ _ (0 :: s) a2
  · have hf : treNone c (ff o o.b (if M.length = 0 then 0 else 1) i' 0 M.length 0 h' 0 x') = treFresh c (ff o o.b (if M.length = 0 then 0 else 1) i' 0 M.length q h' 0 x') := by
      rw [a1]
      simp [treNone, ff, hk]
    rw [hf] at a2
    exact hnew (by rw [hlk, if_neg fun z => by omega]) _ i' h' 0 x' (0 :: s) a2
theorem del_means {c : Cfg} {w N T : Nat} (hc : TreN c w N T) {o : Opn} {M : List Rw} {L : List Cel} (hl : LayM w N T L M) (hn : M.length ≤ N) (hr : Rises M) (hOk : ∀ x ∈ M, RowOk x) (hk : o.kind = 5) :
    ∃ t, EndT c w N T o L (ordDone c M o) t := by
  obtain ⟨q, hq, h1, h2⟩ := at_any o.a hr
  obtain ⟨s, _, hx⟩ := seek0 hc hl hn hq h1 h2
  have hlk := look_at hr hq h1 h2
  have hd : ordDone c M o = match look M o.a with | some u => ⟨withoutK o.a M, 0, u + 1, [], 0⟩ | none => ⟨M, 6, 0, [], 0⟩ := by
    unfold ordDone
    rw [if_neg (by simp [hk]), if_neg (by simp [hk])]
    cases look M o.a <;> rfl
  rw [hd, hlk]
  rcases hx with ⟨a1, a2⟩ | ⟨a1, i', h', x', a2⟩
  · obtain ⟨e1, e2, hroq⟩ := row_mod hOk a1
    unfold fndF at a2
    rw [e1, e2] at a2
    by_cases e : (M.getD q zrw).k = o.a
    · have hv : ((M.getD q zrw).v + 1) % 4294967296 = (M.getD q zrw).v + 1 := by
        obtain ⟨_, h3, h4⟩ := hroq
        omega
      have hf : treFound c (ff o o.b 1 q 0 M.length q 0 (M.getD q zrw).k (M.getD q zrw).v) = (if M.length ≤ q + 1 then ff o ((M.getD q zrw).v + 1) 15 q 0 M.length q 0 (M.getD q zrw).k (M.getD q zrw).v else ff o ((M.getD q zrw).v + 1) 13 ((q + 1 : Nat) : Int) 0 M.length q 0 (M.getD q zrw).k (M.getD q zrw).v, false) := by
        by_cases e3 : M.length ≤ q + 1
        · have e4 : (M.length : Int) ≤ (q : Int) + 1 := by omega
          simp [treFound, ff, hk, e, e3, e4, hv, -List.getD_eq_getElem?_getD]
        · have e4 : ¬ (M.length : Int) ≤ (q : Int) + 1 := by omega
          simp [treFound, ff, hk, e, e3, e4, hv, -List.getD_eq_getElem?_getD]
      rw [hf] at a2
      obtain ⟨L', ts', i', h', x', y', r1, r2⟩ := take_out hc hl hn hOk hk a1 ((M.getD q zrw).v + 1) 0 (M.getD q zrw).k (M.getD q zrw).v (0 :: s) []
      have hw : withoutK o.a M = M.take q ++ M.drop (q + 1) := without_at (z := (M.getD q zrw).v) hr a1 (by rw [← e])
      rw [if_pos ⟨a1, e⟩, hw]
      exact ⟨ts', _, L', r1, by rw [end25], by rw [end25], by rw [end25], a2.trans r2⟩
    · have hf : treFound c (ff o o.b 1 q 0 M.length q 0 (M.getD q zrw).k (M.getD q zrw).v) = (ff o o.b 21 q 0 M.length q 0 (M.getD q zrw).k (M.getD q zrw).v, false) := by
        simp [treFound, ff, hk, e, -List.getD_eq_getElem?_getD]
      rw [hf] at a2
      rw [if_neg fun z => e z.2]
      exact ⟨_, _, L, hl, by rw [end21], by rw [end21], by rw [end21], a2⟩
  · have hf : treNone c (ff o o.b (if M.length = 0 then 0 else 1) i' 0 M.length 0 h' 0 x') = ff o o.b 21 i' 0 M.length M.length h' 0 x' := by
      simp [treNone, ff, hk]
    rw [hf] at a2
    rw [if_neg fun z => by omega]
    exact ⟨_, _, L, hl, by rw [end21], by rw [end21], by rw [end21], a2⟩
/-- A frame that starts may be. -/
theorem start_ok {c : Cfg} {o : Opn} (hp : partOk c = true) (h2 : c.object = 2) (he : opErr c o = 0) (hc0 : o.c = 0) (hb0 : o.kind = 5 → o.b = 0) : treErr c (startF o) = 0 := by
  have hc := treOk_of hp h2
  have ht := tre_top c
  have hop : treOp (startF o) = o := by
    have h : ∀ o : Opn, o.c = 0 → (o.kind = 5 → o.b = 0) → treOp (startF o) = o := by
      rintro ⟨k, a, b, d⟩ h1 h2
      simp only at h1 h2
      subst h1
      unfold treOp startF
      by_cases e : k = 5
      · simp [e, h2 e]
      · simp [e]
    exact h o hc0 hb0
  have hnum : treNum c (startF o) = true := by
    have h1 : ¬ (0 : Int) = c.chunk := by have := hc.chunk; omega
    have h3 := hc.cap
    have h4 := hc.chunk
    simp [treNum, startF]
    exact ⟨⟨⟨⟨decide_eq_true (by omega), decide_eq_true (by omega)⟩, decide_eq_true (by omega)⟩, decide_eq_true (by omega)⟩, h1⟩
  have hmay : treMay c (startF o) = true := by
    unfold treMay
    rw [hop, he, hnum]
    simp [treHas, treStep, startF]
  unfold treErr
  rw [hp, h2, hmay]
  rfl
/-- THE STAGE'S THEOREM, of one operation. -/
theorem tree_means {c : Cfg} {w N T : Nat} (hc : TreN c w N T) {o : Opn} (ho : o.Fits) {M : List Rw} {L : List Cel} (hp : partOk c = true) (h2 : c.object = 2) (he : opErr c o = 0) (hL : CelsFit L) (hl : LayM w N T L M) (hn : M.length ≤ N) (hr : Rises M) (hOk : ∀ x ∈ M, RowOk x) :
    ∃ (L' : List Cel) (t : List Int), treRun c 400 (startF o) L [] [] = ⟨L', (ordDone c M o).code, (ordDone c M o).word, (ordDone c M o).res, t, true⟩ ∧ LayM w N T L' (ordDone c M o).rows ∧ (o.kind = 6 → ∃ s, t = 0 :: s ∧ (s = [] ∨ MidS w N T 0 0 s)) := by
  obtain ⟨_, hk, hft⟩ := ord_kind (c := c) (o := o) h2 (by simp [he])
  obtain ⟨f1, f2⟩ := ord_fits hft hk
  have hc0 : o.c = 0 := by
    unfold fitsB at hft
    rcases hk with k | k | k | k | k <;> simp [k] at hft <;> omega
  have hb0 : o.kind = 5 → o.b = 0 := fun k => by
    unfold fitsB at hft
    simp [k] at hft
    omega
  have herr := start_ok hp h2 he hc0 hb0
  obtain ⟨hin, _⟩ := tz_start ho herr
  obtain ⟨hm1, _, hm3⟩ := tre_most ho herr
  have hmost : treRem c (startF o) < (400 : Nat) := by
    obtain ⟨hw, hN, hT⟩ := hc.bd
    have e1 := hc.w
    have e2 := hc.N
    have e3 := hc.T
    have hmul : c.node * (treTop c + 1) ≤ 20 := by
      rw [e1, e3]
      rcases hw with rfl | rfl | rfl <;> omega
    unfold treMost at hm1
    split at hm1
    · omega
    · split at hm1
      · omega
      · split at hm1 <;> omega
  have hgr : (L.length : Int) = treGreat c := by rw [hl.len, hc.great]
  have key : ∀ t, EndT c w N T o L (ordDone c M o) t → ∃ L' : List Cel, treRun c 400 (startF o) L [] [] = ⟨L', (ordDone c M o).code, (ordDone c M o).word, (ordDone c M o).res, t, true⟩ ∧ LayM w N T L' (ordDone c M o).rows := by
    rintro t ⟨g, L', r1, r2, r3, r4, n, r5⟩
    refine ⟨L', ?_, r1⟩
    have := runT_of (o := o) (s' := ⟨g, L', t, (ordDone c M o).res⟩) r2 n ⟨startF o, L, [], []⟩ hin hL hgr r5 400 hmost
    rw [r3, r4] at this
    exact this
  by_cases h6 : o.kind = 6
  · obtain ⟨s, hs, hE⟩ := get_means hc hl hn hr hOk h6
    obtain ⟨L', a, b⟩ := key _ hE
    exact ⟨L', _, a, b, fun _ => ⟨s, rfl, hs⟩⟩
  · have : ∃ t, EndT c w N T o L (ordDone c M o) t := by
      rcases hk with k | k | k | k | k
      · exact put_means hc hl hn hr hOk k ⟨⟨ho.a.1, f1⟩, ho.b.1, f2 (.inl k)⟩
      · exact del_means hc hl hn hr hOk k
      · exact absurd k h6
      · exact floor_means hc hl hn hr hOk k
      · exact scan_means hc hl hn hr hOk k
    obtain ⟨t, hE⟩ := this
    obtain ⟨L', a, b⟩ := key t hE
    exact ⟨L', t, a, b, fun k => absurd k h6⟩
end Go.Proofs.YtkklhhdkokncnaaDoor
