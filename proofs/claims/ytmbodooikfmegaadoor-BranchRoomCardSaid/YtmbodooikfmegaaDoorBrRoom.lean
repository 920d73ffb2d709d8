/- Plain: a setting that is refused has written nothing; no program in sight. -/
import Derived.Test.YtmbodooikfmegaaDoorBrD
import Derived.Test.YtmbodooikfmegaaDoorStart
namespace Go.Proofs.YtmbodooikfmegaaDoor
open Go Go.RowKit

abbrev sf (a b y pc i j n p h x : Int) : Frm := ⟨12, a, b, pc, i, j, n, p, h, x, y⟩
abbrev lg (a b : Int) : Int := brLong (sf a b 0 0 0 0 0 0 0 0)
/-- How many of the cells from a place on are empty. -/
def empF (L : List Cel) (i : Nat) : Nat := ((L.drop i).filter fun l => l.a == 0).length
theorem empF_step {L : List Cel} {i : Nat} (h : i < L.length) : empF L i = (if (L.getD i zc).a == 0 then 1 else 0) + empF L (i + 1) := by
  unfold empF
  have hg : L.getD i zc = L[i] := by simp [h]
  rw [List.drop_eq_getElem_cons h, List.filter_cons, hg]
  by_cases e : (L[i].a == 0) = true
  · simp only [e, if_true, List.length_cons]
    omega
  · simp [e]
theorem empF_end {L : List Cel} {i : Nat} (h : L.length ≤ i) : empF L i = 0 := by
  unfold empF
  rw [List.drop_eq_nil_of_le h]
  rfl
theorem empF_pos {L : List Cel} {i : Nat} (h : 1 ≤ empF L i) : i < L.length := by
  by_cases e : i < L.length
  · exact e
  · rw [empF_end (by omega)] at h
    omega
theorem empF_set {L : List Cel} {i k : Nat} (v : Cel) (h : i < k) : empF (L.set i v) k = empF L k := by
  unfold empF
  rw [List.drop_set_of_lt h]

theorem sf_err {c : Cfg} {a b y : Int} (hp : partOk c = true) (hc : c.object = 4) (ho : opErr c ⟨12, a, b, y⟩ = 0) {pc i j n p h x : Int} (hpc : pc = 0 ∨ pc = 2 ∨ pc = 3 ∨ pc = 4 ∨ pc = 20 ∨ pc = 22)
    (hi : i ≤ c.cap) (hj : j ≤ c.cap) (hn : n ≤ c.cap) (hpp : p ≤ c.cap) (hh : h ≤ lg a b) (h02 : pc = 0 ∨ pc = 2 → h < lg a b) (h0 : pc = 0 → n ≤ i)
    (h1 : 0 ≤ brAt (sf a b y pc i j n p h x)) (h2 : brAt (sf a b y pc i j n p h x) < c.cap) : brErr c (sf a b y pc i j n p h x) = 0 := by
  have hm : brMay c (sf a b y pc i j n p h x) = true := by
    have hop : opErr c (brOp (sf a b y pc i j n p h x)) = 0 := by simpa [brOp] using ho
    have hl : brLong (sf a b y pc i j n p h x) = lg a b := rfl
    have hb : brHas (sf a b y pc i j n p h x) = true := by rcases hpc with rfl | rfl | rfl | rfl | rfl | rfl <;> rfl
    unfold brMay
    rw [hop, hb, hl]
    simp only [Bool.and_eq_true, decide_eq_true_eq, Bool.not_eq_true', Bool.and_eq_false_iff, beq_self_eq_true, true_and]
    refine ⟨⟨⟨⟨⟨⟨⟨⟨hi, hj⟩, hn⟩, hpp⟩, hh⟩, ?_⟩, ?_⟩, h1⟩, h2⟩
    · by_cases e : pc = 0 ∨ pc = 2
      · right
        have := h02 e
        simp
        omega
      · left
        simp only [not_or] at e
        simp [e.1, e.2]
    · by_cases e : pc = 0
      · right
        have := h0 e
        simp
        omega
      · left
        simpa using e
  simp [brErr, hp, hc, hm]
/-- A setting's outcome: done; with its word, or refused for want of room, the cells as they were. -/
def RoomP (L : List Cel) (O : OutB) : Prop := O.ok = true ∧ (O.code = 0 ∨ (O.code = 9 ∧ O.cells = L))
def GoodP (O : OutB) : Prop := O.ok = true ∧ O.code = 0

theorem sf_read {c : Cfg} {a b y pc j n p h x : Int} {L : List Cel} {i : Nat} (k : Nat) (t : List Int) (he : brErr c (sf a b y pc i j n p h x) = 0) (hpc : pc = 0 ∨ pc = 3) (hi : i < L.length) :
    brRun c (k + 1) (sf a b y pc i j n p h x) L t = brRun c k (brBehind c (sf a b y pc i j n p h x) (L.getD i zc)) L (t ++ [(i : Int)]) := by
  have hs : brStep (sf a b y pc i j n p h x) = ⟨1, i, 0, 0, 0, 0, 0⟩ := by rcases hpc with rfl | rfl <;> rfl
  rw [brRun_read k L t he (by rw [hs]; rfl) (by rw [hs]; exact Int.natCast_nonneg i) (by rw [hs]; show (i : Int) < _; omega) (by rw [hs]; rfl), hs]
  simp [brAfterA, he]
theorem sf_write {c : Cfg} {a b y pc i j n p h x : Int} {L : List Cel} {q : Nat} (k : Nat) (t : List Int) (he : brErr c (sf a b y pc i j n p h x) = 0) (hpc : (pc = 2 ∧ j = q) ∨ (pc = 4 ∧ p - 1 = q)) (hq : q < L.length) :
    ∃ l : Cel, brRun c (k + 1) (sf a b y pc i j n p h x) L t = brRun c k (brBehind c (sf a b y pc i j n p h x) l) (L.set q l) (t ++ [(q : Int)]) := by
  have hs : ∃ u v z, brStep (sf a b y pc i j n p h x) = ⟨2, q, u, v, z, 0, 0⟩ := by
    rcases hpc with ⟨rfl, rfl⟩ | ⟨rfl, hp⟩
    · exact ⟨_, _, _, rfl⟩
    · rw [← hp]
      exact ⟨_, _, _, rfl⟩
  obtain ⟨u, v, z, hs⟩ := hs
  refine ⟨⟨0, u, v, z⟩, ?_⟩
  rw [brRun_write k L t he (by rw [hs]; rfl) (by rw [hs]; exact Int.natCast_nonneg q) (by rw [hs]; show (q : Int) < _; omega) (by rw [hs]; rfl), hs]
  simp [brAfterA, he]
theorem sf_well {c : Cfg} {f : Frm} (k : Nat) (L : List Cel) (t : List Int) (he : brErr c f = 0) (hpc : f.pc = 20) : brRun c (k + 1) f L t = ⟨L, 0, f.x, t, true⟩ := by
  have hs : brStep f = ⟨4, 0, 0, 0, 0, 0, f.x⟩ := by simp [brStep, hpc]
  rw [brRun_done k L t he (by rw [hs]; rfl), hs]
theorem sf_full {c : Cfg} {f : Frm} (k : Nat) (L : List Cel) (t : List Int) (he : brErr c f = 0) (hpc : f.pc = 22) : brRun c (k + 1) f L t = ⟨L, 9, 0, t, true⟩ := by
  have hs : brStep f = ⟨4, 0, 0, 0, 0, 9, 0⟩ := by simp [brStep, hpc]
  rw [brRun_done k L t he (by rw [hs]; rfl), hs]

/-- Making, and looking for room: there is some. -/
theorem room_made {c : Cfg} {a b y : Int} (hp : partOk c = true) (hc : c.object = 4) (ho : opErr c ⟨12, a, b, y⟩ = 0) : ∀ (k : Nat) (M : List Cel) (t : List Int) (n p h x : Int) (i j : Nat), (M.length : Int) = c.cap → n ≤ c.cap → p ≤ c.cap → h < lg a b →
    ((j < M.length → i ≤ M.length → lg a b ≤ h + 1 + empF M (j + 1) → 2 * (M.length - j) + 2 ≤ k → GoodP (brRun c k (sf a b y 2 i j n p h x) M t)) ∧
     (i < M.length → j ≤ M.length → lg a b ≤ h + empF M i → 2 * (M.length - i) + 3 ≤ k → GoodP (brRun c k (sf a b y 3 i j n p h x) M t))) := by
  intro k
  induction k with
  | zero => exact fun M t n p h x i j _ _ _ _ => ⟨fun _ _ _ h => by omega, fun _ _ _ h => by omega⟩
  | succ k ih =>
    intro M t n p h x i j hM hn hpp hh
    refine ⟨fun hj hi hr hk => ?_, fun hi hj hr hk => ?_⟩
    · have he : brErr c (sf a b y 2 i j n p h x) = 0 := sf_err hp hc ho (by simp) (by omega) (by omega) hn hpp (by omega) (fun _ => hh) (by simp) (by show (0 : Int) ≤ (j : Int); omega) (by show (j : Int) < _; omega)
      obtain ⟨l, hl⟩ := sf_write (q := j) k t he (Or.inl ⟨rfl, rfl⟩) hj
      rw [hl]
      have hb : brBehind c (sf a b y 2 i j n p h x) l = brMade c (sf a b y 2 i j n p h x) := rfl
      rw [hb]
      have hlg : brLong (sf a b y 2 i j n p h x) = lg a b := rfl
      by_cases e : h + 1 = lg a b
      · have hm : brMade c (sf a b y 2 i j n p h x) = sf a b y 20 i j n (j + 1) (h + 1) 0 := by
          unfold brMade
          rw [if_pos (by rw [hlg]; simpa using e)]
        rw [hm]
        obtain ⟨k, rfl⟩ : ∃ g, k = g + 1 := ⟨k - 1, by omega⟩
        rw [sf_well _ _ _ (sf_err hp hc ho (by simp) (by omega) (by omega) hn (by omega) (by omega) (by simp) (by simp) (by show (0 : Int) ≤ 0; omega) (by show (0 : Int) < _; omega)) rfl]
        exact ⟨rfl, rfl⟩
      · have h1 : j + 1 < M.length := empF_pos (by omega)
        have hm : brMade c (sf a b y 2 i j n p h x) = sf a b y 3 ((j + 1 : Nat) : Int) j n (j + 1) (h + 1) x := by
          unfold brMade
          rw [if_neg (by rw [hlg]; simpa using e), if_pos (by show (j : Int) + 1 < _; omega)]
          rfl
        rw [hm]
        refine (ih (M.set j l) _ n (j + 1) (h + 1) x (j + 1) j (by rw [List.length_set]; exact hM) hn (by omega) (by omega)).2 (by rw [List.length_set]; exact h1) (by rw [List.length_set]; omega) (by rw [empF_set _ (by omega)]; omega) (by rw [List.length_set]; omega)
    · have he : brErr c (sf a b y 3 i j n p h x) = 0 := sf_err hp hc ho (by simp) (by omega) (by omega) hn hpp (by omega) (by simp) (by simp) (by show (0 : Int) ≤ (i : Int); omega) (by show (i : Int) < _; omega)
      rw [sf_read k t he (Or.inr rfl) hi]
      have hs := empF_step hi
      generalize hl : M.getD i zc = l at hs
      by_cases e : (l.a == 0) = true
      · have hb : brBehind c (sf a b y 3 i j n p h x) l = sf a b y 2 i i n p h x := by simp [brBehind, e]
        rw [hb]
        rw [if_pos e] at hs
        exact (ih M _ n p h x i i hM hn hpp hh).1 hi (by omega) (by omega) (by omega)
      · rw [if_neg e] at hs
        have h1 : i + 1 < M.length := empF_pos (by omega)
        have hb : brBehind c (sf a b y 3 i j n p h x) l = sf a b y 3 ((i + 1 : Nat) : Int) j n p h x := by
          show (if l.a == 0 then _ else _) = _
          rw [if_neg e, if_pos (by show (i : Int) + 1 < _; omega)]
          rfl
        rw [hb]
        exact (ih M _ n p h x (i + 1) j hM hn hpp hh).2 h1 hj (by omega) (by omega)

/-- Looking for the names: nothing is written. -/
theorem room_seek {c : Cfg} {a b y : Int} (hp : partOk c = true) (hc : c.object = 4) (ho : opErr c ⟨12, a, b, y⟩ = 0) {L : List Cel} (hL : (L.length : Int) = c.cap) : ∀ (k : Nat) (t : List Int) (h x : Int) (p i j n d : Nat), i < L.length → j ≤ L.length → p ≤ L.length → n ≤ i →
    (1 ≤ n → j < i ∧ empF L (j + 1) + 1 = n + empF L i) → lg a b = h + 1 + d → (d + 1) * L.length + 2 * L.length + 3 ≤ k + i → RoomP L (brRun c k (sf a b y 0 i j n p h x) L t) := by
  intro k
  induction k with
  | zero =>
    intro t h x p i j n d hi hj hpp hn hx hd hk
    rw [Nat.succ_mul] at hk
    omega
  | succ k ih =>
    intro t h x p i j n d hi hj hpp hn hx hd hk
    have he : brErr c (sf a b y 0 i j n p h x) = 0 := sf_err hp hc ho (by simp) (by omega) (by omega) (by omega) (by omega) (by omega) (fun _ => by omega) (fun _ => by omega) (by show (0 : Int) ≤ (i : Int); omega) (by show (i : Int) < _; omega)
    rw [sf_read k t he (Or.inl rfl) hi]
    have hs := empF_step hi
    generalize hl : L.getD i zc = l at hs
    have hlg : ∀ i j n p h x, brLong (sf a b y 0 i j n p h x) = lg a b := fun _ _ _ _ _ _ => rfl
    rw [Nat.succ_mul] at hk
    have hmore : ∀ (j n : Nat), n ≤ i + 1 → (1 ≤ n → j ≤ i ∧ empF L (j + 1) + 1 = n + empF L (i + 1)) → j ≤ L.length → RoomP L (brRun c k (brMore c (sf a b y 0 i j n p h x)) L (t ++ [(i : Int)])) := by
      intro j n hn hx hj
      by_cases e : i + 1 < L.length
      · have hm : brMore c (sf a b y 0 i j n p h x) = sf a b y 0 ((i + 1 : Nat) : Int) j n p h x := by
          unfold brMore
          rw [if_pos (by show (i : Int) + 1 < _; omega)]
          rfl
        rw [hm]
        exact ih _ h x p (i + 1) j n d e hj hpp hn (fun h1 => ⟨by have := (hx h1).1; omega, (hx h1).2⟩) hd (by rw [Nat.succ_mul]; omega)
      · have hz : empF L (i + 1) = 0 := empF_end (by omega)
        rw [hz] at hx
        have hm : brMore c (sf a b y 0 i j n p h x) = if (n : Int) < lg a b - h then sf a b y 22 i j n p h x else sf a b y 2 i j n p h x := by
          unfold brMore
          rw [if_neg (by show ¬ (i : Int) + 1 < _; omega), if_pos (show ((sf a b y 0 i j n p h x).kind == 12) = true from rfl), hlg]
        rw [hm]
        by_cases e2 : (n : Int) < lg a b - h
        · rw [if_pos e2]
          obtain ⟨k, rfl⟩ : ∃ g, k = g + 1 := ⟨k - 1, by omega⟩
          rw [sf_full _ _ _ (sf_err hp hc ho (by simp) (by omega) (by omega) (by omega) (by omega) (by omega) (by simp) (by simp) (by show (0 : Int) ≤ 0; omega) (by show (0 : Int) < _; omega)) rfl]
          exact ⟨rfl, Or.inr ⟨rfl, rfl⟩⟩
        · rw [if_neg e2]
          obtain ⟨h1, h2⟩ := hx (by omega)
          have hg := (room_made hp hc ho k L (t ++ [(i : Int)]) n p h x i j hL (by omega) (by omega) (by omega)).1 (by omega) (by omega) (by omega) (by omega)
          exact ⟨hg.1, Or.inl hg.2⟩
    by_cases hf : (l.a == (p : Int) + 1 && l.b == brName (sf a b y 0 i j n p h x) h) = true
    · have hb : brBehind c (sf a b y 0 i j n p h x) l = brFound (sf a b y 0 i j n p h x) l := by
        show (if (l.a == (p : Int) + 1 && l.b == brName (sf a b y 0 i j n p h x) h) = true then _ else _) = _
        rw [if_pos hf]
      rw [hb]
      by_cases e : h + 1 < lg a b
      · have hm : brFound (sf a b y 0 i j n p h x) l = sf a b y 0 ((0 : Nat) : Int) p ((0 : Nat) : Int) ((i + 1 : Nat) : Int) (h + 1) (l.c % 4294967296) := by
          unfold brFound
          rw [if_pos (by rw [hlg]; exact e)]
          rfl
        rw [hm]
        obtain ⟨d, rfl⟩ : ∃ g, d = g + 1 := ⟨d - 1, by omega⟩
        exact ih _ (h + 1) _ (i + 1) 0 p 0 d (by omega) hpp (by omega) (by omega) (fun h => by omega) (by omega) (by omega)
      · have hm : brFound (sf a b y 0 i j n p h x) l = sf a b y 4 i p n ((i + 1 : Nat) : Int) (h + 1) (l.c % 4294967296) := by
          unfold brFound
          rw [if_neg (by rw [hlg]; exact e), if_pos (show ((sf a b y 0 i j n p h x).kind == 12) = true from rfl)]
          rfl
        rw [hm]
        obtain ⟨k, rfl⟩ : ∃ g, k = g + 2 := ⟨k - 2, by omega⟩
        have he4 : brErr c (sf a b y 4 i p n ((i + 1 : Nat) : Int) (h + 1) (l.c % 4294967296)) = 0 := sf_err hp hc ho (by simp) (by omega) (by omega) (by omega) (by omega) (by omega) (by simp) (by simp) (by show (0 : Int) ≤ ((i + 1 : Nat) : Int) - 1; omega) (by show ((i + 1 : Nat) : Int) - 1 < _; omega)
        obtain ⟨l2, hl2⟩ := sf_write (q := i) (k + 1) (t ++ [(i : Int)]) he4 (Or.inr ⟨rfl, by omega⟩) hi
        rw [hl2]
        have hb4 : brBehind c (sf a b y 4 i p n ((i + 1 : Nat) : Int) (h + 1) (l.c % 4294967296)) l2 = sf a b y 20 i p n ((i + 1 : Nat) : Int) (h + 1) (l.c % 4294967296) := rfl
        rw [hb4, sf_well _ _ _ (sf_err hp hc ho (by simp) (by omega) (by omega) (by omega) (by omega) (by omega) (by simp) (by simp) (by show (0 : Int) ≤ 0; omega) (by show (0 : Int) < _; omega)) rfl]
        exact ⟨rfl, Or.inl rfl⟩
    · have hb : brBehind c (sf a b y 0 i j n p h x) l = brOther c (sf a b y 0 i j n p h x) l := by
        show (if (l.a == (p : Int) + 1 && l.b == brName (sf a b y 0 i j n p h x) h) = true then _ else _) = _
        rw [if_neg hf]
      rw [hb]
      by_cases e : (l.a == 0) = true
      · rw [if_pos e] at hs
        by_cases e0 : n = 0
        · subst e0
          have hm : brOther c (sf a b y 0 i j ((0 : Nat) : Int) p h x) l = brMore c (sf a b y 0 i i ((1 : Nat) : Int) p h x) := by
            unfold brOther
            rw [if_pos e, if_pos (show ((sf a b y 0 i j ((0 : Nat) : Int) p h x).n == 0) = true from rfl)]
            rfl
          rw [hm]
          exact hmore i 1 (by omega) (fun _ => ⟨by omega, by omega⟩) (by omega)
        · have hm : brOther c (sf a b y 0 i j n p h x) l = brMore c (sf a b y 0 i j ((n + 1 : Nat) : Int) p h x) := by
            unfold brOther
            rw [if_pos e, if_neg (by simpa using e0)]
            rfl
          rw [hm]
          obtain ⟨h1, h2⟩ := hx (by omega)
          exact hmore j (n + 1) (by omega) (fun _ => ⟨by omega, by omega⟩) hj
      · rw [if_neg e] at hs
        have hm : brOther c (sf a b y 0 i j n p h x) l = brMore c (sf a b y 0 i j n p h x) := by
          unfold brOther
          rw [if_neg e]
        rw [hm]
        exact hmore j n (by omega) (fun h1 => ⟨by have := (hx h1).1; omega, by have := (hx h1).2; omega⟩) hj

/-- A setting, done alone. -/
theorem room_run {c : Cfg} {o : Opn} {L : List Cel} (hk : o.kind = 12) (he : brErr c (startF o) = 0) (hL : (L.length : Int) = c.cap) : RoomP L (brRun c 200 (startF o) L []) := by
  obtain ⟨kind, a, b, y⟩ := o
  simp only at hk
  subst hk
  obtain ⟨hp, hc, hm⟩ := brErr_ok he
  obtain ⟨m1, m2, m3, m4, m5, m6, m7, m8, m9, m10, m11⟩ := brMay_facts hm
  have hcap := partOk_cap hp
  have hl3 : lg a b ≤ 3 := (brLong_le _).2
  have h0 : (0 : Int) < lg a b := m8 (Or.inl rfl)
  have hd : ∃ d : Nat, lg a b = 0 + 1 + d := ⟨(lg a b - 1).toNat, by omega⟩
  obtain ⟨d, hd⟩ := hd
  have hmul : (d + 1) * L.length ≤ 3 * L.length := Nat.mul_le_mul_right _ (by omega)
  exact room_seek hp hc m1 hL 200 [] 0 0 0 0 0 0 d (by omega) (by omega) (by omega) (by omega) (fun h => by omega) hd (by omega)
end Go.Proofs.YtmbodooikfmegaaDoor
