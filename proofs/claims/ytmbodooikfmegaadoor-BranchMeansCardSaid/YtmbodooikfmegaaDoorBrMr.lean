/- The walk of 'rows', layer 'branch': the rows of an instance's cells. -/
import Derived.Test.YtmbodooikfmegaaDoorBp
import Derived.Test.YtmbodooikfmegaaDoorRef6b
import Derived.Deep.LoopGhost
namespace Go.Proofs.YtmbodooikfmegaaDoor
open Go Go.RowKit paths
set_option maxRecDepth 100000
set_option maxHeartbeats 8000000

theorem BrTr.up {L : List Cel} {K : Nat → Int} {M : List Rw} (h : BrTr L K M) {m : Nat} (hm : (cl L m).a ≠ 0) : ∃ q : Nat, (cl L m).a = (q : Int) + 1 ∧ PtOk L K q (parK (K m)) := by
  by_cases h1 : (cl L m).a = 1
  · exact ⟨0, by omega, .inl rfl, (h.top m h1).symm⟩
  · obtain ⟨j, j1, j2, j3⟩ := h.par m hm h1
    exact ⟨j + 1, by omega, .inr (by simpa using j2), by unfold ptK; rw [if_neg (by omega)]; exact j3⟩
theorem PtOk.node {L : List Cel} {K : Nat → Int} {M : List Rw} (h : BrTr L K M) {q : Nat} {k : Int} (hp : PtOk L K q k) (hq : q ≠ 0) : (cl L (q - 1)).a ≠ 0 ∧ K (q - 1) = k ∧ wholeK k = true ∧ k ≠ 0 := by
  have h1 := hp.ok.resolve_left hq
  have h2 := hp.key
  unfold ptK at h2
  rw [if_neg hq] at h2
  have h3 := h.whole _ h1
  rw [h2] at h3
  exact ⟨h1, h2, h3, fun e => by rw [e] at h3; simp [wholeK] at h3⟩
/-- So much of a node's path is gone up. -/
def UpB (L : List Cel) (K : Nat → Int) (i d q : Nat) (x y z : Int) : Prop :=
  (d = 0 ∧ q = i + 1 ∧ x = 0 ∧ y = 0 ∧ z = 0) ∨ (d = 1 ∧ PtOk L K q (parK (K i)) ∧ x = lastN (K i) ∧ y = 0 ∧ z = 0) ∨
  (d = 2 ∧ parK (K i) ≠ 0 ∧ PtOk L K q (parK (parK (K i))) ∧ x = lastN (parK (K i)) ∧ y = lastN (K i) ∧ z = 0) ∨
  (d = 3 ∧ parK (parK (K i)) ≠ 0 ∧ q = 0 ∧ x = lastN (parK (parK (K i))) ∧ y = lastN (parK (K i)) ∧ z = lastN (K i))
theorem UpB.step {L : List Cel} {K : Nat → Int} {M : List Rw} (h : BrTr L K M) {i d q : Nat} {x y z : Int} (hi : (cl L i).a ≠ 0) (hu : UpB L K i d q x y z) (hq : q ≠ 0) :
    d ≤ 2 ∧ (cl L (q - 1)).a ≠ 0 ∧ ∃ q' : Nat, (cl L (q - 1)).a = (q' : Int) + 1 ∧ UpB L K i (d + 1) q' (cl L (q - 1)).b x y := by
  rcases hu with ⟨rfl, rfl, rfl, rfl, rfl⟩ | ⟨rfl, h1, rfl, rfl, rfl⟩ | ⟨rfl, h0, h1, rfl, rfl, rfl⟩ | ⟨_, _, h1, _⟩
  · obtain ⟨q', g1, g2⟩ := h.up hi
    exact ⟨by omega, hi, q', g1, .inr (.inl ⟨rfl, g2, h.last i hi, rfl, rfl⟩)⟩
  · obtain ⟨n1, n2, n3, n4⟩ := h1.node h hq
    obtain ⟨q', g1, g2⟩ := h.up n1
    rw [n2] at g2
    have hb := h.last _ n1
    rw [n2] at hb
    exact ⟨by omega, n1, q', g1, .inr (.inr (.inl ⟨rfl, n4, g2, hb, rfl, rfl⟩))⟩
  · obtain ⟨n1, n2, n3, n4⟩ := h1.node h hq
    obtain ⟨q', g1, g2⟩ := h.up n1
    rw [n2, par_par (h.whole i hi)] at g2
    have hb := h.last _ n1
    rw [n2] at hb
    refine ⟨by omega, n1, q', g1, .inr (.inr (.inr ⟨rfl, n4, ?_, hb, rfl, rfl⟩))⟩
    by_cases e : q' = 0
    · exact e
    · exact absurd rfl (g2.node h e).2.2.2
  · exact absurd h1 hq
theorem UpB.last {L : List Cel} {K : Nat → Int} {M : List Rw} (h : BrTr L K M) {i d : Nat} {x y z : Int} (hi : (cl L i).a ≠ 0) (hu : UpB L K i d 0 x y z) : x * 4294967296 + y * 65536 + z = K i ∧ (0 ≤ x ∧ x ≤ 4294967295) ∧ (0 ≤ y ∧ y ≤ 65535) ∧ (0 ≤ z ∧ z ≤ 65535) := by
  have hw := h.whole i hi
  have hw2 := (whole_iff _).1 hw
  rcases hu with ⟨_, h1, _⟩ | ⟨_, h1, rfl, rfl, rfl⟩ | ⟨_, h0, h1, rfl, rfl, rfl⟩ | ⟨_, h0, _, rfl, rfl, rfl⟩
  · omega
  · have hp : parK (K i) = 0 := h1.key.symm
    unfold parK at hp
    unfold lastN
    by_cases a1 : K i % 65536 = 0 <;> by_cases a2 : K i / 65536 % 65536 = 0 <;> simp only [a1, a2, if_true, if_false] at hp ⊢ <;> omega
  · have hp : parK (parK (K i)) = 0 := h1.key.symm
    have hwp := (whole_iff _).1 (par_whole hw h0)
    unfold lastN
    unfold parK at hp h0 hwp ⊢
    by_cases a1 : K i % 65536 = 0 <;> by_cases a2 : K i / 65536 % 65536 = 0 <;> simp only [a1, a2, if_true, if_false] at hp h0 hwp ⊢ <;> (repeat' split at hp) <;> (repeat' split) <;> omega
  · have hp := par_par hw
    have h0' : parK (K i) ≠ 0 := fun e => h0 (by rw [e]; rfl)
    have hwp := (whole_iff _).1 (par_whole hw h0')
    unfold lastN
    unfold parK at h0 h0' hwp ⊢
    by_cases a1 : K i % 65536 = 0 <;> by_cases a2 : K i / 65536 % 65536 = 0 <;> simp only [a1, a2, if_true, if_false] at h0 h0' hwp ⊢ <;> (repeat' split at h0) <;> (repeat' split) <;> omega
theorem key_up (x y z : Int) (hx : 0 ≤ x ∧ x ≤ 4294967295) (hy : 0 ≤ y ∧ y ≤ 65535) (hz : 0 ≤ z ∧ z ≤ 65535) (k : Int) (hk : x * 4294967296 + y * 65536 + z = k) (w : World) : Calls Tryd.prog 44 #[.agg #[.int .u64 x, .int .u64 y, .int .u64 z]] w fun e w' => e = .returned (.int .u64 k) ∧ Ext w w' := by
  subst hk
  have e1 : IntKind.u64.wrap (x * 4294967296) = x * 4294967296 := by rw [IntKind.wrap_u64]; omega
  have e2 : IntKind.u64.wrap (y * 65536) = y * 65536 := by rw [IntKind.wrap_u64]; omega
  have e3 : IntKind.u64.wrap (x * 4294967296 + y * 65536) = x * 4294967296 + y * 65536 := by rw [IntKind.wrap_u64]; omega
  have e4 : IntKind.u64.wrap (x * 4294967296 + y * 65536 + z) = x * 4294967296 + y * 65536 + z := by rw [IntKind.wrap_u64]; omega
  go_enter Tryd.func44, Tryd.ntmps44
  go_wp2
  go_ret
  exact ⟨rfl, EX⟩
theorem rows_any (v : Value) (L : List Cel) (K : Nat → Int) (M : List Rw) (ht : BrTr L K M) (w : World) (hv : Sl w v L.length (celCells L)) (hlen : L.length ≤ 1000) : Calls Tryd.prog 20 #[v] w
    fun e w' => ∃ r, e = .returned (.tuple #[r, .bool true]) ∧ Hid (Rws w' r M) ∧ Ext w w' := by
  obtain ⟨ad, cap, rfl, hs⟩ := hv
  have HS := Lib.hid hs
  have HTR := Lib.hid ht
  clear hs ht
  go_enter Tryd.func20, Tryd.ntmps20
  go_wp2
  go_loopw [4, 5, 6, 7, 8, 9] (fun t4 t5 _ _ _ _ wr => ∃ i : Nat, i ≤ L.length ∧ t5 = .int .i64 i ∧ Hid (Rws wr t4 (rowsK L K i)) ∧ Hid (Ext w wr)) (fun _ t5 _ _ _ _ _ => L.length - (intOf t5).toNat)
  case atStart => exact ⟨0, Nat.zero_le _, rfl, Lib.hid (Rws.nil _), Lib.hid (Ext.refl _)⟩
  case round =>
    obtain ⟨i, hi, rfl, HR0, HE⟩ := hrel
    by_cases hlt : i < L.length
    · have hlt' : (i : Int) < (L.length : Int) := by omega
      obtain ⟨b, o', rfl, c0, c1, c2, c3⟩ := HS.out.cel (i := (i : Int)) (by omega) hlt'
      rw [Int.toNat_natCast] at c0 c1 c2 c3
      have d1 : wr.cell? _ = some (.int .u64 (cl L i).a) := ext_cell HE.out c1
      have d3 : wr.cell? _ = some (.int .u64 (cl L i).c) := ext_cell HE.out c3
      have hb := World.block_lt_of_cell? _ _ d1
      dsimp only at hb
      have hb1 : ∀ n1 : Nat, b < wr.heap.size + n1 := by intros; omega
      have hb2 : ∀ n1 n2 : Nat, b < wr.heap.size + n1 + n2 := by intros; omega
      have hb3 : ∀ n1 n2 n3 : Nat, b < wr.heap.size + n1 + n2 + n3 := by intros; omega
      have hb4 : ∀ n1 n2 n3 n4 : Nat, b < wr.heap.size + n1 + n2 + n3 + n4 := by intros; omega
      obtain ⟨S, hS⟩ : ∃ S, rowsK L K i = S := ⟨_, rfl⟩
      have HR : Hid (Rws wr u4 S) := Lib.hid (by rw [← hS]; exact HR0.out)
      have hSl : S.length ≤ 10000 := by
        rw [← hS]
        have := rowsK_len HTR.out.inj i hi
        omega
      have HSS := Lib.hid hS
      obtain ⟨A, hA⟩ : ∃ A, (cl L i).a = A := ⟨_, rfl⟩
      obtain ⟨V, hV⟩ : ∃ V, (cl L i).c = V := ⟨_, rfl⟩
      rw [hA] at d1
      rw [hV] at d3
      have HA := Lib.hid hA
      have HV := Lib.hid hV
      have i0 : (0 : Int) ≤ (i : Int) := by omega
      have w1 : IntKind.i64.wrap ((i : Int) + 1) = (i : Int) + 1 := by rw [IntKind.wrap_i64]; omega
      clear c0 c1 c2 c3 hS HR0 hV
      cases ha : (A == 0)
      · have hu : (cl L i).a ≠ 0 := by rw [hA]; simpa using ha
        have HU := Lib.hid hu
        obtain ⟨Q, hQ⟩ : ∃ Q, K i = Q := ⟨_, rfl⟩
        have HQ := Lib.hid hQ
        obtain ⟨D, hD⟩ : ∃ D, findK S Q = D := ⟨_, rfl⟩
        have hD0 : ¬ 0 ≤ D := by
          rw [← hD, ← hQ, ← HSS.out, look_findK (look_rowsK_none HTR.out.inj hu)]
          omega
        have hD1 : decide (0 ≤ D) = false := decide_eq_false hD0
        have HD := Lib.hid hD
        clear hu hQ hD hA
        go_wp2
        go_loopw [7, 8] (fun t7 t8 wi => ∃ (d q : Nat) (x y z : Int), t7 = .int .i64 d ∧ t8 = .int .i64 q ∧ q ≤ L.length ∧ d ≤ 3 ∧ Hid (UpB L K i d q x y z) ∧ Hid (Ext (wr.alloc (.cells #[.int .u64 x, .int .u64 y, .int .u64 z] 101)) wi)) (fun t7 _ _ => 4 - (intOf t7).toNat)
        case atStart =>
          exact ⟨0, i + 1, 0, 0, 0, rfl, by go_num, by omega, by omega, Lib.hid (.inl ⟨rfl, rfl, rfl, rfl, rfl⟩), Lib.hid (Ext.refl _)⟩
        case round =>
          obtain ⟨d, q, x, y, z, rfl, rfl, hq, hd3, HUP, HX⟩ := hrel
          obtain ⟨os, dd, rfl⟩ := HX.out
          clear HX
          by_cases hq0 : q = 0
          · subst hq0
            obtain ⟨k1, k2⟩ := UpB.last HTR.out HU.out HUP.out
            rw [HQ.out] at k1
            have HKQ := Lib.hid k1
            have HB := Lib.hid k2
            clear k1 k2
            go_wp2_with (first | (go_at_call 44; (with_reducible refine (key_up x y z HB.out.1 HB.out.2.1 HB.out.2.2 Q HKQ.out _).mono ?_); rintro e w1 ⟨rfl, os1, n1, rfl⟩) | (go_at_call 45; (with_reducible refine (find_any _ S Q _ (HR.out.sl.ext EXX)).mono ?_); rintro e w1 ⟨rfl, os2, n2, rfl⟩; rw [HD.out]) | (go_at_call 46; (with_reducible refine (with_any _ S hSl Q V _ (HR.out.ext EXX)).mono ?_); rintro e w2 ⟨r, rfl, HO, os3, n3, rfl⟩; have hs := own_rws HO; (try simp only [grew_grew] at hs); clear HO; have HW := Lib.hid hs; clear hs))
            go_roundw
            case rel =>
              refine ⟨i + 1, by omega, by go_num, Lib.hid ?_, Lib.hid (Ext.trans HE.out EXX)⟩
              have e : rowsK L K (i + 1) = withF Q V false S := by
                have hr : Rises S := by rw [← HSS.out]; exact rises_rowsK _ _ _
                show (if (cl L i).a = 0 then rowsK L K i else withK (K i) (cl L i).c (rowsK L K i)) = _
                rw [if_neg HU.out, HQ.out, HV.out, HSS.out, withF_eq Q V hr]
              rw [e]
              exact HW.out.ext EXX
            case measure => simp [intOf]; omega
          · obtain ⟨g1, g2, q', g3, g4⟩ := UpB.step HTR.out HU.out HUP.out hq0
            have hjl := cl_lt g2
            obtain ⟨b', o2, e2, c0, c1, c2, c3⟩ := HS.out.cel (i := ((q - 1 : Nat) : Int)) (by omega) (by omega)
            cases e2
            rw [Int.toNat_natCast] at c0 c1 c2 c3
            have x1 : wr.cell? _ = some (.int .u64 (cl L (q - 1)).a) := ext_cell HE.out c1
            have x2 : wr.cell? _ = some (.int .u64 (cl L (q - 1)).b) := ext_cell HE.out c2
            rw [g3] at x1
            obtain ⟨B, hB⟩ : ∃ B, (cl L (q - 1)).b = B := ⟨_, rfl⟩
            rw [hB] at x2 g4
            have hq'l : q' ≤ L.length := by
              have h1 := g4
              rcases h1 with ⟨h1, _⟩ | ⟨_, h1, _⟩ | ⟨_, _, h1, _⟩ | ⟨_, _, h1, _⟩
              · omega
              · rcases h1.ok with h | h
                · omega
                · have := cl_lt h; omega
              · rcases h1.ok with h | h
                · omega
                · have := cl_lt h; omega
              · omega
            have HG4 := Lib.hid g4
            obtain ⟨j, hj⟩ : ∃ j : Nat, q - 1 = j := ⟨_, rfl⟩
            rw [hj] at x1 x2 hjl
            have w2 : IntKind.i64.wrap ((q : Int) - 1) = (j : Int) := by rw [IntKind.wrap_i64]; omega
            have w3 : IntKind.i64.wrap ((d : Int) + 1) = (d : Int) + 1 := by rw [IntKind.wrap_i64]; omega
            have w4 : IntKind.i64.wrap ((q' : Int) + 1) = (q' : Int) + 1 := by rw [IntKind.wrap_i64]; omega
            have w5 : IntKind.i64.wrap (q' : Int) = (q' : Int) := by rw [IntKind.wrap_i64]; omega
            have n1 : ((q : Int) != 0) = true := by simp; omega
            have n2 : ((d : Int) == 3) = false := by simp; omega
            have n3 : ¬ (q : Int) < 0 := by omega
            have n4 : ¬ (L.length : Int) < (q : Int) := by omega
            have n5 : (((q' : Int) + 1) == 0) = false := by simp; omega
            have j0 : (0 : Int) ≤ (j : Int) := by omega
            have j1 : (j : Int) < (L.length : Int) := by omega
            clear c0 c1 c2 c3 g2 g3 g4 hB HUP hq0
            go_upto_region 12 with fail
            go_region
            go_wp2
            go_roundw
            case rel => exact ⟨d + 1, q', B, x, y, by go_num, by go_num, hq'l, by omega, HG4, Lib.hid EXX⟩
            case measure => simp [intOf]; omega
      · have ha0 : A = 0 := by simpa using ha
        subst ha0
        clear hA
        go_wp2
        go_roundw
        case rel =>
          refine ⟨i + 1, by omega, by go_num, Lib.hid ?_, Lib.hid (Ext.trans HE.out EXX)⟩
          have e : rowsK L K (i + 1) = S := by
            show (if (cl L i).a = 0 then rowsK L K i else withK (K i) (cl L i).c (rowsK L K i)) = _
            rw [if_pos HA.out, HSS.out]
          rw [e]
          exact HR.out.ext EXX
        case measure => simp [intOf]; omega
    · obtain rfl : i = L.length := by omega
      have HR : Hid (Rws wr u4 M) := Lib.hid (by
        have := HR0.out
        rw [HTR.out.eq] at this
        exact this)
      clear HR0
      go_wp2
      refine bodyPost_ret (v := .tuple #[u4, .bool true]) (by simp [results, Tryd.results20, go_sem]) rfl ⟨_, rfl, Lib.hid (HR.out.ext EXX), Ext.trans HE.out EXX⟩
end Go.Proofs.YtmbodooikfmegaaDoor
