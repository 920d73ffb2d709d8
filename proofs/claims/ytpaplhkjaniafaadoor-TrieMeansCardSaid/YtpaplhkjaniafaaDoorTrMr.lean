/- The walk of 'rows', layer 'trie': the rows of an instance's cells. -/
import Derived.Test.YtpaplhkjaniafaaDoorTp
import Derived.Test.YtpaplhkjaniafaaDoorRef6b
import Derived.Deep.LoopGhost
namespace Go.Proofs.YtpaplhkjaniafaaDoor
open Go Go.RowKit
set_option maxRecDepth 100000
set_option maxHeartbeats 8000000

theorem rowsT_app (A : List Cel) (x : Cel) : ∀ i : Nat, rowsT (A ++ [x]) i = rowsT A i ++ (if x.a == 0 then [] else [⟨((i + A.length : Nat) : Int), x.a - 1⟩]) := by
  induction A with
  | nil =>
    intro i
    simp only [List.nil_append, rowsT, List.length_nil, Nat.add_zero]
  | cons y A ih =>
    intro i
    simp only [List.cons_append, rowsT]
    rw [ih (i + 1), show i + 1 + A.length = i + (y :: A).length by simp; omega]
    split
    · rfl
    · rfl
theorem rows_step {L : List Cel} {k : Nat} (h1 : 1 ≤ k) (h2 : k < L.length) : rowsT ((L.take (k + 1)).drop 1) 1 = rowsT ((L.take k).drop 1) 1 ++ (if (L.getD k zcl).a == 0 then [] else [⟨(k : Int), (L.getD k zcl).a - 1⟩]) := by
  have e1 : L.getD k zcl = L[k] := by simp [h2]
  have e2 : (L.take (k + 1)).drop 1 = (L.take k).drop 1 ++ [L[k]] := by
    rw [List.take_add_one, List.getElem?_eq_getElem h2, List.drop_append_of_le_length (by rw [List.length_take]; omega)]
    rfl
  have e3 : 1 + ((L.take k).drop 1).length = k := by
    rw [List.length_drop, List.length_take]
    omega
  rw [e2, rowsT_app, e3, e1]
theorem rows_any (v : Value) (L : List Cel) (hok : ∀ x ∈ L, 0 ≤ x.a ∧ x.a ≤ 2147483648) (w : World) (hs : Sl w v L.length (celCells L)) (hn : 1 ≤ L.length ∧ L.length ≤ 1000) : Calls Tryd.prog 22 #[v] w
    fun e w' => ∃ r, e = .returned r ∧ Hid (Rws w' r (rowsN L)) ∧ Ext w w' := by
  obtain ⟨ad, cap, rfl, hs⟩ := hs
  have HS := Lib.hid hs
  have HOK := Lib.hid hok
  clear hs hok
  obtain ⟨ti, HI1, HI2, HI3, HI4⟩ := info_parts info_row; have HI := Lib.hid (And.intro HI1 (And.intro HI2 (And.intro HI3 HI4))); clear HI1 HI2 HI3 HI4
  go_enter Tryd.func22, Tryd.ntmps22
  go_wp2
  go_loopw [3, 4] (fun u i wr => ∃ (k : Nat) (M : List Rw), 1 ≤ k ∧ k ≤ L.length ∧ i = .int .i64 k ∧ M.length ≤ k ∧ Hid (Ext w wr) ∧ Hid (rowsT ((L.take k).drop 1) 1 = M) ∧ Hid (wr.ownsRow w.heap.size 84 2 u M.length (rwCells M))) (fun _ i _ => L.length - (intOf i).toNat)
  case atStart => exact ⟨1, [], Nat.le_refl _, hn.1, rfl, Nat.zero_le _, Lib.hid (Ext.refl _), Lib.hid (by rw [List.drop_eq_nil_of_le (by rw [List.length_take]; omega)]; rfl), Lib.hid (own_nil _ _ _ _)⟩
  case round =>
    obtain ⟨k, M, hk1, hk, rfl, hM, HE, HT, HO⟩ := hrel
    have hw := HE.out.size
    by_cases hlt : k < L.length
    · obtain ⟨b, o, rfl, c0, c1, c2, c3⟩ := HS.out.cel (i := (k : Int)) (by omega) (by omega)
      rw [Int.toNat_natCast] at c0 c1 c2 c3
      have HD := Lib.hid (rows_step hk1 hlt)
      have hmem := HOK.out L[k] (List.getElem_mem hlt)
      have e1 : L.getD k zcl = L[k] := by simp [hlt]
      rw [← e1] at hmem
      obtain ⟨x, hx⟩ : ∃ x, L.getD k zcl = x := ⟨_, rfl⟩
      rw [hx] at c0 c1 c2 c3 hmem HD
      have d1 := ext_cell HE.out c1
      have hb := World.block_lt_of_cell? _ _ d1
      dsimp only at hb
      have hb1 : ∀ n1 : Nat, b < wr.heap.size + n1 := by intros; omega
      have i0 : (0 : Int) ≤ (k : Int) := by omega
      have i1 : (k : Int) < (L.length : Int) := by omega
      clear c0 c1 c2 c3 hx e1
      cases h1 : (x.a == 0)
      · have h1' : (x.a != 0) = true := by simpa [bne] using h1
        have ha0 : ¬ x.a = 0 := by simpa using h1
        obtain ⟨V, hV⟩ : ∃ V, x.a - 1 = V := ⟨_, rfl⟩
        have w1 : IntKind.u64.wrap (x.a - 1) = V := by rw [IntKind.wrap_u64]; omega
        have w2 : IntKind.u64.wrap (k : Int) = (k : Int) := by rw [IntKind.wrap_u64]; omega
        have HT2 : Hid (rowsT ((L.take (k + 1)).drop 1) 1 = M ++ [⟨(k : Int), V⟩]) := Lib.hid (by
          rw [HD.out, HT.out, if_neg (by simpa using ha0), hV])
        clear HT HD hV ha0 hmem
        go_wp2_with (at_builtin; (refine wpList_append_own_at _ rfl _ _ 57 rfl w.heap.size 84 ti _ 2 16 Tryd.underlying57 HI.out.1 HI.out.2.1 HI.out.2.2.1 HI.out.2.2.2 rfl (by decide) u3 M.length (rwCells M) (by rfl) (by exact own_ext HO.out EXX) _ 1 1 (rwCells [⟨(k : Int), V⟩]) (by rfl) (by rfl) (by exact rows_one ⟨by simp [go_sem], by simp [go_sem]⟩) (rwCells_one _) (by unfold maxLen; omega) (by omega) (by simp [go_sem]; omega) ?_); intro v2 w2 hown2 hgrow2 _ hat2; have HO2 := Lib.hid hown2; have HG2 := Lib.hid hgrow2; clear hown2 hgrow2 hat2)
        go_wp2
        go_roundw
        case rel => exact ⟨k + 1, M ++ [⟨(k : Int), V⟩], by omega, by omega, by go_num, by simp; omega, Lib.hid (ext_grown (HE.out.trans EX) HG2.out (fun j hj => (own_block HO.out hj).1)), HT2, Lib.hid (by rw [rwCells_app]; simpa using HO2.out)⟩
        case measure => simp [intOf]; omega
      · have h1' : (x.a != 0) = false := by simpa [bne] using h1
        have ha0 : x.a = 0 := by simpa using h1
        have HT2 : Hid (rowsT ((L.take (k + 1)).drop 1) 1 = M) := Lib.hid (by
          rw [HD.out, HT.out, if_pos (by simpa using ha0), List.append_nil])
        clear HT HD ha0 hmem
        go_wp2
        go_roundw
        case rel => exact ⟨k + 1, M, by omega, by omega, by go_num, by omega, Lib.hid (HE.out.trans EX), HT2, Lib.hid (own_ext HO.out EX)⟩
        case measure => simp [intOf]; omega
    · obtain rfl : k = L.length := by omega
      have HR2 : Hid (rowsN L = M) := Lib.hid (by
        have := HT.out
        rw [List.take_length] at this
        exact this)
      go_wp2
      go_ret
      exact ⟨_, rfl, Lib.hid (by rw [HR2.out]; exact own_rws HO.out), HE.out⟩
end Go.Proofs.YtpaplhkjaniafaaDoor
