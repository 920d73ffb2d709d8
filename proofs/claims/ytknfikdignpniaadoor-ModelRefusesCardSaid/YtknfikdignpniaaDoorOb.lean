/- The walks of the document's answer for an index in order (layer 7): 'Is', 'reads'. -/
import Derived.Test.YtknfikdignpniaaDoorRef6b
import Derived.Test.YtknfikdignpniaaDoorOa
import Derived.Test.YtknfikdignpniaaDoorOwnP
import Derived.Test.YtknfikdignpniaaDoorLawP
import Derived.Test.YtknfikdignpniaaDoorCheck
import Derived.Deep.QuietTactic
import Derived.BigQuiet
import Derived.Deep.RegionHeld3
import Derived.Outline
namespace Go.Proofs.YtknfikdignpniaaDoor.order
open Go Go.RowKit
set_option maxRecDepth 100000
set_option maxHeartbeats 8000000

end Go.Proofs.YtknfikdignpniaaDoor.order
/- The walks of the document's answer for an index in order (layer 7): 'reads'. -/
namespace Go.Proofs.YtknfikdignpniaaDoor.order
open Go Go.RowKit
set_option maxRecDepth 100000
set_option maxHeartbeats 8000000

/-- What a reading answers. -/
def ReadP (w : World) (Z : Outc) (e : Ending) (w' : World) : Prop := ∃ rs, e = .returned (.agg #[.int .i64 Z.code, .int .u32 Z.word, rs]) ∧ w'.ownsRow w.heap.size 44 2 rs Z.res.length (rwCells Z.res) ∧ Ext w w'
theorem read_p {w w' : World} {Z : Outc} {rs : Value} {rows res : List Rw} {code word err : Int} (hZ : Z = ⟨rows, code, word, res, err⟩) (h1 : w'.ownsRow w.heap.size 44 2 rs res.length (rwCells res)) (h2 : Ext w w') : ReadP w Z (.returned (.agg #[.int .i64 code, .int .u32 word, rs])) w' := by
  subst hZ
  exact ⟨rs, rfl, h1, h2⟩
end Go.Proofs.YtknfikdignpniaaDoor.order
/- The walk of 'reads' of an index in order. -/
namespace Go.Proofs.YtknfikdignpniaaDoor.order
open Go Go.RowKit
set_option maxRecDepth 100000
set_option maxHeartbeats 8000000

theorem sl_mk {w : World} {ad : Option Addr} {n cap : Nat} {cs : List Value} (h : SlAt w ad n cap cs) : Sl w (.slice ad n cap) n cs := ⟨ad, cap, rfl, h⟩
/-- What stands at the place of the first key that is not less. -/
theorem at_hit {L : List Rw} (hr : Rises L) {q : Int} {i : Nat} (hlo : ∀ j, j < i → (L.getD j zrw).k < q) (_hhi : i < L.length → q ≤ (L.getD i zrw).k) {R : Bool} (hR : (decide (i < L.length) && ((L.getD i zrw).k == q)) = R) :
    (R = true ∧ i < L.length ∧ (L.getD i zrw).k = q ∧ look L q = some (L.getD i zrw).v) ∨ (R = false ∧ ¬ (i < L.length ∧ (L.getD i zrw).k = q) ∧ look L q = none) := by
  cases hc : (decide (i < L.length) && ((L.getD i zrw).k == q))
  · right
    refine ⟨by rw [← hR, hc], ?_, look_miss fun j hj e => ?_⟩
    · rintro ⟨h1, h2⟩
      rw [h2] at hc
      simp [h1] at hc
    · by_cases h1 : j < i
      · have := hlo j h1; omega
      · by_cases h2 : j = i
        · subst h2
          rw [e] at hc
          simp [hj] at hc
        · have h3 := _hhi (by omega)
          have h4 := rises_at hr (i := i) (j := j) (by omega) hj
          omega
  · left
    have hc' := hc
    simp only [Bool.and_eq_true, decide_eq_true_eq, beq_iff_eq] at hc
    refine ⟨by rw [← hR, hc'], hc.1, hc.2, ?_⟩
    have := look_of_mem hr (List.getElem_mem hc.1)
    rw [← getD_rw L i hc.1, hc.2] at this
    exact this
theorem reads_get (v : Value) (L : List Rw) (hr : Rises L) (o : Opn) (ho : o.Fits) (hL : ∀ x ∈ L, RowOk x) (w : World) (hv : Rws w v L) (h6 : o.kind = 6) : Calls Tryd.prog 60 #[v, o.v] w (ReadP w (ordRead L o)) := by
  have g6 : (o.kind == 6) = true := by simpa using h6
  obtain ⟨Z, hZ⟩ : ∃ Z, Z = ordRead L o := ⟨_, rfl⟩; rw [← hZ]; unfold ordRead at hZ; obtain ⟨i, hi, hlo, hhi⟩ := at_any o.a hr; have HI0 := Lib.hid hi; have HLO := Lib.hid hlo; have HHI : Hid (i < L.length → o.a ≤ (L.getD i zrw).k) := Lib.hid (fun h => hhi i (Nat.le_refl _) h); obtain ⟨R, hR⟩ : ∃ R, (decide (i < L.length) && ((L.getD i zrw).k == o.a)) = R := ⟨_, rfl⟩; have HRR := Lib.hid hR; have hat := at_hit hr hlo HHI.out hR; have hoa := ho.a; have hob := ho.b; have HOA := Lib.hid hoa; obtain ⟨ad, cap, rfl, hs, _⟩ := hv; have hm := hs.len; have HS := Lib.hid hs
  rw [g6, if_pos rfl] at hZ
  rcases hat with ⟨rfl, h1, h2, h3⟩ | ⟨rfl, h1, h3⟩
  · obtain ⟨b, f, rfl, _, r1, r2⟩ := hs.rw h1
    have hxo := hL (L.getD i zrw) (by rw [getD_rw L i h1]; exact List.getElem_mem h1)
    obtain ⟨x, hx⟩ : ∃ x, L.getD i zrw = x := ⟨_, rfl⟩
    rw [hx] at r1 r2 hxo h3
    have HZ : Hid (Z = ⟨L, 0, x.v + 1, [], 0⟩) := Lib.hid (by rw [hZ, h3])
    have hx2 := hxo.2
    have i0 : (0 : Int) ≤ (i : Int) := by omega
    have i1 : (i : Int) < (L.length : Int) := by omega
    have e1 : IntKind.u32.wrap x.v = x.v := by rw [IntKind.wrap_u32]; omega
    have hbl := World.block_lt_of_cell? _ _ r1
    dsimp only at hbl
    have hbl1 : b < w.heap.size + 1 := by omega
    have hbl2 : b < w.heap.size + 1 + 1 := by omega
    clear hs hhi hlo hi hR hZ h3 hx hxo h2 hr
    go_enter Tryd.func60, Tryd.ntmps60
    go_wp2_with (first | (go_at_call 61; (with_reducible refine (first_any _ L o.a HOA.out _ (sl_mk (HS.out.ext EXY)) i HI0.out HLO.out HHI.out).mono ?_); rintro e w1 ⟨rfl, os1, n1, rfl⟩) | (go_at_call 62; (with_reducible refine (has_any _ L o.a HOA.out _ (sl_mk (HS.out.ext EXY)) i HI0.out _ HRR.out).mono ?_); rintro e w2 ⟨rfl, os2, n2, rfl⟩))
    refine bodyPost_ret (v := .agg #[.int .i64 0, .int .u32 (x.v + 1), .slice none 0 0]) (by simp [results, Tryd.results60, go_sem]) rfl ?_
    exact read_p HZ.out (World.ownsRow_nil _ _ _ _) EXY
  · have HZ : Hid (Z = ⟨L, 6, 0, [], 0⟩) := Lib.hid (by rw [hZ, h3])
    clear hs hhi hlo hi hR hZ h3 h1 hr
    go_enter Tryd.func60, Tryd.ntmps60
    go_wp2_with (first | (go_at_call 61; (with_reducible refine (first_any _ L o.a HOA.out _ (sl_mk (HS.out.ext EXY)) i HI0.out HLO.out HHI.out).mono ?_); rintro e w1 ⟨rfl, os1, n1, rfl⟩) | (go_at_call 62; (with_reducible refine (has_any _ L o.a HOA.out _ (sl_mk (HS.out.ext EXY)) i HI0.out _ HRR.out).mono ?_); rintro e w2 ⟨rfl, os2, n2, rfl⟩))
    refine bodyPost_ret (v := .agg #[.int .i64 6, .int .u32 0, .slice none 0 0]) (by simp [results, Tryd.results60, go_sem]) rfl ?_
    exact read_p HZ.out (World.ownsRow_nil _ _ _ _) EXY
theorem reads_floor (v : Value) (L : List Rw) (hr : Rises L) (o : Opn) (ho : o.Fits) (w : World) (hv : Rws w v L) (h7 : o.kind = 7) : Calls Tryd.prog 60 #[v, o.v] w (ReadP w (ordRead L o)) := by
  have g6 : (o.kind == 6) = false := by simp; omega
  have g7 : (o.kind == 7) = true := by simpa using h7
  have g8 : (o.kind == 8) = false := by simp; omega
  obtain ⟨Z, hZ⟩ : ∃ Z, Z = ordRead L o := ⟨_, rfl⟩; rw [← hZ]; unfold ordRead at hZ; obtain ⟨i, hi, hlo, hhi⟩ := at_any o.a hr; have HI0 := Lib.hid hi; have HLO := Lib.hid hlo; have HHI : Hid (i < L.length → o.a ≤ (L.getD i zrw).k) := Lib.hid (fun h => hhi i (Nat.le_refl _) h); obtain ⟨R, hR⟩ : ∃ R, (decide (i < L.length) && ((L.getD i zrw).k == o.a)) = R := ⟨_, rfl⟩; have HRR := Lib.hid hR; have hat := at_hit hr hlo HHI.out hR; have hoa := ho.a; have hob := ho.b; have HOA := Lib.hid hoa; obtain ⟨ad, cap, rfl, hs, _⟩ := hv; have hm := hs.len; have HS := Lib.hid hs
  rw [g6, g8, if_neg (by simp), if_neg (by simp)] at hZ
  -- the place behind the last key that is not greater
  obtain ⟨n, hn⟩ : ∃ n : Nat, n = if R then i + 1 else i := ⟨_, rfl⟩
  have hnl : n ≤ L.length := by
    rcases hat with ⟨rfl, h1, _⟩ | ⟨rfl, _⟩
    · rw [if_pos rfl] at hn; omega
    · rw [if_neg (by simp)] at hn; omega
  have hfl : ordFloor L o.a = if n = 0 then [] else [L.getD (n - 1) zrw] := by
    refine ordFloor_at o.a hnl (fun j hj => ?_) (fun j hj hjl => ?_)
    · rcases hat with ⟨rfl, h1, h2, _⟩ | ⟨rfl, _⟩
      · rw [if_pos rfl] at hn
        by_cases e : j = i
        · subst e; omega
        · have := hlo j (by omega); omega
      · rw [if_neg (by simp)] at hn
        have := hlo j (by omega); omega
    · rcases hat with ⟨rfl, h1, h2, _⟩ | ⟨rfl, h1, _⟩
      · rw [if_pos rfl] at hn
        have := rises_at hr (i := i) (j := j) (by omega) hjl; omega
      · rw [if_neg (by simp)] at hn
        by_cases e : j = i
        · subst e
          have a := hhi j (Nat.le_refl _) hjl
          have b : ¬ (L.getD j zrw).k = o.a := fun e => h1 ⟨hjl, e⟩
          omega
        · have a := hhi i (Nat.le_refl _) (by omega)
          have b := rises_at hr (i := i) (j := j) (by omega) hjl
          omega
  by_cases h0 : n = 0
  · rw [if_pos h0] at hfl
    have HZ : Hid (Z = ⟨L, 6, 0, [], 0⟩) := Lib.hid (by rw [hZ, hfl]; rfl)
    rcases hat with ⟨rfl, _⟩ | ⟨rfl, _⟩
    · rw [if_pos rfl] at hn; omega
    · rw [if_neg (by simp)] at hn
      have i2 : ¬ (0 : Int) < (i : Int) := by omega
      clear hs hhi hlo hi hR hZ hr hfl hn hnl h0
      go_enter Tryd.func60, Tryd.ntmps60
      go_wp2_with (first | (go_at_call 61; (with_reducible refine (first_any _ L o.a HOA.out _ (sl_mk (HS.out.ext EXY)) i HI0.out HLO.out HHI.out).mono ?_); rintro e w1 ⟨rfl, os1, n1, rfl⟩) | (go_at_call 62; (with_reducible refine (has_any _ L o.a HOA.out _ (sl_mk (HS.out.ext EXY)) i HI0.out _ HRR.out).mono ?_); rintro e w2 ⟨rfl, os2, n2, rfl⟩))
      refine bodyPost_ret (v := .agg #[.int .i64 6, .int .u32 0, .slice none 0 0]) (by simp [results, Tryd.results60, go_sem]) rfl ?_
      exact read_p HZ.out (World.ownsRow_nil _ _ _ _) EXY
  · rw [if_neg h0] at hfl
    obtain ⟨m, rfl⟩ : ∃ m, n = m + 1 := ⟨n - 1, by omega⟩
    rw [Nat.add_sub_cancel] at hfl
    obtain ⟨b, f, rfl, _, r1, r2⟩ := hs.rw (i := m) (by omega)
    obtain ⟨x, hx⟩ : ∃ x, L.getD m zrw = x := ⟨_, rfl⟩
    rw [hx] at r1 r2 hfl
    have HZ : Hid (Z = ⟨L, 0, 0, [x], 0⟩) := Lib.hid (by rw [hZ, hfl]; rfl)
    have i0 : (0 : Int) ≤ (m : Int) := by omega
    have i1 : (m : Int) < (L.length : Int) := by omega
    have hbl := World.block_lt_of_cell? _ _ r1
    dsimp only at hbl
    have hbl1 : b < w.heap.size + 1 := by omega
    have hbl2 : b < w.heap.size + 1 + 1 := by omega
    have e2 : IntKind.i64.wrap (((m + 1 : Nat) : Int) - 1) = (m : Int) := by rw [IntKind.wrap_i64]; omega
    rcases hat with ⟨rfl, h1, _⟩ | ⟨rfl, _⟩
    · rw [if_pos rfl] at hn
      obtain rfl : i = m := by omega
      clear hs hhi hlo hi hR hZ hr hfl hn hnl h0 hx h1 e2
      go_enter Tryd.func60, Tryd.ntmps60
      go_wp2_with (first | (go_at_call 61; (with_reducible refine (first_any _ L o.a HOA.out _ (sl_mk (HS.out.ext EXY)) i HI0.out HLO.out HHI.out).mono ?_); rintro e w1 ⟨rfl, os1, n1, rfl⟩) | (go_at_call 62; (with_reducible refine (has_any _ L o.a HOA.out _ (sl_mk (HS.out.ext EXY)) i HI0.out _ HRR.out).mono ?_); rintro e w2 ⟨rfl, os2, n2, rfl⟩))
      refine bodyPost_ret (v := .agg #[.int .i64 0, .int .u32 0, .slice (some ⟨w.heap.size + 1 + 1 + cnt (both os1 os2), 0, none⟩) 1 1]) (by simp [results, Tryd.results60, go_sem]) rfl ?_
      exact read_p HZ.out (own_low (made_one _ _ _ _ x (by simp [go_sem]) (Nat.le_refl _)) (by omega)) EXY
    · rw [if_neg (by simp)] at hn
      have i2 : (0 : Int) < (i : Int) := by omega
      have e3 : IntKind.i64.wrap ((i : Int) - 1) = (m : Int) := by rw [IntKind.wrap_i64]; omega
      clear hs hhi hlo hi hR hZ hr hfl hnl h0 hx hn e2
      go_enter Tryd.func60, Tryd.ntmps60
      go_wp2_with (first | (go_at_call 61; (with_reducible refine (first_any _ L o.a HOA.out _ (sl_mk (HS.out.ext EXY)) i HI0.out HLO.out HHI.out).mono ?_); rintro e w1 ⟨rfl, os1, n1, rfl⟩) | (go_at_call 62; (with_reducible refine (has_any _ L o.a HOA.out _ (sl_mk (HS.out.ext EXY)) i HI0.out _ HRR.out).mono ?_); rintro e w2 ⟨rfl, os2, n2, rfl⟩))
      refine bodyPost_ret (v := .agg #[.int .i64 0, .int .u32 0, .slice (some ⟨w.heap.size + 1 + 1 + cnt (both os1 os2), 0, none⟩) 1 1]) (by simp [results, Tryd.results60, go_sem]) rfl ?_
      exact read_p HZ.out (own_low (made_one _ _ _ _ x (by simp [go_sem]) (Nat.le_refl _)) (by omega)) EXY
theorem reads_scan (v : Value) (L : List Rw) (hl : L.length ≤ 1000) (hr : Rises L) (o : Opn) (ho : o.Fits) (w : World) (hv : Rws w v L) (h8 : o.kind = 8) : Calls Tryd.prog 60 #[v, o.v] w (ReadP w (ordRead L o)) := by
  have g6 : (o.kind == 6) = false := by simp; omega
  have g7 : (o.kind == 7) = false := by simp; omega
  have g8 : (o.kind == 8) = true := by simpa using h8
  obtain ⟨Z, hZ⟩ : ∃ Z, Z = ordRead L o := ⟨_, rfl⟩; rw [← hZ]; unfold ordRead at hZ; obtain ⟨i, hi, hlo, hhi⟩ := at_any o.a hr; have HI0 := Lib.hid hi; have HLO := Lib.hid hlo; have HHI : Hid (i < L.length → o.a ≤ (L.getD i zrw).k) := Lib.hid (fun h => hhi i (Nat.le_refl _) h); obtain ⟨R, hR⟩ : ∃ R, (decide (i < L.length) && ((L.getD i zrw).k == o.a)) = R := ⟨_, rfl⟩; have HRR := Lib.hid hR; have hat := at_hit hr hlo HHI.out hR; have hoa := ho.a; have hob := ho.b; have HOA := Lib.hid hoa; obtain ⟨ad, cap, rfl, hs, _⟩ := hv; have hm := hs.len; have HS := Lib.hid hs
  rw [g6, g8, if_neg (by simp), if_pos rfl] at hZ
  have HZ := Lib.hid hZ
  have HR0 := Lib.hid hr
  have HLL := Lib.hid hl
  have HOB := Lib.hid hob
  clear hs hhi hlo hi hR hZ hr hat
  go_enter Tryd.func60, Tryd.ntmps60
  go_wp2_with (first | (go_at_call 61; (with_reducible refine (first_any _ L o.a HOA.out _ (sl_mk (HS.out.ext EXY)) i HI0.out HLO.out HHI.out).mono ?_); rintro e w1 ⟨rfl, os1, n1, rfl⟩) | (go_at_call 64; (with_reducible refine (between_any ad L.length cap o.a o.b _).mono ?_); rintro e w2 ⟨rfl, t1, t2, t3, rfl⟩) | (go_at_call 63; (with_reducible refine (gathered_any _ _ _ o.a o.b HOA.out HOB.out L HR0.out HLL.out ad cap _ (by simp [go_sem]) (by simp [go_sem]) (by simp [go_sem]) (HS.out.ext EXY)).mono ?_); rintro e w3 ⟨rs, rfl, ho3, os3, n3, rfl⟩; obtain ⟨ad2, cap2, rfl⟩ := own_form ho3; have HOW := Lib.hid ho3; clear ho3))
  refine bodyPost_ret (v := .agg #[.int .i64 0, .int .u32 0, .slice ad2 (ordScan L o.a o.b).length cap2]) (by simp [results, Tryd.results60, go_sem]) rfl ?_
  exact read_p HZ.out (own_low (own_swap (by simp [go_sem]) HOW.out (Nat.le_refl _)) (by first | (simp [go_sem]; done) | (simp [go_sem]; omega))) EXY
theorem reads_none (v : Value) (L : List Rw) (hr : Rises L) (o : Opn) (ho : o.Fits) (w : World) (hv : Rws w v L) (hk : o.kind = 4 ∨ o.kind = 5) : Calls Tryd.prog 60 #[v, o.v] w (ReadP w ⟨L, 6, 0, [], 0⟩) := by
  have g6 : (o.kind == 6) = false := by simp; omega
  have g7 : (o.kind == 7) = false := by simp; omega
  have g8 : (o.kind == 8) = false := by simp; omega
  obtain ⟨i, hi, hlo, hhi⟩ := at_any o.a hr
  have HI0 := Lib.hid hi
  have HLO := Lib.hid hlo
  have HHI : Hid (i < L.length → o.a ≤ (L.getD i zrw).k) := Lib.hid (fun h => hhi i (Nat.le_refl _) h)
  have HOA := Lib.hid ho.a
  obtain ⟨ad, cap, rfl, hs, _⟩ := hv
  have hm := hs.len
  have HS := Lib.hid hs
  clear hs hhi hlo hi hr hk ho
  go_enter Tryd.func60, Tryd.ntmps60
  go_wp2_with (first | (go_at_call 61; (with_reducible refine (first_any _ L o.a HOA.out _ (sl_mk (HS.out.ext EXY)) i HI0.out HLO.out HHI.out).mono ?_); rintro e w1 ⟨rfl, os1, n1, rfl⟩))
  refine bodyPost_ret (v := .agg #[.int .i64 6, .int .u32 0, .slice none 0 0]) (by simp [results, Tryd.results60, go_sem]) rfl ?_
  exact read_p (rows := L) rfl (World.ownsRow_nil _ _ _ _) EXY
theorem reads_any (v : Value) (L : List Rw) (hl : L.length ≤ 1000) (hr : Rises L) (o : Opn) (ho : o.Fits) (hL : ∀ x ∈ L, RowOk x) (w : World) (hv : Rws w v L) (hk : o.kind = 6 ∨ o.kind = 7 ∨ o.kind = 8) : Calls Tryd.prog 60 #[v, o.v] w (ReadP w (ordRead L o)) := by
  rcases hk with hk | hk | hk
  · exact reads_get v L hr o ho hL w hv hk
  · exact reads_floor v L hr o ho w hv hk
  · exact reads_scan v L hl hr o ho w hv hk
end Go.Proofs.YtknfikdignpniaaDoor.order
