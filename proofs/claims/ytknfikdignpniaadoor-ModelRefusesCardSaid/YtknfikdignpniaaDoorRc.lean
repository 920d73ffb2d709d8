/- The walks of the closures of 'rules.speak'. -/
import Derived.Test.YtknfikdignpniaaDoorRb
import Derived.RangeFuncNested
import Derived.RangeFuncBound
import Derived.RangeFuncCalls
import Derived.RangeFuncLeaves
import Derived.RangeFuncFrom
import Derived.Shelf.Abstract
import Derived.Shelf.RegionOpen
import Derived.WalkKit
import Derived.OwnWalkIn
import Derived.TacticsInMore
import Derived.LoopNIn
import Derived.LoopIn
import Derived.Scope
namespace Go.Proofs.YtknfikdignpniaaDoor.rules
open Go Go.RowKit
set_option maxRecDepth 100000
set_option maxHeartbeats 8000000

theorem cl48_any (x : Rw) (a b : Int) (ha : 0 ≤ a ∧ a ≤ 65535) (hb : 0 ≤ b ∧ b ≤ 65535) (A B : Nat) (w : World) (hA : w.cell? ⟨A, 0, none⟩ = some (.int .u32 a)) (hB : w.cell? ⟨B, 0, none⟩ = some (.int .u32 b)) :
    Calls Tryd.prog 77 #[x.val, .pointer (some ⟨A, 0, none⟩), .pointer (some ⟨B, 0, none⟩)] w
    fun e w' => e = .returned (.bool (x.k == a * 65536 + b)) ∧ Ext w w' := by
  have hl := World.block_lt_of_cell? _ _ hA
  have hl2 := World.block_lt_of_cell? _ _ hB
  dsimp only at hl hl2
  have HA := Lib.hid ha
  have HB := Lib.hid hb
  clear ha hb
  go_enter Tryd.func77, Tryd.ntmps77
  go_wp2
  go_quiet ((go_at_call 72; exact quiet_left (key_any _ _ HA.out HB.out _)))
  go_wp2
  go_ret
  exact ⟨rfl, EX⟩

theorem idx48_any (v : Value) (L : List Rw) (a b : Int) (ha : 0 ≤ a ∧ a ≤ 65535) (hb : 0 ≤ b ∧ b ≤ 65535) (A B : Nat) (w : World) (hv : Sl w v L.length (rwCells L)) (hA : w.cell? ⟨A, 0, none⟩ = some (.int .u32 a)) (hB : w.cell? ⟨B, 0, none⟩ = some (.int .u32 b)) :
    Calls Tryd.prog 73 #[v, .func (.func 77) #[] #[.pointer (some ⟨A, 0, none⟩), .pointer (some ⟨B, 0, none⟩)]] w
    fun e w' => e = .returned (.int .i64 (findK L (a * 65536 + b))) ∧ Ext w w' := by
  obtain ⟨ad, cap, rfl, hv⟩ := hv
  have hm := hv.len
  have HV := Lib.hid hv
  have HAB := Lib.hid (And.intro hA hB)
  have HAL := Lib.hid (And.intro ha hb)
  clear hv hB hA ha hb
  obtain ⟨q, hq⟩ : ∃ q, a * 65536 + b = q := ⟨_, rfl⟩
  rw [hq]
  have HQQ := Lib.hid hq
  obtain ⟨R, hR⟩ : ∃ R, findK L q = R := ⟨_, rfl⟩
  rw [hR]
  have HR := Lib.hid hR
  clear hR hq
  go_enter Tryd.func73, Tryd.ntmps73
  go_wp2
  go_loopw [5, 8] (fun _ i wr => ∃ k : Nat, k ≤ L.length ∧ i = .int .i64 k ∧ Ext w wr ∧ Hid (∀ j, j < k → ¬ (L.getD j zrw).k = q)) (fun _ i _ => L.length - (intOf i).toNat)
  case atStart => exact ⟨0, Nat.zero_le _, rfl, Ext.refl _, Lib.hid fun j hj => absurd hj (Nat.not_lt_zero _)⟩
  case round =>
    obtain ⟨k, hk, rfl, he, HT⟩ := hrel
    have HE := Lib.hid he
    clear he
    by_cases hlt : k < L.length
    · obtain ⟨bb, o, rfl, _, r1, r2⟩ := (HV.out.ext HE.out).rw hlt
      obtain ⟨x, hx⟩ : ∃ x, L.getD k zrw = x := ⟨_, rfl⟩
      rw [hx] at r1 r2
      have HX := Lib.hid hx
      have i0 : (0 : Int) ≤ (k : Int) := by omega
      have i1 : (k : Int) < (L.length : Int) := by omega
      clear hx
      cases h1 : (x.k == q)
      · have HQ := Lib.hid h1
        have HT2 : Hid (∀ j, j < k + 1 → ¬ (L.getD j zrw).k = q) := Lib.hid (by
          intro j hj
          by_cases e : j = k
          · subst e; rw [HX.out]; simpa using h1
          · exact HT.out j (by omega))
        clear h1
        go_wp2_with (go_at_call 77; refine (cl48_any x a b HAL.out.1 HAL.out.2 A B _ (ext_cell (HE.out.trans EX) HAB.out.1) (ext_cell (HE.out.trans EX) HAB.out.2)).mono ?_; rintro e w1 ⟨rfl, os1, n1, rfl⟩; rw [HQQ.out, HQ.out])
        go_roundw
        case rel => exact ⟨k + 1, by omega, by go_num, HE.out.trans EX, HT2⟩
        case measure => simp [intOf]; omega
      · have HQ := Lib.hid h1
        have HR2 : Hid ((k : Int) = R) := Lib.hid (by
          rw [← HR.out]
          exact (findK_hit hlt (by rw [HX.out]; simpa using h1) HT.out).symm)
        clear h1
        go_wp2_with (go_at_call 77; refine (cl48_any x a b HAL.out.1 HAL.out.2 A B _ (ext_cell (HE.out.trans EX) HAB.out.1) (ext_cell (HE.out.trans EX) HAB.out.2)).mono ?_; rintro e w1 ⟨rfl, os1, n1, rfl⟩; rw [HQQ.out, HQ.out])
        go_ret
        exact ⟨by rw [HR2.out] <;> rfl, HE.out.trans EX⟩
    · obtain rfl : k = L.length := by omega
      have HR2 : Hid (-1 = R) := Lib.hid (by
        rw [← HR.out]
        exact (findK_miss HT.out).symm)
      go_wp2
      go_ret
      exact ⟨by rw [HR2.out] <;> rfl, HE.out⟩
end Go.Proofs.YtknfikdignpniaaDoor.rules
/- The walk of the iterator of 'rules.speak': what it yields. -/
namespace Go.Proofs.YtknfikdignpniaaDoor.rules
open Go Go.RowKit Go.Shelf
set_option maxRecDepth 100000
set_option maxHeartbeats 8000000

attribute [local go_sem] Oper.semAt_some

/-- All cells but those of one block are as they were. -/
def KeepC (B : Nat) (W W' : World) : Prop := W.heap.size ≤ W'.heap.size ∧ ∀ b i v, b ≠ B → W.cell? ⟨b, i, none⟩ = some v → W'.cell? ⟨b, i, none⟩ = some v
theorem keepC_t {X : Nat} {A B C : World} (h : KeepC X A B) (k : KeepC X B C) : KeepC X A C := ⟨Nat.le_trans h.1 k.1, fun b i v hb hc => k.2 b i v hb (h.2 b i v hb hc)⟩
theorem keepC_b {X : Nat} (W : World) (l : Nat) (o o' : Obj) (h : W.heap[l]? = some o) (ho : o.isCells = false) : KeepC X W (W.putObj l o') :=
  ⟨(grownBy_putObj' W l o').size, fun _ _ _ _ hc => cell_kept hc (grownBy_putObj' W l o') (fun r e => by cases e; exact ⟨_, h, ho⟩)⟩
theorem keepC_ext {X : Nat} {A B : World} (h : Ext A B) : KeepC X A B := ⟨h.size, fun _ _ _ _ hc => ext_cell h hc⟩
def keyA (a : Nat) (who : Int) : Int := if a = 0 then who else 0
theorem keyA_bd {who : Int} (a : Nat) (h : 0 ≤ who ∧ who ≤ 65535) : 0 ≤ keyA a who ∧ keyA a who ≤ 65535 := by
  unfold keyA; split
  · exact h
  · decide
def foundAt (L : List Rw) (who what : Int) (n : Nat) : List Int := match look L (keyA (n / 2) who * 65536 + keyA (n % 2) what) with | some u => [u] | none => []
/-- What is yielded by the first so many keys. -/
def spL (L : List Rw) (who what : Int) (n : Nat) : List Int := (List.range n).flatMap (foundAt L who what)
theorem spL_succ (L : List Rw) (who what : Int) (n : Nat) : spL L who what (n + 1) = spL L who what n ++ foundAt L who what n := by
  simp [spL, List.range_succ]
theorem foundAt_len (L : List Rw) (who what : Int) (n : Nat) : (foundAt L who what n).length ≤ 1 := by
  unfold foundAt; split <;> simp
theorem spL_len (L : List Rw) (who what : Int) (n : Nat) : (spL L who what n).length ≤ n := by
  induction n with
  | zero => simp [spL]
  | succ n ih => rw [spL_succ, List.length_append]; have := foundAt_len L who what n; omega
theorem spL_pre (L : List Rw) (who what : Int) {n m : Nat} (h : n ≤ m) : spL L who what n <+: spL L who what m := by
  induction m with
  | zero => obtain rfl : n = 0 := by omega
            exact List.prefix_refl _
  | succ m ih =>
    by_cases e : n = m + 1
    · subst e; exact List.prefix_refl _
    · exact (ih (by omega)).trans (by rw [spL_succ]; exact List.prefix_append _ _)

theorem speak1_in (l B1 B2 B3 Bv : Nat) (who what : Int) (hwho : 0 ≤ who ∧ who ≤ 65535) (hwhat : 0 ≤ what ∧ what ≤ 65535) (L : List Rw) (ad : Option Addr) (cap : Nat) (J Jx : List Int → World → Prop)
    (hJ : ∀ pre A B, J pre A → Ext A B → J pre B)
    (hY : ∀ pre x W, J pre W → pre.length < 4 → YieldAt Fence.wide 2 Tryd.prog l #[.int .u64 x] W fun e W' => (e = .returned (.bool true) ∧ J (pre ++ [x]) W' ∧ KeepC Bv W W') ∨ (e = .returned (.bool false) ∧ Jx (pre ++ [x]) W'))
    (W : World) (h1 : W.cell? ⟨B1, 0, none⟩ = some (.int .u32 who)) (h2 : W.cell? ⟨B2, 0, none⟩ = some (.int .u32 what)) (h3 : W.cell? ⟨B3, 0, none⟩ = some (.slice ad L.length cap)) (_hB1 : B1 ≠ Bv) (hB2 : B2 ≠ Bv) (hB3 : B3 ≠ Bv) (hBv : Bv < W.heap.size)
    (hs : SlNo (fun b => b ≠ Bv) W ad L.length cap (rwCells L)) (h0 : J [] W) :
    CallsIn Fence.wide 3 Tryd.prog 76 #[.func (.yield l) #[] #[], .pointer (some ⟨B1, 0, none⟩), .pointer (some ⟨B2, 0, none⟩), .pointer (some ⟨B3, 0, none⟩)] W fun e W' => (∃ v, e = .returned v) ∧
      ((∃ xs, xs = spL L who what 4 ∧ J xs W') ∨ (∃ pre, pre <+: spL L who what 4 ∧ Jx pre W')) := by
  have HJ := Lib.hid hJ
  have HY := Lib.hid hY
  have HS := Lib.hid hs
  have H0 := Lib.hid h0
  have H123 := Lib.hid (And.intro h1 (And.intro h2 h3))
  have HW := Lib.hid (And.intro hwho hwhat)
  clear hJ hY hs h0 h2 h3 hwho hwhat
  refine callsIn_of_wp Tryd.func76 rfl trivial ?_ rfl
  simp only [Tryd.ntmps76, List.size_toArray, List.length_cons, List.length_nil, Nat.reduceAdd, Nat.reduceSub, Array.replicate_succ, Array.replicate_zero, List.push_toArray, List.append_toArray, List.nil_append, List.cons_append]
  gi_wp2
  gi_loopw [13] (fun i wr => ∃ a : Nat, a ≤ 2 ∧ i = .int .i64 a ∧ Hid (J (spL L who what (2 * a)) wr) ∧ Hid (KeepC Bv (W.alloc (.cells #[.int .u32 who, .int .u32 0] 26)) wr)) (fun i _ => 2 - (intOf i).toNat)
  case atStart => exact ⟨0, by omega, rfl, Lib.hid (HJ.out _ _ _ H0.out EX), Lib.hid (keepC_ext (Ext.refl _))⟩
  case round =>
    obtain ⟨a, ha, rfl, HJ1, HK1⟩ := hrel
    have hWs : W.heap.size ≠ Bv := by omega
    have hk1 := HK1.out
    have hwz := hk1.1
    simp only [World.size_alloc] at hwz
    have c2 : wr.cell? ⟨B2, 0, none⟩ = some (.int .u32 what) := hk1.2 _ _ _ hB2 (ext_cell EXX H123.out.2.1)
    have c3 : wr.cell? ⟨B3, 0, none⟩ = some (.slice ad L.length cap) := hk1.2 _ _ _ hB3 (ext_cell EXX H123.out.2.2)
    have HSr : Hid (SlNo (fun b => b ≠ Bv) wr ad L.length cap (rwCells L)) := Lib.hid (HS.out.to fun b i v hb hc => ⟨hb, hk1.2 _ _ _ hb (ext_cell EXX hc)⟩)
    by_cases hlt : a < 2
    · have c1 : wr.cell? ⟨W.heap.size, a, none⟩ = some (.int .u32 (keyA a who)) := by
        refine hk1.2 _ _ _ hWs ?_
        obtain rfl | rfl : a = 0 ∨ a = 1 := by omega
        · simp [go_sem, keyA]
        · simp [go_sem, keyA]
      obtain ⟨ka, hka⟩ : ∃ ka, keyA a who = ka := ⟨_, rfl⟩
      rw [hka] at c1
      have HKA := Lib.hid hka
      have hkab : 0 ≤ ka ∧ ka ≤ 65535 := by rw [← hka]; exact keyA_bd a HW.out.1
      have HKB := Lib.hid hkab
      have i0 : (0 : Int) ≤ (a : Int) := by omega
      have i1 : (a : Int) < 2 := by omega
      have l2 := World.block_lt_of_cell? _ _ c2
      have l3 := World.block_lt_of_cell? _ _ c3
      dsimp only at l2 l3
      have HC3 := Lib.hid c3
      clear hk1 hka hkab c3
      rename World => wa
      gi_wp2
      gi_loopw [20] (fun i wr => ∃ b : Nat, b ≤ 2 ∧ i = .int .i64 b ∧ Hid (J (spL L who what (2 * a + b)) wr) ∧ Hid (KeepC Bv ((wa.alloc (.cells #[.int .u32 ka] 26)).alloc (.cells #[.int .u32 what, .int .u32 0] 26)) wr)) (fun i _ => 2 - (intOf i).toNat)
      case atStart => exact ⟨0, by omega, rfl, Lib.hid (HJ.out _ _ _ HJ1.out EXX), Lib.hid (keepC_ext (Ext.refl _))⟩
      case round =>
        obtain ⟨b, hb, rfl, HJ2, HK2⟩ := hrel
        have hk2 := HK2.out
        have hwz2 := hk2.1
        simp only [World.size_alloc] at hwz2
        by_cases hlt2 : b < 2
        · have d1 : wr.cell? ⟨wa.heap.size + 1, b, none⟩ = some (.int .u32 (keyA b what)) := by
            refine hk2.2 _ _ _ (by omega) ?_
            obtain rfl | rfl : b = 0 ∨ b = 1 := by omega
            · simp [go_sem, keyA]
            · simp [go_sem, keyA]
          have d2 : wr.cell? ⟨wa.heap.size, 0, none⟩ = some (.int .u32 ka) := hk2.2 _ _ _ (by omega) (by simp [go_sem])
          have d3 : wr.cell? ⟨B3, 0, none⟩ = some (.slice ad L.length cap) := hk2.2 _ _ _ hB3 (ext_cell EXX HC3.out)
          have HS2 : Hid (SlNo (fun b => b ≠ Bv) wr ad L.length cap (rwCells L)) := Lib.hid (HSr.out.to fun b i v hb hc => ⟨hb, hk2.2 _ _ _ hb (ext_cell EXX hc)⟩)
          obtain ⟨kb, hkb⟩ : ∃ kb, keyA b what = kb := ⟨_, rfl⟩
          rw [hkb] at d1
          have hkbb : 0 ≤ kb ∧ kb ≤ 65535 := by rw [← hkb]; exact keyA_bd b HW.out.2
          have HKBB := Lib.hid hkbb
          have hfd : foundAt L who what (2 * a + b) = match look L (ka * 65536 + kb) with | some u => [u] | none => [] := by
            unfold foundAt
            rw [show (2 * a + b) / 2 = a by omega, show (2 * a + b) % 2 = b by omega, HKA.out, hkb]
          have hln := spL_len L who what (2 * a + b)
          have i2 : (0 : Int) ≤ (b : Int) := by omega
          have i3 : (b : Int) < 2 := by omega
          have l4 := World.block_lt_of_cell? _ _ d2
          have l5 := World.block_lt_of_cell? _ _ d3
          dsimp only at l4 l5
          have HD2 := Lib.hid d2
          cases hlk : look L (ka * 65536 + kb) with
          | none =>
            have HF := Lib.hid (look_findK hlk)
            have HN : Hid (spL L who what (2 * a + (b + 1)) = spL L who what (2 * a + b)) := Lib.hid (by rw [← Nat.add_assoc, spL_succ, hfd, hlk]; simp)
            clear hk2 hkb hkbb hfd hlk
            gi_wp2
            refine ⟨trivial, ?_⟩
            refine (callsIn_wide.2 (idx48_any _ L ka kb HKB.out HKBB.out _ _ _ (Sl.ext (w := wr) ⟨ad, cap, rfl, HS2.out.at⟩ EXX) (ext_cell EXX HD2.out) (by simp [go_sem]))).mono ?_
            rintro e w1 ⟨rfl, os1, n1, rfl⟩
            rw [HF.out]
            gi_wp2
            refine ⟨fun _ h => (by cases h), ?_⟩
            gi_wp2
            go_roundw
            case rel => exact ⟨b + 1, by omega, by go_num, Lib.hid (by rw [HN.out]; exact HJ.out _ _ _ HJ2.out EXX), Lib.hid (keepC_t HK2.out (keepC_ext EXX))⟩
            case measure => simp [intOf]; omega
          | some u =>
            obtain ⟨i, hi, hfi, hgi⟩ := findK_look hlk
            have HF := Lib.hid hfi
            have HN : Hid (spL L who what (2 * a + (b + 1)) = spL L who what (2 * a + b) ++ [u]) := Lib.hid (by rw [← Nat.add_assoc, spL_succ, hfd, hlk])
            obtain ⟨bl, off, rfl, hbl, hrw⟩ := HS2.out.at.rw hi
            rw [hgi] at hrw
            have r2 := hrw.2
            have j0 : (0 : Int) ≤ (i : Int) := by omega
            have j1 : (i : Int) < (L.length : Int) := by omega
            have hln3 := HS2.out.at.len
            clear hk2 hkb hkbb hfd hlk hrw hgi hfi
            gi_wp2
            refine ⟨trivial, ?_⟩
            refine (callsIn_wide.2 (idx48_any _ L ka kb HKB.out HKBB.out _ _ _ (Sl.ext (w := wr) ⟨_, cap, rfl, HS2.out.at⟩ EXX) (ext_cell EXX HD2.out) (by simp [go_sem]))).mono ?_
            rintro e w1 ⟨rfl, os1, n1, rfl⟩
            rw [HF.out]
            obtain ⟨fn, tmps, assign, body, hy, hR⟩ := HY.out _ u _ (HJ.out _ _ (grew (wr.alloc (.cells #[.int .u32 kb] 26)) os1 n1) HJ2.out EXX) (by omega)
            gi_wp2
            refine hR.mono ?_
            rintro e W3 (⟨rfl, hJ3, hk3⟩ | ⟨rfl, hJx3⟩)
            · have HJ3 := Lib.hid hJ3
              have HK3 := Lib.hid hk3
              clear hJ3 hk3
              gi_wp2
              go_roundw
              case rel => exact ⟨b + 1, by omega, by go_num, Lib.hid (by rw [HN.out]; exact HJ3.out), Lib.hid (keepC_t HK2.out (keepC_t (keepC_ext EXX) HK3.out))⟩
              case measure => simp [intOf]; omega
            · have HJ3 := Lib.hid hJx3
              clear hJx3
              gi_wp2
              refine bodyPost_ret (results_none rfl _ _ _) rfl ?_
              exact ⟨⟨_, rfl⟩, .inr ⟨_, by rw [← HN.out]; exact spL_pre L who what (by omega), HJ3.out⟩⟩
        · obtain rfl : b = 2 := by omega
          gi_wp2
          go_roundw
          case rel => exact ⟨a + 1, by omega, by go_num, HJ2, Lib.hid (keepC_t HK1.out (keepC_t (keepC_ext EXX) HK2.out))⟩
          case measure => simp [intOf]; omega
    · obtain rfl : a = 2 := by omega
      gi_wp2
      go_end0
      exact ⟨⟨_, rfl⟩, .inl ⟨_, rfl, HJ1.out⟩⟩
end Go.Proofs.YtknfikdignpniaaDoor.rules
/- Plain: what is yielded key by key says what all rules say. -/
namespace Go.Proofs.YtknfikdignpniaaDoor.rules
open Go Go.RowKit
set_option maxRecDepth 100000
set_option maxHeartbeats 8000000

theorem say_ge (who what : Int) (L : List Rw) (v : Int) : v ≤ L.foldl (sayStep who what) v ∧ (∀ x ∈ L, speaksB x.k who what = true → x.v ≤ L.foldl (sayStep who what) v) ∧ (L.foldl (sayStep who what) v = v ∨ ∃ x ∈ L, speaksB x.k who what = true ∧ x.v = L.foldl (sayStep who what) v) := by
  induction L generalizing v with
  | nil => exact ⟨Int.le_refl _, fun x hx => absurd hx List.not_mem_nil, Or.inl rfl⟩
  | cons x l ih =>
    obtain ⟨h1, h2, h3⟩ := ih (sayStep who what v x)
    have hs : v ≤ sayStep who what v x ∧ (speaksB x.k who what = true → x.v ≤ sayStep who what v x) ∧ (sayStep who what v x = v ∨ (speaksB x.k who what = true ∧ x.v = sayStep who what v x)) := by
      unfold sayStep
      cases hsp : speaksB x.k who what
      · simp
      · by_cases hv : v < x.v
        · simp [hv]; omega
        · simp [hv]; omega
    rw [List.foldl_cons]
    refine ⟨Int.le_trans hs.1 h1, fun y hy hsy => ?_, ?_⟩
    · rcases List.mem_cons.1 hy with rfl | hy
      · exact Int.le_trans (hs.2.1 hsy) h1
      · exact h2 y hy hsy
    · rcases h3 with h3 | ⟨y, hy, hsy, he⟩
      · rcases hs.2.2 with h4 | ⟨h4, h5⟩
        · exact Or.inl (h3.trans h4)
        · exact Or.inr ⟨x, by simp, h4, by rw [h3, ← h5]⟩
      · exact Or.inr ⟨y, by simp [hy], hsy, he⟩
theorem spk_key {k who what : Int} (_h0 : 0 ≤ k ∧ k < 4294967296) (h : speaksB k who what = true) : ∃ n, n < 4 ∧ k = keyA (n / 2) who * 65536 + keyA (n % 2) what := by
  simp [speaksB] at h
  have e : k = k / 65536 * 65536 + k % 65536 := by omega
  rcases h with ⟨h1 | h1, h2 | h2⟩
  · exact ⟨3, by omega, by rw [e, h2, h1]; simp [keyA]⟩
  · exact ⟨2, by omega, by rw [e, h2, h1]; simp [keyA]⟩
  · exact ⟨1, by omega, by rw [e, h2, h1]; simp [keyA]⟩
  · exact ⟨0, by omega, by rw [e, h2, h1]; simp [keyA]⟩
theorem key_spk {who what : Int} (hwho : 0 ≤ who ∧ who ≤ 65535) (hwhat : 0 ≤ what ∧ what ≤ 65535) (n : Nat) : speaksB (keyA (n / 2) who * 65536 + keyA (n % 2) what) who what = true := by
  unfold keyA speaksB
  split <;> split <;> simp <;> omega
theorem sp_mem {L : List Rw} (hr : Rises L) (hL : ∀ x ∈ L, RuleOk x) {who what : Int} (hwho : 0 ≤ who ∧ who ≤ 65535) (hwhat : 0 ≤ what ∧ what ≤ 65535) (y : Int) : y ∈ spL L who what 4 ↔ ∃ x ∈ L, speaksB x.k who what = true ∧ x.v = y := by
  unfold spL
  rw [List.mem_flatMap]
  constructor
  · rintro ⟨n, _, hy⟩
    unfold foundAt at hy
    split at hy
    · rename_i u hu
      simp at hy
      subst hy
      exact ⟨_, look_mem hu, key_spk hwho hwhat n, rfl⟩
    · cases hy
  · rintro ⟨x, hx, hs, rfl⟩
    obtain ⟨n, hn, hk⟩ := spk_key (hL x hx).1 hs
    refine ⟨n, by simpa using hn, ?_⟩
    have := look_of_mem hr hx
    unfold foundAt
    rw [← hk, this]
    simp
def lastW (pre : List Int) : Int := match pre.getLast? with | some x => IntKind.u32.wrap x | none => 0
theorem lastW_snoc (pre : List Int) (x : Int) : lastW (pre ++ [x]) = IntKind.u32.wrap x := by simp [lastW]
theorem wrap_small {y : Int} (h : 1 ≤ y ∧ y ≤ 2) : IntKind.u32.wrap y = y := by rw [IntKind.wrap_u32]; omega
theorem sp_bd {L : List Rw} (hr : Rises L) (hL : ∀ x ∈ L, RuleOk x) {who what : Int} (hwho : 0 ≤ who ∧ who ≤ 65535) (hwhat : 0 ≤ what ∧ what ≤ 65535) {y : Int} (h : y ∈ spL L who what 4) : 1 ≤ y ∧ y ≤ 2 := by
  obtain ⟨x, hx, _, rfl⟩ := (sp_mem hr hL hwho hwhat y).1 h
  exact (hL x hx).2
theorem say_two {L : List Rw} (hr : Rises L) (hL : ∀ x ∈ L, RuleOk x) {who what : Int} (hwho : 0 ≤ who ∧ who ≤ 65535) (hwhat : 0 ≤ what ∧ what ≤ 65535) {y : Int} (h : y ∈ spL L who what 4) (h2 : IntKind.u32.wrap y = 2) : rulesSay L who what = 2 := by
  rw [wrap_small (sp_bd hr hL hwho hwhat h)] at h2
  obtain ⟨x, hx, hs, hv⟩ := (sp_mem hr hL hwho hwhat y).1 h
  have h3 := (say_ge who what L 0).2.1 x hx hs
  have h4 := (say_bd hL who what 0 (by decide)).2
  unfold rulesSay
  omega
theorem say_not {L : List Rw} (hr : Rises L) (hL : ∀ x ∈ L, RuleOk x) {who what : Int} (hwho : 0 ≤ who ∧ who ≤ 65535) (hwhat : 0 ≤ what ∧ what ≤ 65535) (h : ∀ y ∈ spL L who what 4, ¬ IntKind.u32.wrap y = 2) : rulesSay L who what = lastW (spL L who what 4) := by
  have hone : ∀ y ∈ spL L who what 4, y = 1 := fun y hy => by
    have h1 := sp_bd hr hL hwho hwhat hy
    have h2 := h y hy
    rw [wrap_small h1] at h2
    omega
  have hmem := sp_mem hr hL hwho hwhat
  obtain ⟨h1, h2, h3⟩ := say_ge who what L 0
  unfold rulesSay lastW
  cases hl : (spL L who what 4).getLast? with
  | none =>
    have he : spL L who what 4 = [] := List.getLast?_eq_none_iff.1 hl
    rcases h3 with h3 | ⟨x, hx, hs, hv⟩
    · exact h3
    · have := (hmem x.v).2 ⟨x, hx, hs, rfl⟩
      rw [he] at this
      cases this
  | some y =>
    have hy : y ∈ spL L who what 4 := List.mem_of_getLast? hl
    have hy1 := hone y hy
    subst hy1
    obtain ⟨x, hx, hs, hv⟩ := (hmem 1).1 hy
    have h4 := h2 x hx hs
    rcases h3 with h3 | ⟨z, hz, hsz, hvz⟩
    · omega
    · have := hone z.v ((hmem z.v).2 ⟨z, hz, hsz, rfl⟩)
      have h5 : IntKind.u32.wrap 1 = 1 := wrap_small (by decide)
      show _ = IntKind.u32.wrap 1
      rw [h5]
      omega
end Go.Proofs.YtknfikdignpniaaDoor.rules
/- The walk of 'rules.check'. -/
namespace Go.Proofs.YtknfikdignpniaaDoor.rules
open Go Go.RowKit Go.Shelf
set_option maxRecDepth 100000
set_option maxHeartbeats 8000000

attribute [local go_sem] Oper.semAt_some

theorem speak_any (ad : Option Addr) (n cap : Nat) (who what : Int) (w : World) : Calls Tryd.prog 75 #[.slice ad n cap, .int .u32 who, .int .u32 what] w
    fun e w' => e = .returned (.func (.func 76) #[] #[.pointer (some ⟨w.heap.size + 1, 0, none⟩), .pointer (some ⟨w.heap.size + 1 + 1, 0, none⟩), .pointer (some ⟨w.heap.size, 0, none⟩)]) ∧
      w' = ((w.alloc (.cells #[.slice ad n cap] 30)).alloc (.cells #[.int .u32 who] 26)).alloc (.cells #[.int .u32 what] 26) := by
  go_enter Tryd.func75, Tryd.ntmps75
  go_wp2
  go_ret
  exact ⟨rfl, rfl⟩
theorem grown_ext {w w' : World} (h : Ext w w') : w.grownBy w' none := by
  obtain ⟨os, n, rfl⟩ := h
  exact ⟨rfl, rfl, rfl, by rw [size_grew]; omega, fun k hk _ => heap_grew w os n hk⟩
theorem speak_stops (B1 B2 B3 Bv : Nat) (who what : Int) (hwho : 0 ≤ who ∧ who ≤ 65535) (hwhat : 0 ≤ what ∧ what ≤ 65535) (L : List Rw) (ad : Option Addr) (cap : Nat) (w : World)
    (h1 : w.cell? ⟨B1, 0, none⟩ = some (.int .u32 who)) (h2 : w.cell? ⟨B2, 0, none⟩ = some (.int .u32 what)) (h3 : w.cell? ⟨B3, 0, none⟩ = some (.slice ad L.length cap)) (hB1 : B1 ≠ Bv) (hB2 : B2 ≠ Bv) (hB3 : B3 ≠ Bv) (hBv : Bv < w.heap.size)
    (hs : SlNo (fun b => b ≠ Bv) w ad L.length cap (rwCells L)) :
    SeqStopsK Fence.wide 3 Tryd.prog 76 #[.pointer (some ⟨B1, 0, none⟩), .pointer (some ⟨B2, 0, none⟩), .pointer (some ⟨B3, 0, none⟩)] (fun x : Int => #[Value.int .u64 x]) (KeepC Bv) (fun ys => ys = spL L who what 4) (fun pre => pre <+: spL L who what 4) 4 w :=
  fun l J Jx W hW hJ _ hY h0 => by
    have hx : Ext w W := Ext.of_below hW
    exact speak1_in l B1 B2 B3 Bv who what hwho hwhat L ad cap J Jx (fun pre A B hj hab => hJ pre A B none hj (grown_ext hab) (fun r e => by cases e)) hY W (ext_cell hx h1) (ext_cell hx h2) (ext_cell hx h3) hB1 hB2 hB3 (Nat.lt_of_lt_of_le hBv hx.size) (hs.ext hx) h0

theorem keepC_set (W : World) (B : Nat) (v : Value) : KeepC B W (W.setCell ⟨B, 0, none⟩ v) :=
  ⟨by simp [World.setCell], fun b i u hb hc => by rw [World.cell?_setCell_other _ _ _ _ (fun e => hb (by cases e; rfl))]; exact hc⟩
theorem check_any (v : Value) (who what : Int) (hwho : 0 ≤ who ∧ who ≤ 65535) (hwhat : 0 ≤ what ∧ what ≤ 65535) (L : List Rw) (hL : ∀ x ∈ L, RuleOk x) (hr : Rises L) (w : World) (hv : Sl w v L.length (rwCells L)) :
    Calls Tryd.prog 71 #[v, .int .u32 who, .int .u32 what] w fun e w' => e = .returned (.int .u32 (rulesSay L who what)) ∧ Ext w w' := by
  obtain ⟨ad, cap, rfl, hs⟩ := hv
  have HS := Lib.hid hs
  clear hs
  refine (callsIn_wide (n := 4)).1 ?_
  refine callsIn_of_wp_marks Tryd.func71 rfl trivial ?_ rfl
  simp only [Tryd.ntmps71, List.size_toArray, List.length_cons, List.length_nil, Nat.reduceAdd, Nat.reduceSub, Array.replicate_succ, Array.replicate_zero, List.push_toArray, List.append_toArray, List.nil_append, List.cons_append]
  gi_wp2
  refine wpIn_wide.2 (wp_scope_straight ((wpIn_wide (n := 4)).1 ?_))
  gi_wp2
  refine wpIn_label ?_
  gi_wp2
  refine ⟨trivial, ?_⟩
  refine (callsIn_wide.2 (speak_any _ _ _ _ _ _)).mono ?_
  rintro e w' ⟨rfl, rfl⟩
  gi_wp2
  have hB0 : Below w.heap.size w ((((w.alloc (.cells #[.int .u32 0] 26)).alloc (.cells #[.slice ad L.length cap] 30)).alloc (.cells #[.int .u32 who] 26)).alloc (.cells #[.int .u32 what] 26)) := Ext.below EX
  have hsl : SlNo (fun b => b ≠ w.heap.size) ((((w.alloc (.cells #[.int .u32 0] 26)).alloc (.cells #[.slice ad L.length cap] 30)).alloc (.cells #[.int .u32 who] 26)).alloc (.cells #[.int .u32 what] 26)) ad L.length cap (rwCells L) := HS.out.no fun b i v hc => ⟨by have := World.block_lt_of_cell? w _ hc; dsimp only at this; omega, ext_cell EX hc⟩
  refine wpIn_rangeFunc_ownF rfl (by decide) (gf := 76) (lb := #[.pointer (some ⟨w.heap.size + 1 + 1, 0, none⟩), .pointer (some ⟨w.heap.size + 1 + 1 + 1, 0, none⟩), .pointer (some ⟨w.heap.size + 1, 0, none⟩)]) rfl trivial (enters_of Tryd.func76 (by kernel_rfl) rfl)
    (speak_stops (w.heap.size + 1 + 1) (w.heap.size + 1 + 1 + 1) (w.heap.size + 1) w.heap.size who what hwho hwhat L ad cap _ (by simp [go_sem]) (by simp [go_sem]) (by simp [go_sem]) (by omega) (by omega) (by omega) (by simp [go_sem]) hsl)
    (fun h k => keepC_t h k) (fun W l o o' _ h ho _ => keepC_b W l o o' h ho) (Below.refl _ _) (fun _ => rfl)
    (fun pre W => (W.cell? ⟨w.heap.size, 0, none⟩ = some (.int .u32 (lastW pre)) ∧ W.frozen? ⟨w.heap.size, 0, none⟩ = false ∧ ∀ y ∈ pre, ¬ IntKind.u32.wrap y = 2) ∧ Below w.heap.size w W)
    (fun c pre W => (c = .exit 0 ∧ W.cell? ⟨w.heap.size, 0, none⟩ = some (.int .u32 2) ∧ W.frozen? ⟨w.heap.size, 0, none⟩ = false ∧ ∃ y ∈ pre, IntKind.u32.wrap y = 2) ∧ Below w.heap.size w W)
    (OwnFrom.and (Own.from (fun s A B row hs hg hr => ⟨cell_kept hs.1 hg hr, (frozen_kept hs.1 hg hr).trans hs.2.1, hs.2.2⟩) _) (ownFrom_below (Nat.le_refl _) (by simp [go_sem]; omega)))
    (fun c => OwnFrom.and (Own.from (fun s A B row hs hg hr => ⟨hs.1, cell_kept hs.2.1 hg hr, (frozen_kept hs.2.1 hg hr).trans hs.2.2.1, hs.2.2.2⟩) _) (ownFrom_below (Nat.le_refl _) (by simp [go_sem]; omega)))
    ⟨⟨by simp [go_sem, lastW], by simp [go_sem], fun y hy => by cases hy⟩, hB0⟩
    (fun x => { tmps := #[.slice ad L.length cap, .int .u32 who, .int .u32 what, undef, undef, undef, .pointer (some ⟨w.heap.size, 0, none⟩), .int .u64 x, .slice ad L.length cap, .int .u32 who, .int .u32 what,
      .func (.func 76) #[] #[.pointer (some ⟨w.heap.size + 1 + 1, 0, none⟩), .pointer (some ⟨w.heap.size + 1 + 1 + 1, 0, none⟩), .pointer (some ⟨w.heap.size + 1, 0, none⟩)], .int .u64 x, undef, undef, undef, undef, undef, undef], defers := [] }) ?assign ?body ?done ?stop
  case assign =>
    intro l x W K hK
    gi_wp2
    exact hK
  case body =>
    rintro l pre x W ⟨⟨hc, hf, hp⟩, hB⟩ _
    have HB := Lib.hid hB
    have HP := Lib.hid hp
    clear hB hp
    have hwr := IntKind.wrap_u32 x
    have HWR := Lib.hid hwr
    clear hwr
    gi_wp2
    all_goals rename_i hx
    all_goals simp only [beq_iff_eq, beq_eq_false_iff_ne, ne_eq] at hx
    all_goals rw [← HWR.out] at hx ⊢
    all_goals
      first
        | exact ⟨KeepsOthers.setCell _ _ _, ⟨rfl, by rw [World.cell?_setCell_same' _ _ _ (by rw [hc]; rfl), hx], by rw [World.frozen?_setCell]; exact hf, x, by simp, hx⟩, HB.out.setCell (p := ⟨w.heap.size, 0, none⟩) (Nat.le_refl _) _⟩
        | exact ⟨KeepsOthers.setCell _ _ _, keepC_set W _ _, ⟨by rw [lastW_snoc]; exact World.cell?_setCell_same' _ _ _ (by rw [hc]; rfl), by rw [World.frozen?_setCell]; exact hf, fun y hy => (List.mem_append.1 hy).elim (HP.out y) (fun e => by simp at e; subst e; exact hx)⟩, HB.out.setCell (p := ⟨w.heap.size, 0, none⟩) (Nat.le_refl _) _⟩
  case done =>
    rintro D ys W hD rfl ⟨⟨hc, hf, hp⟩, hB⟩ hK
    have HSAY := Lib.hid (say_not hr hL hwho hwhat hp)
    obtain ⟨z, hz⟩ : ∃ z, lastW (spL L who what 4) = z := ⟨_, rfl⟩
    rw [hz] at hc HSAY
    clear hp hz
    gi_wp2
    have hK' := (KeepsOthers.setCell W ⟨w.heap.size, 0, none⟩ (.int .u32 z)).same D _ hK rfl
    refine ⟨by simp, .inl ⟨_, _, rfl, run_takeDeferred hK', ?_⟩⟩
    have hc5 := cell_kept (World.cell?_setCell_same' W ⟨w.heap.size, 0, none⟩ (.int .u32 z) (by rw [hc]; rfl)) (grownBy_putObj' _ D (.deferred none)) (fun r e => by cases e; exact ⟨_, hK', rfl⟩)
    have hB2 := (hB.setCell (p := ⟨w.heap.size, 0, none⟩) (Nat.le_refl _) (.int .u32 z)).trans (belowK_b (w := w) (Nat.le_refl _) _ D _ (.deferred none) (by simp at hD; omega) hK' rfl rfl)
    refine ⟨.int .u32 z, ?_, by rw [HSAY.out], Ext.of_below hB2⟩
    simp [results, Tryd.f71, go_sem, hc5]
  case stop =>
    rintro D c pre W hD hpre ⟨⟨rfl, hc, hf, hp⟩, hB⟩ hK
    have HSAY : Hid (rulesSay L who what = 2) := Lib.hid (by
      obtain ⟨y, hy, h2⟩ := hp
      exact say_two hr hL hwho hwhat (hpre.subset hy) h2)
    clear hp
    gi_wp2
    have hK' := (KeepsOthers.setCell W ⟨w.heap.size, 0, none⟩ (.int .u32 2)).same D _ hK rfl
    refine ⟨by simp, .inl ⟨_, _, rfl, run_takeDeferred hK', ?_⟩⟩
    have hc5 := cell_kept (World.cell?_setCell_same' W ⟨w.heap.size, 0, none⟩ (.int .u32 2) (by rw [hc]; rfl)) (grownBy_putObj' _ D (.deferred none)) (fun r e => by cases e; exact ⟨_, hK', rfl⟩)
    have hB2 := (hB.setCell (p := ⟨w.heap.size, 0, none⟩) (Nat.le_refl _) (.int .u32 2)).trans (belowK_b (w := w) (Nat.le_refl _) _ D _ (.deferred none) (by simp at hD; omega) hK' rfl rfl)
    refine ⟨.int .u32 2, ?_, by rw [HSAY.out], Ext.of_below hB2⟩
    simp [results, Tryd.f71, go_sem, hc5]
end Go.Proofs.YtknfikdignpniaaDoor.rules
