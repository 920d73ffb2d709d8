/- The walk of the iterator of 'places'. -/
import Derived.Test.YtkklhhdkokncnaaDoorJA
import Derived.Deep.RegionWith
import Derived.Deep.QuietTactic
import Derived.BigQuiet
import Derived.Laws.EntriesVeiled
import Derived.Test.YtkklhhdkokncnaaDoorA5
import Derived.LoopTactic
import Derived.Test.YtkklhhdkokncnaaDoorA0
import Derived.Deep.RegionHeld3
import Derived.Deep.DeepCutAuto
namespace Go.Proofs.YtkklhhdkokncnaaDoor
open Go Go.RowKit Go.Shelf
set_option maxRecDepth 100000
set_option maxHeartbeats 8000000

attribute [local go_sem] Oper.semAt_some
theorem places2_in (q : JB) (w0 : World) (M0 : Nat) (hq : JBok q w0 M0) (hN : q.N ≤ 1000) (hbs : ∀ k, k < q.N → (1 ≤ q.bs k ∧ q.bs k ≤ 32) ∧ (0 ≤ offF q.bs k ∧ offF q.bs k ≤ 64 - q.bs k))
    (l D : Nat) (r d : Obj) (W : World) (hl : M0 ≤ l) (hD : M0 ≤ D) (h0 : Jst q w0 M0 (offF q.bs 0) W) (hk : Kept l D r d W)
    (hY : ∀ (k : Nat) (W1 : World), k < q.N → Jst q w0 M0 (offF q.bs (k + 1)) W1 → Kept l D r d W1 → YieldAt Fence.wide 2 Tryd.prog l #[.int .i64 k, .int .i64 (offF q.bs k)] W1 fun e W' => e = .returned (.bool true) ∧ Jst q w0 M0 (offF q.bs (k + 1)) W' ∧ Kept l D r d W') :
    CallsIn Fence.wide 3 Tryd.prog 113 #[.func (.yield l) #[] #[], .pointer (some ⟨q.bm, 0, none⟩), .pointer (some ⟨q.bn, 0, none⟩), .pointer (some ⟨q.bb, 0, none⟩)] W fun e W' => (∃ v, e = .returned v) ∧ Jst q w0 M0 (offF q.bs q.N) W' ∧ Kept l D r d W' := by
  have HQ := Lib.hid hq
  have HBS := Lib.hid hbs
  have HY := Lib.hid hY
  have H0 := Lib.hid h0
  have HK := Lib.hid hk
  have c1 := h0.many
  have l1 := World.block_lt_of_cell? _ _ c1
  dsimp only at l1
  clear hq hbs hY h0 hk
  refine callsIn_of_wp Tryd.func113 rfl trivial ?_ rfl
  simp only [Tryd.ntmps113, List.size_toArray, List.length_cons, List.length_nil, Nat.reduceAdd, Nat.reduceSub, Array.replicate_succ, Array.replicate_zero, List.push_toArray, List.append_toArray, List.nil_append, List.cons_append]
  gi_wp2
  gi_loopw [8] (fun iv wr => ∃ k : Nat, k ≤ q.N ∧ iv = .int .i64 k ∧ Hid (Jst q w0 M0 (offF q.bs k) wr) ∧ Hid (Kept l D r d wr)) (fun iv _ => q.N - (intOf iv).toNat)
  case atStart => exact ⟨0, Nat.zero_le _, rfl, H0, HK⟩
  case round =>
    obtain ⟨k, hkN, rfl, HS0, HK0⟩ := hrel
    by_cases hlt : k < q.N
    · obtain ⟨A, hA⟩ : ∃ A, offF q.bs k = A := ⟨_, rfl⟩
      obtain ⟨X, hX⟩ : ∃ X, q.bs k = X := ⟨_, rfl⟩
      have hbk := HBS.out k hlt
      have hfd := (HS0.out.fld k hlt).1
      have hak := HS0.out.at'
      rw [hA, hX] at hbk
      rw [hX] at hfd
      rw [hA] at hak
      have HB := Lib.hid hbk.1
      have HA := Lib.hid hbk.2
      have HX := Lib.hid hfd
      have HA1 := Lib.hid hak
      have HA2 := Lib.hid HS0.out.af
      have hoff : offF q.bs (k + 1) = A + X := by rw [offF, hA, hX]
      have HOF := Lib.hid (And.intro hA hoff)
      have f1 := HS0.out.fb
      have f2 := HS0.out.fn
      have l2 := World.block_lt_of_cell? _ _ f1
      have l3 := World.block_lt_of_cell? _ _ f2
      dsimp only at l2 l3
      have hlk : (k : Int) < (q.N : Int) := by omega
      clear hbk hfd hak hA hX hoff
      gi_wp2
      refine wpIn_wide.2 ?_
      go_region_with (first | (go_at_call 103; (with_reducible refine (bits_any k q.bl q.b q.o q.N q.cap X hlt hN _ (by first | exact HS0.out.sl | (simp [go_sem]; exact HS0.out.sl)) (by first | exact HX.out | (simp [go_sem]; exact HX.out))).mono ?_); rintro e w1 ⟨rfl, rfl⟩) | (go_at_call 111; (with_reducible refine (next_any q.ba A X HB.out HA.out _ (by first | exact HA1.out | (simp [go_sem]; exact HA1.out)) (by first | exact HA2.out | (simp [go_sem]; exact HA2.out))).mono ?_); rintro e w1 ⟨rfl, rfl⟩))
      all_goals
        have hba := HQ.out.a.1
        have a0 := HA.out.1
        have hk1 : Kept l D r d (wr.setCell ⟨q.ba, 0, none⟩ (.int .i64 (A + X))) := HK0.out.set _ (by omega) (by omega)
        have hy1 := HY.out k ((wr.setCell ⟨q.ba, 0, none⟩ (.int .i64 (A + X))).drew) hlt (by rw [HOF.out.2]; exact (HS0.out.setA HQ.out _).ext HQ.out EX) (hk1.ext EX)
        rw [HOF.out.1] at hy1
        obtain ⟨fn, tmps, assign, body, hy, hR⟩ := hy1
        clear hba hk1
        gi_wp2
        refine hR.mono ?_
        rintro e W3 ⟨rfl, hJ3, hk3⟩
        have HJ3 := Lib.hid hJ3
        have HK3 := Lib.hid hk3
        clear hJ3 hk3
        gi_wp2
        go_roundw
        case rel => exact ⟨k + 1, by omega, by go_num, HJ3, HK3⟩
        case measure => simp [intOf]; omega
    · obtain rfl : k = q.N := by omega
      gi_wp2
      go_end0
      exact ⟨⟨_, rfl⟩, HS0.out, HK0.out⟩
end Go.Proofs.YtkklhhdkokncnaaDoor
/- The walk of 'pack.Join', where each field fits, and there is room. -/
namespace Go.Proofs.YtkklhhdkokncnaaDoor
open Go Go.RowKit Go.Shelf
set_option maxRecDepth 100000
set_option maxHeartbeats 8000000

attribute [local go_sem] Oper.semAt_some
theorem places_any (n : Int) (g : Fn) (cs : Array Value) (w : World) : Calls Tryd.prog 102 #[.int .i64 n, .func g #[] cs] w
    fun e w' => e = .returned (.func (.func 113) #[] #[.pointer (some ⟨w.heap.size, 0, none⟩), .pointer (some ⟨w.heap.size + 1 + 1 + 1, 0, none⟩), .pointer (some ⟨w.heap.size + 1, 0, none⟩)]) ∧
      ∃ t1 t2 t3 t4, w' = (((w.alloc (.cells #[.int .i64 n] t1)).alloc (.cells #[.func g #[] cs] t2)).alloc (.cells #[.int .i64 0] t3)).alloc (.cells #[.func (.func 111) #[] #[.pointer (some ⟨w.heap.size + 1 + 1, 0, none⟩)]] t4) := by
  go_enter Tryd.func102, Tryd.ntmps102
  go_wp2
  go_ret
  exact ⟨rfl, _, _, _, _, rfl⟩
/-- A world in which a join stands so. -/
structure JT (q : JB) (w0 : World) (M0 : Nat) (a : Int) (l D : Nat) (r d : Obj) where
  val : World
  js : Jst q w0 M0 a val
  kp : Kept l D r d val
theorem put_class (q : JB) (w0 : World) (M0 : Nat) (hq : JBok q w0 M0) (l D : Nat) (r d : Obj) (hl : M0 ≤ l) (hD : M0 ≤ D) (at' a b v : Int) (hb : 1 ≤ b ∧ b ≤ 32) (ha : 0 ≤ a ∧ a ≤ 64) (p : JT q w0 M0 at' l D r d) :
    Calls Tryd.prog 105 #[.pointer (some ⟨q.bx, 0, none⟩), .int .i64 a, .int .i64 b, .int .u64 v] p.val fun e w' => e = .returned (.tuple #[]) ∧ ∃ p' : JT q w0 M0 at' l D r d, w' = p'.val := by
  obtain ⟨u, hu⟩ := p.js.x
  refine (put_any q.bx a b v u hb ha p.val hu p.js.xf).mono ?_
  rintro e w' ⟨rfl, u', hx⟩
  have hbx := hq.x.1
  have h2 : Kept l D r d (p.val.setCell ⟨q.bx, 0, none⟩ (.int .u64 u')) := p.kp.set _ (by omega) (by omega)
  exact ⟨rfl, ⟨w', (p.js.setX hq u').ext hq hx, h2.ext hx⟩, rfl⟩
theorem join_any (n cap : Nat) (b o : Nat) (bs vs : Nat → Int) (hn : n ≤ 1000) (hbs : ∀ k, k < n → (1 ≤ bs k ∧ bs k ≤ 32) ∧ (0 ≤ offF bs k ∧ offF bs k ≤ 64 - bs k) ∧ (0 ≤ vs k ∧ vs k ≤ 2 ^ (bs k).toNat - 1)) (w : World)
    (hb : b < w.heap.size) (hf : ∀ i, i < n → w.cell? ⟨b, o + i * 2, none⟩ = some (.int .i64 (bs i)) ∧ w.cell? ⟨b, o + i * 2 + 1, none⟩ = some (.int .u64 (vs i))) :
    Calls Tryd.prog 84 #[.slice (some ⟨b, o, none⟩) n cap] w fun e w' => (∃ x, e = .returned (.tuple #[.int .u64 x, .int .i64 0])) ∧ Ext w w' := by
  have HBS := Lib.hid hbs
  have HF := Lib.hid hf
  clear hbs hf
  refine (callsIn_wide (n := 4)).1 ?_
  refine callsIn_of_wp_marks Tryd.func84 rfl trivial ?_ rfl
  simp only [Tryd.ntmps84, List.size_toArray, List.length_cons, List.length_nil, Nat.reduceAdd, Nat.reduceSub, Array.replicate_succ, Array.replicate_zero, List.push_toArray, List.append_toArray, List.nil_append, List.cons_append]
  gi_wp2_with (refine ⟨trivial, ?_⟩; gi_at_call 102; refine (callsIn_wide.2 (places_any _ _ _ _)).mono ?_; rintro e w1 ⟨rfl, t1, t2, t3, t4, rfl⟩)
  obtain ⟨q, hq0⟩ : ∃ q : JB, (JB.mk (w.heap.size) (w.heap.size + 1 + 1 + 1) (w.heap.size + 1 + 1 + 1 + 1) (w.heap.size + 1 + 1 + 1 + 1 + 1) (w.heap.size + 1 + 1 + 1 + 1 + 1 + 1) (w.heap.size + 1 + 1 + 1 + 1 + 1 + 1 + 1) (w.heap.size + 1 + 1 + 1 + 1 + 1 + 1 + 1 + 1) (w.heap.size + 1) (w.heap.size + 1 + 1) b o n cap bs vs) = q := ⟨_, rfl⟩
  obtain ⟨M0, hM0⟩ : ∃ M, w.heap.size + 1 + 1 + 1 + 1 + 1 + 1 + 1 + 1 + 1 = M := ⟨_, rfl⟩
  have hq : JBok q w M0 := by
    subst hq0
    subst hM0
    constructor
    all_goals (try dsimp only)
    all_goals omega
  have HQ := Lib.hid hq
  have hst0 : Jst q w M0 (offF bs 0) (((((((((w.alloc (.cells #[.slice (some ⟨b, o, none⟩) n cap] 126)).alloc (.cells #[.int .u64 0] 22)).alloc (.cells #[.int .i64 0] 28)).alloc (.cells #[.int .u64 0] 144)).alloc (.cells #[.bool true] 4)).alloc (.cells #[.int .i64 n] t1)).alloc (.cells #[.func (.func 103) #[] #[.pointer (some ⟨w.heap.size, 0, none⟩)]] t2)).alloc (.cells #[.int .i64 0] t3)).alloc (.cells #[.func (.func 111) #[] #[.pointer (some ⟨w.heap.size + 1 + 1 + 1 + 1 + 1 + 1 + 1, 0, none⟩)]] t4)) := by
    subst hq0
    subst hM0
    have hx : Ext w (((((((((w.alloc (.cells #[.slice (some ⟨b, o, none⟩) n cap] 126)).alloc (.cells #[.int .u64 0] 22)).alloc (.cells #[.int .i64 0] 28)).alloc (.cells #[.int .u64 0] 144)).alloc (.cells #[.bool true] 4)).alloc (.cells #[.int .i64 n] t1)).alloc (.cells #[.func (.func 103) #[] #[.pointer (some ⟨w.heap.size, 0, none⟩)]] t2)).alloc (.cells #[.int .i64 0] t3)).alloc (.cells #[.func (.func 111) #[] #[.pointer (some ⟨w.heap.size + 1 + 1 + 1 + 1 + 1 + 1 + 1, 0, none⟩)]] t4)) := EX
    exact ⟨by simp [go_sem], by simp [go_sem], by simp [go_sem], by simp [go_sem], by simp [go_sem], fun i hi => ⟨ext_cell hx (HF.out i hi).1, ext_cell hx (HF.out i hi).2⟩, ⟨0, by simp [go_sem]⟩, by simp [go_sem], by simp [go_sem, offF], by simp [go_sem], by simp [go_sem], by simp [go_sem], by simp [go_sem], by simp [go_sem], hx.below, by simp [go_sem]⟩
  have HST := Lib.hid hst0
  have hbs2 : ∀ k, k < q.N → (1 ≤ q.bs k ∧ q.bs k ≤ 32) ∧ (0 ≤ offF q.bs k ∧ offF q.bs k ≤ 64 - q.bs k) := by
    subst hq0
    exact fun k hk => ⟨(HBS.out k hk).1, (HBS.out k hk).2.1⟩
  have HB2 := Lib.hid hbs2
  have hMw : (((((((((w.alloc (.cells #[.slice (some ⟨b, o, none⟩) n cap] 126)).alloc (.cells #[.int .u64 0] 22)).alloc (.cells #[.int .i64 0] 28)).alloc (.cells #[.int .u64 0] 144)).alloc (.cells #[.bool true] 4)).alloc (.cells #[.int .i64 n] t1)).alloc (.cells #[.func (.func 103) #[] #[.pointer (some ⟨w.heap.size, 0, none⟩)]] t2)).alloc (.cells #[.int .i64 0] t3)).alloc (.cells #[.func (.func 111) #[] #[.pointer (some ⟨w.heap.size + 1 + 1 + 1 + 1 + 1 + 1 + 1, 0, none⟩)]] t4)).heap.size = M0 := by rw [← hM0]; simp [go_sem]
  have hqf : q.N = n ∧ q.bs = bs ∧ q.vs = vs ∧ q.bm = w.heap.size + 1 + 1 + 1 + 1 + 1 ∧ q.bn = w.heap.size + 1 + 1 + 1 + 1 + 1 + 1 + 1 + 1 ∧ q.bb = w.heap.size + 1 + 1 + 1 + 1 + 1 + 1 ∧ q.bl = w.heap.size ∧ q.bx = w.heap.size + 1 + 1 + 1 ∧ q.bf = w.heap.size + 1 + 1 + 1 + 1 ∧ q.b = b ∧ q.o = o ∧ q.cap = cap ∧ q.b2 = w.heap.size + 1 ∧ q.b3 = w.heap.size + 1 + 1 := by
    subst hq0
    exact ⟨rfl, rfl, rfl, rfl, rfl, rfl, rfl, rfl, rfl, rfl, rfl, rfl, rfl, rfl⟩
  have HQF := Lib.hid hqf
  clear hq hst0 hbs2 hq0 hqf
  refine wpIn_range_rounds rfl (by decide) (gf := 113) (lb := #[.pointer (some ⟨w.heap.size + 1 + 1 + 1 + 1 + 1, 0, none⟩), .pointer (some ⟨w.heap.size + 1 + 1 + 1 + 1 + 1 + 1 + 1 + 1, 0, none⟩), .pointer (some ⟨w.heap.size + 1 + 1 + 1 + 1 + 1 + 1, 0, none⟩)]) rfl trivial (enters_of Tryd.func113 (by kernel_rfl) rfl) n (fun k => #[.int .i64 k, .int .i64 (offF bs k)]) (fun _ => rfl)
    (fun k => Jst q w M0 (offF bs k)) (fun k => Jst q w M0 (offF bs (k + 1)))
    (fun k => { tmps := #[.slice (some ⟨b, o, none⟩) n cap, .pointer (some ⟨w.heap.size, 0, none⟩), .pointer (some ⟨w.heap.size + 1, 0, none⟩), .pointer (some ⟨w.heap.size + 1 + 1, 0, none⟩), .pointer (some ⟨w.heap.size + 1 + 1 + 1, 0, none⟩), .pointer (some ⟨w.heap.size + 1 + 1 + 1 + 1, 0, none⟩), .int .i64 k, .int .i64 (offF bs k), .agg #[.int .u64 0], .slice (some ⟨b, o, none⟩) n cap, .int .i64 n, .func (.func 103) #[] #[.pointer (some ⟨w.heap.size, 0, none⟩)], .func (.func 113) #[] #[.pointer (some ⟨w.heap.size + 1 + 1 + 1 + 1 + 1, 0, none⟩), .pointer (some ⟨w.heap.size + 1 + 1 + 1 + 1 + 1 + 1 + 1 + 1, 0, none⟩), .pointer (some ⟨w.heap.size + 1 + 1 + 1 + 1 + 1 + 1, 0, none⟩)], .int .i64 k, .int .i64 (offF bs k), undef, undef, undef, undef, undef, undef, undef, undef, undef, undef, undef, undef, undef, undef, undef, undef, undef, undef, undef, undef, undef, undef, undef, undef, undef, undef, undef, undef, undef, undef], defers := [] })
    (fun k W l o o' hj hl ho _ => hj.put HQ.out o' (by rw [← hMw]; exact hl) ho) (fun k W l o o' hj hl ho _ => hj.put HQ.out o' (by rw [← hMw]; exact hl) ho)
    (fun o o' => HST.out.ext HQ.out EX) ?iter ?assign ?body ?done
  case iter =>
    intro l D r d W hl hD h0 hk hY
    rw [hMw] at hl hD
    obtain ⟨e1, e2, _, e4, e5, e6, _⟩ := HQF.out
    have h := places2_in q w M0 HQ.out (by rw [e1]; exact hn) HB2.out l D r d W hl hD (by rw [e2]; exact h0) hk (fun k W1 hk1 hj hkk => by rw [e2] at hj ⊢; exact hY k W1 (by rw [← e1]; exact hk1) hj hkk)
    rw [e1, e2, e4, e5, e6] at h
    exact h
  case assign =>
    intro l k W K hK
    have HK := Lib.hid hK
    have ez : (#[13, 14] : Array Tmp).zip #[Value.int .i64 k, Value.int .i64 (offF bs k)] = #[(13, Value.int .i64 k), (14, Value.int .i64 (offF bs k))] := by simp
    simp only [ez]
    clear hK
    show Code.wpIn _ _ _ _ _ { tmps := #[.slice (some ⟨b, o, none⟩) n cap, .pointer (some ⟨w.heap.size, 0, none⟩), .pointer (some ⟨w.heap.size + 1, 0, none⟩), .pointer (some ⟨w.heap.size + 1 + 1, 0, none⟩), .pointer (some ⟨w.heap.size + 1 + 1 + 1, 0, none⟩), .pointer (some ⟨w.heap.size + 1 + 1 + 1 + 1, 0, none⟩), undef, undef, .agg #[.int .u64 0], .slice (some ⟨b, o, none⟩) n cap, .int .i64 n, .func (.func 103) #[] #[.pointer (some ⟨w.heap.size, 0, none⟩)], .func (.func 113) #[] #[.pointer (some ⟨w.heap.size + 1 + 1 + 1 + 1 + 1, 0, none⟩), .pointer (some ⟨w.heap.size + 1 + 1 + 1 + 1 + 1 + 1 + 1 + 1, 0, none⟩), .pointer (some ⟨w.heap.size + 1 + 1 + 1 + 1 + 1 + 1, 0, none⟩)], .int .i64 k, .int .i64 (offF bs k), undef, undef, undef, undef, undef, undef, undef, undef, undef, undef, undef, undef, undef, undef, undef, undef, undef, undef, undef, undef, undef, undef, undef, undef, undef, undef, undef, undef, undef, undef], defers := [] } _
    gi_wp2
    exact HK.out
  case body =>
    intro l D r d k W hl hD hk hJ hK
    rw [hMw] at hl hD
    obtain ⟨e1, e2, e3, e4, e5, e6, e7, e8, e9, e10, e11, e12, e13, e14⟩ := HQF.out
    obtain ⟨A, hA⟩ : ∃ A, offF bs k = A := ⟨_, rfl⟩
    obtain ⟨A', hA'⟩ : ∃ A, offF bs (k + 1) = A := ⟨_, rfl⟩
    obtain ⟨X, hX⟩ : ∃ X, bs k = X := ⟨_, rfl⟩
    obtain ⟨V, hV⟩ : ∃ X, vs k = X := ⟨_, rfl⟩
    obtain ⟨M, hM⟩ : ∃ M, (2 : Int) ^ X.toNat - 1 = M := ⟨_, rfl⟩
    have hbk := HBS.out k hk
    rw [hA, hX, hV, hM] at hbk
    simp only [hA'] at hJ ⊢
    simp only [hA]
    have HM := Lib.hid hM
    have HB := Lib.hid hbk.1
    have HA : Hid (0 ≤ A ∧ A ≤ 64) := Lib.hid (by omega)
    have hVM : ¬ M < V := by omega
    have a0 : ¬ A < 0 := by omega
    have k0 : (0 : Int) ≤ (k : Int) := by omega
    have k1 : (k : Int) < (n : Int) := by omega
    have f1 : ∀ p : JT q w M0 A' l D r d, p.val.cell? ⟨w.heap.size, 0, none⟩ = some (.slice (some ⟨b, o, none⟩) n cap) := fun p => by
      have h := p.js.sl
      rw [e7, e10, e11, e1, e12] at h
      exact h
    have f2 : ∀ p : JT q w M0 A' l D r d, p.val.cell? ⟨b, o + k * 2, none⟩ = some (.int .i64 X) := fun p => by
      have h := (p.js.fld k (by rw [e1]; exact hk)).1
      rw [e10, e11, e2, hX] at h
      exact h
    have f3 : ∀ p : JT q w M0 A' l D r d, p.val.cell? ⟨b, o + k * 2 + 1, none⟩ = some (.int .u64 V) := fun p => by
      have h := (p.js.fld k (by rw [e1]; exact hk)).2
      rw [e10, e11, e3, hV] at h
      exact h
    have HPUT : Hid (∀ p : JT q w M0 A' l D r d, Calls Tryd.prog 105 #[.pointer (some ⟨w.heap.size + 1 + 1 + 1, 0, none⟩), .int .i64 A, .int .i64 X, .int .u64 V] p.val fun e w' => e = .returned (.tuple #[]) ∧ ∃ p' : JT q w M0 A' l D r d, w' = p'.val) := Lib.hid fun p => by
      have h := put_class q w M0 HQ.out l D r d hl hD A' A X V HB.out HA.out p
      rw [e8] at h
      exact h
    have HJ := Lib.hid hJ
    have HK := Lib.hid hK
    haveI hne : Nonempty (JT q w M0 A' l D r d) := ⟨⟨W, hJ, hK⟩⟩
    clear hA hA' hX hV hM hbk hJ hK e1 e2 e3 e4 e5 e6 e7 e8 e9 e10 e11 e12 e13 e14
    gi_wp2
    refine wpIn_region_class_lit (fun p : JT q w M0 A' l D r d => p.val) ?_ (by kernel_rfl) (by kernel_rfl) (by kernel_rfl) ⟨⟨W.drew, HJ.out.ext HQ.out EX, HK.out.ext EX⟩, rfl⟩ ?_
    · rintro ⟨_, _, h, _⟩
      cases h
    · (repeat (go_big_quiet_step ((go_at_call 104; exact (mask_still X HB.out _).mono fun e w' ⟨he, hw⟩ => ⟨by rw [he, HM.out], ⟨_, hw⟩⟩))))
      refine wpQuiet_nil ?_
      rintro _ ⟨p2, rfl⟩
      have HJ2 := Lib.hid p2.js
      have HK2 := Lib.hid p2.kp
      clear HJ HK
      gi_wp2
      refine wpIn_region_class_lit (fun p : JT q w M0 A' l D r d => p.val) ?_ (by kernel_rfl) (by kernel_rfl) (by kernel_rfl) ⟨⟨p2.val.drew, HJ2.out.ext HQ.out EX, HK2.out.ext EX⟩, rfl⟩ ?_
      · rintro ⟨_, _, h, _⟩
        cases h
      · (repeat (go_big_quiet_step ((go_at_call 105; exact HPUT.out _))))
        refine wpQuiet_nil ?_
        rintro _ ⟨p3, rfl⟩
        have HJ3 := Lib.hid p3.js
        have HK3 := Lib.hid p3.kp
        clear HJ2 HK2
        gi_wp2
        exact ⟨HJ3.out, HK3.out⟩
  case done =>
    intro D W hD hJ hK
    obtain ⟨e1, e2, e3, e4, e5, e6, e7, e8, e9, e10, e11, e12, e13, e14⟩ := HQF.out
    have c1 := hJ.fit
    obtain ⟨u, c2⟩ := hJ.x
    have c3 := hJ.r2
    have c4 := hJ.r2f
    have c5 := hJ.r3
    have c6 := hJ.r3f
    rw [e9] at c1
    rw [e8] at c2
    rw [e13] at c3 c4
    rw [e14] at c5 c6
    have HBL := Lib.hid hJ.below
    have HSZ := Lib.hid hJ.size
    have HJ := Lib.hid hJ
    clear hJ e1 e2 e3 e4 e5 e6 e7 e8 e9 e10 e11 e12 e13 e14
    gi_wp2
    rw [hMw, ← hM0] at hD
    have hK1 := (KeepsOthers.setCell W ⟨w.heap.size + 1, 0, none⟩ (.int .u64 u)).same D _ hK rfl
    have hK2 := (KeepsOthers.setCell (W.setCell ⟨w.heap.size + 1, 0, none⟩ (.int .u64 u)) ⟨w.heap.size + 1 + 1, 0, none⟩ (.int .i64 0)).same D _ hK1 rfl
    refine ⟨by simp, .inl ⟨_, _, rfl, run_takeDeferred hK2, ?_⟩⟩
    have d1 : (W.setCell ⟨w.heap.size + 1, 0, none⟩ (.int .u64 u)).cell? ⟨w.heap.size + 1, 0, none⟩ = some (.int .u64 u) := World.cell?_setCell_same' _ _ _ (by rw [c3]; rfl)
    have d2 : (W.setCell ⟨w.heap.size + 1, 0, none⟩ (.int .u64 u)).cell? ⟨w.heap.size + 1 + 1, 0, none⟩ = some (.int .i64 0) := (World.cell?_setCell_other _ _ _ _ (by simp)).trans c5
    have d3 : ((W.setCell ⟨w.heap.size + 1, 0, none⟩ (.int .u64 u)).setCell ⟨w.heap.size + 1 + 1, 0, none⟩ (.int .i64 0)).cell? ⟨w.heap.size + 1, 0, none⟩ = some (.int .u64 u) := (World.cell?_setCell_other _ _ _ _ (by simp)).trans d1
    have d4 : ((W.setCell ⟨w.heap.size + 1, 0, none⟩ (.int .u64 u)).setCell ⟨w.heap.size + 1 + 1, 0, none⟩ (.int .i64 0)).cell? ⟨w.heap.size + 1 + 1, 0, none⟩ = some (.int .i64 0) := World.cell?_setCell_same' _ _ _ (by rw [d2]; rfl)
    have g1 := cell_kept d3 (grownBy_putObj' _ D (.deferred none)) (fun r e => by cases e; exact ⟨_, hK2, rfl⟩)
    have g2 := cell_kept d4 (grownBy_putObj' _ D (.deferred none)) (fun r e => by cases e; exact ⟨_, hK2, rfl⟩)
    have hB2 := ((HBL.out.setCell (p := ⟨w.heap.size + 1, 0, none⟩) (by dsimp only; omega) (.int .u64 u)).setCell (p := ⟨w.heap.size + 1 + 1, 0, none⟩) (by dsimp only; omega) (.int .i64 0)).trans (belowK_b (w := w) (Nat.le_refl _) _ D _ (.deferred none) (by omega) hK2 rfl rfl)
    refine ⟨.tuple #[.int .u64 u, .int .i64 0], ?_, ⟨u, rfl⟩, Ext.of_below hB2⟩
    simp [results, Tryd.f84, go_sem, g1, g2]
end Go.Proofs.YtkklhhdkokncnaaDoor
/- The walk of 'reg.joined', where each field fits, and there is room. -/
namespace Go.Proofs.YtkklhhdkokncnaaDoor
open Go Go.RowKit
set_option maxRecDepth 100000
set_option maxHeartbeats 8000000

theorem info_fld : (Tryd.prog.info? 128).map (fun i => (i.zero, i.size, i.bytes)) = some (some (.agg #[.int .i64 0, .int .u64 0]), 2, 16) := by kernel_rfl
/-- The cells of fields. -/
def fldCells (bs vs : Nat → Int) : Nat → List Value
  | 0 => []
  | k + 1 => fldCells bs vs k ++ [.int .i64 (bs k), .int .u64 (vs k)]
theorem fldCells_len (bs vs : Nat → Int) (k : Nat) : (fldCells bs vs k).length = k * 2 := by
  induction k with
  | zero => rfl
  | succ k ih => simp [fldCells, ih]; omega
theorem fldCells_at (bs vs : Nat → Int) (n i : Nat) (h : i < n) : (fldCells bs vs n)[i * 2]? = some (.int .i64 (bs i)) ∧ (fldCells bs vs n)[i * 2 + 1]? = some (.int .u64 (vs i)) := by
  induction n with
  | zero => omega
  | succ n ih =>
    have hl := fldCells_len bs vs n
    by_cases e : i = n
    · subst e
      constructor
      · rw [fldCells, List.getElem?_append_right (by omega)]
        simp [hl]
      · rw [fldCells, List.getElem?_append_right (by omega)]
        simp [hl]
    · have := ih (by omega)
      constructor
      · rw [fldCells, List.getElem?_append_left (by omega)]
        exact this.1
      · rw [fldCells, List.getElem?_append_left (by omega)]
        exact this.2
theorem two_cells {w : World} {b : Nat} {x y : Value} (h : w.cell? ⟨b, 0, none⟩ = some x) (h2 : w.cell? ⟨b, 1, none⟩ = some y) : ∀ (j : Nat) (u : Value), [x, y][j]? = some u → w.cell? ((⟨b, 0, none⟩ : Addr).add j) = some u := by
  intro j u hu
  match j, hu with
  | 0, hu => simp at hu; subst hu; exact h
  | 1, hu => simp at hu; subst hu; exact h2
  | j + 2, hu => simp at hu
/-- A row of the call's own that is not empty: where it lies. -/
theorem own_lies {w : World} {base : Nat} {e : TypeId} {size n : Nat} {v : Value} {xs : List Value} (h : w.ownsRow base e size v n xs) (hn : 0 < n) :
    ∃ g cap, v = .slice (some ⟨g, 0, none⟩) n cap ∧ g < w.heap.size ∧ ∀ (j : Nat) (u : Value), xs[j]? = some u → w.cell? ⟨g, j, none⟩ = some u := by
  obtain ⟨h1, h2⟩ := h
  rcases h2 with ⟨rfl, rfl⟩ | ⟨g, cap, cur, rfl, hg, hc, hn', hcap, hs, ht⟩
  · exact absurd hn (Nat.lt_irrefl _)
  · refine ⟨g, cap, rfl, (Array.getElem?_eq_some_iff.1 hc).1, fun j u hu => ?_⟩
    have hj : j < xs.length := (List.getElem?_eq_some_iff.1 hu).1
    rw [← ht, List.getElem?_take] at hu
    split at hu
    · simp only [World.cell?, hc, Option.isSome_none, Bool.false_eq_true, if_false]
      simpa using hu
    · cases hu
/-- Numbers in a slice. -/
abbrev i64s (bs : Nat → Int) (n : Nat) : List Value := (List.range n).map fun i => .int .i64 (bs i)
abbrev u64s (vs : Nat → Int) (n : Nat) : List Value := (List.range n).map fun i => .int .u64 (vs i)
theorem joined_any (n : Nat) (bs vs : Nat → Int) (h1 : 1 ≤ n) (hn : n ≤ 100) (hbs : ∀ k, k < n → (1 ≤ bs k ∧ bs k ≤ 32) ∧ (0 ≤ offF bs k ∧ offF bs k ≤ 64 - bs k) ∧ (0 ≤ vs k ∧ vs k ≤ 2 ^ (bs k).toNat - 1)) (b1 b2 : Value) (w : World)
    (hb : Sl w b1 n (i64s bs n)) (hv : Sl w b2 n (u64s vs n)) :
    Calls Tryd.prog 42 #[b1, b2] w fun e w' => (∃ x, e = .returned (.tuple #[.int .u64 x, .int .i64 0])) ∧ Ext w w' := by
  obtain ⟨ad, cap, rfl, hb⟩ := hb
  obtain ⟨ad2, cap2, rfl, hv⟩ := hv
  obtain ⟨p1, o1, rfl, hb2⟩ := hb.pos (by omega)
  obtain ⟨p2, o2, rfl, hv2⟩ := hv.pos (by omega)
  have HB := Lib.hid hb2
  have HV := Lib.hid hv2
  have HBS := Lib.hid hbs
  obtain ⟨i1, hi, hz0, hz1, hz2⟩ := info_parts info_fld
  have HI1 := Lib.hid (And.intro hi (And.intro hz0 (And.intro hz1 hz2)))
  clear hb hv hb2 hv2 hbs hi hz0 hz1 hz2
  go_enter Tryd.func42, Tryd.ntmps42
  go_wp2
  go_loopw [6, 7, 8, 11] (fun t6 t7 t8 i wr => ∃ k : Nat, k ≤ n ∧ i = .int .i64 k ∧ Hid (wr.ownsRow w.heap.size 128 2 t6 k (fldCells bs vs k)) ∧ Hid (Ext w wr)) (fun _ _ _ i _ => n - (intOf i).toNat)
  case atStart => exact ⟨0, Nat.zero_le _, rfl, Lib.hid (own_nil _ _ _ _), Lib.hid EX⟩
  case round =>
    obtain ⟨k, hk, rfl, HA, HE⟩ := hrel
    by_cases hlt : k < n
    · obtain ⟨X, hX⟩ : ∃ X, bs k = X := ⟨_, rfl⟩
      obtain ⟨V, hV⟩ : ∃ V, vs k = V := ⟨_, rfl⟩
      have c1 := ext_cell HE.out (HB.out k (.int .i64 X) (by simp [i64s, hlt, hX]))
      have c2 := ext_cell HE.out (HV.out k (.int .u64 V) (by simp [u64s, hlt, hV]))
      have l1 := World.block_lt_of_cell? _ _ c1
      have l2 := World.block_lt_of_cell? _ _ c2
      dsimp only at l1 l2
      have hsz : w.heap.size ≤ wr.heap.size := HE.out.size
      have HXV := Lib.hid (And.intro hX hV)
      obtain ⟨adk, capk, e6⟩ := own_form HA.out
      have i0 : (0 : Int) ≤ (k : Int) := by omega
      have i1' : (k : Int) < (n : Int) := by omega
      clear hX hV
      go_wp2_with (at_builtin; refine wpList_append_own_at _ rfl _ _ 126 rfl w.heap.size 128 i1 (.agg #[.int .i64 0, .int .u64 0]) 2 16 Tryd.underlying126 HI1.out.1 HI1.out.2.1 HI1.out.2.2.1 HI1.out.2.2.2 rfl (by decide) u6 k (fldCells bs vs k) (by rfl) (by exact own_ext HA.out EXX) _ 1 1 [.int .i64 X, .int .u64 V] (by rfl) (by rfl) (by exact two_cells (by simp [go_sem]) (by simp [go_sem])) (by simp [Value.oneCell']) (by unfold maxLen; omega) (by omega) (by simp [go_sem]; omega) ?_; intro v2 w2 hown2 hgrow2 _ _; have HO2 := Lib.hid hown2; have HG2 := Lib.hid hgrow2; clear hown2 hgrow2)
      go_roundw
      case rel => exact ⟨k + 1, by omega, by go_num, Lib.hid (by rw [fldCells, HXV.out.1, HXV.out.2]; exact HO2.out), Lib.hid (ext_grown (Ext.trans HE.out EXX) HG2.out (fun j hj => (own_block HA.out hj).1))⟩
      case measure => simp [intOf]; omega
    · obtain rfl : k = n := by omega
      obtain ⟨g, capg, e6, hg, hc⟩ := own_lies HA.out (by omega)
      have HF : Hid (∀ i, i < k → wr.cell? ⟨g, 0 + i * 2, none⟩ = some (.int .i64 (bs i)) ∧ wr.cell? ⟨g, 0 + i * 2 + 1, none⟩ = some (.int .u64 (vs i))) := Lib.hid fun i hi => by
        rw [Nat.zero_add]
        exact ⟨hc _ _ (fldCells_at bs vs k i hi).1, hc _ _ (fldCells_at bs vs k i hi).2⟩
      subst e6
      clear hc
      go_wp2_with (go_at_call 84; refine (join_any k capg g 0 bs vs (by omega) HBS.out _ hg HF.out).mono ?_; rintro e w1 ⟨⟨x, rfl⟩, os1, n1, rfl⟩)
      exact bodyPost_ret (v := .tuple #[.int .u64 x, .int .i64 0]) (by simp [results, Tryd.results42, go_sem]) rfl ⟨⟨x, rfl⟩, HE.out.trans EX⟩
end Go.Proofs.YtkklhhdkokncnaaDoor
/- The walk of 'reg.small', 'reg.two', 'reg.Laid', where a desc fits a cell. -/
namespace Go.Proofs.YtkklhhdkokncnaaDoor
open Go Go.RowKit
set_option maxRecDepth 100000
set_option maxHeartbeats 8000000

def smallB (k : Nat) : Int := [5, 7, 4, 5, 7, 7, 6, 6, 3].getD k 0
def twoB (_ : Nat) : Int := 32
abbrev descV (t K Q : Int) (f : Frm) : Value := .agg #[.int .u64 t, .int .u8 K, .int .u8 Q, .int .u8 f.kind, .int .u32 f.a, .int .u32 f.b, .int .u8 f.pc, .int .u8 f.i, .int .u8 f.j, .int .u8 f.n, .int .u8 f.p, .int .u8 f.h, .int .u32 f.x, .int .u32 f.y]
/-- A desc fits into a cell. -/
structure FitsC (K Q : Int) (f : Frm) : Prop where
  K : 0 ≤ K ∧ K ≤ 31
  Q : 0 ≤ Q ∧ Q ≤ 127
  kind : 0 ≤ f.kind ∧ f.kind ≤ 15
  pc : 0 ≤ f.pc ∧ f.pc ≤ 31
  i : 0 ≤ f.i ∧ f.i ≤ 127
  j : 0 ≤ f.j ∧ f.j ≤ 127
  n : 0 ≤ f.n ∧ f.n ≤ 63
  p : 0 ≤ f.p ∧ f.p ≤ 63
  h : 0 ≤ f.h ∧ f.h ≤ 7
  a : 0 ≤ f.a ∧ f.a ≤ 4294967295
  b : 0 ≤ f.b ∧ f.b ≤ 4294967295
  x : 0 ≤ f.x ∧ f.x ≤ 4294967295
  y : 0 ≤ f.y ∧ f.y ≤ 4294967295
def smallV (K Q : Int) (f : Frm) (k : Nat) : Int := [K, Q, f.kind, f.pc, f.i, f.j, f.n, f.p, f.h].getD k 0
def twoV (a b : Int) (k : Nat) : Int := [a, b].getD k 0
theorem small_fit {K Q : Int} {f : Frm} (h : FitsC K Q f) (k : Nat) (hk : k < 9) : (1 ≤ smallB k ∧ smallB k ≤ 32) ∧ (0 ≤ offF smallB k ∧ offF smallB k ≤ 64 - smallB k) ∧ (0 ≤ smallV K Q f k ∧ smallV K Q f k ≤ 2 ^ (smallB k).toNat - 1) := by
  obtain ⟨h1, h2, h3, h4, h5, h6, h7, h8, h9, _⟩ := h
  match k, hk with
  | 0, _ => exact ⟨by decide, by decide, h1⟩
  | 1, _ => exact ⟨by decide, by decide, h2⟩
  | 2, _ => exact ⟨by decide, by decide, h3⟩
  | 3, _ => exact ⟨by decide, by decide, h4⟩
  | 4, _ => exact ⟨by decide, by decide, h5⟩
  | 5, _ => exact ⟨by decide, by decide, h6⟩
  | 6, _ => exact ⟨by decide, by decide, h7⟩
  | 7, _ => exact ⟨by decide, by decide, h8⟩
  | 8, _ => exact ⟨by decide, by decide, h9⟩
theorem two_fit {a b : Int} (ha : 0 ≤ a ∧ a ≤ 4294967295) (hb : 0 ≤ b ∧ b ≤ 4294967295) (k : Nat) (hk : k < 2) : (1 ≤ twoB k ∧ twoB k ≤ 32) ∧ (0 ≤ offF twoB k ∧ offF twoB k ≤ 64 - twoB k) ∧ (0 ≤ twoV a b k ∧ twoV a b k ≤ 2 ^ (twoB k).toNat - 1) := by
  match k, hk with
  | 0, _ => exact ⟨by decide, by decide, ha⟩
  | 1, _ => exact ⟨by decide, by decide, hb⟩
theorem lit_sl {W : World} {b n : Nat} {C : Array Value} {cs : List Value} (h : ∀ (j : Nat) (u : Value), C[j]? = some u → W.cell? ⟨b, j, none⟩ = some u) (hC : C = cs.toArray) (hn : n ≤ 1000) : Sl W (.slice (some ⟨b, 0, none⟩) n n) n cs := by
  subst hC
  exact ⟨_, _, rfl, Nat.le_refl _, by unfold maxLen; omega, Or.inr ⟨_, _, rfl, fun j u hu => by rw [Nat.zero_add]; exact h j u (by simpa using hu)⟩⟩
theorem small_any (w : World) : Calls Tryd.prog 43 #[] w fun e w' => ∃ v, (e = .returned v ∧ Hid (Sl w' v 9 (i64s smallB 9))) ∧ Ext w w' := by
  go_enter Tryd.func43, Tryd.ntmps43
  go_wp2
  refine bodyPost_ret (v := .slice (some ⟨w.heap.size, 0, none⟩) 9 9) (by simp [results, Tryd.results43, go_sem]) rfl ⟨_, ⟨rfl, Lib.hid (lit_sl (C := #[.int .i64 5, .int .i64 7, .int .i64 4, .int .i64 5, .int .i64 7, .int .i64 7, .int .i64 6, .int .i64 6, .int .i64 3]) (fun j u hu => by simpa [go_sem] using hu) (by kernel_rfl) (by decide))⟩, EX⟩
theorem two_any (w : World) : Calls Tryd.prog 44 #[] w fun e w' => ∃ v, (e = .returned v ∧ Hid (Sl w' v 2 (i64s twoB 2))) ∧ Ext w w' := by
  go_enter Tryd.func44, Tryd.ntmps44
  go_wp2
  refine bodyPost_ret (v := .slice (some ⟨w.heap.size, 0, none⟩) 2 2) (by simp [results, Tryd.results44, go_sem]) rfl ⟨_, ⟨rfl, Lib.hid (lit_sl (C := #[.int .i64 32, .int .i64 32]) (fun j u hu => by simpa [go_sem] using hu) (by kernel_rfl) (by decide))⟩, EX⟩
theorem u64s_succ (vs : Nat → Int) (k : Nat) : u64s vs (k + 1) = u64s vs k ++ [.int .u64 (vs k)] := by simp [u64s, List.range_succ]
theorem joined_two (a b : Int) (ha : 0 ≤ a ∧ a ≤ 4294967295) (hb : 0 ≤ b ∧ b ≤ 4294967295) (v : Value) (q : Nat) (w : World) (hv : Sl w v 2 (i64s twoB 2)) (h0 : w.cell? ⟨q, 0, none⟩ = some (.int .u64 a)) (h1 : w.cell? ⟨q, 1, none⟩ = some (.int .u64 b)) :
    Calls Tryd.prog 42 #[v, .slice (some ⟨q, 0, none⟩) 2 2] w fun e w' => (∃ x, e = .returned (.tuple #[.int .u64 x, .int .i64 0])) ∧ Ext w w' :=
  joined_any 2 twoB (twoV a b) (by decide) (by decide) (fun k hk => two_fit ha hb k hk) v _ w hv (lit_sl (C := #[.int .u64 a, .int .u64 b]) (fun j u hu => by
    match j, hu with
    | 0, hu => simp at hu; subst hu; exact h0
    | 1, hu => simp at hu; subst hu; exact h1
    | j + 2, hu => simp at hu) (by simp [u64s, twoV, List.range_succ]) (by decide))
theorem one_cell {w : World} {b : Nat} {x : Value} (h : w.cell? ⟨b, 0, none⟩ = some x) : ∀ (j : Nat) (u : Value), [x][j]? = some u → w.cell? ((⟨b, 0, none⟩ : Addr).add j) = some u := by
  intro j u hu
  match j, hu with
  | 0, hu => simp at hu; subst hu; exact h
  | j + 1, hu => simp at hu
theorem info_u64 : (Tryd.prog.info? 22).map (fun i => (i.zero, i.size, i.bytes)) = some (some (.int .u64 0), 1, 8) := by kernel_rfl
theorem smallV_fit {K Q : Int} {f : Frm} (h : FitsC K Q f) (k : Nat) : 0 ≤ smallV K Q f k ∧ smallV K Q f k ≤ 255 := by
  obtain ⟨h1, h2, h3, h4, h5, h6, h7, h8, h9, _⟩ := h
  match k with
  | 0 => simp [smallV]; omega
  | 1 => simp [smallV]; omega
  | 2 => simp [smallV]; omega
  | 3 => simp [smallV]; omega
  | 4 => simp [smallV]; omega
  | 5 => simp [smallV]; omega
  | 6 => simp [smallV]; omega
  | 7 => simp [smallV]; omega
  | 8 => simp [smallV]; omega
  | k + 9 => simp [smallV]
abbrev smallA (K Q : Int) (f : Frm) : Value := .agg #[.int .u8 K, .int .u8 Q, .int .u8 f.kind, .int .u8 f.pc, .int .u8 f.i, .int .u8 f.j, .int .u8 f.n, .int .u8 f.p, .int .u8 f.h]
theorem small_index (K Q : Int) (f : Frm) (k : Nat) (hk : k < 9) (w : World) : (Instr.index 92 (smallA K Q f) (.int .i64 k)).run Tryd.prog w = .ok (.int .u8 (smallV K Q f k)) w := by
  obtain rfl | rfl | rfl | rfl | rfl | rfl | rfl | rfl | rfl : k = 0 ∨ k = 1 ∨ k = 2 ∨ k = 3 ∨ k = 4 ∨ k = 5 ∨ k = 6 ∨ k = 7 ∨ k = 8 := by omega
  all_goals kernel_rfl
def laidBase (w : World) (t K Q : Int) (f : Frm) : World := ((w.alloc (.cells #[.int .u64 t, .int .u8 K, .int .u8 Q, .int .u8 f.kind, .int .u32 f.a, .int .u32 f.b, .int .u8 f.pc, .int .u8 f.i, .int .u8 f.j, .int .u8 f.n, .int .u8 f.p, .int .u8 f.h, .int .u32 f.x, .int .u32 f.y] 68)).alloc (.cells #[.int .u64 0, .int .u64 0, .int .u64 0, .int .u64 0] 37)).alloc (.cells #[.int .u8 f.kind, .int .u32 f.a, .int .u32 f.b, .int .u8 f.pc, .int .u8 f.i, .int .u8 f.j, .int .u8 f.n, .int .u8 f.p, .int .u8 f.h, .int .u32 f.x, .int .u32 f.y] 27)
theorem laid_any (t K Q : Int) (f : Frm) (hf : FitsC K Q f) (w : World) : Calls Tryd.prog 24 #[descV t K Q f] w
    fun e w' => (∃ x y z, e = .returned (.tuple #[.agg #[.int .u64 t, .int .u64 x, .int .u64 y, .int .u64 z], .int .i64 0])) ∧ Ext w w' := by
  have HF := Lib.hid hf
  obtain ⟨i1, hi, hz0, hz1, hz2⟩ := info_parts info_u64
  have HI1 := Lib.hid (And.intro hi (And.intro hz0 (And.intro hz1 hz2)))
  clear hf hi hz0 hz1 hz2
  go_enter Tryd.func24, Tryd.ntmps24
  go_wp2
  go_loopw [5, 7, 35] (fun t5 t7 i wr => ∃ m : Nat, m ≤ 9 ∧ i = .int .i64 m ∧ Hid (wr.ownsRow (w.heap.size + 3) 22 1 t5 m (u64s (smallV K Q f) m)) ∧ Hid (Ext (laidBase w t K Q f) wr)) (fun _ _ i _ => 9 - (intOf i).toNat)
  case atStart => exact ⟨0, Nat.zero_le _, rfl, Lib.hid (own_nil _ _ _ _), Lib.hid (by unfold laidBase; exact EX)⟩
  case round =>
    obtain ⟨m, hm, rfl, HA, HE⟩ := hrel
    have hsz : w.heap.size + 3 ≤ wr.heap.size := by have := HE.out.size; simp [laidBase] at this; omega
    by_cases hlt : m < 9
    · obtain ⟨V, hV⟩ : ∃ V, smallV K Q f m = V := ⟨_, rfl⟩
      have hVf := smallV_fit HF.out m
      have hidx : ∀ w : World, (Instr.index 92 (smallA K Q f) (.int .i64 m)).run Tryd.prog w = .ok (.int .u8 V) w := fun w => by rw [← hV]; exact small_index K Q f m hlt w
      rw [hV] at hVf
      have HVV := Lib.hid hV
      have i0 : (0 : Int) ≤ (m : Int) := by omega
      have i1' : (m : Int) < 9 := by omega
      have v0 : V % 18446744073709551616 = V := by omega
      have v1 : IntKind.u64.wrap V = V := by rw [IntKind.wrap_u64]; omega
      obtain ⟨adk, capk, e6⟩ := own_form HA.out
      clear hV
      go_wp2_with (at_builtin; refine wpList_append_own_at _ rfl _ _ 91 rfl (w.heap.size + 3) 22 i1 (.int .u64 0) 1 8 Tryd.underlying91 HI1.out.1 HI1.out.2.1 HI1.out.2.2.1 HI1.out.2.2.2 rfl (by decide) u5 m (u64s (smallV K Q f) m) (by rfl) (by exact own_ext HA.out EXX) _ 1 1 [.int .u64 V] (by rfl) (by rfl) (by exact one_cell (by simp [go_sem])) (by simp [Value.oneCell']) (by unfold maxLen; omega) (by omega) (by simp [go_sem]; omega) ?_; intro v2 w2 hown2 hgrow2 _ _; have HO2 := Lib.hid hown2; have HG2 := Lib.hid hgrow2; clear hown2 hgrow2)
      go_roundw
      case rel => exact ⟨m + 1, by omega, by go_num, Lib.hid (by rw [u64s_succ, HVV.out]; exact HO2.out), Lib.hid (ext_grown (Ext.trans HE.out EXX) HG2.out (fun j hj => by have := (own_block HA.out hj).1; simp [laidBase]; omega))⟩
      case measure => simp [intOf]; omega
    · obtain rfl : m = 9 := by omega
      have HA5 : Hid (Sl wr u5 9 (u64s (smallV K Q f) 9)) := Lib.hid (own_slB HA.out (lo := 0) (by omega)).sl
      have wa : IntKind.u64.wrap f.a = f.a := by have := HF.out.a; rw [IntKind.wrap_u64]; omega
      have wb : IntKind.u64.wrap f.b = f.b := by have := HF.out.b; rw [IntKind.wrap_u64]; omega
      have wx : IntKind.u64.wrap f.x = f.x := by have := HF.out.x; rw [IntKind.wrap_u64]; omega
      have wy : IntKind.u64.wrap f.y = f.y := by have := HF.out.y; rw [IntKind.wrap_u64]; omega
      have wa' : f.a % 18446744073709551616 = f.a := by have := HF.out.a; omega
      have wb' : f.b % 18446744073709551616 = f.b := by have := HF.out.b; omega
      have wx' : f.x % 18446744073709551616 = f.x := by have := HF.out.x; omega
      have wy' : f.y % 18446744073709551616 = f.y := by have := HF.out.y; omega
      have hX := HE.out
      unfold laidBase at hX
      obtain ⟨os, d, rfl⟩ := hX
      clear HA HE
      go_upto_region 11 with (first | (go_at_call 43; refine (small_any _).mono ?_; rintro e w1 ⟨vs, ⟨rfl, HS⟩, os1, n1, rfl⟩; have hs := HS.out; (try simp only [grew_grew] at hs); clear HS; have HS := Lib.hid hs; clear hs) | (go_at_call 42; refine (joined_any 9 smallB (smallV K Q f) (by decide) (by decide) (fun k hk => small_fit HF.out k hk) _ _ _ (HS.out.ext EXX) (HA5.out.ext EXX)).mono ?_; rintro e w1 ⟨⟨x, rfl⟩, os2, n2, rfl⟩))
      go_cut [10, 11] (fun t10 t11 wn => ∃ y, t10 = .int .u64 y ∧ t11 = .int .i64 0 ∧ Hid (Ext (laidBase w t K Q f) wn))
      case first =>
        go_region_held3 (fun W => W.cell? ⟨w.heap.size + 1 + 1, 1, none⟩ = some (.int .u32 f.a) ∧ W.cell? ⟨w.heap.size + 1 + 1, 2, none⟩ = some (.int .u32 f.b))
          ((simp [go_sem]; done))
          (first | (go_at_call 44; refine (two_any _).mono ?_; rintro e w1 ⟨vs, ⟨rfl, HS2⟩, os1, n1, rfl⟩; have hs := HS2.out; (try simp only [drew_grew, grew_grew] at hs); clear HS2; have HS2 := Lib.hid hs; clear hs) | (go_at_call 42; refine (joined_two f.a f.b HF.out.a HF.out.b _ _ _ (HS2.out.ext EXX) (by simp [go_sem]) (by simp [go_sem])).mono ?_; rintro e w1 ⟨⟨y, rfl⟩, os2, n2, rfl⟩))
        all_goals
          go_wp2_with fail
          go_meet
          case rel => exact ⟨_, rfl, rfl, Lib.hid (by unfold laidBase; exact EXX)⟩
      case rest =>
        obtain ⟨y, rfl, rfl, HX⟩ := hcut
        have hX := HX.out
        unfold laidBase at hX
        obtain ⟨os', d', rfl⟩ := hX
        go_upto_region 12 with fail
        go_region_held3 (fun W => W.cell? ⟨w.heap.size + 1 + 1, 9, none⟩ = some (.int .u32 f.x) ∧ W.cell? ⟨w.heap.size + 1 + 1, 10, none⟩ = some (.int .u32 f.y))
          ((simp [go_sem]; done))
          (first | (go_at_call 44; refine (two_any _).mono ?_; rintro e w1 ⟨vs, ⟨rfl, HS3⟩, os1, n1, rfl⟩; have hs := HS3.out; (try simp only [drew_grew, grew_grew] at hs); clear HS3; have HS3 := Lib.hid hs; clear hs) | (go_at_call 42; refine (joined_two f.x f.y HF.out.x HF.out.y _ _ _ (HS3.out.ext EXX) (by simp [go_sem]) (by simp [go_sem])).mono ?_; rintro e w1 ⟨⟨z, rfl⟩, os2, n2, rfl⟩))
        all_goals go_wp2_with fail
        all_goals exact bodyPost_ret (v := .tuple #[.agg #[.int .u64 t, .int .u64 x, .int .u64 y, .int .u64 z], .int .i64 0]) (by simp [results, Tryd.results24, go_sem]) rfl ⟨⟨_, _, _, rfl⟩, EX⟩
end Go.Proofs.YtkklhhdkokncnaaDoor
