/- The walk of 'pack.Join', where each field fits, and there is room. -/
import Derived.Test.YtmbodooikfmegaaDoorJn4
import Derived.Deep.QuietTactic
import Derived.BigQuiet
import Derived.Laws.EntriesVeiled
namespace Go.Proofs.YtmbodooikfmegaaDoor
open Go Go.RowKit Go.Shelf

attribute [local go_sem] Oper.semAt_some
set_option maxRecDepth 100000 in
theorem places_any (n : Int) (g : Fn) (cs : Array Value) (w : World) : Calls Tryd.prog 78 #[.int .i64 n, .func g #[] cs] w
    fun e w' => e = .returned (.func (.func 90) #[] #[.pointer (some ⟨w.heap.size, 0, none⟩), .pointer (some ⟨w.heap.size + 1 + 1 + 1, 0, none⟩), .pointer (some ⟨w.heap.size + 1, 0, none⟩)]) ∧
      ∃ t1 t2 t3 t4, w' = (((w.alloc (.cells #[.int .i64 n] t1)).alloc (.cells #[.func g #[] cs] t2)).alloc (.cells #[.int .i64 0] t3)).alloc (.cells #[.func (.func 88) #[] #[.pointer (some ⟨w.heap.size + 1 + 1, 0, none⟩)]] t4) := by
  go_enter Tryd.func78, Tryd.ntmps78
  go_wp2
  go_ret
  exact ⟨rfl, _, _, _, _, rfl⟩
/-- A world in which a join stands so. -/
structure JT (q : JB) (w0 : World) (M0 : Nat) (a : Int) (l D : Nat) (r d : Obj) where
  val : World
  js : Jst q w0 M0 a val
  kp : Kept l D r d val
theorem put_class (q : JB) (w0 : World) (M0 : Nat) (hq : JBok q w0 M0) (l D : Nat) (r d : Obj) (hl : M0 ≤ l) (hD : M0 ≤ D) (at' a b v : Int) (hb : 1 ≤ b ∧ b ≤ 32) (ha : 0 ≤ a ∧ a ≤ 64) (p : JT q w0 M0 at' l D r d) :
    Calls Tryd.prog 81 #[.pointer (some ⟨q.bx, 0, none⟩), .int .i64 a, .int .i64 b, .int .u64 v] p.val fun e w' => e = .returned (.tuple #[]) ∧ ∃ p' : JT q w0 M0 at' l D r d, w' = p'.val := by
  obtain ⟨u, hu⟩ := p.js.x
  refine (put_any q.bx a b v u hb ha p.val hu p.js.xf).mono ?_
  rintro e w' ⟨rfl, u', hx⟩
  have hbx := hq.x.1
  have h2 : Kept l D r d (p.val.setCell ⟨q.bx, 0, none⟩ (.int .u64 u')) := p.kp.set _ (by omega) (by omega)
  exact ⟨rfl, ⟨w', (p.js.setX hq u').ext hq hx, h2.ext hx⟩, rfl⟩
set_option maxRecDepth 100000 in
set_option maxHeartbeats 4000000 in
theorem join_any (n cap : Nat) (b o : Nat) (bs vs : Nat → Int) (hn : n ≤ 1000) (hbs : ∀ k, k < n → (1 ≤ bs k ∧ bs k ≤ 32) ∧ (0 ≤ offF bs k ∧ offF bs k ≤ 64 - bs k) ∧ (0 ≤ vs k ∧ vs k ≤ 2 ^ (bs k).toNat - 1)) (w : World)
    (hb : b < w.heap.size) (hf : ∀ i, i < n → w.cell? ⟨b, o + i * 2, none⟩ = some (.int .i64 (bs i)) ∧ w.cell? ⟨b, o + i * 2 + 1, none⟩ = some (.int .u64 (vs i))) :
    Calls Tryd.prog 63 #[.slice (some ⟨b, o, none⟩) n cap] w fun e w' => (∃ x, e = .returned (.tuple #[.int .u64 x, .int .i64 0])) ∧ Ext w w' := by
  have HBS := Lib.hid hbs
  have HF := Lib.hid hf
  clear hbs hf
  refine (callsIn_wide (n := 4)).1 ?_
  refine callsIn_of_wp_marks Tryd.func63 rfl trivial ?_ rfl
  simp only [Tryd.ntmps63, List.size_toArray, List.length_cons, List.length_nil, Nat.reduceAdd, Nat.reduceSub, Array.replicate_succ, Array.replicate_zero, List.push_toArray, List.append_toArray, List.nil_append, List.cons_append]
  gi_wp2_with (refine ⟨trivial, ?_⟩; gi_at_call 78; refine (callsIn_wide.2 (places_any _ _ _ _)).mono ?_; rintro e w1 ⟨rfl, t1, t2, t3, t4, rfl⟩)
  obtain ⟨q, hq0⟩ : ∃ q : JB, (JB.mk (w.heap.size) (w.heap.size + 1 + 1 + 1) (w.heap.size + 1 + 1 + 1 + 1) (w.heap.size + 1 + 1 + 1 + 1 + 1) (w.heap.size + 1 + 1 + 1 + 1 + 1 + 1) (w.heap.size + 1 + 1 + 1 + 1 + 1 + 1 + 1) (w.heap.size + 1 + 1 + 1 + 1 + 1 + 1 + 1 + 1) (w.heap.size + 1) (w.heap.size + 1 + 1) b o n cap bs vs) = q := ⟨_, rfl⟩
  obtain ⟨M0, hM0⟩ : ∃ M, w.heap.size + 1 + 1 + 1 + 1 + 1 + 1 + 1 + 1 + 1 = M := ⟨_, rfl⟩
  have hq : JBok q w M0 := by
    subst hq0
    subst hM0
    constructor
    all_goals (try dsimp only)
    all_goals omega
  have HQ := Lib.hid hq
  have hst0 : Jst q w M0 (offF bs 0) (((((((((w.alloc (.cells #[.slice (some ⟨b, o, none⟩) n cap] 116)).alloc (.cells #[.int .u64 0] 22)).alloc (.cells #[.int .i64 0] 28)).alloc (.cells #[.int .u64 0] 132)).alloc (.cells #[.bool true] 4)).alloc (.cells #[.int .i64 n] t1)).alloc (.cells #[.func (.func 79) #[] #[.pointer (some ⟨w.heap.size, 0, none⟩)]] t2)).alloc (.cells #[.int .i64 0] t3)).alloc (.cells #[.func (.func 88) #[] #[.pointer (some ⟨w.heap.size + 1 + 1 + 1 + 1 + 1 + 1 + 1, 0, none⟩)]] t4)) := by
    subst hq0
    subst hM0
    have hx : Ext w (((((((((w.alloc (.cells #[.slice (some ⟨b, o, none⟩) n cap] 116)).alloc (.cells #[.int .u64 0] 22)).alloc (.cells #[.int .i64 0] 28)).alloc (.cells #[.int .u64 0] 132)).alloc (.cells #[.bool true] 4)).alloc (.cells #[.int .i64 n] t1)).alloc (.cells #[.func (.func 79) #[] #[.pointer (some ⟨w.heap.size, 0, none⟩)]] t2)).alloc (.cells #[.int .i64 0] t3)).alloc (.cells #[.func (.func 88) #[] #[.pointer (some ⟨w.heap.size + 1 + 1 + 1 + 1 + 1 + 1 + 1, 0, none⟩)]] t4)) := (by repeat (first | with_reducible exact Ext.refl _ | with_reducible assumption | with_reducible refine Ext.alloc ?_ _ | with_reducible refine Ext.gr ?_ _ | with_reducible refine Ext.drewN ?_ _ | with_reducible refine Ext.drew ?_ | with_reducible refine Ext.setCell ?_ ?_ _ | with_reducible refine Ext.more ?_ _ _ | (show _ ≤ _; dsimp only; omega)))
    exact ⟨by simp [go_sem], by simp [go_sem], by simp [go_sem], by simp [go_sem], by simp [go_sem], fun i hi => ⟨ext_cell hx (HF.out i hi).1, ext_cell hx (HF.out i hi).2⟩, ⟨0, by simp [go_sem]⟩, by simp [go_sem], by simp [go_sem, offF], by simp [go_sem], by simp [go_sem], by simp [go_sem], by simp [go_sem], by simp [go_sem], hx.below, by simp [go_sem]⟩
  have HST := Lib.hid hst0
  have hbs2 : ∀ k, k < q.N → (1 ≤ q.bs k ∧ q.bs k ≤ 32) ∧ (0 ≤ offF q.bs k ∧ offF q.bs k ≤ 64 - q.bs k) := by
    subst hq0
    exact fun k hk => ⟨(HBS.out k hk).1, (HBS.out k hk).2.1⟩
  have HB2 := Lib.hid hbs2
  have hMw : (((((((((w.alloc (.cells #[.slice (some ⟨b, o, none⟩) n cap] 116)).alloc (.cells #[.int .u64 0] 22)).alloc (.cells #[.int .i64 0] 28)).alloc (.cells #[.int .u64 0] 132)).alloc (.cells #[.bool true] 4)).alloc (.cells #[.int .i64 n] t1)).alloc (.cells #[.func (.func 79) #[] #[.pointer (some ⟨w.heap.size, 0, none⟩)]] t2)).alloc (.cells #[.int .i64 0] t3)).alloc (.cells #[.func (.func 88) #[] #[.pointer (some ⟨w.heap.size + 1 + 1 + 1 + 1 + 1 + 1 + 1, 0, none⟩)]] t4)).heap.size = M0 := by rw [← hM0]; simp [go_sem]
  have hqf : q.N = n ∧ q.bs = bs ∧ q.vs = vs ∧ q.bm = w.heap.size + 1 + 1 + 1 + 1 + 1 ∧ q.bn = w.heap.size + 1 + 1 + 1 + 1 + 1 + 1 + 1 + 1 ∧ q.bb = w.heap.size + 1 + 1 + 1 + 1 + 1 + 1 ∧ q.bl = w.heap.size ∧ q.bx = w.heap.size + 1 + 1 + 1 ∧ q.bf = w.heap.size + 1 + 1 + 1 + 1 ∧ q.b = b ∧ q.o = o ∧ q.cap = cap ∧ q.b2 = w.heap.size + 1 ∧ q.b3 = w.heap.size + 1 + 1 := by
    subst hq0
    exact ⟨rfl, rfl, rfl, rfl, rfl, rfl, rfl, rfl, rfl, rfl, rfl, rfl, rfl, rfl⟩
  have HQF := Lib.hid hqf
  clear hq hst0 hbs2 hq0 hqf
  refine wpIn_range_rounds rfl (by decide) (gf := 90) (lb := #[.pointer (some ⟨w.heap.size + 1 + 1 + 1 + 1 + 1, 0, none⟩), .pointer (some ⟨w.heap.size + 1 + 1 + 1 + 1 + 1 + 1 + 1 + 1, 0, none⟩), .pointer (some ⟨w.heap.size + 1 + 1 + 1 + 1 + 1 + 1, 0, none⟩)]) rfl trivial (enters_of Tryd.func90 (by kernel_rfl) rfl) n (fun k => #[.int .i64 k, .int .i64 (offF bs k)]) (fun _ => rfl)
    (fun k => Jst q w M0 (offF bs k)) (fun k => Jst q w M0 (offF bs (k + 1)))
    (fun k => { tmps := #[.slice (some ⟨b, o, none⟩) n cap, .pointer (some ⟨w.heap.size, 0, none⟩), .pointer (some ⟨w.heap.size + 1, 0, none⟩), .pointer (some ⟨w.heap.size + 1 + 1, 0, none⟩), .pointer (some ⟨w.heap.size + 1 + 1 + 1, 0, none⟩), .pointer (some ⟨w.heap.size + 1 + 1 + 1 + 1, 0, none⟩), .int .i64 k, .int .i64 (offF bs k), .agg #[.int .u64 0], .slice (some ⟨b, o, none⟩) n cap, .int .i64 n, .func (.func 79) #[] #[.pointer (some ⟨w.heap.size, 0, none⟩)], .func (.func 90) #[] #[.pointer (some ⟨w.heap.size + 1 + 1 + 1 + 1 + 1, 0, none⟩), .pointer (some ⟨w.heap.size + 1 + 1 + 1 + 1 + 1 + 1 + 1 + 1, 0, none⟩), .pointer (some ⟨w.heap.size + 1 + 1 + 1 + 1 + 1 + 1, 0, none⟩)], .int .i64 k, .int .i64 (offF bs k), undef, undef, undef, undef, undef, undef, undef, undef, undef, undef, undef, undef, undef, undef, undef, undef, undef, undef, undef, undef, undef, undef, undef, undef, undef, undef, undef, undef, undef, undef], defers := [] })
    (fun k W l o o' hj hl ho _ => hj.put HQ.out o' (by rw [← hMw]; exact hl) ho) (fun k W l o o' hj hl ho _ => hj.put HQ.out o' (by rw [← hMw]; exact hl) ho)
    (fun o o' => HST.out.ext HQ.out (by repeat (first | with_reducible exact Ext.refl _ | with_reducible assumption | with_reducible refine Ext.alloc ?_ _ | with_reducible refine Ext.gr ?_ _ | with_reducible refine Ext.drewN ?_ _ | with_reducible refine Ext.drew ?_ | with_reducible refine Ext.setCell ?_ ?_ _ | with_reducible refine Ext.more ?_ _ _ | (show _ ≤ _; dsimp only; omega)))) ?iter ?assign ?body ?done
  case iter =>
    intro l D r d W hl hD h0 hk hY
    rw [hMw] at hl hD
    obtain ⟨e1, e2, _, e4, e5, e6, _⟩ := HQF.out
    have h := places2_in q w M0 HQ.out (by rw [e1]; exact hn) HB2.out l D r d W hl hD (by rw [e2]; exact h0) hk (fun k W1 hk1 hj hkk => by rw [e2] at hj ⊢; exact hY k W1 (by rw [← e1]; exact hk1) hj hkk)
    rw [e1, e2, e4, e5, e6] at h
    exact h
  case assign =>
    intro l k W K hK
    have HK := Lib.hid hK
    have ez : (#[13, 14] : Array Tmp).zip #[Value.int .i64 k, Value.int .i64 (offF bs k)] = #[(13, Value.int .i64 k), (14, Value.int .i64 (offF bs k))] := by simp
    simp only [ez]
    clear hK
    show Code.wpIn _ _ _ _ _ { tmps := #[.slice (some ⟨b, o, none⟩) n cap, .pointer (some ⟨w.heap.size, 0, none⟩), .pointer (some ⟨w.heap.size + 1, 0, none⟩), .pointer (some ⟨w.heap.size + 1 + 1, 0, none⟩), .pointer (some ⟨w.heap.size + 1 + 1 + 1, 0, none⟩), .pointer (some ⟨w.heap.size + 1 + 1 + 1 + 1, 0, none⟩), undef, undef, .agg #[.int .u64 0], .slice (some ⟨b, o, none⟩) n cap, .int .i64 n, .func (.func 79) #[] #[.pointer (some ⟨w.heap.size, 0, none⟩)], .func (.func 90) #[] #[.pointer (some ⟨w.heap.size + 1 + 1 + 1 + 1 + 1, 0, none⟩), .pointer (some ⟨w.heap.size + 1 + 1 + 1 + 1 + 1 + 1 + 1 + 1, 0, none⟩), .pointer (some ⟨w.heap.size + 1 + 1 + 1 + 1 + 1 + 1, 0, none⟩)], .int .i64 k, .int .i64 (offF bs k), undef, undef, undef, undef, undef, undef, undef, undef, undef, undef, undef, undef, undef, undef, undef, undef, undef, undef, undef, undef, undef, undef, undef, undef, undef, undef, undef, undef, undef, undef], defers := [] } _
    gi_wp2
    exact HK.out
  case body =>
    intro l D r d k W hl hD hk hJ hK
    rw [hMw] at hl hD
    obtain ⟨e1, e2, e3, e4, e5, e6, e7, e8, e9, e10, e11, e12, e13, e14⟩ := HQF.out
    obtain ⟨A, hA⟩ : ∃ A, offF bs k = A := ⟨_, rfl⟩
    obtain ⟨A', hA'⟩ : ∃ A, offF bs (k + 1) = A := ⟨_, rfl⟩
    obtain ⟨X, hX⟩ : ∃ X, bs k = X := ⟨_, rfl⟩
    obtain ⟨V, hV⟩ : ∃ X, vs k = X := ⟨_, rfl⟩
    obtain ⟨M, hM⟩ : ∃ M, (2 : Int) ^ X.toNat - 1 = M := ⟨_, rfl⟩
    have hbk := HBS.out k hk
    rw [hA, hX, hV, hM] at hbk
    simp only [hA'] at hJ ⊢
    simp only [hA]
    have HM := Lib.hid hM
    have HB := Lib.hid hbk.1
    have HA : Hid (0 ≤ A ∧ A ≤ 64) := Lib.hid (by omega)
    have hVM : ¬ M < V := by omega
    have a0 : ¬ A < 0 := by omega
    have k0 : (0 : Int) ≤ (k : Int) := by omega
    have k1 : (k : Int) < (n : Int) := by omega
    have f1 : ∀ p : JT q w M0 A' l D r d, p.val.cell? ⟨w.heap.size, 0, none⟩ = some (.slice (some ⟨b, o, none⟩) n cap) := fun p => by
      have h := p.js.sl
      rw [e7, e10, e11, e1, e12] at h
      exact h
    have f2 : ∀ p : JT q w M0 A' l D r d, p.val.cell? ⟨b, o + k * 2, none⟩ = some (.int .i64 X) := fun p => by
      have h := (p.js.fld k (by rw [e1]; exact hk)).1
      rw [e10, e11, e2, hX] at h
      exact h
    have f3 : ∀ p : JT q w M0 A' l D r d, p.val.cell? ⟨b, o + k * 2 + 1, none⟩ = some (.int .u64 V) := fun p => by
      have h := (p.js.fld k (by rw [e1]; exact hk)).2
      rw [e10, e11, e3, hV] at h
      exact h
    have HPUT : Hid (∀ p : JT q w M0 A' l D r d, Calls Tryd.prog 81 #[.pointer (some ⟨w.heap.size + 1 + 1 + 1, 0, none⟩), .int .i64 A, .int .i64 X, .int .u64 V] p.val fun e w' => e = .returned (.tuple #[]) ∧ ∃ p' : JT q w M0 A' l D r d, w' = p'.val) := Lib.hid fun p => by
      have h := put_class q w M0 HQ.out l D r d hl hD A' A X V HB.out HA.out p
      rw [e8] at h
      exact h
    have HJ := Lib.hid hJ
    have HK := Lib.hid hK
    haveI hne : Nonempty (JT q w M0 A' l D r d) := ⟨⟨W, hJ, hK⟩⟩
    clear hA hA' hX hV hM hbk hJ hK e1 e2 e3 e4 e5 e6 e7 e8 e9 e10 e11 e12 e13 e14
    gi_wp2
    refine wpIn_region_class_lit (fun p : JT q w M0 A' l D r d => p.val) ?_ (by kernel_rfl) (by kernel_rfl) (by kernel_rfl) ⟨⟨W.drew, HJ.out.ext HQ.out (by repeat (first | with_reducible exact Ext.refl _ | with_reducible assumption | with_reducible refine Ext.alloc ?_ _ | with_reducible refine Ext.gr ?_ _ | with_reducible refine Ext.drewN ?_ _ | with_reducible refine Ext.drew ?_ | with_reducible refine Ext.setCell ?_ ?_ _ | with_reducible refine Ext.more ?_ _ _ | (show _ ≤ _; dsimp only; omega))), HK.out.ext (by repeat (first | with_reducible exact Ext.refl _ | with_reducible assumption | with_reducible refine Ext.alloc ?_ _ | with_reducible refine Ext.gr ?_ _ | with_reducible refine Ext.drewN ?_ _ | with_reducible refine Ext.drew ?_ | with_reducible refine Ext.setCell ?_ ?_ _ | with_reducible refine Ext.more ?_ _ _ | (show _ ≤ _; dsimp only; omega)))⟩, rfl⟩ ?_
    · rintro ⟨_, _, h, _⟩
      cases h
    · (repeat (go_big_quiet_step ((go_at_call 80; exact (mask_still X HB.out _).mono fun e w' ⟨he, hw⟩ => ⟨by rw [he, HM.out], ⟨_, hw⟩⟩))))
      refine wpQuiet_nil ?_
      rintro _ ⟨p2, rfl⟩
      have HJ2 := Lib.hid p2.js
      have HK2 := Lib.hid p2.kp
      clear HJ HK
      gi_wp2
      refine wpIn_region_class_lit (fun p : JT q w M0 A' l D r d => p.val) ?_ (by kernel_rfl) (by kernel_rfl) (by kernel_rfl) ⟨⟨p2.val.drew, HJ2.out.ext HQ.out (by repeat (first | with_reducible exact Ext.refl _ | with_reducible assumption | with_reducible refine Ext.alloc ?_ _ | with_reducible refine Ext.gr ?_ _ | with_reducible refine Ext.drewN ?_ _ | with_reducible refine Ext.drew ?_ | with_reducible refine Ext.setCell ?_ ?_ _ | with_reducible refine Ext.more ?_ _ _ | (show _ ≤ _; dsimp only; omega))), HK2.out.ext (by repeat (first | with_reducible exact Ext.refl _ | with_reducible assumption | with_reducible refine Ext.alloc ?_ _ | with_reducible refine Ext.gr ?_ _ | with_reducible refine Ext.drewN ?_ _ | with_reducible refine Ext.drew ?_ | with_reducible refine Ext.setCell ?_ ?_ _ | with_reducible refine Ext.more ?_ _ _ | (show _ ≤ _; dsimp only; omega)))⟩, rfl⟩ ?_
      · rintro ⟨_, _, h, _⟩
        cases h
      · (repeat (go_big_quiet_step ((go_at_call 81; exact HPUT.out _))))
        refine wpQuiet_nil ?_
        rintro _ ⟨p3, rfl⟩
        have HJ3 := Lib.hid p3.js
        have HK3 := Lib.hid p3.kp
        clear HJ2 HK2
        gi_wp2
        exact ⟨HJ3.out, HK3.out⟩
  case done =>
    intro D W hD hJ hK
    obtain ⟨e1, e2, e3, e4, e5, e6, e7, e8, e9, e10, e11, e12, e13, e14⟩ := HQF.out
    have c1 := hJ.fit
    obtain ⟨u, c2⟩ := hJ.x
    have c3 := hJ.r2
    have c4 := hJ.r2f
    have c5 := hJ.r3
    have c6 := hJ.r3f
    rw [e9] at c1
    rw [e8] at c2
    rw [e13] at c3 c4
    rw [e14] at c5 c6
    have HBL := Lib.hid hJ.below
    have HSZ := Lib.hid hJ.size
    have HJ := Lib.hid hJ
    clear hJ e1 e2 e3 e4 e5 e6 e7 e8 e9 e10 e11 e12 e13 e14
    gi_wp2
    rw [hMw, ← hM0] at hD
    have hK1 := (KeepsOthers.setCell W ⟨w.heap.size + 1, 0, none⟩ (.int .u64 u)).same D _ hK rfl
    have hK2 := (KeepsOthers.setCell (W.setCell ⟨w.heap.size + 1, 0, none⟩ (.int .u64 u)) ⟨w.heap.size + 1 + 1, 0, none⟩ (.int .i64 0)).same D _ hK1 rfl
    refine ⟨by simp, .inl ⟨_, _, rfl, run_takeDeferred hK2, ?_⟩⟩
    have d1 : (W.setCell ⟨w.heap.size + 1, 0, none⟩ (.int .u64 u)).cell? ⟨w.heap.size + 1, 0, none⟩ = some (.int .u64 u) := World.cell?_setCell_same' _ _ _ (by rw [c3]; rfl)
    have d2 : (W.setCell ⟨w.heap.size + 1, 0, none⟩ (.int .u64 u)).cell? ⟨w.heap.size + 1 + 1, 0, none⟩ = some (.int .i64 0) := (World.cell?_setCell_other _ _ _ _ (by simp)).trans c5
    have d3 : ((W.setCell ⟨w.heap.size + 1, 0, none⟩ (.int .u64 u)).setCell ⟨w.heap.size + 1 + 1, 0, none⟩ (.int .i64 0)).cell? ⟨w.heap.size + 1, 0, none⟩ = some (.int .u64 u) := (World.cell?_setCell_other _ _ _ _ (by simp)).trans d1
    have d4 : ((W.setCell ⟨w.heap.size + 1, 0, none⟩ (.int .u64 u)).setCell ⟨w.heap.size + 1 + 1, 0, none⟩ (.int .i64 0)).cell? ⟨w.heap.size + 1 + 1, 0, none⟩ = some (.int .i64 0) := World.cell?_setCell_same' _ _ _ (by rw [d2]; rfl)
    have g1 := cell_kept d3 (grownBy_putObj' _ D (.deferred none)) (fun r e => by cases e; exact ⟨_, hK2, rfl⟩)
    have g2 := cell_kept d4 (grownBy_putObj' _ D (.deferred none)) (fun r e => by cases e; exact ⟨_, hK2, rfl⟩)
    have hB2 := ((HBL.out.setCell (p := ⟨w.heap.size + 1, 0, none⟩) (by dsimp only; omega) (.int .u64 u)).setCell (p := ⟨w.heap.size + 1 + 1, 0, none⟩) (by dsimp only; omega) (.int .i64 0)).trans (belowK_b (w := w) (Nat.le_refl _) _ D _ (.deferred none) (by omega) hK2 rfl rfl)
    refine ⟨.tuple #[.int .u64 u, .int .i64 0], ?_, ⟨u, rfl⟩, Ext.of_below hB2⟩
    simp [results, Tryd.f63, go_sem, g1, g2]
end Go.Proofs.YtmbodooikfmegaaDoor
