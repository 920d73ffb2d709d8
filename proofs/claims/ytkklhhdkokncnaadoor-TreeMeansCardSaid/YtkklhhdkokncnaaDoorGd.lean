/- The walks of the layer 'tree': whether the table has a frame, what a done one answers, the acts' makers. -/
import Derived.Test.YtkklhhdkokncnaaDoorGc
namespace Go.Proofs.YtkklhhdkokncnaaDoor
open Go Go.RowKit
set_option maxRecDepth 100000
set_option maxHeartbeats 8000000

theorem treHas_any (c : Cfg) (f : Frm) (s : Value) (b : Nat) (w : World) (hw : Holds w (tl c f s b)) : Calls Tryd.prog 94 #[.pointer (some ⟨b, 0, none⟩)] w
    fun e w' => e = .returned (.bool (treHas f)) ∧ Ext w w' := by
  have hb := tl_lt hw
  have HT : Hid (treHas f = (f.pc == 0 || f.pc == 1 || (f.pc == 3 && f.kind == 7) || ((f.pc == 4 || f.pc == 5 || f.pc == 6 || f.pc == 7 || f.pc == 22 || f.pc == 24) && f.kind == 4) ||
    ((f.pc == 8 || f.pc == 9 || f.pc == 11) && (f.kind == 4 || f.kind == 5)) || ((f.pc == 12 || f.pc == 13 || f.pc == 14 || f.pc == 15 || f.pc == 25) && f.kind == 5) ||
    ((f.pc == 16 || f.pc == 17) && f.kind == 8) || (f.pc == 20 && (f.kind == 7 || f.kind == 8)) || (f.pc == 21 && (f.kind == 6 || f.kind == 7 || f.kind == 5)) ||
    (f.pc == 23 && (f.kind == 6 || f.kind == 4)))) := Lib.hid rfl
  simp only [tl, Holds, List.cons_append, List.nil_append] at hw
  go_enter Tryd.func94, Tryd.ntmps94
  go_wp2
  (refine wp_region_ext_lit (by kernel_rfl) (by kernel_rfl) ?_); (repeat (go_big_quiet_step (fail))); (refine wpQuiet_nil ?_; intro _ hw'; obtain ⟨⟨osq, nq⟩, hw''⟩ := hw'; replace hw'' : _ = grew _ osq nq := hw''; subst hw'')
  have hb2 : b < w.heap.size + cnt osq := by omega
  go_wp2
  (refine wp_region_ext_lit (by kernel_rfl) (by kernel_rfl) ?_); (repeat (go_big_quiet_step (fail))); (refine wpQuiet_nil ?_; intro _ hw'; obtain ⟨⟨osq, nq⟩, hw''⟩ := hw'; replace hw'' : _ = grew _ osq nq := hw''; subst hw'')
  go_wp2
  all_goals (go_ret; refine ⟨ret_bool ?_, EX⟩)
  all_goals (rw [HT.out]; clear hw HT; go_light; simp_all)

theorem treDone_20 (c : Cfg) (f : Frm) (s : Value) (hf : f.Fits) (hp : f.pc = 20) (b : Nat) (w : World) (hw : Holds w (tl c f s b)) : Calls Tryd.prog 61 #[.pointer (some ⟨b, 0, none⟩)] w
    fun e w' => e = .returned (treStep c f).v ∧ Ext w w' := by
  have hb := tl_lt hw
  have hb1 : b < w.heap.size + 1 := by omega
  have hb2 : b < w.heap.size + 1 + 1 := by omega
  have HS : Hid (treStep c f = ⟨4, 0, 0, 0, 0, 0, 0⟩) := Lib.hid (by simp [treStep, hp])
  have hp' : (f.pc == 20) = true := by simpa using hp
  obtain ⟨y0, y1⟩ := hf.y
  simp only [tl, Holds, List.cons_append, List.nil_append] at hw
  clear hp hf
  go_enter Tryd.func61, Tryd.ntmps61
  go_wp2
  (refine bodyPost_ret (v := (treStep c f).v) (by rw [HS.out]; simp [results, Tryd.results61, go_sem]) rfl ⟨rfl, EX⟩)
theorem treDone_21 (c : Cfg) (f : Frm) (s : Value) (hf : f.Fits) (hp : f.pc = 21) (b : Nat) (w : World) (hw : Holds w (tl c f s b)) : Calls Tryd.prog 61 #[.pointer (some ⟨b, 0, none⟩)] w
    fun e w' => e = .returned (treStep c f).v ∧ Ext w w' := by
  have hb := tl_lt hw
  have hb1 : b < w.heap.size + 1 := by omega
  have hb2 : b < w.heap.size + 1 + 1 := by omega
  have HS : Hid (treStep c f = ⟨4, 0, 0, 0, 0, 6, 0⟩) := Lib.hid (by simp [treStep, hp])
  have hp' : (f.pc == 21) = true := by simpa using hp
  obtain ⟨y0, y1⟩ := hf.y
  simp only [tl, Holds, List.cons_append, List.nil_append] at hw
  clear hp hf
  go_enter Tryd.func61, Tryd.ntmps61
  go_wp2
  (refine bodyPost_ret (v := (treStep c f).v) (by rw [HS.out]; simp [results, Tryd.results61, go_sem]) rfl ⟨rfl, EX⟩)
theorem treDone_22 (c : Cfg) (f : Frm) (s : Value) (hf : f.Fits) (hp : f.pc = 22) (b : Nat) (w : World) (hw : Holds w (tl c f s b)) : Calls Tryd.prog 61 #[.pointer (some ⟨b, 0, none⟩)] w
    fun e w' => e = .returned (treStep c f).v ∧ Ext w w' := by
  have hb := tl_lt hw
  have hb1 : b < w.heap.size + 1 := by omega
  have hb2 : b < w.heap.size + 1 + 1 := by omega
  have HS : Hid (treStep c f = ⟨4, 0, 0, 0, 0, 9, 0⟩) := Lib.hid (by simp [treStep, hp])
  have hp' : (f.pc == 22) = true := by simpa using hp
  obtain ⟨y0, y1⟩ := hf.y
  simp only [tl, Holds, List.cons_append, List.nil_append] at hw
  clear hp hf
  go_enter Tryd.func61, Tryd.ntmps61
  go_wp2
  (refine bodyPost_ret (v := (treStep c f).v) (by rw [HS.out]; simp [results, Tryd.results61, go_sem]) rfl ⟨rfl, EX⟩)
theorem treDone_23 (c : Cfg) (f : Frm) (s : Value) (hf : f.Fits) (hp : f.pc = 23) (b : Nat) (w : World) (hw : Holds w (tl c f s b)) : Calls Tryd.prog 61 #[.pointer (some ⟨b, 0, none⟩)] w
    fun e w' => e = .returned (treStep c f).v ∧ Ext w w' := by
  have hb := tl_lt hw
  have hb1 : b < w.heap.size + 1 := by omega
  have hb2 : b < w.heap.size + 1 + 1 := by omega
  obtain ⟨Q, hQ⟩ : ∃ Q, (f.y + 1) % 4294967296 = Q := ⟨_, rfl⟩
  have hwq : IntKind.u32.wrap (f.y + 1) = Q := by rw [IntKind.wrap_u32, hQ]
  have HS : Hid (treStep c f = ⟨4, 0, 0, 0, 0, 0, Q⟩) := Lib.hid (by simp [treStep, hp, hQ])
  have hp' : (f.pc == 23) = true := by simpa using hp
  obtain ⟨y0, y1⟩ := hf.y
  simp only [tl, Holds, List.cons_append, List.nil_append] at hw
  clear hp hf
  go_enter Tryd.func61, Tryd.ntmps61
  go_wp2
  (refine bodyPost_ret (v := (treStep c f).v) (by rw [HS.out]; simp [results, Tryd.results61, go_sem]) rfl ⟨rfl, EX⟩)
theorem treDone_24 (c : Cfg) (f : Frm) (s : Value) (hf : f.Fits) (hp : f.pc = 24) (b : Nat) (w : World) (hw : Holds w (tl c f s b)) : Calls Tryd.prog 61 #[.pointer (some ⟨b, 0, none⟩)] w
    fun e w' => e = .returned (treStep c f).v ∧ Ext w w' := by
  have hb := tl_lt hw
  have hb1 : b < w.heap.size + 1 := by omega
  have hb2 : b < w.heap.size + 1 + 1 := by omega
  have HS : Hid (treStep c f = ⟨4, 0, 0, 0, 0, 0, 0⟩) := Lib.hid (by simp [treStep, hp])
  have hp' : (f.pc == 24) = true := by simpa using hp
  obtain ⟨y0, y1⟩ := hf.y
  simp only [tl, Holds, List.cons_append, List.nil_append] at hw
  clear hp hf
  go_enter Tryd.func61, Tryd.ntmps61
  go_wp2
  (refine bodyPost_ret (v := (treStep c f).v) (by rw [HS.out]; simp [results, Tryd.results61, go_sem]) rfl ⟨rfl, EX⟩)
theorem treDone_25 (c : Cfg) (f : Frm) (s : Value) (hf : f.Fits) (hp : f.pc = 25) (b : Nat) (w : World) (hw : Holds w (tl c f s b)) : Calls Tryd.prog 61 #[.pointer (some ⟨b, 0, none⟩)] w
    fun e w' => e = .returned (treStep c f).v ∧ Ext w w' := by
  have hb := tl_lt hw
  have hb1 : b < w.heap.size + 1 := by omega
  have hb2 : b < w.heap.size + 1 + 1 := by omega
  have HS : Hid (treStep c f = ⟨4, 0, 0, 0, 0, 0, f.b⟩) := Lib.hid (by simp [treStep, hp])
  have hp' : (f.pc == 25) = true := by simpa using hp
  obtain ⟨y0, y1⟩ := hf.y
  simp only [tl, Holds, List.cons_append, List.nil_append] at hw
  clear hp hf
  go_enter Tryd.func61, Tryd.ntmps61
  go_wp2
  (refine bodyPost_ret (v := (treStep c f).v) (by rw [HS.out]; simp [results, Tryd.results61, go_sem]) rfl ⟨rfl, EX⟩)

theorem treRead_any (c : Cfg) (f : Frm) (s : Value) (hc : TreOk c) (h i X : Int) (hh : 0 ≤ h ∧ h ≤ 255) (hi : -1000 ≤ i ∧ i ≤ 1000) (hX : treOff c h i = X) (b B : Nat) (w : World) (hB : w.cell? ⟨B, 0, none⟩ = some (.pointer (some ⟨b, 0, none⟩))) (hw : Holds w (tl c f s b)) (hs : Sl w s (lvC c) (lvL c)) :
    Calls Tryd.prog 56 #[.int .u8 h, .int .i64 i, .pointer (some ⟨B, 0, none⟩)] w fun e w' => e = .returned (Actn.mk 1 X 0 0 0 0 0).v ∧ Ext w w' := by
  have HK := Lib.hid hw
  have HS := Lib.hid hs
  have HA := Lib.hid hX
  have hb := World.block_lt_of_cell? _ _ hB
  dsimp only at hb
  clear hw hs hX
  go_enter Tryd.func56, Tryd.ntmps56
  go_wp2_with (go_at_call 57; refine (treOff_any c f s hc h i hh hi b _ (HK.out.ext EX) (HS.out.ext EX)).mono ?_; rintro e w1 ⟨rfl, os1, n1, rfl⟩; rw [HA.out])
  refine bodyPost_ret (v := (Actn.mk 1 X 0 0 0 0 0).v) (by simp [results, Tryd.results56, go_sem]) rfl ⟨rfl, EX⟩
theorem treWrite_any (c : Cfg) (f : Frm) (s : Value) (hc : TreOk c) (h i x y X : Int) (hh : 0 ≤ h ∧ h ≤ 255) (hi : -1000 ≤ i ∧ i ≤ 1000) (hx : 0 ≤ x ∧ x ≤ 4294967295) (hy : 0 ≤ y ∧ y ≤ 4294967295) (hX : treOff c h i = X) (b B : Nat) (w : World) (hB : w.cell? ⟨B, 0, none⟩ = some (.pointer (some ⟨b, 0, none⟩))) (hw : Holds w (tl c f s b)) (hs : Sl w s (lvC c) (lvL c)) :
    Calls Tryd.prog 58 #[.int .u8 h, .int .i64 i, .int .u32 x, .int .u32 y, .pointer (some ⟨B, 0, none⟩)] w fun e w' => e = .returned (Actn.mk 2 X x y 0 0 0).v ∧ Ext w w' := by
  have HK := Lib.hid hw
  have HS := Lib.hid hs
  have HA := Lib.hid hX
  obtain ⟨x0, x1⟩ := hx
  obtain ⟨y0, y1⟩ := hy
  have hb := World.block_lt_of_cell? _ _ hB
  dsimp only at hb
  clear hw hs hX
  go_enter Tryd.func58, Tryd.ntmps58
  go_wp2_with (go_at_call 57; refine (treOff_any c f s hc h i hh hi b _ (HK.out.ext EX) (HS.out.ext EX)).mono ?_; rintro e w1 ⟨rfl, os1, n1, rfl⟩; rw [HA.out])
  refine bodyPost_ret (v := (Actn.mk 2 X x y 0 0 0).v) (by simp [results, Tryd.results58, go_sem]) rfl ⟨rfl, EX⟩
end Go.Proofs.YtkklhhdkokncnaaDoor
/- The walk of 'act', the layer 'tree'. -/
namespace Go.Proofs.YtkklhhdkokncnaaDoor
open Go Go.RowKit
set_option maxRecDepth 100000
set_option maxHeartbeats 8000000

/-- What 'treNum' says. -/
theorem treNum_facts {c : Cfg} {f : Frm} (h : treNum c f = true) : f.n ≤ c.cap ∧ f.p ≤ c.cap ∧ f.j ≤ c.chunk ∧ f.h ≤ treTop c ∧ (f.pc = 6 → 1 ≤ f.i) ∧ (f.pc = 9 ∨ f.pc = 11 → 1 ≤ f.h ∧ f.i < treUp c f.n f.h) ∧ (f.pc = 12 → 1 ≤ f.h) ∧ (f.pc = 16 ∨ f.j ≠ c.chunk) := by
  simp only [treNum, Bool.and_eq_true, decide_eq_true_eq] at h
  obtain ⟨⟨⟨⟨⟨h1, h2⟩, h3⟩, h4⟩, h5⟩, h6⟩ := h
  refine ⟨h1, h2, h3, h4, fun e => ?_, fun e => ?_, fun e => ?_, ?_⟩
  · simpa [e] using h6
  · rcases e with e | e <;> simpa [e] using h6
  · simpa [e] using h6
  · simpa using h5
theorem treUp_pos {c : Cfg} (hc : TreOk c) {n h i : Int} (hn : 0 ≤ n) (hh : 0 ≤ h ∧ h ≤ 4) (h0 : 0 ≤ i) (hi : i < treUp c n h) : 1 ≤ n := by
  have := upI_le hn hc.node (h := h) (by omega)
  change i < upI n c.node h at hi
  omega
theorem treUp_le {c : Cfg} (hc : TreOk c) {n h : Int} (hn : 0 ≤ n) (hh : 0 ≤ h ∧ h ≤ 4) : 0 ≤ treUp c n h ∧ treUp c n h ≤ n := ⟨upI_nonneg _ _ _, upI_le hn hc.node (by omega)⟩
theorem endI_bd {n w h i : Int} (hn : 0 ≤ n ∧ n ≤ 32) (hw : w = 2 ∨ w = 3 ∨ w = 4) (hh : 1 ≤ h ∧ h ≤ 4) (hi : 0 ≤ i) : -1000 ≤ endI n w h i ∧ endI n w h i ≤ 1000 := by
  have h1 := upI_le hn.1 hw (h := h - 1) (by omega)
  have h2 := upI_nonneg n w (h - 1)
  have h3 : 0 ≤ (i + 1) * w := by rcases hw with rfl | rfl | rfl <;> omega
  unfold endI
  split <;> omega
end Go.Proofs.YtkklhhdkokncnaaDoor
/- The walks of the references of the layers 'rank' and 'tree': items, levels, offsets. -/
namespace Go.Proofs.YtkklhhdkokncnaaDoor
open Go Go.RowKit
set_option maxRecDepth 100000
set_option maxHeartbeats 8000000

theorem itN_succ (w h m : Nat) : itN w (h + 1) m = itN w h ((m + w - 1) / w) := rfl
theorem items_any (m w h : Nat) (hm : m ≤ 1000) (hw : w = 2 ∨ w = 3 ∨ w = 4) (hh : h ≤ 300) (W : World) : Calls Tryd.prog 22 #[.int .i64 (m : Int), .int .i64 (w : Int), .int .i64 (h : Int)] W
    fun e w' => e = .returned (.int .i64 (itN w h m)) ∧ W = w' := by
  obtain ⟨R, hR⟩ : ∃ R, itN w h m = R := ⟨_, rfl⟩
  have HR := Lib.hid hR
  rw [hR]
  clear hR
  have hw2 : 2 ≤ w ∧ w ≤ 4 := by omega
  go_enter Tryd.func22, Tryd.ntmps22
  go_wp2
  go_loop [0, 7, 8, 9] (fun t0 t7 _ _ => ∃ k mk : Nat, k ≤ h ∧ t7 = .int .i64 k ∧ t0 = .int .i64 mk ∧ mk ≤ 1000 ∧ Hid (itN w (h - k) mk = R)) (fun _ t7 _ _ => h - (intOf t7).toNat)
  case atStart => exact ⟨0, m, Nat.zero_le _, rfl, rfl, hm, HR⟩
  case round =>
    obtain ⟨k, mk, hk, rfl, rfl, hmk, HI⟩ := hrel
    by_cases hlt : k < h
    · go_wp2
      go_loop [8, 9] (fun t8 t9 => ∃ j i : Nat, t8 = .int .i64 j ∧ t9 = .int .i64 i ∧ i = w * j ∧ j ≤ mk ∧ Hid (j = 0 ∨ w * (j - 1) < mk)) (fun _ t9 => mk - (intOf t9).toNat)
      case atStart => exact ⟨0, 0, rfl, rfl, by simp, Nat.zero_le _, Lib.hid (Or.inl rfl)⟩
      case round =>
        obtain ⟨j, i, rfl, rfl, hi, hj, HJ⟩ := hrel
        have hij : j ≤ i := by rw [hi]; exact Nat.le_mul_of_pos_left _ (by omega)
        have HIJ := Lib.hid hi
        clear hi
        by_cases hlt2 : i < mk
        · go_wp2
          go_round
          case rel => exact ⟨j + 1, i + w, by go_num, by go_num, by rw [HIJ.out, Nat.mul_succ], by omega, Lib.hid (Or.inr (by rw [Nat.add_sub_cancel, ← HIJ.out]; exact hlt2))⟩
          case measure => simp [intOf]; omega
        · have hceil : (mk + w - 1) / w = j := by
            have h1 := HIJ.out
            rcases HJ.out with h2 | h2
            · subst h2
              simp at h1
              have : mk = 0 := by omega
              subst this
              rcases hw with rfl | rfl | rfl <;> rfl
            · rcases hw with rfl | rfl | rfl <;> omega
          go_wp2
          go_round
          case rel => exact ⟨k + 1, j, by omega, by go_num, rfl, by omega, Lib.hid (by have h1 := HI.out; rw [show h - k = (h - (k + 1)) + 1 by omega, itN_succ, hceil] at h1; exact h1)⟩
          case measure => simp [intOf]; omega
    · obtain rfl : k = h := by omega
      go_wp2
      go_ret
      refine ⟨?_, rfl⟩
      have h1 := HI.out
      rw [Nat.sub_self] at h1
      rw [← h1]
      rfl

theorem itemsI_any (n w h : Int) (hn : 0 ≤ n ∧ n ≤ 1000) (hw : w = 2 ∨ w = 3 ∨ w = 4) (hh : 0 ≤ h ∧ h ≤ 300) (W : World) : Calls Tryd.prog 22 #[.int .i64 n, .int .i64 w, .int .i64 h] W
    fun e w' => e = .returned (.int .i64 (upI n w h)) ∧ W = w' := by
  obtain ⟨n, rfl⟩ := Int.eq_ofNat_of_zero_le hn.1
  obtain ⟨h, rfl⟩ := Int.eq_ofNat_of_zero_le hh.1
  rcases hw with rfl | rfl | rfl
  · exact items_any n 2 h (by omega) (by omega) (by omega) W
  · exact items_any n 3 h (by omega) (by omega) (by omega) W
  · exact items_any n 4 h (by omega) (by omega) (by omega) W

theorem topI_of {n w : Int} {k : Nat} (_hn : 0 ≤ n ∧ n ≤ 32) (_hw : w = 2 ∨ w = 3 ∨ w = 4) (hk : k ≤ 4) (h1 : ∀ j : Nat, j < k → w < upI n w j) (h2 : upI n w k ≤ w) : topI n w = k := by
  have := lvN_of hk h1 (Or.inr h2)
  have h3 := (topI_bd n w).1
  unfold lvN at this
  omega
theorem topR_any (n w : Int) (hn : 1 ≤ n ∧ n ≤ 32) (hw : w = 2 ∨ w = 3 ∨ w = 4) (W : World) : Calls Tryd.prog 41 #[.int .i64 n, .int .i64 w] W
    fun e w' => e = .returned (.int .i64 (topI n w)) ∧ W = w' := by
  go_enter Tryd.func41, Tryd.ntmps41
  go_wp2
  go_loop [5] (fun t5 => ∃ k : Nat, k ≤ 4 ∧ t5 = .int .i64 k ∧ Hid (∀ j : Nat, j < k → w < upI n w j)) (fun t5 => 5 - (intOf t5).toNat)
  case atStart => exact ⟨0, Nat.zero_le _, rfl, Lib.hid fun j hj => by omega⟩
  case round =>
    obtain ⟨k, hk, rfl, HJ⟩ := hrel
    obtain ⟨U, hU⟩ : ∃ U, upI n w k = U := ⟨_, rfl⟩
    have HU := Lib.hid hU
    have hle := upI_le (n := n) (w := w) (h := k) (by omega) hw (by omega)
    have hge := upI_nonneg n w k
    rw [hU] at hle hge
    clear hU
    by_cases hlt : w < U
    · have hk4 : k < 4 := by
        by_cases e : k = 4
        · subst e
          have := up4 (n := n) (w := w) (by omega) hw
          have h2 := HU.out
          change upI n w 4 = U at h2
          omega
        · omega
      go_wp2_with (go_at_call 22; refine (itemsI_any n w k (by omega) hw (by omega) _).mono ?_; rintro e w1 ⟨rfl, rfl⟩; rw [HU.out])
      go_round
      case rel =>
        refine ⟨k + 1, by omega, by go_num, Lib.hid fun j hj => ?_⟩
        by_cases e : j = k
        · subst e
          rw [HU.out]
          exact hlt
        · exact HJ.out j (by omega)
      case measure => simp [intOf]; omega
    · have hT := Lib.hid (topI_of (by omega) hw hk HJ.out (by rw [HU.out]; omega))
      go_wp2_with (go_at_call 22; refine (itemsI_any n w k (by omega) hw (by omega) _).mono ?_; rintro e w1 ⟨rfl, rfl⟩; rw [HU.out])
      go_ret
      exact ⟨by rw [hT.out]; rfl, rfl⟩
theorem topR13_any (c : Cfg) (hc : TreOk c) (W : World) : Calls Tryd.prog 20 #[c.v] W fun e w' => e = .returned (.int .i64 (treTop c)) ∧ Ext W w' := by
  have hcap := hc.cap
  have hnode := hc.node
  obtain ⟨T, hT⟩ : ∃ T, treTop c = T := ⟨_, rfl⟩
  have HT := Lib.hid hT
  rw [hT]
  clear hT hc
  go_enter Tryd.func20, Tryd.ntmps20
  go_wp2_with (go_at_call 41; refine (topR_any c.cap c.node hcap hnode _).mono ?_; rintro e w1 ⟨rfl, rfl⟩; (have ht := HT.out; unfold treTop at ht; rw [ht]))
  go_ret
  exact ⟨rfl, EX⟩
theorem upR_any (c : Cfg) (hc : TreOk c) (n h : Int) (hn : 0 ≤ n ∧ n ≤ 255) (hh : 0 ≤ h ∧ h ≤ 255) (W : World) : Calls Tryd.prog 66 #[c.v, .int .u8 n, .int .u8 h] W fun e w' => e = .returned (.int .i64 (treUp c n h)) ∧ Ext W w' := by
  have hnode := hc.node
  obtain ⟨T, hT⟩ : ∃ T, treUp c n h = T := ⟨_, rfl⟩
  have HT := Lib.hid hT
  rw [hT]
  clear hT hc
  go_enter Tryd.func66, Tryd.ntmps66
  go_wp2_with (go_at_call 22; refine (itemsI_any n c.node h (by omega) hnode (by omega) _).mono ?_; rintro e w1 ⟨rfl, rfl⟩; (have ht := HT.out; unfold treUp at ht; rw [ht]))
  go_ret
  exact ⟨rfl, EX⟩
end Go.Proofs.YtkklhhdkokncnaaDoor
