/- The walk of 'laid', layer 'tree': the cells of an instance that has rows. -/
import Derived.Test.YtkklhhdkokncnaaDoorTmL
namespace Go.Proofs.YtkklhhdkokncnaaDoor
open Go Go.RowKit
set_option maxRecDepth 100000
set_option maxHeartbeats 8000000

theorem laid_any {c : Cfg} {wd N T : Nat} (hc : TreN c wd N T) (h2 : (c.object == 2) = true) (v : Value) (M : List Rw) (hfit : RwsFit M) (w : World) (hv : Rws w v M) (hn : M.length ≤ N) : Calls Tryd.prog 18 #[c.v, v] w
    fun e w' => ∃ ad cap L, e = .returned (.slice ad L.length cap) ∧ Hid (LayM wd N T L M) ∧ Hid (SlAt w' ad L.length cap (celCells L)) ∧ Ext w w' := by
  obtain ⟨ad, cap, rfl, hs, _⟩ := hv
  have HV := Lib.hid hs
  have HFI := Lib.hid hfit
  obtain ⟨hw, hN, hT4⟩ := hc.bd
  have hw0 : 0 < wd := by omega
  obtain ⟨G, hGd⟩ : ∃ G, 1 + sumU wd N (T + 1) = G := ⟨_, rfl⟩
  have hGb : 1 ≤ G ∧ G ≤ 300 := by
    have := sum_small hc
    omega
  have HGd := Lib.hid hGd
  have HG : Hid (treGreat c = (G : Int)) := Lib.hid (by rw [hc.great, hGd])
  have HOK := Lib.hid hc.ok
  have HC := Lib.hid hc
  have HO2 := Lib.hid h2
  have HT := Lib.hid hc.T
  have HNODE := Lib.hid hc.ok.node
  have HMB : Hid (0 ≤ (M.length : Int) ∧ (M.length : Int) ≤ 1000) := Lib.hid (by omega)
  have HMB2 : Hid (0 ≤ (M.length : Int) ∧ (M.length : Int) ≤ 32) := Lib.hid (by omega)
  have hcap : c.cap = (N : Int) := hc.N
  have hml : M.length ≤ 32 := by omega
  have HCAP := Lib.hid hcap
  obtain ⟨C0, hC0⟩ : ∃ C0, madeCells #[.int .u64 0, .int .u64 0, .int .u64 0, .int .u64 0] (G * 4) = C0 := ⟨_, rfl⟩
  obtain ⟨i0, hi, hz0, hz1, hz2⟩ := info_parts info_cel
  have hmk : ∀ w : World, (Instr.makeSlice 46 (.int .i64 (G : Int)) (.int .i64 (G : Int))).run Tryd.prog w = .ok (.slice (some ⟨w.heap.size, 0, none⟩) G G) (w.alloc (.cells C0 37)) := fun w => by
    have := run_makeSlice (P := Tryd.prog) w 46 37 i0 _ Tryd.underlying46 hi hz0 .i64 .i64 (G : Int) (G : Int) (by omega) (Int.le_refl _) (by rw [hz1]; omega) (by rw [hz2]; omega) (by omega)
    rw [this, hz1, Int.toNat_natCast, ← hC0]
    rfl
  have hlen0 : (List.replicate G zce).length = G := List.length_replicate
  have hin0 : ∀ (j : Nat) (u : Value), (celCells (List.replicate G zce))[j]? = some u → C0[j]? = some u := fun j u hu => by rw [← hC0]; exact z_made G j u hu
  obtain ⟨u0, u1, u2, u3, q0, q1, q2, q3, q4⟩ := cel_in hin0 (i := 0) (by omega) (by rw [hlen0]; omega)
  simp only [Int.toNat_zero, Nat.zero_mul, Nat.zero_add] at q0 q1 q2 q3 q4
  have hin1 := cel_setA hin0 0 (by rw [hlen0]; omega) (M.length : Int)
  rw [z_tc, Nat.zero_mul, Nat.zero_add] at hin1
  have HIN1 := Lib.hid hin1
  have hl1 : Lay wd N T ((List.replicate G zce).set 0 ⟨0, (M.length : Int), 0, 0⟩) ⟨0, (M.length : Int), 0, 0⟩ (fun _ => zce) (fun _ _ => zce) := by
    rw [← hGd]
    exact (z_lay wd N T).setH _
  have HL1 := Lib.hid hl1
  have w0 : IntKind.u64.wrap (M.length : Int) = (M.length : Int) := by rw [IntKind.wrap_u64]; omega
  have q5 : 1 < C0.size := by omega
  clear hcap hs hfit hGd hi hz0 hz1 hz2 hC0 hin0 hin1 hl1 hlen0 hc h2 q0 q2 q3
  go_enter Tryd.func18, Tryd.ntmps18
  go_wp2_with (go_at_call 25; (with_reducible refine (greatT_as c HOK.out HO2.out _ G HG.out).mono ?_); rintro e w1 ⟨rfl, os1, n1, rfl⟩)
  go_loopw [6] (fun t6 wr => ∃ (i : Nat) (L : List Cel) (C : Array Value), i ≤ M.length ∧ t6 = .int .i64 i ∧ L.length = G ∧ Hid (Lay wd N T L ⟨0, (M.length : Int), 0, 0⟩ (fun r => if r < i then fM M r else zce) (fun _ _ => zce)) ∧ Hid (∀ (j : Nat) (u : Value), (celCells L)[j]? = some u → C[j]? = some u) ∧ Hid (Ext ((grew (w.alloc (.cells #[.int .u8 c.object, .int .i64 c.instances, .int .i64 c.threads, .int .u8 c.kind, .int .i64 c.stripes, .int .i64 c.bits, .int .i64 c.cap, .int .i64 c.node, .int .i64 c.batch, .int .i64 c.chunk, .int .u64 c.limit, .int .u64 c.most] 24)) os1 n1).alloc (.cells C 37)) wr)) (fun t6 _ => M.length - (intOf t6).toNat)
  case atStart =>
    refine ⟨0, _, _, Nat.zero_le _, rfl, by rw [List.length_set, List.length_replicate], Lib.hid (HL1.out.to rfl (fun r _ => by rw [if_neg (by omega)]) (fun _ _ _ _ _ => rfl)), Lib.hid HIN1.out, Lib.hid ?_⟩
    exact EXX
  case round =>
    obtain ⟨i, L, C, hi, rfl, hLG, HL, HIN, HX⟩ := hrel
    obtain ⟨os, d, rfl⟩ := HX.out
    clear HX HL1 HIN1
    by_cases hlt : i < M.length
    · have hlt' : (i : Int) < (M.length : Int) := by omega
      have hlc : (i : Int) < c.cap := by rw [HCAP.out]; omega
      obtain ⟨b, o', rfl, hb, r0, r1⟩ := HV.out.rw hlt
      obtain ⟨x, hx⟩ : ∃ x, M.getD i zrw = x := ⟨_, rfl⟩
      rw [hx] at r0 r1
      have HXE := Lib.hid hx
      obtain ⟨k, hk1⟩ : ∃ k, k = 1 + i := ⟨_, rfl⟩
      have hk : ofU wd N 0 i = k := by rw [hk1]; unfold ofU; show 1 + 0 + i = _; omega
      have hkG : k < L.length := by
        rw [← hk, HL.out.len]
        exact of_great (Nat.zero_le _) (show i < N by omega)
      obtain ⟨u0, u1, u2, u3, q0, q1, q2, q3, q4⟩ := cel_in HIN.out (i := (k : Int)) (by omega) (by omega)
      rw [Int.toNat_natCast] at q0 q1 q2 q3 q4
      have w1 : IntKind.i64.wrap (1 + (i : Int)) = 1 + (i : Int) := by rw [IntKind.wrap_i64]; omega
      have k0' : (0 : Int) ≤ 1 + (i : Int) := by omega
      have k1' : 1 + (i : Int) < (G : Int) := by omega
      have HKK := Lib.hid hk
      have i0' : (0 : Int) ≤ (i : Int) := by omega
      have hin2 := cel_set_in HIN.out k ⟨0, x.k, x.v, 0⟩
      have HIN2 := Lib.hid hin2
      have hb1 : b < w.heap.size := hb
      have hb2 : ∀ n1 : Nat, b < w.heap.size + n1 := by intros; omega
      have hb3 : ∀ n1 n2 : Nat, b < w.heap.size + n1 + n2 := by intros; omega
      have hb4 : ∀ n1 n2 n3 : Nat, b < w.heap.size + n1 + n2 + n3 := by intros; omega
      subst hk1
      clear hx hk hin2
      go_upto_region 6 with fail
      go_region
      go_wp2
      go_roundw
      case rel =>
        refine ⟨i + 1, L.set (1 + i) ⟨0, x.k, x.v, 0⟩, _, by omega, by go_num, by rw [List.length_set]; exact hLG, Lib.hid ?_, Lib.hid HIN2.out, Lib.hid EXX⟩
        rw [← HKK.out]
        refine (HL.out.setF (show i < N by omega) ⟨0, x.k, x.v, 0⟩).to rfl (fun r _ => ?_) (fun _ _ _ _ _ => rfl)
        unfold upd
        by_cases e : r = i
        · rw [if_pos e, if_pos (by omega), e]
          unfold fM
          rw [if_pos hlt, HXE.out]
        · rw [if_neg e]
          show (if r < i then fM M r else zce) = if r < i + 1 then fM M r else zce
          by_cases e2 : r < i
          · rw [if_pos e2, if_pos (by omega)]
          · rw [if_neg e2, if_neg (by omega)]
      case measure => simp [intOf]; omega
    · obtain rfl : i = M.length := by omega
      have HL2 : Hid (Lay wd N T L (hM M) (fM M) (fun g k => if g < 1 then gM wd M g k else zce)) := Lib.hid (HL.out.to rfl (fun r _ => by
        by_cases e : r < M.length
        · rw [if_pos e]
        · rw [if_neg e]
          unfold fM
          rw [if_neg e]) (fun g k g1 _ _ => by rw [if_neg (by omega)]))
      clear HL
      go_wp2
      go_loopw [7, 8, 9] (fun t7 _ _ wr => ∃ (h : Nat) (L : List Cel) (C : Array Value), 1 ≤ h ∧ h ≤ T + 1 ∧ t7 = .int .i64 h ∧ L.length = G ∧ Hid (Lay wd N T L (hM M) (fM M) (fun g k => if g < h then gM wd M g k else zce)) ∧ Hid (∀ (j : Nat) (u : Value), (celCells L)[j]? = some u → C[j]? = some u) ∧ Hid (Ext ((grew (w.alloc (.cells #[.int .u8 c.object, .int .i64 c.instances, .int .i64 c.threads, .int .u8 c.kind, .int .i64 c.stripes, .int .i64 c.bits, .int .i64 c.cap, .int .i64 c.node, .int .i64 c.batch, .int .i64 c.chunk, .int .u64 c.limit, .int .u64 c.most] 24)) os1 n1).alloc (.cells C 37)) wr)) (fun t7 _ _ _ => T + 1 - (intOf t7).toNat)
      case atStart => exact ⟨1, L, C, Nat.le_refl _, by omega, rfl, hLG, HL2, HIN, Lib.hid EXX⟩
      case round =>
        obtain ⟨h, L, C, hh1, hh2, rfl, hLG, HL, HIN, HX⟩ := hrel
        obtain ⟨os', d', rfl⟩ := HX.out
        clear HX HL2
        by_cases hle : h ≤ T
        · have hle' : (h : Int) ≤ (T : Int) := by omega
          obtain ⟨g, rfl⟩ : ∃ g, h = g + 1 := ⟨h - 1, by omega⟩
          have b1 : decide ((g : Int) + 1 ≤ (T : Int)) = true := decide_eq_true (by omega)
          have b1' : (g : Int) + 1 ≤ (T : Int) := by omega
          obtain ⟨U, hU⟩ : ∃ U, itN wd (g + 1) M.length = U := ⟨_, rfl⟩
          have HU := Lib.hid hU
          have HUP : Hid (upI (M.length : Int) c.node ((g : Int) + 1) = (U : Int)) := Lib.hid (by
            have := HC.out.up M.length (g + 1)
            unfold treUp at this
            rw [hU] at this
            exact this)
          have HGB : Hid (0 ≤ (g : Int) + 1 ∧ (g : Int) + 1 ≤ 300) := Lib.hid (by omega)
          have HL0 : Hid (Lay wd N T L (hM M) (fM M) (fun g' k => if g' < g + 1 ∨ (g' = g + 1 ∧ k < 0) then gM wd M g' k else zce)) := Lib.hid (HL.out.to rfl (fun _ _ => rfl) (fun g' k _ _ _ => by
            by_cases e : g' < g + 1
            · rw [if_pos e, if_pos (.inl e)]
            · rw [if_neg e, if_neg (by omega)]))
          clear hU HL
          go_wp2_with (go_at_call 20; (with_reducible refine (top13_as c HOK.out _ T HT.out).mono ?_); rintro e w1 ⟨rfl, os2, n2, rfl⟩)
          go_loopw [8, 9] (fun t8 _ wr => ∃ (i : Nat) (L : List Cel) (C : Array Value), i ≤ U ∧ t8 = .int .i64 i ∧ L.length = G ∧ Hid (Lay wd N T L (hM M) (fM M) (fun g' k => if g' < g + 1 ∨ (g' = g + 1 ∧ k < i) then gM wd M g' k else zce)) ∧ Hid (∀ (j : Nat) (u : Value), (celCells L)[j]? = some u → C[j]? = some u) ∧ Hid (Ext ((grew (w.alloc (.cells #[.int .u8 c.object, .int .i64 c.instances, .int .i64 c.threads, .int .u8 c.kind, .int .i64 c.stripes, .int .i64 c.bits, .int .i64 c.cap, .int .i64 c.node, .int .i64 c.batch, .int .i64 c.chunk, .int .u64 c.limit, .int .u64 c.most] 24)) os1 n1).alloc (.cells C 37)) wr)) (fun t8 _ _ => U - (intOf t8).toNat)
          case atStart => exact ⟨0, L, C, Nat.zero_le _, rfl, hLG, HL0, HIN, Lib.hid EXX⟩
          case round =>
            obtain ⟨i, L, C, hi, rfl, hLG, HL, HIN, HX⟩ := hrel
            obtain ⟨os', d', rfl⟩ := HX.out
            clear HX HL0
            by_cases hlt : i < U
            · have hlt' : (i : Int) < (U : Int) := by omega
              have hiU : i < itN wd (g + 1) M.length := by rw [HU.out]; exact hlt
              have hiN : i < itN wd (g + 1) N := Nat.lt_of_lt_of_le hiU (it_mono hw0 hn)
              obtain ⟨e, he⟩ : ∃ e, (if (i + 1) * wd ≤ itN wd g M.length then (i + 1) * wd else itN wd g M.length) - 1 = e := ⟨_, rfl⟩
              obtain ⟨el, er⟩ := lr_down hw0 hiU
              rw [he] at el er
              have heN : e < itN wd g N := Nat.lt_of_lt_of_le el (it_mono hw0 hn)
              have hen := HC.out.end' hiU
              rw [he] at hen
              obtain ⟨k1, hk1⟩ : ∃ k, ofU wd N (g + 1) i = k := ⟨_, rfl⟩
              obtain ⟨k2, hk2⟩ : ∃ k, ofU wd N g e = k := ⟨_, rfl⟩
              have hof1 := HC.out.off (k := g + 1) (by omega) hiN
              have hof2 := HC.out.off (k := g) (by omega) heN
              rw [hk1] at hof1
              rw [hk2] at hof2
              have hkG1 : k1 < L.length := by rw [← hk1, HL.out.len]; exact of_great (by omega) hiN
              have hkG2 : k2 < L.length := by rw [← hk2, HL.out.len]; exact of_great (by omega) heN
              have hsmall : e ≤ 300 ∧ i ≤ 300 := by
                have a1 : k1 = 1 + sumU wd N (g + 1) + i := by rw [← hk1]; rfl
                have a2 : k2 = 1 + sumU wd N g + e := by rw [← hk2]; rfl
                omega
              have hcell : (tc L k2).a = (M.getD (lrN wd M.length (g + 1) i) zrw).k := by
                rw [← hk2]
                by_cases h0 : g = 0
                · subst h0
                  have e3 : e < M.length := el
                  rw [lr_zero e3] at er
                  rw [HL.out.row e heN]
                  unfold fM
                  rw [if_pos e3, ← er]
                · rw [HL.out.lev g e (by omega) (by omega) heN, if_pos (.inl (by omega))]
                  unfold gM
                  rw [if_pos el, er]
              obtain ⟨K, hK⟩ : ∃ K, (M.getD (lrN wd M.length (g + 1) i) zrw).k = K := ⟨_, rfl⟩
              rw [hK] at hcell
              obtain ⟨a0, a1, a2, a3, q0, q1, q2, q3, q4⟩ := cel_in HIN.out (i := (k1 : Int)) (by omega) (by omega)
              rw [Int.toNat_natCast] at q0 q1 q2 q3 q4
              have p1 : C[k2 * 4 + 1]? = some (.int .u64 K) := by
                refine HIN.out _ _ ?_
                rw [(celCells_at L k2 hkG2).2.1, ← tc_get hkG2, hcell]
              have hin2 := cel_setA HIN.out k1 hkG1 K
              have HIN2 := Lib.hid hin2
              have HEND : Hid (endI (M.length : Int) c.node ((g : Int) + 1) (i : Int) = (e : Int)) := Lib.hid hen
              have HOF1 : Hid (treOff c ((g : Int) + 1) (i : Int) = (k1 : Int)) := Lib.hid hof1
              have HOF2 := Lib.hid hof2
              have HG4 : Hid ((g : Int) + 1 = 1 ∨ (g : Int) + 1 = 2 ∨ (g : Int) + 1 = 3 ∨ (g : Int) + 1 = 4) := Lib.hid (by omega)
              have HIU : Hid (0 ≤ (i : Int) ∧ (i : Int) < upI (M.length : Int) c.node ((g : Int) + 1)) := Lib.hid (by rw [HUP.out]; omega)
              have HGQ : Hid (0 ≤ (g : Int) + 1 ∧ (g : Int) + 1 ≤ 4) := Lib.hid (by omega)
              have HGQ2 : Hid (0 ≤ (g : Int) ∧ (g : Int) ≤ 4) := Lib.hid (by omega)
              have HIQ : Hid (-1000 ≤ (i : Int) ∧ (i : Int) ≤ 1000) := Lib.hid (by omega)
              have HEQ : Hid (-1000 ≤ (e : Int) ∧ (e : Int) ≤ 1000) := Lib.hid (by omega)
              have w1 : IntKind.i64.wrap ((g : Int) + 1 - 1) = (g : Int) := by rw [IntKind.wrap_i64]; omega
              have w1' : IntKind.i64.wrap (g : Int) = (g : Int) := by rw [IntKind.wrap_i64]; omega
              have k10 : (0 : Int) ≤ (k1 : Int) := by omega
              have k11 : (k1 : Int) < (G : Int) := by omega
              have k20 : (0 : Int) ≤ (k2 : Int) := by omega
              have k21 : (k2 : Int) < (G : Int) := by omega
              have HK1 := Lib.hid hk1
              have HKK := Lib.hid hK
              have HIU2 := Lib.hid hiU
              have HK : Hid (Holds ((grew (w.alloc (.cells #[.int .u8 c.object, .int .i64 c.instances, .int .i64 c.threads, .int .u8 c.kind, .int .i64 c.stripes, .int .i64 c.bits, .int .i64 c.cap, .int .i64 c.node, .int .i64 c.batch, .int .i64 c.chunk, .int .u64 c.limit, .int .u64 c.most] 24)) os1 n1).alloc (.cells C 37)) ([(w.heap.size, 0, .int .u8 c.object), (w.heap.size, 1, .int .i64 c.instances), (w.heap.size, 2, .int .i64 c.threads), (w.heap.size, 3, .int .u8 c.kind), (w.heap.size, 4, .int .i64 c.stripes), (w.heap.size, 5, .int .i64 c.bits), (w.heap.size, 6, .int .i64 c.cap), (w.heap.size, 7, .int .i64 c.node), (w.heap.size, 8, .int .i64 c.batch), (w.heap.size, 9, .int .i64 c.chunk), (w.heap.size, 10, .int .u64 c.limit), (w.heap.size, 11, .int .u64 c.most)] ++ [(w.heap.size + 1 + cnt os1, k2 * 4 + 1, .int .u64 K)])) := Lib.hid (by
                rw [holds_iff]
                simp [go_sem, p1])
              have p2 : (C.setIfInBounds (k1 * 4 + 1) (.int .u64 K))[k2 * 4 + 1]? = some (.int .u64 K) := by
                rw [Array.getElem?_setIfInBounds]
                split
                · rw [if_pos (by omega)]
                · exact p1
              have HK2 : Hid (Holds ((grew (w.alloc (.cells #[.int .u8 c.object, .int .i64 c.instances, .int .i64 c.threads, .int .u8 c.kind, .int .i64 c.stripes, .int .i64 c.bits, .int .i64 c.cap, .int .i64 c.node, .int .i64 c.batch, .int .i64 c.chunk, .int .u64 c.limit, .int .u64 c.most] 24)) os1 n1).alloc (.cells (C.setIfInBounds (k1 * 4 + 1) (.int .u64 K)) 37)) ([(w.heap.size, 0, .int .u8 c.object), (w.heap.size, 1, .int .i64 c.instances), (w.heap.size, 2, .int .i64 c.threads), (w.heap.size, 3, .int .u8 c.kind), (w.heap.size, 4, .int .i64 c.stripes), (w.heap.size, 5, .int .i64 c.bits), (w.heap.size, 6, .int .i64 c.cap), (w.heap.size, 7, .int .i64 c.node), (w.heap.size, 8, .int .i64 c.batch), (w.heap.size, 9, .int .i64 c.chunk), (w.heap.size, 10, .int .u64 c.limit), (w.heap.size, 11, .int .u64 c.most)] ++ [(w.heap.size + 1 + cnt os1, k2 * 4 + 1, .int .u64 K)])) := Lib.hid (by
                rw [holds_iff]
                simp [go_sem, p2])
              clear hiU hiN he el er heN hen hk1 hk2 hof1 hof2 hcell hK hin2 hkG1 hkG2
              go_upto_region 14 with (first | (go_at_call 22; (with_reducible refine (items_as _ _ _ HMB.out HNODE.out HGB.out _ _ HUP.out).mono ?_); rintro e w1 ⟨rfl, rfl⟩) | (go_at_call 40; (with_reducible refine (end_as _ _ _ _ HMB2.out HNODE.out HG4.out HIU.out _ _ HEND.out).mono ?_); rintro e w1 ⟨rfl, rfl⟩))
              go_region_held3 (fun W => W.cell? ⟨w.heap.size, 0, none⟩ = some (.int .u8 c.object) ∧ W.cell? ⟨w.heap.size, 1, none⟩ = some (.int .i64 c.instances) ∧ W.cell? ⟨w.heap.size, 2, none⟩ = some (.int .i64 c.threads) ∧ W.cell? ⟨w.heap.size, 3, none⟩ = some (.int .u8 c.kind) ∧ W.cell? ⟨w.heap.size, 4, none⟩ = some (.int .i64 c.stripes) ∧ W.cell? ⟨w.heap.size, 5, none⟩ = some (.int .i64 c.bits) ∧ W.cell? ⟨w.heap.size, 6, none⟩ = some (.int .i64 c.cap) ∧ W.cell? ⟨w.heap.size, 7, none⟩ = some (.int .i64 c.node) ∧ W.cell? ⟨w.heap.size, 8, none⟩ = some (.int .i64 c.batch) ∧ W.cell? ⟨w.heap.size, 9, none⟩ = some (.int .i64 c.chunk) ∧ W.cell? ⟨w.heap.size, 10, none⟩ = some (.int .u64 c.limit) ∧ W.cell? ⟨w.heap.size, 11, none⟩ = some (.int .u64 c.most) ∧ W.cell? ⟨w.heap.size + 1 + cnt os1, k2 * 4 + 1, none⟩ = some (.int .u64 K)) (first | (refine Holds.ext HK.out ?_; (repeat (first | with_reducible exact Ext.refl _ | with_reducible assumption | with_reducible refine Ext.alloc ?_ _ | with_reducible refine Ext.gr ?_ _ | with_reducible refine Ext.drewN ?_ _ | with_reducible refine Ext.drew ?_ | with_reducible refine Ext.more ?_ _ _ | (show _ ≤ _; dsimp only; omega))); done) | (refine Holds.ext HK2.out ?_; (repeat (first | with_reducible exact Ext.refl _ | with_reducible assumption | with_reducible refine Ext.alloc ?_ _ | with_reducible refine Ext.gr ?_ _ | with_reducible refine Ext.drewN ?_ _ | with_reducible refine Ext.drew ?_ | with_reducible refine Ext.more ?_ _ _ | (show _ ≤ _; dsimp only; omega))); done)) (first | (go_at_call 21; (with_reducible refine (off_as c HOK.out ((g : Int) + 1) (i : Int) HGQ.out HIQ.out _ _ HOF1.out).mono ?_); rintro e w1 ⟨rfl, os3, n3, rfl⟩) | (go_at_call 21; (with_reducible refine (off_as c HOK.out (g : Int) (e : Int) HGQ2.out HEQ.out _ _ HOF2.out).mono ?_); rintro e w1 ⟨rfl, os4, n4, rfl⟩))
              all_goals
                go_wp2
                go_roundw
                case rel =>
                  refine ⟨i + 1, L.set k1 { tc L k1 with a := K }, _, by omega, by go_num, by rw [List.length_set]; exact hLG, Lib.hid ?_, Lib.hid HIN2.out, Lib.hid EXX⟩
                  have hiN : i < itN wd (g + 1) N := Nat.lt_of_lt_of_le HIU2.out (it_mono hw0 hn)
                  have hz : tc L k1 = zce := by
                    rw [← HK1.out, HL.out.lev (g + 1) i (by omega) (by omega) hiN]
                    show (if g + 1 < g + 1 ∨ (g + 1 = g + 1 ∧ i < i) then gM wd M (g + 1) i else zce) = zce
                    exact if_neg (by omega)
                  rw [hz, ← HK1.out]
                  refine (HL.out.setG (by omega) (by omega) hiN ⟨0, K, 0, 0⟩).to rfl (fun _ _ => rfl) (fun g' k _ _ _ => ?_)
                  unfold upd2
                  by_cases e' : g' = g + 1 ∧ k = i
                  · rw [if_pos e', if_pos (by omega), e'.1, e'.2]
                    unfold gM
                    rw [if_pos HIU2.out, HKK.out]
                  · rw [if_neg e']
                    show (if g' < g + 1 ∨ (g' = g + 1 ∧ k < i) then gM wd M g' k else zce) = (if g' < g + 1 ∨ (g' = g + 1 ∧ k < i + 1) then gM wd M g' k else zce)
                    by_cases e2 : g' < g + 1 ∨ (g' = g + 1 ∧ k < i)
                    · rw [if_pos e2, if_pos (by omega)]
                    · rw [if_neg e2, if_neg (by omega)]
                case measure => simp [intOf]; omega
            · obtain rfl : i = U := by omega
              go_wp2_with (go_at_call 22; (with_reducible refine (items_as _ _ _ HMB.out HNODE.out HGB.out _ _ HUP.out).mono ?_); rintro e w1 ⟨rfl, rfl⟩)
              go_roundw
              case rel =>
                refine ⟨g + 1 + 1, L, C, by omega, by omega, by go_num, hLG, Lib.hid (HL.out.to rfl (fun _ _ => rfl) (fun g' k _ _ _ => ?_)), HIN, Lib.hid EXX⟩
                by_cases e : g' < g + 1
                · rw [if_pos (.inl e), if_pos (by omega)]
                · by_cases e2 : g' = g + 1
                  · subst e2
                    rw [if_pos (show g + 1 < g + 1 + 1 by omega)]
                    by_cases e3 : k < i
                    · rw [if_pos (.inr ⟨rfl, e3⟩)]
                    · rw [if_neg (by omega)]
                      unfold gM
                      rw [if_neg (by rw [HU.out]; exact e3)]
                  · rw [if_neg (by omega), if_neg (by omega)]
              case measure => simp [intOf]; omega
        · have hle' : ¬ (h : Int) ≤ (T : Int) := by omega
          go_wp2_with (go_at_call 20; (with_reducible refine (top13_as c HOK.out _ T HT.out).mono ?_); rintro e w1 ⟨rfl, os2, n2, rfl⟩)
          go_ret
          refine ⟨some ⟨w.heap.size + 1 + cnt os1, 0, none⟩, G, L, by rw [hLG]; rfl, Lib.hid (HL.out.to rfl (fun _ _ => rfl) (fun g k g1 g2 _ => by rw [if_pos (by omega)])), Lib.hid ⟨by omega, by unfold maxLen; omega, Or.inr ⟨_, _, rfl, fun j u hu => ?_⟩⟩, EXX⟩
          have hj := HIN.out j u hu
          simp only [Nat.zero_add]
          simp [go_sem]
          exact hj
end Go.Proofs.YtkklhhdkokncnaaDoor
