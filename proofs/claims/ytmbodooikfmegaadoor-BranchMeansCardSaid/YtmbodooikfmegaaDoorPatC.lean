/- The walks of the layer 'paths': 'missing'. -/
import Derived.Test.YtmbodooikfmegaaDoorPatB
import Derived.Test.YtmbodooikfmegaaDoorPatL
namespace Go.Proofs.YtmbodooikfmegaaDoor.paths
open Go Go.RowKit
set_option maxRecDepth 100000
set_option maxHeartbeats 8000000

theorem take_not_mem {ps : List Int} (h : ps.Nodup) {k : Nat} (hk : k < ps.length) : ¬ ps[k] ∈ ps.take k := by
  intro hm
  obtain ⟨i, hi, e⟩ := List.mem_iff_getElem.1 hm
  rw [List.getElem_take] at e
  have hi' : i < k := by have := List.length_take_le k ps; rw [List.length_take] at hi; omega
  have := (List.nodup_iff_pairwise_ne.1 h)
  exact (List.pairwise_iff_getElem.1 this i k (by omega) hk hi') e
theorem missing_any (v u : Value) (L : List Rw) (ps : List Int) (hf : RwsFit L) (hps : ∀ p ∈ ps, 0 ≤ p ∧ p ≤ 18446744073709551615) (hnd : ps.Nodup) (hn : ps.length ≤ 1000) (w : World) (hv : Rws w v L) (hu : Sl w u ps.length (ps.map fun p => .int .u64 p)) :
    Calls Tryd.prog 36 #[v, u] w fun e w' => ∃ b n, e = .returned (.map (some b)) ∧ Hid (w.heap.size ≤ b ∧ Lack w' b n (lackL L ps)) ∧ Ext w w' := by
  obtain ⟨ad, cap, rfl, hs, hs2⟩ := hv
  obtain ⟨ad2, cap2, rfl, hs3⟩ := hu
  have hm := hs.len
  have HV := Lib.hid hs
  have HU := Lib.hid hs3
  have HPS := Lib.hid hps
  have HN0 := Lib.hid hnd
  have HF := Lib.hid hf
  have hmm := @run_makeMap Tryd.prog
  clear hs hs2 hs3 hps hnd hf
  go_enter Tryd.func36, Tryd.ntmps36
  go_wp2
  go_loopw [13] (fun i wr => ∃ k : Nat, k ≤ ps.length ∧ i = .int .i64 k ∧ Hid (Lack wr w.heap.size k (ps.take k)) ∧ Hid (Ext w wr)) (fun i _ => ps.length - (intOf i).toNat)
  case atStart => exact ⟨0, Nat.zero_le _, rfl, Lib.hid (by have := Lack.made w; simpa using this), Lib.hid EX⟩
  case round =>
    obtain ⟨k, hk, rfl, HL, HE⟩ := hrel
    by_cases hlt : k < ps.length
    · obtain ⟨b, o, rfl, hc⟩ := (HU.out.ext HE.out).pos (by omega)
      obtain ⟨q, hq⟩ : ∃ q, ps[k] = q := ⟨_, rfl⟩
      have c0 : wr.cell? ⟨b, o + k, none⟩ = some (.int .u64 q) := hc k _ (by simp [hlt, hq])
      have HQ : Hid (0 ≤ q ∧ q ≤ 18446744073709551615) := Lib.hid (HPS.out q (by rw [← hq]; exact List.getElem_mem _))
      obtain ⟨D, hown, h0, h1, hnd2⟩ := HL.out
      have HOW := Lib.hid hown
      have HH := Lib.hid h0
      have HZ := Lib.hid h1
      have HND := Lib.hid hnd2
      have HTD := Lib.hid (hown.tidy law_u64)
      have HNI : Hid (¬ q ∈ ps.take k) := Lib.hid (by
        rw [← hq]
        exact take_not_mem HN0.out hlt)
      have HTK : Hid (ps.take k ++ [q] = ps.take (k + 1)) := Lib.hid (by rw [← hq]; exact List.take_append_getElem hlt)
      have i1 : (k : Int) < (ps.length : Int) := by omega
      have i2 : (0 : Int) ≤ (k : Int) := by omega
      have hE := HE.out
      clear hc hq hown h0 h1 hnd2 HL
      go_wp2_with (at_mapUpdate; refine wpList_mapUpdate_own _ rfl _ _ _ 90 rfl 22 3 law_u64 Tryd.underlying90 _ w.heap.size k _ rfl HOW.out (by unfold maxLen; omega) _ _ _ rfl rfl (key_u64 HQ.out) _ [] (plainElem_int Tryd.underlying3 (WalkArith.wf_i64 (by omega))) ?_; intro w1 hown1 hgrow1; have he1 := ext_grown (U := w) EXX hgrow1 (by intro k hk; cases hk; exact Nat.le_refl _); have HL1 := Lib.hid (lack_put HH.out HZ.out HND.out HTD.out HNI.out hown1); have HE1 := Lib.hid he1; clear hown1 hgrow1 he1)
      go_roundw
      case rel => exact ⟨k + 1, by omega, by go_num, Lib.hid (by rw [← HTK.out]; exact HL1.out), HE1⟩
      case measure => simp [intOf]; omega
    · obtain rfl : k = ps.length := by omega
      have HL0 : Hid (Lack wr w.heap.size ps.length (lackL (L.take 0) ps)) := Lib.hid (by
        have h := HL.out
        rw [List.take_length] at h
        rw [List.take_zero, lackL_nil]
        exact h)
      have hE := HE.out
      clear HL
      go_wp2
      go_loopw [24] (fun i wr => ∃ k : Nat, k ≤ L.length ∧ i = .int .i64 k ∧ Hid (Lack wr w.heap.size ps.length (lackL (L.take k) ps)) ∧ Hid (Ext w wr)) (fun i _ => L.length - (intOf i).toNat)
      case atStart => exact ⟨0, Nat.zero_le _, rfl, HL0, HE⟩
      case round =>
        obtain ⟨k, hk, rfl, HL, HE⟩ := hrel
        by_cases hlt : k < L.length
        · obtain ⟨b, o, rfl, hbl, r1, r2⟩ := (HV.out.ext HE.out).rw hlt
          obtain ⟨x, hx⟩ : ∃ x, L.getD k zrw = x := ⟨_, rfl⟩
          rw [hx] at r1 r2
          have HQ : Hid (0 ≤ x.k ∧ x.k ≤ 18446744073709551615) := Lib.hid (by rw [← hx]; exact (HF.out.get k).k)
          obtain ⟨S, hS⟩ : ∃ S, lackL (L.take k) ps = S := ⟨_, rfl⟩
          have HTK : Hid (S.filter (fun j => !(j == x.k)) = lackL (L.take (k + 1)) ps) := Lib.hid (by
            rw [← hS, lack_step, ← hx, getD_rw L k hlt, List.take_append_getElem hlt])
          rw [hS] at HL
          obtain ⟨D, hown, h0, h1, hnd2⟩ := HL.out
          have HOW := Lib.hid hown
          have HH := Lib.hid h0
          have HZ := Lib.hid h1
          have HND := Lib.hid hnd2
          have HTD := Lib.hid (hown.tidy law_u64)
          have i1 : (k : Int) < (L.length : Int) := by omega
          have i2 : (0 : Int) ≤ (k : Int) := by omega
          have hE := HE.out
          clear hx hS hown h0 h1 hnd2 HL
          go_wp2_with (at_delete; refine wpList_delete_own _ rfl _ _ 90 22 rfl 3 law_u64 Tryd.underlying90 _ w.heap.size ps.length _ rfl (HOW.out.alloc _) _ _ rfl (key_u64 HQ.out) ?_; intro w1 hown1 hturn1; have he1 := ext_grown (U := w) EXX hturn1.grown (by intro k hk; cases hk; exact Nat.le_refl _); have HL1 := Lib.hid (lack_del HH.out HZ.out HND.out HTD.out hown1); have HE1 := Lib.hid he1; clear hown1 hturn1 he1)
          go_roundw
          case rel => exact ⟨k + 1, by omega, by go_num, Lib.hid (by rw [← HTK.out]; exact HL1.out), HE1⟩
          case measure => simp [intOf]; omega
        · obtain rfl : k = L.length := by omega
          have hE := HE.out
          go_wp2
          go_ret
          exact ⟨w.heap.size, ps.length, rfl, Lib.hid ⟨Nat.le_refl _, by have h := HL.out; rw [List.take_length] at h; exact h⟩, hE⟩
theorem lack_grew {W : World} {os : Array Obj} {d : Nat} {b n : Nat} {S : List Int} (h : Lack (grew W os d) b n S) (d' : Nat) : Lack (grew W os d') b n S := by
  obtain ⟨D, ⟨es, clock, hb, r⟩, h2⟩ := h
  exact ⟨D, ⟨es, clock, hb, r⟩, h2⟩
end Go.Proofs.YtmbodooikfmegaaDoor.paths
