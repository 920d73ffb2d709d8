/- The reference's 'Behind' joined, layer 'tree'. -/
import Derived.Test.YtmhmaifmendebaaGreatDoorGs
import Derived.Test.YtmhmaifmendebaaGreatDoorGh
import Derived.Test.YtmhmaifmendebaaGreatDoorTreA
namespace Go.Proofs.YtmhmaifmendebaaGreatDoor.tree
open Go Go.RowKit
set_option maxRecDepth 100000
set_option maxHeartbeats 8000000

theorem behindR_any (c : Cfg) (hc : TreOk c) (f : Frm) (hf : f.Fits) (hkd : f.kind = 4 ∨ f.kind = 5 ∨ f.kind = 6 ∨ f.kind = 7 ∨ f.kind = 8) (l : Cel) (hl : l.Fits) (hhas : treHas f = true) (hnum : treNum c f = true) (hi : f.pc = 1 ∨ f.pc = 14 → f.i ≤ 32) (h15 : f.pc = 15 → 1 ≤ f.n) (w : World) : Calls Tryz.prog 41 #[c.v, f.v, l.v] w
    fun e w' => e = .returned (tupFB (treBehind c f l)) ∧ Ext w w' := by
  have hpc : f.pc = 0 ∨ f.pc = 1 ∨ f.pc = 3 ∨ f.pc = 4 ∨ f.pc = 5 ∨ f.pc = 6 ∨ f.pc = 7 ∨ f.pc = 8 ∨ f.pc = 9 ∨ f.pc = 11 ∨ f.pc = 12 ∨ f.pc = 13 ∨ f.pc = 14 ∨ f.pc = 15 ∨ f.pc = 16 ∨ f.pc = 17 ∨ f.pc = 20 ∨ f.pc = 21 ∨ f.pc = 22 ∨ f.pc = 23 ∨ f.pc = 24 ∨ f.pc = 25 := by
    simp only [treHas, Bool.or_eq_true, Bool.and_eq_true, beq_iff_eq] at hhas
    omega
  rcases hpc with h | h | h | h | h | h | h | h | h | h | h | h | h | h | h | h | h | h | h | h | h | h
  · exact behindR_0 c hc f hf hkd l hl hnum hi h15 h w
  · exact behindR_1 c hc f hf hkd l hl hnum hi h15 h w
  · exact behindR_3 c hc f hf hkd l hl hnum hi h15 h w
  · exact behindR_4 c hc f hf hkd l hl hnum hi h15 h w
  · exact behindR_5 c hc f hf hkd l hl hnum hi h15 h w
  · exact behindR_6 c hc f hf hkd l hl hnum hi h15 h w
  · exact behindR_7 c hc f hf hkd l hl hnum hi h15 h w
  · exact behindR_8 c hc f hf hkd l hl hnum hi h15 h w
  · exact behindR_9 c hc f hf hkd l hl hnum hi h15 h w
  · exact behindR_11 c hc f hf hkd l hl hnum hi h15 h w
  · exact behindR_12 c hc f hf hkd l hl hnum hi h15 h w
  · exact behindR_13 c hc f hf hkd l hl hnum hi h15 h w
  · exact behindR_14 c hc f hf hkd l hl hnum hi h15 h w
  · exact behindR_15 c hc f hf hkd l hl hnum hi h15 h w
  · exact behindR_16 c hc f hf hkd l hl hnum hi h15 h w
  · exact behindR_17 c hc f hf hkd l hl hnum hi h15 h w
  · exact behindR_20 c hc f hf hkd l hl hnum hi h15 h w
  · exact behindR_21 c hc f hf hkd l hl hnum hi h15 h w
  · exact behindR_22 c hc f hf hkd l hl hnum hi h15 h w
  · exact behindR_23 c hc f hf hkd l hl hnum hi h15 h w
  · exact behindR_24 c hc f hf hkd l hl hnum hi h15 h w
  · exact behindR_25 c hc f hf hkd l hl hnum hi h15 h w
end Go.Proofs.YtmhmaifmendebaaGreatDoor.tree
/- The walk of the reference's 'After', layer 'tree'. -/
namespace Go.Proofs.YtmhmaifmendebaaGreatDoor.tree
open Go Go.RowKit
set_option maxRecDepth 100000
set_option maxHeartbeats 8000000

theorem treAfterR_any (c : Cfg) (f : Frm) (l : Cel) (hf : f.Fits) (hl : l.Fits) (w : World) : Calls Tryz.prog 18 #[c.v, f.v, l.v] w
    fun e w' => e = .returned (treOutV (treAfterA c f l) (treErr c f)) ∧ Ext w w' := by
  have HF := Lib.hid hf
  have HL := Lib.hid hl
  cases hp : partOk c
  · have HE := Lib.hid (treErr_conf (f := f) hp)
    have HN : Hid (treAfterA c f l = (zeroFrm, false)) := Lib.hid (by simp [treAfterA, HE.out])
    have HC := Lib.hid hp
    clear hp hf hl
    go_enter Tryz.func18, Tryz.ntmps18
    go_wp2_with (go_at_call 11; refine (mayBe_any c _).mono ?_; rintro e w1 ⟨rfl, os1, n1, rfl⟩; rw [HC.out])
    (refine bodyPost_ret (v := treOutV (zeroFrm, false) 40) (by simp [results, Tryz.results18, go_sem]) rfl ?_)
    exact ⟨by rw [HN.out, HE.out], EX⟩
  · have HC := Lib.hid hp
    cases h2 : (c.object == 2)
    · have HE := Lib.hid (treErr_obj (f := f) h2)
      have HN : Hid (treAfterA c f l = (zeroFrm, false)) := Lib.hid (by simp [treAfterA, HE.out])
      have h2' : (c.object != 2) = true := by simpa using h2
      clear hp hf hl
      go_enter Tryz.func18, Tryz.ntmps18
      go_wp2_with (go_at_call 11; refine (mayBe_any c _).mono ?_; rintro e w1 ⟨rfl, os1, n1, rfl⟩; rw [HC.out])
      (refine bodyPost_ret (v := treOutV (zeroFrm, false) 40) (by simp [results, Tryz.results18, go_sem]) rfl ?_)
      exact ⟨by rw [HN.out, HE.out], EX⟩
    · have hob : c.object = 2 := by simpa using h2
      have HOB : Hid (c.object = 2) := Lib.hid hob
      have h2' : (c.object != 2) = false := by simpa using h2
      cases h3 : treMay c f
      · have HE := Lib.hid (treErr_arg hp h2 h3)
        have HN : Hid (treAfterA c f l = (zeroFrm, false)) := Lib.hid (by simp [treAfterA, HE.out])
        have HM := Lib.hid h3
        clear hp h3 hf hl hob
        go_enter Tryz.func18, Tryz.ntmps18
        go_wp2_with (first | (go_at_call 11; refine (mayBe_any c _).mono ?_; rintro e w1 ⟨rfl, os1, n1, rfl⟩; rw [HC.out]) | (go_at_call 32; refine (mayR13_any c f HC.out HOB.out HF.out _).mono ?_; rintro e w2 ⟨rfl, os2, n2, rfl⟩; rw [HM.out]))
        (refine bodyPost_ret (v := treOutV (zeroFrm, false) 2) (by simp [results, Tryz.results18, go_sem]) rfl ?_)
        exact ⟨by rw [HN.out, HE.out], EX⟩
      · have HE := Lib.hid (treErr_yes hp h2 h3)
        have HM := Lib.hid h3
        have hc := treOk_of hp hob
        have HOK := Lib.hid hc
        have hmf := treMay_facts h3
        have HMF := Lib.hid hmf
        have hb := treBound hc hf h3
        have HB := Lib.hid hb
        have HKD := Lib.hid (treKinds hob h3)
        have hgf := behind_fits hc hf hl hmf.2.2.1 hb.1 hb.2
        obtain ⟨G, T, hGT⟩ : ∃ G T, treBehind c f l = (G, T) := ⟨_, _, rfl⟩
        rw [hGT] at hgf
        have HG := Lib.hid hgf
        have HQ := Lib.hid hGT
        have HN : Hid (treAfterA c f l = (G, T)) := Lib.hid (by simp [treAfterA, HE.out, hGT])
        clear hp h3 hf hl hob hc hmf hb hgf hGT
        cases T
        · go_enter Tryz.func18, Tryz.ntmps18
          go_wp2_with (first | (go_at_call 11; refine (mayBe_any c _).mono ?_; rintro e w1 ⟨rfl, os1, n1, rfl⟩; rw [HC.out]) | (go_at_call 32; refine (mayR13_any c f HC.out HOB.out HF.out _).mono ?_; rintro e w2 ⟨rfl, os2, n2, rfl⟩; rw [HM.out]) | (go_at_call 41; refine (behindR_any c HOK.out f HF.out HKD.out l HL.out HMF.out.2.1 HMF.out.2.2.1 HB.out.1 HB.out.2 _).mono ?_; rintro e w3 ⟨rfl, os3, n3, rfl⟩; rw [HQ.out]))
          (refine bodyPost_ret (v := treOutV (G, false) 0) (by simp [results, Tryz.results18, go_sem]) rfl ?_)
          exact ⟨by rw [HN.out, HE.out], EX⟩
        · go_enter Tryz.func18, Tryz.ntmps18
          go_upto_region 8 with (first | (go_at_call 11; refine (mayBe_any c _).mono ?_; rintro e w1 ⟨rfl, os1, n1, rfl⟩; rw [HC.out]) | (go_at_call 32; refine (mayR13_any c f HC.out HOB.out HF.out _).mono ?_; rintro e w2 ⟨rfl, os2, n2, rfl⟩; rw [HM.out]) | (go_at_call 41; refine (behindR_any c HOK.out f HF.out HKD.out l HL.out HMF.out.2.1 HMF.out.2.2.1 HB.out.1 HB.out.2 _).mono ?_; rintro e w3 ⟨rfl, os3, n3, rfl⟩; rw [HQ.out]))
          refine wp_have (fun W => Hid (Holds W [(w.heap.size + 1 + 1 + 1 + 1 + 1 + cnt (both (both os1 os2) os3), 0, .int .u8 G.kind), (w.heap.size + 1 + 1 + 1 + 1 + 1 + cnt (both (both os1 os2) os3), 1, .int .u32 G.a), (w.heap.size + 1 + 1 + 1 + 1 + 1 + cnt (both (both os1 os2) os3), 2, .int .u32 G.b), (w.heap.size + 1 + 1 + 1 + 1 + 1 + cnt (both (both os1 os2) os3), 3, .int .u8 G.pc), (w.heap.size + 1 + 1 + 1 + 1 + 1 + cnt (both (both os1 os2) os3), 4, .int .u8 G.i), (w.heap.size + 1 + 1 + 1 + 1 + 1 + cnt (both (both os1 os2) os3), 5, .int .u8 G.j), (w.heap.size + 1 + 1 + 1 + 1 + 1 + cnt (both (both os1 os2) os3), 6, .int .u8 G.n), (w.heap.size + 1 + 1 + 1 + 1 + 1 + cnt (both (both os1 os2) os3), 7, .int .u8 G.p), (w.heap.size + 1 + 1 + 1 + 1 + 1 + cnt (both (both os1 os2) os3), 8, .int .u8 G.h), (w.heap.size + 1 + 1 + 1 + 1 + 1 + cnt (both (both os1 os2) os3), 9, .int .u32 G.x), (w.heap.size + 1 + 1 + 1 + 1 + 1 + cnt (both (both os1 os2) os3), 10, .int .u32 G.y)])) (Lib.hid (by rw [holds_iff]; simp [go_sem])) ?_
          intro HK
          go_region_held3 (fun W => W.cell? ⟨w.heap.size + 1 + 1 + 1 + 1 + 1 + cnt (both (both os1 os2) os3), 0, none⟩ = some (.int .u8 G.kind) ∧ W.cell? ⟨w.heap.size + 1 + 1 + 1 + 1 + 1 + cnt (both (both os1 os2) os3), 1, none⟩ = some (.int .u32 G.a) ∧ W.cell? ⟨w.heap.size + 1 + 1 + 1 + 1 + 1 + cnt (both (both os1 os2) os3), 2, none⟩ = some (.int .u32 G.b) ∧ W.cell? ⟨w.heap.size + 1 + 1 + 1 + 1 + 1 + cnt (both (both os1 os2) os3), 3, none⟩ = some (.int .u8 G.pc) ∧ W.cell? ⟨w.heap.size + 1 + 1 + 1 + 1 + 1 + cnt (both (both os1 os2) os3), 4, none⟩ = some (.int .u8 G.i) ∧ W.cell? ⟨w.heap.size + 1 + 1 + 1 + 1 + 1 + cnt (both (both os1 os2) os3), 5, none⟩ = some (.int .u8 G.j) ∧ W.cell? ⟨w.heap.size + 1 + 1 + 1 + 1 + 1 + cnt (both (both os1 os2) os3), 6, none⟩ = some (.int .u8 G.n) ∧ W.cell? ⟨w.heap.size + 1 + 1 + 1 + 1 + 1 + cnt (both (both os1 os2) os3), 7, none⟩ = some (.int .u8 G.p) ∧ W.cell? ⟨w.heap.size + 1 + 1 + 1 + 1 + 1 + cnt (both (both os1 os2) os3), 8, none⟩ = some (.int .u8 G.h) ∧ W.cell? ⟨w.heap.size + 1 + 1 + 1 + 1 + 1 + cnt (both (both os1 os2) os3), 9, none⟩ = some (.int .u32 G.x) ∧ W.cell? ⟨w.heap.size + 1 + 1 + 1 + 1 + 1 + cnt (both (both os1 os2) os3), 10, none⟩ = some (.int .u32 G.y)) (first | (simp [go_sem]; done) | exact HK.out.ext EX) (first | (go_at_call 42; refine (rowR_any G HG.out _).mono ?_; rintro e w4 ⟨rfl, os4, n4, rfl⟩))
          all_goals
            go_wp2
            (refine bodyPost_ret (v := treOutV (G, true) 0) (by simp [results, Tryz.results18, go_sem]) rfl ?_)
            exact ⟨by rw [HN.out, HE.out], EX⟩
end Go.Proofs.YtmhmaifmendebaaGreatDoor.tree
