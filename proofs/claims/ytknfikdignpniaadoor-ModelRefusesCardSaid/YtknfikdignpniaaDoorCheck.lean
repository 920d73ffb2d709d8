/- The walks of 'op.Check'. -/
import Derived.Test.YtknfikdignpniaaDoorOp
namespace Go.Proofs.YtknfikdignpniaaDoor
open Go Go.RowKit
set_option maxRecDepth 100000
set_option maxHeartbeats 8000000

theorem opCheck_any (c : Cfg) (o : Opn) (ho : o.Fits) (w : World) (ht : Tab w) : Calls Tryd.prog 7 #[c.v, o.v] w
    fun e w' => e = .returned (.int .i64 (opErr c o)) ∧ Ext w w' := by
  have HO := Lib.hid ho
  clear ho
  cases hp : partOk c
  · have HE := Lib.hid (opErr_conf (o := o) hp)
    have HC := Lib.hid (conf_no hp)
    clear hp
    go_enter Tryd.func7, Tryd.ntmps7
    go_wp2_with (go_at_call 11; refine (partCheck_any c _).mono ?_; rintro e w1 ⟨rfl, os1, n1, rfl⟩; rw [HC.out];)
    go_ret
    exact ⟨ret_int HE.out.symm, EX⟩
  · have hbits := partOk_bits hp
    have hobj := partOk_object hp
    have HC := Lib.hid (conf_ok hp)
    cases h2 : (objOf o.kind == c.object)
    · have HE := Lib.hid (opErr_op hp h2)
      clear hp
      go_enter Tryd.func7, Tryd.ntmps7
      go_wp2_with (go_at_call 11; refine (partCheck_any c _).mono ?_; rintro e w1 ⟨rfl, os1, n1, rfl⟩; rw [HC.out];)
      go_quiet ((go_at_call 13; refine quiet_left (object_any _ _ HO.out.kind (fun hk => Tab.at (Tab.ext ht ?_) HO.out.kind.1 hk)); exact EX))
      go_wp2
      go_ret
      exact ⟨ret_int HE.out.symm, EX⟩
    · have HK := Lib.hid (kind_of hobj h2)
      cases h3 : fitsB c o
      · have HE := Lib.hid (opErr_over hp h2 h3)
        have HF := Lib.hid h3
        clear hp h3
        go_enter Tryd.func7, Tryd.ntmps7
        go_wp2_with (go_at_call 11; refine (partCheck_any c _).mono ?_; rintro e w1 ⟨rfl, os1, n1, rfl⟩; rw [HC.out];)
        go_quiet ((go_at_call 13; refine quiet_left (object_any _ _ HO.out.kind (fun hk => Tab.at (Tab.ext ht ?_) HO.out.kind.1 hk)); exact EX))
        go_wp2_with (go_at_call 14; refine (fits_any c o HO.out hbits HK.out _).mono ?_; rintro e w2 ⟨rfl, os2, n2, rfl⟩; rw [HF.out];)
        go_ret
        exact ⟨ret_int HE.out.symm, EX⟩
      · have HE := Lib.hid (opErr_ok hp h2 h3)
        have HF := Lib.hid h3
        clear hp h3
        go_enter Tryd.func7, Tryd.ntmps7
        go_wp2_with (go_at_call 11; refine (partCheck_any c _).mono ?_; rintro e w1 ⟨rfl, os1, n1, rfl⟩; rw [HC.out];)
        go_quiet ((go_at_call 13; refine quiet_left (object_any _ _ HO.out.kind (fun hk => Tab.at (Tab.ext ht ?_) HO.out.kind.1 hk)); exact EX))
        go_wp2_with (go_at_call 14; refine (fits_any c o HO.out hbits HK.out _).mono ?_; rintro e w2 ⟨rfl, os2, n2, rfl⟩; rw [HF.out];)
        go_ret
        exact ⟨ret_int HE.out.symm, EX⟩
end Go.Proofs.YtknfikdignpniaaDoor
