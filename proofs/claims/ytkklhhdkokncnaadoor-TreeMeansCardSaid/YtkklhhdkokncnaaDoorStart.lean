/- The walk of 'reg.Start'. -/
import Derived.Test.YtkklhhdkokncnaaDoorProg
import Derived.Test.YtkklhhdkokncnaaDoorA0
import Derived.Deep.QuietTactic
import Derived.BigQuiet
import Derived.Lib.Hide
import Derived.Deep.Light
namespace Go.Proofs.YtkklhhdkokncnaaDoor
open Go Go.RowKit
set_option maxRecDepth 100000
set_option maxHeartbeats 8000000

def startF (o : Opn) : Frm := ⟨o.kind, o.a, o.b, 0, 0, 0, 0, 0, 0, 0, o.c⟩
theorem startF_fits {o : Opn} (h : o.Fits) : (startF o).Fits :=
  ⟨h.kind, h.a, h.b, by constructor <;> simp [startF], by constructor <;> simp [startF], by constructor <;> simp [startF], by constructor <;> simp [startF], by constructor <;> simp [startF], by constructor <;> simp [startF], by constructor <;> simp [startF], h.c⟩

theorem regStart_any (o : Opn) (w : World) : Calls Tryd.prog 23 #[o.v] w
    fun e w' => e = .returned (startF o).v ∧ ∃ x y, w' = (w.alloc x).alloc y := by
  go_enter Tryd.func23, Tryd.ntmps23
  go_wp2
  refine bodyPost_ret (v := (startF o).v) (by simp [results, Tryd.results23, go_sem, startF]) rfl ⟨rfl, _, _, rfl⟩
end Go.Proofs.YtkklhhdkokncnaaDoor
