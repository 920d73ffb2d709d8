/- The walk of 'may', the layer 'tree'. -/
import Derived.Test.YtkklhhdkokncnaaDoorTre5a0
import Derived.Test.YtkklhhdkokncnaaDoorTre5a1
import Derived.Test.YtkklhhdkokncnaaDoorTre5a2
import Derived.Test.YtkklhhdkokncnaaDoorTre5a3
namespace Go.Proofs.YtkklhhdkokncnaaDoor
open Go Go.RowKit

theorem treMay_other (c : Cfg) (f : Frm) (s : Value) (hok : TreOk c) (hf : f.Fits) (hk : (f.kind == 5) = false) (b : Nat) (w : World) (ht : Tab w) (hw : Holds w (tl c f s b)) (hs : Sl w s (lvC c) (lvL c)) : Calls Tryd.prog 55 #[.pointer (some ⟨b, 0, none⟩)] w
    fun e w' => e = .returned (.bool (treMay c f)) ∧ Ext w w' := by
  cases e0 : (opErr c ⟨f.kind, f.a, f.b, 0⟩ == 0)
  · exact treMay_other_e c f s hok hf hk b w ht hw hs e0
  cases hb0 : treHas f
  · exact treMay_other_b c f s hok hf hk b w ht hw hs e0 hb0
  cases mn : decide (c.cap < f.n)
  case true => exact treMay_other_mn c f s hok hf hk b w ht hw hs e0 hb0 mn
  cases mp : decide (c.cap < f.p)
  case true => exact treMay_other_mp c f s hok hf hk b w ht hw hs e0 hb0 mn mp
  cases mj : decide (c.chunk < f.j)
  case true => exact treMay_other_mj c f s hok hf hk b w ht hw hs e0 hb0 mn mp mj
  cases mh : decide (treTop c < f.h)
  case true => exact treMay_other_mh c f s hok hf hk b w ht hw hs e0 hb0 mn mp mj mh
  cases z16 : (f.pc == 16)
  case true => exact treMay_other_p2 c f s hok hf hk b w ht hw hs e0 hb0 mn mp mj mh z16
  cases jc : (f.j == c.chunk)
  · exact treMay_other_p1 c f s hok hf hk b w ht hw hs e0 hb0 mn mp mj mh z16 jc
  · exact treMay_other_jc c f s hok hf hk b w ht hw hs e0 hb0 mn mp mj mh z16 jc
end Go.Proofs.YtkklhhdkokncnaaDoor
