/- The walks of the document's answer for a set of rules (layer 8): 'Done', 'Do'. -/
import Derived.Test.YtaijkpfgnlkppaaDoorRef6b
import Derived.Test.YtaijkpfgnlkppaaDoorRul0
import Derived.Test.YtaijkpfgnlkppaaDoorCheck
import Derived.Deep.QuietTactic
import Derived.BigQuiet
import Derived.Deep.RegionHeld3
import Derived.Outline
namespace Go.Proofs.YtaijkpfgnlkppaaDoor.rules
open Go Go.RowKit

abbrev resV (code word : Int) : Value := .agg #[.int .i64 code, .int .u32 word, .slice none 0 0]
def DoneP (w : World) (Z : Outc) (e : Ending) (w' : World) : Prop := ∃ r, e = .returned (.tuple #[r, resV Z.code Z.word]) ∧ Rws w' r Z.rows ∧ Ext w w'
theorem done_p {w w' : World} {Z : Outc} {r : Value} {rows : List Rw} {code word err : Int} (hZ : Z = ⟨rows, code, word, err⟩) (h1 : Rws w' r rows) (h2 : Ext w w') : DoneP w Z (.returned (.tuple #[r, resV code word])) w' := by
  subst hZ
  exact ⟨r, rfl, h1, h2⟩
theorem own_swap {B B' : World} (hs : B'.heap.size = B.heap.size) {os : Array Obj} {d d' base : Nat} {e : TypeId} {size n : Nat} {v : Value} {xs : List Value} (h : (grew B os d).ownsRow base e size v n xs) (hb : B.heap.size ≤ base) : (grew B' os d').ownsRow base e size v n xs :=
  own_of h fun _ hg _ => heap_grew_ge hs os d d' (by omega)
theorem rws_swap {B B' : World} (hs : B'.heap.size = B.heap.size) {os : Array Obj} {d d' base : Nat} {e : TypeId} {v : Value} {L : List Rw} (h : (grew B os d).ownsRow base e 2 v L.length (rwCells L)) (hb : B.heap.size ≤ base) : Rws (grew B' os d') v L :=
  own_rws (own_swap hs h hb)
end Go.Proofs.YtaijkpfgnlkppaaDoor.rules
