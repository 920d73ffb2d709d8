/- The walk of the document's answer for a set of rules (layer 8): 'Do'. -/
import Derived.Test.YtaijkpfgnlkppaaDoorRulR3
namespace Go.Proofs.YtaijkpfgnlkppaaDoor.rules
open Go Go.RowKit

def DoP (w : World) (Z : Outc) (e : Ending) (w' : World) : Prop := ∃ r, e = .returned (.tuple #[r, resV Z.code Z.word, .int .i64 Z.err]) ∧ w'.ownsRow w.heap.size 82 2 r Z.rows.length (rwCells Z.rows) ∧ Ext w w'
theorem do_p {w w' : World} {Z : Outc} {r : Value} {rows : List Rw} {code word err : Int} (hZ : Z = ⟨rows, code, word, err⟩) (h1 : w'.ownsRow w.heap.size 82 2 r rows.length (rwCells rows)) (h2 : Ext w w') : DoP w Z (.returned (.tuple #[r, resV code word, .int .i64 err])) w' := by
  subst hZ
  exact ⟨r, rfl, h1, h2⟩
theorem own_low {w : World} {base lo : Nat} {e : TypeId} {size n : Nat} {v : Value} {xs : List Value} (h : w.ownsRow base e size v n xs) (hl : lo ≤ base) : w.ownsRow lo e size v n xs := by
  obtain ⟨h1, h2⟩ := h
  refine ⟨h1, ?_⟩
  rcases h2 with h | ⟨g, cap, cur, hv, hg, hr⟩
  · exact Or.inl h
  · exact Or.inr ⟨g, cap, cur, hv, by omega, hr⟩
theorem rulesDone_len (c : Cfg) (L : List Rw) (o : Opn) : (rulesDone c L o).rows.length ≤ L.length + 1 := by
  unfold rulesDone
  have h1 := withK_len_le (ruleKey o) o.c L
  have h2 := withoutK_len (ruleKey o) L
  split
  · dsimp only; omega
  · split
    · split
      · dsimp only; omega
      · split <;> dsimp only <;> omega
    · split <;> dsimp only <;> omega
theorem rulesDone_err (c : Cfg) (L : List Rw) (o : Opn) : (rulesDone c L o).err = 0 := by
  unfold rulesDone
  split
  · rfl
  · split
    · split
      · rfl
      · split <;> rfl
    · split <;> rfl
def DoneAs (c : Cfg) (L : List Rw) (o : Opn) (M : List Rw) (dc dw : Int) : Prop := o.Fits ∧ (∀ x ∈ L, RuleOk x) ∧ Rises L ∧ L.length ≤ 10000 ∧ (o.kind = 9 ∨ o.kind = 10 ∨ o.kind = 11) ∧ o.a ≤ 65535 ∧ o.b ≤ 65535 ∧ rulesDone c L o = ⟨M, dc, dw, 0⟩
end Go.Proofs.YtaijkpfgnlkppaaDoor.rules
