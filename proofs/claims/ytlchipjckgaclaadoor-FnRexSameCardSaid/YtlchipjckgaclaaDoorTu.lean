/- Patterns as texts: rexWord, writeRex, textOf, RexText of the program. -/
import Derived.Test.YtlchipjckgaclaaDoorTv
import Derived.Test.YtlchipjckgaclaaDoorTw
import Derived.Test.YtlchipjckgaclaaDoorG4
namespace Go.Proofs.YtlchipjckgaclaaDoor
set_option linter.unusedSimpArgs false
set_option linter.unusedVariables false
set_option maxRecDepth 100000
open Go.RowKit

mutual
theorem words_many : ∀ r : Rex, (wordsOf r).length ≤ 2 * r.many
  | .mk k s ks => by
    have := wordsL_many ks
    rw [wordsOf, Rex.many, List.length_cons, List.length_append]
    split <;> simp <;> omega
theorem wordsL_many : ∀ ks : List Rex, (wordsL ks).length ≤ 2 * manyL ks
  | [] => by simp [wordsL, manyL]
  | r :: ks => by
    have h1 := words_many r
    have h2 := wordsL_many ks
    rw [wordsL, manyL, List.length_append]
    omega
end
def wcells (ws : List (List UInt8)) : List Value := ws.map fun l => Value.string (str l)
theorem wcells_snoc (ws : List (List UInt8)) (l : List UInt8) : wcells (ws ++ [l]) = wcells ws ++ [.string (str l)] := by simp [wcells]

set_option maxHeartbeats 1000000 in
theorem iRexWord_c (k : Int) (w : World) (h : k = 1 ∨ k = 2 ∨ k = 3 ∨ k = 4 ∨ k = 5 ∨ k = 6 ∨ k = 7) :
    Calls Tryd.prog 91 #[.int .i64 k] w fun e w' => e = .returned (.string (str (kw k))) ∧ Below w.heap.size w w' := by
  rcases h with rfl | rfl | rfl | rfl | rfl | rfl | rfl
  all_goals
    go_enter Tryd.func91, Tryd.ntmps91
    go_wp2_with fail
    go_ret
    exact ⟨rfl, below_alloc (Below.refl _ _) _⟩

end Go.Proofs.YtlchipjckgaclaaDoor
