/- in, SetHas. -/
import Derived.Test.YtbpinokbpdjmhaaLib
namespace Go.Proofs.Ytbpinokbpdjmhaa
set_option linter.unusedSimpArgs false
set_option linter.unusedVariables false
open Go.RowKit

theorem spIn_true {x : Sp} {b : Int} (h : x.lo ≤ b ∧ b ≤ x.hi) : spIn x b = true := (spIn_iff x b).2 h
theorem spIn_false {x : Sp} {b : Int} (h : b < x.lo ∨ x.hi < b) : spIn x b = false := by
  rw [Bool.eq_false_iff]
  intro hc
  have := (spIn_iff x b).1 hc
  omega

end Go.Proofs.Ytbpinokbpdjmhaa
