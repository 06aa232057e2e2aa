/- The law FnExactConstants. -/
import Derived.Test.YtffjliphgaeffaaLib
namespace Go.Proofs.Ytffjliphgaeffaa
open Go.RowKit

theorem exConstants_c (w : World) :
    Calls Try.prog 3 #[] w fun e w' => e = .returned (.bool true) ∧ Below w.heap.size w w' := by
  go_enter Try.func3, Try.ntmps3
  go_wp2
  go_ret
  exact ⟨rfl, Below.refl _ _⟩

end Go.Proofs.Ytffjliphgaeffaa
