/- SetSame of the program. -/
import Derived.Test.YtlchipjckgaclaaDoorG9
namespace Go.Proofs.YtlchipjckgaclaaDoor
set_option linter.unusedSimpArgs false
set_option linter.unusedVariables false
set_option maxRecDepth 100000
open Go.RowKit

theorem iSetSame_c (A B : Option Addr) (c d : Nat) (xs ys : List Sp) (w : World) {lo lo' : Nat} (h : Sps w lo A c xs) (h' : Sps w lo' B d ys) :
    Calls Tryd.prog 32 #[.slice A xs.length c, .slice B ys.length d] w fun e w' => e = .returned (.bool (decide (xs = ys))) ∧ Drawn w w' := by
  go_enter Tryd.func32, Tryd.ntmps32
  go_wp2_with (go_at_call 53; refine (same_c _ _ _ _ _ _ _ h h').mono ?_; rintro e w' ⟨rfl, m, rfl⟩)
  go_ret
  exact ⟨rfl, _, rfl⟩

end Go.Proofs.YtlchipjckgaclaaDoor
