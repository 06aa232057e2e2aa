/- The program's SetOk tells what the reference's tells, for every list of spans. -/
import Derived.Test.YtffjliphgaeffaaW3
import Derived.Test.YtffjliphgaeffaaW4
namespace Go.Proofs.Ytffjliphgaeffaa
set_option linter.unusedSimpArgs false
set_option linter.unusedVariables false
open Go.RowKit

theorem szLeft_neg {n : Nat} {left : Int} (h : left < n) : szLeft n left < 0 := by unfold szLeft; rw [if_pos h]; omega
theorem szLeft_pos {n : Nat} {left : Int} (h : ¬ left < n) : szLeft n left = left - n := by unfold szLeft; rw [if_neg h]

set_option maxHeartbeats 1000000 in
theorem exSetOk_c (A : Option Addr) (c : Nat) (xs : List Sp) (w : World) (h : Sps w 0 A c xs) :
    Calls Try.prog 5 #[.slice A xs.length c] w fun e w' => e = .returned (.bool true) ∧ Below w.heap.size w w' := by
  by_cases hbig : (1048576 : Int) < xs.length
  · have hs := szLeft_neg hbig
    clear hbig
    go_enter Try.func5, Try.ntmps5
    go_wp2_with (go_at_call 15; refine (szSpanS_c _ _ _ _ _ h.len (by omega) (by omega)).mono ?_; rintro e w' ⟨rfl, rfl⟩)
    go_ret
    exact ⟨rfl, Below.refl _ _⟩
  · have hs : ¬ szLeft xs.length 1048576 < 0 := by rw [szLeft_pos hbig]; omega
    have hx : xs.length ≤ 1048576 := by omega
    clear hbig
    go_enter Try.func5, Try.ntmps5
    go_wp2_with fail
    refine (szSpanS_c _ _ _ _ _ h.len (by omega) (by omega)).mono ?_
    rintro e w' ⟨rfl, rfl⟩
    go_wp2_with fail
    refine (toSpanS_c _ _ _ _ h hx).mono ?_
    rintro e w1 ⟨v1, rfl, o1, b1⟩
    obtain ⟨A1, c1, rfl, s1⟩ := o1.sps
    clear o1
    go_wp2_with fail
    refine (sSetOk_c _ _ _ _ s1).mono ?_
    rintro e w2 ⟨rfl, d2⟩
    have b2 := below_then b1 d2.below
    clear b1 d2 s1
    go_wp2_with fail
    refine (toSpanS_c _ _ _ _ (h.below b2) hx).mono ?_
    rintro e w3 ⟨v3, rfl, o3, b3⟩
    obtain ⟨A3, c3, rfl, s3⟩ := o3.sps
    replace b3 := below_then b2 b3
    clear b2 o3
    go_wp2_with fail
    refine (iSetOk_c _ _ _ _ s3).mono ?_
    rintro e w4 ⟨rfl, b4⟩
    replace s3 := s3.below b4
    replace b4 := below_then b3 b4
    clear b3
    go_wp2_with fail
    refine (toSpanS_c _ _ _ _ (h.below b4) hx).mono ?_
    rintro e w5 ⟨v5, rfl, o5, b5⟩
    obtain ⟨A5, c5, rfl, s5⟩ := o5.sps
    replace s3 := s3.below b5
    replace b5 := below_then b4 b5
    clear b4 o5
    go_wp2_with fail
    refine (eqSpanS_c _ _ _ _ _ _ _ s3 s5).mono ?_
    rintro e w6 ⟨rfl, b6⟩
    replace b6 := below_then b5 b6
    have E : Hid (decide (xs = xs) = true) := decide_eq_true rfl
    rw [E.out]
    clear b5 s3 s5
    go_wp2
    go_ret
    exact ⟨rfl, b6⟩

end Go.Proofs.Ytffjliphgaeffaa
