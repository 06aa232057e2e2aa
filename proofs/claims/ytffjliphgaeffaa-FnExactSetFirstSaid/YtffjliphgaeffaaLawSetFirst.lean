/- The law FnExactSetFirst: the program's SetFirst tells what the reference's tells. (Printed by wip/gen/law.py.) -/
import Derived.Test.YtffjliphgaeffaaLawSetOk
import Derived.Test.YtffjliphgaeffaaW8
namespace Go.Proofs.Ytffjliphgaeffaa
set_option linter.unusedSimpArgs false
set_option linter.unusedVariables false
open Go.RowKit

set_option maxHeartbeats 4000000 in
theorem exSetFirst_c (A0 : Option Addr) (c0 : Nat) (xs0 : List Sp) (w : World) (h0 : Sps w 0 A0 c0 xs0) :
    Calls Try.prog 8 #[.slice A0 xs0.length c0] w fun e w' => e = .returned (.bool true) ∧ Below w.heap.size w w' := by
  go_enter Try.func8, Try.ntmps8
  go_wp2_with fail
  refine (szSpanS_c _ _ _ _ _ h0.len (by omega) (by omega)).mono ?_
  rintro e w' ⟨rfl, rfl⟩
  by_cases hb0 : (1048576 : Int) < xs0.length
  · have hs := szLeft_neg hb0
    clear hb0
    go_wp2
    go_ret
    exact ⟨rfl, Below.refl _ _⟩
  rw [szLeft_pos hb0]
  have hx0 : xs0.length ≤ 1048576 := by omega
  have hs : ¬ ((1048576 - xs0.length : Int) < 0) := by omega
  clear hb0
  go_wp2_with fail
  clear hs
  refine (toSpanS_c _ _ _ _ h0 hx0).mono ?_
  rintro e w1 ⟨v1, rfl, o1, b1⟩
  obtain ⟨A1_, c1_, rfl, s1⟩ := o1.sps
  clear o1
  have B1 := Lib.hid b1
  clear b1
  go_wp2_with fail
  refine (sSetFirst_c _ _ _ _ s1).mono ?_
  rintro e w2 ⟨rfl, d2⟩
  have b2 := d2.below
  clear d2
  replace s1 := s1.below b2
  have B2 := Lib.hid (below_then B1.out b2)
  clear b2 B1
  clear s1
  go_wp2_with fail
  refine (toSpanS_c _ _ _ _ (h0.below B2.out) hx0).mono ?_
  rintro e w3 ⟨v3, rfl, o3, b3⟩
  obtain ⟨A3_, c3_, rfl, s3⟩ := o3.sps
  clear o3
  have B3 := Lib.hid (below_then B2.out b3)
  clear b3 B2
  go_wp2_with fail
  refine (iSetFirst_c _ _ _ _ s3).mono ?_
  rintro e w4 ⟨rfl, b4⟩
  replace s3 := s3.below b4
  have B4 := Lib.hid (below_then B3.out b4)
  clear b4 B3
  go_wp2_with fail
  refine (toSpanS_c _ _ _ _ (h0.below B4.out) hx0).mono ?_
  rintro e w5 ⟨v5, rfl, o5, b5⟩
  obtain ⟨A5_, c5_, rfl, s5⟩ := o5.sps
  clear o5
  replace s3 := s3.below b5
  have B5 := Lib.hid (below_then B4.out b5)
  clear b5 B4
  go_wp2_with fail
  refine (eqSpanS_c _ _ _ _ _ _ _ s3 s5).mono ?_
  rintro e w6 ⟨rfl, b6⟩
  clear s5 s3
  have B6 := Lib.hid (below_then B5.out b6)
  clear b6 B5
  rw [decide_eq_true (rfl : xs0 = xs0)]
  go_wp2
  go_ret
  exact ⟨rfl, B6.out⟩

end Go.Proofs.Ytffjliphgaeffaa
