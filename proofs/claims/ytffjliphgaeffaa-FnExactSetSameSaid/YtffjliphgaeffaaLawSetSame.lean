/- The law FnExactSetSame: the program's SetSame tells what the reference's tells. (Printed by wip/gen/law.py.) -/
import Derived.Test.YtffjliphgaeffaaLawSetOk
namespace Go.Proofs.Ytffjliphgaeffaa
set_option linter.unusedSimpArgs false
set_option linter.unusedVariables false
open Go.RowKit

set_option maxHeartbeats 4000000 in
theorem exSetSame_c (A0 : Option Addr) (c0 : Nat) (xs0 : List Sp) (A1 : Option Addr) (c1 : Nat) (xs1 : List Sp) (w : World) (h0 : Sps w 0 A0 c0 xs0) (h1 : Sps w 0 A1 c1 xs1) :
    Calls Try.prog 7 #[.slice A0 xs0.length c0, .slice A1 xs1.length c1] w fun e w' => e = .returned (.bool true) ∧ Below w.heap.size w w' := by
  go_enter Try.func7, Try.ntmps7
  go_wp2_with fail
  refine (szSpanS_c _ _ _ _ _ h0.len (by omega) (by omega)).mono ?_
  rintro e w' ⟨rfl, rfl⟩
  by_cases hb0 : (1048576 : Int) < xs0.length
  · have hs := szLeft_neg hb0
    clear hb0
    go_wp2
    go_ret
    exact ⟨rfl, Below.refl _ _⟩
  rw [szLeft_pos hb0]
  go_wp2_with fail
  refine (szSpanS_c _ _ _ _ _ h1.len (by omega) (by omega)).mono ?_
  rintro e w' ⟨rfl, rfl⟩
  by_cases hb1 : (1048576 - xs0.length : Int) < xs1.length
  · have hs := szLeft_neg hb1
    clear hb1
    go_wp2
    go_ret
    exact ⟨rfl, Below.refl _ _⟩
  rw [szLeft_pos hb1]
  have hx0 : xs0.length ≤ 1048576 := by omega
  have hx1 : xs1.length ≤ 1048576 := by omega
  have hs : ¬ ((1048576 - xs0.length - xs1.length : Int) < 0) := by omega
  clear hb0 hb1
  go_wp2_with fail
  clear hs
  refine (toSpanS_c _ _ _ _ h0 hx0).mono ?_
  rintro e w1 ⟨v1, rfl, o1, b1⟩
  obtain ⟨A1_, c1_, rfl, s1⟩ := o1.sps
  clear o1
  have B1 := Lib.hid b1
  clear b1
  go_wp2_with fail
  refine (toSpanS_c _ _ _ _ (h1.below B1.out) hx1).mono ?_
  rintro e w2 ⟨v2, rfl, o2, b2⟩
  obtain ⟨A2_, c2_, rfl, s2⟩ := o2.sps
  clear o2
  replace s1 := s1.below b2
  have B2 := Lib.hid (below_then B1.out b2)
  clear b2 B1
  go_wp2_with fail
  refine (sSetSame_c _ _ _ _ _ _ _ s1 s2).mono ?_
  rintro e w3 ⟨rfl, d3⟩
  have b3 := d3.below
  clear d3
  replace s1 := s1.below b3
  replace s2 := s2.below b3
  have B3 := Lib.hid (below_then B2.out b3)
  clear b3 B2
  clear s1
  clear s2
  go_wp2_with fail
  refine (toSpanS_c _ _ _ _ (h0.below B3.out) hx0).mono ?_
  rintro e w4 ⟨v4, rfl, o4, b4⟩
  obtain ⟨A4_, c4_, rfl, s4⟩ := o4.sps
  clear o4
  have B4 := Lib.hid (below_then B3.out b4)
  clear b4 B3
  go_wp2_with fail
  refine (toSpanS_c _ _ _ _ (h1.below B4.out) hx1).mono ?_
  rintro e w5 ⟨v5, rfl, o5, b5⟩
  obtain ⟨A5_, c5_, rfl, s5⟩ := o5.sps
  clear o5
  replace s4 := s4.below b5
  have B5 := Lib.hid (below_then B4.out b5)
  clear b5 B4
  go_wp2_with fail
  refine (iSetSame_c _ _ _ _ _ _ _ s4 s5).mono ?_
  rintro e w6 ⟨rfl, d6⟩
  have b6 := d6.below
  clear d6
  replace s4 := s4.below b6
  replace s5 := s5.below b6
  have B6 := Lib.hid (below_then B5.out b6)
  clear b6 B5
  go_wp2_with fail
  refine (toSpanS_c _ _ _ _ (h0.below B6.out) hx0).mono ?_
  rintro e w7 ⟨v7, rfl, o7, b7⟩
  obtain ⟨A7_, c7_, rfl, s7⟩ := o7.sps
  clear o7
  replace s4 := s4.below b7
  replace s5 := s5.below b7
  have B7 := Lib.hid (below_then B6.out b7)
  clear b7 B6
  go_wp2_with fail
  refine (eqSpanS_c _ _ _ _ _ _ _ s4 s7).mono ?_
  rintro e w8 ⟨rfl, b8⟩
  clear s7 s4
  replace s5 := s5.below b8
  have B8 := Lib.hid (below_then B7.out b8)
  clear b8 B7
  rw [decide_eq_true (rfl : xs0 = xs0)]
  go_wp2_with fail
  refine (toSpanS_c _ _ _ _ (h1.below B8.out) hx1).mono ?_
  rintro e w9 ⟨v9, rfl, o9, b9⟩
  obtain ⟨A9_, c9_, rfl, s9⟩ := o9.sps
  clear o9
  replace s5 := s5.below b9
  have B9 := Lib.hid (below_then B8.out b9)
  clear b9 B8
  go_wp2_with fail
  refine (eqSpanS_c _ _ _ _ _ _ _ s5 s9).mono ?_
  rintro e w10 ⟨rfl, b10⟩
  clear s9 s5
  have B10 := Lib.hid (below_then B9.out b10)
  clear b10 B9
  rw [decide_eq_true (rfl : xs1 = xs1)]
  go_wp2
  go_ret
  exact ⟨rfl, B10.out⟩

end Go.Proofs.Ytffjliphgaeffaa
