/- The law FnExactSetNot: the program's SetNot tells what the reference's tells. (Printed by wip/gen/law.py.) -/
import Derived.Test.YtffjliphgaeffaaLawSetOk
import Derived.Test.YtffjliphgaeffaaMem
import Derived.Test.YtffjliphgaeffaaW7
import Derived.Test.YtffjliphgaeffaaW10
namespace Go.Proofs.Ytffjliphgaeffaa
set_option linter.unusedSimpArgs false
set_option linter.unusedVariables false
open Go.RowKit

set_option maxHeartbeats 4000000 in
theorem exSetNot_c (A0 : Option Addr) (c0 : Nat) (xs0 : List Sp) (w : World) (h0 : Sps w 0 A0 c0 xs0) :
    Calls Try.prog 12 #[.slice A0 xs0.length c0] w fun e w' => e = .returned (.bool true) ∧ Below w.heap.size w w' := by
  go_enter Try.func12, Try.ntmps12
  go_wp2_with fail
  refine (szSpanS_c _ _ _ _ _ h0.len (by omega) (by omega)).mono ?_
  rintro e w' ⟨rfl, rfl⟩
  by_cases hb0 : (1048576 : Int) < xs0.length
  · have hs := szLeft_neg hb0
    clear hb0
    go_wp2
    go_ret
    exact ⟨rfl, Below.refl _ _⟩
  rw [szLeft_pos hb0]
  have hx0 : xs0.length ≤ 1048576 := by omega
  have hs : ¬ ((1048576 - xs0.length : Int) < 0) := by omega
  clear hb0
  have hgl := setNot_len xs0
  have HGL := Lib.hid hgl
  clear hgl
  go_wp2_with fail
  clear hs
  refine (toSpanS_c _ _ _ _ h0 hx0).mono ?_
  rintro e w1 ⟨v1, rfl, o1, b1⟩
  obtain ⟨A1_, c1_, rfl⟩ := o1.slice
  have u1 := own_base o1.own
  have U1 := Lib.hid u1
  clear u1
  have O1 := Lib.hid o1
  clear o1
  have Z1 := Lib.hid b1.size
  have B1 := Lib.hid b1
  clear b1
  go_wp2_with fail
  refine (sSetNot_c _ _ _ _ O1.out.row).mono ?_
  rintro e w2 ⟨v2, rfl, o2, b2⟩
  obtain ⟨A2_, c2_, rfl⟩ := o2.slice
  have u2 := own_base o2.own
  have U2 := Lib.hid u2
  clear u2
  have O2 := Lib.hid o2
  clear o2
  replace O1 := Lib.hid (O1.out.below b2)
  have Z2 := Lib.hid b2.size
  have B2 := Lib.hid (below_then B1.out b2)
  clear B1
  clear b2
  clear O1 U1
  have SW := Lib.hid O2.out.row
  have BA2 := Lib.hid (Below.refl w2.heap.size w2)
  clear O2 U2
  go_wp2_with fail
  refine (toSpanS_c _ _ _ _ (h0.below B2.out) hx0).mono ?_
  rintro e w3 ⟨v3, rfl, o3, b3⟩
  obtain ⟨A3_, c3_, rfl⟩ := o3.slice
  have u3 := own_base o3.own
  have U3 := Lib.hid u3
  clear u3
  have O3 := Lib.hid o3
  clear o3
  have Z3 := Lib.hid b3.size
  have B3 := Lib.hid (below_then B2.out b3)
  clear B2
  have BA3 := Lib.hid (below_then BA2.out b3)
  clear BA2
  clear b3
  go_wp2_with fail
  refine (iSetNot_c _ _ _ _ O3.out.row).mono ?_
  rintro e w4 ⟨v4, rfl, o4, b4⟩
  obtain ⟨A4_, c4_, rfl⟩ := o4.slice
  have u4 := own_base o4.own
  have U4 := Lib.hid u4
  clear u4
  have O4 := Lib.hid o4
  clear o4
  replace O3 := Lib.hid (O3.out.below b4)
  have Z4 := Lib.hid b4.size
  have B4 := Lib.hid (below_then B3.out b4)
  clear B3
  have BA4 := Lib.hid (below_then BA3.out b4)
  clear BA3
  clear b4
  go_wp2_with fail
  refine (eqSpanS_c _ _ _ _ _ _ _ O4.out.row (SW.out.below BA4.out)).mono ?_
  rintro e w5 ⟨rfl, b5⟩
  replace O3 := Lib.hid (O3.out.below b5)
  replace O4 := Lib.hid (O4.out.below b5)
  have Z5 := Lib.hid b5.size
  have B5 := Lib.hid (below_then B4.out b5)
  clear B4
  have BA5 := Lib.hid (below_then BA4.out b5)
  clear BA4
  clear b5
  rw [decide_eq_true (rfl : (setNot xs0) = (setNot xs0))]
  go_wp2_with fail
  refine (toSpanS_c _ _ _ _ (h0.below B5.out) hx0).mono ?_
  rintro e w6 ⟨v6, rfl, o6, b6⟩
  obtain ⟨A6_, c6_, rfl⟩ := o6.slice
  have u6 := own_base o6.own
  have U6 := Lib.hid u6
  clear u6
  have O6 := Lib.hid o6
  clear o6
  replace O3 := Lib.hid (O3.out.below b6)
  replace O4 := Lib.hid (O4.out.below b6)
  have Z6 := Lib.hid b6.size
  have B6 := Lib.hid (below_then B5.out b6)
  clear B5
  have BA6 := Lib.hid (below_then BA5.out b6)
  clear BA5
  clear b6
  go_wp2_with fail
  refine (eqSpanS_c _ _ _ _ _ _ _ O3.out.row O6.out.row).mono ?_
  rintro e w7 ⟨rfl, b7⟩
  replace O3 := Lib.hid (O3.out.below b7)
  replace O4 := Lib.hid (O4.out.below b7)
  replace O6 := Lib.hid (O6.out.below b7)
  have Z7 := Lib.hid b7.size
  have B7 := Lib.hid (below_then B6.out b7)
  clear B6
  have BA7 := Lib.hid (below_then BA6.out b7)
  clear BA6
  clear b7
  rw [decide_eq_true (rfl : xs0 = xs0)]
  clear O6 U6
  go_wp2_with fail
  refine (markSpanS_c _ _ _ _ _ O3.out (by omega) (by omega) (by omega)).mono ?_
  rintro e w8 ⟨rfl, o8, g8⟩
  replace O4 := Lib.hid (O4.out.moved (fun q hq => g8.block q (own_base O4.out.own q hq).2 (fun e => by have := U3.out q e.symm; have := U4.out q hq; have := Z1.out; have := Z2.out; have := Z3.out; have := Z4.out; have := Z5.out; have := Z6.out; have := Z7.out; omega)))
  have B8 := Lib.hid (B7.out.grown g8 B7.out.size (fun q hq => by have := U3.out q hq; have := Z1.out; have := Z2.out; have := Z3.out; have := Z4.out; have := Z5.out; have := Z6.out; have := Z7.out; omega))
  clear B7
  have BA8 := Lib.hid (BA7.out.grown g8 BA7.out.size (fun q hq => by have := U3.out q hq; have := Z1.out; have := Z2.out; have := Z3.out; have := Z4.out; have := Z5.out; have := Z6.out; have := Z7.out; omega))
  clear BA7
  have Z8 := Lib.hid g8.size
  replace O3 := Lib.hid o8
  clear o8 g8
  clear O3 U3
  have hq : ¬ ((1 + 2 * (xs0.length : Int) : Int) < 0) := by omega
  go_wp2_with fail
  refine (eqSpanS_c _ _ _ _ _ _ _ O4.out.row (SW.out.below BA8.out)).mono ?_
  rintro e w9 ⟨rfl, b9⟩
  replace O4 := Lib.hid (O4.out.below b9)
  have Z9 := Lib.hid b9.size
  have B9 := Lib.hid (below_then B8.out b9)
  clear B8
  have BA9 := Lib.hid (below_then BA8.out b9)
  clear BA8
  clear b9
  rw [decide_eq_true (rfl : (setNot xs0) = (setNot xs0))]
  clear hq
  go_wp2_with fail
  refine (markSpanS_c _ _ _ _ _ O4.out (by omega) (by have := HGL.out; omega) (by have := HGL.out; omega)).mono ?_
  rintro e w10 ⟨rfl, o10, g10⟩
  have B10 := Lib.hid (B9.out.grown g10 B9.out.size (fun q hq => by have := U4.out q hq; have := Z1.out; have := Z2.out; have := Z3.out; have := Z4.out; have := Z5.out; have := Z6.out; have := Z7.out; have := Z8.out; have := Z9.out; omega))
  clear B9
  have BA10 := Lib.hid (BA9.out.grown g10 BA9.out.size (fun q hq => by have := U4.out q hq; have := Z1.out; have := Z2.out; have := Z3.out; have := Z4.out; have := Z5.out; have := Z6.out; have := Z7.out; have := Z8.out; have := Z9.out; omega))
  clear BA9
  have Z10 := Lib.hid g10.size
  replace O4 := Lib.hid o10
  clear o10 g10
  have hq : ¬ ((1 : Int) + 2 * ((setNot xs0).length : Int) < 0) := by omega
  go_wp2_with fail
  refine (held2_c _ _ _ _ _ O4.out (by omega) (by omega) (by have := HGL.out; omega)).mono ?_
  rintro e w11 ⟨rfl, d11⟩
  have b11 := d11.below
  clear d11
  replace O4 := Lib.hid (O4.out.below b11)
  have Z11 := Lib.hid b11.size
  have B11 := Lib.hid (below_then B10.out b11)
  clear B10
  have BA11 := Lib.hid (below_then BA10.out b11)
  clear BA10
  clear b11
  go_wp2_with fail
  refine (toSpanS_c _ _ _ _ (h0.below B11.out) hx0).mono ?_
  rintro e w12 ⟨v12, rfl, o12, b12⟩
  obtain ⟨A12_, c12_, rfl⟩ := o12.slice
  have u12 := own_base o12.own
  have U12 := Lib.hid u12
  clear u12
  have O12 := Lib.hid o12
  clear o12
  replace O4 := Lib.hid (O4.out.below b12)
  have Z12 := Lib.hid b12.size
  have B12 := Lib.hid (below_then B11.out b12)
  clear B11
  have BA12 := Lib.hid (below_then BA11.out b12)
  clear BA11
  clear b12
  go_wp2_with fail
  refine (iSetNot_c _ _ _ _ O12.out.row).mono ?_
  rintro e w13 ⟨v13, rfl, o13, b13⟩
  obtain ⟨A13_, c13_, rfl⟩ := o13.slice
  have u13 := own_base o13.own
  have U13 := Lib.hid u13
  clear u13
  have O13 := Lib.hid o13
  clear o13
  replace O4 := Lib.hid (O4.out.below b13)
  replace O12 := Lib.hid (O12.out.below b13)
  have Z13 := Lib.hid b13.size
  have B13 := Lib.hid (below_then B12.out b13)
  clear B12
  have BA13 := Lib.hid (below_then BA12.out b13)
  clear BA12
  clear b13
  clear O12 U12
  go_wp2_with fail
  refine (eqSpanS_c _ _ _ _ _ _ _ O13.out.row (SW.out.below BA13.out)).mono ?_
  rintro e w14 ⟨rfl, b14⟩
  replace O4 := Lib.hid (O4.out.below b14)
  replace O13 := Lib.hid (O13.out.below b14)
  have Z14 := Lib.hid b14.size
  have B14 := Lib.hid (below_then B13.out b14)
  clear B13
  have BA14 := Lib.hid (below_then BA13.out b14)
  clear BA13
  clear b14
  rw [decide_eq_true (rfl : (setNot xs0) = (setNot xs0))]
  clear O13 U13
  go_wp2_with fail
  refine (held2_c _ _ _ _ _ O4.out (by omega) (by omega) (by have := HGL.out; omega)).mono ?_
  rintro e w15 ⟨rfl, d15⟩
  have b15 := d15.below
  clear d15
  replace O4 := Lib.hid (O4.out.below b15)
  have Z15 := Lib.hid b15.size
  have B15 := Lib.hid (below_then B14.out b15)
  clear B14
  have BA15 := Lib.hid (below_then BA14.out b15)
  clear BA14
  clear b15
  go_wp2
  go_ret
  exact ⟨rfl, B15.out⟩

end Go.Proofs.Ytffjliphgaeffaa
