/- The law FnExactSetJoin: the program's SetJoin tells what the reference's tells. (Printed by wip/gen/law.py.) -/
import Derived.Test.YtffjliphgaeffaaLawSetOk
import Derived.Test.YtffjliphgaeffaaMem
import Derived.Test.YtffjliphgaeffaaW7
import Derived.Test.YtffjliphgaeffaaW10
namespace Go.Proofs.Ytffjliphgaeffaa
set_option linter.unusedSimpArgs false
set_option linter.unusedVariables false
open Go.RowKit

set_option maxHeartbeats 4000000 in
theorem exSetJoin_c (A0 : Option Addr) (c0 : Nat) (xs0 : List Sp) (A1 : Option Addr) (c1 : Nat) (xs1 : List Sp) (w : World) (h0 : Sps w 0 A0 c0 xs0) (h1 : Sps w 0 A1 c1 xs1) :
    Calls Try.prog 10 #[.slice A0 xs0.length c0, .slice A1 xs1.length c1] w fun e w' => e = .returned (.bool true) ∧ Below w.heap.size w w' := by
  go_enter Try.func10, Try.ntmps10
  go_wp2_with fail
  refine (szSpanS_c _ _ _ _ _ h0.len (by omega) (by omega)).mono ?_
  rintro e w' ⟨rfl, rfl⟩
  by_cases hb0 : (1048576 : Int) < xs0.length
  · have hs := szLeft_neg hb0
    clear hb0
    go_wp2
    go_ret
    exact ⟨rfl, Below.refl _ _⟩
  rw [szLeft_pos hb0]
  go_wp2_with fail
  refine (szSpanS_c _ _ _ _ _ h1.len (by omega) (by omega)).mono ?_
  rintro e w' ⟨rfl, rfl⟩
  by_cases hb1 : (1048576 - xs0.length : Int) < xs1.length
  · have hs := szLeft_neg hb1
    clear hb1
    go_wp2
    go_ret
    exact ⟨rfl, Below.refl _ _⟩
  rw [szLeft_pos hb1]
  have hx0 : xs0.length ≤ 1048576 := by omega
  have hx1 : xs1.length ≤ 1048576 := by omega
  have hs : ¬ ((1048576 - xs0.length - xs1.length : Int) < 0) := by omega
  clear hb0 hb1
  have hgl := setJoin_len xs0 xs1
  have HGL := Lib.hid hgl
  clear hgl
  go_wp2_with fail
  clear hs
  refine (toSpanS_c _ _ _ _ h0 hx0).mono ?_
  rintro e w1 ⟨v1, rfl, o1, b1⟩
  obtain ⟨A1_, c1_, rfl⟩ := o1.slice
  have u1 := own_base o1.own
  have U1 := Lib.hid u1
  clear u1
  have O1 := Lib.hid o1
  clear o1
  have Z1 := Lib.hid b1.size
  have B1 := Lib.hid b1
  clear b1
  go_wp2_with fail
  refine (toSpanS_c _ _ _ _ (h1.below B1.out) hx1).mono ?_
  rintro e w2 ⟨v2, rfl, o2, b2⟩
  obtain ⟨A2_, c2_, rfl⟩ := o2.slice
  have u2 := own_base o2.own
  have U2 := Lib.hid u2
  clear u2
  have O2 := Lib.hid o2
  clear o2
  replace O1 := Lib.hid (O1.out.below b2)
  have Z2 := Lib.hid b2.size
  have B2 := Lib.hid (below_then B1.out b2)
  clear B1
  clear b2
  go_wp2_with fail
  refine (sSetJoin_c _ _ _ _ _ _ _ O1.out.row O2.out.row).mono ?_
  rintro e w3 ⟨v3, rfl, o3, b3⟩
  obtain ⟨A3_, c3_, rfl⟩ := o3.slice
  have u3 := own_base o3.own
  have U3 := Lib.hid u3
  clear u3
  have O3 := Lib.hid o3
  clear o3
  replace O1 := Lib.hid (O1.out.below b3)
  replace O2 := Lib.hid (O2.out.below b3)
  have Z3 := Lib.hid b3.size
  have B3 := Lib.hid (below_then B2.out b3)
  clear B2
  clear b3
  clear O1 U1
  clear O2 U2
  have SW := Lib.hid O3.out.row
  have BA3 := Lib.hid (Below.refl w3.heap.size w3)
  clear O3 U3
  go_wp2_with fail
  refine (toSpanS_c _ _ _ _ (h0.below B3.out) hx0).mono ?_
  rintro e w4 ⟨v4, rfl, o4, b4⟩
  obtain ⟨A4_, c4_, rfl⟩ := o4.slice
  have u4 := own_base o4.own
  have U4 := Lib.hid u4
  clear u4
  have O4 := Lib.hid o4
  clear o4
  have Z4 := Lib.hid b4.size
  have B4 := Lib.hid (below_then B3.out b4)
  clear B3
  have BA4 := Lib.hid (below_then BA3.out b4)
  clear BA3
  clear b4
  go_wp2_with fail
  refine (toSpanS_c _ _ _ _ (h1.below B4.out) hx1).mono ?_
  rintro e w5 ⟨v5, rfl, o5, b5⟩
  obtain ⟨A5_, c5_, rfl⟩ := o5.slice
  have u5 := own_base o5.own
  have U5 := Lib.hid u5
  clear u5
  have O5 := Lib.hid o5
  clear o5
  replace O4 := Lib.hid (O4.out.below b5)
  have Z5 := Lib.hid b5.size
  have B5 := Lib.hid (below_then B4.out b5)
  clear B4
  have BA5 := Lib.hid (below_then BA4.out b5)
  clear BA4
  clear b5
  go_wp2_with fail
  refine (iSetJoin_c _ _ _ _ _ _ _ O4.out.row O5.out.row).mono ?_
  rintro e w6 ⟨v6, rfl, o6, b6⟩
  obtain ⟨A6_, c6_, rfl⟩ := o6.slice
  have u6 := own_base o6.own
  have U6 := Lib.hid u6
  clear u6
  have O6 := Lib.hid o6
  clear o6
  replace O4 := Lib.hid (O4.out.below b6)
  replace O5 := Lib.hid (O5.out.below b6)
  have Z6 := Lib.hid b6.size
  have B6 := Lib.hid (below_then B5.out b6)
  clear B5
  have BA6 := Lib.hid (below_then BA5.out b6)
  clear BA5
  clear b6
  go_wp2_with fail
  refine (eqSpanS_c _ _ _ _ _ _ _ O6.out.row (SW.out.below BA6.out)).mono ?_
  rintro e w7 ⟨rfl, b7⟩
  replace O4 := Lib.hid (O4.out.below b7)
  replace O5 := Lib.hid (O5.out.below b7)
  replace O6 := Lib.hid (O6.out.below b7)
  have Z7 := Lib.hid b7.size
  have B7 := Lib.hid (below_then B6.out b7)
  clear B6
  have BA7 := Lib.hid (below_then BA6.out b7)
  clear BA6
  clear b7
  rw [decide_eq_true (rfl : (setJoin xs0 xs1) = (setJoin xs0 xs1))]
  go_wp2_with fail
  refine (toSpanS_c _ _ _ _ (h0.below B7.out) hx0).mono ?_
  rintro e w8 ⟨v8, rfl, o8, b8⟩
  obtain ⟨A8_, c8_, rfl⟩ := o8.slice
  have u8 := own_base o8.own
  have U8 := Lib.hid u8
  clear u8
  have O8 := Lib.hid o8
  clear o8
  replace O4 := Lib.hid (O4.out.below b8)
  replace O5 := Lib.hid (O5.out.below b8)
  replace O6 := Lib.hid (O6.out.below b8)
  have Z8 := Lib.hid b8.size
  have B8 := Lib.hid (below_then B7.out b8)
  clear B7
  have BA8 := Lib.hid (below_then BA7.out b8)
  clear BA7
  clear b8
  go_wp2_with fail
  refine (eqSpanS_c _ _ _ _ _ _ _ O4.out.row O8.out.row).mono ?_
  rintro e w9 ⟨rfl, b9⟩
  replace O4 := Lib.hid (O4.out.below b9)
  replace O5 := Lib.hid (O5.out.below b9)
  replace O6 := Lib.hid (O6.out.below b9)
  replace O8 := Lib.hid (O8.out.below b9)
  have Z9 := Lib.hid b9.size
  have B9 := Lib.hid (below_then B8.out b9)
  clear B8
  have BA9 := Lib.hid (below_then BA8.out b9)
  clear BA8
  clear b9
  rw [decide_eq_true (rfl : xs0 = xs0)]
  clear O8 U8
  go_wp2_with fail
  refine (toSpanS_c _ _ _ _ (h1.below B9.out) hx1).mono ?_
  rintro e w10 ⟨v10, rfl, o10, b10⟩
  obtain ⟨A10_, c10_, rfl⟩ := o10.slice
  have u10 := own_base o10.own
  have U10 := Lib.hid u10
  clear u10
  have O10 := Lib.hid o10
  clear o10
  replace O4 := Lib.hid (O4.out.below b10)
  replace O5 := Lib.hid (O5.out.below b10)
  replace O6 := Lib.hid (O6.out.below b10)
  have Z10 := Lib.hid b10.size
  have B10 := Lib.hid (below_then B9.out b10)
  clear B9
  have BA10 := Lib.hid (below_then BA9.out b10)
  clear BA9
  clear b10
  go_wp2_with fail
  refine (eqSpanS_c _ _ _ _ _ _ _ O5.out.row O10.out.row).mono ?_
  rintro e w11 ⟨rfl, b11⟩
  replace O4 := Lib.hid (O4.out.below b11)
  replace O5 := Lib.hid (O5.out.below b11)
  replace O6 := Lib.hid (O6.out.below b11)
  replace O10 := Lib.hid (O10.out.below b11)
  have Z11 := Lib.hid b11.size
  have B11 := Lib.hid (below_then B10.out b11)
  clear B10
  have BA11 := Lib.hid (below_then BA10.out b11)
  clear BA10
  clear b11
  rw [decide_eq_true (rfl : xs1 = xs1)]
  clear O10 U10
  go_wp2_with fail
  refine (markSpanS_c _ _ _ _ _ O4.out (by omega) (by omega) (by omega)).mono ?_
  rintro e w12 ⟨rfl, o12, g12⟩
  replace O5 := Lib.hid (O5.out.moved (fun q hq => g12.block q (own_base O5.out.own q hq).2 (fun e => by have := U4.out q e.symm; have := U5.out q hq; have := Z1.out; have := Z2.out; have := Z3.out; have := Z4.out; have := Z5.out; have := Z6.out; have := Z7.out; have := Z8.out; have := Z9.out; have := Z10.out; have := Z11.out; omega)))
  replace O6 := Lib.hid (O6.out.moved (fun q hq => g12.block q (own_base O6.out.own q hq).2 (fun e => by have := U4.out q e.symm; have := U6.out q hq; have := Z1.out; have := Z2.out; have := Z3.out; have := Z4.out; have := Z5.out; have := Z6.out; have := Z7.out; have := Z8.out; have := Z9.out; have := Z10.out; have := Z11.out; omega)))
  have B12 := Lib.hid (B11.out.grown g12 B11.out.size (fun q hq => by have := U4.out q hq; have := Z1.out; have := Z2.out; have := Z3.out; have := Z4.out; have := Z5.out; have := Z6.out; have := Z7.out; have := Z8.out; have := Z9.out; have := Z10.out; have := Z11.out; omega))
  clear B11
  have BA12 := Lib.hid (BA11.out.grown g12 BA11.out.size (fun q hq => by have := U4.out q hq; have := Z1.out; have := Z2.out; have := Z3.out; have := Z4.out; have := Z5.out; have := Z6.out; have := Z7.out; have := Z8.out; have := Z9.out; have := Z10.out; have := Z11.out; omega))
  clear BA11
  have Z12 := Lib.hid g12.size
  replace O4 := Lib.hid o12
  clear o12 g12
  go_wp2_with fail
  refine (markSpanS_c _ _ _ _ _ O5.out (by omega) (by omega) (by omega)).mono ?_
  rintro e w13 ⟨rfl, o13, g13⟩
  replace O4 := Lib.hid (O4.out.moved (fun q hq => g13.block q (own_base O4.out.own q hq).2 (fun e => by have := U5.out q e.symm; have := U4.out q hq; have := Z1.out; have := Z2.out; have := Z3.out; have := Z4.out; have := Z5.out; have := Z6.out; have := Z7.out; have := Z8.out; have := Z9.out; have := Z10.out; have := Z11.out; have := Z12.out; omega)))
  replace O6 := Lib.hid (O6.out.moved (fun q hq => g13.block q (own_base O6.out.own q hq).2 (fun e => by have := U5.out q e.symm; have := U6.out q hq; have := Z1.out; have := Z2.out; have := Z3.out; have := Z4.out; have := Z5.out; have := Z6.out; have := Z7.out; have := Z8.out; have := Z9.out; have := Z10.out; have := Z11.out; have := Z12.out; omega)))
  have B13 := Lib.hid (B12.out.grown g13 B12.out.size (fun q hq => by have := U5.out q hq; have := Z1.out; have := Z2.out; have := Z3.out; have := Z4.out; have := Z5.out; have := Z6.out; have := Z7.out; have := Z8.out; have := Z9.out; have := Z10.out; have := Z11.out; have := Z12.out; omega))
  clear B12
  have BA13 := Lib.hid (BA12.out.grown g13 BA12.out.size (fun q hq => by have := U5.out q hq; have := Z1.out; have := Z2.out; have := Z3.out; have := Z4.out; have := Z5.out; have := Z6.out; have := Z7.out; have := Z8.out; have := Z9.out; have := Z10.out; have := Z11.out; have := Z12.out; omega))
  clear BA12
  have Z13 := Lib.hid g13.size
  replace O5 := Lib.hid o13
  clear o13 g13
  clear O4 U4
  clear O5 U5
  have hq : ¬ ((1 + 2 * (xs0.length : Int) + 2 * (xs1.length : Int) : Int) < 0) := by omega
  go_wp2_with fail
  refine (eqSpanS_c _ _ _ _ _ _ _ O6.out.row (SW.out.below BA13.out)).mono ?_
  rintro e w14 ⟨rfl, b14⟩
  replace O6 := Lib.hid (O6.out.below b14)
  have Z14 := Lib.hid b14.size
  have B14 := Lib.hid (below_then B13.out b14)
  clear B13
  have BA14 := Lib.hid (below_then BA13.out b14)
  clear BA13
  clear b14
  rw [decide_eq_true (rfl : (setJoin xs0 xs1) = (setJoin xs0 xs1))]
  clear hq
  go_wp2_with fail
  refine (markSpanS_c _ _ _ _ _ O6.out (by omega) (by have := HGL.out; omega) (by have := HGL.out; omega)).mono ?_
  rintro e w15 ⟨rfl, o15, g15⟩
  have B15 := Lib.hid (B14.out.grown g15 B14.out.size (fun q hq => by have := U6.out q hq; have := Z1.out; have := Z2.out; have := Z3.out; have := Z4.out; have := Z5.out; have := Z6.out; have := Z7.out; have := Z8.out; have := Z9.out; have := Z10.out; have := Z11.out; have := Z12.out; have := Z13.out; have := Z14.out; omega))
  clear B14
  have BA15 := Lib.hid (BA14.out.grown g15 BA14.out.size (fun q hq => by have := U6.out q hq; have := Z1.out; have := Z2.out; have := Z3.out; have := Z4.out; have := Z5.out; have := Z6.out; have := Z7.out; have := Z8.out; have := Z9.out; have := Z10.out; have := Z11.out; have := Z12.out; have := Z13.out; have := Z14.out; omega))
  clear BA14
  have Z15 := Lib.hid g15.size
  replace O6 := Lib.hid o15
  clear o15 g15
  have hq : ¬ ((1 : Int) + 2 * ((setJoin xs0 xs1).length : Int) < 0) := by omega
  go_wp2_with fail
  refine (held2_c _ _ _ _ _ O6.out (by omega) (by omega) (by have := HGL.out; omega)).mono ?_
  rintro e w16 ⟨rfl, d16⟩
  have b16 := d16.below
  clear d16
  replace O6 := Lib.hid (O6.out.below b16)
  have Z16 := Lib.hid b16.size
  have B16 := Lib.hid (below_then B15.out b16)
  clear B15
  have BA16 := Lib.hid (below_then BA15.out b16)
  clear BA15
  clear b16
  go_wp2_with fail
  refine (toSpanS_c _ _ _ _ (h0.below B16.out) hx0).mono ?_
  rintro e w17 ⟨v17, rfl, o17, b17⟩
  obtain ⟨A17_, c17_, rfl⟩ := o17.slice
  have u17 := own_base o17.own
  have U17 := Lib.hid u17
  clear u17
  have O17 := Lib.hid o17
  clear o17
  replace O6 := Lib.hid (O6.out.below b17)
  have Z17 := Lib.hid b17.size
  have B17 := Lib.hid (below_then B16.out b17)
  clear B16
  have BA17 := Lib.hid (below_then BA16.out b17)
  clear BA16
  clear b17
  go_wp2_with fail
  refine (toSpanS_c _ _ _ _ (h1.below B17.out) hx1).mono ?_
  rintro e w18 ⟨v18, rfl, o18, b18⟩
  obtain ⟨A18_, c18_, rfl⟩ := o18.slice
  have u18 := own_base o18.own
  have U18 := Lib.hid u18
  clear u18
  have O18 := Lib.hid o18
  clear o18
  replace O6 := Lib.hid (O6.out.below b18)
  replace O17 := Lib.hid (O17.out.below b18)
  have Z18 := Lib.hid b18.size
  have B18 := Lib.hid (below_then B17.out b18)
  clear B17
  have BA18 := Lib.hid (below_then BA17.out b18)
  clear BA17
  clear b18
  go_wp2_with fail
  refine (iSetJoin_c _ _ _ _ _ _ _ O17.out.row O18.out.row).mono ?_
  rintro e w19 ⟨v19, rfl, o19, b19⟩
  obtain ⟨A19_, c19_, rfl⟩ := o19.slice
  have u19 := own_base o19.own
  have U19 := Lib.hid u19
  clear u19
  have O19 := Lib.hid o19
  clear o19
  replace O6 := Lib.hid (O6.out.below b19)
  replace O17 := Lib.hid (O17.out.below b19)
  replace O18 := Lib.hid (O18.out.below b19)
  have Z19 := Lib.hid b19.size
  have B19 := Lib.hid (below_then B18.out b19)
  clear B18
  have BA19 := Lib.hid (below_then BA18.out b19)
  clear BA18
  clear b19
  clear O17 U17
  clear O18 U18
  go_wp2_with fail
  refine (eqSpanS_c _ _ _ _ _ _ _ O19.out.row (SW.out.below BA19.out)).mono ?_
  rintro e w20 ⟨rfl, b20⟩
  replace O6 := Lib.hid (O6.out.below b20)
  replace O19 := Lib.hid (O19.out.below b20)
  have Z20 := Lib.hid b20.size
  have B20 := Lib.hid (below_then B19.out b20)
  clear B19
  have BA20 := Lib.hid (below_then BA19.out b20)
  clear BA19
  clear b20
  rw [decide_eq_true (rfl : (setJoin xs0 xs1) = (setJoin xs0 xs1))]
  clear O19 U19
  go_wp2_with fail
  refine (held2_c _ _ _ _ _ O6.out (by omega) (by omega) (by have := HGL.out; omega)).mono ?_
  rintro e w21 ⟨rfl, d21⟩
  have b21 := d21.below
  clear d21
  replace O6 := Lib.hid (O6.out.below b21)
  have Z21 := Lib.hid b21.size
  have B21 := Lib.hid (below_then B20.out b21)
  clear B20
  have BA21 := Lib.hid (below_then BA20.out b21)
  clear BA20
  clear b21
  go_wp2
  go_ret
  exact ⟨rfl, B21.out⟩

end Go.Proofs.Ytffjliphgaeffaa
