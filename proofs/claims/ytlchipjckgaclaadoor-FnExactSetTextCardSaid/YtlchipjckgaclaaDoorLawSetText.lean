/- The law FnExactSetText: the program's SetText tells what the reference's tells. -/
import Derived.Test.YtlchipjckgaclaaDoorTw
import Derived.Test.YtlchipjckgaclaaDoorW3
import Derived.Test.YtlchipjckgaclaaDoorT1
namespace Go.Proofs.YtlchipjckgaclaaDoor
set_option linter.unusedSimpArgs false
set_option linter.unusedVariables false
set_option maxRecDepth 100000
open Go.RowKit

set_option maxHeartbeats 4000000 in
theorem exSetText_c (A0 : Option Addr) (c0 : Nat) (xs : List Sp) (w : World) (h0 : Sps w 0 A0 c0 xs) (h64 : sp64 xs) (ht : Pow10 w) :
    Calls Tryd.prog 3 #[.slice A0 xs.length c0] w fun e w' => e = .returned (.bool true) ∧ Below w.heap.size w w' := by
  have HT := Lib.hid ht
  have H64 := Lib.hid h64
  clear ht h64
  go_enter Tryd.func3, Tryd.ntmps3
  go_wp2_with fail
  refine (szSpanS_c _ _ _ _ _ h0.len (by omega) (by omega)).mono ?_
  rintro e w' ⟨rfl, rfl⟩
  by_cases hb0 : (1048576 : Int) < xs.length
  · have hs := szLeft_neg hb0
    clear hb0
    go_wp2
    go_ret
    exact ⟨rfl, Below.refl _ _⟩
  rw [szLeft_pos hb0]
  have hx0 : xs.length ≤ 1048576 := by omega
  have hs : ¬ ((1048576 - xs.length : Int) < 0) := by omega
  clear hb0
  go_wp2_with fail
  clear hs
  refine (toSpanS_c _ _ _ _ h0 hx0).mono ?_
  rintro e w1 ⟨v1, rfl, o1, b1⟩
  obtain ⟨A1, c1, rfl, s1⟩ := o1.sps
  clear o1
  have B1 := Lib.hid b1
  clear b1
  go_wp2_with fail
  refine (sSetText_c _ _ _ _ s1 H64.out hx0).mono ?_
  rintro e w2 ⟨rfl, b2⟩
  have B2 := Lib.hid (below_then B1.out b2)
  clear b2 B1 s1
  obtain ⟨T, hT⟩ : ∃ T, T = str (setTxt xs) := ⟨_, rfl⟩
  rw [← hT]
  have HTX := Lib.hid hT
  clear hT
  go_wp2_with fail
  refine (toSpanS_c _ _ _ _ (h0.below B2.out) hx0).mono ?_
  rintro e w3 ⟨v3, rfl, o3, b3⟩
  obtain ⟨A3, c3, rfl, s3⟩ := o3.sps
  clear o3
  have B3 := Lib.hid (below_then B2.out b3)
  clear b3 B2
  go_wp2_with fail
  refine (iSetText_c _ _ _ _ s3 H64.out hx0 (HT.out.below B3.out)).mono ?_
  rintro e w4 ⟨rfl, b4⟩
  rw [← HTX.out]
  replace s3 := s3.below b4
  have B4 := Lib.hid (below_then B3.out b4)
  clear b4 B3
  go_wp2_with fail
  refine (toSpanS_c _ _ _ _ (h0.below B4.out) hx0).mono ?_
  rintro e w5 ⟨v5, rfl, o5, b5⟩
  obtain ⟨A5, c5, rfl, s5⟩ := o5.sps
  clear o5
  replace s3 := s3.below b5
  have B5 := Lib.hid (below_then B4.out b5)
  clear b5 B4
  go_wp2_with fail
  refine (eqSpanS_c _ _ _ _ _ _ _ s3 s5).mono ?_
  rintro e w6 ⟨rfl, b6⟩
  have B6 := Lib.hid (below_then B5.out b6)
  clear b6 s3 s5 B5
  rw [decide_eq_true (rfl : xs = xs)]
  go_wp2
  go_ret
  exact ⟨rfl, B6.out⟩

end Go.Proofs.YtlchipjckgaclaaDoor
