/- The law FnSetAlgebra. (Printed by wip/gen/setlaws.py.) -/
import Derived.Test.YtjnhmoinehffiaaDr2
import Derived.Test.YtjnhmoinehffiaaDraws
import Derived.Test.YtjnhmoinehffiaaW7
import Derived.Test.YtjnhmoinehffiaaW8
import Derived.Test.YtjnhmoinehffiaaW4
import Derived.Test.YtjnhmoinehffiaaSetLaws
namespace Go.Proofs.Ytjnhmoinehffiaa
set_option linter.unusedSimpArgs false
set_option linter.unusedVariables false
open Go.RowKit

set_option maxRecDepth 100000 in
set_option maxHeartbeats 4000000 in
theorem lawFnSetAlgebra_c (A0 : Option Addr) (c0 : Nat) (bs0 : List Int) (A1 : Option Addr) (c1 : Nat) (bs1 : List Int) (w : World) (h0 : Bys w 0 A0 c0 bs0) (h1 : Bys w 0 A1 c1 bs1) :
    Calls Try.prog 3 #[.slice A0 bs0.length c0, .slice A1 bs1.length c1] w fun e w' => e = .returned (.bool true) ∧ Below w.heap.size w w' := by
  have hl0 := h0.len
  have hl1 := h1.len
  unfold maxN at hl0 hl1
  go_enter Try.func3, Try.ntmps3
  by_cases hb0 : (1048576 : Int) < bs0.length
  · go_wp2
    go_ret
    exact ⟨rfl, Below.refl _ _⟩
  by_cases hb1 : (1048576 : Int) < bs1.length
  · go_wp2
    go_ret
    exact ⟨rfl, Below.refl _ _⟩
  clear hl0 hl1
  go_wp2_with fail
  refine (drawSetMeet_c _ _ _ _ h0).mono ?_
  rintro e w1 ⟨xs, ys, va1, vb1, rfl, oa1, ob1, hx1, hy1, b1⟩
  obtain ⟨A1, c1, rfl, sa⟩ := oa1.sps
  obtain ⟨A1_, c1_, rfl, sb⟩ := ob1.sps
  clear oa1 ob1
  have B1 := Lib.hid b1
  clear b1
  clear hb0 hb1
  go_wp2_with fail
  refine (drawOne_c _ _ _ _ (h1.below B1.out)).mono ?_
  rintro e w2 ⟨zs, va2, rfl, oa2, hx2, b2⟩
  obtain ⟨A2, c2, rfl, sc⟩ := oa2.sps
  clear oa2
  replace sa := sa.below b2
  replace sb := sb.below b2
  have B2 := Lib.hid (below_then B1.out b2)
  clear b2 B1
  go_wp2_with fail
  refine (iSetJoin_c _ _ _ _ _ _ _ sa sb).mono ?_
  rintro e w3 ⟨v3, rfl, o3, b3⟩
  obtain ⟨A3, c3, rfl, t1⟩ := o3.sps
  clear o3
  replace sa := sa.below b3
  replace sb := sb.below b3
  replace sc := sc.below b3
  have B3 := Lib.hid (below_then B2.out b3)
  clear b3 B2
  go_wp2_with fail
  refine (sSetJoin_c _ _ _ _ _ _ _ sa sb).mono ?_
  rintro e w4 ⟨v4, rfl, o4, b4⟩
  obtain ⟨A4, c4, rfl, t2⟩ := o4.sps
  clear o4
  replace sa := sa.below b4
  replace sb := sb.below b4
  replace sc := sc.below b4
  replace t1 := t1.below b4
  have B4 := Lib.hid (below_then B3.out b4)
  clear b4 B3
  go_wp2_with fail
  refine (iSetSame_c _ _ _ _ _ _ _ t1 t2).mono ?_
  rintro e w5 ⟨rfl, d5⟩
  have b5 := d5.below
  clear d5
  clear t1
  clear t2
  replace sa := sa.below b5
  replace sb := sb.below b5
  replace sc := sc.below b5
  have B5 := Lib.hid (below_then B4.out b5)
  clear b5 B4
  rw [decide_eq_true (rfl : setJoin xs ys = setJoin xs ys)]
  go_wp2_with fail
  refine (sSetOk_c _ _ _ _ sa).mono ?_
  rintro e w6 ⟨rfl, d6⟩
  have b6 := d6.below
  clear d6
  replace sa := sa.below b6
  replace sb := sb.below b6
  replace sc := sc.below b6
  have B6 := Lib.hid (below_then B5.out b6)
  clear b6 B5
  by_cases ok : setOk xs = true
  rotate_left
  · replace ok : setOk xs = false := by simpa using ok
    rw [ok]
    clear ok
    go_wp2_with fail
    refine (iSetJoin_c _ _ _ _ _ _ _ sa sb).mono ?_
    rintro e w7 ⟨v7, rfl, o7, b7⟩
    obtain ⟨A7, c7, rfl, t1⟩ := o7.sps
    clear o7
    replace sa := sa.below b7
    replace sb := sb.below b7
    replace sc := sc.below b7
    have B7 := Lib.hid (below_then B6.out b7)
    clear b7 B6
    go_wp2_with fail
    refine (sSetJoin_c _ _ _ _ _ _ _ sa sb).mono ?_
    rintro e w8 ⟨v8, rfl, o8, b8⟩
    obtain ⟨A8, c8, rfl, t2⟩ := o8.sps
    clear o8
    replace sa := sa.below b8
    replace sb := sb.below b8
    replace sc := sc.below b8
    replace t1 := t1.below b8
    have B8 := Lib.hid (below_then B7.out b8)
    clear b8 B7
    go_wp2_with fail
    refine (iSetSame_c _ _ _ _ _ _ _ t1 t2).mono ?_
    rintro e w9 ⟨rfl, d9⟩
    have b9 := d9.below
    clear d9
    clear t1
    clear t2
    replace sa := sa.below b9
    replace sb := sb.below b9
    replace sc := sc.below b9
    have B9 := Lib.hid (below_then B8.out b9)
    clear b9 B8
    rw [decide_eq_true (rfl : setJoin xs ys = setJoin xs ys)]
    go_wp2
    go_ret
    exact ⟨rfl, B9.out⟩
  have OKA := Lib.hid ok
  rw [ok]
  clear ok
  go_wp2_with fail
  refine (sSetOk_c _ _ _ _ sb).mono ?_
  rintro e w10 ⟨rfl, d10⟩
  have b10 := d10.below
  clear d10
  replace sa := sa.below b10
  replace sb := sb.below b10
  replace sc := sc.below b10
  have B10 := Lib.hid (below_then B6.out b10)
  clear b10 B6
  by_cases ok : setOk ys = true
  rotate_left
  · replace ok : setOk ys = false := by simpa using ok
    rw [ok]
    clear ok
    go_wp2_with fail
    refine (iSetJoin_c _ _ _ _ _ _ _ sa sb).mono ?_
    rintro e w11 ⟨v11, rfl, o11, b11⟩
    obtain ⟨A11, c11, rfl, t1⟩ := o11.sps
    clear o11
    replace sa := sa.below b11
    replace sb := sb.below b11
    replace sc := sc.below b11
    have B11 := Lib.hid (below_then B10.out b11)
    clear b11 B10
    go_wp2_with fail
    refine (sSetJoin_c _ _ _ _ _ _ _ sa sb).mono ?_
    rintro e w12 ⟨v12, rfl, o12, b12⟩
    obtain ⟨A12, c12, rfl, t2⟩ := o12.sps
    clear o12
    replace sa := sa.below b12
    replace sb := sb.below b12
    replace sc := sc.below b12
    replace t1 := t1.below b12
    have B12 := Lib.hid (below_then B11.out b12)
    clear b12 B11
    go_wp2_with fail
    refine (iSetSame_c _ _ _ _ _ _ _ t1 t2).mono ?_
    rintro e w13 ⟨rfl, d13⟩
    have b13 := d13.below
    clear d13
    clear t1
    clear t2
    replace sa := sa.below b13
    replace sb := sb.below b13
    replace sc := sc.below b13
    have B13 := Lib.hid (below_then B12.out b13)
    clear b13 B12
    rw [decide_eq_true (rfl : setJoin xs ys = setJoin xs ys)]
    go_wp2
    go_ret
    exact ⟨rfl, B13.out⟩
  have OKB := Lib.hid ok
  rw [ok]
  clear ok
  go_wp2_with fail
  refine (sSetOk_c _ _ _ _ sc).mono ?_
  rintro e w14 ⟨rfl, d14⟩
  have b14 := d14.below
  clear d14
  replace sa := sa.below b14
  replace sb := sb.below b14
  replace sc := sc.below b14
  have B14 := Lib.hid (below_then B10.out b14)
  clear b14 B10
  by_cases ok : setOk zs = true
  rotate_left
  · replace ok : setOk zs = false := by simpa using ok
    rw [ok]
    clear ok
    go_wp2_with fail
    refine (iSetJoin_c _ _ _ _ _ _ _ sa sb).mono ?_
    rintro e w15 ⟨v15, rfl, o15, b15⟩
    obtain ⟨A15, c15, rfl, t1⟩ := o15.sps
    clear o15
    replace sa := sa.below b15
    replace sb := sb.below b15
    replace sc := sc.below b15
    have B15 := Lib.hid (below_then B14.out b15)
    clear b15 B14
    go_wp2_with fail
    refine (sSetJoin_c _ _ _ _ _ _ _ sa sb).mono ?_
    rintro e w16 ⟨v16, rfl, o16, b16⟩
    obtain ⟨A16, c16, rfl, t2⟩ := o16.sps
    clear o16
    replace sa := sa.below b16
    replace sb := sb.below b16
    replace sc := sc.below b16
    replace t1 := t1.below b16
    have B16 := Lib.hid (below_then B15.out b16)
    clear b16 B15
    go_wp2_with fail
    refine (iSetSame_c _ _ _ _ _ _ _ t1 t2).mono ?_
    rintro e w17 ⟨rfl, d17⟩
    have b17 := d17.below
    clear d17
    clear t1
    clear t2
    replace sa := sa.below b17
    replace sb := sb.below b17
    replace sc := sc.below b17
    have B17 := Lib.hid (below_then B16.out b17)
    clear b17 B16
    rw [decide_eq_true (rfl : setJoin xs ys = setJoin xs ys)]
    go_wp2
    go_ret
    exact ⟨rfl, B17.out⟩
  have OKC := Lib.hid ok
  rw [ok]
  clear ok
  go_wp2_with fail
  refine (iSetJoin_c _ _ _ _ _ _ _ sa sb).mono ?_
  rintro e w18 ⟨v18, rfl, o18, b18⟩
  obtain ⟨A18, c18, rfl, t1⟩ := o18.sps
  clear o18
  replace sa := sa.below b18
  replace sb := sb.below b18
  replace sc := sc.below b18
  have B18 := Lib.hid (below_then B14.out b18)
  clear b18 B14
  go_wp2_with fail
  refine (iSetJoin_c _ _ _ _ _ _ _ sb sa).mono ?_
  rintro e w19 ⟨v19, rfl, o19, b19⟩
  obtain ⟨A19, c19, rfl, t2⟩ := o19.sps
  clear o19
  replace sa := sa.below b19
  replace sb := sb.below b19
  replace sc := sc.below b19
  replace t1 := t1.below b19
  have B19 := Lib.hid (below_then B18.out b19)
  clear b19 B18
  go_wp2_with fail
  refine (iSetSame_c _ _ _ _ _ _ _ t1 t2).mono ?_
  rintro e w20 ⟨rfl, d20⟩
  have b20 := d20.below
  clear d20
  clear t1
  clear t2
  replace sa := sa.below b20
  replace sb := sb.below b20
  replace sc := sc.below b20
  have B20 := Lib.hid (below_then B19.out b20)
  clear b20 B19
  rw [decide_eq_true (join_comm OKA.out OKB.out : setJoin xs ys = setJoin ys xs)]
  go_wp2_with fail
  refine (iSetMeet_c _ _ _ _ _ _ _ sa sb).mono ?_
  rintro e w21 ⟨v21, rfl, o21, b21⟩
  obtain ⟨A21, c21, rfl, t1⟩ := o21.sps
  clear o21
  replace sa := sa.below b21
  replace sb := sb.below b21
  replace sc := sc.below b21
  have B21 := Lib.hid (below_then B20.out b21)
  clear b21 B20
  go_wp2_with fail
  refine (iSetMeet_c _ _ _ _ _ _ _ sb sa).mono ?_
  rintro e w22 ⟨v22, rfl, o22, b22⟩
  obtain ⟨A22, c22, rfl, t2⟩ := o22.sps
  clear o22
  replace sa := sa.below b22
  replace sb := sb.below b22
  replace sc := sc.below b22
  replace t1 := t1.below b22
  have B22 := Lib.hid (below_then B21.out b22)
  clear b22 B21
  go_wp2_with fail
  refine (iSetSame_c _ _ _ _ _ _ _ t1 t2).mono ?_
  rintro e w23 ⟨rfl, d23⟩
  have b23 := d23.below
  clear d23
  clear t1
  clear t2
  replace sa := sa.below b23
  replace sb := sb.below b23
  replace sc := sc.below b23
  have B23 := Lib.hid (below_then B22.out b23)
  clear b23 B22
  rw [decide_eq_true (meet_comm OKA.out OKB.out : setMeet xs ys = setMeet ys xs)]
  go_wp2_with fail
  refine (iSetJoin_c _ _ _ _ _ _ _ sa sb).mono ?_
  rintro e w24 ⟨v24, rfl, o24, b24⟩
  obtain ⟨A24, c24, rfl, t1⟩ := o24.sps
  clear o24
  replace sa := sa.below b24
  replace sb := sb.below b24
  replace sc := sc.below b24
  have B24 := Lib.hid (below_then B23.out b24)
  clear b24 B23
  go_wp2_with fail
  refine (iSetJoin_c _ _ _ _ _ _ _ t1 sc).mono ?_
  rintro e w25 ⟨v25, rfl, o25, b25⟩
  obtain ⟨A25, c25, rfl, t2⟩ := o25.sps
  clear o25
  replace sa := sa.below b25
  replace sb := sb.below b25
  replace sc := sc.below b25
  replace t1 := t1.below b25
  have B25 := Lib.hid (below_then B24.out b25)
  clear b25 B24
  go_wp2_with fail
  refine (iSetJoin_c _ _ _ _ _ _ _ sb sc).mono ?_
  rintro e w26 ⟨v26, rfl, o26, b26⟩
  obtain ⟨A26, c26, rfl, t3⟩ := o26.sps
  clear o26
  replace sa := sa.below b26
  replace sb := sb.below b26
  replace sc := sc.below b26
  replace t1 := t1.below b26
  replace t2 := t2.below b26
  have B26 := Lib.hid (below_then B25.out b26)
  clear b26 B25
  go_wp2_with fail
  refine (iSetJoin_c _ _ _ _ _ _ _ sa t3).mono ?_
  rintro e w27 ⟨v27, rfl, o27, b27⟩
  obtain ⟨A27, c27, rfl, t4⟩ := o27.sps
  clear o27
  replace sa := sa.below b27
  replace sb := sb.below b27
  replace sc := sc.below b27
  replace t1 := t1.below b27
  replace t2 := t2.below b27
  replace t3 := t3.below b27
  have B27 := Lib.hid (below_then B26.out b27)
  clear b27 B26
  go_wp2_with fail
  refine (iSetSame_c _ _ _ _ _ _ _ t2 t4).mono ?_
  rintro e w28 ⟨rfl, d28⟩
  have b28 := d28.below
  clear d28
  clear t1
  clear t2
  clear t3
  clear t4
  replace sa := sa.below b28
  replace sb := sb.below b28
  replace sc := sc.below b28
  have B28 := Lib.hid (below_then B27.out b28)
  clear b28 B27
  rw [decide_eq_true (join_assoc OKA.out OKB.out OKC.out : setJoin (setJoin xs ys) zs = setJoin xs (setJoin ys zs))]
  go_wp2_with fail
  refine (iSetJoin_c _ _ _ _ _ _ _ sb sc).mono ?_
  rintro e w29 ⟨v29, rfl, o29, b29⟩
  obtain ⟨A29, c29, rfl, t1⟩ := o29.sps
  clear o29
  replace sa := sa.below b29
  replace sb := sb.below b29
  replace sc := sc.below b29
  have B29 := Lib.hid (below_then B28.out b29)
  clear b29 B28
  go_wp2_with fail
  refine (iSetMeet_c _ _ _ _ _ _ _ sa t1).mono ?_
  rintro e w30 ⟨v30, rfl, o30, b30⟩
  obtain ⟨A30, c30, rfl, t2⟩ := o30.sps
  clear o30
  replace sa := sa.below b30
  replace sb := sb.below b30
  replace sc := sc.below b30
  replace t1 := t1.below b30
  have B30 := Lib.hid (below_then B29.out b30)
  clear b30 B29
  go_wp2_with fail
  refine (iSetMeet_c _ _ _ _ _ _ _ sa sb).mono ?_
  rintro e w31 ⟨v31, rfl, o31, b31⟩
  obtain ⟨A31, c31, rfl, t3⟩ := o31.sps
  clear o31
  replace sa := sa.below b31
  replace sb := sb.below b31
  replace sc := sc.below b31
  replace t1 := t1.below b31
  replace t2 := t2.below b31
  have B31 := Lib.hid (below_then B30.out b31)
  clear b31 B30
  go_wp2_with fail
  refine (iSetMeet_c _ _ _ _ _ _ _ sa sc).mono ?_
  rintro e w32 ⟨v32, rfl, o32, b32⟩
  obtain ⟨A32, c32, rfl, t4⟩ := o32.sps
  clear o32
  replace sa := sa.below b32
  replace sb := sb.below b32
  replace sc := sc.below b32
  replace t1 := t1.below b32
  replace t2 := t2.below b32
  replace t3 := t3.below b32
  have B32 := Lib.hid (below_then B31.out b32)
  clear b32 B31
  go_wp2_with fail
  refine (iSetJoin_c _ _ _ _ _ _ _ t3 t4).mono ?_
  rintro e w33 ⟨v33, rfl, o33, b33⟩
  obtain ⟨A33, c33, rfl, t5⟩ := o33.sps
  clear o33
  replace sa := sa.below b33
  replace sb := sb.below b33
  replace sc := sc.below b33
  replace t1 := t1.below b33
  replace t2 := t2.below b33
  replace t3 := t3.below b33
  replace t4 := t4.below b33
  have B33 := Lib.hid (below_then B32.out b33)
  clear b33 B32
  go_wp2_with fail
  refine (iSetSame_c _ _ _ _ _ _ _ t2 t5).mono ?_
  rintro e w34 ⟨rfl, d34⟩
  have b34 := d34.below
  clear d34
  clear t1
  clear t2
  clear t3
  clear t4
  clear t5
  replace sa := sa.below b34
  replace sb := sb.below b34
  replace sc := sc.below b34
  have B34 := Lib.hid (below_then B33.out b34)
  clear b34 B33
  rw [decide_eq_true (meet_join OKA.out OKB.out OKC.out : setMeet xs (setJoin ys zs) = setJoin (setMeet xs ys) (setMeet xs zs))]
  go_wp2_with fail
  refine (iSetJoin_c _ _ _ _ _ _ _ sa sb).mono ?_
  rintro e w35 ⟨v35, rfl, o35, b35⟩
  obtain ⟨A35, c35, rfl, t1⟩ := o35.sps
  clear o35
  replace sa := sa.below b35
  replace sb := sb.below b35
  replace sc := sc.below b35
  have B35 := Lib.hid (below_then B34.out b35)
  clear b35 B34
  go_wp2_with fail
  refine (iSetNot_c _ _ _ _ t1).mono ?_
  rintro e w36 ⟨v36, rfl, o36, b36⟩
  obtain ⟨A36, c36, rfl, t2⟩ := o36.sps
  clear o36
  replace sa := sa.below b36
  replace sb := sb.below b36
  replace sc := sc.below b36
  replace t1 := t1.below b36
  have B36 := Lib.hid (below_then B35.out b36)
  clear b36 B35
  go_wp2_with fail
  refine (iSetNot_c _ _ _ _ sa).mono ?_
  rintro e w37 ⟨v37, rfl, o37, b37⟩
  obtain ⟨A37, c37, rfl, t3⟩ := o37.sps
  clear o37
  replace sa := sa.below b37
  replace sb := sb.below b37
  replace sc := sc.below b37
  replace t1 := t1.below b37
  replace t2 := t2.below b37
  have B37 := Lib.hid (below_then B36.out b37)
  clear b37 B36
  go_wp2_with fail
  refine (iSetNot_c _ _ _ _ sb).mono ?_
  rintro e w38 ⟨v38, rfl, o38, b38⟩
  obtain ⟨A38, c38, rfl, t4⟩ := o38.sps
  clear o38
  replace sa := sa.below b38
  replace sb := sb.below b38
  replace sc := sc.below b38
  replace t1 := t1.below b38
  replace t2 := t2.below b38
  replace t3 := t3.below b38
  have B38 := Lib.hid (below_then B37.out b38)
  clear b38 B37
  go_wp2_with fail
  refine (iSetMeet_c _ _ _ _ _ _ _ t3 t4).mono ?_
  rintro e w39 ⟨v39, rfl, o39, b39⟩
  obtain ⟨A39, c39, rfl, t5⟩ := o39.sps
  clear o39
  replace sa := sa.below b39
  replace sb := sb.below b39
  replace sc := sc.below b39
  replace t1 := t1.below b39
  replace t2 := t2.below b39
  replace t3 := t3.below b39
  replace t4 := t4.below b39
  have B39 := Lib.hid (below_then B38.out b39)
  clear b39 B38
  go_wp2_with fail
  refine (iSetSame_c _ _ _ _ _ _ _ t2 t5).mono ?_
  rintro e w40 ⟨rfl, d40⟩
  have b40 := d40.below
  clear d40
  clear t1
  clear t2
  clear t3
  clear t4
  clear t5
  replace sa := sa.below b40
  replace sb := sb.below b40
  replace sc := sc.below b40
  have B40 := Lib.hid (below_then B39.out b40)
  clear b40 B39
  rw [decide_eq_true (not_join OKA.out OKB.out : setNot (setJoin xs ys) = setMeet (setNot xs) (setNot ys))]
  go_wp2
  go_ret
  exact ⟨rfl, B40.out⟩

end Go.Proofs.Ytjnhmoinehffiaa
