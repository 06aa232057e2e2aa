/- The law FnSet. (Printed by wip/gen/setlaws.py.) -/
import Derived.Test.YtjnhmoinehffiaaDr2
import Derived.Test.YtjnhmoinehffiaaDraws
import Derived.Test.YtjnhmoinehffiaaW7
import Derived.Test.YtjnhmoinehffiaaW8
import Derived.Test.YtjnhmoinehffiaaW4
import Derived.Test.YtjnhmoinehffiaaSetLaws
namespace Go.Proofs.Ytjnhmoinehffiaa
set_option linter.unusedSimpArgs false
set_option linter.unusedVariables false
open Go.RowKit

set_option maxRecDepth 100000 in
set_option maxHeartbeats 4000000 in
theorem lawFnSet_c (A0 : Option Addr) (c0 : Nat) (bs0 : List Int) (w : World) (h0 : Bys w 0 A0 c0 bs0) :
    Calls Try.prog 5 #[.slice A0 bs0.length c0] w fun e w' => e = .returned (.bool true) ∧ Below w.heap.size w w' := by
  have hl0 := h0.len
  unfold maxN at hl0
  go_enter Try.func5, Try.ntmps5
  by_cases hb0 : (1048576 : Int) < bs0.length
  · go_wp2
    go_ret
    exact ⟨rfl, Below.refl _ _⟩
  clear hl0
  go_wp2_with fail
  refine (drawSetJoin_c _ _ _ _ h0).mono ?_
  rintro e w1 ⟨xs, ys, va1, vb1, rfl, oa1, ob1, hx1, hy1, b1⟩
  obtain ⟨A1, c1, rfl, sa⟩ := oa1.sps
  obtain ⟨A1_, c1_, rfl, sb⟩ := ob1.sps
  clear oa1 ob1
  have B1 := Lib.hid b1
  clear b1
  clear hb0
  go_wp2_with fail
  refine (iSetJoin_c _ _ _ _ _ _ _ sa sb).mono ?_
  rintro e w2 ⟨v2, rfl, o2, b2⟩
  obtain ⟨A2, c2, rfl, sj⟩ := o2.sps
  clear o2
  replace sa := sa.below b2
  replace sb := sb.below b2
  have B2 := Lib.hid (below_then B1.out b2)
  clear b2 B1
  go_wp2_with fail
  refine (iSetMeet_c _ _ _ _ _ _ _ sa sb).mono ?_
  rintro e w3 ⟨v3, rfl, o3, b3⟩
  obtain ⟨A3, c3, rfl, sm⟩ := o3.sps
  clear o3
  replace sa := sa.below b3
  replace sb := sb.below b3
  replace sj := sj.below b3
  have B3 := Lib.hid (below_then B2.out b3)
  clear b3 B2
  go_wp2_with fail
  refine (iSetNot_c _ _ _ _ sa).mono ?_
  rintro e w4 ⟨v4, rfl, o4, b4⟩
  obtain ⟨A4, c4, rfl, sn⟩ := o4.sps
  clear o4
  replace sa := sa.below b4
  replace sb := sb.below b4
  replace sj := sj.below b4
  replace sm := sm.below b4
  have B4 := Lib.hid (below_then B3.out b4)
  clear b4 B3
  go_wp2_with fail
  refine (sSetJoin_c _ _ _ _ _ _ _ sa sb).mono ?_
  rintro e w5 ⟨v5, rfl, o5, b5⟩
  obtain ⟨A5, c5, rfl, t1⟩ := o5.sps
  clear o5
  replace sa := sa.below b5
  replace sb := sb.below b5
  replace sj := sj.below b5
  replace sm := sm.below b5
  replace sn := sn.below b5
  have B5 := Lib.hid (below_then B4.out b5)
  clear b5 B4
  go_wp2_with fail
  refine (iSetSame_c _ _ _ _ _ _ _ sj t1).mono ?_
  rintro e w6 ⟨rfl, d6⟩
  have b6 := d6.below
  clear d6
  clear t1
  replace sa := sa.below b6
  replace sb := sb.below b6
  replace sj := sj.below b6
  replace sm := sm.below b6
  replace sn := sn.below b6
  have B6 := Lib.hid (below_then B5.out b6)
  clear b6 B5
  rw [decide_eq_true (rfl : setJoin xs ys = setJoin xs ys)]
  go_wp2_with fail
  refine (sSetMeet_c _ _ _ _ _ _ _ sa sb).mono ?_
  rintro e w7 ⟨v7, rfl, o7, b7⟩
  obtain ⟨A7, c7, rfl, t2⟩ := o7.sps
  clear o7
  replace sa := sa.below b7
  replace sb := sb.below b7
  replace sj := sj.below b7
  replace sm := sm.below b7
  replace sn := sn.below b7
  have B7 := Lib.hid (below_then B6.out b7)
  clear b7 B6
  go_wp2_with fail
  refine (iSetSame_c _ _ _ _ _ _ _ sm t2).mono ?_
  rintro e w8 ⟨rfl, d8⟩
  have b8 := d8.below
  clear d8
  clear t2
  replace sa := sa.below b8
  replace sb := sb.below b8
  replace sj := sj.below b8
  replace sm := sm.below b8
  replace sn := sn.below b8
  have B8 := Lib.hid (below_then B7.out b8)
  clear b8 B7
  rw [decide_eq_true (rfl : setMeet xs ys = setMeet xs ys)]
  go_wp2_with fail
  refine (sSetNot_c _ _ _ _ sa).mono ?_
  rintro e w9 ⟨v9, rfl, o9, b9⟩
  obtain ⟨A9, c9, rfl, t3⟩ := o9.sps
  clear o9
  replace sa := sa.below b9
  replace sb := sb.below b9
  replace sj := sj.below b9
  replace sm := sm.below b9
  replace sn := sn.below b9
  have B9 := Lib.hid (below_then B8.out b9)
  clear b9 B8
  go_wp2_with fail
  refine (iSetSame_c _ _ _ _ _ _ _ sn t3).mono ?_
  rintro e w10 ⟨rfl, d10⟩
  have b10 := d10.below
  clear d10
  clear t3
  replace sa := sa.below b10
  replace sb := sb.below b10
  replace sj := sj.below b10
  replace sm := sm.below b10
  replace sn := sn.below b10
  have B10 := Lib.hid (below_then B9.out b10)
  clear b10 B9
  rw [decide_eq_true (rfl : setNot xs = setNot xs)]
  go_wp2_with fail
  refine (iSetOk_c _ _ _ _ sa).mono ?_
  rintro e w11 ⟨rfl, b11⟩
  replace sa := sa.below b11
  replace sb := sb.below b11
  replace sj := sj.below b11
  replace sm := sm.below b11
  replace sn := sn.below b11
  have B11 := Lib.hid (below_then B10.out b11)
  clear b11 B10
  go_wp2_with fail
  refine (sSetOk_c _ _ _ _ sa).mono ?_
  rintro e w12 ⟨rfl, d12⟩
  have b12 := d12.below
  clear d12
  replace sa := sa.below b12
  replace sb := sb.below b12
  replace sj := sj.below b12
  replace sm := sm.below b12
  replace sn := sn.below b12
  have B12 := Lib.hid (below_then B11.out b12)
  clear b12 B11
  go_wp2_with fail
  refine (sSetOk_c _ _ _ _ sa).mono ?_
  rintro e w13 ⟨rfl, d13⟩
  have b13 := d13.below
  clear d13
  replace sa := sa.below b13
  replace sb := sb.below b13
  replace sj := sj.below b13
  replace sm := sm.below b13
  replace sn := sn.below b13
  have B13 := Lib.hid (below_then B12.out b13)
  clear b13 B12
  by_cases oka : setOk xs = true
  rotate_left
  · have oka2 : setOk xs = false := by simpa using oka
    have e1 : (setJoin xs ys).length = 0 := by rw [join_bad (.inl oka2)]; rfl
    have e2 : (setMeet xs ys).length = 0 := by rw [meet_bad (.inl oka2)]; rfl
    rw [oka2]
    clear oka oka2
    go_wp2
    go_ret
    exact ⟨rfl, B13.out⟩
  have OKA := Lib.hid oka
  rw [oka]
  clear oka
  go_wp2_with fail
  refine (sSetOk_c _ _ _ _ sb).mono ?_
  rintro e w14 ⟨rfl, d14⟩
  have b14 := d14.below
  clear d14
  replace sa := sa.below b14
  replace sb := sb.below b14
  replace sj := sj.below b14
  replace sm := sm.below b14
  replace sn := sn.below b14
  have B14 := Lib.hid (below_then B13.out b14)
  clear b14 B13
  by_cases okb : setOk ys = true
  rotate_left
  · have okb2 : setOk ys = false := by simpa using okb
    have e1 : (setJoin xs ys).length = 0 := by rw [join_bad (.inr okb2)]; rfl
    have e2 : (setMeet xs ys).length = 0 := by rw [meet_bad (.inr okb2)]; rfl
    rw [okb2]
    clear okb okb2
    go_wp2
    go_ret
    exact ⟨rfl, B14.out⟩
  have OKB := Lib.hid okb
  rw [okb]
  clear okb
  have SA := Lib.hid sa
  clear sa
  have SB := Lib.hid sb
  clear sb
  have SJ := Lib.hid sj
  clear sj
  have SM := Lib.hid sm
  clear sm
  have SN := Lib.hid sn
  clear sn
  go_wp2
  go_loopg [8] 258 (fun n v wr => ∃ i : Int, v = .int .i64 i ∧ Hid (i + n = 257) ∧ -1 ≤ i ∧ Hid (Below w14.heap.size w14 wr))
  case atStart => exact ⟨-1, rfl, rfl, by omega, Below.refl _ _⟩
  case round =>
    obtain ⟨i, rfl, hi, hi0, HB⟩ := hrel
    have sa := SA.out.below HB.out
    have sb := SB.out.below HB.out
    have sj := SJ.out.below HB.out
    have sm := SM.out.below HB.out
    have sn := SN.out.below HB.out
    by_cases hk : i ≤ 256
    rotate_left
    · skip
      go_wp2_with fail
      refine (iSetOk_c _ _ _ _ sj).mono ?_
      rintro e w15 ⟨rfl, b15⟩
      replace sa := sa.below b15
      replace sb := sb.below b15
      replace sj := sj.below b15
      replace sm := sm.below b15
      replace sn := sn.below b15
      have B15 := Lib.hid (below_then HB.out b15)
      clear b15 HB
      rw [join_ok]
      go_wp2_with fail
      refine (iSetOk_c _ _ _ _ sm).mono ?_
      rintro e w16 ⟨rfl, b16⟩
      replace sa := sa.below b16
      replace sb := sb.below b16
      replace sj := sj.below b16
      replace sm := sm.below b16
      replace sn := sn.below b16
      have B16 := Lib.hid (below_then B15.out b16)
      clear b16 B15
      rw [meet_ok]
      go_wp2_with fail
      refine (iSetOk_c _ _ _ _ sn).mono ?_
      rintro e w17 ⟨rfl, b17⟩
      replace sa := sa.below b17
      replace sb := sb.below b17
      replace sj := sj.below b17
      replace sm := sm.below b17
      replace sn := sn.below b17
      have B17 := Lib.hid (below_then B16.out b17)
      clear b17 B16
      rw [not_ok]
      go_wp2_with fail
      refine (iSetNot_c _ _ _ _ sn).mono ?_
      rintro e w18 ⟨v18, rfl, o18, b18⟩
      obtain ⟨A18, c18, rfl, t4⟩ := o18.sps
      clear o18
      replace sa := sa.below b18
      replace sb := sb.below b18
      replace sj := sj.below b18
      replace sm := sm.below b18
      replace sn := sn.below b18
      have B18 := Lib.hid (below_then B17.out b18)
      clear b18 B17
      go_wp2_with fail
      refine (iSetSame_c _ _ _ _ _ _ _ t4 sa).mono ?_
      rintro e w19 ⟨rfl, d19⟩
      have b19 := d19.below
      clear d19
      clear t4
      replace sa := sa.below b19
      replace sb := sb.below b19
      replace sj := sj.below b19
      replace sm := sm.below b19
      replace sn := sn.below b19
      have B19 := Lib.hid (below_then B18.out b19)
      clear b19 B18
      rw [decide_eq_true (not_not OKA.out : setNot (setNot xs) = xs)]
      obtain ⟨p1, hp1⟩ : ∃ p, p = setSize (setNot xs) := ⟨_, rfl⟩
      obtain ⟨p2, hp2⟩ : ∃ p, p = setSize xs := ⟨_, rfl⟩
      obtain ⟨p3, hp3⟩ : ∃ p, p = setSize (setJoin xs ys) := ⟨_, rfl⟩
      obtain ⟨p4, hp4⟩ : ∃ p, p = setSize (setMeet xs ys) := ⟨_, rfl⟩
      obtain ⟨p5, hp5⟩ : ∃ p, p = setSize ys := ⟨_, rfl⟩
      have z1 := size_le (setNot xs)
      have z2 := size_le xs
      have z3 := size_le (setJoin xs ys)
      have z4 := size_le (setMeet xs ys)
      have z5 := size_le ys
      have y1 := size_not OKA.out
      have y2 := size_two OKA.out OKB.out
      rw [← hp1] at z1 y1
      rw [← hp2] at z2 y1 y2
      rw [← hp3] at z3 y2
      rw [← hp4] at z4 y2
      rw [← hp5] at z5 y2
      replace hp1 := Lib.hid hp1
      replace hp2 := Lib.hid hp2
      replace hp3 := Lib.hid hp3
      replace hp4 := Lib.hid hp4
      replace hp5 := Lib.hid hp5
      have y3 : (p1 + p2 == 256) = true := by simp [y1]
      have y4 : (p3 + p4 == p2 + p5) = true := by simp [y2]
      replace y1 := Lib.hid y1
      replace y2 := Lib.hid y2
      go_wp2_with fail
      refine (iSetSize_c _ _ _ _ sn).mono ?_
      rintro e w20 ⟨rfl, b20⟩
      replace sa := sa.below b20
      replace sb := sb.below b20
      replace sj := sj.below b20
      replace sm := sm.below b20
      replace sn := sn.below b20
      have B20 := Lib.hid (below_then B19.out b20)
      clear b20 B19
      rw [← hp1.out]
      go_wp2_with fail
      refine (iSetSize_c _ _ _ _ sa).mono ?_
      rintro e w21 ⟨rfl, b21⟩
      replace sa := sa.below b21
      replace sb := sb.below b21
      replace sj := sj.below b21
      replace sm := sm.below b21
      replace sn := sn.below b21
      have B21 := Lib.hid (below_then B20.out b21)
      clear b21 B20
      rw [← hp2.out]
      go_wp2_with fail
      refine (iSetSize_c _ _ _ _ sj).mono ?_
      rintro e w22 ⟨rfl, b22⟩
      replace sa := sa.below b22
      replace sb := sb.below b22
      replace sj := sj.below b22
      replace sm := sm.below b22
      replace sn := sn.below b22
      have B22 := Lib.hid (below_then B21.out b22)
      clear b22 B21
      rw [← hp3.out]
      go_wp2_with fail
      refine (iSetSize_c _ _ _ _ sm).mono ?_
      rintro e w23 ⟨rfl, b23⟩
      replace sa := sa.below b23
      replace sb := sb.below b23
      replace sj := sj.below b23
      replace sm := sm.below b23
      replace sn := sn.below b23
      have B23 := Lib.hid (below_then B22.out b23)
      clear b23 B22
      rw [← hp4.out]
      go_wp2_with fail
      refine (iSetSize_c _ _ _ _ sa).mono ?_
      rintro e w24 ⟨rfl, b24⟩
      replace sa := sa.below b24
      replace sb := sb.below b24
      replace sj := sj.below b24
      replace sm := sm.below b24
      replace sn := sn.below b24
      have B24 := Lib.hid (below_then B23.out b24)
      clear b24 B23
      rw [← hp2.out]
      go_wp2_with fail
      refine (iSetSize_c _ _ _ _ sb).mono ?_
      rintro e w25 ⟨rfl, b25⟩
      replace sa := sa.below b25
      replace sb := sb.below b25
      replace sj := sj.below b25
      replace sm := sm.below b25
      replace sn := sn.below b25
      have B25 := Lib.hid (below_then B24.out b25)
      clear b25 B24
      rw [← hp5.out]
      go_wp2
      go_ret
      exact ⟨rfl, below_then B14.out B25.out⟩
    have HAo : Hid (i < 0 ∨ 255 < i → setHas xs i = false) := fun h => has_out OKA.out h
    have HBo : Hid (i < 0 ∨ 255 < i → setHas ys i = false) := fun h => has_out OKB.out h
    by_cases hin : 0 ≤ i ∧ i ≤ 255
    · have dlo : decide (0 ≤ i) = true := decide_eq_true hin.1
      have dhi : decide (i ≤ 255) = true := decide_eq_true hin.2
      have hin1 := hin.1
      have hin2 := hin.2
      clear hin
      by_cases hp : setHas xs i = true
      · have HP : Hid (setHas xs i = true) := by show _ = _; simpa using hp
        clear hp
        by_cases hq : setHas ys i = true
        · have HQ : Hid (setHas ys i = true) := by show _ = _; simpa using hq
          clear hq
          have HJ : Hid (setHas (setJoin xs ys) i = true) := by show _ = _; rw [has_join OKA.out OKB.out, HP.out, HQ.out]; rfl
          have HM : Hid (setHas (setMeet xs ys) i = true) := by show _ = _; rw [has_meet OKA.out OKB.out, HP.out, HQ.out]; rfl
          have HN : Hid (setHas (setNot xs) i = false) := by show _ = _; rw [has_not OKA.out, HP.out, dlo, dhi]; rfl
          have hd0 : 0 ≤ i ↔ decide (0 ≤ i) = true := by simp
          have hd1 : i ≤ 255 ↔ decide (i ≤ 255) = true := by simp
          clear hd0 hd1
          go_wp2_with fail
          refine (iSetHas_c _ _ _ _ _ sa).mono ?_
          rintro e w26 ⟨rfl, b26⟩
          replace sa := sa.below b26
          replace sb := sb.below b26
          replace sj := sj.below b26
          replace sm := sm.below b26
          replace sn := sn.below b26
          have B26 := Lib.hid (below_then HB.out b26)
          clear b26 HB
          rw [HP.out]
          go_wp2_with fail
          refine (iSetHas_c _ _ _ _ _ sb).mono ?_
          rintro e w27 ⟨rfl, b27⟩
          replace sa := sa.below b27
          replace sb := sb.below b27
          replace sj := sj.below b27
          replace sm := sm.below b27
          replace sn := sn.below b27
          have B27 := Lib.hid (below_then B26.out b27)
          clear b27 B26
          rw [HQ.out]
          go_wp2_with fail
          refine (sSetHas_c _ _ _ _ _ sa).mono ?_
          rintro e w28 ⟨rfl, d28⟩
          have b28 := d28.below
          clear d28
          replace sa := sa.below b28
          replace sb := sb.below b28
          replace sj := sj.below b28
          replace sm := sm.below b28
          replace sn := sn.below b28
          have B28 := Lib.hid (below_then B27.out b28)
          clear b28 B27
          rw [HP.out]
          go_wp2_with fail
          refine (iSetHas_c _ _ _ _ _ sj).mono ?_
          rintro e w29 ⟨rfl, b29⟩
          replace sa := sa.below b29
          replace sb := sb.below b29
          replace sj := sj.below b29
          replace sm := sm.below b29
          replace sn := sn.below b29
          have B29 := Lib.hid (below_then B28.out b29)
          clear b29 B28
          rw [HJ.out]
          go_wp2_with fail
          refine (iSetHas_c _ _ _ _ _ sm).mono ?_
          rintro e w30 ⟨rfl, b30⟩
          replace sa := sa.below b30
          replace sb := sb.below b30
          replace sj := sj.below b30
          replace sm := sm.below b30
          replace sn := sn.below b30
          have B30 := Lib.hid (below_then B29.out b30)
          clear b30 B29
          rw [HM.out]
          go_wp2_with fail
          refine (iSetHas_c _ _ _ _ _ sn).mono ?_
          rintro e w31 ⟨rfl, b31⟩
          replace sa := sa.below b31
          replace sb := sb.below b31
          replace sj := sj.below b31
          replace sm := sm.below b31
          replace sn := sn.below b31
          have B31 := Lib.hid (below_then B30.out b31)
          clear b31 B30
          rw [HN.out]
          go_wp2
          go_roundg (gk - 1)
          case rel => exact ⟨i + 1, by go_num, by have := hi.out; show _ = _; omega, by omega, B31.out⟩
          case measure => have := hi.out; omega
        · have HQ : Hid (setHas ys i = false) := by show _ = _; simpa using hq
          clear hq
          have HJ : Hid (setHas (setJoin xs ys) i = true) := by show _ = _; rw [has_join OKA.out OKB.out, HP.out, HQ.out]; rfl
          have HM : Hid (setHas (setMeet xs ys) i = false) := by show _ = _; rw [has_meet OKA.out OKB.out, HP.out, HQ.out]; rfl
          have HN : Hid (setHas (setNot xs) i = false) := by show _ = _; rw [has_not OKA.out, HP.out, dlo, dhi]; rfl
          have hd0 : 0 ≤ i ↔ decide (0 ≤ i) = true := by simp
          have hd1 : i ≤ 255 ↔ decide (i ≤ 255) = true := by simp
          clear hd0 hd1
          go_wp2_with fail
          refine (iSetHas_c _ _ _ _ _ sa).mono ?_
          rintro e w32 ⟨rfl, b32⟩
          replace sa := sa.below b32
          replace sb := sb.below b32
          replace sj := sj.below b32
          replace sm := sm.below b32
          replace sn := sn.below b32
          have B32 := Lib.hid (below_then HB.out b32)
          clear b32 HB
          rw [HP.out]
          go_wp2_with fail
          refine (iSetHas_c _ _ _ _ _ sb).mono ?_
          rintro e w33 ⟨rfl, b33⟩
          replace sa := sa.below b33
          replace sb := sb.below b33
          replace sj := sj.below b33
          replace sm := sm.below b33
          replace sn := sn.below b33
          have B33 := Lib.hid (below_then B32.out b33)
          clear b33 B32
          rw [HQ.out]
          go_wp2_with fail
          refine (sSetHas_c _ _ _ _ _ sa).mono ?_
          rintro e w34 ⟨rfl, d34⟩
          have b34 := d34.below
          clear d34
          replace sa := sa.below b34
          replace sb := sb.below b34
          replace sj := sj.below b34
          replace sm := sm.below b34
          replace sn := sn.below b34
          have B34 := Lib.hid (below_then B33.out b34)
          clear b34 B33
          rw [HP.out]
          go_wp2_with fail
          refine (iSetHas_c _ _ _ _ _ sj).mono ?_
          rintro e w35 ⟨rfl, b35⟩
          replace sa := sa.below b35
          replace sb := sb.below b35
          replace sj := sj.below b35
          replace sm := sm.below b35
          replace sn := sn.below b35
          have B35 := Lib.hid (below_then B34.out b35)
          clear b35 B34
          rw [HJ.out]
          go_wp2_with fail
          refine (iSetHas_c _ _ _ _ _ sm).mono ?_
          rintro e w36 ⟨rfl, b36⟩
          replace sa := sa.below b36
          replace sb := sb.below b36
          replace sj := sj.below b36
          replace sm := sm.below b36
          replace sn := sn.below b36
          have B36 := Lib.hid (below_then B35.out b36)
          clear b36 B35
          rw [HM.out]
          go_wp2_with fail
          refine (iSetHas_c _ _ _ _ _ sn).mono ?_
          rintro e w37 ⟨rfl, b37⟩
          replace sa := sa.below b37
          replace sb := sb.below b37
          replace sj := sj.below b37
          replace sm := sm.below b37
          replace sn := sn.below b37
          have B37 := Lib.hid (below_then B36.out b37)
          clear b37 B36
          rw [HN.out]
          go_wp2
          go_roundg (gk - 1)
          case rel => exact ⟨i + 1, by go_num, by have := hi.out; show _ = _; omega, by omega, B37.out⟩
          case measure => have := hi.out; omega
      · have HP : Hid (setHas xs i = false) := by show _ = _; simpa using hp
        clear hp
        by_cases hq : setHas ys i = true
        · have HQ : Hid (setHas ys i = true) := by show _ = _; simpa using hq
          clear hq
          have HJ : Hid (setHas (setJoin xs ys) i = true) := by show _ = _; rw [has_join OKA.out OKB.out, HP.out, HQ.out]; rfl
          have HM : Hid (setHas (setMeet xs ys) i = false) := by show _ = _; rw [has_meet OKA.out OKB.out, HP.out, HQ.out]; rfl
          have HN : Hid (setHas (setNot xs) i = true) := by show _ = _; rw [has_not OKA.out, HP.out, dlo, dhi]; rfl
          have hd0 : 0 ≤ i ↔ decide (0 ≤ i) = true := by simp
          have hd1 : i ≤ 255 ↔ decide (i ≤ 255) = true := by simp
          clear hd0 hd1
          go_wp2_with fail
          refine (iSetHas_c _ _ _ _ _ sa).mono ?_
          rintro e w38 ⟨rfl, b38⟩
          replace sa := sa.below b38
          replace sb := sb.below b38
          replace sj := sj.below b38
          replace sm := sm.below b38
          replace sn := sn.below b38
          have B38 := Lib.hid (below_then HB.out b38)
          clear b38 HB
          rw [HP.out]
          go_wp2_with fail
          refine (iSetHas_c _ _ _ _ _ sb).mono ?_
          rintro e w39 ⟨rfl, b39⟩
          replace sa := sa.below b39
          replace sb := sb.below b39
          replace sj := sj.below b39
          replace sm := sm.below b39
          replace sn := sn.below b39
          have B39 := Lib.hid (below_then B38.out b39)
          clear b39 B38
          rw [HQ.out]
          go_wp2_with fail
          refine (sSetHas_c _ _ _ _ _ sa).mono ?_
          rintro e w40 ⟨rfl, d40⟩
          have b40 := d40.below
          clear d40
          replace sa := sa.below b40
          replace sb := sb.below b40
          replace sj := sj.below b40
          replace sm := sm.below b40
          replace sn := sn.below b40
          have B40 := Lib.hid (below_then B39.out b40)
          clear b40 B39
          rw [HP.out]
          go_wp2_with fail
          refine (iSetHas_c _ _ _ _ _ sj).mono ?_
          rintro e w41 ⟨rfl, b41⟩
          replace sa := sa.below b41
          replace sb := sb.below b41
          replace sj := sj.below b41
          replace sm := sm.below b41
          replace sn := sn.below b41
          have B41 := Lib.hid (below_then B40.out b41)
          clear b41 B40
          rw [HJ.out]
          go_wp2_with fail
          refine (iSetHas_c _ _ _ _ _ sm).mono ?_
          rintro e w42 ⟨rfl, b42⟩
          replace sa := sa.below b42
          replace sb := sb.below b42
          replace sj := sj.below b42
          replace sm := sm.below b42
          replace sn := sn.below b42
          have B42 := Lib.hid (below_then B41.out b42)
          clear b42 B41
          rw [HM.out]
          go_wp2_with fail
          refine (iSetHas_c _ _ _ _ _ sn).mono ?_
          rintro e w43 ⟨rfl, b43⟩
          replace sa := sa.below b43
          replace sb := sb.below b43
          replace sj := sj.below b43
          replace sm := sm.below b43
          replace sn := sn.below b43
          have B43 := Lib.hid (below_then B42.out b43)
          clear b43 B42
          rw [HN.out]
          go_wp2
          go_roundg (gk - 1)
          case rel => exact ⟨i + 1, by go_num, by have := hi.out; show _ = _; omega, by omega, B43.out⟩
          case measure => have := hi.out; omega
        · have HQ : Hid (setHas ys i = false) := by show _ = _; simpa using hq
          clear hq
          have HJ : Hid (setHas (setJoin xs ys) i = false) := by show _ = _; rw [has_join OKA.out OKB.out, HP.out, HQ.out]; rfl
          have HM : Hid (setHas (setMeet xs ys) i = false) := by show _ = _; rw [has_meet OKA.out OKB.out, HP.out, HQ.out]; rfl
          have HN : Hid (setHas (setNot xs) i = true) := by show _ = _; rw [has_not OKA.out, HP.out, dlo, dhi]; rfl
          have hd0 : 0 ≤ i ↔ decide (0 ≤ i) = true := by simp
          have hd1 : i ≤ 255 ↔ decide (i ≤ 255) = true := by simp
          clear hd0 hd1
          go_wp2_with fail
          refine (iSetHas_c _ _ _ _ _ sa).mono ?_
          rintro e w44 ⟨rfl, b44⟩
          replace sa := sa.below b44
          replace sb := sb.below b44
          replace sj := sj.below b44
          replace sm := sm.below b44
          replace sn := sn.below b44
          have B44 := Lib.hid (below_then HB.out b44)
          clear b44 HB
          rw [HP.out]
          go_wp2_with fail
          refine (iSetHas_c _ _ _ _ _ sb).mono ?_
          rintro e w45 ⟨rfl, b45⟩
          replace sa := sa.below b45
          replace sb := sb.below b45
          replace sj := sj.below b45
          replace sm := sm.below b45
          replace sn := sn.below b45
          have B45 := Lib.hid (below_then B44.out b45)
          clear b45 B44
          rw [HQ.out]
          go_wp2_with fail
          refine (sSetHas_c _ _ _ _ _ sa).mono ?_
          rintro e w46 ⟨rfl, d46⟩
          have b46 := d46.below
          clear d46
          replace sa := sa.below b46
          replace sb := sb.below b46
          replace sj := sj.below b46
          replace sm := sm.below b46
          replace sn := sn.below b46
          have B46 := Lib.hid (below_then B45.out b46)
          clear b46 B45
          rw [HP.out]
          go_wp2_with fail
          refine (iSetHas_c _ _ _ _ _ sj).mono ?_
          rintro e w47 ⟨rfl, b47⟩
          replace sa := sa.below b47
          replace sb := sb.below b47
          replace sj := sj.below b47
          replace sm := sm.below b47
          replace sn := sn.below b47
          have B47 := Lib.hid (below_then B46.out b47)
          clear b47 B46
          rw [HJ.out]
          go_wp2_with fail
          refine (iSetHas_c _ _ _ _ _ sm).mono ?_
          rintro e w48 ⟨rfl, b48⟩
          replace sa := sa.below b48
          replace sb := sb.below b48
          replace sj := sj.below b48
          replace sm := sm.below b48
          replace sn := sn.below b48
          have B48 := Lib.hid (below_then B47.out b48)
          clear b48 B47
          rw [HM.out]
          go_wp2_with fail
          refine (iSetHas_c _ _ _ _ _ sn).mono ?_
          rintro e w49 ⟨rfl, b49⟩
          replace sa := sa.below b49
          replace sb := sb.below b49
          replace sj := sj.below b49
          replace sm := sm.below b49
          replace sn := sn.below b49
          have B49 := Lib.hid (below_then B48.out b49)
          clear b49 B48
          rw [HN.out]
          go_wp2
          go_roundg (gk - 1)
          case rel => exact ⟨i + 1, by go_num, by have := hi.out; show _ = _; omega, by omega, B49.out⟩
          case measure => have := hi.out; omega
    · have HP : Hid (setHas xs i = false) := HAo.out (by omega)
      have HQ : Hid (setHas ys i = false) := HBo.out (by omega)
      by_cases hlo : 0 ≤ i
      · have dlo : decide (0 ≤ i) = true := decide_eq_true hlo
        have hhi : ¬ i ≤ 255 := by omega
        have dhi : decide (i ≤ 255) = false := decide_eq_false hhi
        clear hin
        have HJ : Hid (setHas (setJoin xs ys) i = false) := by show _ = _; rw [has_join OKA.out OKB.out, HP.out, HQ.out]; rfl
        have HM : Hid (setHas (setMeet xs ys) i = false) := by show _ = _; rw [has_meet OKA.out OKB.out, HP.out, HQ.out]; rfl
        have HN : Hid (setHas (setNot xs) i = false) := by show _ = _; rw [has_not OKA.out, HP.out, dlo, dhi]; rfl
        have hd0 : 0 ≤ i ↔ decide (0 ≤ i) = true := by simp
        have hd1 : i ≤ 255 ↔ decide (i ≤ 255) = true := by simp
        clear hd0 hd1
        go_wp2_with fail
        refine (iSetHas_c _ _ _ _ _ sa).mono ?_
        rintro e w50 ⟨rfl, b50⟩
        replace sa := sa.below b50
        replace sb := sb.below b50
        replace sj := sj.below b50
        replace sm := sm.below b50
        replace sn := sn.below b50
        have B50 := Lib.hid (below_then HB.out b50)
        clear b50 HB
        rw [HP.out]
        go_wp2_with fail
        refine (iSetHas_c _ _ _ _ _ sb).mono ?_
        rintro e w51 ⟨rfl, b51⟩
        replace sa := sa.below b51
        replace sb := sb.below b51
        replace sj := sj.below b51
        replace sm := sm.below b51
        replace sn := sn.below b51
        have B51 := Lib.hid (below_then B50.out b51)
        clear b51 B50
        rw [HQ.out]
        go_wp2_with fail
        refine (sSetHas_c _ _ _ _ _ sa).mono ?_
        rintro e w52 ⟨rfl, d52⟩
        have b52 := d52.below
        clear d52
        replace sa := sa.below b52
        replace sb := sb.below b52
        replace sj := sj.below b52
        replace sm := sm.below b52
        replace sn := sn.below b52
        have B52 := Lib.hid (below_then B51.out b52)
        clear b52 B51
        rw [HP.out]
        go_wp2_with fail
        refine (iSetHas_c _ _ _ _ _ sj).mono ?_
        rintro e w53 ⟨rfl, b53⟩
        replace sa := sa.below b53
        replace sb := sb.below b53
        replace sj := sj.below b53
        replace sm := sm.below b53
        replace sn := sn.below b53
        have B53 := Lib.hid (below_then B52.out b53)
        clear b53 B52
        rw [HJ.out]
        go_wp2_with fail
        refine (iSetHas_c _ _ _ _ _ sm).mono ?_
        rintro e w54 ⟨rfl, b54⟩
        replace sa := sa.below b54
        replace sb := sb.below b54
        replace sj := sj.below b54
        replace sm := sm.below b54
        replace sn := sn.below b54
        have B54 := Lib.hid (below_then B53.out b54)
        clear b54 B53
        rw [HM.out]
        go_wp2_with fail
        refine (iSetHas_c _ _ _ _ _ sn).mono ?_
        rintro e w55 ⟨rfl, b55⟩
        replace sa := sa.below b55
        replace sb := sb.below b55
        replace sj := sj.below b55
        replace sm := sm.below b55
        replace sn := sn.below b55
        have B55 := Lib.hid (below_then B54.out b55)
        clear b55 B54
        rw [HN.out]
        go_wp2
        go_roundg (gk - 1)
        case rel => exact ⟨i + 1, by go_num, by have := hi.out; show _ = _; omega, by omega, B55.out⟩
        case measure => have := hi.out; omega
      · have dlo : decide (0 ≤ i) = false := decide_eq_false hlo
        have hhi : i ≤ 255 := by omega
        have dhi : decide (i ≤ 255) = true := decide_eq_true hhi
        clear hin
        have HJ : Hid (setHas (setJoin xs ys) i = false) := by show _ = _; rw [has_join OKA.out OKB.out, HP.out, HQ.out]; rfl
        have HM : Hid (setHas (setMeet xs ys) i = false) := by show _ = _; rw [has_meet OKA.out OKB.out, HP.out, HQ.out]; rfl
        have HN : Hid (setHas (setNot xs) i = false) := by show _ = _; rw [has_not OKA.out, HP.out, dlo, dhi]; rfl
        have hd0 : 0 ≤ i ↔ decide (0 ≤ i) = true := by simp
        have hd1 : i ≤ 255 ↔ decide (i ≤ 255) = true := by simp
        clear hd0 hd1
        go_wp2_with fail
        refine (iSetHas_c _ _ _ _ _ sa).mono ?_
        rintro e w56 ⟨rfl, b56⟩
        replace sa := sa.below b56
        replace sb := sb.below b56
        replace sj := sj.below b56
        replace sm := sm.below b56
        replace sn := sn.below b56
        have B56 := Lib.hid (below_then HB.out b56)
        clear b56 HB
        rw [HP.out]
        go_wp2_with fail
        refine (iSetHas_c _ _ _ _ _ sb).mono ?_
        rintro e w57 ⟨rfl, b57⟩
        replace sa := sa.below b57
        replace sb := sb.below b57
        replace sj := sj.below b57
        replace sm := sm.below b57
        replace sn := sn.below b57
        have B57 := Lib.hid (below_then B56.out b57)
        clear b57 B56
        rw [HQ.out]
        go_wp2_with fail
        refine (sSetHas_c _ _ _ _ _ sa).mono ?_
        rintro e w58 ⟨rfl, d58⟩
        have b58 := d58.below
        clear d58
        replace sa := sa.below b58
        replace sb := sb.below b58
        replace sj := sj.below b58
        replace sm := sm.below b58
        replace sn := sn.below b58
        have B58 := Lib.hid (below_then B57.out b58)
        clear b58 B57
        rw [HP.out]
        go_wp2_with fail
        refine (iSetHas_c _ _ _ _ _ sj).mono ?_
        rintro e w59 ⟨rfl, b59⟩
        replace sa := sa.below b59
        replace sb := sb.below b59
        replace sj := sj.below b59
        replace sm := sm.below b59
        replace sn := sn.below b59
        have B59 := Lib.hid (below_then B58.out b59)
        clear b59 B58
        rw [HJ.out]
        go_wp2_with fail
        refine (iSetHas_c _ _ _ _ _ sm).mono ?_
        rintro e w60 ⟨rfl, b60⟩
        replace sa := sa.below b60
        replace sb := sb.below b60
        replace sj := sj.below b60
        replace sm := sm.below b60
        replace sn := sn.below b60
        have B60 := Lib.hid (below_then B59.out b60)
        clear b60 B59
        rw [HM.out]
        go_wp2_with fail
        refine (iSetHas_c _ _ _ _ _ sn).mono ?_
        rintro e w61 ⟨rfl, b61⟩
        replace sa := sa.below b61
        replace sb := sb.below b61
        replace sj := sj.below b61
        replace sm := sm.below b61
        replace sn := sn.below b61
        have B61 := Lib.hid (below_then B60.out b61)
        clear b61 B60
        rw [HN.out]
        go_wp2
        go_roundg (gk - 1)
        case rel => exact ⟨i + 1, by go_num, by have := hi.out; show _ = _; omega, by omega, B61.out⟩
        case measure => have := hi.out; omega

end Go.Proofs.Ytjnhmoinehffiaa
