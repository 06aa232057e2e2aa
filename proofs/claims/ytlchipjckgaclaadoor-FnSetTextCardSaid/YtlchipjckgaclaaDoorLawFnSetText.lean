/- The law FnSetText: sets have one canonical text. -/
import Derived.Test.YtlchipjckgaclaaDoorDr4
import Derived.Test.YtlchipjckgaclaaDoorSu
import Derived.Test.YtlchipjckgaclaaDoorG11
import Derived.Test.YtlchipjckgaclaaDoorW4i
import Derived.Test.YtlchipjckgaclaaDoorW4s
import Derived.Test.YtlchipjckgaclaaDoorG1
namespace Go.Proofs.YtlchipjckgaclaaDoor
set_option linter.unusedSimpArgs false
set_option linter.unusedVariables false
set_option maxRecDepth 100000
open Go.RowKit

/-- below k the two hold the same bytes -/
def allTo (xs ys : List Sp) (k : Nat) : Bool := (List.range k).all fun i => setHas xs (i : Int) == setHas ys (i : Int)
theorem allTo_succ (xs ys : List Sp) (k : Nat) : allTo xs ys (k + 1) = (allTo xs ys k && (setHas xs (k : Int) == setHas ys (k : Int))) := by
  unfold allTo
  rw [List.range_succ, List.all_append]
  simp
theorem all_same {xs ys : List Sp} (hx : setOk xs = true) (hy : setOk ys = true) : allTo xs ys 256 = decide (xs = ys) := by
  by_cases h : xs = ys
  · rw [decide_eq_true h, h]
    unfold allTo
    simp
  · rw [decide_eq_false h]
    cases hb : allTo xs ys 256 with
    | false => rfl
    | true =>
      exfalso
      refine h ?_
      rw [← spans_self hx, ← spans_self hy]
      refine spansOf_congr fun k hk => ?_
      unfold allTo at hb
      have := List.all_eq_true.1 hb k (List.mem_range.2 hk)
      simpa using this

set_option maxRecDepth 100000 in
set_option maxHeartbeats 8000000 in
theorem lawSetText_c (A0 D0 : Option Addr) (c0 e0 : Nat) (us bs : List Int) (w : World) (h0 : Bys w 0 A0 c0 us) (h1 : Bys w 0 D0 e0 bs) (hp : Pow10 w) (hm : MaxL w) :
    Calls Tryd.prog 7 #[.slice A0 us.length c0, .slice D0 bs.length e0] w fun e w' => e = .returned (.bool true) ∧ Below w.heap.size w w' := by
  have HP := Lib.hid hp
  have HM := Lib.hid hm
  have HA := Lib.hid h0
  have HD := Lib.hid h1
  clear hp hm h0 h1
  go_enter Tryd.func7, Tryd.ntmps7
  by_cases hb0 : 1048576 < us.length
  · have d0 : (1048576 : Int) < (us.length : Int) := by omega
    go_wp2_with fail
    go_ret
    exact ⟨rfl, Below.refl _ _⟩
  have d0 : ¬ (1048576 : Int) < (us.length : Int) := by omega
  by_cases hb1 : 1048576 < bs.length
  · have d1 : (1048576 : Int) < (bs.length : Int) := by omega
    go_wp2_with fail
    go_ret
    exact ⟨rfl, Below.refl _ _⟩
  have d1 : ¬ (1048576 : Int) < (bs.length : Int) := by omega
  clear hb0 hb1
  go_wp2_with fail
  clear d0 d1
  refine (drawSetSame_r _ _ _ _ HA.out).mono ?_
  rintro e w1 ⟨xs, ys, v, u, rfl, o1, o2, r1, r2, b1⟩
  obtain ⟨A1, c1, rfl, sa⟩ := o1.sps
  obtain ⟨A2, c2, rfl, sb⟩ := o2.sps
  have SA := Lib.hid sa
  have SB := Lib.hid sb
  have X64 := Lib.hid r1.sp64
  have hxl := r1.len
  have hyl := r2.len
  have B1 := Lib.hid b1
  clear o1 o2 sa sb r1 r2 b1
  go_wp2_with fail
  refine (iSetText_c _ _ _ w1 SA.out X64.out (by omega) (HP.out.below B1.out)).mono ?_
  rintro e w2 ⟨rfl, b2⟩
  replace SA := Lib.hid (SA.out.below (b2))
  replace SB := Lib.hid (SB.out.below (b2))
  have B2 := Lib.hid (below_then B1.out (b2))
  clear B1
  obtain ⟨T, hT⟩ : ∃ T, T = str (setTxt xs) := ⟨_, rfl⟩
  have hTz : T.size ≤ 1048576 := by
    rw [hT, str_size]
    unfold setTxt
    split
    · simp
    · have := acc_len xs X64.out xs.length (Nat.le_refl _)
      rw [List.take_length] at this
      omega
  have HT := Lib.hid hT
  have HRT : Hid (readSet T.data.toList = if setOk xs = true then some xs else none) := by show _ = _; rw [hT, str_data, readSet_any]
  rw [← hT]
  clear hT b2
  go_wp2_with fail
  refine (iSetRead_c T w2 hTz (HP.out.below B2.out) (HM.out.below B2.out)).mono ?_
  rintro e w3 ⟨A3, c3, rfl, o3, b3⟩
  rw [HRT.out] at o3 ⊢
  replace SA := Lib.hid (SA.out.below (b3))
  replace SB := Lib.hid (SB.out.below (b3))
  have B3 := Lib.hid (below_then B2.out (b3))
  clear B2
  clear b3
  obtain ⟨ok, hok⟩ : ∃ b, b = setOk xs := ⟨_, rfl⟩
  have HOK := Lib.hid hok
  rw [← hok] at o3 ⊢
  clear hok
  have HRES : Hid (∃ (A : Option Addr) (c : Nat) (zs : List Sp), readV (if ok = true then some xs else none) A3 c3 = .tuple #[.slice A zs.length c, .bool ok] ∧ Sps w3 0 A c zs ∧ (ok = true → zs = xs)) := by
    obtain ⟨A, c, e, sp⟩ := o3.sps
    cases ok with
    | true =>
      rw [if_pos rfl] at e sp
      injection e with e1 e2 e3
      exact ⟨A3, c3, xs, rfl, by rw [e1, e3]; exact sp.lower (Nat.zero_le _), fun _ => rfl⟩
    | false =>
      rw [if_neg (by decide)] at e sp
      injection e with e1 e2 e3
      exact ⟨A3, c3, [], rfl, by rw [e1, e3]; exact sp.lower (Nat.zero_le _), fun h => by cases h⟩
  obtain ⟨AR, cR, zs, eR, sR, hR⟩ := HRES.out
  rw [eR]
  have SR := Lib.hid sR
  have HR := Lib.hid hR
  clear eR sR hR HRES o3
  go_wp2_with fail
  refine (sSetText_c _ _ _ w3 SA.out X64.out (by omega)).mono ?_
  rintro e w4 ⟨rfl, b4⟩
  rw [← HT.out]
  replace SR := Lib.hid (SR.out.below b4)
  replace SA := Lib.hid (SA.out.below (b4))
  replace SB := Lib.hid (SB.out.below (b4))
  have B4 := Lib.hid (below_then B3.out (b4))
  clear B3
  clear b4
  go_wp2_with fail
  refine (sSetOk_c _ _ _ _ SA.out).mono ?_
  rintro e w5 ⟨rfl, dr5⟩
  have b5 := dr5.below
  rw [← HOK.out]
  replace SR := Lib.hid (SR.out.below b5)
  replace SA := Lib.hid (SA.out.below (b5))
  replace SB := Lib.hid (SB.out.below (b5))
  have B5 := Lib.hid (below_then B4.out (b5))
  clear B4
  clear b5 dr5
  have hT2 : ∀ e : (T.toList == T.toList) = true, True := fun _ => trivial
  clear hT2
  by_cases hk : ok = true
  · subst hk
    obtain rfl := HR.out rfl
    clear HR
    go_wp2_with fail
    refine (iSetSame_c _ _ _ _ _ _ w5 SR.out SA.out).mono ?_
    rintro e w6 ⟨rfl, dr6⟩
    have b6 := dr6.below
    rw [decide_eq_true (rfl : zs = zs)]
    replace SA := Lib.hid (SA.out.below (b6))
    replace SB := Lib.hid (SB.out.below (b6))
    have B6 := Lib.hid (below_then B5.out (b6))
    clear B5
    clear b6 dr6 SR
    go_wp2_with fail
    refine (iSetSame_c _ _ _ _ _ _ w6 SA.out SB.out).mono ?_
    rintro e w7 ⟨rfl, dr7⟩
    have b7 := dr7.below
    obtain ⟨sm, hsm⟩ : ∃ b, b = decide (zs = ys) := ⟨_, rfl⟩
    rw [← hsm]
    have HSM := Lib.hid hsm
    clear hsm
    replace SA := Lib.hid (SA.out.below (b7))
    replace SB := Lib.hid (SB.out.below (b7))
    have B7 := Lib.hid (below_then B6.out (b7))
    clear B6
    clear b7 dr7
    go_wp2_with fail
    refine (sSetSame_c _ _ _ _ _ _ w7 SA.out SB.out).mono ?_
    rintro e w8 ⟨rfl, dr8⟩
    have b8 := dr8.below
    rw [← HSM.out]
    replace SA := Lib.hid (SA.out.below (b8))
    replace SB := Lib.hid (SB.out.below (b8))
    have B8 := Lib.hid (below_then B7.out (b8))
    clear B7
    clear b8 dr8
    have hss : (sm == sm) = true := by simp
    go_wp2_with fail
    refine (drawSetRead_c _ _ _ _ (HD.out.below B8.out)).mono ?_
    rintro e w9 ⟨t, rfl, htz, b9⟩
    replace SA := Lib.hid (SA.out.below (b9))
    replace SB := Lib.hid (SB.out.below (b9))
    have B9 := Lib.hid (below_then B8.out (b9))
    clear B8
    clear b9
    go_wp2_with fail
    refine (iSetRead_c t w9 htz (HP.out.below B9.out) (HM.out.below B9.out)).mono ?_
    rintro e w10 ⟨A5, c5, rfl, o5, b10⟩
    replace SA := Lib.hid (SA.out.below (b10))
    replace SB := Lib.hid (SB.out.below (b10))
    have B10 := Lib.hid (below_then B9.out (b10))
    clear B9
    clear b10
    go_wp2_with fail
    refine (sSetRead_c t w10 htz).mono ?_
    rintro e w11 ⟨A6, c6, rfl, _, b11⟩
    replace o5 := o5.below b11
    replace SA := Lib.hid (SA.out.below (b11))
    replace SB := Lib.hid (SB.out.below (b11))
    have B11 := Lib.hid (below_then B10.out (b11))
    clear B10
    clear b11
    obtain ⟨ro, hro⟩ : ∃ o, o = readSet t.data.toList := ⟨_, rfl⟩
    rw [← hro] at o5 ⊢
    have HRO := Lib.hid hro
    have O5 := Lib.hid o5
    clear hro o5
    cases ro with
    | none =>
      go_wp2_with fail
      refine (sSetOk_c _ _ _ _ SA.out).mono ?_
      rintro e w14 ⟨rfl, dr14⟩
      rw [← HOK.out]
      have b14 := dr14.below
      replace SA := Lib.hid (SA.out.below b14)
      replace SB := Lib.hid (SB.out.below b14)
      have B14 := Lib.hid (below_then B11.out b14)
      clear dr14 b14
      go_wp2_with fail
      refine (sSetOk_c _ _ _ _ SB.out).mono ?_
      rintro e w15 ⟨rfl, dr15⟩
      have b15 := dr15.below
      replace SA := Lib.hid (SA.out.below (b15))
      replace SB := Lib.hid (SB.out.below (b15))
      have B15 := Lib.hid (below_then B14.out (b15))
      clear B14
      clear dr15 b15
      by_cases hoy : setOk ys = true
      · have HOY := Lib.hid hoy
        rw [hoy]
        clear hoy
        go_wp2_with fail
        go_loopg [15, 16] 256 (fun n v15 v16 wr => ∃ k : Nat, k + n = 256 ∧ v16 = .int .i64 k ∧ v15 = .bool (allTo zs ys k) ∧ Hid (Sps wr w.heap.size A1 c1 zs) ∧ Hid (Sps wr w.heap.size A2 c2 ys) ∧ Hid (Below w.heap.size w wr))
        case atStart => exact ⟨0, rfl, rfl, rfl, SA, SB, B15⟩
        case round =>
          clear SA SB B15
          obtain ⟨k, hk, rfl, rfl, SA, SB, B15⟩ := hrel
          by_cases hk2 : k < 256
          · have j0 : (k : Int) < 256 := by omega
            have HS := Lib.hid (allTo_succ zs ys k)
            cases hall : allTo zs ys k with
            | false =>
              rw [hall] at HS
              clear hall
              go_wp2_with fail
              go_roundg (gk - 1)
              case measure => omega
              case rel => exact ⟨k + 1, by omega, by go_num, by rw [HS.out]; rfl, SA, SB, B15⟩
            | true =>
              rw [hall] at HS
              clear hall
              go_wp2_with fail
              refine (iSetHas_c _ _ _ _ _ SA.out).mono ?_
              rintro e w16 ⟨rfl, b16⟩
              replace SA := Lib.hid (SA.out.below (b16))
              replace SB := Lib.hid (SB.out.below (b16))
              have B16 := Lib.hid (below_then B15.out (b16))
              clear B15
              clear b16
              obtain ⟨p1, hp1⟩ : ∃ b, b = setHas zs (k : Int) := ⟨_, rfl⟩
              rw [← hp1]
              rw [← hp1] at HS
              clear hp1
              go_wp2_with fail
              refine (iSetHas_c _ _ _ _ _ SB.out).mono ?_
              rintro e w17 ⟨rfl, b17⟩
              replace SA := Lib.hid (SA.out.below (b17))
              replace SB := Lib.hid (SB.out.below (b17))
              have B17 := Lib.hid (below_then B16.out (b17))
              clear B16
              clear b17
              obtain ⟨p2, hp2⟩ : ∃ b, b = setHas ys (k : Int) := ⟨_, rfl⟩
              rw [← hp2]
              rw [← hp2] at HS
              clear hp2
              go_wp2_with fail
              go_roundg (gk - 1)
              case measure => omega
              case rel => exact ⟨k + 1, by omega, by go_num, by rw [HS.out]; simp, SA, SB, B17⟩
          · obtain rfl : k = 256 := by omega
            have j0 : ¬ ((256 : Nat) : Int) < 256 := by omega
            rw [all_same HOK.out.symm HOY.out]
            go_wp2_with fail
            refine (iSetSame_c _ _ _ _ _ _ _ SA.out SB.out).mono ?_
            rintro e w18 ⟨rfl, dr18⟩
            have B18 := Lib.hid (below_then B15.out dr18.below)
            obtain ⟨q, hq⟩ : ∃ b, b = decide (zs = ys) := ⟨_, rfl⟩
            rw [← hq]
            clear hq dr18
            go_wp2_with fail
            go_ret
            exact ⟨ret_bool (by simp), B18.out⟩
      · rw [show setOk ys = false by simpa using hoy]
        clear hoy
        go_wp2_with fail
        go_ret
        exact ⟨rfl, B15.out⟩
    | some ks =>
      obtain ⟨AK, cK, eK, sK⟩ := OwnSp.sps (xs := ks) O5.out
      injection eK with eK1 eK2 eK3
      subst eK1 eK3
      obtain ⟨hk1, hk2⟩ := read_sound HRO.out.symm
      have SK := Lib.hid (show Sps w11 _ A5 c5 ks from sK)
      have K64 := Lib.hid (ok_64 hk1)
      have hkl := ok_len128 hk1
      have HK1 := Lib.hid hk1
      have HK2 : Hid (str (setTxt ks) = t) := by show _ = _; rw [hk2, str_of]
      clear hk1 hk2 sK
      go_wp2_with fail
      refine (iSetText_c A5 c5 ks w11 SK.out K64.out (by omega) (HP.out.below B11.out)).mono ?_
      rintro e w12 ⟨rfl, b12⟩
      rw [HK2.out]
      replace SK := Lib.hid (SK.out.below b12)
      replace SA := Lib.hid (SA.out.below (b12))
      replace SB := Lib.hid (SB.out.below (b12))
      have B12 := Lib.hid (below_then B11.out (b12))
      clear B11
      clear b12
      go_wp2_with fail
      refine (iSetOk_c _ _ _ _ SK.out).mono ?_
      rintro e w13 ⟨rfl, b13⟩
      rw [HK1.out]
      replace SA := Lib.hid (SA.out.below (b13))
      replace SB := Lib.hid (SB.out.below (b13))
      have B13 := Lib.hid (below_then B12.out (b13))
      clear B12
      clear b13
      go_wp2_with fail
      refine (sSetOk_c _ _ _ _ SA.out).mono ?_
      rintro e w14 ⟨rfl, dr14⟩
      rw [← HOK.out]
      have b14 := dr14.below
      replace SA := Lib.hid (SA.out.below b14)
      replace SB := Lib.hid (SB.out.below b14)
      have B14 := Lib.hid (below_then B13.out b14)
      clear dr14 b14
      go_wp2_with fail
      refine (sSetOk_c _ _ _ _ SB.out).mono ?_
      rintro e w15 ⟨rfl, dr15⟩
      have b15 := dr15.below
      replace SA := Lib.hid (SA.out.below (b15))
      replace SB := Lib.hid (SB.out.below (b15))
      have B15 := Lib.hid (below_then B14.out (b15))
      clear B14
      clear dr15 b15
      by_cases hoy : setOk ys = true
      · have HOY := Lib.hid hoy
        rw [hoy]
        clear hoy
        go_wp2_with fail
        go_loopg [15, 16] 256 (fun n v15 v16 wr => ∃ k : Nat, k + n = 256 ∧ v16 = .int .i64 k ∧ v15 = .bool (allTo zs ys k) ∧ Hid (Sps wr w.heap.size A1 c1 zs) ∧ Hid (Sps wr w.heap.size A2 c2 ys) ∧ Hid (Below w.heap.size w wr))
        case atStart => exact ⟨0, rfl, rfl, rfl, SA, SB, B15⟩
        case round =>
          clear SA SB B15
          obtain ⟨k, hk, rfl, rfl, SA, SB, B15⟩ := hrel
          by_cases hk2 : k < 256
          · have j0 : (k : Int) < 256 := by omega
            have HS := Lib.hid (allTo_succ zs ys k)
            cases hall : allTo zs ys k with
            | false =>
              rw [hall] at HS
              clear hall
              go_wp2_with fail
              go_roundg (gk - 1)
              case measure => omega
              case rel => exact ⟨k + 1, by omega, by go_num, by rw [HS.out]; rfl, SA, SB, B15⟩
            | true =>
              rw [hall] at HS
              clear hall
              go_wp2_with fail
              refine (iSetHas_c _ _ _ _ _ SA.out).mono ?_
              rintro e w16 ⟨rfl, b16⟩
              replace SA := Lib.hid (SA.out.below (b16))
              replace SB := Lib.hid (SB.out.below (b16))
              have B16 := Lib.hid (below_then B15.out (b16))
              clear B15
              clear b16
              obtain ⟨p1, hp1⟩ : ∃ b, b = setHas zs (k : Int) := ⟨_, rfl⟩
              rw [← hp1]
              rw [← hp1] at HS
              clear hp1
              go_wp2_with fail
              refine (iSetHas_c _ _ _ _ _ SB.out).mono ?_
              rintro e w17 ⟨rfl, b17⟩
              replace SA := Lib.hid (SA.out.below (b17))
              replace SB := Lib.hid (SB.out.below (b17))
              have B17 := Lib.hid (below_then B16.out (b17))
              clear B16
              clear b17
              obtain ⟨p2, hp2⟩ : ∃ b, b = setHas ys (k : Int) := ⟨_, rfl⟩
              rw [← hp2]
              rw [← hp2] at HS
              clear hp2
              go_wp2_with fail
              go_roundg (gk - 1)
              case measure => omega
              case rel => exact ⟨k + 1, by omega, by go_num, by rw [HS.out]; simp, SA, SB, B17⟩
          · obtain rfl : k = 256 := by omega
            have j0 : ¬ ((256 : Nat) : Int) < 256 := by omega
            rw [all_same HOK.out.symm HOY.out]
            go_wp2_with fail
            refine (iSetSame_c _ _ _ _ _ _ _ SA.out SB.out).mono ?_
            rintro e w18 ⟨rfl, dr18⟩
            have B18 := Lib.hid (below_then B15.out dr18.below)
            obtain ⟨q, hq⟩ : ∃ b, b = decide (zs = ys) := ⟨_, rfl⟩
            rw [← hq]
            clear hq dr18
            go_wp2_with fail
            go_ret
            exact ⟨ret_bool (by simp), B18.out⟩
      · rw [show setOk ys = false by simpa using hoy]
        clear hoy
        go_wp2_with fail
        go_ret
        exact ⟨rfl, B15.out⟩
  · obtain rfl : ok = false := by simpa using hk
    clear hk HR SR
    obtain ⟨w6, hw6⟩ : ∃ w6, w6 = w5 := ⟨_, rfl⟩
    rw [← hw6] at SA SB B5 ⊢
    have B6 := B5
    clear hw6 B5
    go_wp2_with fail
    refine (iSetSame_c _ _ _ _ _ _ w6 SA.out SB.out).mono ?_
    rintro e w7 ⟨rfl, dr7⟩
    have b7 := dr7.below
    obtain ⟨sm, hsm⟩ : ∃ b, b = decide (xs = ys) := ⟨_, rfl⟩
    rw [← hsm]
    have HSM := Lib.hid hsm
    clear hsm
    replace SA := Lib.hid (SA.out.below (b7))
    replace SB := Lib.hid (SB.out.below (b7))
    have B7 := Lib.hid (below_then B6.out (b7))
    clear B6
    clear b7 dr7
    go_wp2_with fail
    refine (sSetSame_c _ _ _ _ _ _ w7 SA.out SB.out).mono ?_
    rintro e w8 ⟨rfl, dr8⟩
    have b8 := dr8.below
    rw [← HSM.out]
    replace SA := Lib.hid (SA.out.below (b8))
    replace SB := Lib.hid (SB.out.below (b8))
    have B8 := Lib.hid (below_then B7.out (b8))
    clear B7
    clear b8 dr8
    have hss : (sm == sm) = true := by simp
    go_wp2_with fail
    refine (drawSetRead_c _ _ _ _ (HD.out.below B8.out)).mono ?_
    rintro e w9 ⟨t, rfl, htz, b9⟩
    replace SA := Lib.hid (SA.out.below (b9))
    replace SB := Lib.hid (SB.out.below (b9))
    have B9 := Lib.hid (below_then B8.out (b9))
    clear B8
    clear b9
    go_wp2_with fail
    refine (iSetRead_c t w9 htz (HP.out.below B9.out) (HM.out.below B9.out)).mono ?_
    rintro e w10 ⟨A5, c5, rfl, o5, b10⟩
    replace SA := Lib.hid (SA.out.below (b10))
    replace SB := Lib.hid (SB.out.below (b10))
    have B10 := Lib.hid (below_then B9.out (b10))
    clear B9
    clear b10
    go_wp2_with fail
    refine (sSetRead_c t w10 htz).mono ?_
    rintro e w11 ⟨A6, c6, rfl, _, b11⟩
    replace o5 := o5.below b11
    replace SA := Lib.hid (SA.out.below (b11))
    replace SB := Lib.hid (SB.out.below (b11))
    have B11 := Lib.hid (below_then B10.out (b11))
    clear B10
    clear b11
    obtain ⟨ro, hro⟩ : ∃ o, o = readSet t.data.toList := ⟨_, rfl⟩
    rw [← hro] at o5 ⊢
    have HRO := Lib.hid hro
    have O5 := Lib.hid o5
    clear hro o5
    cases ro with
    | none =>
      go_wp2_with fail
      refine (sSetOk_c _ _ _ _ SA.out).mono ?_
      rintro e w14 ⟨rfl, dr14⟩
      rw [← HOK.out]
      have B14 := Lib.hid (below_then B11.out dr14.below)
      clear dr14
      go_wp2_with fail
      go_ret
      exact ⟨rfl, B14.out⟩
    | some ks =>
      obtain ⟨AK, cK, eK, sK⟩ := OwnSp.sps (xs := ks) O5.out
      injection eK with eK1 eK2 eK3
      subst eK1 eK3
      obtain ⟨hk1, hk2⟩ := read_sound HRO.out.symm
      have SK := Lib.hid (show Sps w11 _ A5 c5 ks from sK)
      have K64 := Lib.hid (ok_64 hk1)
      have hkl := ok_len128 hk1
      have HK1 := Lib.hid hk1
      have HK2 : Hid (str (setTxt ks) = t) := by show _ = _; rw [hk2, str_of]
      clear hk1 hk2 sK
      go_wp2_with fail
      refine (iSetText_c A5 c5 ks w11 SK.out K64.out (by omega) (HP.out.below B11.out)).mono ?_
      rintro e w12 ⟨rfl, b12⟩
      rw [HK2.out]
      replace SK := Lib.hid (SK.out.below b12)
      replace SA := Lib.hid (SA.out.below (b12))
      replace SB := Lib.hid (SB.out.below (b12))
      have B12 := Lib.hid (below_then B11.out (b12))
      clear B11
      clear b12
      go_wp2_with fail
      refine (iSetOk_c _ _ _ _ SK.out).mono ?_
      rintro e w13 ⟨rfl, b13⟩
      rw [HK1.out]
      replace SA := Lib.hid (SA.out.below (b13))
      replace SB := Lib.hid (SB.out.below (b13))
      have B13 := Lib.hid (below_then B12.out (b13))
      clear B12
      clear b13
      go_wp2_with fail
      refine (sSetOk_c _ _ _ _ SA.out).mono ?_
      rintro e w14 ⟨rfl, dr14⟩
      rw [← HOK.out]
      have B14 := Lib.hid (below_then B13.out dr14.below)
      clear dr14
      go_wp2_with fail
      go_ret
      exact ⟨rfl, B14.out⟩

end Go.Proofs.YtlchipjckgaclaaDoor
