/- The law FnSetFirst. (Printed by wip/gen/setlaws.py.) -/
import Derived.Test.YtjnhmoinehffiaaDr2
import Derived.Test.YtjnhmoinehffiaaDraws
import Derived.Test.YtjnhmoinehffiaaW7
import Derived.Test.YtjnhmoinehffiaaW8
import Derived.Test.YtjnhmoinehffiaaW4
import Derived.Test.YtjnhmoinehffiaaSetLaws
namespace Go.Proofs.Ytjnhmoinehffiaa
set_option linter.unusedSimpArgs false
set_option linter.unusedVariables false
open Go.RowKit

theorem own_one (w : World) (a b : Int) : OwnSp (w.alloc (.cells #[.int .i64 a, .int .i64 b] TSp)) w.heap.size (.slice (some ⟨w.heap.size, 0, none⟩) 1 1) [⟨a, b⟩] :=
  ⟨own_of_blk (cs := [.int .i64 a, .int .i64 b]) (n := 1) (blk_new w #[.int .i64 a, .int .i64 b] TSp) (by simp) (Nat.le_refl _) (by decide), by simp [maxN]⟩

set_option maxRecDepth 100000 in
set_option maxHeartbeats 4000000 in
theorem lawFnSetFirst_c (A0 : Option Addr) (c0 : Nat) (bs0 : List Int) (w : World) (h0 : Bys w 0 A0 c0 bs0) :
    Calls Try.prog 4 #[.slice A0 bs0.length c0] w fun e w' => e = .returned (.bool true) ∧ Below w.heap.size w w' := by
  have hl0 := h0.len
  unfold maxN at hl0
  go_enter Try.func4, Try.ntmps4
  by_cases hb0 : (1048576 : Int) < bs0.length
  · go_wp2
    go_ret
    exact ⟨rfl, Below.refl _ _⟩
  clear hl0
  go_wp2_with fail
  refine (drawSetFirst_c _ _ _ _ h0).mono ?_
  rintro e w1 ⟨xs, va1, rfl, oa1, hx1, b1⟩
  obtain ⟨A1, c1, rfl, sa⟩ := oa1.sps
  clear oa1
  have B1 := Lib.hid b1
  clear b1
  clear hb0
  obtain ⟨n, hn⟩ : ∃ n, n = setFirst xs := ⟨_, rfl⟩
  obtain ⟨p, hp⟩ : ∃ p, p = setSize xs := ⟨_, rfl⟩
  have hz := size_zero xs
  have hs := setFirst_spec xs
  rw [← hn] at hz hs
  rw [← hp] at hz
  replace hn := Lib.hid hn
  replace hp := Lib.hid hp
  rcases hs with ⟨hs0, _⟩ | ⟨k, hs0, hk, hh, hb⟩
  · have hp0 : p = 0 := hz.2 (by omega)
    subst hs0 hp0
    clear hz
    go_wp2_with fail
    refine (iSetFirst_c _ _ _ _ sa).mono ?_
    rintro e w2 ⟨rfl, b2⟩
    replace sa := sa.below b2
    have B2 := Lib.hid (below_then B1.out b2)
    clear b2 B1
    rw [← hn.out]
    go_wp2_with fail
    refine (sSetFirst_c _ _ _ _ sa).mono ?_
    rintro e w3 ⟨rfl, d3⟩
    have b3 := d3.below
    clear d3
    replace sa := sa.below b3
    have B3 := Lib.hid (below_then B2.out b3)
    clear b3 B2
    rw [← hn.out]
    go_wp2_with fail
    refine (iSetSize_c _ _ _ _ sa).mono ?_
    rintro e w4 ⟨rfl, b4⟩
    replace sa := sa.below b4
    have B4 := Lib.hid (below_then B3.out b4)
    clear b4 B3
    rw [← hp.out]
    go_wp2_with fail
    refine (sSetSize_c _ _ _ _ sa).mono ?_
    rintro e w5 ⟨rfl, d5⟩
    have b5 := d5.below
    clear d5
    replace sa := sa.below b5
    have B5 := Lib.hid (below_then B4.out b5)
    clear b5 B4
    rw [← hp.out]
    go_wp2_with fail
    refine (iSetSize_c _ _ _ _ sa).mono ?_
    rintro e w6 ⟨rfl, b6⟩
    replace sa := sa.below b6
    have B6 := Lib.hid (below_then B5.out b6)
    clear b6 B5
    rw [← hp.out]
    go_wp2
    go_loopg [5] 0 (fun n v wr => v = .int .i64 0 ∧ Hid (Below w6.heap.size w6 wr))
    case atStart => exact ⟨rfl, Below.refl _ _⟩
    case round =>
      obtain ⟨rfl, HB⟩ := hrel
      go_wp2
      go_ret
      exact ⟨rfl, below_then B6.out HB.out⟩
  · have hp0 : ¬ p = 0 := fun e => by have := hz.1 e; omega
    have hpb : (p == 0) = false := by simp [hp0]
    subst hs0
    have HH := Lib.hid hh
    have HZ := Lib.hid hb
    clear hz hh hb
    go_wp2_with fail
    refine (iSetFirst_c _ _ _ _ sa).mono ?_
    rintro e w7 ⟨rfl, b7⟩
    replace sa := sa.below b7
    have B7 := Lib.hid (below_then B1.out b7)
    clear b7 B1
    rw [← hn.out]
    go_wp2_with fail
    refine (sSetFirst_c _ _ _ _ sa).mono ?_
    rintro e w8 ⟨rfl, d8⟩
    have b8 := d8.below
    clear d8
    replace sa := sa.below b8
    have B8 := Lib.hid (below_then B7.out b8)
    clear b8 B7
    rw [← hn.out]
    go_wp2_with fail
    refine (iSetSize_c _ _ _ _ sa).mono ?_
    rintro e w9 ⟨rfl, b9⟩
    replace sa := sa.below b9
    have B9 := Lib.hid (below_then B8.out b9)
    clear b9 B8
    rw [← hp.out]
    go_wp2_with fail
    refine (sSetSize_c _ _ _ _ sa).mono ?_
    rintro e w10 ⟨rfl, d10⟩
    have b10 := d10.below
    clear d10
    replace sa := sa.below b10
    have B10 := Lib.hid (below_then B9.out b10)
    clear b10 B9
    rw [← hp.out]
    go_wp2_with fail
    refine (iSetSize_c _ _ _ _ sa).mono ?_
    rintro e w11 ⟨rfl, b11⟩
    replace sa := sa.below b11
    have B11 := Lib.hid (below_then B10.out b11)
    clear b11 B10
    rw [← hp.out]
    go_wp2
    have SA := Lib.hid sa
    clear sa
    go_loopg [5] k (fun n v wr => ∃ j : Nat, v = .int .i64 j ∧ Hid (j + n = k) ∧ Hid (Below w11.heap.size w11 wr))
    case atStart => exact ⟨0, rfl, by show _ = _; omega, Below.refl _ _⟩
    case round =>
      obtain ⟨j, rfl, hj, HB⟩ := hrel
      have sa := SA.out.below HB.out
      by_cases hjk : j < k
      · have HF := Lib.hid (HZ.out j hjk)
        go_wp2_with fail
        refine (iSetHas_c _ _ _ _ _ sa).mono ?_
        rintro e w12 ⟨rfl, b12⟩
        replace sa := sa.below b12
        have B12 := Lib.hid (below_then HB.out b12)
        clear b12 HB
        rw [HF.out]
        go_wp2
        go_roundg (gk - 1)
        case rel => exact ⟨j + 1, by go_num, by have := hj.out; show _ = _; omega, B12.out⟩
        case measure => have := hj.out; omega
      · skip
        go_wp2_with fail
        refine (sSetOk_c _ _ _ _ sa).mono ?_
        rintro e w13 ⟨rfl, d13⟩
        have b13 := d13.below
        clear d13
        replace sa := sa.below b13
        have B13 := Lib.hid (below_then HB.out b13)
        clear b13 HB
        by_cases ok : setOk xs = true
        rotate_left
        · replace ok : setOk xs = false := by simpa using ok
          rw [ok]
          clear ok
          go_wp2
          go_ret
          exact ⟨rfl, below_then B11.out B13.out⟩
        have OK := Lib.hid ok
        rw [ok]
        clear ok
        obtain ⟨A9, c9, e9, so⟩ := (own_one w13 k k).sps
        cases e9
        have bb := below_alloc (Below.refl w13.heap.size w13) (.cells #[.int .i64 k, .int .i64 k] TSp)
        replace sa := sa.below bb
        have B14 := Lib.hid (below_then B13.out bb)
        clear bb B13
        go_wp2_with fail
        refine (iSetHas_c _ _ _ _ _ sa).mono ?_
        rintro e w15 ⟨rfl, b15⟩
        replace sa := sa.below b15
        replace so := so.below b15
        have B15 := Lib.hid (below_then B14.out b15)
        clear b15 B14
        rw [HH.out]
        go_wp2_with fail
        refine (iSetMeet_c _ _ _ _ _ _ _ sa so).mono ?_
        rintro e w16 ⟨v16, rfl, o16, b16⟩
        obtain ⟨A16, c16, rfl, t1⟩ := o16.sps
        clear o16
        replace sa := sa.below b16
        replace so := so.below b16
        have B16 := Lib.hid (below_then B15.out b16)
        clear b16 B15
        go_wp2_with fail
        refine (iSetSame_c _ _ _ _ _ _ _ t1 so).mono ?_
        rintro e w17 ⟨rfl, d17⟩
        have b17 := d17.below
        clear d17
        clear t1
        replace sa := sa.below b17
        replace so := so.below b17
        have B17 := Lib.hid (below_then B16.out b17)
        clear b17 B16
        rw [decide_eq_true (meet_one OK.out hk HH.out : setMeet xs [⟨k, k⟩] = [⟨k, k⟩])]
        go_wp2_with fail
        refine (iSetJoin_c _ _ _ _ _ _ _ sa so).mono ?_
        rintro e w18 ⟨v18, rfl, o18, b18⟩
        obtain ⟨A18, c18, rfl, t1⟩ := o18.sps
        clear o18
        replace sa := sa.below b18
        replace so := so.below b18
        have B18 := Lib.hid (below_then B17.out b18)
        clear b18 B17
        go_wp2_with fail
        refine (iSetSame_c _ _ _ _ _ _ _ t1 sa).mono ?_
        rintro e w19 ⟨rfl, d19⟩
        have b19 := d19.below
        clear d19
        clear t1
        replace sa := sa.below b19
        replace so := so.below b19
        have B19 := Lib.hid (below_then B18.out b19)
        clear b19 B18
        rw [decide_eq_true (join_one OK.out hk HH.out : setJoin xs [⟨k, k⟩] = xs)]
        go_wp2_with fail
        refine (iSetSize_c _ _ _ _ so).mono ?_
        rintro e w20 ⟨rfl, b20⟩
        replace sa := sa.below b20
        replace so := so.below b20
        have B20 := Lib.hid (below_then B19.out b20)
        clear b20 B19
        rw [size_one hk]
        go_wp2
        go_ret
        exact ⟨rfl, below_then B11.out B20.out⟩

end Go.Proofs.Ytjnhmoinehffiaa
