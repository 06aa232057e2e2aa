/- The law FnExactSetRead: the program's SetRead tells what the reference's tells. -/
import Derived.Test.YtlchipjckgaclaaDoorSt
import Derived.Test.YtlchipjckgaclaaDoorMem
namespace Go.Proofs.YtlchipjckgaclaaDoor
set_option linter.unusedSimpArgs false
set_option linter.unusedVariables false
set_option maxRecDepth 100000
open Go.RowKit

theorem read_len (o : Option (List Sp)) (h : ∀ xs, o = some xs → xs.length ≤ 128) : (o.getD []).length ≤ 128 := by
  cases o with
  | none => simp
  | some xs => exact h xs rfl
set_option maxHeartbeats 4000000 in
theorem exSetRead_c (t : ByteArray) (w : World) (hp : Pow10 w) (hm : MaxL w) :
    Calls Tryd.prog 6 #[.string t] w fun e w' => e = .returned (.bool true) ∧ Below w.heap.size w w' := by
  have HP := Lib.hid hp
  have HM := Lib.hid hm
  clear hp hm
  go_enter Tryd.func6, Tryd.ntmps6
  by_cases hbig : 1048576 < t.size
  · have d0 : (1048576 : Int) < (t.size : Int) := by omega
    go_wp2_with fail
    go_ret
    exact ⟨rfl, Below.refl _ _⟩
  have d0 : ¬ (1048576 : Int) < (t.size : Int) := by omega
  have hs : t.size ≤ 1048576 := by omega
  clear hbig
  go_wp2_with fail
  clear d0
  refine (sSetRead_c t w hs).mono ?_
  rintro e w1 ⟨A1, c1, rfl, o1, b1⟩
  obtain ⟨o, ho⟩ : ∃ o, o = readSet t.data.toList := ⟨_, rfl⟩
  have HL : Hid ((o.getD []).length ≤ 128) := read_len o fun xs hxs => readSet_len (by rw [← ho, hxs])
  rw [← ho] at o1 ⊢
  have HR := Lib.hid ho
  clear ho
  obtain ⟨xs, hxs⟩ : ∃ xs, xs = o.getD [] := ⟨_, rfl⟩
  obtain ⟨ok, hok⟩ : ∃ ok, ok = o.isSome := ⟨_, rfl⟩
  have hV : ∀ A c, readV o A c = .tuple #[.slice A xs.length c, .bool ok] := fun A c => by rw [hxs, hok]
  have HV := Lib.hid hV
  rw [hV]
  rw [← hxs] at o1 HL
  have HX := Lib.hid hxs
  have hl : xs.length ≤ 128 := HL.out
  clear hV hxs hok
  have SW := Lib.hid o1
  have B1 := Lib.hid b1
  clear o1 b1
  go_wp2_with fail
  refine (iSetRead_c t w1 hs (HP.out.below B1.out) (HM.out.below B1.out)).mono ?_
  rintro e w2 ⟨A2, c2, rfl, o2, b2⟩
  rw [← HR.out] at o2 ⊢
  rw [HV.out]
  rw [← HX.out] at o2
  have O2 := Lib.hid o2
  have U2 := Lib.hid (own_base o2.own)
  have U1 := Lib.hid (own_base SW.out.own)
  have B2 := Lib.hid (below_then B1.out b2)
  have Z1 := Lib.hid b2.size
  replace SW := Lib.hid (SW.out.below b2)
  clear o2 b2
  go_wp2_with fail
  refine (eqSpanS_c _ _ _ _ _ _ _ O2.out.row SW.out.row).mono ?_
  rintro e w3 ⟨rfl, b3⟩
  rw [decide_eq_true (rfl : xs = xs)]
  replace O2 := Lib.hid (O2.out.below b3)
  replace SW := Lib.hid (SW.out.below b3)
  have B3 := Lib.hid (below_then B2.out b3)
  clear b3 B2
  go_wp2_with fail
  refine (markSpanS_c _ _ _ _ _ O2.out (by omega) (by omega) (by omega)).mono ?_
  rintro e w4 ⟨rfl, o4, g4⟩
  replace SW := Lib.hid (SW.out.moved (fun q hq => g4.block q (own_base SW.out.own q hq).2 (fun e => by have := U1.out q hq; have := U2.out q e.symm; omega)))
  have B4 := Lib.hid (B3.out.grown g4 B3.out.size (fun q hq => by have := U2.out q hq; have := B1.out.size; omega))
  have O4 := Lib.hid o4
  clear O2 o4 g4 B3
  have hq : ¬ ((1 : Int) + 2 * (xs.length : Int) < 0) := by omega
  go_wp2_with fail
  refine (held2_c _ _ _ _ _ O4.out (by omega) (by omega) (by omega)).mono ?_
  rintro e w5 ⟨rfl, d5⟩
  replace O4 := Lib.hid (O4.out.below d5.below)
  replace SW := Lib.hid (SW.out.below d5.below)
  have B5 := Lib.hid (below_then B4.out d5.below)
  clear d5 B4
  go_wp2_with fail
  refine (iSetRead_c t w5 hs (HP.out.below B5.out) (HM.out.below B5.out)).mono ?_
  rintro e w6 ⟨A6, c6, rfl, o6, b6⟩
  rw [← HR.out] at o6 ⊢
  rw [HV.out]
  rw [← HX.out] at o6
  have O6 := Lib.hid o6
  replace O4 := Lib.hid (O4.out.below b6)
  replace SW := Lib.hid (SW.out.below b6)
  have B6 := Lib.hid (below_then B5.out b6)
  clear o6 b6 B5
  go_wp2_with fail
  refine (eqSpanS_c _ _ _ _ _ _ _ O6.out.row SW.out.row).mono ?_
  rintro e w7 ⟨rfl, b7⟩
  rw [decide_eq_true (rfl : xs = xs)]
  replace O4 := Lib.hid (O4.out.below b7)
  have B7 := Lib.hid (below_then B6.out b7)
  clear b7 B6 SW O6
  go_wp2_with fail
  refine (held2_c _ _ _ _ _ O4.out (by omega) (by omega) (by omega)).mono ?_
  rintro e w8 ⟨rfl, d8⟩
  have B8 := Lib.hid (below_then B7.out d8.below)
  clear d8 B7
  go_wp2_with fail
  go_ret
  exact ⟨rfl, B8.out⟩

end Go.Proofs.YtlchipjckgaclaaDoor
