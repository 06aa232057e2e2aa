/- The law FnMatchCat: concatenation and repetition mean what they say. -/
import Derived.Test.YtplhbjpkkhhilaaMl3
import Derived.Test.YtplhbjpkkhhilaaG10
import Derived.Test.YtplhbjpkkhhilaaG12
namespace Go.Proofs.Ytplhbjpkkhhilaa
set_option linter.unusedSimpArgs false
set_option linter.unusedVariables false
open Go.RowKit

set_option maxRecDepth 100000 in
set_option maxHeartbeats 8000000 in
theorem lawFnMatchCat_c (A0 : Option Addr) (c0 : Nat) (bs0 : List Int) (A1 : Option Addr) (c1 : Nat) (bs1 : List Int) (w : World) (h0 : Bys w 0 A0 c0 bs0) (h1 : Bys w 0 A1 c1 bs1) :
    Calls Try.prog 6 #[.slice A0 bs0.length c0, .slice A1 bs1.length c1] w fun e w' => e = .returned (.bool true) ∧ Below w.heap.size w w' := by
  have hl0 := h0.len
  have hl1 := h1.len
  unfold maxN at hl0 hl1
  go_enter Try.func6, Try.ntmps6
  by_cases hb0 : (1048576 : Int) < bs0.length
  · go_wp2
    go_ret
    exact ⟨rfl, Below.refl _ _⟩
  by_cases hb1 : (1048576 : Int) < bs1.length
  · go_wp2
    go_ret
    exact ⟨rfl, Below.refl _ _⟩
  clear hl0 hl1
  go_wp2_with fail
  refine (drawIs_c _ _ _ _ h0).mono ?_
  rintro e w1 ⟨r, A, c, K, ck, S, rfl, hv, hs, hS, b1⟩
  clear hb0 hb1
  go_wp2_with fail
  obtain ⟨w2, hwc⟩ : ∃ x, x = w1.alloc (.cells #[.int .i64 r.kind, .slice A r.set.length c, .slice K r.kids.length ck] TRx) := ⟨_, rfl⟩
  have hbc : Below w1.heap.size w1 w2 := by rw [hwc]; exact below_alloc (Below.refl _ _) _
  have Mw2 : Hid (Blk w2 w1.heap.size #[.int .i64 r.kind, .slice A r.set.length c, .slice K r.kids.length ck] TRx) := by rw [hwc]; exact blk_new w1 _ _
  rw [← hwc]
  clear hwc
  have b2 := below_then b1 hbc
  have V2 := Lib.hid (hv.rexv.under hbc)
  clear b1 hbc hv
  refine (drawIs_c _ _ _ _ (h1.below (lo := 0) b2)).mono ?_
  rintro e w3 ⟨s, B, d, M, dm, T, rfl, hv3, hs3, hT, b3⟩
  have V3 := Lib.hid (V2.out.under b3)
  have M3 := Lib.hid (Mw2.out.below b3)
  have b23 := below_then b2 b3
  clear b2 b3 V2 Mw2 h0 h1
  have a := ((M3.out).cell 0).trans rfl
  have a' := ((M3.out).cell 1).trans rfl
  have a'' := ((M3.out).cell 2).trans rfl
  have a1 := fun o => cell_alloc a o
  have a1' := fun o => cell_alloc a' o
  have a1'' := fun o => cell_alloc a'' o
  have a3 := fun o o2 o3 => cell_alloc (cell_alloc (cell_alloc a o) o2) o3
  have a3' := fun o o2 o3 => cell_alloc (cell_alloc (cell_alloc a' o) o2) o3
  have a3'' := fun o o2 o3 => cell_alloc (cell_alloc (cell_alloc a'' o) o2) o3
  have a5 := fun o o2 o3 o4 o5 => cell_alloc (cell_alloc (cell_alloc (cell_alloc (cell_alloc a o) o2) o3) o4) o5
  have a5' := fun o o2 o3 o4 o5 => cell_alloc (cell_alloc (cell_alloc (cell_alloc (cell_alloc a' o) o2) o3) o4) o5
  have a5'' := fun o o2 o3 o4 o5 => cell_alloc (cell_alloc (cell_alloc (cell_alloc (cell_alloc a'' o) o2) o3) o4) o5
  obtain ⟨w4, hw4⟩ : ∃ x, x = w3.alloc (.cells #[.int .i64 s.kind, .slice B s.set.length d, .slice M s.kids.length dm] TRx) := ⟨_, rfl⟩
  have b4 : Below w3.heap.size w3 w4 := by rw [hw4]; exact below_alloc (Below.refl _ _) _
  have MY4 : Blk w4 w3.heap.size #[.int .i64 s.kind, .slice B s.set.length d, .slice M s.kids.length dm] TRx := by rw [hw4]; exact blk_new w3 _ _
  have hz4 : w4.heap.size = w3.heap.size + 1 := by rw [hw4]; simp
  obtain ⟨w5, hw5⟩ : ∃ x, x = (w4.alloc (.cells #[.int .i64 r.kind, .slice A r.set.length c, .slice K r.kids.length ck, .int .i64 s.kind, .slice B s.set.length d, .slice M s.kids.length dm] TRx)).alloc (.cells #[.int .i64 3, nilS, .slice (some ⟨w4.heap.size, 0, none⟩) 2 2] TRx) := ⟨_, rfl⟩
  obtain ⟨hn5, mn5, b5⟩ := box_two 3 (V3.out.under b4) (hv3.rexv.under b4) hw5
  have hz5 : w5.heap.size = w4.heap.size + 2 := by rw [hw5]; simp
  obtain ⟨w6, hw6⟩ : ∃ x, x = (w5.alloc (.cells #[.int .i64 r.kind, .slice A r.set.length c, .slice K r.kids.length ck] TRx)).alloc (.cells #[.int .i64 5, nilS, .slice (some ⟨w5.heap.size, 0, none⟩) 1 1] TRx) := ⟨_, rfl⟩
  obtain ⟨hn6, mn6, b6⟩ := box_one 5 ((V3.out.under b4).under b5) hw6
  have hw6' : Hid (((((w3.alloc (.cells #[.int .i64 s.kind, .slice B s.set.length d, .slice M s.kids.length dm] TRx)).alloc (.cells #[.int .i64 r.kind, .slice A r.set.length c, .slice K r.kids.length ck, .int .i64 s.kind, .slice B s.set.length d, .slice M s.kids.length dm] TRx)).alloc (.cells #[.int .i64 3, nilS, .slice (some ⟨w3.heap.size + 1, 0, none⟩) 2 2] TRx)).alloc (.cells #[.int .i64 r.kind, .slice A r.set.length c, .slice K r.kids.length ck] TRx)).alloc (.cells #[.int .i64 5, nilS, .slice (some ⟨w3.heap.size + 3, 0, none⟩) 1 1] TRx) = w6) := by
    show _ = _
    rw [hw6, hz5, hw5, hz4, hw4]
  rw [hz5, hz4] at hn6 mn6
  rw [hz4] at hn5 mn5
  have b56 := below_then b5 b6
  have b46 := below_then b4 b56
  have VC := Lib.hid (hn5.under b6)
  have MC := Lib.hid (mn5.below b6)
  have VS := Lib.hid hn6
  have MS := Lib.hid mn6
  have VX := Lib.hid (V3.out.under b46)
  have VY := Lib.hid (hv3.rexv.under b46)
  have MX := Lib.hid (M3.out.below b46)
  have MY := Lib.hid (MY4.below b56)
  have B6 := Lib.hid (below_then b23 b46)
  have K6 := Lib.hid (Below.refl w6.heap.size w6)
  have hs1 : r.size ≤ 1048576 := by omega
  have hs2 : s.size ≤ 1048576 := by omega
  have hsc : (Rex.mk 3 [] [r, s]).size ≤ 1048576 := by rw [size_two]; omega
  have hss : (Rex.mk 5 [] [r]).size ≤ 1048576 := by rw [Go.Proofs.Ytplhbjpkkhhilaa.size_one]; omega
  have HT : Hid (∀ t : ByteArray, t.data.toList.length = t.size) := tl_len
  obtain ⟨p, hp⟩ : ∃ p, p = matchIs r S.data.toList := ⟨_, rfl⟩
  clear hw4 hw5 hw6 hz4 hz5 hn5 hn6 mn5 mn6 b4 b5 b6 b46 b56 b23 V3 M3 MY4 hv3
  go_wp2_with fail
  rw [hw6'.out]
  clear hw6' a1 a1' a1'' a3 a3' a3'' a5 a5' a5'' a a' a''
  have a := ((MX.out.below K6.out).cell 0).trans rfl
  have a' := ((MX.out.below K6.out).cell 1).trans rfl
  have a'' := ((MX.out.below K6.out).cell 2).trans rfl
  have b := ((MY.out.below K6.out).cell 0).trans rfl
  have b' := ((MY.out.below K6.out).cell 1).trans rfl
  have b'' := ((MY.out.below K6.out).cell 2).trans rfl
  have c := ((MC.out.below K6.out).cell 0).trans rfl
  have c' := ((MC.out.below K6.out).cell 1).trans rfl
  have c'' := ((MC.out.below K6.out).cell 2).trans rfl
  have d := ((MS.out.below K6.out).cell 0).trans rfl
  have d' := ((MS.out.below K6.out).cell 1).trans rfl
  have d'' := ((MS.out.below K6.out).cell 2).trans rfl
  refine (iMatchIs_c r S _ _ w6 0 VX.out hs1).mono ?_
  rintro e w7 ⟨rfl, b7⟩
  have K7 := Lib.hid (below_then K6.out b7)
  clear b7 a a' a'' b b' b'' c c' c'' d d' d''
  have a := ((MX.out.below K7.out).cell 0).trans rfl
  have a' := ((MX.out.below K7.out).cell 1).trans rfl
  have a'' := ((MX.out.below K7.out).cell 2).trans rfl
  have b := ((MY.out.below K7.out).cell 0).trans rfl
  have b' := ((MY.out.below K7.out).cell 1).trans rfl
  have b'' := ((MY.out.below K7.out).cell 2).trans rfl
  have c := ((MC.out.below K7.out).cell 0).trans rfl
  have c' := ((MC.out.below K7.out).cell 1).trans rfl
  have c'' := ((MC.out.below K7.out).cell 2).trans rfl
  have d := ((MS.out.below K7.out).cell 0).trans rfl
  have d' := ((MS.out.below K7.out).cell 1).trans rfl
  have d'' := ((MS.out.below K7.out).cell 2).trans rfl
  rw [← hp]
  go_wp2_with fail
  refine (sMatchIs_c r S _ _ w7 0 (VX.out.under K7.out) hs1).mono ?_
  rintro e w8 ⟨rfl, b8⟩
  have K8 := Lib.hid (below_then K7.out b8)
  clear b8 a a' a'' b b' b'' c c' c'' d d' d''
  have a := ((MX.out.below K8.out).cell 0).trans rfl
  have a' := ((MX.out.below K8.out).cell 1).trans rfl
  have a'' := ((MX.out.below K8.out).cell 2).trans rfl
  have b := ((MY.out.below K8.out).cell 0).trans rfl
  have b' := ((MY.out.below K8.out).cell 1).trans rfl
  have b'' := ((MY.out.below K8.out).cell 2).trans rfl
  have c := ((MC.out.below K8.out).cell 0).trans rfl
  have c' := ((MC.out.below K8.out).cell 1).trans rfl
  have c'' := ((MC.out.below K8.out).cell 2).trans rfl
  have d := ((MS.out.below K8.out).cell 0).trans rfl
  have d' := ((MS.out.below K8.out).cell 1).trans rfl
  have d'' := ((MS.out.below K8.out).cell 2).trans rfl
  rw [← hp]
  have HP := Lib.hid hp.symm
  clear hp
  cases p
  · clear a a' a'' b b' b'' c c' c'' d d' d''
    go_wp2
    go_ret
    exact ⟨rfl, below_then B6.out K8.out⟩
  · go_wp2_with fail
    refine (iMatchIs_c s T _ _ w8 0 (VY.out.under K8.out) hs2).mono ?_
    rintro e w9 ⟨rfl, b9⟩
    have K9 := Lib.hid (below_then K8.out b9)
    clear b9 a a' a'' b b' b'' c c' c'' d d' d''
    have a := ((MX.out.below K9.out).cell 0).trans rfl
    have a' := ((MX.out.below K9.out).cell 1).trans rfl
    have a'' := ((MX.out.below K9.out).cell 2).trans rfl
    have b := ((MY.out.below K9.out).cell 0).trans rfl
    have b' := ((MY.out.below K9.out).cell 1).trans rfl
    have b'' := ((MY.out.below K9.out).cell 2).trans rfl
    have c := ((MC.out.below K9.out).cell 0).trans rfl
    have c' := ((MC.out.below K9.out).cell 1).trans rfl
    have c'' := ((MC.out.below K9.out).cell 2).trans rfl
    have d := ((MS.out.below K9.out).cell 0).trans rfl
    have d' := ((MS.out.below K9.out).cell 1).trans rfl
    have d'' := ((MS.out.below K9.out).cell 2).trans rfl
    by_cases hm2 : matchIs s T.data.toList = true
    rotate_left
    · rw [show matchIs s T.data.toList = false by simpa using hm2]
      clear hm2
      go_wp2_with fail
      refine (iRexOk_c (.mk 5 [] [r]) _ _ w9 0 (VS.out.under K9.out) hss).mono ?_
      rintro e w20 ⟨rfl, b20⟩
      have K20 := Lib.hid (below_then K9.out b20)
      clear b20 a a' a'' b b' b'' c c' c'' d d' d''
      have a := ((MX.out.below K20.out).cell 0).trans rfl
      have a' := ((MX.out.below K20.out).cell 1).trans rfl
      have a'' := ((MX.out.below K20.out).cell 2).trans rfl
      have b := ((MY.out.below K20.out).cell 0).trans rfl
      have b' := ((MY.out.below K20.out).cell 1).trans rfl
      have b'' := ((MY.out.below K20.out).cell 2).trans rfl
      have c := ((MC.out.below K20.out).cell 0).trans rfl
      have c' := ((MC.out.below K20.out).cell 1).trans rfl
      have c'' := ((MC.out.below K20.out).cell 2).trans rfl
      have d := ((MS.out.below K20.out).cell 0).trans rfl
      have d' := ((MS.out.below K20.out).cell 1).trans rfl
      have d'' := ((MS.out.below K20.out).cell 2).trans rfl
      by_cases hok5 : rexOk (.mk 5 [] [r]) = true
      rotate_left
      · rw [show rexOk (.mk 5 [] [r]) = false by simpa using hok5]
        clear hok5
        clear a a' a'' b b' b'' c c' c'' d d' d''
        go_wp2
        go_ret
        exact ⟨rfl, below_then B6.out K20.out⟩
      by_cases hl4 : (4 : Int) < (S.size : Int)
      · rw [hok5]
        clear hok5
        clear a a' a'' b b' b'' c c' c'' d d' d''
        go_wp2
        go_ret
        exact ⟨rfl, below_then B6.out K20.out⟩
      have h3 := star3 hok5 (by rw [HT.out]; omega) HP.out
      rw [hok5]
      obtain ⟨h31, h32, h33⟩ := h3
      rw [← data_app, ← data_app] at h33
      replace h31 : Hid (matchIs (.mk 5 [] [r]) (⟨#[]⟩ : ByteArray).data.toList = true) := h31
      replace h32 := Lib.hid h32
      replace h33 := Lib.hid h33
      have hss1 : (S ++ S).size = S.size + S.size := ByteArray.size_append
      clear hok5
      go_wp2_with fail
      refine (iMatchIs_c (.mk 5 [] [r]) ⟨#[]⟩ _ _ w20 0 (VS.out.under K20.out) hss).mono ?_
      rintro e w21 ⟨rfl, b21⟩
      have K21 := Lib.hid (below_then K20.out b21)
      clear b21 a a' a'' b b' b'' c c' c'' d d' d''
      have a := ((MX.out.below K21.out).cell 0).trans rfl
      have a' := ((MX.out.below K21.out).cell 1).trans rfl
      have a'' := ((MX.out.below K21.out).cell 2).trans rfl
      have b := ((MY.out.below K21.out).cell 0).trans rfl
      have b' := ((MY.out.below K21.out).cell 1).trans rfl
      have b'' := ((MY.out.below K21.out).cell 2).trans rfl
      have c := ((MC.out.below K21.out).cell 0).trans rfl
      have c' := ((MC.out.below K21.out).cell 1).trans rfl
      have c'' := ((MC.out.below K21.out).cell 2).trans rfl
      have d := ((MS.out.below K21.out).cell 0).trans rfl
      have d' := ((MS.out.below K21.out).cell 1).trans rfl
      have d'' := ((MS.out.below K21.out).cell 2).trans rfl
      rw [h31.out]
      go_wp2_with fail
      refine (iMatchIs_c (.mk 5 [] [r]) S _ _ w21 0 (VS.out.under K21.out) hss).mono ?_
      rintro e w22 ⟨rfl, b22⟩
      have K22 := Lib.hid (below_then K21.out b22)
      clear b22 a a' a'' b b' b'' c c' c'' d d' d''
      have a := ((MX.out.below K22.out).cell 0).trans rfl
      have a' := ((MX.out.below K22.out).cell 1).trans rfl
      have a'' := ((MX.out.below K22.out).cell 2).trans rfl
      have b := ((MY.out.below K22.out).cell 0).trans rfl
      have b' := ((MY.out.below K22.out).cell 1).trans rfl
      have b'' := ((MY.out.below K22.out).cell 2).trans rfl
      have c := ((MC.out.below K22.out).cell 0).trans rfl
      have c' := ((MC.out.below K22.out).cell 1).trans rfl
      have c'' := ((MC.out.below K22.out).cell 2).trans rfl
      have d := ((MS.out.below K22.out).cell 0).trans rfl
      have d' := ((MS.out.below K22.out).cell 1).trans rfl
      have d'' := ((MS.out.below K22.out).cell 2).trans rfl
      rw [h32.out]
      go_wp2_with fail
      refine (iMatchIs_c (.mk 5 [] [r]) ((S ++ S) ++ S) _ _ w22 0 (VS.out.under K22.out) hss).mono ?_
      rintro e w23 ⟨rfl, b23⟩
      have K23 := Lib.hid (below_then K22.out b23)
      clear b23 a a' a'' b b' b'' c c' c'' d d' d''
      have a := ((MX.out.below K23.out).cell 0).trans rfl
      have a' := ((MX.out.below K23.out).cell 1).trans rfl
      have a'' := ((MX.out.below K23.out).cell 2).trans rfl
      have b := ((MY.out.below K23.out).cell 0).trans rfl
      have b' := ((MY.out.below K23.out).cell 1).trans rfl
      have b'' := ((MY.out.below K23.out).cell 2).trans rfl
      have c := ((MC.out.below K23.out).cell 0).trans rfl
      have c' := ((MC.out.below K23.out).cell 1).trans rfl
      have c'' := ((MC.out.below K23.out).cell 2).trans rfl
      have d := ((MS.out.below K23.out).cell 0).trans rfl
      have d' := ((MS.out.below K23.out).cell 1).trans rfl
      have d'' := ((MS.out.below K23.out).cell 2).trans rfl
      rw [h33.out]
      clear a a' a'' b b' b'' c c' c'' d d' d''
      go_wp2
      go_ret
      exact ⟨rfl, below_then B6.out K23.out⟩
    rw [hm2]
    have HM2 := Lib.hid hm2
    clear hm2
    go_wp2_with fail
    refine (iRexOk_c (.mk 3 [] [r, s]) _ _ w9 0 (VC.out.under K9.out) hsc).mono ?_
    rintro e w10 ⟨rfl, b10⟩
    have K10 := Lib.hid (below_then K9.out b10)
    clear b10 a a' a'' b b' b'' c c' c'' d d' d''
    have a := ((MX.out.below K10.out).cell 0).trans rfl
    have a' := ((MX.out.below K10.out).cell 1).trans rfl
    have a'' := ((MX.out.below K10.out).cell 2).trans rfl
    have b := ((MY.out.below K10.out).cell 0).trans rfl
    have b' := ((MY.out.below K10.out).cell 1).trans rfl
    have b'' := ((MY.out.below K10.out).cell 2).trans rfl
    have c := ((MC.out.below K10.out).cell 0).trans rfl
    have c' := ((MC.out.below K10.out).cell 1).trans rfl
    have c'' := ((MC.out.below K10.out).cell 2).trans rfl
    have d := ((MS.out.below K10.out).cell 0).trans rfl
    have d' := ((MS.out.below K10.out).cell 1).trans rfl
    have d'' := ((MS.out.below K10.out).cell 2).trans rfl
    by_cases hok3 : rexOk (.mk 3 [] [r, s]) = true
    rotate_left
    · rw [show rexOk (.mk 3 [] [r, s]) = false by simpa using hok3]
      clear hok3
      go_wp2_with fail
      refine (iRexOk_c (.mk 5 [] [r]) _ _ w10 0 (VS.out.under K10.out) hss).mono ?_
      rintro e w20 ⟨rfl, b20⟩
      have K20 := Lib.hid (below_then K10.out b20)
      clear b20 a a' a'' b b' b'' c c' c'' d d' d''
      have a := ((MX.out.below K20.out).cell 0).trans rfl
      have a' := ((MX.out.below K20.out).cell 1).trans rfl
      have a'' := ((MX.out.below K20.out).cell 2).trans rfl
      have b := ((MY.out.below K20.out).cell 0).trans rfl
      have b' := ((MY.out.below K20.out).cell 1).trans rfl
      have b'' := ((MY.out.below K20.out).cell 2).trans rfl
      have c := ((MC.out.below K20.out).cell 0).trans rfl
      have c' := ((MC.out.below K20.out).cell 1).trans rfl
      have c'' := ((MC.out.below K20.out).cell 2).trans rfl
      have d := ((MS.out.below K20.out).cell 0).trans rfl
      have d' := ((MS.out.below K20.out).cell 1).trans rfl
      have d'' := ((MS.out.below K20.out).cell 2).trans rfl
      by_cases hok5 : rexOk (.mk 5 [] [r]) = true
      rotate_left
      · rw [show rexOk (.mk 5 [] [r]) = false by simpa using hok5]
        clear hok5
        clear a a' a'' b b' b'' c c' c'' d d' d''
        go_wp2
        go_ret
        exact ⟨rfl, below_then B6.out K20.out⟩
      by_cases hl4 : (4 : Int) < (S.size : Int)
      · rw [hok5]
        clear hok5
        clear a a' a'' b b' b'' c c' c'' d d' d''
        go_wp2
        go_ret
        exact ⟨rfl, below_then B6.out K20.out⟩
      have h3 := star3 hok5 (by rw [HT.out]; omega) HP.out
      rw [hok5]
      obtain ⟨h31, h32, h33⟩ := h3
      rw [← data_app, ← data_app] at h33
      replace h31 : Hid (matchIs (.mk 5 [] [r]) (⟨#[]⟩ : ByteArray).data.toList = true) := h31
      replace h32 := Lib.hid h32
      replace h33 := Lib.hid h33
      have hss1 : (S ++ S).size = S.size + S.size := ByteArray.size_append
      clear hok5
      go_wp2_with fail
      refine (iMatchIs_c (.mk 5 [] [r]) ⟨#[]⟩ _ _ w20 0 (VS.out.under K20.out) hss).mono ?_
      rintro e w21 ⟨rfl, b21⟩
      have K21 := Lib.hid (below_then K20.out b21)
      clear b21 a a' a'' b b' b'' c c' c'' d d' d''
      have a := ((MX.out.below K21.out).cell 0).trans rfl
      have a' := ((MX.out.below K21.out).cell 1).trans rfl
      have a'' := ((MX.out.below K21.out).cell 2).trans rfl
      have b := ((MY.out.below K21.out).cell 0).trans rfl
      have b' := ((MY.out.below K21.out).cell 1).trans rfl
      have b'' := ((MY.out.below K21.out).cell 2).trans rfl
      have c := ((MC.out.below K21.out).cell 0).trans rfl
      have c' := ((MC.out.below K21.out).cell 1).trans rfl
      have c'' := ((MC.out.below K21.out).cell 2).trans rfl
      have d := ((MS.out.below K21.out).cell 0).trans rfl
      have d' := ((MS.out.below K21.out).cell 1).trans rfl
      have d'' := ((MS.out.below K21.out).cell 2).trans rfl
      rw [h31.out]
      go_wp2_with fail
      refine (iMatchIs_c (.mk 5 [] [r]) S _ _ w21 0 (VS.out.under K21.out) hss).mono ?_
      rintro e w22 ⟨rfl, b22⟩
      have K22 := Lib.hid (below_then K21.out b22)
      clear b22 a a' a'' b b' b'' c c' c'' d d' d''
      have a := ((MX.out.below K22.out).cell 0).trans rfl
      have a' := ((MX.out.below K22.out).cell 1).trans rfl
      have a'' := ((MX.out.below K22.out).cell 2).trans rfl
      have b := ((MY.out.below K22.out).cell 0).trans rfl
      have b' := ((MY.out.below K22.out).cell 1).trans rfl
      have b'' := ((MY.out.below K22.out).cell 2).trans rfl
      have c := ((MC.out.below K22.out).cell 0).trans rfl
      have c' := ((MC.out.below K22.out).cell 1).trans rfl
      have c'' := ((MC.out.below K22.out).cell 2).trans rfl
      have d := ((MS.out.below K22.out).cell 0).trans rfl
      have d' := ((MS.out.below K22.out).cell 1).trans rfl
      have d'' := ((MS.out.below K22.out).cell 2).trans rfl
      rw [h32.out]
      go_wp2_with fail
      refine (iMatchIs_c (.mk 5 [] [r]) ((S ++ S) ++ S) _ _ w22 0 (VS.out.under K22.out) hss).mono ?_
      rintro e w23 ⟨rfl, b23⟩
      have K23 := Lib.hid (below_then K22.out b23)
      clear b23 a a' a'' b b' b'' c c' c'' d d' d''
      have a := ((MX.out.below K23.out).cell 0).trans rfl
      have a' := ((MX.out.below K23.out).cell 1).trans rfl
      have a'' := ((MX.out.below K23.out).cell 2).trans rfl
      have b := ((MY.out.below K23.out).cell 0).trans rfl
      have b' := ((MY.out.below K23.out).cell 1).trans rfl
      have b'' := ((MY.out.below K23.out).cell 2).trans rfl
      have c := ((MC.out.below K23.out).cell 0).trans rfl
      have c' := ((MC.out.below K23.out).cell 1).trans rfl
      have c'' := ((MC.out.below K23.out).cell 2).trans rfl
      have d := ((MS.out.below K23.out).cell 0).trans rfl
      have d' := ((MS.out.below K23.out).cell 1).trans rfl
      have d'' := ((MS.out.below K23.out).cell 2).trans rfl
      rw [h33.out]
      clear a a' a'' b b' b'' c c' c'' d d' d''
      go_wp2
      go_ret
      exact ⟨rfl, below_then B6.out K23.out⟩
    rw [hok3]
    by_cases hl12 : (S.size : Int) + (T.size : Int) ≤ 12
    rotate_left
    · clear hok3
      go_wp2_with fail
      refine (iRexOk_c (.mk 5 [] [r]) _ _ w10 0 (VS.out.under K10.out) hss).mono ?_
      rintro e w20 ⟨rfl, b20⟩
      have K20 := Lib.hid (below_then K10.out b20)
      clear b20 a a' a'' b b' b'' c c' c'' d d' d''
      have a := ((MX.out.below K20.out).cell 0).trans rfl
      have a' := ((MX.out.below K20.out).cell 1).trans rfl
      have a'' := ((MX.out.below K20.out).cell 2).trans rfl
      have b := ((MY.out.below K20.out).cell 0).trans rfl
      have b' := ((MY.out.below K20.out).cell 1).trans rfl
      have b'' := ((MY.out.below K20.out).cell 2).trans rfl
      have c := ((MC.out.below K20.out).cell 0).trans rfl
      have c' := ((MC.out.below K20.out).cell 1).trans rfl
      have c'' := ((MC.out.below K20.out).cell 2).trans rfl
      have d := ((MS.out.below K20.out).cell 0).trans rfl
      have d' := ((MS.out.below K20.out).cell 1).trans rfl
      have d'' := ((MS.out.below K20.out).cell 2).trans rfl
      by_cases hok5 : rexOk (.mk 5 [] [r]) = true
      rotate_left
      · rw [show rexOk (.mk 5 [] [r]) = false by simpa using hok5]
        clear hok5
        clear a a' a'' b b' b'' c c' c'' d d' d''
        go_wp2
        go_ret
        exact ⟨rfl, below_then B6.out K20.out⟩
      by_cases hl4 : (4 : Int) < (S.size : Int)
      · rw [hok5]
        clear hok5
        clear a a' a'' b b' b'' c c' c'' d d' d''
        go_wp2
        go_ret
        exact ⟨rfl, below_then B6.out K20.out⟩
      have h3 := star3 hok5 (by rw [HT.out]; omega) HP.out
      rw [hok5]
      obtain ⟨h31, h32, h33⟩ := h3
      rw [← data_app, ← data_app] at h33
      replace h31 : Hid (matchIs (.mk 5 [] [r]) (⟨#[]⟩ : ByteArray).data.toList = true) := h31
      replace h32 := Lib.hid h32
      replace h33 := Lib.hid h33
      have hss1 : (S ++ S).size = S.size + S.size := ByteArray.size_append
      clear hok5
      go_wp2_with fail
      refine (iMatchIs_c (.mk 5 [] [r]) ⟨#[]⟩ _ _ w20 0 (VS.out.under K20.out) hss).mono ?_
      rintro e w21 ⟨rfl, b21⟩
      have K21 := Lib.hid (below_then K20.out b21)
      clear b21 a a' a'' b b' b'' c c' c'' d d' d''
      have a := ((MX.out.below K21.out).cell 0).trans rfl
      have a' := ((MX.out.below K21.out).cell 1).trans rfl
      have a'' := ((MX.out.below K21.out).cell 2).trans rfl
      have b := ((MY.out.below K21.out).cell 0).trans rfl
      have b' := ((MY.out.below K21.out).cell 1).trans rfl
      have b'' := ((MY.out.below K21.out).cell 2).trans rfl
      have c := ((MC.out.below K21.out).cell 0).trans rfl
      have c' := ((MC.out.below K21.out).cell 1).trans rfl
      have c'' := ((MC.out.below K21.out).cell 2).trans rfl
      have d := ((MS.out.below K21.out).cell 0).trans rfl
      have d' := ((MS.out.below K21.out).cell 1).trans rfl
      have d'' := ((MS.out.below K21.out).cell 2).trans rfl
      rw [h31.out]
      go_wp2_with fail
      refine (iMatchIs_c (.mk 5 [] [r]) S _ _ w21 0 (VS.out.under K21.out) hss).mono ?_
      rintro e w22 ⟨rfl, b22⟩
      have K22 := Lib.hid (below_then K21.out b22)
      clear b22 a a' a'' b b' b'' c c' c'' d d' d''
      have a := ((MX.out.below K22.out).cell 0).trans rfl
      have a' := ((MX.out.below K22.out).cell 1).trans rfl
      have a'' := ((MX.out.below K22.out).cell 2).trans rfl
      have b := ((MY.out.below K22.out).cell 0).trans rfl
      have b' := ((MY.out.below K22.out).cell 1).trans rfl
      have b'' := ((MY.out.below K22.out).cell 2).trans rfl
      have c := ((MC.out.below K22.out).cell 0).trans rfl
      have c' := ((MC.out.below K22.out).cell 1).trans rfl
      have c'' := ((MC.out.below K22.out).cell 2).trans rfl
      have d := ((MS.out.below K22.out).cell 0).trans rfl
      have d' := ((MS.out.below K22.out).cell 1).trans rfl
      have d'' := ((MS.out.below K22.out).cell 2).trans rfl
      rw [h32.out]
      go_wp2_with fail
      refine (iMatchIs_c (.mk 5 [] [r]) ((S ++ S) ++ S) _ _ w22 0 (VS.out.under K22.out) hss).mono ?_
      rintro e w23 ⟨rfl, b23⟩
      have K23 := Lib.hid (below_then K22.out b23)
      clear b23 a a' a'' b b' b'' c c' c'' d d' d''
      have a := ((MX.out.below K23.out).cell 0).trans rfl
      have a' := ((MX.out.below K23.out).cell 1).trans rfl
      have a'' := ((MX.out.below K23.out).cell 2).trans rfl
      have b := ((MY.out.below K23.out).cell 0).trans rfl
      have b' := ((MY.out.below K23.out).cell 1).trans rfl
      have b'' := ((MY.out.below K23.out).cell 2).trans rfl
      have c := ((MC.out.below K23.out).cell 0).trans rfl
      have c' := ((MC.out.below K23.out).cell 1).trans rfl
      have c'' := ((MC.out.below K23.out).cell 2).trans rfl
      have d := ((MS.out.below K23.out).cell 0).trans rfl
      have d' := ((MS.out.below K23.out).cell 1).trans rfl
      have d'' := ((MS.out.below K23.out).cell 2).trans rfl
      rw [h33.out]
      clear a a' a'' b b' b'' c c' c'' d d' d''
      go_wp2
      go_ret
      exact ⟨rfl, below_then B6.out K23.out⟩
    have hm3 := matchIs_cat hok3 HP.out HM2.out (by rw [List.length_append, HT.out, HT.out]; omega)
    rw [← data_app] at hm3
    replace hm3 := Lib.hid hm3
    clear hok3
    go_wp2_with fail
    refine (iMatchIs_c (.mk 3 [] [r, s]) (S ++ T) _ _ w10 0 (VC.out.under K10.out) hsc).mono ?_
    rintro e w11 ⟨rfl, b11⟩
    have K11 := Lib.hid (below_then K10.out b11)
    clear b11 a a' a'' b b' b'' c c' c'' d d' d''
    have a := ((MX.out.below K11.out).cell 0).trans rfl
    have a' := ((MX.out.below K11.out).cell 1).trans rfl
    have a'' := ((MX.out.below K11.out).cell 2).trans rfl
    have b := ((MY.out.below K11.out).cell 0).trans rfl
    have b' := ((MY.out.below K11.out).cell 1).trans rfl
    have b'' := ((MY.out.below K11.out).cell 2).trans rfl
    have c := ((MC.out.below K11.out).cell 0).trans rfl
    have c' := ((MC.out.below K11.out).cell 1).trans rfl
    have c'' := ((MC.out.below K11.out).cell 2).trans rfl
    have d := ((MS.out.below K11.out).cell 0).trans rfl
    have d' := ((MS.out.below K11.out).cell 1).trans rfl
    have d'' := ((MS.out.below K11.out).cell 2).trans rfl
    rw [hm3.out]
    go_wp2_with fail
    refine (iRexOk_c (.mk 5 [] [r]) _ _ w11 0 (VS.out.under K11.out) hss).mono ?_
    rintro e w20 ⟨rfl, b20⟩
    have K20 := Lib.hid (below_then K11.out b20)
    clear b20 a a' a'' b b' b'' c c' c'' d d' d''
    have a := ((MX.out.below K20.out).cell 0).trans rfl
    have a' := ((MX.out.below K20.out).cell 1).trans rfl
    have a'' := ((MX.out.below K20.out).cell 2).trans rfl
    have b := ((MY.out.below K20.out).cell 0).trans rfl
    have b' := ((MY.out.below K20.out).cell 1).trans rfl
    have b'' := ((MY.out.below K20.out).cell 2).trans rfl
    have c := ((MC.out.below K20.out).cell 0).trans rfl
    have c' := ((MC.out.below K20.out).cell 1).trans rfl
    have c'' := ((MC.out.below K20.out).cell 2).trans rfl
    have d := ((MS.out.below K20.out).cell 0).trans rfl
    have d' := ((MS.out.below K20.out).cell 1).trans rfl
    have d'' := ((MS.out.below K20.out).cell 2).trans rfl
    by_cases hok5 : rexOk (.mk 5 [] [r]) = true
    rotate_left
    · rw [show rexOk (.mk 5 [] [r]) = false by simpa using hok5]
      clear hok5
      clear a a' a'' b b' b'' c c' c'' d d' d''
      go_wp2
      go_ret
      exact ⟨rfl, below_then B6.out K20.out⟩
    by_cases hl4 : (4 : Int) < (S.size : Int)
    · rw [hok5]
      clear hok5
      clear a a' a'' b b' b'' c c' c'' d d' d''
      go_wp2
      go_ret
      exact ⟨rfl, below_then B6.out K20.out⟩
    have h3 := star3 hok5 (by rw [HT.out]; omega) HP.out
    rw [hok5]
    obtain ⟨h31, h32, h33⟩ := h3
    rw [← data_app, ← data_app] at h33
    replace h31 : Hid (matchIs (.mk 5 [] [r]) (⟨#[]⟩ : ByteArray).data.toList = true) := h31
    replace h32 := Lib.hid h32
    replace h33 := Lib.hid h33
    have hss1 : (S ++ S).size = S.size + S.size := ByteArray.size_append
    clear hok5
    go_wp2_with fail
    refine (iMatchIs_c (.mk 5 [] [r]) ⟨#[]⟩ _ _ w20 0 (VS.out.under K20.out) hss).mono ?_
    rintro e w21 ⟨rfl, b21⟩
    have K21 := Lib.hid (below_then K20.out b21)
    clear b21 a a' a'' b b' b'' c c' c'' d d' d''
    have a := ((MX.out.below K21.out).cell 0).trans rfl
    have a' := ((MX.out.below K21.out).cell 1).trans rfl
    have a'' := ((MX.out.below K21.out).cell 2).trans rfl
    have b := ((MY.out.below K21.out).cell 0).trans rfl
    have b' := ((MY.out.below K21.out).cell 1).trans rfl
    have b'' := ((MY.out.below K21.out).cell 2).trans rfl
    have c := ((MC.out.below K21.out).cell 0).trans rfl
    have c' := ((MC.out.below K21.out).cell 1).trans rfl
    have c'' := ((MC.out.below K21.out).cell 2).trans rfl
    have d := ((MS.out.below K21.out).cell 0).trans rfl
    have d' := ((MS.out.below K21.out).cell 1).trans rfl
    have d'' := ((MS.out.below K21.out).cell 2).trans rfl
    rw [h31.out]
    go_wp2_with fail
    refine (iMatchIs_c (.mk 5 [] [r]) S _ _ w21 0 (VS.out.under K21.out) hss).mono ?_
    rintro e w22 ⟨rfl, b22⟩
    have K22 := Lib.hid (below_then K21.out b22)
    clear b22 a a' a'' b b' b'' c c' c'' d d' d''
    have a := ((MX.out.below K22.out).cell 0).trans rfl
    have a' := ((MX.out.below K22.out).cell 1).trans rfl
    have a'' := ((MX.out.below K22.out).cell 2).trans rfl
    have b := ((MY.out.below K22.out).cell 0).trans rfl
    have b' := ((MY.out.below K22.out).cell 1).trans rfl
    have b'' := ((MY.out.below K22.out).cell 2).trans rfl
    have c := ((MC.out.below K22.out).cell 0).trans rfl
    have c' := ((MC.out.below K22.out).cell 1).trans rfl
    have c'' := ((MC.out.below K22.out).cell 2).trans rfl
    have d := ((MS.out.below K22.out).cell 0).trans rfl
    have d' := ((MS.out.below K22.out).cell 1).trans rfl
    have d'' := ((MS.out.below K22.out).cell 2).trans rfl
    rw [h32.out]
    go_wp2_with fail
    refine (iMatchIs_c (.mk 5 [] [r]) ((S ++ S) ++ S) _ _ w22 0 (VS.out.under K22.out) hss).mono ?_
    rintro e w23 ⟨rfl, b23⟩
    have K23 := Lib.hid (below_then K22.out b23)
    clear b23 a a' a'' b b' b'' c c' c'' d d' d''
    have a := ((MX.out.below K23.out).cell 0).trans rfl
    have a' := ((MX.out.below K23.out).cell 1).trans rfl
    have a'' := ((MX.out.below K23.out).cell 2).trans rfl
    have b := ((MY.out.below K23.out).cell 0).trans rfl
    have b' := ((MY.out.below K23.out).cell 1).trans rfl
    have b'' := ((MY.out.below K23.out).cell 2).trans rfl
    have c := ((MC.out.below K23.out).cell 0).trans rfl
    have c' := ((MC.out.below K23.out).cell 1).trans rfl
    have c'' := ((MC.out.below K23.out).cell 2).trans rfl
    have d := ((MS.out.below K23.out).cell 0).trans rfl
    have d' := ((MS.out.below K23.out).cell 1).trans rfl
    have d'' := ((MS.out.below K23.out).cell 2).trans rfl
    rw [h33.out]
    clear a a' a'' b b' b'' c c' c'' d d' d''
    go_wp2
    go_ret
    exact ⟨rfl, below_then B6.out K23.out⟩

end Go.Proofs.Ytplhbjpkkhhilaa
