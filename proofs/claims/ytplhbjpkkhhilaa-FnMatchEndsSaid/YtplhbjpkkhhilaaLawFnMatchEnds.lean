/- The law FnMatchEnds: boundary cases of matching are exact. -/
import Derived.Test.YtplhbjpkkhhilaaMl2
import Derived.Test.YtplhbjpkkhhilaaG10
import Derived.Test.YtplhbjpkkhhilaaG12
import Derived.Test.YtplhbjpkkhhilaaG2
import Derived.BigQuiet
namespace Go.Proofs.Ytplhbjpkkhhilaa
set_option linter.unusedSimpArgs false
set_option linter.unusedVariables false
open Go.RowKit

set_option maxRecDepth 100000 in
set_option maxHeartbeats 4000000 in
theorem lawFnMatchEnds_c (A0 : Option Addr) (c0 : Nat) (bs0 : List Int) (w : World) (h0 : Bys w 0 A0 c0 bs0) :
    Calls Try.prog 9 #[.slice A0 bs0.length c0] w fun e w' => e = .returned (.bool true) ∧ Below w.heap.size w w' := by
  have hl0 := h0.len
  unfold maxN at hl0
  go_enter Try.func9, Try.ntmps9
  by_cases hb0 : (1048576 : Int) < bs0.length
  · go_wp2
    go_ret
    exact ⟨rfl, Below.refl _ _⟩
  clear hl0
  go_wp2_with fail
  refine (drawIs_c _ _ _ _ h0).mono ?_
  rintro e w1 ⟨r, A, c, K, ck, t, rfl, hv, hs, ht, b1⟩
  clear hb0 h0
  go_wp2_with fail
  obtain ⟨w2, hwc⟩ : ∃ x, x = w1.alloc (.cells #[.int .i64 r.kind, .slice A r.set.length c, .slice K r.kids.length ck] TRx) := ⟨_, rfl⟩
  have hbc : Below w1.heap.size w1 w2 := by rw [hwc]; exact below_alloc (Below.refl _ _) _
  have Mw2 : Hid (Blk w2 w1.heap.size #[.int .i64 r.kind, .slice A r.set.length c, .slice K r.kids.length ck] TRx) := by rw [hwc]; exact blk_new w1 _ _
  rw [← hwc]
  clear hwc
  have B2 := Lib.hid (below_then b1 hbc)
  have V2 := Lib.hid (hv.rexv.under hbc)
  have M2 := Mw2
  clear b1 hbc hv Mw2
  have HT : Hid (t.data.toList.length = t.size) := tl_len t
  obtain ⟨E, hE⟩ : ∃ E, E = matchLong r t.data.toList (t.size : Int) := ⟨_, rfl⟩
  obtain ⟨F, hF⟩ : ∃ F, F = matchLong r t.data.toList 0 := ⟨_, rfl⟩
  have HE := Lib.hid hE.symm
  have HF := Lib.hid hF.symm
  clear hE hF
  have hs1 : r.size ≤ 1048576 := by omega
  have HS1 := Lib.hid hs1
  have x := ((M2.out).cell 0).trans rfl
  have x' := ((M2.out).cell 1).trans rfl
  have x'' := ((M2.out).cell 2).trans rfl
  refine (iMatchLong_c r t _ _ _ _ 0 V2.out hs1).mono ?_
  rintro e w3 ⟨rfl, b3⟩
  have M3 := Lib.hid (M2.out.below b3)
  have V3 := Lib.hid (V2.out.under b3)
  have B3 := Lib.hid (below_then B2.out b3)
  clear b3 x x' x'' M2 V2 B2
  have x := ((M3.out).cell 0).trans rfl
  have x' := ((M3.out).cell 1).trans rfl
  have x'' := ((M3.out).cell 2).trans rfl
  rw [HE.out]
  go_wp2_with fail
  refine (iMatchLong_c r t _ _ _ _ 0 V3.out hs1).mono ?_
  rintro e w4 ⟨rfl, b4⟩
  have M4 := Lib.hid (M3.out.below b4)
  have V4 := Lib.hid (V3.out.under b4)
  have B4 := Lib.hid (below_then B3.out b4)
  clear b4 x x' x'' M3 V3 B3
  have x := ((M4.out).cell 0).trans rfl
  have x' := ((M4.out).cell 1).trans rfl
  have x'' := ((M4.out).cell 2).trans rfl
  rw [HF.out]
  go_wp2_with fail
  refine (sMatchLong_c r t _ _ _ _ 0 V4.out hs1).mono ?_
  rintro e w5 ⟨rfl, b5⟩
  have M5 := Lib.hid (M4.out.below b5)
  have V5 := Lib.hid (V4.out.under b5)
  have B5 := Lib.hid (below_then B4.out b5)
  clear b5 x x' x'' M4 V4 B4
  have x := ((M5.out).cell 0).trans rfl
  have x' := ((M5.out).cell 1).trans rfl
  have x'' := ((M5.out).cell 2).trans rfl
  rw [HE.out]
  go_wp2_with fail
  refine (sMatchLong_c r t _ _ _ _ 0 V5.out hs1).mono ?_
  rintro e w6 ⟨rfl, b6⟩
  have M6 := Lib.hid (M5.out.below b6)
  have V6 := Lib.hid (V5.out.under b6)
  have B6 := Lib.hid (below_then B5.out b6)
  clear b6 x x' x'' M5 V5 B5
  have x := ((M6.out).cell 0).trans rfl
  have x' := ((M6.out).cell 1).trans rfl
  have x'' := ((M6.out).cell 2).trans rfl
  rw [HF.out]
  go_wp2_with fail
  refine (sRexOk_c r _ _ _ 0 V6.out hs1).mono ?_
  rintro e w7 ⟨rfl, b7⟩
  have M7 := Lib.hid (M6.out.below b7)
  have V7 := Lib.hid (V6.out.under b7)
  have B7 := Lib.hid (below_then B6.out b7)
  clear b7 x x' x'' M6 V6 B6
  have x := ((M7.out).cell 0).trans rfl
  have x' := ((M7.out).cell 1).trans rfl
  have x'' := ((M7.out).cell 2).trans rfl
  by_cases hok : rexOk r = true
  rotate_left
  · have e1 : E = -1 := by rw [← HE.out]; exact matchLong_no fun h => hok h.1
    have e2 : F = -1 := by rw [← HF.out]; exact matchLong_no fun h => hok h.1
    rw [show rexOk r = false by simpa using hok]
    subst e1 e2
    clear hok
    go_wp2
    go_ret
    exact ⟨rfl, B7.out⟩
  rw [hok]
  by_cases hx : (t.size : Int) ≤ 12
  rotate_left
  · have e1 : E = -1 := by rw [← HE.out]; exact matchLong_no fun h => hx (by have := h.2.1; rw [HT.out] at this; omega)
    have e2 : F = -1 := by rw [← HF.out]; exact matchLong_no fun h => hx (by have := h.2.1; rw [HT.out] at this; omega)
    have hx' : (12 : Int) < (t.size : Int) := by omega
    subst e1 e2
    clear hok
    go_wp2
    go_ret
    exact ⟨rfl, B7.out⟩
  have hx' : ¬ (12 : Int) < (t.size : Int) := by omega
  have hl : t.data.toList.length ≤ 12 := by rw [HT.out]; omega
  have HEE : Hid (E = if null r = true then 0 else -1) := by show _ = _; rw [← HE.out, ← HT.out]; exact ends_end hok hl
  have HFF : Hid (F = (t.size : Int) ↔ matchIs r t.data.toList = true) := by show _ ↔ _; rw [← HF.out, ← HT.out]; exact ends_all hok hl
  have HG : Hid (matchLong r t.data.toList ((t.size : Int) + 1) = -1) := matchLong_no fun h => by have := h.2.2.2; rw [HT.out] at this; omega
  have HNU := Lib.hid (rexNull_ok hok)
  clear hok hl HE HF
  obtain ⟨b, hb⟩ : ∃ b, b = null r := ⟨_, rfl⟩
  rw [← hb] at HEE HNU
  obtain ⟨m, hm⟩ : ∃ m, m = matchIs r t.data.toList := ⟨_, rfl⟩
  rw [← hm] at HFF
  have HM := Lib.hid hm
  clear hb hm
  cases b
  · obtain rfl : E = -1 := HEE.out
    cases m
    · have hfne : (F == (t.size : Int)) = false := by
        have := HFF.out
        simp at this
        simpa using this
      go_wp2_with fail
      refine (iRexNull_c r _ _ _ 0 V7.out hs1).mono ?_
      rintro e w8 ⟨rfl, b8⟩
      have M8 := Lib.hid (M7.out.below b8)
      have V8 := Lib.hid (V7.out.under b8)
      have B8 := Lib.hid (below_then B7.out b8)
      clear b8 x x' x'' M7 V7 B7
      have x := ((M8.out).cell 0).trans rfl
      have x' := ((M8.out).cell 1).trans rfl
      have x'' := ((M8.out).cell 2).trans rfl
      rw [HNU.out]
      go_wp2_with fail
      refine (iMatchIs_c r t _ _ _ 0 V8.out hs1).mono ?_
      rintro e w9 ⟨rfl, b9⟩
      have M9 := Lib.hid (M8.out.below b9)
      have V9 := Lib.hid (V8.out.under b9)
      have B9 := Lib.hid (below_then B8.out b9)
      clear b9 x x' x'' M8 V8 B8
      have x := ((M9.out).cell 0).trans rfl
      have x' := ((M9.out).cell 1).trans rfl
      have x'' := ((M9.out).cell 2).trans rfl
      rw [← HM.out]
      go_wp2_with fail
      refine (iMatchLong_c r t _ _ _ _ 0 V9.out hs1).mono ?_
      rintro e w10 ⟨rfl, b10⟩
      rw [HG.out]
      clear x x' x''
      go_wp2
      go_ret
      exact ⟨rfl, below_then B9.out b10⟩
    · obtain rfl : F = (t.size : Int) := HFF.out.2 rfl
      go_wp2_with fail
      refine (iRexNull_c r _ _ _ 0 V7.out hs1).mono ?_
      rintro e w8 ⟨rfl, b8⟩
      have M8 := Lib.hid (M7.out.below b8)
      have V8 := Lib.hid (V7.out.under b8)
      have B8 := Lib.hid (below_then B7.out b8)
      clear b8 x x' x'' M7 V7 B7
      have x := ((M8.out).cell 0).trans rfl
      have x' := ((M8.out).cell 1).trans rfl
      have x'' := ((M8.out).cell 2).trans rfl
      rw [HNU.out]
      go_wp2_with fail
      refine (iMatchIs_c r t _ _ _ 0 V8.out hs1).mono ?_
      rintro e w9 ⟨rfl, b9⟩
      have M9 := Lib.hid (M8.out.below b9)
      have V9 := Lib.hid (V8.out.under b9)
      have B9 := Lib.hid (below_then B8.out b9)
      clear b9 x x' x'' M8 V8 B8
      have x := ((M9.out).cell 0).trans rfl
      have x' := ((M9.out).cell 1).trans rfl
      have x'' := ((M9.out).cell 2).trans rfl
      rw [← HM.out]
      go_wp2_with fail
      refine (iMatchLong_c r t _ _ _ _ 0 V9.out hs1).mono ?_
      rintro e w10 ⟨rfl, b10⟩
      rw [HG.out]
      clear x x' x''
      go_wp2
      go_ret
      exact ⟨rfl, below_then B9.out b10⟩
  · obtain rfl : E = 0 := HEE.out
    cases m
    · have hfne : (F == (t.size : Int)) = false := by
        have := HFF.out
        simp at this
        simpa using this
      go_wp2_with fail
      refine (iRexNull_c r _ _ _ 0 V7.out hs1).mono ?_
      rintro e w8 ⟨rfl, b8⟩
      have M8 := Lib.hid (M7.out.below b8)
      have V8 := Lib.hid (V7.out.under b8)
      have B8 := Lib.hid (below_then B7.out b8)
      clear b8 x x' x'' M7 V7 B7
      have x := ((M8.out).cell 0).trans rfl
      have x' := ((M8.out).cell 1).trans rfl
      have x'' := ((M8.out).cell 2).trans rfl
      rw [HNU.out]
      go_wp2_with fail
      refine (iMatchIs_c r t _ _ _ 0 V8.out hs1).mono ?_
      rintro e w9 ⟨rfl, b9⟩
      have M9 := Lib.hid (M8.out.below b9)
      have V9 := Lib.hid (V8.out.under b9)
      have B9 := Lib.hid (below_then B8.out b9)
      clear b9 x x' x'' M8 V8 B8
      have x := ((M9.out).cell 0).trans rfl
      have x' := ((M9.out).cell 1).trans rfl
      have x'' := ((M9.out).cell 2).trans rfl
      rw [← HM.out]
      go_wp2_with fail
      refine (iMatchLong_c r t _ _ _ _ 0 V9.out hs1).mono ?_
      rintro e w10 ⟨rfl, b10⟩
      rw [HG.out]
      clear x x' x''
      go_wp2
      go_ret
      exact ⟨rfl, below_then B9.out b10⟩
    · obtain rfl : F = (t.size : Int) := HFF.out.2 rfl
      go_wp2_with fail
      refine (iRexNull_c r _ _ _ 0 V7.out hs1).mono ?_
      rintro e w8 ⟨rfl, b8⟩
      have M8 := Lib.hid (M7.out.below b8)
      have V8 := Lib.hid (V7.out.under b8)
      have B8 := Lib.hid (below_then B7.out b8)
      clear b8 x x' x'' M7 V7 B7
      have x := ((M8.out).cell 0).trans rfl
      have x' := ((M8.out).cell 1).trans rfl
      have x'' := ((M8.out).cell 2).trans rfl
      rw [HNU.out]
      go_wp2_with fail
      refine (iMatchIs_c r t _ _ _ 0 V8.out hs1).mono ?_
      rintro e w9 ⟨rfl, b9⟩
      have M9 := Lib.hid (M8.out.below b9)
      have V9 := Lib.hid (V8.out.under b9)
      have B9 := Lib.hid (below_then B8.out b9)
      clear b9 x x' x'' M8 V8 B8
      have x := ((M9.out).cell 0).trans rfl
      have x' := ((M9.out).cell 1).trans rfl
      have x'' := ((M9.out).cell 2).trans rfl
      rw [← HM.out]
      go_wp2_with fail
      refine (iMatchLong_c r t _ _ _ _ 0 V9.out hs1).mono ?_
      rintro e w10 ⟨rfl, b10⟩
      rw [HG.out]
      clear x x' x''
      go_wp2
      go_ret
      exact ⟨rfl, below_then B9.out b10⟩

end Go.Proofs.Ytplhbjpkkhhilaa
