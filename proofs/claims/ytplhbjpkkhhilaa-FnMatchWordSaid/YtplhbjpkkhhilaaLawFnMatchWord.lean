/- The law FnMatchWord: limits are enforced uniformly. -/
import Derived.Test.YtplhbjpkkhhilaaG10
import Derived.Test.YtplhbjpkkhhilaaG12
import Derived.Test.YtplhbjpkkhhilaaG2
import Derived.BigQuiet
namespace Go.Proofs.Ytplhbjpkkhhilaa
set_option linter.unusedSimpArgs false
set_option linter.unusedVariables false
open Go.RowKit

set_option maxRecDepth 100000 in
set_option maxHeartbeats 4000000 in
theorem lawFnMatchWord_c (A0 : Option Addr) (c0 : Nat) (bs0 : List Int) (A1 : Option Addr) (c1 : Nat) (bs1 : List Int) (w : World) (h0 : Bys w 0 A0 c0 bs0) (h1 : Bys w 0 A1 c1 bs1) :
    Calls Try.prog 5 #[.slice A0 bs0.length c0, .slice A1 bs1.length c1] w fun e w' => e = .returned (.bool true) ∧ Below w.heap.size w w' := by
  have hl0 := h0.len
  have hl1 := h1.len
  unfold maxN at hl0 hl1
  go_enter Try.func5, Try.ntmps5
  by_cases hb0 : (1048576 : Int) < bs0.length
  · go_wp2
    go_ret
    exact ⟨rfl, Below.refl _ _⟩
  by_cases hb1 : (1048576 : Int) < bs1.length
  · go_wp2
    go_ret
    exact ⟨rfl, Below.refl _ _⟩
  clear hl0 hl1
  go_wp2_with fail
  refine (drawIs_c _ _ _ _ h1).mono ?_
  rintro e w1 ⟨r, A, c, K, ck, t0, rfl, hv, hs, _, b1⟩
  clear hb0 hb1 h1
  go_wp2_with fail
  obtain ⟨wc, hwc⟩ : ∃ x, x = w1.alloc (.cells #[.int .i64 r.kind, .slice A r.set.length c, .slice K r.kids.length ck] TRx) := ⟨_, rfl⟩
  have hbc : Below w1.heap.size w1 wc := by rw [hwc]; exact below_alloc (Below.refl _ _) _
  have Mwc : Hid (Blk wc w1.heap.size #[.int .i64 r.kind, .slice A r.set.length c, .slice K r.kids.length ck] TRx) := by rw [hwc]; exact blk_new w1 _ _
  rw [← hwc]
  clear hwc
  have bc := below_then b1 hbc
  have HVc := Lib.hid (hv.rexv.under hbc)
  refine (drawWord_c _ _ _ _ (h0.below (lo := 0) bc)).mono ?_
  rintro e w2 ⟨t, rfl, ht, b2⟩
  have B2 := Lib.hid (below_then bc b2)
  have HV2 := Lib.hid (HVc.out.under b2)
  have M2 := Lib.hid (Mwc.out.below b2)
  clear b2 bc hbc hv b1 HVc Mwc h0
  have HT := Lib.hid (tl_len t)
  go_wp2_with fail
  refine (iWord_c _ _).mono ?_
  rintro e w3 ⟨rfl, rfl⟩
  obtain ⟨wx, hwx⟩ : ∃ x, x = (w2.alloc (.cells #[.int .i64 r.kind, .slice A r.set.length c, .slice K r.kids.length ck] TRx)).alloc (.cells #[.int .i64 7, nilS, .slice (some ⟨w2.heap.size, 0, none⟩) 1 1] TRx) := ⟨_, rfl⟩
  obtain ⟨hn, mn, bx⟩ := box_one 7 HV2.out hwx
  have HN := Lib.hid hn
  have MN := Lib.hid mn
  have HVx := Lib.hid (HV2.out.under bx)
  have Mx := Lib.hid (M2.out.below bx)
  have Bx := Lib.hid (below_then B2.out bx)
  have hsn : (Rex.mk 7 [] [r]).size ≤ 1048576 := by rw [size_one]; omega
  clear hn mn bx HV2
  replace hwx := Lib.hid hwx.symm
  have n := ((M2.out).cell 0).trans rfl
  have n' := ((M2.out).cell 1).trans rfl
  have n'' := ((M2.out).cell 2).trans rfl
  by_cases hx : t.size ≤ 12
  · rw [decide_eq_true (show (t.size : Int) ≤ 12 by omega)]
    have hx' : (t.size : Int) ≤ 12 := by omega
    go_wp2_with fail
    refine (sWord_c _ _).mono ?_
    rintro e w4 ⟨rfl, rfl⟩
    rw [decide_eq_true (show (t.size : Int) ≤ 12 by omega)]
    go_wp2_with fail
    rw [hwx.out]
    clear n n' n'' hwx
    refine (iRexOk_c (.mk 7 [] [r]) _ _ wx 0 HN.out hsn).mono ?_
    rintro e w5 ⟨rfl, b5⟩
    have B5 := Lib.hid (below_then Bx.out b5)
    by_cases hok : rexOk (.mk 7 [] [r]) = true
    rotate_left
    · rw [show rexOk (.mk 7 [] [r]) = false by simpa using hok]
      clear hok b5
      go_wp2
      go_ret
      exact ⟨rfl, B5.out⟩
    have HOK := Lib.hid hok
    rw [hok]
    have M5 := Lib.hid (Mx.out.below b5)
    have MN5 := Lib.hid (MN.out.below b5)
    have HV5 := Lib.hid (HVx.out.under b5)
    have HN5 := Lib.hid (HN.out.under b5)
    have hsr : r.size ≤ 1048576 := by omega
    clear hok b5 Mx MN HVx HN
    have N : ∀ x : BW w5, x.w1.cell? ⟨w1.heap.size, 0, none⟩ = some (.int .i64 r.kind) := fun x => (((M5.out).below x.up).cell 0).trans rfl
    have N' : ∀ x : BW w5, x.w1.cell? ⟨w1.heap.size, 1, none⟩ = some (.slice A r.set.length c) := fun x => (((M5.out).below x.up).cell 1).trans rfl
    have N'' : ∀ x : BW w5, x.w1.cell? ⟨w1.heap.size, 2, none⟩ = some (.slice K r.kids.length ck) := fun x => (((M5.out).below x.up).cell 2).trans rfl
    have Y : ∀ x : BW w5, x.w1.cell? ⟨w2.heap.size + 1, 0, none⟩ = some (.int .i64 7) := fun x => (((MN5.out).below x.up).cell 0).trans rfl
    have Y' : ∀ x : BW w5, x.w1.cell? ⟨w2.heap.size + 1, 1, none⟩ = some (nilS) := fun x => (((MN5.out).below x.up).cell 1).trans rfl
    have Y'' : ∀ x : BW w5, x.w1.cell? ⟨w2.heap.size + 1, 2, none⟩ = some (.slice (some ⟨w2.heap.size, 0, none⟩) 1 1) := fun x => (((MN5.out).below x.up).cell 2).trans rfl
    have hm := matchIs_not (t := t.data.toList) HOK.out (by rw [HT.out]; exact hx)
    cases hb : matchIs r t.data.toList
    · rw [hb] at hm
      replace hm := Lib.hid hm
      replace hb := Lib.hid hb
      have E1 : Hid (matchIs r t.data.toList = false) := hb.out
      have E2 : Hid (matchIs (.mk 7 [] [r]) t.data.toList = true) := hm.out
      go_upto_region 11 with fail
      refine wp_region_bw (by kernel_rfl) (by kernel_rfl) ?_
      repeat (go_big_quiet_step ((first | (go_at_call 28; with_reducible exact Calls.bw (bv E1.out) (iMatchIs_c r t _ _ _ _ (HV5.out.under (BW.up _)) hsr)) | (go_at_call 28; exact Calls.bw (bv E2.out) (iMatchIs_c (.mk 7 [] [r]) t _ _ _ _ (HN5.out.under (BW.up _)) hsn)))))
      refine wpQuiet_nil ?_
      rintro w6 ⟨x6, y6⟩
      have b6 : Below w5.heap.size w5 w6 := y6 ▸ x6.up
      clear N N' N'' Y Y' Y'' y6
      go_wp2
      go_ret
      exact ⟨rfl, below_then B5.out b6⟩
    · rw [hb] at hm
      replace hm := Lib.hid hm
      replace hb := Lib.hid hb
      have E1 : Hid (matchIs r t.data.toList = true) := hb.out
      have E2 : Hid (matchIs (.mk 7 [] [r]) t.data.toList = false) := hm.out
      go_upto_region 11 with fail
      refine wp_region_bw (by kernel_rfl) (by kernel_rfl) ?_
      repeat (go_big_quiet_step ((first | (go_at_call 28; with_reducible exact Calls.bw (bv E1.out) (iMatchIs_c r t _ _ _ _ (HV5.out.under (BW.up _)) hsr)) | (go_at_call 28; exact Calls.bw (bv E2.out) (iMatchIs_c (.mk 7 [] [r]) t _ _ _ _ (HN5.out.under (BW.up _)) hsn)))))
      refine wpQuiet_nil ?_
      rintro w6 ⟨x6, y6⟩
      have b6 : Below w5.heap.size w5 w6 := y6 ▸ x6.up
      clear N N' N'' Y Y' Y'' y6
      go_wp2
      go_ret
      exact ⟨rfl, below_then B5.out b6⟩
  · rw [decide_eq_false (show ¬ (t.size : Int) ≤ 12 by omega)]
    have hx' : ¬ (t.size : Int) ≤ 12 := by omega
    go_wp2_with fail
    refine (sWord_c _ _).mono ?_
    rintro e w4 ⟨rfl, rfl⟩
    rw [decide_eq_false (show ¬ (t.size : Int) ≤ 12 by omega)]
    go_wp2_with fail
    rw [hwx.out]
    clear n n' n'' hwx
    refine (iRexOk_c (.mk 7 [] [r]) _ _ wx 0 HN.out hsn).mono ?_
    rintro e w5 ⟨rfl, b5⟩
    have B5 := Lib.hid (below_then Bx.out b5)
    by_cases hok : rexOk (.mk 7 [] [r]) = true
    rotate_left
    · rw [show rexOk (.mk 7 [] [r]) = false by simpa using hok]
      clear hok b5
      go_wp2
      go_ret
      exact ⟨rfl, B5.out⟩
    have HOK := Lib.hid hok
    rw [hok]
    have M5 := Lib.hid (Mx.out.below b5)
    have MN5 := Lib.hid (MN.out.below b5)
    have HV5 := Lib.hid (HVx.out.under b5)
    have HN5 := Lib.hid (HN.out.under b5)
    have hsr : r.size ≤ 1048576 := by omega
    clear hok b5 Mx MN HVx HN
    have N : ∀ x : BW w5, x.w1.cell? ⟨w1.heap.size, 0, none⟩ = some (.int .i64 r.kind) := fun x => (((M5.out).below x.up).cell 0).trans rfl
    have N' : ∀ x : BW w5, x.w1.cell? ⟨w1.heap.size, 1, none⟩ = some (.slice A r.set.length c) := fun x => (((M5.out).below x.up).cell 1).trans rfl
    have N'' : ∀ x : BW w5, x.w1.cell? ⟨w1.heap.size, 2, none⟩ = some (.slice K r.kids.length ck) := fun x => (((M5.out).below x.up).cell 2).trans rfl
    have Y : ∀ x : BW w5, x.w1.cell? ⟨w2.heap.size + 1, 0, none⟩ = some (.int .i64 7) := fun x => (((MN5.out).below x.up).cell 0).trans rfl
    have Y' : ∀ x : BW w5, x.w1.cell? ⟨w2.heap.size + 1, 1, none⟩ = some (nilS) := fun x => (((MN5.out).below x.up).cell 1).trans rfl
    have Y'' : ∀ x : BW w5, x.w1.cell? ⟨w2.heap.size + 1, 2, none⟩ = some (.slice (some ⟨w2.heap.size, 0, none⟩) 1 1) := fun x => (((MN5.out).below x.up).cell 2).trans rfl
    have hm : matchIs (.mk 7 [] [r]) t.data.toList = false := matchIs_no2 (by rw [HT.out]; exact hx)
    have hb : matchIs r t.data.toList = false := matchIs_no2 (by rw [HT.out]; exact hx)
    replace hm := Lib.hid hm
    replace hb := Lib.hid hb
    have E1 : Hid (matchIs r t.data.toList = false) := hb.out
    have E2 : Hid (matchIs (.mk 7 [] [r]) t.data.toList = false) := hm.out
    go_upto_region 11 with fail
    refine wp_region_bw (by kernel_rfl) (by kernel_rfl) ?_
    repeat (go_big_quiet_step ((first | (go_at_call 28; with_reducible exact Calls.bw (bv E1.out) (iMatchIs_c r t _ _ _ _ (HV5.out.under (BW.up _)) hsr)) | (go_at_call 28; exact Calls.bw (bv E2.out) (iMatchIs_c (.mk 7 [] [r]) t _ _ _ _ (HN5.out.under (BW.up _)) hsn)))))
    refine wpQuiet_nil ?_
    rintro w6 ⟨x6, y6⟩
    have b6 : Below w5.heap.size w5 w6 := y6 ▸ x6.up
    clear N N' N'' Y Y' Y'' y6
    go_wp2
    go_ret
    exact ⟨rfl, below_then B5.out b6⟩

end Go.Proofs.Ytplhbjpkkhhilaa
