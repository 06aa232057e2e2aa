/- The law FnMatchLong: the longest match is really the longest. -/
import Derived.Test.YtplhbjpkkhhilaaMl2
import Derived.Test.YtplhbjpkkhhilaaG10
import Derived.Test.YtplhbjpkkhhilaaG12
import Derived.Test.YtplhbjpkkhhilaaG2
import Derived.BigQuiet
namespace Go.Proofs.Ytplhbjpkkhhilaa
set_option linter.unusedSimpArgs false
set_option linter.unusedVariables false
open Go.RowKit

set_option maxRecDepth 100000 in
set_option maxHeartbeats 4000000 in
theorem lawFnMatchLong_c (A0 : Option Addr) (c0 : Nat) (bs0 : List Int) (w : World) (h0 : Bys w 0 A0 c0 bs0) :
    Calls Try.prog 8 #[.slice A0 bs0.length c0] w fun e w' => e = .returned (.bool true) ∧ Below w.heap.size w w' := by
  have hl0 := h0.len
  unfold maxN at hl0
  go_enter Try.func8, Try.ntmps8
  by_cases hb0 : (1048576 : Int) < bs0.length
  · go_wp2
    go_ret
    exact ⟨rfl, Below.refl _ _⟩
  clear hl0
  go_wp2_with fail
  refine (drawLong_c _ _ _ _ h0).mono ?_
  rintro e w1 ⟨r, A, c, K, ck, t, p, rfl, hv, hs, ht, hp0, hp1, b1⟩
  clear hb0 h0
  go_wp2_with fail
  obtain ⟨w2, hwc⟩ : ∃ x, x = w1.alloc (.cells #[.int .i64 r.kind, .slice A r.set.length c, .slice K r.kids.length ck] TRx) := ⟨_, rfl⟩
  have hbc : Below w1.heap.size w1 w2 := by rw [hwc]; exact below_alloc (Below.refl _ _) _
  have Mw2 : Hid (Blk w2 w1.heap.size #[.int .i64 r.kind, .slice A r.set.length c, .slice K r.kids.length ck] TRx) := by rw [hwc]; exact blk_new w1 _ _
  rw [← hwc]
  clear hwc
  have B2 := Lib.hid (below_then b1 hbc)
  have V2 := Lib.hid (hv.rexv.under hbc)
  have M2 := Mw2
  clear b1 hbc hv Mw2
  have HT : Hid (t.data.toList.length = t.size) := tl_len t
  obtain ⟨N, hN⟩ : ∃ N, N = matchLong r t.data.toList p := ⟨_, rfl⟩
  have HN := Lib.hid hN.symm
  clear hN
  have hs1 : r.size ≤ 1048576 := by omega
  have x := ((M2.out).cell 0).trans rfl
  have x' := ((M2.out).cell 1).trans rfl
  have x'' := ((M2.out).cell 2).trans rfl
  refine (iMatchLong_c r t _ _ _ _ 0 V2.out hs1).mono ?_
  rintro e w3 ⟨rfl, b3⟩
  have M3 := Lib.hid (M2.out.below b3)
  have V3 := Lib.hid (V2.out.under b3)
  have B3 := Lib.hid (below_then B2.out b3)
  clear b3 x x' x'' M2 V2 B2
  have x := ((M3.out).cell 0).trans rfl
  have x' := ((M3.out).cell 1).trans rfl
  have x'' := ((M3.out).cell 2).trans rfl
  rw [HN.out]
  go_wp2_with fail
  refine (sMatchLong_c r t _ _ _ _ 0 V3.out hs1).mono ?_
  rintro e w4 ⟨rfl, b4⟩
  have M4 := Lib.hid (M3.out.below b4)
  have V4 := Lib.hid (V3.out.under b4)
  have B4 := Lib.hid (below_then B3.out b4)
  clear b4 x x' x'' M3 V3 B3
  have x := ((M4.out).cell 0).trans rfl
  have x' := ((M4.out).cell 1).trans rfl
  have x'' := ((M4.out).cell 2).trans rfl
  rw [HN.out]
  go_wp2_with fail
  refine (sRexOk_c r _ _ _ 0 V4.out hs1).mono ?_
  rintro e w5 ⟨rfl, b5⟩
  have M5 := Lib.hid (M4.out.below b5)
  have V5 := Lib.hid (V4.out.under b5)
  have B5 := Lib.hid (below_then B4.out b5)
  clear b5 x x' x'' M4 V4 B4
  have x := ((M5.out).cell 0).trans rfl
  have x' := ((M5.out).cell 1).trans rfl
  have x'' := ((M5.out).cell 2).trans rfl
  by_cases hok : rexOk r = true
  rotate_left
  · have e1 : N = -1 := by rw [← HN.out]; exact matchLong_no fun h => hok h.1
    rw [show rexOk r = false by simpa using hok]
    clear hok
    subst e1
    go_wp2
    go_ret
    exact ⟨rfl, B5.out⟩
  rw [hok]
  by_cases h1 : p < 0
  · have e1 : N = -1 := by rw [← HN.out]; exact matchLong_no fun h => by have := h.2.2.1; omega
    clear hok
    subst e1
    go_wp2
    go_ret
    exact ⟨rfl, B5.out⟩
  by_cases h2 : (t.size : Int) < p
  · have e1 : N = -1 := by rw [← HN.out]; exact matchLong_no fun h => by have := h.2.2.2; rw [HT.out] at this; omega
    clear hok
    subst e1
    go_wp2
    go_ret
    exact ⟨rfl, B5.out⟩
  obtain ⟨q, rfl⟩ := Int.eq_ofNat_of_zero_le (show 0 ≤ p by omega)
  have hq : q ≤ t.size := by omega
  have hl : t.data.toList.length ≤ 12 := by rw [HT.out]; omega
  have hspec := longGo_spec (fun m => lang r ((t.data.toList.drop q).take m)) (t.size - q)
  have heq := matchLong_of (q := q) hok hl (by rw [HT.out]; exact hq)
  rw [HT.out, HN.out] at heq
  rw [← heq] at hspec
  have HI : Hid (∀ k, matchIs r (t.extract q (q + k)).data.toList = lang r ((t.data.toList.drop q).take k)) := fun k => by
    rw [matchIs_of hok (by rw [tl_len]; exact Nat.le_trans (ext_size _ _ _) (by omega)), Go.Lib.extract_data, Nat.add_sub_cancel_left]
  have HNL : Hid (rexNull r = lang r []) := by show _ = _; rw [rexNull_ok hok, lang_nil r 8 (rexOk_formed hok)]
  clear hok heq HN hl hp0 hp1
  have hc : Hid (∀ (w' : World) (k : Nat) (v : Bool), Below w5.heap.size w5 w' → lang r ((t.data.toList.drop q).take k) = v → ∀ x : BW w', Calls Try.prog 28 #[.agg #[.int .i64 r.kind, .slice A r.set.length c, .slice K r.kids.length ck], .string (t.extract q (q + k))] x.w1 fun e w'' => e = .returned (.bool v) ∧ ∃ y : BW w', w'' = y.w1) := fun w' k v hb hv x =>
    Calls.bw (bv ((HI.out k).trans hv)) (iMatchIs_c r _ _ _ _ 0 (V5.out.under (below_then hb x.up)) hs1)
  rcases hspec with ⟨e1, hf⟩ | ⟨m, e1, hm, ht1, hf⟩
  · subst e1
    have HF : Hid (∀ k, 0 ≤ k → k ≤ t.size - q → lang r ((t.data.toList.drop q).take k) = false) := fun k _ hk => hf k hk
    have HZ : Hid (rexNull r = false) := by show _ = _; rw [HNL.out]; have := hf 0 (Nat.zero_le _); simpa using this
    clear hf HNL
    go_wp2_with fail
    clear x x' x''
    have N : ∀ x : BW w5, x.w1.cell? ⟨w1.heap.size, 0, none⟩ = some (.int .i64 r.kind) := fun x => (((M5.out).below x.up).cell 0).trans rfl
    have N' : ∀ x : BW w5, x.w1.cell? ⟨w1.heap.size, 1, none⟩ = some (.slice A r.set.length c) := fun x => (((M5.out).below x.up).cell 1).trans rfl
    have N'' : ∀ x : BW w5, x.w1.cell? ⟨w1.heap.size, 2, none⟩ = some (.slice K r.kids.length ck) := fun x => (((M5.out).below x.up).cell 2).trans rfl
    refine wp_region_bw (by kernel_rfl) (by kernel_rfl) ?_
    repeat (go_big_quiet_step ((fail)))
    refine wpQuiet_nil ?_
    rintro w6 ⟨x6, y6⟩
    have b6 : Below w5.heap.size w5 w6 := y6 ▸ x6.up
    clear N N' N'' y6
    go_wp2_with fail
    go_loopg [7] (t.size - q + 1 - 0) (fun n v wr => ∃ k : Nat, v = .int .i64 k ∧ k + n = t.size - q + 1 ∧ 0 ≤ k ∧ Hid (Below w5.heap.size w5 wr))
    case atStart => exact ⟨0, by first | rfl | (congr 1; done) | go_num, by omega, Nat.le_refl _, b6⟩
    case round =>
      obtain ⟨k, rfl, hkn, hk0, HB⟩ := hrel
      have MR := Lib.hid (M5.out.below HB.out)
      by_cases hlt : q + k ≤ t.size
      · have hlt' : (q : Int) + (k : Int) ≤ (t.size : Int) := by omega
        have hkk : (0 : Int) ≤ (k : Int) := by omega
        have ES := ext_size t q (q + k)
        have N : ∀ x : BW wr, x.w1.cell? ⟨w1.heap.size, 0, none⟩ = some (.int .i64 r.kind) := fun x => (((MR.out).below x.up).cell 0).trans rfl
        have N' : ∀ x : BW wr, x.w1.cell? ⟨w1.heap.size, 1, none⟩ = some (.slice A r.set.length c) := fun x => (((MR.out).below x.up).cell 1).trans rfl
        have N'' : ∀ x : BW wr, x.w1.cell? ⟨w1.heap.size, 2, none⟩ = some (.slice K r.kids.length ck) := fun x => (((MR.out).below x.up).cell 2).trans rfl
        have CM := Lib.hid (hc.out wr k false HB.out (HF.out k hk0 (by omega)))
        go_wp2_with fail
        refine wp_region_bw (by kernel_rfl) (by kernel_rfl) ?_
        repeat (go_big_quiet_step ((go_at_call 28; with_reducible exact CM.out _)))
        refine wpQuiet_nil ?_
        rintro w6 ⟨x6, y6⟩
        have b6 : Below wr.heap.size wr w6 := y6 ▸ x6.up
        clear N N' N'' CM y6
        go_wp2
        go_roundg (gk - 1)
        case rel => exact ⟨k + 1, by go_num, by omega, by omega, below_then HB.out b6⟩
        case measure => omega
      · have hlt' : ¬ (q : Int) + (k : Int) ≤ (t.size : Int) := by omega
        have x := ((MR.out).cell 0).trans rfl
        have x' := ((MR.out).cell 1).trans rfl
        have x'' := ((MR.out).cell 2).trans rfl
        go_wp2_with fail
        refine (iRexNull_c r _ _ wr 0 (V5.out.under HB.out) hs1).mono ?_
        rintro e w7 ⟨rfl, b7⟩
        rw [HZ.out]
        clear x x' x''
        go_wp2
        go_ret
        exact ⟨rfl, below_then B5.out (below_then HB.out b7)⟩
  · subst e1
    have HF : Hid (∀ k, m + 1 ≤ k → k ≤ t.size - q → lang r ((t.data.toList.drop q).take k) = false) := fun k h hk => hf k (by omega) hk
    have hm0 : (0 : Int) ≤ (m : Int) := by omega
    have ES0 := ext_size t q (q + m)
    have CM := Lib.hid (hc.out w5 m true (Below.refl _ _) ht1)
    clear hf HNL ht1
    go_wp2_with fail
    clear x x' x''
    have N : ∀ x : BW w5, x.w1.cell? ⟨w1.heap.size, 0, none⟩ = some (.int .i64 r.kind) := fun x => (((M5.out).below x.up).cell 0).trans rfl
    have N' : ∀ x : BW w5, x.w1.cell? ⟨w1.heap.size, 1, none⟩ = some (.slice A r.set.length c) := fun x => (((M5.out).below x.up).cell 1).trans rfl
    have N'' : ∀ x : BW w5, x.w1.cell? ⟨w1.heap.size, 2, none⟩ = some (.slice K r.kids.length ck) := fun x => (((M5.out).below x.up).cell 2).trans rfl
    refine wp_region_bw (by kernel_rfl) (by kernel_rfl) ?_
    repeat (go_big_quiet_step ((go_at_call 28; with_reducible exact CM.out _)))
    refine wpQuiet_nil ?_
    rintro w6 ⟨x6, y6⟩
    have b6 : Below w5.heap.size w5 w6 := y6 ▸ x6.up
    clear N N' N'' y6 CM
    go_wp2_with fail
    go_loopg [7] (t.size - q + 1 - (m + 1)) (fun n v wr => ∃ k : Nat, v = .int .i64 k ∧ k + n = t.size - q + 1 ∧ (m + 1) ≤ k ∧ Hid (Below w5.heap.size w5 wr))
    case atStart => exact ⟨(m + 1), by first | rfl | (congr 1; done) | go_num, by omega, Nat.le_refl _, b6⟩
    case round =>
      obtain ⟨k, rfl, hkn, hk0, HB⟩ := hrel
      have MR := Lib.hid (M5.out.below HB.out)
      by_cases hlt : q + k ≤ t.size
      · have hlt' : (q : Int) + (k : Int) ≤ (t.size : Int) := by omega
        have hkk : (0 : Int) ≤ (k : Int) := by omega
        have ES := ext_size t q (q + k)
        have N : ∀ x : BW wr, x.w1.cell? ⟨w1.heap.size, 0, none⟩ = some (.int .i64 r.kind) := fun x => (((MR.out).below x.up).cell 0).trans rfl
        have N' : ∀ x : BW wr, x.w1.cell? ⟨w1.heap.size, 1, none⟩ = some (.slice A r.set.length c) := fun x => (((MR.out).below x.up).cell 1).trans rfl
        have N'' : ∀ x : BW wr, x.w1.cell? ⟨w1.heap.size, 2, none⟩ = some (.slice K r.kids.length ck) := fun x => (((MR.out).below x.up).cell 2).trans rfl
        have CM := Lib.hid (hc.out wr k false HB.out (HF.out k hk0 (by omega)))
        go_wp2_with fail
        refine wp_region_bw (by kernel_rfl) (by kernel_rfl) ?_
        repeat (go_big_quiet_step ((go_at_call 28; with_reducible exact CM.out _)))
        refine wpQuiet_nil ?_
        rintro w6 ⟨x6, y6⟩
        have b6 : Below wr.heap.size wr w6 := y6 ▸ x6.up
        clear N N' N'' CM y6
        go_wp2
        go_roundg (gk - 1)
        case rel => exact ⟨k + 1, by go_num, by omega, by omega, below_then HB.out b6⟩
        case measure => omega
      · have hlt' : ¬ (q : Int) + (k : Int) ≤ (t.size : Int) := by omega
        have x := ((MR.out).cell 0).trans rfl
        have x' := ((MR.out).cell 1).trans rfl
        have x'' := ((MR.out).cell 2).trans rfl
        have hmq : (q : Int) + (m : Int) ≤ (t.size : Int) := by omega
        go_wp2
        go_ret
        exact ⟨rfl, below_then B5.out HB.out⟩

end Go.Proofs.Ytplhbjpkkhhilaa
