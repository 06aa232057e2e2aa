/- The law FnMatch: matching means exactly what the patterns say. -/
import Derived.Test.YtplhbjpkkhhilaaMl3
import Derived.Test.YtplhbjpkkhhilaaG10
import Derived.Test.YtplhbjpkkhhilaaG12
import Derived.Test.YtplhbjpkkhhilaaG2
import Derived.BigQuiet
namespace Go.Proofs.Ytplhbjpkkhhilaa
set_option linter.unusedSimpArgs false
set_option linter.unusedVariables false
open Go.RowKit

theorem star_cat (f : Txt → Bool) (t : Txt) : starB f t = (t.isEmpty || catGo f (starB f) t t.length 1) := by
  rw [starB_first, catGo_any]
  congr 1
  rw [Bool.eq_iff_iff, List.any_eq_true, List.any_eq_true]
  simp only [Nat.add_comm]
set_option maxRecDepth 100000 in
set_option maxHeartbeats 8000000 in
theorem lawFnMatch_c (A0 : Option Addr) (c0 : Nat) (bs0 : List Int) (w : World) (h0 : Bys w 0 A0 c0 bs0) :
    Calls Try.prog 7 #[.slice A0 bs0.length c0] w fun e w' => e = .returned (.bool true) ∧ Below w.heap.size w w' := by
  have hl0 := h0.len
  unfold maxN at hl0
  go_enter Try.func7, Try.ntmps7
  by_cases hb0 : (1048576 : Int) < bs0.length
  · go_wp2
    go_ret
    exact ⟨rfl, Below.refl _ _⟩
  clear hl0
  go_wp2_with fail
  refine (drawIs_c _ _ _ _ h0).mono ?_
  rintro e w1 ⟨r, A, c, K, ck, t, rfl, hv, hs, ht, b1⟩
  clear hb0 h0
  go_wp2_with fail
  obtain ⟨w2, hwc⟩ : ∃ x, x = w1.alloc (.cells #[.int .i64 r.kind, .slice A r.set.length c, .slice K r.kids.length ck] TRx) := ⟨_, rfl⟩
  have hbc : Below w1.heap.size w1 w2 := by rw [hwc]; exact below_alloc (Below.refl _ _) _
  have Mw2 : Hid (Blk w2 w1.heap.size #[.int .i64 r.kind, .slice A r.set.length c, .slice K r.kids.length ck] TRx) := by rw [hwc]; exact blk_new w1 _ _
  rw [← hwc]
  clear hwc
  have B2 := Lib.hid (below_then b1 hbc)
  have V2 := Lib.hid (hv.rexv.under hbc)
  have M2 := Mw2
  have K2 := Lib.hid (Below.refl w2.heap.size w2)
  clear b1 hbc hv Mw2
  have HT : Hid (∀ t : ByteArray, t.data.toList.length = t.size) := tl_len
  have hs1 : r.size ≤ 1048576 := by omega
  obtain ⟨is, his'⟩ : ∃ p, p = matchIs r t.data.toList := ⟨_, rfl⟩
  have his := Lib.hid his'
  clear his'
  have x := ((M2.out).cell 0).trans rfl
  have x' := ((M2.out).cell 1).trans rfl
  have x'' := ((M2.out).cell 2).trans rfl
  refine (iMatchIs_c r t _ _ w2 0 V2.out hs1).mono ?_
  rintro e w3 ⟨rfl, b3⟩
  have K3 := Lib.hid (below_then K2.out b3)
  clear b3 x x' x''
  have x := ((M2.out.below K3.out).cell 0).trans rfl
  have x' := ((M2.out.below K3.out).cell 1).trans rfl
  have x'' := ((M2.out.below K3.out).cell 2).trans rfl
  rw [← his.out]
  go_wp2_with fail
  refine (sMatchIs_c r t _ _ w3 0 (V2.out.under K3.out) hs1).mono ?_
  rintro e w4 ⟨rfl, b4⟩
  have K4 := Lib.hid (below_then K3.out b4)
  clear b4 x x' x''
  have x := ((M2.out.below K4.out).cell 0).trans rfl
  have x' := ((M2.out.below K4.out).cell 1).trans rfl
  have x'' := ((M2.out.below K4.out).cell 2).trans rfl
  rw [← his.out]
  go_wp2_with fail
  refine (iWord_c _ _).mono ?_
  rintro e w5 ⟨rfl, rfl⟩
  go_wp2_with fail
  refine (sWord_c _ _).mono ?_
  rintro e w5 ⟨rfl, rfl⟩
  go_wp2_with fail
  refine (sRexOk_c r _ _ w4 0 (V2.out.under K4.out) hs1).mono ?_
  rintro e w5 ⟨rfl, b5⟩
  have K5 := Lib.hid (below_then K4.out b5)
  clear b5 x x' x''
  by_cases hok : rexOk r = true
  rotate_left
  · have hf : rexOk r = false := by simpa using hok
    have h0 : is = false := by rw [his.out]; exact matchIs_no1 hf
    subst h0
    rw [hf]
    clear hok hf his
    go_wp2
    go_ret
    exact ⟨rfl, below_then B2.out K5.out⟩
  rw [hok]
  go_wp2_with fail
  refine (sWord_c _ _).mono ?_
  rintro e w6 ⟨rfl, rfl⟩
  by_cases hx : t.size ≤ 12
  rotate_left
  · have h0 : is = false := by rw [his.out]; exact matchIs_no2 (by rw [HT.out]; exact hx)
    subst h0
    rw [decide_eq_false (show ¬ (t.size : Int) ≤ 12 by omega)]
    clear hok his
    go_wp2
    go_ret
    exact ⟨rfl, below_then B2.out K5.out⟩
  rw [decide_eq_true (show (t.size : Int) ≤ 12 by omega)]
  have hl : t.data.toList.length ≤ 12 := by rw [HT.out]; exact hx
  have HL : Hid (is = lang r t.data.toList) := by show _ = _; rw [his.out, matchIs_of hok hl]
  have V5 := Lib.hid (V2.out.under K5.out)
  have M5 := Lib.hid (M2.out.below K5.out)
  have B5 := Lib.hid (below_then B2.out K5.out)
  have K5' := Lib.hid (Below.refl w5.heap.size w5)
  obtain ⟨bE, hE⟩ : ∃ bE, t.toList.isEmpty = bE := ⟨_, rfl⟩
  have HNU : Hid (bE = true → rexNull r = is) := fun h => by
    have e1 : t.data.toList = [] := by
      have h2 : t.toList.isEmpty = true := hE.trans h
      rw [ByteArray.toList_eq] at h2
      exact List.isEmpty_iff.1 h2
    rw [rexNull_ok hok, HL.out, e1, lang_nil r 8 (rexOk_formed hok)]
  have HOK := Lib.hid hok
  have hfo := rexOk_formed hok
  clear hok his V2 M2 B2 K2 K3 K4 K5 hl
  obtain ⟨k, s, ks⟩ := r
  dsimp only [Rex.kind, Rex.set, Rex.kids] at M5 V5
  rcases formed_shape hfo with ⟨e, rfl⟩ | ⟨e, a, rfl, ha⟩ | ⟨e, a, b, rfl, ha, hb⟩
  · clear hfo
    rcases e with rfl | rfl
    · obtain ⟨_, _, _, _, _, e2, _, hsp, _⟩ := V5.out.parts
      injection e2 with e4 e5 e6
      subst e4 e6
      have HSP := Lib.hid hsp
      clear e5 hsp
      dsimp only [Rex.set] at HSP
      have N : ∀ x : BW w5, x.w1.cell? ⟨w1.heap.size, 0, none⟩ = some (.int .i64 1) := fun x => (((M5.out).below x.up).cell 0).trans rfl
      have N' : ∀ x : BW w5, x.w1.cell? ⟨w1.heap.size, 1, none⟩ = some (.slice A s.length c) := fun x => (((M5.out).below x.up).cell 1).trans rfl
      have x : w5.cell? ⟨w1.heap.size, 0, none⟩ = some (.int .i64 1) := ((M5.out).cell 0).trans rfl
      have x' : w5.cell? ⟨w1.heap.size, 1, none⟩ = some (.slice A s.length c) := ((M5.out).cell 1).trans rfl
      have x'' : w5.cell? ⟨w1.heap.size, 2, none⟩ = some (.slice K 0 ck) := ((M5.out).cell 2).trans rfl
      by_cases h1 : t.size = 1
      · obtain ⟨i1, hl⟩ := byte0 t h1
        have d1 : ((t.size : Int) == 1) = true := by simp [h1]
        have i0 : (0 : Int) < (t.size : Int) := by omega
        have HH : Hid (setHas s (wrap64 (t[0].toNat : Int)) = is) := by show _ = _; rw [HL.out, lang1, hl, Go.IntWalk.wrap64_in _ (by have := t[0].toNat_lt; omega)]; rfl
        clear hl h1
        go_wp2_with fail
        refine wp_region_bw (by kernel_rfl) (by kernel_rfl) ?_
        repeat (go_big_quiet_step ((go_at_call 18; with_reducible exact Calls.bw (bv HH.out) (iSetHas_c _ _ _ _ _ (HSP.out.below (BW.up _))))))
        refine wpQuiet_nil ?_
        rintro w6 ⟨x6, y6⟩
        have b6 : Below w5.heap.size w5 w6 := y6 ▸ x6.up
        clear N N' y6 x x' x''
        have x : w6.cell? ⟨w1.heap.size, 0, none⟩ = some (.int .i64 1) := ((M5.out.below b6).cell 0).trans rfl
        have x' : w6.cell? ⟨w1.heap.size, 1, none⟩ = some (.slice A s.length c) := ((M5.out.below b6).cell 1).trans rfl
        have x'' : w6.cell? ⟨w1.heap.size, 2, none⟩ = some (.slice K 0 ck) := ((M5.out.below b6).cell 2).trans rfl
        cases bE
        · go_wp2
          go_ret
          exact ⟨rfl, below_then B5.out (b6)⟩
        · go_wp2_with fail
          refine (iRexNull_c _ _ _ w6 0 (V5.out.under (b6)) hs1).mono ?_
          rintro e wz ⟨rfl, bz⟩
          rw [HNU.out (by trivial)]
          clear x x' x''
          go_wp2
          go_ret
          exact ⟨rfl, below_then B5.out (below_then (b6) bz)⟩
      · have d1 : ((t.size : Int) == 1) = false := by rw [beq_eq_false_iff_ne]; omega
        have d1' : (t.size == 1) = false := by simp [h1]
        have h0 : false = is := by
          rw [HL.out, lang1]
          have e1 := tl_len t
          match t.data.toList, e1 with
          | [], _ => rfl
          | [x], e1 => simp at e1; omega
          | x :: y :: l, _ => rfl
        subst h0
        clear h1
        go_wp2_with fail
        refine wp_region_bw (by kernel_rfl) (by kernel_rfl) ?_
        repeat (go_big_quiet_step ((fail)))
        refine wpQuiet_nil ?_
        rintro w6 ⟨x6, y6⟩
        have b6 : Below w5.heap.size w5 w6 := y6 ▸ x6.up
        clear N N' y6 x x' x''
        have x : w6.cell? ⟨w1.heap.size, 0, none⟩ = some (.int .i64 1) := ((M5.out.below b6).cell 0).trans rfl
        have x' : w6.cell? ⟨w1.heap.size, 1, none⟩ = some (.slice A s.length c) := ((M5.out.below b6).cell 1).trans rfl
        have x'' : w6.cell? ⟨w1.heap.size, 2, none⟩ = some (.slice K 0 ck) := ((M5.out.below b6).cell 2).trans rfl
        cases bE
        · go_wp2
          go_ret
          exact ⟨rfl, below_then B5.out (b6)⟩
        · go_wp2_with fail
          refine (iRexNull_c _ _ _ w6 0 (V5.out.under (b6)) hs1).mono ?_
          rintro e wz ⟨rfl, bz⟩
          rw [HNU.out (by trivial)]
          clear x x' x''
          go_wp2
          go_ret
          exact ⟨rfl, below_then B5.out (below_then (b6) bz)⟩
    · have x : w5.cell? ⟨w1.heap.size, 0, none⟩ = some (.int .i64 2) := ((M5.out).cell 0).trans rfl
      have x' : w5.cell? ⟨w1.heap.size, 1, none⟩ = some (.slice A s.length c) := ((M5.out).cell 1).trans rfl
      have x'' : w5.cell? ⟨w1.heap.size, 2, none⟩ = some (.slice K 0 ck) := ((M5.out).cell 2).trans rfl
      have h0 : bE = is := by rw [HL.out, lang2, ← ByteArray.toList_eq]; exact hE.symm
      subst h0
      cases bE
      · go_wp2
        go_ret
        exact ⟨rfl, below_then B5.out (K5'.out)⟩
      · go_wp2_with fail
        refine (iRexNull_c _ _ _ w5 0 (V5.out.under (K5'.out)) hs1).mono ?_
        rintro e wz ⟨rfl, bz⟩
        rw [HNU.out (by trivial)]
        clear x x' x''
        go_wp2
        go_ret
        exact ⟨rfl, below_then B5.out (below_then (K5'.out) bz)⟩
  · clear hfo
    obtain ⟨_, _, _, _, _, _, e3, _, hkk⟩ := V5.out.parts
    injection e3 with e4 e5 e6
    subst e4 e6
    obtain ⟨ad, v1, v2, rfl, hva, c0, c1, c2⟩ := hkk.one
    have VA := Lib.hid hva
    have hsa : a.size ≤ 1048576 := by have h := hs; rw [Go.Proofs.Ytplhbjpkkhhilaa.Rex.size] at h; simp [sizeL] at h; omega
    have HA : Hid (∀ T : Txt, T.length ≤ 12 → matchIs a T = lang a T) := fun T hT => matchIs_of (rexOk_kid HOK.out (by simp)) hT
    clear hkk hva e5
    rcases e with rfl | rfl
    · have x : w5.cell? ⟨w1.heap.size, 0, none⟩ = some (.int .i64 5) := ((M5.out).cell 0).trans rfl
      have x' : w5.cell? ⟨w1.heap.size, 1, none⟩ = some (.slice A s.length c) := ((M5.out).cell 1).trans rfl
      have x'' : w5.cell? ⟨w1.heap.size, 2, none⟩ = some (.slice (some ad) 1 ck) := ((M5.out).cell 2).trans rfl
      have HST := Lib.hid (star_cat (lang a) t.data.toList)
      have HR : Hid (∀ T : Txt, T.length ≤ 12 → matchIs (.mk 5 s [a]) T = starB (lang a) T) := fun T hT => by rw [matchIs_of HOK.out hT, lang5]
      have HC0 : Hid ((bE || catGo (lang a) (starB (lang a)) t.data.toList t.size 1) = is) := by
        show _ = _
        rw [HL.out, lang5, HST.out, HT.out, ← hE, ByteArray.toList_eq]
      go_wp2_with fail
      clear x x' x''
      go_loopg [6, 8] (t.size) (fun n v6 v8 wr => ∃ j : Nat, ∃ sm : Bool, v6 = .bool sm ∧ v8 = .int .i64 j ∧ j + n = t.size + 1 ∧ Hid ((sm || catGo (lang a) (starB (lang a)) t.data.toList n j) = is) ∧ Hid (Below w5.heap.size w5 wr))
      case atStart => exact ⟨1, bE, by first | rfl | (rw [hE]), rfl, by omega, HC0, Below.refl _ _⟩
      case round =>
        obtain ⟨j, sm, rfl, rfl, hj, HC, HB⟩ := hrel
        have MR := Lib.hid (M5.out.below HB.out)
        by_cases hlt : j ≤ t.size
        · have hlt' : (j : Int) ≤ (t.size : Int) := by omega
          obtain ⟨g, hg⟩ : ∃ g, gk = g + 1 := ⟨gk - 1, by omega⟩
          have hc := HC.out
          rw [hg, catGo] at hc
          have ES0 := ext_size t 0 j
          have ES1 := ext_size t j t.size
          have N : ∀ x : BW wr, x.w1.cell? ⟨w1.heap.size, 0, none⟩ = some (.int .i64 5) := fun x => (((MR.out).below x.up).cell 0).trans rfl
          have N' : ∀ x : BW wr, x.w1.cell? ⟨w1.heap.size, 1, none⟩ = some (.slice A s.length c) := fun x => (((MR.out).below x.up).cell 1).trans rfl
          have N'' : ∀ x : BW wr, x.w1.cell? ⟨w1.heap.size, 2, none⟩ = some (.slice (some ad) 1 ck) := fun x => (((MR.out).below x.up).cell 2).trans rfl
          have P : ∀ x : BW wr, x.w1.cell? ad = some (.int .i64 a.kind) := fun x => BW.cell ⟨x.w1, below_then HB.out x.up⟩ c0
          have P' : ∀ x : BW wr, x.w1.cell? ⟨ad.block, ad.off + 1, none⟩ = some v1 := fun x => BW.cell ⟨x.w1, below_then HB.out x.up⟩ c1
          have P'' : ∀ x : BW wr, x.w1.cell? ⟨ad.block, ad.off + 2, none⟩ = some v2 := fun x => BW.cell ⟨x.w1, below_then HB.out x.up⟩ c2
          have CA : Hid (∀ x : BW wr, Calls Try.prog 28 #[.agg #[.int .i64 a.kind, v1, v2], .string (t.extract 0 j)] x.w1 fun e w'' => e = .returned (.bool (lang a (t.data.toList.take j))) ∧ ∃ y : BW wr, w'' = y.w1) := fun x =>
            Calls.bw (bv ((HA.out _ (by rw [tl_len]; omega)).trans (by rw [ext_take]))) (iMatchIs_c a _ _ _ _ 0 (VA.out.under (below_then HB.out x.up)) hsa)
          have CR : Hid (∀ x : BW wr, Calls Try.prog 28 #[.agg #[.int .i64 5, .slice A s.length c, .slice (some ad) 1 ck], .string (t.extract j t.size)] x.w1 fun e w'' => e = .returned (.bool (starB (lang a) (t.data.toList.drop j))) ∧ ∃ y : BW wr, w'' = y.w1) := fun x =>
            Calls.bw (bv ((HR.out _ (by rw [tl_len]; omega)).trans (by rw [ext_drop]))) (iMatchIs_c (.mk 5 s [a]) _ _ _ _ 0 (V5.out.under (below_then HB.out x.up)) hs1)
          cases sm
          · have hu : lang a (t.data.toList.take j) = lang a (t.data.toList.take j) := rfl
            rcases Bool.eq_false_or_eq_true (lang a (t.data.toList.take j)) with hu | hu
            · rcases Bool.eq_false_or_eq_true (starB (lang a) (t.data.toList.drop j)) with hv | hv
              · rw [hu] at CA hc
                rw [hv] at CR hc
                replace hc := Lib.hid hc
                go_wp2_with fail
                refine wp_region_bw (by kernel_rfl) (by kernel_rfl) ?_
                repeat (go_big_quiet_step ((first | (go_at_call 28; with_reducible exact CA.out _) | (go_at_call 28; with_reducible exact CR.out _))))
                refine wpQuiet_nil ?_
                rintro w6 ⟨x6, y6⟩
                have b6 : Below wr.heap.size wr w6 := y6 ▸ x6.up
                clear N N' N'' P P' P'' CA y6 CR
                go_wp2
                go_roundg g
                case rel => exact ⟨j + 1, true, rfl, by go_num, by omega, by show _ = _; have := hc.out; simpa using this, below_then HB.out b6⟩
                case measure => omega
              · rw [hu] at CA hc
                rw [hv] at CR hc
                replace hc := Lib.hid hc
                go_wp2_with fail
                refine wp_region_bw (by kernel_rfl) (by kernel_rfl) ?_
                repeat (go_big_quiet_step ((first | (go_at_call 28; with_reducible exact CA.out _) | (go_at_call 28; with_reducible exact CR.out _))))
                refine wpQuiet_nil ?_
                rintro w6 ⟨x6, y6⟩
                have b6 : Below wr.heap.size wr w6 := y6 ▸ x6.up
                clear N N' N'' P P' P'' CA y6 CR
                go_wp2
                go_roundg g
                case rel => exact ⟨j + 1, false, rfl, by go_num, by omega, by show _ = _; have := hc.out; simpa using this, below_then HB.out b6⟩
                case measure => omega
            · rw [hu] at CA hc
              replace hc := Lib.hid hc
              go_wp2_with fail
              refine wp_region_bw (by kernel_rfl) (by kernel_rfl) ?_
              repeat (go_big_quiet_step ((first | (go_at_call 28; with_reducible exact CA.out _) | (go_at_call 28; with_reducible exact CR.out _))))
              refine wpQuiet_nil ?_
              rintro w6 ⟨x6, y6⟩
              have b6 : Below wr.heap.size wr w6 := y6 ▸ x6.up
              clear N N' N'' P P' P'' CA y6 CR
              go_wp2
              go_roundg g
              case rel => exact ⟨j + 1, false, rfl, by go_num, by omega, by show _ = _; have := hc.out; simpa using this, below_then HB.out b6⟩
              case measure => omega
          · replace hc := Lib.hid hc
            go_wp2_with fail
            refine wp_region_bw (by kernel_rfl) (by kernel_rfl) ?_
            repeat (go_big_quiet_step ((first | (go_at_call 28; with_reducible exact CA.out _) | (go_at_call 28; with_reducible exact CR.out _))))
            refine wpQuiet_nil ?_
            rintro w6 ⟨x6, y6⟩
            have b6 : Below wr.heap.size wr w6 := y6 ▸ x6.up
            clear N N' N'' P P' P'' CA y6 CR
            go_wp2
            go_roundg g
            case rel => exact ⟨j + 1, true, rfl, by go_num, by omega, by show _ = _; have := hc.out; simpa using this, below_then HB.out b6⟩
            case measure => omega
        · have hlt' : ¬ (j : Int) ≤ (t.size : Int) := by omega
          have h0 : sm = is := by
            have := HC.out
            rw [show gk = 0 by omega, catGo] at this
            simpa using this
          subst h0
          clear c0 c1 c2
          have x : wr.cell? ⟨w1.heap.size, 0, none⟩ = some (.int .i64 5) := ((MR.out).cell 0).trans rfl
          have x' : wr.cell? ⟨w1.heap.size, 1, none⟩ = some (.slice A s.length c) := ((MR.out).cell 1).trans rfl
          have x'' : wr.cell? ⟨w1.heap.size, 2, none⟩ = some (.slice (some ad) 1 ck) := ((MR.out).cell 2).trans rfl
          cases bE
          · go_wp2
            go_ret
            exact ⟨rfl, below_then B5.out (HB.out)⟩
          · go_wp2_with fail
            refine (iRexNull_c _ _ _ wr 0 (V5.out.under (HB.out)) hs1).mono ?_
            rintro e wz ⟨rfl, bz⟩
            rw [HNU.out (by trivial)]
            clear x x' x''
            go_wp2
            go_ret
            exact ⟨rfl, below_then B5.out (below_then (HB.out) bz)⟩
    · have x : w5.cell? ⟨w1.heap.size, 0, none⟩ = some (.int .i64 7) := ((M5.out).cell 0).trans rfl
      have x' : w5.cell? ⟨w1.heap.size, 1, none⟩ = some (.slice A s.length c) := ((M5.out).cell 1).trans rfl
      have x'' : w5.cell? ⟨w1.heap.size, 2, none⟩ = some (.slice (some ad) 1 ck) := ((M5.out).cell 2).trans rfl
      obtain ⟨u, hu⟩ : ∃ u, u = matchIs a t.data.toList := ⟨_, rfl⟩
      have h0 : (!u) = is := by rw [HL.out, lang7, hu, HA.out _ (by rw [HT.out]; exact hx)]
      subst h0
      have HU := Lib.hid hu
      clear hu
      go_wp2_with fail
      refine (iMatchIs_c a t _ _ w5 0 VA.out hsa).mono ?_
      rintro e w6 ⟨rfl, b6⟩
      rw [← HU.out]
      clear x x' x'' c0 c1 c2
      have x : w6.cell? ⟨w1.heap.size, 0, none⟩ = some (.int .i64 7) := ((M5.out.below b6).cell 0).trans rfl
      have x' : w6.cell? ⟨w1.heap.size, 1, none⟩ = some (.slice A s.length c) := ((M5.out.below b6).cell 1).trans rfl
      have x'' : w6.cell? ⟨w1.heap.size, 2, none⟩ = some (.slice (some ad) 1 ck) := ((M5.out.below b6).cell 2).trans rfl
      cases bE
      · go_wp2
        go_ret
        exact ⟨rfl, below_then B5.out (b6)⟩
      · go_wp2_with fail
        refine (iRexNull_c _ _ _ w6 0 (V5.out.under (b6)) hs1).mono ?_
        rintro e wz ⟨rfl, bz⟩
        rw [HNU.out (by trivial)]
        clear x x' x''
        go_wp2
        go_ret
        exact ⟨rfl, below_then B5.out (below_then (b6) bz)⟩
  · clear hfo
    obtain ⟨_, _, _, _, _, _, e3, _, hkk⟩ := V5.out.parts
    injection e3 with e4 e5 e6
    subst e4 e6
    obtain ⟨ad, v1, v2, u1, u2, rfl, hva, c0, c1, c2, hvb, d0, d1, d2⟩ := hkk.two
    have VA := Lib.hid hva
    have VB := Lib.hid hvb
    have hsa : a.size ≤ 1048576 := by have h := hs; rw [Go.Proofs.Ytplhbjpkkhhilaa.Rex.size] at h; simp [sizeL] at h; omega
    have hsb : b.size ≤ 1048576 := by have h := hs; rw [Go.Proofs.Ytplhbjpkkhhilaa.Rex.size] at h; simp [sizeL] at h; omega
    have HA : Hid (∀ T : Txt, T.length ≤ 12 → matchIs a T = lang a T) := fun T hT => matchIs_of (rexOk_kid HOK.out (by simp)) hT
    have HBB : Hid (∀ T : Txt, T.length ≤ 12 → matchIs b T = lang b T) := fun T hT => matchIs_of (rexOk_kid HOK.out (by simp)) hT
    clear hkk hva hvb e5
    rcases e with rfl | rfl | rfl
    · have x : w5.cell? ⟨w1.heap.size, 0, none⟩ = some (.int .i64 3) := ((M5.out).cell 0).trans rfl
      have x' : w5.cell? ⟨w1.heap.size, 1, none⟩ = some (.slice A s.length c) := ((M5.out).cell 1).trans rfl
      have x'' : w5.cell? ⟨w1.heap.size, 2, none⟩ = some (.slice (some ad) 2 ck) := ((M5.out).cell 2).trans rfl
      have HC0 : Hid ((false || catGo (lang a) (lang b) t.data.toList (t.size + 1) 0) = is) := by
        show _ = _
        rw [HL.out, lang3, catB, HT.out]
        simp
      go_wp2_with fail
      clear x x' x''
      go_loopg [6, 7] (t.size + 1) (fun n v6 v7 wr => ∃ j : Nat, ∃ sm : Bool, v6 = .bool sm ∧ v7 = .int .i64 j ∧ j + n = t.size + 1 ∧ Hid ((sm || catGo (lang a) (lang b) t.data.toList n j) = is) ∧ Hid (Below w5.heap.size w5 wr))
      case atStart => exact ⟨0, false, rfl, rfl, by omega, HC0, Below.refl _ _⟩
      case round =>
        obtain ⟨j, sm, rfl, rfl, hj, HC, HB⟩ := hrel
        have MR := Lib.hid (M5.out.below HB.out)
        by_cases hlt : j ≤ t.size
        · have hlt' : (j : Int) ≤ (t.size : Int) := by omega
          obtain ⟨g, hg⟩ : ∃ g, gk = g + 1 := ⟨gk - 1, by omega⟩
          have hc := HC.out
          rw [hg, catGo] at hc
          have ES0 := ext_size t 0 j
          have ES1 := ext_size t j t.size
          have N : ∀ x : BW wr, x.w1.cell? ⟨w1.heap.size, 0, none⟩ = some (.int .i64 3) := fun x => (((MR.out).below x.up).cell 0).trans rfl
          have N' : ∀ x : BW wr, x.w1.cell? ⟨w1.heap.size, 1, none⟩ = some (.slice A s.length c) := fun x => (((MR.out).below x.up).cell 1).trans rfl
          have N'' : ∀ x : BW wr, x.w1.cell? ⟨w1.heap.size, 2, none⟩ = some (.slice (some ad) 2 ck) := fun x => (((MR.out).below x.up).cell 2).trans rfl
          have P : ∀ x : BW wr, x.w1.cell? ad = some (.int .i64 a.kind) := fun x => BW.cell ⟨x.w1, below_then HB.out x.up⟩ c0
          have P' : ∀ x : BW wr, x.w1.cell? ⟨ad.block, ad.off + 1, none⟩ = some v1 := fun x => BW.cell ⟨x.w1, below_then HB.out x.up⟩ c1
          have P'' : ∀ x : BW wr, x.w1.cell? ⟨ad.block, ad.off + 2, none⟩ = some v2 := fun x => BW.cell ⟨x.w1, below_then HB.out x.up⟩ c2
          have CA : Hid (∀ x : BW wr, Calls Try.prog 28 #[.agg #[.int .i64 a.kind, v1, v2], .string (t.extract 0 j)] x.w1 fun e w'' => e = .returned (.bool (lang a (t.data.toList.take j))) ∧ ∃ y : BW wr, w'' = y.w1) := fun x =>
            Calls.bw (bv ((HA.out _ (by rw [tl_len]; omega)).trans (by rw [ext_take]))) (iMatchIs_c a _ _ _ _ 0 (VA.out.under (below_then HB.out x.up)) hsa)
          have Q : ∀ x : BW wr, x.w1.cell? ⟨ad.block, ad.off + 3, none⟩ = some (.int .i64 b.kind) := fun x => BW.cell ⟨x.w1, below_then HB.out x.up⟩ d0
          have Q' : ∀ x : BW wr, x.w1.cell? ⟨ad.block, ad.off + 3 + 1, none⟩ = some u1 := fun x => BW.cell ⟨x.w1, below_then HB.out x.up⟩ d1
          have Q'' : ∀ x : BW wr, x.w1.cell? ⟨ad.block, ad.off + 3 + 2, none⟩ = some u2 := fun x => BW.cell ⟨x.w1, below_then HB.out x.up⟩ d2
          have CR : Hid (∀ x : BW wr, Calls Try.prog 28 #[.agg #[.int .i64 b.kind, u1, u2], .string (t.extract j t.size)] x.w1 fun e w'' => e = .returned (.bool (lang b (t.data.toList.drop j))) ∧ ∃ y : BW wr, w'' = y.w1) := fun x =>
            Calls.bw (bv ((HBB.out _ (by rw [tl_len]; omega)).trans (by rw [ext_drop]))) (iMatchIs_c b _ _ _ _ 0 (VB.out.under (below_then HB.out x.up)) hsb)
          cases sm
          · rcases Bool.eq_false_or_eq_true (lang a (t.data.toList.take j)) with hu | hu
            · rcases Bool.eq_false_or_eq_true (lang b (t.data.toList.drop j)) with hv | hv
              · rw [hu] at CA hc
                rw [hv] at CR hc
                replace hc := Lib.hid hc
                go_wp2_with fail
                refine wp_region_bw (by kernel_rfl) (by kernel_rfl) ?_
                repeat (go_big_quiet_step ((first | (go_at_call 28; with_reducible exact CA.out _) | (go_at_call 28; with_reducible exact CR.out _))))
                refine wpQuiet_nil ?_
                rintro w6 ⟨x6, y6⟩
                have b6 : Below wr.heap.size wr w6 := y6 ▸ x6.up
                clear N N' N'' P P' P'' CA y6 CR Q Q' Q''
                go_wp2
                go_roundg g
                case rel => exact ⟨j + 1, true, rfl, by go_num, by omega, by show _ = _; have := hc.out; simpa using this, below_then HB.out b6⟩
                case measure => omega
              · rw [hu] at CA hc
                rw [hv] at CR hc
                replace hc := Lib.hid hc
                go_wp2_with fail
                refine wp_region_bw (by kernel_rfl) (by kernel_rfl) ?_
                repeat (go_big_quiet_step ((first | (go_at_call 28; with_reducible exact CA.out _) | (go_at_call 28; with_reducible exact CR.out _))))
                refine wpQuiet_nil ?_
                rintro w6 ⟨x6, y6⟩
                have b6 : Below wr.heap.size wr w6 := y6 ▸ x6.up
                clear N N' N'' P P' P'' CA y6 CR Q Q' Q''
                go_wp2
                go_roundg g
                case rel => exact ⟨j + 1, false, rfl, by go_num, by omega, by show _ = _; have := hc.out; simpa using this, below_then HB.out b6⟩
                case measure => omega
            · rw [hu] at CA hc
              replace hc := Lib.hid hc
              go_wp2_with fail
              refine wp_region_bw (by kernel_rfl) (by kernel_rfl) ?_
              repeat (go_big_quiet_step ((first | (go_at_call 28; with_reducible exact CA.out _) | (go_at_call 28; with_reducible exact CR.out _))))
              refine wpQuiet_nil ?_
              rintro w6 ⟨x6, y6⟩
              have b6 : Below wr.heap.size wr w6 := y6 ▸ x6.up
              clear N N' N'' P P' P'' CA y6 CR Q Q' Q''
              go_wp2
              go_roundg g
              case rel => exact ⟨j + 1, false, rfl, by go_num, by omega, by show _ = _; have := hc.out; simpa using this, below_then HB.out b6⟩
              case measure => omega
          · replace hc := Lib.hid hc
            go_wp2_with fail
            refine wp_region_bw (by kernel_rfl) (by kernel_rfl) ?_
            repeat (go_big_quiet_step ((first | (go_at_call 28; with_reducible exact CA.out _) | (go_at_call 28; with_reducible exact CR.out _))))
            refine wpQuiet_nil ?_
            rintro w6 ⟨x6, y6⟩
            have b6 : Below wr.heap.size wr w6 := y6 ▸ x6.up
            clear N N' N'' P P' P'' CA y6 CR Q Q' Q''
            go_wp2
            go_roundg g
            case rel => exact ⟨j + 1, true, rfl, by go_num, by omega, by show _ = _; have := hc.out; simpa using this, below_then HB.out b6⟩
            case measure => omega
        · have hlt' : ¬ (j : Int) ≤ (t.size : Int) := by omega
          have h0 : sm = is := by
            have := HC.out
            rw [show gk = 0 by omega, catGo] at this
            simpa using this
          subst h0
          clear c0 c1 c2 d0 d1 d2
          have x : wr.cell? ⟨w1.heap.size, 0, none⟩ = some (.int .i64 3) := ((MR.out).cell 0).trans rfl
          have x' : wr.cell? ⟨w1.heap.size, 1, none⟩ = some (.slice A s.length c) := ((MR.out).cell 1).trans rfl
          have x'' : wr.cell? ⟨w1.heap.size, 2, none⟩ = some (.slice (some ad) 2 ck) := ((MR.out).cell 2).trans rfl
          cases bE
          · go_wp2
            go_ret
            exact ⟨rfl, below_then B5.out (HB.out)⟩
          · go_wp2_with fail
            refine (iRexNull_c _ _ _ wr 0 (V5.out.under (HB.out)) hs1).mono ?_
            rintro e wz ⟨rfl, bz⟩
            rw [HNU.out (by trivial)]
            clear x x' x''
            go_wp2
            go_ret
            exact ⟨rfl, below_then B5.out (below_then (HB.out) bz)⟩
    · have x : w5.cell? ⟨w1.heap.size, 0, none⟩ = some (.int .i64 4) := ((M5.out).cell 0).trans rfl
      have x' : w5.cell? ⟨w1.heap.size, 1, none⟩ = some (.slice A s.length c) := ((M5.out).cell 1).trans rfl
      have x'' : w5.cell? ⟨w1.heap.size, 2, none⟩ = some (.slice (some ad) 2 ck) := ((M5.out).cell 2).trans rfl
      obtain ⟨u, hu⟩ : ∃ u, u = matchIs a t.data.toList := ⟨_, rfl⟩
      obtain ⟨v, hv⟩ : ∃ v, v = matchIs b t.data.toList := ⟨_, rfl⟩
      have h0 : (u || v) = is := by rw [HL.out, lang4, hu, hv, HA.out _ (by rw [HT.out]; exact hx), HBB.out _ (by rw [HT.out]; exact hx)]
      have HU := Lib.hid hu
      have HV := Lib.hid hv
      have H0 := Lib.hid h0
      clear hu hv h0
      have D := Lib.hid d0
      have D' := Lib.hid d1
      have D'' := Lib.hid d2
      go_wp2_with fail
      refine (iMatchIs_c a t _ _ w5 0 VA.out hsa).mono ?_
      rintro e w6 ⟨rfl, b6⟩
      rw [← HU.out]
      clear x x' x'' c0 c1 c2 d0 d1 d2
      have d0 := BW.cell ⟨w6, b6⟩ D.out
      have d1 := BW.cell ⟨w6, b6⟩ D'.out
      have d2 := BW.cell ⟨w6, b6⟩ D''.out
      dsimp only at d0 d1 d2
      have b6' := Lib.hid b6
      clear b6
      have x : w6.cell? ⟨w1.heap.size, 0, none⟩ = some (.int .i64 4) := ((M5.out.below b6'.out).cell 0).trans rfl
      have x' : w6.cell? ⟨w1.heap.size, 1, none⟩ = some (.slice A s.length c) := ((M5.out.below b6'.out).cell 1).trans rfl
      have x'' : w6.cell? ⟨w1.heap.size, 2, none⟩ = some (.slice (some ad) 2 ck) := ((M5.out.below b6'.out).cell 2).trans rfl
      by_cases hu : u = true
      · subst hu
        have h1 : true = is := by have := H0.out; simpa using this
        subst h1
        cases bE
        · go_wp2
          go_ret
          exact ⟨rfl, below_then B5.out (b6'.out)⟩
        · go_wp2_with fail
          refine (iRexNull_c _ _ _ w6 0 (V5.out.under (b6'.out)) hs1).mono ?_
          rintro e wz ⟨rfl, bz⟩
          rw [HNU.out (by trivial)]
          clear x x' x''
          go_wp2
          go_ret
          exact ⟨rfl, below_then B5.out (below_then (b6'.out) bz)⟩
      · have h1 : v = is := by
          have := H0.out
          rw [show u = !true by simpa using hu] at this
          simpa using this
        have hu' : u = !true := by simpa using hu
        subst hu' h1
        clear hu
        go_wp2_with fail
        refine (iMatchIs_c b t _ _ w6 0 (VB.out.under b6'.out) hsb).mono ?_
        rintro e w7 ⟨rfl, b7⟩
        rw [← HV.out]
        clear x x' x'' d0 d1 d2
        have x : w7.cell? ⟨w1.heap.size, 0, none⟩ = some (.int .i64 4) := ((M5.out.below (below_then b6'.out b7)).cell 0).trans rfl
        have x' : w7.cell? ⟨w1.heap.size, 1, none⟩ = some (.slice A s.length c) := ((M5.out.below (below_then b6'.out b7)).cell 1).trans rfl
        have x'' : w7.cell? ⟨w1.heap.size, 2, none⟩ = some (.slice (some ad) 2 ck) := ((M5.out.below (below_then b6'.out b7)).cell 2).trans rfl
        cases bE
        · go_wp2
          go_ret
          exact ⟨rfl, below_then B5.out (below_then b6'.out b7)⟩
        · go_wp2_with fail
          refine (iRexNull_c _ _ _ w7 0 (V5.out.under (below_then b6'.out b7)) hs1).mono ?_
          rintro e wz ⟨rfl, bz⟩
          rw [HNU.out (by trivial)]
          clear x x' x''
          go_wp2
          go_ret
          exact ⟨rfl, below_then B5.out (below_then (below_then b6'.out b7) bz)⟩
    · have x : w5.cell? ⟨w1.heap.size, 0, none⟩ = some (.int .i64 6) := ((M5.out).cell 0).trans rfl
      have x' : w5.cell? ⟨w1.heap.size, 1, none⟩ = some (.slice A s.length c) := ((M5.out).cell 1).trans rfl
      have x'' : w5.cell? ⟨w1.heap.size, 2, none⟩ = some (.slice (some ad) 2 ck) := ((M5.out).cell 2).trans rfl
      obtain ⟨u, hu⟩ : ∃ u, u = matchIs a t.data.toList := ⟨_, rfl⟩
      obtain ⟨v, hv⟩ : ∃ v, v = matchIs b t.data.toList := ⟨_, rfl⟩
      have h0 : (u && v) = is := by rw [HL.out, lang6, hu, hv, HA.out _ (by rw [HT.out]; exact hx), HBB.out _ (by rw [HT.out]; exact hx)]
      have HU := Lib.hid hu
      have HV := Lib.hid hv
      have H0 := Lib.hid h0
      clear hu hv h0
      have D := Lib.hid d0
      have D' := Lib.hid d1
      have D'' := Lib.hid d2
      go_wp2_with fail
      refine (iMatchIs_c a t _ _ w5 0 VA.out hsa).mono ?_
      rintro e w6 ⟨rfl, b6⟩
      rw [← HU.out]
      clear x x' x'' c0 c1 c2 d0 d1 d2
      have d0 := BW.cell ⟨w6, b6⟩ D.out
      have d1 := BW.cell ⟨w6, b6⟩ D'.out
      have d2 := BW.cell ⟨w6, b6⟩ D''.out
      dsimp only at d0 d1 d2
      have b6' := Lib.hid b6
      clear b6
      have x : w6.cell? ⟨w1.heap.size, 0, none⟩ = some (.int .i64 6) := ((M5.out.below b6'.out).cell 0).trans rfl
      have x' : w6.cell? ⟨w1.heap.size, 1, none⟩ = some (.slice A s.length c) := ((M5.out.below b6'.out).cell 1).trans rfl
      have x'' : w6.cell? ⟨w1.heap.size, 2, none⟩ = some (.slice (some ad) 2 ck) := ((M5.out.below b6'.out).cell 2).trans rfl
      by_cases hu : u = false
      · subst hu
        have h1 : false = is := by have := H0.out; simpa using this
        subst h1
        cases bE
        · go_wp2
          go_ret
          exact ⟨rfl, below_then B5.out (b6'.out)⟩
        · go_wp2_with fail
          refine (iRexNull_c _ _ _ w6 0 (V5.out.under (b6'.out)) hs1).mono ?_
          rintro e wz ⟨rfl, bz⟩
          rw [HNU.out (by trivial)]
          clear x x' x''
          go_wp2
          go_ret
          exact ⟨rfl, below_then B5.out (below_then (b6'.out) bz)⟩
      · have h1 : v = is := by
          have := H0.out
          rw [show u = !false by simpa using hu] at this
          simpa using this
        have hu' : u = !false := by simpa using hu
        subst hu' h1
        clear hu
        go_wp2_with fail
        refine (iMatchIs_c b t _ _ w6 0 (VB.out.under b6'.out) hsb).mono ?_
        rintro e w7 ⟨rfl, b7⟩
        rw [← HV.out]
        clear x x' x'' d0 d1 d2
        have x : w7.cell? ⟨w1.heap.size, 0, none⟩ = some (.int .i64 6) := ((M5.out.below (below_then b6'.out b7)).cell 0).trans rfl
        have x' : w7.cell? ⟨w1.heap.size, 1, none⟩ = some (.slice A s.length c) := ((M5.out.below (below_then b6'.out b7)).cell 1).trans rfl
        have x'' : w7.cell? ⟨w1.heap.size, 2, none⟩ = some (.slice (some ad) 2 ck) := ((M5.out.below (below_then b6'.out b7)).cell 2).trans rfl
        cases bE
        · go_wp2
          go_ret
          exact ⟨rfl, below_then B5.out (below_then b6'.out b7)⟩
        · go_wp2_with fail
          refine (iRexNull_c _ _ _ w7 0 (V5.out.under (below_then b6'.out b7)) hs1).mono ?_
          rintro e wz ⟨rfl, bz⟩
          rw [HNU.out (by trivial)]
          clear x x' x''
          go_wp2
          go_ret
          exact ⟨rfl, below_then B5.out (below_then (below_then b6'.out b7) bz)⟩

end Go.Proofs.Ytplhbjpkkhhilaa
