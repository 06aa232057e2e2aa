/- Texts joined for the claims: T7 T8 T5 T6 T6p T9. -/
import Derived.Test.YtlchipjckgaclaaDoorG2
import Derived.Test.YtlchipjckgaclaaDoorG1
/- Formed trees: the program's formed. -/
namespace Go.Proofs.YtlchipjckgaclaaDoor
set_option linter.unusedSimpArgs false
set_option linter.unusedVariables false
set_option maxRecDepth 100000
open Go.RowKit

def IFormOk (r : Rex) : Prop := ∀ (d : Nat) (v1 v2 : Value) (w : World) (lo : Nat), d ≤ 1000 → RexV w lo r (.int .i64 r.kind) v1 v2 →
  Calls Tryd.prog 58 #[.agg #[.int .i64 r.kind, v1, v2], .int .i64 d] w fun e w' => e = .returned (.bool (formed d r)) ∧ Below w.heap.size w w'

set_option maxHeartbeats 2000000 in
theorem iForm_c (r : Rex) : IFormOk r := by
  refine Rex.ind (p := IFormOk) (fun k s ks ih => ?_) r
  intro d v1 v2 w lo hd h
  obtain ⟨A, c, K, ck, _, rfl, rfl, hs, hk⟩ := h.parts
  dsimp only [Rex.kind, Rex.set, Rex.kids] at hs hk ⊢
  clear h
  have hlen := hk.len
  have hslen := hs.len
  unfold maxN at hlen hslen
  obtain ⟨wa, hwa⟩ : ∃ x, x = w.alloc (.cells #[.int .i64 k, .slice A s.length c, .slice K ks.length ck] 36) := ⟨_, rfl⟩
  have hb : Below w.heap.size w wa := by rw [hwa]; exact below_alloc (Below.refl _ _) _
  have m0 : Blk wa w.heap.size #[.int .i64 k, .slice A s.length c, .slice K ks.length ck] 36 := by rw [hwa]; exact blk_new w _ _
  have HB := Lib.hid hb
  have M0 := Lib.hid m0
  have HS := Lib.hid (hs.below hb)
  have HK := Lib.hid (hk.below hb)
  clear hb m0 hs hk
  have N0 : ∀ x : BW wa, x.w1.cell? ⟨w.heap.size, 0, none⟩ = some (.int .i64 k) := fun x => by rw [(M0.out.below x.up).cell]; rfl
  have N1 : ∀ x : BW wa, x.w1.cell? ⟨w.heap.size, 1, none⟩ = some (.slice A s.length c) := fun x => by rw [(M0.out.below x.up).cell]; rfl
  have N2 : ∀ x : BW wa, x.w1.cell? ⟨w.heap.size, 2, none⟩ = some (.slice K ks.length ck) := fun x => by rw [(M0.out.below x.up).cell]; rfl
  cases d with
  | zero =>
    go_enter Tryd.func58, Tryd.ntmps58
    go_wp2
    rw [← hwa]
    clear hwa
    refine wp_region_bw (by kernel_rfl) (by kernel_rfl) ?_
    repeat (go_big_quiet_step ((fail)))
    refine wpQuiet_nil ?_
    rintro _ ⟨⟨w1, b1⟩, rfl⟩
    go_wp2
    go_ret
    exact ⟨rfl, below_then HB.out b1⟩
  | succ d =>
    have D1 : decide ((d : Int) + 1 < 1) = false := by simp; omega
    by_cases h1 : kidsOf k = ks.length
    · have g1 : (kidsOf k != (ks.length : Int)) = false := by simp [h1]
      by_cases h3 : setOk s = true
      · by_cases h2 : k = 1
        · subst h2
          have NO : Hid (nodeOk (.mk 1 s ks) = true) := by show _ = _; simp [nodeOk, Rex.kind, Rex.kids, Rex.set, h1, h3]
          have H3 := Lib.hid h3
          clear h1 h3
          go_enter Tryd.func58, Tryd.ntmps58
          go_wp2
          rw [← hwa]
          clear hwa
          refine wp_region_bw (by kernel_rfl) (by kernel_rfl) ?_
          repeat (go_big_quiet_step ((first | (go_at_call 87; exact Calls.bw_e rfl (iKids_c _ _)) | (go_at_call 35; exact Calls.bw (bv H3.out) (iSetOk_c _ _ _ _ (HS.out.below (BW.up _)))))))
          refine wpQuiet_nil ?_
          rintro w1 ⟨x1, y1⟩
          have b1 : Below wa.heap.size wa w1 := y1 ▸ x1.up
          replace N2 := N2 ⟨w1, b1⟩
          dsimp only at N2
          clear y1 x1
          clear N0 N1
          have HB1 := Lib.hid b1
          clear b1
          go_wp2
          go_loopg [38] (ks.length) (fun n i wr => ∃ j : Nat, j + n = ks.length ∧ i = .int .i64 j ∧ Hid ((ks.drop j).all (formed d) = ks.all (formed d)) ∧ Hid (Below wa.heap.size wa wr))
          case atStart => exact ⟨0, by omega, rfl, by rw [List.drop_zero]; rfl, HB1⟩
          case round =>
            clear HB1 N2 g1
            obtain ⟨j, hj, rfl, HF, HW⟩ := hrel
            by_cases hlt : j < ks.length
            · obtain ⟨a, r, x1, x2, rfl, HX, HD, HV, c0, c1, c2⟩ := (HK.out.below HW.out).at_ j hlt
              obtain ⟨A1, d1, K1, e1, _, rfl, rfl, _⟩ := HV.out.parts
              have hmem := List.mem_of_getElem? HX.out
              have E2 : Hid ((ks.drop j).all (formed d) = (formed d r && (ks.drop (j + 1)).all (formed d))) := by show _ = _; rw [HD.out, List.all_cons]
              have hb2 := below_alloc (Below.refl wr.heap.size wr) (.cells #[.int .i64 r.kind, .slice A1 r.set.length d1, .slice K1 r.kids.length e1] 36)
              have HV2 := Lib.hid (HV.out.under hb2)
              have HW2 := Lib.hid (below_then HW.out hb2)
              clear hb2
              go_wp2_with fail
              refine (ih r hmem d _ _ _ _ (by omega) HV2.out).mono ?_
              rintro e w4 ⟨rfl, b4⟩
              have HW4 := Lib.hid (below_then HW2.out b4)
              clear b4 c0 c1 c2
              by_cases hf : formed d r = true
              · have HQ := Lib.hid hf
                rw [hf]
                clear hf
                go_wp2
                go_roundg (gk - 1)
                case rel => exact ⟨j + 1, by omega, by go_num, by have := HF.out; rw [E2.out, HQ.out] at this; exact this, HW4⟩
                case measure => omega
              · have HQ : Hid (formed d r = false) := by show _ = _; simpa using hf
                rw [HQ.out]
                clear hf
                go_wp2
                go_ret
                exact ⟨ret_bool (by rw [formed, NO.out]; show _ = ks.all (formed d); rw [← HF.out, E2.out, HQ.out]; rfl), below_then HB.out HW4.out⟩
            · go_wp2
              go_ret
              exact ⟨ret_bool (by rw [formed, NO.out]; show _ = ks.all (formed d); rw [← HF.out, List.drop_of_length_le (by omega)]; rfl), below_then HB.out HW.out⟩
        · have e2 : (k != 1) = true := by simp [h2]
          by_cases h4 : s = []
          · have e4 : decide (0 < s.length) = false := by simp [h4]
            have NO : Hid (nodeOk (.mk k s ks) = true) := by show _ = _; rw [h4] at h3 ⊢; simp [nodeOk, Rex.kind, Rex.kids, Rex.set, h1, h3]
            have H3 := Lib.hid h3
            clear h1 h3 h2 h4
            go_enter Tryd.func58, Tryd.ntmps58
            go_wp2
            rw [← hwa]
            clear hwa
            refine wp_region_bw (by kernel_rfl) (by kernel_rfl) ?_
            repeat (go_big_quiet_step ((first | (go_at_call 87; exact Calls.bw_e rfl (iKids_c _ _)) | (go_at_call 35; exact Calls.bw (bv H3.out) (iSetOk_c _ _ _ _ (HS.out.below (BW.up _)))))))
            refine wpQuiet_nil ?_
            rintro w1 ⟨x1, y1⟩
            have b1 : Below wa.heap.size wa w1 := y1 ▸ x1.up
            replace N2 := N2 ⟨w1, b1⟩
            dsimp only at N2
            clear y1 x1
            clear N0 N1
            have HB1 := Lib.hid b1
            clear b1
            go_wp2
            go_loopg [38] (ks.length) (fun n i wr => ∃ j : Nat, j + n = ks.length ∧ i = .int .i64 j ∧ Hid ((ks.drop j).all (formed d) = ks.all (formed d)) ∧ Hid (Below wa.heap.size wa wr))
            case atStart => exact ⟨0, by omega, rfl, by rw [List.drop_zero]; rfl, HB1⟩
            case round =>
              clear HB1 N2 g1
              obtain ⟨j, hj, rfl, HF, HW⟩ := hrel
              by_cases hlt : j < ks.length
              · obtain ⟨a, r, x1, x2, rfl, HX, HD, HV, c0, c1, c2⟩ := (HK.out.below HW.out).at_ j hlt
                obtain ⟨A1, d1, K1, e1, _, rfl, rfl, _⟩ := HV.out.parts
                have hmem := List.mem_of_getElem? HX.out
                have E2 : Hid ((ks.drop j).all (formed d) = (formed d r && (ks.drop (j + 1)).all (formed d))) := by show _ = _; rw [HD.out, List.all_cons]
                have hb2 := below_alloc (Below.refl wr.heap.size wr) (.cells #[.int .i64 r.kind, .slice A1 r.set.length d1, .slice K1 r.kids.length e1] 36)
                have HV2 := Lib.hid (HV.out.under hb2)
                have HW2 := Lib.hid (below_then HW.out hb2)
                clear hb2
                go_wp2_with fail
                refine (ih r hmem d _ _ _ _ (by omega) HV2.out).mono ?_
                rintro e w4 ⟨rfl, b4⟩
                have HW4 := Lib.hid (below_then HW2.out b4)
                clear b4 c0 c1 c2
                by_cases hf : formed d r = true
                · have HQ := Lib.hid hf
                  rw [hf]
                  clear hf
                  go_wp2
                  go_roundg (gk - 1)
                  case rel => exact ⟨j + 1, by omega, by go_num, by have := HF.out; rw [E2.out, HQ.out] at this; exact this, HW4⟩
                  case measure => omega
                · have HQ : Hid (formed d r = false) := by show _ = _; simpa using hf
                  rw [HQ.out]
                  clear hf
                  go_wp2
                  go_ret
                  exact ⟨ret_bool (by rw [formed, NO.out]; show _ = ks.all (formed d); rw [← HF.out, E2.out, HQ.out]; rfl), below_then HB.out HW4.out⟩
              · go_wp2
                go_ret
                exact ⟨ret_bool (by rw [formed, NO.out]; show _ = ks.all (formed d); rw [← HF.out, List.drop_of_length_le (by omega)]; rfl), below_then HB.out HW.out⟩
          · have hl : 0 < s.length := by cases s; exact absurd rfl h4; simp
            have e4 : decide (0 < s.length) = true := decide_eq_true (by omega)
            have NO : Hid (nodeOk (.mk k s ks) = false) := by show _ = _; cases s; exact absurd rfl h4; simp [nodeOk, Rex.kind, Rex.kids, Rex.set, h2]
            clear h1 h3 h2 h4 hl
            go_enter Tryd.func58, Tryd.ntmps58
            go_wp2
            rw [← hwa]
            clear hwa
            refine wp_region_bw (by kernel_rfl) (by kernel_rfl) ?_
            repeat (go_big_quiet_step ((first | (go_at_call 87; exact Calls.bw_e rfl (iKids_c _ _)) | (go_at_call 35; exact Calls.bw (bv H3.out) (iSetOk_c _ _ _ _ (HS.out.below (BW.up _)))))))
            refine wpQuiet_nil ?_
            rintro w1 ⟨x1, y1⟩
            have b1 : Below wa.heap.size wa w1 := y1 ▸ x1.up
            replace N2 := N2 ⟨w1, b1⟩
            dsimp only at N2
            clear y1 x1
            clear N0 N1
            go_wp2
            go_ret
            exact ⟨ret_bool (by rw [formed, NO.out]; rfl), below_then HB.out b1⟩
      · replace h3 : setOk s = false := by simpa using h3
        have NO : Hid (nodeOk (.mk k s ks) = false) := by show _ = _; simp [nodeOk, Rex.set, h3]
        by_cases h2 : k = 1
        · subst h2
          have H3 := Lib.hid h3
          clear h1 h3
          go_enter Tryd.func58, Tryd.ntmps58
          go_wp2
          rw [← hwa]
          clear hwa
          refine wp_region_bw (by kernel_rfl) (by kernel_rfl) ?_
          repeat (go_big_quiet_step ((first | (go_at_call 87; exact Calls.bw_e rfl (iKids_c _ _)) | (go_at_call 35; exact Calls.bw (bv H3.out) (iSetOk_c _ _ _ _ (HS.out.below (BW.up _)))))))
          refine wpQuiet_nil ?_
          rintro w1 ⟨x1, y1⟩
          have b1 : Below wa.heap.size wa w1 := y1 ▸ x1.up
          replace N2 := N2 ⟨w1, b1⟩
          dsimp only at N2
          clear y1 x1
          clear N0 N1
          go_wp2
          go_ret
          exact ⟨ret_bool (by rw [formed, NO.out]; rfl), below_then HB.out b1⟩
        · have e2 : (k != 1) = true := by simp [h2]
          by_cases h4 : s = []
          · subst h4
            simp [setOk, setOkGo] at h3
          · have hl : 0 < s.length := by cases s; exact absurd rfl h4; simp
            have e4 : decide (0 < s.length) = true := decide_eq_true (by omega)
            clear h1 h3 h2 h4 hl
            go_enter Tryd.func58, Tryd.ntmps58
            go_wp2
            rw [← hwa]
            clear hwa
            refine wp_region_bw (by kernel_rfl) (by kernel_rfl) ?_
            repeat (go_big_quiet_step ((first | (go_at_call 87; exact Calls.bw_e rfl (iKids_c _ _)) | (go_at_call 35; exact Calls.bw (bv H3.out) (iSetOk_c _ _ _ _ (HS.out.below (BW.up _)))))))
            refine wpQuiet_nil ?_
            rintro w1 ⟨x1, y1⟩
            have b1 : Below wa.heap.size wa w1 := y1 ▸ x1.up
            replace N2 := N2 ⟨w1, b1⟩
            dsimp only at N2
            clear y1 x1
            clear N0 N1
            go_wp2
            go_ret
            exact ⟨ret_bool (by rw [formed, NO.out]; rfl), below_then HB.out b1⟩
    · have g1 : (kidsOf k != (ks.length : Int)) = true := by simp [h1]
      have NO : Hid (nodeOk (.mk k s ks) = false) := by show _ = _; simp [nodeOk, Rex.kind, Rex.kids, h1]
      clear h1
      go_enter Tryd.func58, Tryd.ntmps58
      go_wp2
      rw [← hwa]
      clear hwa
      refine wp_region_bw (by kernel_rfl) (by kernel_rfl) ?_
      repeat (go_big_quiet_step ((first | (go_at_call 87; exact Calls.bw_e rfl (iKids_c _ _)) | (go_at_call 35; exact Calls.bw (bv H3.out) (iSetOk_c _ _ _ _ (HS.out.below (BW.up _)))))))
      refine wpQuiet_nil ?_
      rintro w1 ⟨x1, y1⟩
      have b1 : Below wa.heap.size wa w1 := y1 ▸ x1.up
      replace N2 := N2 ⟨w1, b1⟩
      dsimp only at N2
      clear y1 x1
      clear N0 N1
      go_wp2
      go_ret
      exact ⟨ret_bool (by rw [formed, NO.out]; rfl), below_then HB.out b1⟩

end Go.Proofs.YtlchipjckgaclaaDoor

/- Formed trees: the reference's l2Form. -/
namespace Go.Proofs.YtlchipjckgaclaaDoor
set_option linter.unusedSimpArgs false
set_option linter.unusedVariables false
set_option maxRecDepth 100000
open Go.RowKit

def SFormOk (r : Rex) : Prop := ∀ (d : Nat) (v1 v2 : Value) (w : World) (lo : Nat), d ≤ 1000 → RexV w lo r (.int .i64 r.kind) v1 v2 →
  Calls Tryd.prog 56 #[.agg #[.int .i64 r.kind, v1, v2], .int .i64 d] w fun e w' => e = .returned (.bool (formed d r)) ∧ Below w.heap.size w w'

set_option maxHeartbeats 2000000 in
theorem sForm_c (r : Rex) : SFormOk r := by
  refine Rex.ind (p := SFormOk) (fun k s ks ih => ?_) r
  intro d v1 v2 w lo hd h
  obtain ⟨A, c, K, ck, _, rfl, rfl, hs, hk⟩ := h.parts
  dsimp only [Rex.kind, Rex.set, Rex.kids] at hs hk ⊢
  clear h
  have hlen := hk.len
  have hslen := hs.len
  unfold maxN at hlen hslen
  obtain ⟨wa, hwa⟩ : ∃ x, x = w.alloc (.cells #[.int .i64 k, .slice A s.length c, .slice K ks.length ck] 36) := ⟨_, rfl⟩
  have hb : Below w.heap.size w wa := by rw [hwa]; exact below_alloc (Below.refl _ _) _
  have m0 : Blk wa w.heap.size #[.int .i64 k, .slice A s.length c, .slice K ks.length ck] 36 := by rw [hwa]; exact blk_new w _ _
  have HB := Lib.hid hb
  have M0 := Lib.hid m0
  have HS := Lib.hid (hs.below hb)
  have HK := Lib.hid (hk.below hb)
  clear hb m0 hs hk
  have N0 : ∀ x : BW wa, x.w1.cell? ⟨w.heap.size, 0, none⟩ = some (.int .i64 k) := fun x => by rw [(M0.out.below x.up).cell]; rfl
  have N1 : ∀ x : BW wa, x.w1.cell? ⟨w.heap.size, 1, none⟩ = some (.slice A s.length c) := fun x => by rw [(M0.out.below x.up).cell]; rfl
  have N2 : ∀ x : BW wa, x.w1.cell? ⟨w.heap.size, 2, none⟩ = some (.slice K ks.length ck) := fun x => by rw [(M0.out.below x.up).cell]; rfl
  cases d with
  | zero =>
    go_enter Tryd.func56, Tryd.ntmps56
    go_wp2
    rw [← hwa]
    clear hwa
    refine wp_region_bw (by kernel_rfl) (by kernel_rfl) ?_
    repeat (go_big_quiet_step ((fail)))
    refine wpQuiet_nil ?_
    rintro _ ⟨⟨w1, b1⟩, rfl⟩
    go_wp2
    go_ret
    exact ⟨rfl, below_then HB.out b1⟩
  | succ d =>
    have D1 : decide ((d : Int) + 1 < 1) = false := by simp; omega
    by_cases h1 : kidsOf k = ks.length
    · have g1 : (kidsOf k != (ks.length : Int)) = false := by simp [h1]
      by_cases h3 : setOk s = true
      · by_cases h2 : k = 1
        · subst h2
          have NO : Hid (nodeOk (.mk 1 s ks) = true) := by show _ = _; simp [nodeOk, Rex.kind, Rex.kids, Rex.set, h1, h3]
          have H3 := Lib.hid h3
          clear h1 h3
          go_enter Tryd.func56, Tryd.ntmps56
          go_wp2
          rw [← hwa]
          clear hwa
          refine wp_region_bw (by kernel_rfl) (by kernel_rfl) ?_
          repeat (go_big_quiet_step ((first | (go_at_call 86; exact Calls.bw_e rfl (sKids_c _ _)) | (go_at_call 31; exact Calls.bw_d (bv H3.out) (sSetOk_c _ _ _ _ (HS.out.below (BW.up _)))))))
          refine wpQuiet_nil ?_
          rintro w1 ⟨x1, y1⟩
          have b1 : Below wa.heap.size wa w1 := y1 ▸ x1.up
          replace N2 := N2 ⟨w1, b1⟩
          dsimp only at N2
          clear y1 x1
          clear N0 N1
          have HB1 := Lib.hid b1
          clear b1
          go_wp2
          go_loopg [5] (ks.length) (fun n i wr => ∃ j : Nat, j + n = ks.length ∧ i = .int .i64 j ∧ Hid ((ks.drop j).all (formed d) = ks.all (formed d)) ∧ Hid (Below wa.heap.size wa wr))
          case atStart => exact ⟨0, by omega, rfl, by rw [List.drop_zero]; rfl, HB1⟩
          case round =>
            clear HB1 N2 g1
            obtain ⟨j, hj, rfl, HF, HW⟩ := hrel
            have n2 : wr.cell? ⟨w.heap.size, 2, none⟩ = some (.slice K ks.length ck) := by rw [(M0.out.below HW.out).cell]; rfl
            by_cases hlt : j < ks.length
            · obtain ⟨a, r, x1, x2, rfl, HX, HD, HV, c0, c1, c2⟩ := (HK.out.below HW.out).at_ j hlt
              have hmem := List.mem_of_getElem? HX.out
              have E2 : Hid ((ks.drop j).all (formed d) = (formed d r && (ks.drop (j + 1)).all (formed d))) := by show _ = _; rw [HD.out, List.all_cons]
              go_wp2_with fail
              refine (ih r hmem d _ _ _ _ (by omega) HV.out).mono ?_
              rintro e w4 ⟨rfl, b4⟩
              have HW4 := Lib.hid (below_then HW.out b4)
              clear b4 c0 c1 c2 n2
              by_cases hf : formed d r = true
              · have HQ := Lib.hid hf
                rw [hf]
                clear hf
                go_wp2
                go_roundg (gk - 1)
                case rel => exact ⟨j + 1, by omega, by go_num, by have := HF.out; rw [E2.out, HQ.out] at this; exact this, HW4⟩
                case measure => omega
              · have HQ : Hid (formed d r = false) := by show _ = _; simpa using hf
                rw [HQ.out]
                clear hf
                go_wp2
                go_ret
                exact ⟨ret_bool (by rw [formed, NO.out]; show _ = ks.all (formed d); rw [← HF.out, E2.out, HQ.out]; rfl), below_then HB.out HW4.out⟩
            · go_wp2
              go_ret
              exact ⟨ret_bool (by rw [formed, NO.out]; show _ = ks.all (formed d); rw [← HF.out, List.drop_of_length_le (by omega)]; rfl), below_then HB.out HW.out⟩
        · have e2 : (k != 1) = true := by simp [h2]
          by_cases h4 : s = []
          · have e4 : decide (0 < s.length) = false := by simp [h4]
            have NO : Hid (nodeOk (.mk k s ks) = true) := by show _ = _; rw [h4] at h3 ⊢; simp [nodeOk, Rex.kind, Rex.kids, Rex.set, h1, h3]
            have H3 := Lib.hid h3
            clear h1 h3 h2 h4
            go_enter Tryd.func56, Tryd.ntmps56
            go_wp2
            rw [← hwa]
            clear hwa
            refine wp_region_bw (by kernel_rfl) (by kernel_rfl) ?_
            repeat (go_big_quiet_step ((first | (go_at_call 86; exact Calls.bw_e rfl (sKids_c _ _)) | (go_at_call 31; exact Calls.bw_d (bv H3.out) (sSetOk_c _ _ _ _ (HS.out.below (BW.up _)))))))
            refine wpQuiet_nil ?_
            rintro w1 ⟨x1, y1⟩
            have b1 : Below wa.heap.size wa w1 := y1 ▸ x1.up
            replace N2 := N2 ⟨w1, b1⟩
            dsimp only at N2
            clear y1 x1
            clear N0 N1
            have HB1 := Lib.hid b1
            clear b1
            go_wp2
            go_loopg [5] (ks.length) (fun n i wr => ∃ j : Nat, j + n = ks.length ∧ i = .int .i64 j ∧ Hid ((ks.drop j).all (formed d) = ks.all (formed d)) ∧ Hid (Below wa.heap.size wa wr))
            case atStart => exact ⟨0, by omega, rfl, by rw [List.drop_zero]; rfl, HB1⟩
            case round =>
              clear HB1 N2 g1
              obtain ⟨j, hj, rfl, HF, HW⟩ := hrel
              have n2 : wr.cell? ⟨w.heap.size, 2, none⟩ = some (.slice K ks.length ck) := by rw [(M0.out.below HW.out).cell]; rfl
              by_cases hlt : j < ks.length
              · obtain ⟨a, r, x1, x2, rfl, HX, HD, HV, c0, c1, c2⟩ := (HK.out.below HW.out).at_ j hlt
                have hmem := List.mem_of_getElem? HX.out
                have E2 : Hid ((ks.drop j).all (formed d) = (formed d r && (ks.drop (j + 1)).all (formed d))) := by show _ = _; rw [HD.out, List.all_cons]
                go_wp2_with fail
                refine (ih r hmem d _ _ _ _ (by omega) HV.out).mono ?_
                rintro e w4 ⟨rfl, b4⟩
                have HW4 := Lib.hid (below_then HW.out b4)
                clear b4 c0 c1 c2 n2
                by_cases hf : formed d r = true
                · have HQ := Lib.hid hf
                  rw [hf]
                  clear hf
                  go_wp2
                  go_roundg (gk - 1)
                  case rel => exact ⟨j + 1, by omega, by go_num, by have := HF.out; rw [E2.out, HQ.out] at this; exact this, HW4⟩
                  case measure => omega
                · have HQ : Hid (formed d r = false) := by show _ = _; simpa using hf
                  rw [HQ.out]
                  clear hf
                  go_wp2
                  go_ret
                  exact ⟨ret_bool (by rw [formed, NO.out]; show _ = ks.all (formed d); rw [← HF.out, E2.out, HQ.out]; rfl), below_then HB.out HW4.out⟩
              · go_wp2
                go_ret
                exact ⟨ret_bool (by rw [formed, NO.out]; show _ = ks.all (formed d); rw [← HF.out, List.drop_of_length_le (by omega)]; rfl), below_then HB.out HW.out⟩
          · have hl : 0 < s.length := by cases s; exact absurd rfl h4; simp
            have e4 : decide (0 < s.length) = true := decide_eq_true (by omega)
            have NO : Hid (nodeOk (.mk k s ks) = false) := by show _ = _; cases s; exact absurd rfl h4; simp [nodeOk, Rex.kind, Rex.kids, Rex.set, h2]
            clear h1 h3 h2 h4 hl
            go_enter Tryd.func56, Tryd.ntmps56
            go_wp2
            rw [← hwa]
            clear hwa
            refine wp_region_bw (by kernel_rfl) (by kernel_rfl) ?_
            repeat (go_big_quiet_step ((first | (go_at_call 86; exact Calls.bw_e rfl (sKids_c _ _)) | (go_at_call 31; exact Calls.bw_d (bv H3.out) (sSetOk_c _ _ _ _ (HS.out.below (BW.up _)))))))
            refine wpQuiet_nil ?_
            rintro w1 ⟨x1, y1⟩
            have b1 : Below wa.heap.size wa w1 := y1 ▸ x1.up
            replace N2 := N2 ⟨w1, b1⟩
            dsimp only at N2
            clear y1 x1
            clear N0 N1
            go_wp2
            go_ret
            exact ⟨ret_bool (by rw [formed, NO.out]; rfl), below_then HB.out b1⟩
      · replace h3 : setOk s = false := by simpa using h3
        have NO : Hid (nodeOk (.mk k s ks) = false) := by show _ = _; simp [nodeOk, Rex.set, h3]
        by_cases h2 : k = 1
        · subst h2
          have H3 := Lib.hid h3
          clear h1 h3
          go_enter Tryd.func56, Tryd.ntmps56
          go_wp2
          rw [← hwa]
          clear hwa
          refine wp_region_bw (by kernel_rfl) (by kernel_rfl) ?_
          repeat (go_big_quiet_step ((first | (go_at_call 86; exact Calls.bw_e rfl (sKids_c _ _)) | (go_at_call 31; exact Calls.bw_d (bv H3.out) (sSetOk_c _ _ _ _ (HS.out.below (BW.up _)))))))
          refine wpQuiet_nil ?_
          rintro w1 ⟨x1, y1⟩
          have b1 : Below wa.heap.size wa w1 := y1 ▸ x1.up
          replace N2 := N2 ⟨w1, b1⟩
          dsimp only at N2
          clear y1 x1
          clear N0 N1
          go_wp2
          go_ret
          exact ⟨ret_bool (by rw [formed, NO.out]; rfl), below_then HB.out b1⟩
        · have e2 : (k != 1) = true := by simp [h2]
          by_cases h4 : s = []
          · subst h4
            simp [setOk, setOkGo] at h3
          · have hl : 0 < s.length := by cases s; exact absurd rfl h4; simp
            have e4 : decide (0 < s.length) = true := decide_eq_true (by omega)
            clear h1 h3 h2 h4 hl
            go_enter Tryd.func56, Tryd.ntmps56
            go_wp2
            rw [← hwa]
            clear hwa
            refine wp_region_bw (by kernel_rfl) (by kernel_rfl) ?_
            repeat (go_big_quiet_step ((first | (go_at_call 86; exact Calls.bw_e rfl (sKids_c _ _)) | (go_at_call 31; exact Calls.bw_d (bv H3.out) (sSetOk_c _ _ _ _ (HS.out.below (BW.up _)))))))
            refine wpQuiet_nil ?_
            rintro w1 ⟨x1, y1⟩
            have b1 : Below wa.heap.size wa w1 := y1 ▸ x1.up
            replace N2 := N2 ⟨w1, b1⟩
            dsimp only at N2
            clear y1 x1
            clear N0 N1
            go_wp2
            go_ret
            exact ⟨ret_bool (by rw [formed, NO.out]; rfl), below_then HB.out b1⟩
    · have g1 : (kidsOf k != (ks.length : Int)) = true := by simp [h1]
      have NO : Hid (nodeOk (.mk k s ks) = false) := by show _ = _; simp [nodeOk, Rex.kind, Rex.kids, h1]
      clear h1
      go_enter Tryd.func56, Tryd.ntmps56
      go_wp2
      rw [← hwa]
      clear hwa
      refine wp_region_bw (by kernel_rfl) (by kernel_rfl) ?_
      repeat (go_big_quiet_step ((first | (go_at_call 86; exact Calls.bw_e rfl (sKids_c _ _)) | (go_at_call 31; exact Calls.bw_d (bv H3.out) (sSetOk_c _ _ _ _ (HS.out.below (BW.up _)))))))
      refine wpQuiet_nil ?_
      rintro w1 ⟨x1, y1⟩
      have b1 : Below wa.heap.size wa w1 := y1 ▸ x1.up
      replace N2 := N2 ⟨w1, b1⟩
      dsimp only at N2
      clear y1 x1
      clear N0 N1
      go_wp2
      go_ret
      exact ⟨ret_bool (by rw [formed, NO.out]; rfl), below_then HB.out b1⟩

end Go.Proofs.YtlchipjckgaclaaDoor

/- How many parts a tree has: the program's manyParts. -/
namespace Go.Proofs.YtlchipjckgaclaaDoor
set_option linter.unusedSimpArgs false
set_option linter.unusedVariables false
set_option maxRecDepth 100000
open Go.RowKit

theorem many_size (r : Rex) : r.many ≤ r.size + 1 := by
  refine Rex.rec (motive_1 := fun r => r.many ≤ r.size + 1) (motive_2 := fun l => manyL l ≤ sizeL l + l.length) ?_ ?_ ?_ r
  · intro k s ks ih
    rw [Rex.many, Rex.size]
    omega
  · simp [manyL]
  · intro x xs h1 h2
    rw [manyL, sizeL, List.length_cons]
    omega
theorem manyL_size (l : List Rex) : manyL l ≤ sizeL l + l.length := by
  induction l with
  | nil => simp [manyL]
  | cons x xs ih =>
    have := many_size x
    rw [manyL, sizeL, List.length_cons]
    omega
theorem sizeL_kid {ks : List Rex} {r : Rex} (h : r ∈ ks) : r.size ≤ sizeL ks := by
  induction ks with
  | nil => cases h
  | cons x xs ih =>
    rw [sizeL]
    rcases List.mem_cons.1 h with rfl | h
    · omega
    · have := ih h; omega
def ManyOk (r : Rex) : Prop := ∀ (v1 v2 : Value) (w : World) (lo : Nat), RexV w lo r (.int .i64 r.kind) v1 v2 → r.size ≤ 1048576 →
  Calls Tryd.prog 59 #[.agg #[.int .i64 r.kind, v1, v2]] w fun e w' => e = .returned (.int .i64 r.many) ∧ Below w.heap.size w w'

set_option maxHeartbeats 2000000 in
theorem iMany_c (r : Rex) : ManyOk r := by
  refine Rex.ind (p := ManyOk) (fun k s ks ih => ?_) r
  intro v1 v2 w lo h hsz
  obtain ⟨A, c, K, ck, _, rfl, rfl, hs, hk⟩ := h.parts
  dsimp only [Rex.kind, Rex.set, Rex.kids] at hs hk ⊢
  rw [Rex.size] at hsz
  clear h
  have hlen := hk.len
  have hml := manyL_size ks
  have hb := below_alloc (Below.refl w.heap.size w) (.cells #[.int .i64 k, .slice A s.length c, .slice K ks.length ck] 36)
  have HB := Lib.hid hb
  have HK := Lib.hid hk
  clear hb hk
  go_enter Tryd.func59, Tryd.ntmps59
  go_wp2
  go_loopg [3, 9] (ks.length) (fun n m i wr => ∃ j : Nat, j + n = ks.length ∧ i = .int .i64 j ∧ ∃ x : Nat, m = .int .i64 x ∧ Hid (x + manyL (ks.drop j) = 1 + manyL ks) ∧ Hid (Below w.heap.size w wr))
  case atStart => exact ⟨0, by omega, rfl, 1, rfl, by rw [List.drop_zero]; rfl, HB⟩
  case round =>
    clear HB
    obtain ⟨j, hj, rfl, x, rfl, HM, HB⟩ := hrel
    by_cases hlt : j < ks.length
    · obtain ⟨a, r, x1, x2, rfl, HX, HD, HV, c0, c1, c2⟩ := (HK.out.below HB.out).at_ j hlt
      obtain ⟨A1, d1, K1, e1, _, rfl, rfl, _⟩ := HV.out.parts
      have hmem := List.mem_of_getElem? HX.out
      have hks := sizeL_kid hmem
      have E2 : Hid (manyL (ks.drop j) = r.many + manyL (ks.drop (j + 1))) := by show _ = _; rw [HD.out, manyL]
      have hx : x + r.many ≤ 1 + manyL ks := by have := HM.out; have := E2.out; omega
      have hb2 := below_alloc (Below.refl wr.heap.size wr) (.cells #[.int .i64 r.kind, .slice A1 r.set.length d1, .slice K1 r.kids.length e1] 36)
      have HV2 := Lib.hid (HV.out.under hb2)
      have HB2 := Lib.hid (below_then HB.out hb2)
      clear hb2
      go_wp2_with fail
      refine (ih r hmem _ _ _ _ HV2.out (by omega)).mono ?_
      rintro e w4 ⟨rfl, b4⟩
      have HB4 := Lib.hid (below_then HB2.out b4)
      clear b4 c0 c1 c2
      go_wp2
      go_roundg (gk - 1)
      case rel => exact ⟨j + 1, by omega, by go_num, x + r.many, by go_num, by have := HM.out; have := E2.out; show _ = _; omega, HB4⟩
      case measure => omega
    · go_wp2
      go_ret
      refine ⟨ret_int ?_, HB.out⟩
      have := HM.out
      rw [List.drop_of_length_le (by omega), manyL] at this
      rw [Rex.many]
      omega

end Go.Proofs.YtlchipjckgaclaaDoor

/- How many parts a tree has: the reference's l2Many. -/
namespace Go.Proofs.YtlchipjckgaclaaDoor
set_option linter.unusedSimpArgs false
set_option linter.unusedVariables false
set_option maxRecDepth 100000
open Go.RowKit

mutual
/-- the parts down to a depth -/
def Rex.manyTo : Rex → Nat → Nat
  | .mk _ _ _, 0 => 1
  | .mk _ _ ks, d + 1 => 1 + manyToL ks d
def manyToL : List Rex → Nat → Nat
  | [], _ => 0
  | r :: rs, d => r.manyTo d + manyToL rs d
end
theorem manyTo_le (r : Rex) : ∀ d, r.manyTo d ≤ r.many := by
  refine Rex.rec (motive_1 := fun r => ∀ d, r.manyTo d ≤ r.many) (motive_2 := fun l => ∀ d, manyToL l d ≤ manyL l) ?_ ?_ ?_ r
  · intro k s ks ih d
    cases d with
    | zero => rw [Rex.manyTo, Rex.many]; omega
    | succ d => have := ih d; rw [Rex.manyTo, Rex.many]; omega
  · intro d; simp [manyToL]
  · intro x xs h1 h2 d
    have := h1 d
    have := h2 d
    rw [manyToL, manyL]
    omega
theorem manyToL_le (l : List Rex) (d : Nat) : manyToL l d ≤ manyL l := by
  induction l with
  | nil => simp [manyToL]
  | cons x xs ih => have := manyTo_le x d; rw [manyToL, manyL]; omega
def ManyToOk (r : Rex) : Prop := ∀ (d : Nat) (v1 v2 : Value) (w : World) (lo : Nat), d ≤ 1000 → RexV w lo r (.int .i64 r.kind) v1 v2 → r.size ≤ 1048576 →
  Calls Tryd.prog 57 #[.agg #[.int .i64 r.kind, v1, v2], .int .i64 d] w fun e w' => e = .returned (.int .i64 (r.manyTo d)) ∧ Below w.heap.size w w'

set_option maxHeartbeats 2000000 in
theorem sMany_c (r : Rex) : ManyToOk r := by
  refine Rex.ind (p := ManyToOk) (fun k s ks ih => ?_) r
  intro d v1 v2 w lo hd h hsz
  obtain ⟨A, c, K, ck, _, rfl, rfl, hs, hk⟩ := h.parts
  dsimp only [Rex.kind, Rex.set, Rex.kids] at hs hk ⊢
  rw [Rex.size] at hsz
  clear h
  have hlen := hk.len
  have hml := manyL_size ks
  have hb := below_alloc (Below.refl w.heap.size w) (.cells #[.int .i64 k, .slice A s.length c, .slice K ks.length ck] 36)
  have hX := blk_new w #[.int .i64 k, .slice A s.length c, .slice K ks.length ck] 36
  have HB := Lib.hid hb
  have HK := Lib.hid hk
  have HX := Lib.hid hX
  clear hb hk hX
  go_enter Tryd.func57, Tryd.ntmps57
  go_wp2
  go_loopg [5, 6] (ks.length) (fun n m i wr => ∃ j : Nat, j + n = ks.length ∧ i = .int .i64 j ∧ ∃ x : Nat, m = .int .i64 x ∧ Hid (x + (match d with | 0 => 0 | d + 1 => manyToL (ks.drop j) d) = Rex.manyTo (.mk k s ks) d) ∧ Hid (Blk wr w.heap.size #[.int .i64 k, .slice A s.length c, .slice K ks.length ck] 36) ∧ Hid (Below w.heap.size w wr))
  case atStart =>
    refine ⟨0, by omega, rfl, 1, rfl, ?_, HX, HB⟩
    show _ = _
    cases d with
    | zero => rfl
    | succ d => rw [List.drop_zero, Rex.manyTo]
  case round =>
    clear HB HX
    obtain ⟨j, hj, rfl, x, rfl, HM, HX, HB⟩ := hrel
    have n2 : wr.cell? ⟨w.heap.size, 2, none⟩ = some (.slice K ks.length ck) := by rw [HX.out.cell]; rfl
    by_cases hlt : j < ks.length
    · have t1 : decide (j < ks.length) = true := decide_eq_true hlt
      cases d with
      | zero =>
        go_wp2
        go_ret
        exact ⟨ret_int (by have := HM.out; simp at this; omega), HB.out⟩
      | succ d =>
        obtain ⟨a, r, x1, x2, rfl, HE, HD, HV, c0, c1, c2⟩ := (HK.out.below HB.out).at_ j hlt
        have hmem := List.mem_of_getElem? HE.out
        have hks := sizeL_kid hmem
        have E2 : Hid (manyToL (ks.drop j) d = r.manyTo d + manyToL (ks.drop (j + 1)) d) := by show _ = _; rw [HD.out, manyToL]
        have HT := Lib.hid (manyTo_le (.mk k s ks) (d + 1))
        have hx : x + r.manyTo d ≤ 1 + manyL ks := by
          have h1 := HM.out
          have h2 := E2.out
          have h3 := HT.out
          rw [Rex.many] at h3
          simp only at h1
          omega
        have t2 : (0 : Int) < ((d + 1 : Nat) : Int) := by omega
        go_wp2_with fail
        refine (ih r hmem d _ _ _ _ (by omega) HV.out (by omega)).mono ?_
        rintro e w4 ⟨rfl, b4⟩
        have HB4 := Lib.hid (below_then HB.out b4)
        have HX4 := Lib.hid (HX.out.below b4)
        clear b4 c0 c1 c2 n2
        go_wp2
        go_roundg (gk - 1)
        case rel =>
          refine ⟨j + 1, by omega, by go_num, x + r.manyTo d, by go_num, ?_, HX4, HB4⟩
          show _ = _
          have h1 := HM.out
          have h2 := E2.out
          omega
        case measure => omega
    · go_wp2
      go_ret
      refine ⟨ret_int ?_, HB.out⟩
      have := HM.out
      cases d with
      | zero => simp at this; omega
      | succ d => simp only [List.drop_of_length_le (show ks.length ≤ j by omega), manyToL] at this; omega

end Go.Proofs.YtlchipjckgaclaaDoor

/- What is formed to a depth has no parts below it. -/
namespace Go.Proofs.YtlchipjckgaclaaDoor

theorem manyToL_eq {d : Nat} {l : List Rex} (h : ∀ r, r ∈ l → r.manyTo d = r.many) : manyToL l d = manyL l := by
  induction l with
  | nil => rfl
  | cons x xs ih => rw [manyToL, manyL, h x (by simp), ih fun r hr => h r (by simp [hr])]
theorem formed_many (d : Nat) : ∀ r, formed d r = true → r.manyTo d = r.many := by
  induction d with
  | zero => intro r h; simp [formed] at h
  | succ d ih =>
    intro r h
    obtain ⟨k, s, ks⟩ := r
    rw [formed, Bool.and_eq_true, List.all_eq_true] at h
    have e : manyToL ks d = manyL ks := manyToL_eq fun r hr => ih r (h.2 r hr)
    rw [Rex.manyTo, Rex.many, e]

end Go.Proofs.YtlchipjckgaclaaDoor

/- RexOk, RexMany, of the program and of the reference. -/
namespace Go.Proofs.YtlchipjckgaclaaDoor
set_option linter.unusedSimpArgs false
set_option linter.unusedVariables false
set_option maxRecDepth 100000
open Go.RowKit


theorem rexOk_no1 {r : Rex} (h : formed 8 r = false) : rexOk r = false := by rw [rexOk, h]; rfl
theorem rexOk_of {r : Rex} (h : formed 8 r = true) : rexOk r = decide (r.many ≤ 24) := by rw [rexOk, h]; rfl
theorem dec_le (n : Nat) : decide ((n : Int) ≤ 24) = decide (n ≤ 24) := by
  by_cases h : n ≤ 24
  · rw [decide_eq_true h, decide_eq_true (by omega)]
  · rw [decide_eq_false h, decide_eq_false (by omega)]

set_option maxHeartbeats 1000000 in
theorem iRexOk_c (r : Rex) (v1 v2 : Value) (w : World) (lo : Nat) (h : RexV w lo r (.int .i64 r.kind) v1 v2) (hsz : r.size ≤ 1048576) :
    Calls Tryd.prog 25 #[.agg #[.int .i64 r.kind, v1, v2]] w fun e w' => e = .returned (.bool (rexOk r)) ∧ Below w.heap.size w w' := by
  obtain ⟨A, c, K, ck, _, rfl, rfl, hs, hk⟩ := h.parts
  obtain ⟨wa, hwa⟩ : ∃ x, x = w.alloc (.cells #[.int .i64 r.kind, .slice A r.set.length c, .slice K r.kids.length ck] 36) := ⟨_, rfl⟩
  have hb : Below w.heap.size w wa := by rw [hwa]; exact below_alloc (Below.refl _ _) _
  have m0 : Blk wa w.heap.size #[.int .i64 r.kind, .slice A r.set.length c, .slice K r.kids.length ck] 36 := by rw [hwa]; exact blk_new w _ _
  have HV := Lib.hid (h.under hb)
  have HB := Lib.hid hb
  have M0 := Lib.hid m0
  clear hb m0 hs hk h
  have N0 : ∀ x : BW wa, x.w1.cell? ⟨w.heap.size, 0, none⟩ = some (.int .i64 r.kind) := fun x => by rw [(M0.out.below x.up).cell]; rfl
  have N1 : ∀ x : BW wa, x.w1.cell? ⟨w.heap.size, 1, none⟩ = some (.slice A r.set.length c) := fun x => by rw [(M0.out.below x.up).cell]; rfl
  have N2 : ∀ x : BW wa, x.w1.cell? ⟨w.heap.size, 2, none⟩ = some (.slice K r.kids.length ck) := fun x => by rw [(M0.out.below x.up).cell]; rfl
  go_enter Tryd.func25, Tryd.ntmps25
  go_wp2_with fail
  rw [← hwa]
  clear hwa
  refine (iForm_c _ 8 _ _ _ _ (by omega) HV.out).mono ?_
  rintro e w1 ⟨rfl, b1⟩
  have Hw1 : Hid (Below wa.heap.size wa w1) := b1
  have n0 := N0 ⟨w1, b1⟩
  have n1 := N1 ⟨w1, b1⟩
  have n2 := N2 ⟨w1, b1⟩
  dsimp only at n0 n1 n2
  clear N0 N1 N2 b1
  by_cases hf : formed 8 r = true
  · have HF := Lib.hid hf
    rw [hf]
    clear hf
    go_wp2_with fail
    refine (iMany_c _ _ _ _ _ (HV.out.under Hw1.out) hsz).mono ?_
    rintro e w2 ⟨rfl, b2⟩
    clear n0 n1 n2
    go_wp2
    go_ret
    exact ⟨ret_bool (by rw [rexOk_of HF.out]; simp only [dec_le]), below_then HB.out (below_then Hw1.out b2)⟩
  · have HF : Hid (formed 8 r = false) := by show _ = _; simpa using hf
    rw [HF.out]
    clear hf
    go_wp2
    go_ret
    exact ⟨ret_bool (rexOk_no1 HF.out).symm, below_then HB.out Hw1.out⟩
set_option maxHeartbeats 1000000 in
theorem sRexOk_c (r : Rex) (v1 v2 : Value) (w : World) (lo : Nat) (h : RexV w lo r (.int .i64 r.kind) v1 v2) (hsz : r.size ≤ 1048576) :
    Calls Tryd.prog 24 #[.agg #[.int .i64 r.kind, v1, v2]] w fun e w' => e = .returned (.bool (rexOk r)) ∧ Below w.heap.size w w' := by
  obtain ⟨A, c, K, ck, _, rfl, rfl, hs, hk⟩ := h.parts
  obtain ⟨wa, hwa⟩ : ∃ x, x = w.alloc (.cells #[.int .i64 r.kind, .slice A r.set.length c, .slice K r.kids.length ck] 36) := ⟨_, rfl⟩
  have hb : Below w.heap.size w wa := by rw [hwa]; exact below_alloc (Below.refl _ _) _
  have m0 : Blk wa w.heap.size #[.int .i64 r.kind, .slice A r.set.length c, .slice K r.kids.length ck] 36 := by rw [hwa]; exact blk_new w _ _
  have HV := Lib.hid (h.under hb)
  have HB := Lib.hid hb
  have M0 := Lib.hid m0
  clear hb m0 hs hk h
  have N0 : ∀ x : BW wa, x.w1.cell? ⟨w.heap.size, 0, none⟩ = some (.int .i64 r.kind) := fun x => by rw [(M0.out.below x.up).cell]; rfl
  have N1 : ∀ x : BW wa, x.w1.cell? ⟨w.heap.size, 1, none⟩ = some (.slice A r.set.length c) := fun x => by rw [(M0.out.below x.up).cell]; rfl
  have N2 : ∀ x : BW wa, x.w1.cell? ⟨w.heap.size, 2, none⟩ = some (.slice K r.kids.length ck) := fun x => by rw [(M0.out.below x.up).cell]; rfl
  go_enter Tryd.func24, Tryd.ntmps24
  go_wp2_with fail
  rw [← hwa]
  clear hwa
  refine (sForm_c _ 8 _ _ _ _ (by omega) HV.out).mono ?_
  rintro e w1 ⟨rfl, b1⟩
  have Hw1 : Hid (Below wa.heap.size wa w1) := b1
  have n0 := N0 ⟨w1, b1⟩
  have n1 := N1 ⟨w1, b1⟩
  have n2 := N2 ⟨w1, b1⟩
  dsimp only at n0 n1 n2
  clear N0 N1 N2 b1
  by_cases hf : formed 8 r = true
  · have HF := Lib.hid hf
    rw [hf]
    clear hf
    go_wp2_with fail
    refine (sMany_c _ 8 _ _ _ _ (by omega) (HV.out.under Hw1.out) hsz).mono ?_
    rintro e w2 ⟨rfl, b2⟩
    clear n0 n1 n2
    go_wp2
    go_ret
    exact ⟨ret_bool (by rw [rexOk_of HF.out]; simp only [dec_le]; rw [formed_many 8 r HF.out]), below_then HB.out (below_then Hw1.out b2)⟩
  · have HF : Hid (formed 8 r = false) := by show _ = _; simpa using hf
    rw [HF.out]
    clear hf
    go_wp2
    go_ret
    exact ⟨ret_bool (rexOk_no1 HF.out).symm, below_then HB.out Hw1.out⟩

def rexMany (r : Rex) : Int := if rexOk r then r.many else 0
theorem rexMany_ok {r : Rex} (h : rexOk r = true) : rexMany r = r.many := by rw [rexMany, h]; rfl
theorem rexMany_no {r : Rex} (h : rexOk r = false) : rexMany r = 0 := by rw [rexMany, h]; rfl
theorem rexOk_formed {r : Rex} (h : rexOk r = true) : formed 8 r = true := by rw [rexOk, Bool.and_eq_true] at h; exact h.1
end Go.Proofs.YtlchipjckgaclaaDoor
