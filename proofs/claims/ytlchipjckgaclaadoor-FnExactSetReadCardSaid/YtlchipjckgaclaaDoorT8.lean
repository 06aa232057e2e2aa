/- Formed trees: the reference's l2Form. -/
import Derived.Test.YtlchipjckgaclaaDoorT4
import Derived.Test.YtlchipjckgaclaaDoorW1
import Derived.Test.YtlchipjckgaclaaDoorW2
import Derived.Test.YtlchipjckgaclaaDoorBw
namespace Go.Proofs.YtlchipjckgaclaaDoor
set_option linter.unusedSimpArgs false
set_option linter.unusedVariables false
set_option maxRecDepth 100000
open Go.RowKit

def SFormOk (r : Rex) : Prop := ∀ (d : Nat) (v1 v2 : Value) (w : World) (lo : Nat), d ≤ 1000 → RexV w lo r (.int .i64 r.kind) v1 v2 →
  Calls Tryd.prog 56 #[.agg #[.int .i64 r.kind, v1, v2], .int .i64 d] w fun e w' => e = .returned (.bool (formed d r)) ∧ Below w.heap.size w w'

set_option maxHeartbeats 2000000 in
theorem sForm_c (r : Rex) : SFormOk r := by
  refine Rex.ind (p := SFormOk) (fun k s ks ih => ?_) r
  intro d v1 v2 w lo hd h
  obtain ⟨A, c, K, ck, _, rfl, rfl, hs, hk⟩ := h.parts
  dsimp only [Rex.kind, Rex.set, Rex.kids] at hs hk ⊢
  clear h
  have hlen := hk.len
  have hslen := hs.len
  unfold maxN at hlen hslen
  obtain ⟨wa, hwa⟩ : ∃ x, x = w.alloc (.cells #[.int .i64 k, .slice A s.length c, .slice K ks.length ck] 36) := ⟨_, rfl⟩
  have hb : Below w.heap.size w wa := by rw [hwa]; exact below_alloc (Below.refl _ _) _
  have m0 : Blk wa w.heap.size #[.int .i64 k, .slice A s.length c, .slice K ks.length ck] 36 := by rw [hwa]; exact blk_new w _ _
  have HB := Lib.hid hb
  have M0 := Lib.hid m0
  have HS := Lib.hid (hs.below hb)
  have HK := Lib.hid (hk.below hb)
  clear hb m0 hs hk
  have N0 : ∀ x : BW wa, x.w1.cell? ⟨w.heap.size, 0, none⟩ = some (.int .i64 k) := fun x => by rw [(M0.out.below x.up).cell]; rfl
  have N1 : ∀ x : BW wa, x.w1.cell? ⟨w.heap.size, 1, none⟩ = some (.slice A s.length c) := fun x => by rw [(M0.out.below x.up).cell]; rfl
  have N2 : ∀ x : BW wa, x.w1.cell? ⟨w.heap.size, 2, none⟩ = some (.slice K ks.length ck) := fun x => by rw [(M0.out.below x.up).cell]; rfl
  cases d with
  | zero =>
    go_enter Tryd.func56, Tryd.ntmps56
    go_wp2
    rw [← hwa]
    clear hwa
    refine wp_region_bw (by kernel_rfl) (by kernel_rfl) ?_
    repeat (go_big_quiet_step ((fail)))
    refine wpQuiet_nil ?_
    rintro _ ⟨⟨w1, b1⟩, rfl⟩
    go_wp2
    go_ret
    exact ⟨rfl, below_then HB.out b1⟩
  | succ d =>
    have D1 : decide ((d : Int) + 1 < 1) = false := by simp; omega
    by_cases h1 : kidsOf k = ks.length
    · have g1 : (kidsOf k != (ks.length : Int)) = false := by simp [h1]
      by_cases h3 : setOk s = true
      · by_cases h2 : k = 1
        · subst h2
          have NO : Hid (nodeOk (.mk 1 s ks) = true) := by show _ = _; simp [nodeOk, Rex.kind, Rex.kids, Rex.set, h1, h3]
          have H3 := Lib.hid h3
          clear h1 h3
          go_enter Tryd.func56, Tryd.ntmps56
          go_wp2
          rw [← hwa]
          clear hwa
          refine wp_region_bw (by kernel_rfl) (by kernel_rfl) ?_
          repeat (go_big_quiet_step ((first | (go_at_call 86; exact Calls.bw_e rfl (sKids_c _ _)) | (go_at_call 31; exact Calls.bw_d (bv H3.out) (sSetOk_c _ _ _ _ (HS.out.below (BW.up _)))))))
          refine wpQuiet_nil ?_
          rintro w1 ⟨x1, y1⟩
          have b1 : Below wa.heap.size wa w1 := y1 ▸ x1.up
          replace N2 := N2 ⟨w1, b1⟩
          dsimp only at N2
          clear y1 x1
          clear N0 N1
          have HB1 := Lib.hid b1
          clear b1
          go_wp2
          go_loopg [5] (ks.length) (fun n i wr => ∃ j : Nat, j + n = ks.length ∧ i = .int .i64 j ∧ Hid ((ks.drop j).all (formed d) = ks.all (formed d)) ∧ Hid (Below wa.heap.size wa wr))
          case atStart => exact ⟨0, by omega, rfl, by rw [List.drop_zero]; rfl, HB1⟩
          case round =>
            clear HB1 N2 g1
            obtain ⟨j, hj, rfl, HF, HW⟩ := hrel
            have n2 : wr.cell? ⟨w.heap.size, 2, none⟩ = some (.slice K ks.length ck) := by rw [(M0.out.below HW.out).cell]; rfl
            by_cases hlt : j < ks.length
            · obtain ⟨a, r, x1, x2, rfl, HX, HD, HV, c0, c1, c2⟩ := (HK.out.below HW.out).at_ j hlt
              have hmem := List.mem_of_getElem? HX.out
              have E2 : Hid ((ks.drop j).all (formed d) = (formed d r && (ks.drop (j + 1)).all (formed d))) := by show _ = _; rw [HD.out, List.all_cons]
              go_wp2_with fail
              refine (ih r hmem d _ _ _ _ (by omega) HV.out).mono ?_
              rintro e w4 ⟨rfl, b4⟩
              have HW4 := Lib.hid (below_then HW.out b4)
              clear b4 c0 c1 c2 n2
              by_cases hf : formed d r = true
              · have HQ := Lib.hid hf
                rw [hf]
                clear hf
                go_wp2
                go_roundg (gk - 1)
                case rel => exact ⟨j + 1, by omega, by go_num, by have := HF.out; rw [E2.out, HQ.out] at this; exact this, HW4⟩
                case measure => omega
              · have HQ : Hid (formed d r = false) := by show _ = _; simpa using hf
                rw [HQ.out]
                clear hf
                go_wp2
                go_ret
                exact ⟨ret_bool (by rw [formed, NO.out]; show _ = ks.all (formed d); rw [← HF.out, E2.out, HQ.out]; rfl), below_then HB.out HW4.out⟩
            · go_wp2
              go_ret
              exact ⟨ret_bool (by rw [formed, NO.out]; show _ = ks.all (formed d); rw [← HF.out, List.drop_of_length_le (by omega)]; rfl), below_then HB.out HW.out⟩
        · have e2 : (k != 1) = true := by simp [h2]
          by_cases h4 : s = []
          · have e4 : decide (0 < s.length) = false := by simp [h4]
            have NO : Hid (nodeOk (.mk k s ks) = true) := by show _ = _; rw [h4] at h3 ⊢; simp [nodeOk, Rex.kind, Rex.kids, Rex.set, h1, h3]
            have H3 := Lib.hid h3
            clear h1 h3 h2 h4
            go_enter Tryd.func56, Tryd.ntmps56
            go_wp2
            rw [← hwa]
            clear hwa
            refine wp_region_bw (by kernel_rfl) (by kernel_rfl) ?_
            repeat (go_big_quiet_step ((first | (go_at_call 86; exact Calls.bw_e rfl (sKids_c _ _)) | (go_at_call 31; exact Calls.bw_d (bv H3.out) (sSetOk_c _ _ _ _ (HS.out.below (BW.up _)))))))
            refine wpQuiet_nil ?_
            rintro w1 ⟨x1, y1⟩
            have b1 : Below wa.heap.size wa w1 := y1 ▸ x1.up
            replace N2 := N2 ⟨w1, b1⟩
            dsimp only at N2
            clear y1 x1
            clear N0 N1
            have HB1 := Lib.hid b1
            clear b1
            go_wp2
            go_loopg [5] (ks.length) (fun n i wr => ∃ j : Nat, j + n = ks.length ∧ i = .int .i64 j ∧ Hid ((ks.drop j).all (formed d) = ks.all (formed d)) ∧ Hid (Below wa.heap.size wa wr))
            case atStart => exact ⟨0, by omega, rfl, by rw [List.drop_zero]; rfl, HB1⟩
            case round =>
              clear HB1 N2 g1
              obtain ⟨j, hj, rfl, HF, HW⟩ := hrel
              have n2 : wr.cell? ⟨w.heap.size, 2, none⟩ = some (.slice K ks.length ck) := by rw [(M0.out.below HW.out).cell]; rfl
              by_cases hlt : j < ks.length
              · obtain ⟨a, r, x1, x2, rfl, HX, HD, HV, c0, c1, c2⟩ := (HK.out.below HW.out).at_ j hlt
                have hmem := List.mem_of_getElem? HX.out
                have E2 : Hid ((ks.drop j).all (formed d) = (formed d r && (ks.drop (j + 1)).all (formed d))) := by show _ = _; rw [HD.out, List.all_cons]
                go_wp2_with fail
                refine (ih r hmem d _ _ _ _ (by omega) HV.out).mono ?_
                rintro e w4 ⟨rfl, b4⟩
                have HW4 := Lib.hid (below_then HW.out b4)
                clear b4 c0 c1 c2 n2
                by_cases hf : formed d r = true
                · have HQ := Lib.hid hf
                  rw [hf]
                  clear hf
                  go_wp2
                  go_roundg (gk - 1)
                  case rel => exact ⟨j + 1, by omega, by go_num, by have := HF.out; rw [E2.out, HQ.out] at this; exact this, HW4⟩
                  case measure => omega
                · have HQ : Hid (formed d r = false) := by show _ = _; simpa using hf
                  rw [HQ.out]
                  clear hf
                  go_wp2
                  go_ret
                  exact ⟨ret_bool (by rw [formed, NO.out]; show _ = ks.all (formed d); rw [← HF.out, E2.out, HQ.out]; rfl), below_then HB.out HW4.out⟩
              · go_wp2
                go_ret
                exact ⟨ret_bool (by rw [formed, NO.out]; show _ = ks.all (formed d); rw [← HF.out, List.drop_of_length_le (by omega)]; rfl), below_then HB.out HW.out⟩
          · have hl : 0 < s.length := by cases s; exact absurd rfl h4; simp
            have e4 : decide (0 < s.length) = true := decide_eq_true (by omega)
            have NO : Hid (nodeOk (.mk k s ks) = false) := by show _ = _; cases s; exact absurd rfl h4; simp [nodeOk, Rex.kind, Rex.kids, Rex.set, h2]
            clear h1 h3 h2 h4 hl
            go_enter Tryd.func56, Tryd.ntmps56
            go_wp2
            rw [← hwa]
            clear hwa
            refine wp_region_bw (by kernel_rfl) (by kernel_rfl) ?_
            repeat (go_big_quiet_step ((first | (go_at_call 86; exact Calls.bw_e rfl (sKids_c _ _)) | (go_at_call 31; exact Calls.bw_d (bv H3.out) (sSetOk_c _ _ _ _ (HS.out.below (BW.up _)))))))
            refine wpQuiet_nil ?_
            rintro w1 ⟨x1, y1⟩
            have b1 : Below wa.heap.size wa w1 := y1 ▸ x1.up
            replace N2 := N2 ⟨w1, b1⟩
            dsimp only at N2
            clear y1 x1
            clear N0 N1
            go_wp2
            go_ret
            exact ⟨ret_bool (by rw [formed, NO.out]; rfl), below_then HB.out b1⟩
      · replace h3 : setOk s = false := by simpa using h3
        have NO : Hid (nodeOk (.mk k s ks) = false) := by show _ = _; simp [nodeOk, Rex.set, h3]
        by_cases h2 : k = 1
        · subst h2
          have H3 := Lib.hid h3
          clear h1 h3
          go_enter Tryd.func56, Tryd.ntmps56
          go_wp2
          rw [← hwa]
          clear hwa
          refine wp_region_bw (by kernel_rfl) (by kernel_rfl) ?_
          repeat (go_big_quiet_step ((first | (go_at_call 86; exact Calls.bw_e rfl (sKids_c _ _)) | (go_at_call 31; exact Calls.bw_d (bv H3.out) (sSetOk_c _ _ _ _ (HS.out.below (BW.up _)))))))
          refine wpQuiet_nil ?_
          rintro w1 ⟨x1, y1⟩
          have b1 : Below wa.heap.size wa w1 := y1 ▸ x1.up
          replace N2 := N2 ⟨w1, b1⟩
          dsimp only at N2
          clear y1 x1
          clear N0 N1
          go_wp2
          go_ret
          exact ⟨ret_bool (by rw [formed, NO.out]; rfl), below_then HB.out b1⟩
        · have e2 : (k != 1) = true := by simp [h2]
          by_cases h4 : s = []
          · subst h4
            simp [setOk, setOkGo] at h3
          · have hl : 0 < s.length := by cases s; exact absurd rfl h4; simp
            have e4 : decide (0 < s.length) = true := decide_eq_true (by omega)
            clear h1 h3 h2 h4 hl
            go_enter Tryd.func56, Tryd.ntmps56
            go_wp2
            rw [← hwa]
            clear hwa
            refine wp_region_bw (by kernel_rfl) (by kernel_rfl) ?_
            repeat (go_big_quiet_step ((first | (go_at_call 86; exact Calls.bw_e rfl (sKids_c _ _)) | (go_at_call 31; exact Calls.bw_d (bv H3.out) (sSetOk_c _ _ _ _ (HS.out.below (BW.up _)))))))
            refine wpQuiet_nil ?_
            rintro w1 ⟨x1, y1⟩
            have b1 : Below wa.heap.size wa w1 := y1 ▸ x1.up
            replace N2 := N2 ⟨w1, b1⟩
            dsimp only at N2
            clear y1 x1
            clear N0 N1
            go_wp2
            go_ret
            exact ⟨ret_bool (by rw [formed, NO.out]; rfl), below_then HB.out b1⟩
    · have g1 : (kidsOf k != (ks.length : Int)) = true := by simp [h1]
      have NO : Hid (nodeOk (.mk k s ks) = false) := by show _ = _; simp [nodeOk, Rex.kind, Rex.kids, h1]
      clear h1
      go_enter Tryd.func56, Tryd.ntmps56
      go_wp2
      rw [← hwa]
      clear hwa
      refine wp_region_bw (by kernel_rfl) (by kernel_rfl) ?_
      repeat (go_big_quiet_step ((first | (go_at_call 86; exact Calls.bw_e rfl (sKids_c _ _)) | (go_at_call 31; exact Calls.bw_d (bv H3.out) (sSetOk_c _ _ _ _ (HS.out.below (BW.up _)))))))
      refine wpQuiet_nil ?_
      rintro w1 ⟨x1, y1⟩
      have b1 : Below wa.heap.size wa w1 := y1 ▸ x1.up
      replace N2 := N2 ⟨w1, b1⟩
      dsimp only at N2
      clear y1 x1
      clear N0 N1
      go_wp2
      go_ret
      exact ⟨ret_bool (by rw [formed, NO.out]; rfl), below_then HB.out b1⟩

end Go.Proofs.YtlchipjckgaclaaDoor
