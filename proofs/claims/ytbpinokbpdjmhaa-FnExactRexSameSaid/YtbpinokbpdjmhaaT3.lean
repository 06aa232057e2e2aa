/- RexSame, of the reference and of the program. (Printed by wip/gen/rexsame.py.) -/
import Derived.Test.YtbpinokbpdjmhaaT1
import Derived.Test.YtbpinokbpdjmhaaW4s
import Derived.Test.YtbpinokbpdjmhaaBlk
namespace Go.Proofs.Ytbpinokbpdjmhaa
set_option linter.unusedSimpArgs false
set_option linter.unusedVariables false
open Go.RowKit

def SSameOk (r : Rex) : Prop := ∀ (r' : Rex) (v1 v2 u1 u2 : Value) (w : World) (lo lo' : Nat), RexV w lo r (.int .i64 r.kind) v1 v2 → RexV w lo' r' (.int .i64 r'.kind) u1 u2 →
  Calls Try.prog 11 #[.agg #[.int .i64 r.kind, v1, v2], .agg #[.int .i64 r'.kind, u1, u2]] w fun e w' => e = .returned (.bool (rexEq r r')) ∧ Below w.heap.size w w'

set_option maxHeartbeats 2000000 in
theorem sRexSame_c (r : Rex) : SSameOk r := by
  refine Rex.ind (p := SSameOk) (fun k s ks ih => ?_) r
  intro r' v1 v2 u1 u2 w lo lo' h h'
  obtain ⟨k', s', ks'⟩ := r'
  obtain ⟨A, c, K, ck, _, rfl, rfl, hs, hk⟩ := h.parts
  obtain ⟨A', c', K', ck', _, rfl, rfl, hs', hk'⟩ := h'.parts
  dsimp only [Rex.kind, Rex.set, Rex.kids] at hs hk hs' hk' ⊢
  clear h h'
  obtain ⟨wa, hwa⟩ : ∃ x, x = (w.alloc (.cells #[.int .i64 k, .slice A s.length c, .slice K ks.length ck] 31)).alloc (.cells #[.int .i64 k', .slice A' s'.length c', .slice K' ks'.length ck'] 31) := ⟨_, rfl⟩
  have hb : Below w.heap.size w wa := by rw [hwa]; exact below_alloc (below_alloc (Below.refl _ _) _) _
  have m0 : Blk wa w.heap.size #[.int .i64 k, .slice A s.length c, .slice K ks.length ck] 31 := by
    rw [hwa]
    exact (blk_new w _ _).alloc _
  have m1 : Blk wa (w.heap.size + 1) #[.int .i64 k', .slice A' s'.length c', .slice K' ks'.length ck'] 31 := by
    rw [hwa]
    have := blk_new (w.alloc (.cells #[.int .i64 k, .slice A s.length c, .slice K ks.length ck] 31)) #[.int .i64 k', .slice A' s'.length c', .slice K' ks'.length ck'] 31
    simpa using this
  have HS := Lib.hid (hs.below hb)
  have HS' := Lib.hid (hs'.below hb)
  have HK := Lib.hid (hk.below hb)
  have HK' := Lib.hid (hk'.below hb)
  have hlen := hk.len
  have hlen' := hk'.len
  unfold maxN at hlen hlen'
  have HB := Lib.hid hb
  have M0 := Lib.hid m0
  have M1 := Lib.hid m1
  clear hb m0 m1 hs hs' hk hk'
  go_enter Try.func11, Try.ntmps11
  by_cases e0 : k = k'
  · subst e0
    go_wp2_with fail
    rw [← hwa]
    refine (sSetSame_c _ _ _ _ _ _ _ HS.out HS'.out).mono ?_
    rintro e w3 ⟨rfl, d3⟩
    have b3 : Below wa.heap.size wa w3 := d3.below
    have n0 : w3.cell? ⟨w.heap.size, 2, none⟩ = some (.slice K ks.length ck) := by rw [(M0.out.below b3).cell]; rfl
    have n1 : w3.cell? ⟨w.heap.size + 1, 2, none⟩ = some (.slice K' ks'.length ck') := by rw [(M1.out.below b3).cell]; rfl
    have HB3 := Lib.hid b3
    clear b3 d3
    by_cases e1 : s = s'
    · have E1 := Lib.hid e1
      rw [decide_eq_true e1]
      clear e1
      by_cases e2 : ks.length = ks'.length
      · have b1 : ((ks.length : Int) != (ks'.length : Int)) = false := by simp [e2]
        have E2 := Lib.hid e2
        clear e2
        have HWA := Lib.hid hwa
        clear hwa
        go_wp2
        go_loopg [5] (ks.length) (fun n i wr => ∃ j : Nat, j + n = ks.length ∧ i = .int .i64 j ∧ Hid (rexEqL (ks.drop j) (ks'.drop j) = rexEqL ks ks') ∧ Hid (Below wa.heap.size wa wr))
        case atStart => exact ⟨0, by omega, rfl, by rw [List.drop_zero, List.drop_zero]; rfl, HB3⟩
        case round =>
          clear n0 n1 HB3
          obtain ⟨j, hj, rfl, HQ, HW⟩ := hrel
          have n0 : wr.cell? ⟨w.heap.size, 2, none⟩ = some (.slice K ks.length ck) := by rw [(M0.out.below HW.out).cell]; rfl
          have n1 : wr.cell? ⟨w.heap.size + 1, 2, none⟩ = some (.slice K' ks'.length ck') := by rw [(M1.out.below HW.out).cell]; rfl
          by_cases hlt : j < ks.length
          · have hlt' : j < ks'.length := by have := E2.out; omega
            obtain ⟨a, r, x1, x2, rfl, HX, HD, HV, c0, c1, c2⟩ := (HK.out.below HW.out).at_ j hlt
            obtain ⟨a', r', y1, y2, rfl, HX', HD', HV', c0', c1', c2'⟩ := (HK'.out.below HW.out).at_ j hlt'
            have ST : Hid (rexEqL ks ks' = (rexEq r r' && rexEqL (ks.drop (j + 1)) (ks'.drop (j + 1)))) := by show _ = _; rw [← HQ.out, HD.out, HD'.out, rexEqL]
            have HV1 := Lib.hid (HV.out.under (below_drew (Below.refl _ _)))
            have HV2 := Lib.hid (HV'.out.under (below_drew (Below.refl _ _)))
            go_wp2
            go_still_tail 10, (by kernel_rfl)
            by_cases hq : rexEq r r' = true
            · have HE := Lib.hid hq
              clear hq
              go_wp2_with (go_at_call 11; refine (ih r (List.mem_of_getElem? HX.out) r' x1 x2 y1 y2 _ _ _ HV1.out HV2.out).mono ?_; rintro e w' ⟨rfl, hb'⟩; rw [HE.out])
              go_roundg (gk - 1)
              case rel => exact ⟨j + 1, by omega, by go_num, by rw [ST.out, HE.out]; rfl, below_then (below_drew HW.out) hb'⟩
              case measure => omega
            · have HE : Hid (rexEq r r' = false) := by show _ = _; simpa using hq
              clear hq
              go_wp2_with (go_at_call 11; refine (ih r (List.mem_of_getElem? HX.out) r' x1 x2 y1 y2 _ _ _ HV1.out HV2.out).mono ?_; rintro e w' ⟨rfl, hb'⟩; rw [HE.out])
              go_ret
              exact ⟨ret_bool (by rw [rexEq, ST.out, HE.out]; simp), below_then HB.out (below_then (below_drew HW.out) hb')⟩
          · go_wp2
            go_ret
            refine ⟨ret_bool ?_, below_then HB.out HW.out⟩
            rw [rexEq, ← HQ.out, List.drop_of_length_le (by omega), List.drop_of_length_le (by have := E2.out; omega), decide_eq_true E1.out]
            simp [rexEqL]
      · have b1 : ((ks.length : Int) != (ks'.length : Int)) = true := by simp; omega
        have b2 : (ks.length == ks'.length) = false := by simp [e2]
        have C := Lib.hid (rexEqL_len e2)
        clear e2
        go_wp2
        go_ret
        exact ⟨ret_bool (by rw [rexEq, C.out, Bool.and_false]), below_then HB.out HB3.out⟩
    · have E1 := Lib.hid e1
      rw [decide_eq_false e1]
      clear e1
      go_wp2
      go_ret
      exact ⟨ret_bool (by rw [rexEq, decide_eq_false E1.out]; simp), below_then HB.out HB3.out⟩
  · have b0 : (k != k') = true := by simp [e0]
    have E0 := Lib.hid e0
    clear e0
    go_wp2
    rw [← hwa]
    go_ret
    exact ⟨ret_bool (by rw [rexEq, decide_eq_false E0.out]; rfl), HB.out⟩

def ISameOk (r : Rex) : Prop := ∀ (r' : Rex) (v1 v2 u1 u2 : Value) (w : World) (lo lo' : Nat), RexV w lo r (.int .i64 r.kind) v1 v2 → RexV w lo' r' (.int .i64 r'.kind) u1 u2 →
  Calls Try.prog 13 #[.agg #[.int .i64 r.kind, v1, v2], .agg #[.int .i64 r'.kind, u1, u2]] w fun e w' => e = .returned (.bool (rexEq r r')) ∧ Below w.heap.size w w'

set_option maxHeartbeats 2000000 in
theorem iRexSame_c (r : Rex) : ISameOk r := by
  refine Rex.ind (p := ISameOk) (fun k s ks ih => ?_) r
  intro r' v1 v2 u1 u2 w lo lo' h h'
  obtain ⟨k', s', ks'⟩ := r'
  obtain ⟨A, c, K, ck, _, rfl, rfl, hs, hk⟩ := h.parts
  obtain ⟨A', c', K', ck', _, rfl, rfl, hs', hk'⟩ := h'.parts
  dsimp only [Rex.kind, Rex.set, Rex.kids] at hs hk hs' hk' ⊢
  clear h h'
  obtain ⟨wa, hwa⟩ : ∃ x, x = (w.alloc (.cells #[.int .i64 k, .slice A s.length c, .slice K ks.length ck] 31)).alloc (.cells #[.int .i64 k', .slice A' s'.length c', .slice K' ks'.length ck'] 31) := ⟨_, rfl⟩
  have hb : Below w.heap.size w wa := by rw [hwa]; exact below_alloc (below_alloc (Below.refl _ _) _) _
  have m0 : Blk wa w.heap.size #[.int .i64 k, .slice A s.length c, .slice K ks.length ck] 31 := by
    rw [hwa]
    exact (blk_new w _ _).alloc _
  have m1 : Blk wa (w.heap.size + 1) #[.int .i64 k', .slice A' s'.length c', .slice K' ks'.length ck'] 31 := by
    rw [hwa]
    have := blk_new (w.alloc (.cells #[.int .i64 k, .slice A s.length c, .slice K ks.length ck] 31)) #[.int .i64 k', .slice A' s'.length c', .slice K' ks'.length ck'] 31
    simpa using this
  have HS := Lib.hid (hs.below hb)
  have HS' := Lib.hid (hs'.below hb)
  have HK := Lib.hid (hk.below hb)
  have HK' := Lib.hid (hk'.below hb)
  have hlen := hk.len
  have hlen' := hk'.len
  unfold maxN at hlen hlen'
  have HB := Lib.hid hb
  have M0 := Lib.hid m0
  have M1 := Lib.hid m1
  clear hb m0 m1 hs hs' hk hk'
  go_enter Try.func13, Try.ntmps13
  by_cases e0 : k = k'
  · subst e0
    go_wp2_with fail
    rw [← hwa]
    refine (same_c _ _ _ _ _ _ _ HS.out HS'.out).mono ?_
    rintro e w3 ⟨rfl, d3⟩
    have b3 : Below wa.heap.size wa w3 := d3.below
    have n0 : w3.cell? ⟨w.heap.size, 2, none⟩ = some (.slice K ks.length ck) := by rw [(M0.out.below b3).cell]; rfl
    have n1 : w3.cell? ⟨w.heap.size + 1, 2, none⟩ = some (.slice K' ks'.length ck') := by rw [(M1.out.below b3).cell]; rfl
    have HB3 := Lib.hid b3
    clear b3 d3
    by_cases e1 : s = s'
    · have E1 := Lib.hid e1
      rw [decide_eq_true e1]
      clear e1
      by_cases e2 : ks.length = ks'.length
      · have b1 : ((ks.length : Int) != (ks'.length : Int)) = false := by simp [e2]
        have E2 := Lib.hid e2
        clear e2
        have HWA := Lib.hid hwa
        clear hwa
        go_wp2
        go_loopg [31] (ks.length) (fun n i wr => ∃ j : Nat, j + n = ks.length ∧ i = .int .i64 j ∧ Hid (rexEqL (ks.drop j) (ks'.drop j) = rexEqL ks ks') ∧ Hid (Below wa.heap.size wa wr))
        case atStart => exact ⟨0, by omega, rfl, by rw [List.drop_zero, List.drop_zero]; rfl, HB3⟩
        case round =>
          clear n0 n1 HB3
          obtain ⟨j, hj, rfl, HQ, HW⟩ := hrel
          have n0 : wr.cell? ⟨w.heap.size, 2, none⟩ = some (.slice K ks.length ck) := by rw [(M0.out.below HW.out).cell]; rfl
          have n1 : wr.cell? ⟨w.heap.size + 1, 2, none⟩ = some (.slice K' ks'.length ck') := by rw [(M1.out.below HW.out).cell]; rfl
          by_cases hlt : j < ks.length
          · have hlt' : j < ks'.length := by have := E2.out; omega
            obtain ⟨a, r, x1, x2, rfl, HX, HD, HV, c0, c1, c2⟩ := (HK.out.below HW.out).at_ j hlt
            obtain ⟨a', r', y1, y2, rfl, HX', HD', HV', c0', c1', c2'⟩ := (HK'.out.below HW.out).at_ j hlt'
            have ST : Hid (rexEqL ks ks' = (rexEq r r' && rexEqL (ks.drop (j + 1)) (ks'.drop (j + 1)))) := by show _ = _; rw [← HQ.out, HD.out, HD'.out, rexEqL]
            have HV1 := Lib.hid (HV.out.under (below_drew (Below.refl _ _)))
            have HV2 := Lib.hid (HV'.out.under (below_drew (Below.refl _ _)))
            go_wp2
            go_still_tail 10, (by kernel_rfl)
            by_cases hq : rexEq r r' = true
            · have HE := Lib.hid hq
              clear hq
              go_wp2_with (go_at_call 13; refine (ih r (List.mem_of_getElem? HX.out) r' x1 x2 y1 y2 _ _ _ HV1.out HV2.out).mono ?_; rintro e w' ⟨rfl, hb'⟩; rw [HE.out])
              go_roundg (gk - 1)
              case rel => exact ⟨j + 1, by omega, by go_num, by rw [ST.out, HE.out]; rfl, below_then (below_drew HW.out) hb'⟩
              case measure => omega
            · have HE : Hid (rexEq r r' = false) := by show _ = _; simpa using hq
              clear hq
              go_wp2_with (go_at_call 13; refine (ih r (List.mem_of_getElem? HX.out) r' x1 x2 y1 y2 _ _ _ HV1.out HV2.out).mono ?_; rintro e w' ⟨rfl, hb'⟩; rw [HE.out])
              go_ret
              exact ⟨ret_bool (by rw [rexEq, ST.out, HE.out]; simp), below_then HB.out (below_then (below_drew HW.out) hb')⟩
          · go_wp2
            go_ret
            refine ⟨ret_bool ?_, below_then HB.out HW.out⟩
            rw [rexEq, ← HQ.out, List.drop_of_length_le (by omega), List.drop_of_length_le (by have := E2.out; omega), decide_eq_true E1.out]
            simp [rexEqL]
      · have b1 : ((ks.length : Int) != (ks'.length : Int)) = true := by simp; omega
        have b2 : (ks.length == ks'.length) = false := by simp [e2]
        have C := Lib.hid (rexEqL_len e2)
        clear e2
        go_wp2
        go_ret
        exact ⟨ret_bool (by rw [rexEq, C.out, Bool.and_false]), below_then HB.out HB3.out⟩
    · have E1 := Lib.hid e1
      rw [decide_eq_false e1]
      clear e1
      go_wp2
      go_ret
      exact ⟨ret_bool (by rw [rexEq, decide_eq_false E1.out]; simp), below_then HB.out HB3.out⟩
  · have b0 : (k != k') = true := by simp [e0]
    have E0 := Lib.hid e0
    clear e0
    go_wp2
    rw [← hwa]
    go_ret
    exact ⟨ret_bool (by rw [rexEq, decide_eq_false E0.out]; rfl), HB.out⟩

end Go.Proofs.Ytbpinokbpdjmhaa
