/- Texts joined for the claims: T3 T11. -/
import Derived.Test.YtlchipjckgaclaaDoorG3
import Derived.Test.YtlchipjckgaclaaDoorG8
import Derived.Test.YtlchipjckgaclaaDoorG1
import Derived.Test.YtlchipjckgaclaaDoorG5
/- RexSame, of the reference and of the program. (Printed by wip/gen/rexsame.py.) -/
namespace Go.Proofs.YtlchipjckgaclaaDoor
set_option linter.unusedSimpArgs false
set_option linter.unusedVariables false
set_option maxRecDepth 100000
open Go.RowKit

def SSameOk (r : Rex) : Prop := ∀ (r' : Rex) (v1 v2 u1 u2 : Value) (w : World) (lo lo' : Nat), RexV w lo r (.int .i64 r.kind) v1 v2 → RexV w lo' r' (.int .i64 r'.kind) u1 u2 →
  Calls Tryd.prog 21 #[.agg #[.int .i64 r.kind, v1, v2], .agg #[.int .i64 r'.kind, u1, u2]] w fun e w' => e = .returned (.bool (rexEq r r')) ∧ Below w.heap.size w w'

set_option maxHeartbeats 2000000 in
theorem sRexSame_c (r : Rex) : SSameOk r := by
  refine Rex.ind (p := SSameOk) (fun k s ks ih => ?_) r
  intro r' v1 v2 u1 u2 w lo lo' h h'
  obtain ⟨k', s', ks'⟩ := r'
  obtain ⟨A, c, K, ck, _, rfl, rfl, hs, hk⟩ := h.parts
  obtain ⟨A', c', K', ck', _, rfl, rfl, hs', hk'⟩ := h'.parts
  dsimp only [Rex.kind, Rex.set, Rex.kids] at hs hk hs' hk' ⊢
  clear h h'
  obtain ⟨wa, hwa⟩ : ∃ x, x = (w.alloc (.cells #[.int .i64 k, .slice A s.length c, .slice K ks.length ck] 36)).alloc (.cells #[.int .i64 k', .slice A' s'.length c', .slice K' ks'.length ck'] 36) := ⟨_, rfl⟩
  have hb : Below w.heap.size w wa := by rw [hwa]; exact below_alloc (below_alloc (Below.refl _ _) _) _
  have m0 : Blk wa w.heap.size #[.int .i64 k, .slice A s.length c, .slice K ks.length ck] 36 := by
    rw [hwa]
    exact (blk_new w _ _).alloc _
  have m1 : Blk wa (w.heap.size + 1) #[.int .i64 k', .slice A' s'.length c', .slice K' ks'.length ck'] 36 := by
    rw [hwa]
    have := blk_new (w.alloc (.cells #[.int .i64 k, .slice A s.length c, .slice K ks.length ck] 36)) #[.int .i64 k', .slice A' s'.length c', .slice K' ks'.length ck'] 36
    simpa using this
  have HS := Lib.hid (hs.below hb)
  have HS' := Lib.hid (hs'.below hb)
  have HK := Lib.hid (hk.below hb)
  have HK' := Lib.hid (hk'.below hb)
  have hlen := hk.len
  have hlen' := hk'.len
  unfold maxN at hlen hlen'
  have HB := Lib.hid hb
  have M0 := Lib.hid m0
  have M1 := Lib.hid m1
  clear hb m0 m1 hs hs' hk hk'
  go_enter Tryd.func21, Tryd.ntmps21
  by_cases e0 : k = k'
  · subst e0
    go_wp2_with fail
    rw [← hwa]
    refine (sSetSame_c _ _ _ _ _ _ _ HS.out HS'.out).mono ?_
    rintro e w3 ⟨rfl, d3⟩
    have b3 : Below wa.heap.size wa w3 := d3.below
    have n0 : w3.cell? ⟨w.heap.size, 2, none⟩ = some (.slice K ks.length ck) := by rw [(M0.out.below b3).cell]; rfl
    have n1 : w3.cell? ⟨w.heap.size + 1, 2, none⟩ = some (.slice K' ks'.length ck') := by rw [(M1.out.below b3).cell]; rfl
    have HB3 := Lib.hid b3
    clear b3 d3
    by_cases e1 : s = s'
    · have E1 := Lib.hid e1
      rw [decide_eq_true e1]
      clear e1
      by_cases e2 : ks.length = ks'.length
      · have b1 : ((ks.length : Int) != (ks'.length : Int)) = false := by simp [e2]
        have E2 := Lib.hid e2
        clear e2
        have HWA := Lib.hid hwa
        clear hwa
        go_wp2
        go_loopg [5] (ks.length) (fun n i wr => ∃ j : Nat, j + n = ks.length ∧ i = .int .i64 j ∧ Hid (rexEqL (ks.drop j) (ks'.drop j) = rexEqL ks ks') ∧ Hid (Below wa.heap.size wa wr))
        case atStart => exact ⟨0, by omega, rfl, by rw [List.drop_zero, List.drop_zero]; rfl, HB3⟩
        case round =>
          clear n0 n1 HB3
          obtain ⟨j, hj, rfl, HQ, HW⟩ := hrel
          have n0 : wr.cell? ⟨w.heap.size, 2, none⟩ = some (.slice K ks.length ck) := by rw [(M0.out.below HW.out).cell]; rfl
          have n1 : wr.cell? ⟨w.heap.size + 1, 2, none⟩ = some (.slice K' ks'.length ck') := by rw [(M1.out.below HW.out).cell]; rfl
          by_cases hlt : j < ks.length
          · have hlt' : j < ks'.length := by have := E2.out; omega
            obtain ⟨a, r, x1, x2, rfl, HX, HD, HV, c0, c1, c2⟩ := (HK.out.below HW.out).at_ j hlt
            obtain ⟨a', r', y1, y2, rfl, HX', HD', HV', c0', c1', c2'⟩ := (HK'.out.below HW.out).at_ j hlt'
            have ST : Hid (rexEqL ks ks' = (rexEq r r' && rexEqL (ks.drop (j + 1)) (ks'.drop (j + 1)))) := by show _ = _; rw [← HQ.out, HD.out, HD'.out, rexEqL]
            have HV1 := Lib.hid (HV.out.under (below_drew (Below.refl _ _)))
            have HV2 := Lib.hid (HV'.out.under (below_drew (Below.refl _ _)))
            go_wp2
            go_still_tail 10, (by kernel_rfl)
            by_cases hq : rexEq r r' = true
            · have HE := Lib.hid hq
              clear hq
              go_wp2_with (go_at_call 21; refine (ih r (List.mem_of_getElem? HX.out) r' x1 x2 y1 y2 _ _ _ HV1.out HV2.out).mono ?_; rintro e w' ⟨rfl, hb'⟩; rw [HE.out])
              go_roundg (gk - 1)
              case rel => exact ⟨j + 1, by omega, by go_num, by rw [ST.out, HE.out]; rfl, below_then (below_drew HW.out) hb'⟩
              case measure => omega
            · have HE : Hid (rexEq r r' = false) := by show _ = _; simpa using hq
              clear hq
              go_wp2_with (go_at_call 21; refine (ih r (List.mem_of_getElem? HX.out) r' x1 x2 y1 y2 _ _ _ HV1.out HV2.out).mono ?_; rintro e w' ⟨rfl, hb'⟩; rw [HE.out])
              go_ret
              exact ⟨ret_bool (by rw [rexEq, ST.out, HE.out]; simp), below_then HB.out (below_then (below_drew HW.out) hb')⟩
          · go_wp2
            go_ret
            refine ⟨ret_bool ?_, below_then HB.out HW.out⟩
            rw [rexEq, ← HQ.out, List.drop_of_length_le (by omega), List.drop_of_length_le (by have := E2.out; omega), decide_eq_true E1.out]
            simp [rexEqL]
      · have b1 : ((ks.length : Int) != (ks'.length : Int)) = true := by simp; omega
        have b2 : (ks.length == ks'.length) = false := by simp [e2]
        have C := Lib.hid (rexEqL_len e2)
        clear e2
        go_wp2
        go_ret
        exact ⟨ret_bool (by rw [rexEq, C.out, Bool.and_false]), below_then HB.out HB3.out⟩
    · have E1 := Lib.hid e1
      rw [decide_eq_false e1]
      clear e1
      go_wp2
      go_ret
      exact ⟨ret_bool (by rw [rexEq, decide_eq_false E1.out]; simp), below_then HB.out HB3.out⟩
  · have b0 : (k != k') = true := by simp [e0]
    have E0 := Lib.hid e0
    clear e0
    go_wp2
    rw [← hwa]
    go_ret
    exact ⟨ret_bool (by rw [rexEq, decide_eq_false E0.out]; rfl), HB.out⟩

def ISameOk (r : Rex) : Prop := ∀ (r' : Rex) (v1 v2 u1 u2 : Value) (w : World) (lo lo' : Nat), RexV w lo r (.int .i64 r.kind) v1 v2 → RexV w lo' r' (.int .i64 r'.kind) u1 u2 →
  Calls Tryd.prog 20 #[.agg #[.int .i64 r.kind, v1, v2], .agg #[.int .i64 r'.kind, u1, u2]] w fun e w' => e = .returned (.bool (rexEq r r')) ∧ Below w.heap.size w w'

set_option maxHeartbeats 2000000 in
theorem iRexSame_c (r : Rex) : ISameOk r := by
  refine Rex.ind (p := ISameOk) (fun k s ks ih => ?_) r
  intro r' v1 v2 u1 u2 w lo lo' h h'
  obtain ⟨k', s', ks'⟩ := r'
  obtain ⟨A, c, K, ck, _, rfl, rfl, hs, hk⟩ := h.parts
  obtain ⟨A', c', K', ck', _, rfl, rfl, hs', hk'⟩ := h'.parts
  dsimp only [Rex.kind, Rex.set, Rex.kids] at hs hk hs' hk' ⊢
  clear h h'
  obtain ⟨wa, hwa⟩ : ∃ x, x = (w.alloc (.cells #[.int .i64 k, .slice A s.length c, .slice K ks.length ck] 36)).alloc (.cells #[.int .i64 k', .slice A' s'.length c', .slice K' ks'.length ck'] 36) := ⟨_, rfl⟩
  have hb : Below w.heap.size w wa := by rw [hwa]; exact below_alloc (below_alloc (Below.refl _ _) _) _
  have m0 : Blk wa w.heap.size #[.int .i64 k, .slice A s.length c, .slice K ks.length ck] 36 := by
    rw [hwa]
    exact (blk_new w _ _).alloc _
  have m1 : Blk wa (w.heap.size + 1) #[.int .i64 k', .slice A' s'.length c', .slice K' ks'.length ck'] 36 := by
    rw [hwa]
    have := blk_new (w.alloc (.cells #[.int .i64 k, .slice A s.length c, .slice K ks.length ck] 36)) #[.int .i64 k', .slice A' s'.length c', .slice K' ks'.length ck'] 36
    simpa using this
  have HS := Lib.hid (hs.below hb)
  have HS' := Lib.hid (hs'.below hb)
  have HK := Lib.hid (hk.below hb)
  have HK' := Lib.hid (hk'.below hb)
  have hlen := hk.len
  have hlen' := hk'.len
  unfold maxN at hlen hlen'
  have HB := Lib.hid hb
  have M0 := Lib.hid m0
  have M1 := Lib.hid m1
  clear hb m0 m1 hs hs' hk hk'
  go_enter Tryd.func20, Tryd.ntmps20
  by_cases e0 : k = k'
  · subst e0
    go_wp2_with fail
    rw [← hwa]
    refine (same_c _ _ _ _ _ _ _ HS.out HS'.out).mono ?_
    rintro e w3 ⟨rfl, d3⟩
    have b3 : Below wa.heap.size wa w3 := d3.below
    have n0 : w3.cell? ⟨w.heap.size, 2, none⟩ = some (.slice K ks.length ck) := by rw [(M0.out.below b3).cell]; rfl
    have n1 : w3.cell? ⟨w.heap.size + 1, 2, none⟩ = some (.slice K' ks'.length ck') := by rw [(M1.out.below b3).cell]; rfl
    have HB3 := Lib.hid b3
    clear b3 d3
    by_cases e1 : s = s'
    · have E1 := Lib.hid e1
      rw [decide_eq_true e1]
      clear e1
      by_cases e2 : ks.length = ks'.length
      · have b1 : ((ks.length : Int) != (ks'.length : Int)) = false := by simp [e2]
        have E2 := Lib.hid e2
        clear e2
        have HWA := Lib.hid hwa
        clear hwa
        go_wp2
        go_loopg [31] (ks.length) (fun n i wr => ∃ j : Nat, j + n = ks.length ∧ i = .int .i64 j ∧ Hid (rexEqL (ks.drop j) (ks'.drop j) = rexEqL ks ks') ∧ Hid (Below wa.heap.size wa wr))
        case atStart => exact ⟨0, by omega, rfl, by rw [List.drop_zero, List.drop_zero]; rfl, HB3⟩
        case round =>
          clear n0 n1 HB3
          obtain ⟨j, hj, rfl, HQ, HW⟩ := hrel
          have n0 : wr.cell? ⟨w.heap.size, 2, none⟩ = some (.slice K ks.length ck) := by rw [(M0.out.below HW.out).cell]; rfl
          have n1 : wr.cell? ⟨w.heap.size + 1, 2, none⟩ = some (.slice K' ks'.length ck') := by rw [(M1.out.below HW.out).cell]; rfl
          by_cases hlt : j < ks.length
          · have hlt' : j < ks'.length := by have := E2.out; omega
            obtain ⟨a, r, x1, x2, rfl, HX, HD, HV, c0, c1, c2⟩ := (HK.out.below HW.out).at_ j hlt
            obtain ⟨a', r', y1, y2, rfl, HX', HD', HV', c0', c1', c2'⟩ := (HK'.out.below HW.out).at_ j hlt'
            have ST : Hid (rexEqL ks ks' = (rexEq r r' && rexEqL (ks.drop (j + 1)) (ks'.drop (j + 1)))) := by show _ = _; rw [← HQ.out, HD.out, HD'.out, rexEqL]
            have HV1 := Lib.hid (HV.out.under (below_drew (Below.refl _ _)))
            have HV2 := Lib.hid (HV'.out.under (below_drew (Below.refl _ _)))
            go_wp2
            go_still_tail 10, (by kernel_rfl)
            by_cases hq : rexEq r r' = true
            · have HE := Lib.hid hq
              clear hq
              go_wp2_with (go_at_call 20; refine (ih r (List.mem_of_getElem? HX.out) r' x1 x2 y1 y2 _ _ _ HV1.out HV2.out).mono ?_; rintro e w' ⟨rfl, hb'⟩; rw [HE.out])
              go_roundg (gk - 1)
              case rel => exact ⟨j + 1, by omega, by go_num, by rw [ST.out, HE.out]; rfl, below_then (below_drew HW.out) hb'⟩
              case measure => omega
            · have HE : Hid (rexEq r r' = false) := by show _ = _; simpa using hq
              clear hq
              go_wp2_with (go_at_call 20; refine (ih r (List.mem_of_getElem? HX.out) r' x1 x2 y1 y2 _ _ _ HV1.out HV2.out).mono ?_; rintro e w' ⟨rfl, hb'⟩; rw [HE.out])
              go_ret
              exact ⟨ret_bool (by rw [rexEq, ST.out, HE.out]; simp), below_then HB.out (below_then (below_drew HW.out) hb')⟩
          · go_wp2
            go_ret
            refine ⟨ret_bool ?_, below_then HB.out HW.out⟩
            rw [rexEq, ← HQ.out, List.drop_of_length_le (by omega), List.drop_of_length_le (by have := E2.out; omega), decide_eq_true E1.out]
            simp [rexEqL]
      · have b1 : ((ks.length : Int) != (ks'.length : Int)) = true := by simp; omega
        have b2 : (ks.length == ks'.length) = false := by simp [e2]
        have C := Lib.hid (rexEqL_len e2)
        clear e2
        go_wp2
        go_ret
        exact ⟨ret_bool (by rw [rexEq, C.out, Bool.and_false]), below_then HB.out HB3.out⟩
    · have E1 := Lib.hid e1
      rw [decide_eq_false e1]
      clear e1
      go_wp2
      go_ret
      exact ⟨ret_bool (by rw [rexEq, decide_eq_false E1.out]; simp), below_then HB.out HB3.out⟩
  · have b0 : (k != k') = true := by simp [e0]
    have E0 := Lib.hid e0
    clear e0
    go_wp2
    rw [← hwa]
    go_ret
    exact ⟨ret_bool (by rw [rexEq, decide_eq_false E0.out]; rfl), HB.out⟩

end Go.Proofs.YtlchipjckgaclaaDoor

/- RexNull, of the program and of the reference. -/
namespace Go.Proofs.YtlchipjckgaclaaDoor
set_option linter.unusedSimpArgs false
set_option linter.unusedVariables false
set_option maxRecDepth 100000
open Go.RowKit

def rexNull (r : Rex) : Bool := rexOk r && null r
set_option maxHeartbeats 1000000 in
theorem iRexNull_c (r : Rex) (v1 v2 : Value) (w : World) (lo : Nat) (h : RexV w lo r (.int .i64 r.kind) v1 v2) (hsz : r.size ≤ 1048576) :
    Calls Tryd.prog 22 #[.agg #[.int .i64 r.kind, v1, v2]] w fun e w' => e = .returned (.bool (rexNull r)) ∧ Below w.heap.size w w' := by
  obtain ⟨A, c, K, ck, _, rfl, rfl, hs, hk⟩ := h.parts
  obtain ⟨wa, hwa⟩ : ∃ x, x = w.alloc (.cells #[.int .i64 r.kind, .slice A r.set.length c, .slice K r.kids.length ck] 36) := ⟨_, rfl⟩
  have hb : Below w.heap.size w wa := by rw [hwa]; exact below_alloc (Below.refl _ _) _
  have m0 : Blk wa w.heap.size #[.int .i64 r.kind, .slice A r.set.length c, .slice K r.kids.length ck] 36 := by rw [hwa]; exact blk_new w _ _
  have HV := Lib.hid (h.under hb)
  have HB := Lib.hid hb
  have M0 := Lib.hid m0
  clear hb m0 hs hk h
  replace hwa := hwa.symm
  have n0 : wa.cell? ⟨w.heap.size, 0, none⟩ = some (.int .i64 r.kind) := by rw [M0.out.cell]; rfl
  have n0' : wa.cell? ⟨w.heap.size, 1, none⟩ = some (.slice A r.set.length c) := by rw [M0.out.cell]; rfl
  have n0'' : wa.cell? ⟨w.heap.size, 2, none⟩ = some (.slice K r.kids.length ck) := by rw [M0.out.cell]; rfl
  go_enter Tryd.func22, Tryd.ntmps22
  go_wp2_with fail
  clear hwa
  refine (iRexOk_c _ _ _ _ _ HV.out hsz).mono ?_
  rintro e w1 ⟨rfl, b1⟩
  have H1 := Lib.hid b1
  replace M0 := Lib.hid (M0.out.below b1)
  clear n0 n0' n0'' b1
  have n0 : w1.cell? ⟨w.heap.size, 0, none⟩ = some (.int .i64 r.kind) := by rw [M0.out.cell]; rfl
  have n0' : w1.cell? ⟨w.heap.size, 1, none⟩ = some (.slice A r.set.length c) := by rw [M0.out.cell]; rfl
  have n0'' : w1.cell? ⟨w.heap.size, 2, none⟩ = some (.slice K r.kids.length ck) := by rw [M0.out.cell]; rfl
  by_cases hf : rexOk r = true
  · have HF := Lib.hid hf
    rw [hf]
    clear hf
    go_wp2_with fail
    refine (iNull_c r 8 _ _ _ _ (rexOk_formed HF.out) (HV.out.under H1.out)).mono ?_
    rintro e w2 ⟨rfl, b2⟩
    clear n0 n0' n0''
    go_wp2
    go_ret
    exact ⟨ret_bool (by rw [rexNull, HF.out]; rfl), below_then HB.out (below_then H1.out b2)⟩
  · have HF : Hid (rexOk r = false) := by show _ = _; simpa using hf
    rw [HF.out]
    clear hf
    go_wp2
    go_ret
    exact ⟨ret_bool (by rw [rexNull, HF.out]; rfl), below_then HB.out H1.out⟩
set_option maxHeartbeats 1000000 in
theorem sRexNull_c (r : Rex) (v1 v2 : Value) (w : World) (lo : Nat) (h : RexV w lo r (.int .i64 r.kind) v1 v2) (hsz : r.size ≤ 1048576) :
    Calls Tryd.prog 23 #[.agg #[.int .i64 r.kind, v1, v2]] w fun e w' => e = .returned (.bool (rexNull r)) ∧ Below w.heap.size w w' := by
  obtain ⟨A, c, K, ck, _, rfl, rfl, hs, hk⟩ := h.parts
  obtain ⟨wa, hwa⟩ : ∃ x, x = w.alloc (.cells #[.int .i64 r.kind, .slice A r.set.length c, .slice K r.kids.length ck] 36) := ⟨_, rfl⟩
  have hb : Below w.heap.size w wa := by rw [hwa]; exact below_alloc (Below.refl _ _) _
  have m0 : Blk wa w.heap.size #[.int .i64 r.kind, .slice A r.set.length c, .slice K r.kids.length ck] 36 := by rw [hwa]; exact blk_new w _ _
  have HV := Lib.hid (h.under hb)
  have HB := Lib.hid hb
  have M0 := Lib.hid m0
  clear hb m0 hs hk h
  replace hwa := hwa.symm
  have n0 : wa.cell? ⟨w.heap.size, 0, none⟩ = some (.int .i64 r.kind) := by rw [M0.out.cell]; rfl
  have n0' : wa.cell? ⟨w.heap.size, 1, none⟩ = some (.slice A r.set.length c) := by rw [M0.out.cell]; rfl
  have n0'' : wa.cell? ⟨w.heap.size, 2, none⟩ = some (.slice K r.kids.length ck) := by rw [M0.out.cell]; rfl
  go_enter Tryd.func23, Tryd.ntmps23
  go_wp2_with fail
  clear hwa
  refine (sRexOk_c _ _ _ _ _ HV.out hsz).mono ?_
  rintro e w1 ⟨rfl, b1⟩
  have H1 := Lib.hid b1
  replace M0 := Lib.hid (M0.out.below b1)
  clear n0 n0' n0'' b1
  have n0 : w1.cell? ⟨w.heap.size, 0, none⟩ = some (.int .i64 r.kind) := by rw [M0.out.cell]; rfl
  have n0' : w1.cell? ⟨w.heap.size, 1, none⟩ = some (.slice A r.set.length c) := by rw [M0.out.cell]; rfl
  have n0'' : w1.cell? ⟨w.heap.size, 2, none⟩ = some (.slice K r.kids.length ck) := by rw [M0.out.cell]; rfl
  by_cases hf : rexOk r = true
  · have HF := Lib.hid hf
    rw [hf]
    clear hf
    go_wp2_with fail
    refine (sNull_c r 8 _ _ _ _ (rexOk_formed HF.out) (HV.out.under H1.out)).mono ?_
    rintro e w2 ⟨rfl, b2⟩
    clear n0 n0' n0''
    go_wp2
    go_ret
    exact ⟨ret_bool (by rw [rexNull, HF.out]; rfl), below_then HB.out (below_then H1.out b2)⟩
  · have HF : Hid (rexOk r = false) := by show _ = _; simpa using hf
    rw [HF.out]
    clear hf
    go_wp2
    go_ret
    exact ⟨ret_bool (by rw [rexNull, HF.out]; rfl), below_then HB.out H1.out⟩

end Go.Proofs.YtlchipjckgaclaaDoor
