/- The law FnExactRexSame: the program's RexSame tells what the reference's tells. (Printed by wip/gen/law.py.) -/
import Derived.Test.YtbpinokbpdjmhaaT2
import Derived.Test.YtbpinokbpdjmhaaT3
import Derived.Deep.RegionHeld3
namespace Go.Proofs.Ytbpinokbpdjmhaa
set_option linter.unusedSimpArgs false
set_option linter.unusedVariables false
open Go.RowKit

theorem toRex_r (r : Rex) (v1 v2 : Value) (w : World) (lo : Nat) (h : RexV w lo r (.int .i64 r.kind) v1 v2) (hx : r.size ≤ 1048576) :
    Calls Try.prog 12 #[.agg #[.int .i64 r.kind, v1, v2]] w fun e w' => ∃ u1 u2, e = .returned (.agg #[.int .i64 r.kind, u1, u2]) ∧ RexV w' w.heap.size r (.int .i64 r.kind) u1 u2 ∧ Below w.heap.size w w' := toRex_c r v1 v2 w lo h hx
theorem sRexSame_r (r r' : Rex) (v1 v2 u1 u2 : Value) (w : World) (lo lo' : Nat) (h : RexV w lo r (.int .i64 r.kind) v1 v2) (h' : RexV w lo' r' (.int .i64 r'.kind) u1 u2) :
    Calls Try.prog 11 #[.agg #[.int .i64 r.kind, v1, v2], .agg #[.int .i64 r'.kind, u1, u2]] w fun e w' => e = .returned (.bool (rexEq r r')) ∧ Below w.heap.size w w' := sRexSame_c r r' v1 v2 u1 u2 w lo lo' h h'

theorem iRexSame_r (r r' : Rex) (v1 v2 u1 u2 : Value) (w : World) (lo lo' : Nat) (h : RexV w lo r (.int .i64 r.kind) v1 v2) (h' : RexV w lo' r' (.int .i64 r'.kind) u1 u2) :
    Calls Try.prog 13 #[.agg #[.int .i64 r.kind, v1, v2], .agg #[.int .i64 r'.kind, u1, u2]] w fun e w' => e = .returned (.bool (rexEq r r')) ∧ Below w.heap.size w w' := iRexSame_c r r' v1 v2 u1 u2 w lo lo' h h'
theorem eqRex_r (r r' : Rex) (v1 v2 u1 u2 : Value) (w : World) (lo lo' : Nat) (h : RexV w lo r (.int .i64 r.kind) v1 v2) (h' : RexV w lo' r' (.int .i64 r'.kind) u1 u2) :
    Calls Try.prog 14 #[.agg #[.int .i64 r.kind, v1, v2], .agg #[.int .i64 r'.kind, u1, u2]] w fun e w' => e = .returned (.bool (rexEq r r')) ∧ Below w.heap.size w w' := eqRex_c r r' v1 v2 u1 u2 w lo lo' h h'

set_option maxHeartbeats 4000000 in
theorem exRexSame_c (r0 : Rex) (p0 q0 : Value) (r1 : Rex) (p1 q1 : Value) (w : World) (h0 : RexV w 0 r0 (.int .i64 r0.kind) p0 q0) (h1 : RexV w 0 r1 (.int .i64 r1.kind) p1 q1) :
    Calls Try.prog 3 #[.agg #[.int .i64 r0.kind, p0, q0], .agg #[.int .i64 r1.kind, p1, q1]] w fun e w' => e = .returned (.bool true) ∧ Below w.heap.size w w' := by
  obtain ⟨wa, hwa⟩ : ∃ x, x = ((w.alloc (.cells #[.int .i64 r0.kind, p0, q0] 25)).alloc (.cells #[.int .i64 r1.kind, p1, q1] 25)) := ⟨_, rfl⟩
  have hb : Below w.heap.size w wa := by rw [hwa]; exact (below_alloc (below_alloc (Below.refl _ _) _) _)
  have m0 : Blk wa (w.heap.size) #[.int .i64 r0.kind, p0, q0] 25 := by
    rw [hwa]
    have := (blk_new w #[.int .i64 r0.kind, p0, q0] 25).alloc (.cells #[.int .i64 r1.kind, p1, q1] 25)
    simpa using this
  have hr0 := Lib.hid h0
  clear h0
  have M0 := Lib.hid m0
  clear m0
  have m1 : Blk wa (w.heap.size + 1) #[.int .i64 r1.kind, p1, q1] 25 := by
    rw [hwa]
    have := (blk_new (w.alloc (.cells #[.int .i64 r0.kind, p0, q0] 25)) #[.int .i64 r1.kind, p1, q1] 25)
    simpa using this
  have hr1 := Lib.hid h1
  clear h1
  have M1 := Lib.hid m1
  clear m1
  have B0 := Lib.hid hb
  clear hb
  go_enter Try.func3, Try.ntmps3
  go_wp2_with fail
  rw [← hwa]
  refine (szRex_c r0 _ _ (1048576 : Int) _ _ (hr0.out.under B0.out) (by omega) (by omega)).mono ?_
  rintro e w1 ⟨rfl, b1⟩
  have B1 := Lib.hid (below_then B0.out b1)
  replace M0 := Lib.hid (M0.out.below b1)
  have n00 : w1.cell? ⟨w.heap.size, 0, none⟩ = some (.int .i64 r0.kind) := by rw [M0.out.cell]; rfl
  have n01 : w1.cell? ⟨w.heap.size, 1, none⟩ = some (p0) := by rw [M0.out.cell]; rfl
  have n02 : w1.cell? ⟨w.heap.size, 2, none⟩ = some (q0) := by rw [M0.out.cell]; rfl
  replace M1 := Lib.hid (M1.out.below b1)
  have n10 : w1.cell? ⟨w.heap.size + 1, 0, none⟩ = some (.int .i64 r1.kind) := by rw [M1.out.cell]; rfl
  have n11 : w1.cell? ⟨w.heap.size + 1, 1, none⟩ = some (p1) := by rw [M1.out.cell]; rfl
  have n12 : w1.cell? ⟨w.heap.size + 1, 2, none⟩ = some (q1) := by rw [M1.out.cell]; rfl
  clear b1 B0
  by_cases hb0 : (1048576 : Int) < r0.size
  · have hs := szLeft_neg hb0
    clear hb0
    go_wp2
    go_ret
    exact ⟨rfl, B1.out⟩
  rw [szLeft_pos hb0]
  go_wp2_with fail
  refine (szRex_c r1 _ _ (1048576 - r0.size : Int) _ _ (hr1.out.under B1.out) (by omega) (by omega)).mono ?_
  rintro e w2 ⟨rfl, b2⟩
  have B2 := Lib.hid (below_then B1.out b2)
  replace M0 := Lib.hid (M0.out.below b2)
  clear n00 n01 n02
  have n00 : w2.cell? ⟨w.heap.size, 0, none⟩ = some (.int .i64 r0.kind) := by rw [M0.out.cell]; rfl
  have n01 : w2.cell? ⟨w.heap.size, 1, none⟩ = some (p0) := by rw [M0.out.cell]; rfl
  have n02 : w2.cell? ⟨w.heap.size, 2, none⟩ = some (q0) := by rw [M0.out.cell]; rfl
  replace M1 := Lib.hid (M1.out.below b2)
  clear n10 n11 n12
  have n10 : w2.cell? ⟨w.heap.size + 1, 0, none⟩ = some (.int .i64 r1.kind) := by rw [M1.out.cell]; rfl
  have n11 : w2.cell? ⟨w.heap.size + 1, 1, none⟩ = some (p1) := by rw [M1.out.cell]; rfl
  have n12 : w2.cell? ⟨w.heap.size + 1, 2, none⟩ = some (q1) := by rw [M1.out.cell]; rfl
  clear b2 B1
  by_cases hb1 : (1048576 - r0.size : Int) < r1.size
  · have hs := szLeft_neg hb1
    clear hb1
    go_wp2
    go_ret
    exact ⟨rfl, B2.out⟩
  rw [szLeft_pos hb1]
  have hx0 : r0.size ≤ 1048576 := by omega
  have hx1 : r1.size ≤ 1048576 := by omega
  have hs : ¬ ((1048576 - r0.size - r1.size : Int) < 0) := by omega
  clear hb0 hb1
  go_wp2
  have HM : ∀ w', Below w2.heap.size w2 w' → w'.cell? ⟨w.heap.size, 0, none⟩ = some (.int .i64 r0.kind) ∧ w'.cell? ⟨w.heap.size, 1, none⟩ = some p0 ∧ w'.cell? ⟨w.heap.size, 2, none⟩ = some q0 ∧ w'.cell? ⟨w.heap.size + 1, 0, none⟩ = some (.int .i64 r1.kind) ∧ w'.cell? ⟨w.heap.size + 1, 1, none⟩ = some p1 ∧ w'.cell? ⟨w.heap.size + 1, 2, none⟩ = some q1 := fun w' hb =>
    ⟨by rw [(M0.out.below hb).cell]; rfl, by rw [(M0.out.below hb).cell]; rfl, by rw [(M0.out.below hb).cell]; rfl, by rw [(M1.out.below hb).cell]; rfl, by rw [(M1.out.below hb).cell]; rfl, by rw [(M1.out.below hb).cell]; rfl⟩
  have HMH := Lib.hid HM
  clear HM hs
  go_region_held3 (fun w' => w'.cell? ⟨w.heap.size, 0, none⟩ = some (.int .i64 r0.kind) ∧ w'.cell? ⟨w.heap.size, 1, none⟩ = some p0 ∧ w'.cell? ⟨w.heap.size, 2, none⟩ = some q0 ∧ w'.cell? ⟨w.heap.size + 1, 0, none⟩ = some (.int .i64 r1.kind) ∧ w'.cell? ⟨w.heap.size + 1, 1, none⟩ = some p1 ∧ w'.cell? ⟨w.heap.size + 1, 2, none⟩ = some q1)
    (first | exact HMH.out _ (Below.refl _ _) | exact HMH.out _ (below_drew (Below.refl _ _)) | exact HMH.out _ BA.out | exact HMH.out _ BC.out | exact HMH.out _ BD.out)
    (first
      | (go_at_call 12; with_reducible refine (toRex_r r0 p0 q0 w2.drew 0 (hr0.out.under (below_drew B2.out)) hx0).mono ?_; rintro e wA ⟨s3, t3, rfl, o3, b3⟩; have BA := Lib.hid (below_then (below_drew (Below.refl w2.heap.size w2)) b3); have O3 := Lib.hid o3; clear o3 b3)
      | (go_at_call 12; with_reducible refine (toRex_r r1 p1 q1 wA 0 (hr1.out.under (below_then B2.out BA.out)) hx1).mono ?_; rintro e wC ⟨s4, t4, rfl, o4, b4⟩; have BC := Lib.hid (below_then BA.out b4); have O4 := Lib.hid o4; have O3' := Lib.hid (O3.out.under b4); clear o4 b4)
      | (go_at_call 11; with_reducible refine (sRexSame_r r0 r1 s3 t3 s4 t4 wC _ _ O3'.out O4.out).mono ?_; rintro e wD ⟨rfl, b5⟩; have BD := Lib.hid (below_then BC.out b5); clear b5))
  replace M0 := Lib.hid (M0.out.below BD.out)
  replace M1 := Lib.hid (M1.out.below BD.out)
  have B9 := Lib.hid (below_then B2.out BD.out)
  have n00 : wD.cell? ⟨w.heap.size, 0, none⟩ = some (.int .i64 r0.kind) := by rw [M0.out.cell]; rfl
  have n01 : wD.cell? ⟨w.heap.size, 1, none⟩ = some (p0) := by rw [M0.out.cell]; rfl
  have n02 : wD.cell? ⟨w.heap.size, 2, none⟩ = some (q0) := by rw [M0.out.cell]; rfl
  have n10 : wD.cell? ⟨w.heap.size + 1, 0, none⟩ = some (.int .i64 r1.kind) := by rw [M1.out.cell]; rfl
  have n11 : wD.cell? ⟨w.heap.size + 1, 1, none⟩ = some (p1) := by rw [M1.out.cell]; rfl
  have n12 : wD.cell? ⟨w.heap.size + 1, 2, none⟩ = some (q1) := by rw [M1.out.cell]; rfl
  clear BA BC BD O3 O3' O4 HMH B2
  go_wp2_with fail
  with_reducible refine (toRex_r r0 p0 q0 wD 0 (hr0.out.under B9.out) hx0).mono ?_
  rintro e w3 ⟨s5, t5, rfl, o5, b5⟩
  obtain ⟨A5, c5, K5, d5, _, rfl, rfl, _⟩ := o5.parts
  replace M0 := Lib.hid (M0.out.below b5)
  replace M1 := Lib.hid (M1.out.below b5)
  have B10 := Lib.hid (below_then B9.out b5)
  clear n00 n01 n02 n10 n11 n12 B9
  have O5 := Lib.hid o5
  clear o5 b5
  have n00 : w3.cell? ⟨w.heap.size, 0, none⟩ = some (.int .i64 r0.kind) := by rw [M0.out.cell]; rfl
  have n01 : w3.cell? ⟨w.heap.size, 1, none⟩ = some (p0) := by rw [M0.out.cell]; rfl
  have n02 : w3.cell? ⟨w.heap.size, 2, none⟩ = some (q0) := by rw [M0.out.cell]; rfl
  have n10 : w3.cell? ⟨w.heap.size + 1, 0, none⟩ = some (.int .i64 r1.kind) := by rw [M1.out.cell]; rfl
  have n11 : w3.cell? ⟨w.heap.size + 1, 1, none⟩ = some (p1) := by rw [M1.out.cell]; rfl
  have n12 : w3.cell? ⟨w.heap.size + 1, 2, none⟩ = some (q1) := by rw [M1.out.cell]; rfl
  obtain ⟨wb, hwb⟩ : ∃ x, x = w3.alloc (.cells #[.int .i64 r0.kind, .slice A5 r0.set.length c5, .slice K5 r0.kids.length d5] 31) := ⟨_, rfl⟩
  have bb : Below w3.heap.size w3 wb := by rw [hwb]; exact below_alloc (Below.refl _ _) _
  have x0 : Blk wb w3.heap.size #[.int .i64 r0.kind, .slice A5 r0.set.length c5, .slice K5 r0.kids.length d5] 31 := by rw [hwb]; exact blk_new _ _ _
  obtain ⟨g0, hg0⟩ : ∃ g, g = w3.heap.size := ⟨_, rfl⟩
  rw [← hg0] at x0
  have X0 := Lib.hid x0
  clear x0
  have y10 := fun o => cell_alloc n10 o
  have y11 := fun o => cell_alloc n11 o
  have y12 := fun o => cell_alloc n12 o
  go_wp2_with fail
  clear y10 y11 y12
  rw [← hwb, ← hg0]
  clear hwb n00 n01 n02 n10 n11 n12 hg0
  replace M0 := Lib.hid (M0.out.below bb)
  replace M1 := Lib.hid (M1.out.below bb)
  replace O5 := Lib.hid (O5.out.under bb)
  have B11 := Lib.hid (below_then B10.out bb)
  clear bb B10
  with_reducible refine (toRex_r r1 p1 q1 wb 0 (hr1.out.under B11.out) hx1).mono ?_
  rintro e w5 ⟨s6, t6, rfl, o6, b6⟩
  obtain ⟨A6, c6, K6, d6, _, rfl, rfl, _⟩ := o6.parts
  replace M0 := Lib.hid (M0.out.below b6)
  replace M1 := Lib.hid (M1.out.below b6)
  replace X0 := Lib.hid (X0.out.below b6)
  replace O5 := Lib.hid (O5.out.under b6)
  have O6 := Lib.hid o6
  have B12 := Lib.hid (below_then B11.out b6)
  clear o6 b6 B11
  obtain ⟨wc, hwc⟩ : ∃ x, x = w5.alloc (.cells #[.int .i64 r1.kind, .slice A6 r1.set.length c6, .slice K6 r1.kids.length d6] 31) := ⟨_, rfl⟩
  have bb : Below w5.heap.size w5 wc := by rw [hwc]; exact below_alloc (Below.refl _ _) _
  have x1 : Blk wc w5.heap.size #[.int .i64 r1.kind, .slice A6 r1.set.length c6, .slice K6 r1.kids.length d6] 31 := by rw [hwc]; exact blk_new _ _ _
  obtain ⟨g1, hg1⟩ : ∃ g, g = w5.heap.size := ⟨_, rfl⟩
  rw [← hg1] at x1
  have X1 := Lib.hid x1
  clear x1
  have x00 : w5.cell? ⟨g0, 0, none⟩ = some (.int .i64 r0.kind) := by rw [X0.out.cell]; rfl
  have x01 : w5.cell? ⟨g0, 1, none⟩ = some (.slice A5 r0.set.length c5) := by rw [X0.out.cell]; rfl
  have x02 : w5.cell? ⟨g0, 2, none⟩ = some (.slice K5 r0.kids.length d5) := by rw [X0.out.cell]; rfl
  have y00 := fun o => cell_alloc x00 o
  have y01 := fun o => cell_alloc x01 o
  have y02 := fun o => cell_alloc x02 o
  go_wp2_with fail
  clear y00 y01 y02 x00 x01 x02
  rw [← hwc, ← hg1]
  clear hwc hg1
  replace M0 := Lib.hid (M0.out.below bb)
  replace M1 := Lib.hid (M1.out.below bb)
  replace X0 := Lib.hid (X0.out.below bb)
  replace O5 := Lib.hid (O5.out.under bb)
  replace O6 := Lib.hid (O6.out.under bb)
  have B13 := Lib.hid (below_then B12.out bb)
  clear bb B12
  with_reducible refine (iRexSame_r r0 r1 _ _ _ _ wc _ _ O5.out O6.out).mono ?_
  rintro e w6 ⟨rfl, b6⟩
  replace M0 := Lib.hid (M0.out.below b6)
  replace M1 := Lib.hid (M1.out.below b6)
  replace X0 := Lib.hid (X0.out.below b6)
  replace X1 := Lib.hid (X1.out.below b6)
  replace O5 := Lib.hid (O5.out.under b6)
  replace O6 := Lib.hid (O6.out.under b6)
  have B14 := Lib.hid (below_then B13.out b6)
  clear b6 B13
  go_wp2
  have HM : ∀ w', Below w6.heap.size w6 w' → w'.cell? ⟨g0, 0, none⟩ = some (.int .i64 r0.kind) ∧ w'.cell? ⟨g0, 1, none⟩ = some (.slice A5 r0.set.length c5) ∧ w'.cell? ⟨g0, 2, none⟩ = some (.slice K5 r0.kids.length d5) ∧ w'.cell? ⟨w.heap.size, 0, none⟩ = some (.int .i64 r0.kind) ∧ w'.cell? ⟨w.heap.size, 1, none⟩ = some (p0) ∧ w'.cell? ⟨w.heap.size, 2, none⟩ = some (q0) := fun w' hb => ⟨by rw [(X0.out.below hb).cell]; rfl, by rw [(X0.out.below hb).cell]; rfl, by rw [(X0.out.below hb).cell]; rfl, by rw [(M0.out.below hb).cell]; rfl, by rw [(M0.out.below hb).cell]; rfl, by rw [(M0.out.below hb).cell]; rfl⟩
  have HMH := Lib.hid HM
  clear HM
  go_region_held3 (fun w' => w'.cell? ⟨g0, 0, none⟩ = some (.int .i64 r0.kind) ∧ w'.cell? ⟨g0, 1, none⟩ = some (.slice A5 r0.set.length c5) ∧ w'.cell? ⟨g0, 2, none⟩ = some (.slice K5 r0.kids.length d5) ∧ w'.cell? ⟨w.heap.size, 0, none⟩ = some (.int .i64 r0.kind) ∧ w'.cell? ⟨w.heap.size, 1, none⟩ = some (p0) ∧ w'.cell? ⟨w.heap.size, 2, none⟩ = some (q0))
    (first | exact HMH.out _ (Below.refl _ _) | exact HMH.out _ (below_drew (Below.refl _ _)) | exact HMH.out _ BA.out | exact HMH.out _ BD.out)
    (first
      | (go_at_call 12; with_reducible refine (toRex_r r0 p0 q0 w6.drew 0 (hr0.out.under (below_drew B14.out)) hx0).mono ?_; rintro e wA ⟨s3, t3, rfl, o3, b3⟩; have BA := Lib.hid (below_then (below_drew (Below.refl w6.heap.size w6)) b3); have O3 := Lib.hid o3; clear o3 b3)
      | (go_at_call 14; with_reducible refine (eqRex_r r0 r0 _ _ _ _ wA _ _ (O5.out.under BA.out) O3.out).mono ?_; rintro e wE ⟨rfl, b5⟩; have BD := Lib.hid (below_then BA.out b5); clear b5; rw [(rexEq_iff r0 r0).2 rfl]))
  replace M1 := Lib.hid (M1.out.below BD.out)
  replace X1 := Lib.hid (X1.out.below BD.out)
  replace O6 := Lib.hid (O6.out.under BD.out)
  have BwE := Lib.hid (below_then B14.out BD.out)
  clear BA BD O3 HMH B14
  clear M0 X0 O5
  go_wp2
  have HM : ∀ w', Below wE.heap.size wE w' → w'.cell? ⟨g1, 0, none⟩ = some (.int .i64 r1.kind) ∧ w'.cell? ⟨g1, 1, none⟩ = some (.slice A6 r1.set.length c6) ∧ w'.cell? ⟨g1, 2, none⟩ = some (.slice K6 r1.kids.length d6) ∧ w'.cell? ⟨w.heap.size + 1, 0, none⟩ = some (.int .i64 r1.kind) ∧ w'.cell? ⟨w.heap.size + 1, 1, none⟩ = some (p1) ∧ w'.cell? ⟨w.heap.size + 1, 2, none⟩ = some (q1) := fun w' hb => ⟨by rw [(X1.out.below hb).cell]; rfl, by rw [(X1.out.below hb).cell]; rfl, by rw [(X1.out.below hb).cell]; rfl, by rw [(M1.out.below hb).cell]; rfl, by rw [(M1.out.below hb).cell]; rfl, by rw [(M1.out.below hb).cell]; rfl⟩
  have HMH := Lib.hid HM
  clear HM
  go_region_held3 (fun w' => w'.cell? ⟨g1, 0, none⟩ = some (.int .i64 r1.kind) ∧ w'.cell? ⟨g1, 1, none⟩ = some (.slice A6 r1.set.length c6) ∧ w'.cell? ⟨g1, 2, none⟩ = some (.slice K6 r1.kids.length d6) ∧ w'.cell? ⟨w.heap.size + 1, 0, none⟩ = some (.int .i64 r1.kind) ∧ w'.cell? ⟨w.heap.size + 1, 1, none⟩ = some (p1) ∧ w'.cell? ⟨w.heap.size + 1, 2, none⟩ = some (q1))
    (first | exact HMH.out _ (Below.refl _ _) | exact HMH.out _ (below_drew (Below.refl _ _)) | exact HMH.out _ BA.out | exact HMH.out _ BD.out)
    (first
      | (go_at_call 12; with_reducible refine (toRex_r r1 p1 q1 wE.drew 0 (hr1.out.under (below_drew BwE.out)) hx1).mono ?_; rintro e wA ⟨s3, t3, rfl, o3, b3⟩; have BA := Lib.hid (below_then (below_drew (Below.refl wE.heap.size wE)) b3); have O3 := Lib.hid o3; clear o3 b3)
      | (go_at_call 14; with_reducible refine (eqRex_r r1 r1 _ _ _ _ wA _ _ (O6.out.under BA.out) O3.out).mono ?_; rintro e wF ⟨rfl, b5⟩; have BD := Lib.hid (below_then BA.out b5); clear b5; rw [(rexEq_iff r1 r1).2 rfl]))
  have BwF := Lib.hid (below_then BwE.out BD.out)
  clear BA BD O3 HMH BwE
  go_wp2
  go_ret
  exact ⟨rfl, BwF.out⟩

end Go.Proofs.Ytbpinokbpdjmhaa
