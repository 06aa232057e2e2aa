/- The law FnExactRexText: the program's RexText tells what the reference's tells. -/
import Derived.Test.YtlchipjckgaclaaDoorTq
import Derived.Test.YtlchipjckgaclaaDoorTr
namespace Go.Proofs.YtlchipjckgaclaaDoor
set_option linter.unusedSimpArgs false
set_option linter.unusedVariables false
set_option maxRecDepth 100000
open Go.RowKit

theorem iRexText_p (r : Rex) (v1 v2 : Value) (w : World) (lo : Nat) (hp : Pow10 w) (h : RexV w lo r (.int .i64 r.kind) v1 v2) (hsz : r.size ≤ 1048576) :
    Calls Tryd.prog 17 #[.agg #[.int .i64 r.kind, v1, v2]] w fun e w' => e = .returned (.string (str (rexText r))) ∧ Below w.heap.size w w' := iRexText_c r v1 v2 w lo h hsz hp
set_option maxHeartbeats 4000000 in
theorem exRexText_c (r0 : Rex) (p0 q0 : Value) (w : World) (h0 : RexV w 0 r0 (.int .i64 r0.kind) p0 q0) (ht : Pow10 w) :
    Calls Tryd.prog 4 #[.agg #[.int .i64 r0.kind, p0, q0]] w fun e w' => e = .returned (.bool true) ∧ Below w.heap.size w w' := by
  have HT := Lib.hid ht
  clear ht
  obtain ⟨wa, hwa⟩ : ∃ x, x = w.alloc (.cells #[.int .i64 r0.kind, p0, q0] 31) := ⟨_, rfl⟩
  have hb : Below w.heap.size w wa := by rw [hwa]; exact below_alloc (Below.refl _ _) _
  have m0 : Blk wa w.heap.size #[.int .i64 r0.kind, p0, q0] 31 := by rw [hwa]; exact blk_new w _ _
  replace hwa := hwa.symm
  have HR := Lib.hid h0
  have M0 := Lib.hid m0
  have B0 := Lib.hid hb
  clear hb m0 h0
  have n0 : wa.cell? ⟨w.heap.size, 0, none⟩ = some (.int .i64 r0.kind) := by rw [M0.out.cell]; rfl
  have n0' : wa.cell? ⟨w.heap.size, 1, none⟩ = some (p0) := by rw [M0.out.cell]; rfl
  have n0'' : wa.cell? ⟨w.heap.size, 2, none⟩ = some (q0) := by rw [M0.out.cell]; rfl
  go_enter Tryd.func4, Tryd.ntmps4
  go_wp2_with fail
  clear hwa
  refine (szRex_c r0 _ _ (1048576 : Int) _ _ (HR.out.under B0.out) (by omega) (by omega)).mono ?_
  rintro e w1 ⟨rfl, b1⟩
  have B1 := Lib.hid (below_then B0.out b1)
  replace M0 := Lib.hid (M0.out.below b1)
  clear n0 n0' n0'' b1 B0
  have n0 : w1.cell? ⟨w.heap.size, 0, none⟩ = some (.int .i64 r0.kind) := by rw [M0.out.cell]; rfl
  have n0' : w1.cell? ⟨w.heap.size, 1, none⟩ = some (p0) := by rw [M0.out.cell]; rfl
  have n0'' : w1.cell? ⟨w.heap.size, 2, none⟩ = some (q0) := by rw [M0.out.cell]; rfl
  by_cases hb0 : (1048576 : Int) < r0.size
  · have hs := szLeft_neg hb0
    clear hb0
    go_wp2
    go_ret
    exact ⟨rfl, B1.out⟩
  rw [szLeft_pos hb0]
  have hx0 : r0.size ≤ 1048576 := by omega
  have hs : ¬ ((1048576 - r0.size : Int) < 0) := by omega
  clear hb0
  go_wp2_with fail
  refine (toRex_r r0 p0 q0 w1 0 (HR.out.under B1.out) hx0).mono ?_
  rintro e w2 ⟨s2, t2, rfl, o2, b2⟩
  obtain ⟨A2, c2, K2, d2, _, rfl, rfl, _⟩ := o2.parts
  have B2 := Lib.hid (below_then B1.out b2)
  replace M0 := Lib.hid (M0.out.below b2)
  have O2 := Lib.hid o2
  clear n0 n0' n0'' o2 b2 B1
  have n0 : w2.cell? ⟨w.heap.size, 0, none⟩ = some (.int .i64 r0.kind) := by rw [M0.out.cell]; rfl
  have n0' : w2.cell? ⟨w.heap.size, 1, none⟩ = some (p0) := by rw [M0.out.cell]; rfl
  have n0'' : w2.cell? ⟨w.heap.size, 2, none⟩ = some (q0) := by rw [M0.out.cell]; rfl
  clear hs
  go_wp2_with fail
  refine (sRexText_c _ _ _ _ _ O2.out hx0).mono ?_
  rintro e w3 ⟨rfl, b3⟩
  have B3 := Lib.hid (below_then B2.out b3)
  replace M0 := Lib.hid (M0.out.below b3)
  clear n0 n0' n0'' O2 b3 B2
  have n0 : w3.cell? ⟨w.heap.size, 0, none⟩ = some (.int .i64 r0.kind) := by rw [M0.out.cell]; rfl
  have n0' : w3.cell? ⟨w.heap.size, 1, none⟩ = some (p0) := by rw [M0.out.cell]; rfl
  have n0'' : w3.cell? ⟨w.heap.size, 2, none⟩ = some (q0) := by rw [M0.out.cell]; rfl
  go_wp2_with fail
  refine (toRex_r r0 p0 q0 w3 0 (HR.out.under B3.out) hx0).mono ?_
  rintro e w4 ⟨s4, t4, rfl, o4, b4⟩
  obtain ⟨A4, c4, K4, d4, _, rfl, rfl, _⟩ := o4.parts
  have B4 := Lib.hid (below_then B3.out b4)
  replace M0 := Lib.hid (M0.out.below b4)
  have O4 := Lib.hid o4
  clear n0 n0' n0'' o4 b4 B3
  have n0 : w4.cell? ⟨w.heap.size, 0, none⟩ = some (.int .i64 r0.kind) := by rw [M0.out.cell]; rfl
  have n0' : w4.cell? ⟨w.heap.size, 1, none⟩ = some (p0) := by rw [M0.out.cell]; rfl
  have n0'' : w4.cell? ⟨w.heap.size, 2, none⟩ = some (q0) := by rw [M0.out.cell]; rfl
  obtain ⟨wb, hwb⟩ : ∃ x, x = w4.alloc (.cells #[.int .i64 r0.kind, .slice A4 r0.set.length c4, .slice K4 r0.kids.length d4] 36) := ⟨_, rfl⟩
  have bb : Below w4.heap.size w4 wb := by rw [hwb]; exact below_alloc (Below.refl _ _) _
  have x0 : Blk wb w4.heap.size #[.int .i64 r0.kind, .slice A4 r0.set.length c4, .slice K4 r0.kids.length d4] 36 := by rw [hwb]; exact blk_new _ _ _
  obtain ⟨g0, hg0⟩ : ∃ g, g = w4.heap.size := ⟨_, rfl⟩
  rw [← hg0] at x0
  have X0 := Lib.hid x0
  clear x0
  go_wp2_with fail
  rw [← hwb, ← hg0]
  clear hwb hg0
  replace M0 := Lib.hid (M0.out.below bb)
  replace O4 := Lib.hid (O4.out.under bb)
  have B5 := Lib.hid (below_then B4.out bb)
  clear bb B4 n0 n0' n0''
  refine (iRexText_p _ _ _ _ _ (HT.out.below B5.out) O4.out hx0).mono ?_
  rintro e w6 ⟨rfl, b6⟩
  replace M0 := Lib.hid (M0.out.below b6)
  replace X0 := Lib.hid (X0.out.below b6)
  replace O4 := Lib.hid (O4.out.under b6)
  have B6 := Lib.hid (below_then B5.out b6)
  clear b6 B5
  go_wp2
  have HM : ∀ w', Below w6.heap.size w6 w' → w'.cell? ⟨g0, 0, none⟩ = some (.int .i64 r0.kind) ∧ w'.cell? ⟨g0, 1, none⟩ = some (.slice A4 r0.set.length c4) ∧ w'.cell? ⟨g0, 2, none⟩ = some (.slice K4 r0.kids.length d4) ∧ w'.cell? ⟨w.heap.size, 0, none⟩ = some (.int .i64 r0.kind) ∧ w'.cell? ⟨w.heap.size, 1, none⟩ = some (p0) ∧ w'.cell? ⟨w.heap.size, 2, none⟩ = some (q0) := fun w' hb => ⟨by rw [(X0.out.below hb).cell]; rfl, by rw [(X0.out.below hb).cell]; rfl, by rw [(X0.out.below hb).cell]; rfl, by rw [(M0.out.below hb).cell]; rfl, by rw [(M0.out.below hb).cell]; rfl, by rw [(M0.out.below hb).cell]; rfl⟩
  have HMH := Lib.hid HM
  clear HM
  go_region_held3 (fun w' => w'.cell? ⟨g0, 0, none⟩ = some (.int .i64 r0.kind) ∧ w'.cell? ⟨g0, 1, none⟩ = some (.slice A4 r0.set.length c4) ∧ w'.cell? ⟨g0, 2, none⟩ = some (.slice K4 r0.kids.length d4) ∧ w'.cell? ⟨w.heap.size, 0, none⟩ = some (.int .i64 r0.kind) ∧ w'.cell? ⟨w.heap.size, 1, none⟩ = some (p0) ∧ w'.cell? ⟨w.heap.size, 2, none⟩ = some (q0))
    (first | exact HMH.out _ (Below.refl _ _) | exact HMH.out _ (below_drew (Below.refl _ _)) | exact HMH.out _ BA.out | exact HMH.out _ BD.out)
    (first
      | (go_at_call 16; with_reducible refine (toRex_r r0 p0 q0 w6.drew 0 (HR.out.under (below_drew B6.out)) hx0).mono ?_; rintro e wA ⟨s3, t3, rfl, o3, b3⟩; have BA := Lib.hid (below_then (below_drew (Below.refl w6.heap.size w6)) b3); have O3 := Lib.hid o3; clear o3 b3)
      | (go_at_call 18; with_reducible refine (eqRex_r r0 r0 _ _ _ _ wA _ _ (O4.out.under BA.out) O3.out).mono ?_; rintro e wE ⟨rfl, b5⟩; have BD := Lib.hid (below_then BA.out b5); clear b5; rw [(rexEq_iff r0 r0).2 rfl]))
  have BwE := Lib.hid (below_then B6.out BD.out)
  clear BA BD O3 HMH B6 M0 X0 O4
  go_wp2
  go_ret
  exact ⟨rfl, BwE.out⟩

end Go.Proofs.YtlchipjckgaclaaDoor
