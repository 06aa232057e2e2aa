/- The law FnExactDerivParts: the program's DerivParts tells what the reference's tells. -/
import Derived.Test.YtiaccimbkghofaaDp
import Derived.Test.YtiaccimbkghofaaLawSetParts
namespace Go.Proofs.Ytiaccimbkghofaa
set_option linter.unusedSimpArgs false
set_option linter.unusedVariables false
open Go.RowKit

theorem cntSS_derivParts (r : Rex) : cntSS (derivParts r) ≤ 131072 := by
  unfold derivParts
  split
  · exact cntSS_parts _
  · simp [cntSS]

set_option maxRecDepth 100000 in
set_option maxHeartbeats 8000000 in
theorem exDerivParts_c (r0 : Rex) (p0 q0 : Value) (w : World) (h0 : RexV w 0 r0 (.int .i64 r0.kind) p0 q0) :
    Calls Try.prog 13 #[.agg #[.int .i64 r0.kind, p0, q0]] w fun e w' => e = .returned (.bool true) ∧ Below w.heap.size w w' := by
  obtain ⟨wa, hwa⟩ : ∃ x, x = w.alloc (.cells #[.int .i64 r0.kind, p0, q0] 25) := ⟨_, rfl⟩
  have hb : Below w.heap.size w wa := by rw [hwa]; exact below_alloc (Below.refl _ _) _
  have m0 : Blk wa w.heap.size #[.int .i64 r0.kind, p0, q0] 25 := by rw [hwa]; exact blk_new w _ _
  replace hwa := hwa.symm
  have HR := Lib.hid h0
  have M0 := Lib.hid m0
  have B0 := Lib.hid hb
  clear hb m0 h0
  have n0 : wa.cell? ⟨w.heap.size, 0, none⟩ = some (.int .i64 r0.kind) := by rw [M0.out.cell]; rfl
  have n0' : wa.cell? ⟨w.heap.size, 1, none⟩ = some (p0) := by rw [M0.out.cell]; rfl
  have n0'' : wa.cell? ⟨w.heap.size, 2, none⟩ = some (q0) := by rw [M0.out.cell]; rfl
  go_enter Try.func13, Try.ntmps13
  go_wp2_with fail
  clear hwa
  refine (szRex_c r0 _ _ (1048576 : Int) _ _ (HR.out.under B0.out) (by omega) (by omega)).mono ?_
  rintro e w1 ⟨rfl, b1⟩
  have B1 := Lib.hid (below_then B0.out b1)
  replace M0 := Lib.hid (M0.out.below b1)
  clear n0 n0' n0'' b1 B0
  have n0 : w1.cell? ⟨w.heap.size, 0, none⟩ = some (.int .i64 r0.kind) := by rw [M0.out.cell]; rfl
  have n0' : w1.cell? ⟨w.heap.size, 1, none⟩ = some (p0) := by rw [M0.out.cell]; rfl
  have n0'' : w1.cell? ⟨w.heap.size, 2, none⟩ = some (q0) := by rw [M0.out.cell]; rfl
  by_cases hb0 : (1048576 : Int) < r0.size
  · have hs := szLeft_neg hb0
    clear hb0
    go_wp2
    go_ret
    exact ⟨rfl, B1.out⟩
  rw [szLeft_pos hb0]
  have hx0 : r0.size ≤ 1048576 := by omega
  have hs : ¬ ((1048576 - r0.size : Int) < 0) := by omega
  clear hb0
  clear n0 n0' n0''
  have n0a : w1.cell? ⟨w.heap.size, 0, none⟩ = some (.int .i64 r0.kind) := by rw [M0.out.cell]; rfl
  have n0b : w1.cell? ⟨w.heap.size, 1, none⟩ = some (p0) := by rw [M0.out.cell]; rfl
  have n0c : w1.cell? ⟨w.heap.size, 2, none⟩ = some (q0) := by rw [M0.out.cell]; rfl
  go_wp2_with fail
  refine (toRex_r r0 p0 q0 w1 0 (HR.out.under B1.out) hx0).mono ?_
  rintro e w2 ⟨s2, t2, rfl, o2, b2⟩
  have B2 := Lib.hid (below_then B1.out b2)
  replace M0 := Lib.hid (M0.out.below b2)
  have O2 := Lib.hid o2
  clear n0a n0b n0c o2 b2 B1 hs
  go_wp2_with fail
  refine (sDerivParts_c r0 _ _ _ _ O2.out hx0).mono ?_
  rintro e w3 ⟨KW, kW, he, ho, b3⟩
  obtain ⟨T, hT⟩ : ∃ T, T = derivParts r0 := ⟨_, rfl⟩
  have hcT : cntSS T ≤ 131072 := by rw [hT]; exact cntSS_derivParts r0
  rw [← hT] at he ho
  subst he
  have HTT := Lib.hid hT
  have OW := Lib.hid ho
  have B3 := Lib.hid (below_then B2.out b3)
  replace M0 := Lib.hid (M0.out.below b3)
  have hw0 : w.heap.size < w3.heap.size := M0.out.lt
  clear O2 ho b3 B2 hT
  have n0a : w3.cell? ⟨w.heap.size, 0, none⟩ = some (.int .i64 r0.kind) := by rw [M0.out.cell]; rfl
  have n0b : w3.cell? ⟨w.heap.size, 1, none⟩ = some (p0) := by rw [M0.out.cell]; rfl
  have n0c : w3.cell? ⟨w.heap.size, 2, none⟩ = some (q0) := by rw [M0.out.cell]; rfl
  go_wp2_with fail
  refine (toRex_c r0 p0 q0 w3 0 (HR.out.under B3.out) hx0).mono ?_
  rintro e w4 ⟨s4, t4, fpX, rfl, ho, hn, hf, b4⟩
  obtain ⟨L4, fk4, _, _, hs4, hk4⟩ := ho.parts
  obtain ⟨A4, c4, rfl, _⟩ := hs4.sps
  obtain ⟨K4, k4, rfl, _, _⟩ := own_row hk4.hk
  have OX := Lib.hid ho
  have FX : Hid (∀ b, b ∈ fpX → w3.heap.size ≤ b ∧ b < w4.heap.size) := fun b hb => ⟨hf b hb, ho.lt b hb⟩
  have B5 := Lib.hid (below_then B3.out b4)
  replace M0 := Lib.hid (M0.out.below b4)
  have BQ := Lib.hid b4
  have hw34 : w3.heap.size ≤ w4.heap.size := b4.size
  clear n0a n0b n0c ho hn hf b4 hs4 hk4 B3
  obtain ⟨wb4, hwb⟩ : ∃ x, x = w4.alloc (.cells #[.int .i64 r0.kind, .slice A4 r0.set.length c4, .slice K4 r0.kids.length k4] TRx) := ⟨_, rfl⟩
  have bb : Below w4.heap.size w4 wb4 := by rw [hwb]; exact below_alloc (Below.refl _ _) _
  have x0 : Blk wb4 w4.heap.size #[.int .i64 r0.kind, .slice A4 r0.set.length c4, .slice K4 r0.kids.length k4] TRx := by rw [hwb]; exact blk_new _ _ _
  obtain ⟨gx, hgx⟩ : ∃ g, g = w4.heap.size := ⟨_, rfl⟩
  rw [← hgx] at x0 FX hw34
  have XX := Lib.hid x0
  have GX : Hid (gx < wb4.heap.size) := x0.lt
  replace M0 := Lib.hid (M0.out.below bb)
  replace BQ := Lib.hid (below_then BQ.out bb)
  replace OX := Lib.hid (OX.out.under bb)
  have B6 := Lib.hid (below_then B5.out bb)
  clear x0 bb B5
  replace hwb := hwb.symm
  replace hgx := hgx.symm
  have nxa : wb4.cell? ⟨gx, 0, none⟩ = some (.int .i64 r0.kind) := by rw [XX.out.cell]; rfl
  have nxb : wb4.cell? ⟨gx, 1, none⟩ = some (.slice A4 r0.set.length c4) := by rw [XX.out.cell]; rfl
  have nxc : wb4.cell? ⟨gx, 2, none⟩ = some (.slice K4 r0.kids.length k4) := by rw [XX.out.cell]; rfl
  go_wp2_with fail
  clear hwb hgx
  refine (iDerivParts_c r0 _ _ _ _ OX.out.rex0 hx0).mono ?_
  rintro e w5 ⟨vG, fpG, LG, rfl, ho, hf, b5⟩
  rw [← HTT.out] at ho
  obtain ⟨KG, kG, rfl, _⟩ := ho.ssv
  have OG := Lib.hid ho
  have FG : Hid (∀ b, b ∈ fpG → gx < b ∧ b < w5.heap.size) := fun b hb => ⟨Nat.lt_of_lt_of_le GX.out (hf b hb), ho.lt b hb⟩
  have B7 := Lib.hid (below_then B6.out b5)
  replace M0 := Lib.hid (M0.out.below b5)
  replace BQ := Lib.hid (below_then BQ.out b5)
  replace OX := Lib.hid (OX.out.under b5)
  replace XX := Lib.hid (XX.out.below b5)
  clear nxa nxb nxc ho hf b5 B6 GX
  go_wp2_with fail
  refine (eqSpanSS_c _ _ _ _ T T w5 OG.out.read (OW.out.below BQ.out)).mono ?_
  rintro e w6 ⟨rfl, b6⟩
  rw [decide_eq_true rfl]
  replace M0 := Lib.hid (M0.out.below (b6))
  replace BQ := Lib.hid (below_then BQ.out (b6))
  replace OX := Lib.hid (OX.out.under (b6))
  replace OG := Lib.hid (OG.out.under (b6))
  replace XX := Lib.hid (XX.out.below (b6))
  have B9 := Lib.hid (below_then B7.out (b6))
  clear B7
  clear b6
  go_wp2
  have HM : ∀ w', Below w6.heap.size w6 w' → w'.cell? ⟨gx, 0, none⟩ = some (.int .i64 r0.kind) ∧ w'.cell? ⟨gx, 1, none⟩ = some (.slice A4 r0.set.length c4) ∧ w'.cell? ⟨gx, 2, none⟩ = some (.slice K4 r0.kids.length k4) ∧ w'.cell? ⟨w.heap.size, 0, none⟩ = some (.int .i64 r0.kind) ∧ w'.cell? ⟨w.heap.size, 1, none⟩ = some (p0) ∧ w'.cell? ⟨w.heap.size, 2, none⟩ = some (q0) := fun w' hb => ⟨by rw [(XX.out.below hb).cell]; rfl, by rw [(XX.out.below hb).cell]; rfl, by rw [(XX.out.below hb).cell]; rfl, by rw [(M0.out.below hb).cell]; rfl, by rw [(M0.out.below hb).cell]; rfl, by rw [(M0.out.below hb).cell]; rfl⟩
  have HMH := Lib.hid HM
  clear HM
  go_region_held3 (fun w' => w'.cell? ⟨gx, 0, none⟩ = some (.int .i64 r0.kind) ∧ w'.cell? ⟨gx, 1, none⟩ = some (.slice A4 r0.set.length c4) ∧ w'.cell? ⟨gx, 2, none⟩ = some (.slice K4 r0.kids.length k4) ∧ w'.cell? ⟨w.heap.size, 0, none⟩ = some (.int .i64 r0.kind) ∧ w'.cell? ⟨w.heap.size, 1, none⟩ = some (p0) ∧ w'.cell? ⟨w.heap.size, 2, none⟩ = some (q0))
    (first | exact HMH.out _ (Below.refl _ _) | exact HMH.out _ (below_drew (Below.refl _ _)) | exact HMH.out _ BA.out | exact HMH.out _ BD.out)
    (first
      | (go_at_call 16; with_reducible refine (toRex_r r0 p0 q0 w6.drew 0 (HR.out.under (below_drew B9.out)) hx0).mono ?_; rintro e wA ⟨s9, t9, rfl, o3, b3⟩; have BA := Lib.hid (below_then (below_drew (Below.refl w6.heap.size w6)) b3); have O9 := Lib.hid o3; clear o3 b3)
      | (go_at_call 18; with_reducible refine (eqRex_r r0 r0 _ _ _ _ wA _ _ (OX.out.rex0.under BA.out) O9.out).mono ?_; rintro e w7 ⟨rfl, b5⟩; have BD := Lib.hid (below_then BA.out b5); clear b5; rw [(rexEq_iff r0 r0).2 rfl]))
  replace M0 := Lib.hid (M0.out.below (BD.out))
  replace BQ := Lib.hid (below_then BQ.out (BD.out))
  replace OX := Lib.hid (OX.out.under (BD.out))
  replace OG := Lib.hid (OG.out.under (BD.out))
  replace XX := Lib.hid (XX.out.below (BD.out))
  have B10 := Lib.hid (below_then B9.out (BD.out))
  clear B9
  clear BA BD O9 HMH
  have hcx : r0.cnt ≤ 4194304 := by have := cnt_size r0; omega
  have nxa : w7.cell? ⟨gx, 0, none⟩ = some (.int .i64 r0.kind) := by rw [XX.out.cell]; rfl
  have nxb : w7.cell? ⟨gx, 1, none⟩ = some (.slice A4 r0.set.length c4) := by rw [XX.out.cell]; rfl
  have nxc : w7.cell? ⟨gx, 2, none⟩ = some (.slice K4 r0.kids.length k4) := by rw [XX.out.cell]; rfl
  go_wp2_with fail
  refine (markRex_c r0 _ _ fpX 1 w7 OX.out (by omega) (by omega)).mono ?_
  rintro e w8 ⟨rfl, _, t8⟩
  have hq8 : ¬ (1 + (r0.cnt : Int) < 0) := by omega
  replace M0 := Lib.hid (M0.out.touch t8 fun h => by have := FX.out _ h; omega)
  have B11 := Lib.hid (below_touch B10.out t8 fun b hb => by have := FX.out _ hb; omega)
  clear B10
  replace BQ := Lib.hid (below_touch BQ.out t8 fun b hb => (FX.out b hb).1)
  replace OG := Lib.hid (OG.out.stay fun b hb => t8.block b (OG.out.lt b hb) fun h => by have h1 := FX.out _ h; have h2 := FG.out _ hb; omega)
  clear nxa nxb nxc t8 OX XX
  go_wp2_with fail
  refine (eqSpanSS_c _ _ _ _ T T w8 OG.out.read (OW.out.below BQ.out)).mono ?_
  rintro e w9 ⟨rfl, b9⟩
  rw [decide_eq_true rfl]
  clear hq8
  replace M0 := Lib.hid (M0.out.below (b9))
  replace BQ := Lib.hid (below_then BQ.out (b9))
  replace OG := Lib.hid (OG.out.under (b9))
  have B12 := Lib.hid (below_then B11.out (b9))
  clear B11 b9
  go_wp2_with fail
  refine (markSpanSS_c T _ _ LG fpG 1 w9 OG.out (by omega) (by omega)).mono ?_
  rintro e w10 ⟨rfl, og, t10⟩
  replace M0 := Lib.hid (M0.out.touch t10 fun h => by have := FG.out _ h; omega)
  have B13 := Lib.hid (below_touch B12.out t10 fun b hb => by have := FG.out _ hb; omega)
  clear B12
  replace BQ := Lib.hid (below_touch BQ.out t10 fun b hb => by have h1 := (FG.out b hb).1; omega)
  have hml := markSS_length T 1
  rw [← hml] at og
  replace OG := Lib.hid og
  have HH : ∀ wx : World, OwnSS wx fpG (.slice KG (markSS 1 T).length kG) (markSS 1 T) LG → Calls Try.prog 30 #[.slice KG T.length kG, .int .i64 1] wx fun e w' => e = .returned (.int .i64 (1 + cntSS T)) ∧ Below wx.heap.size wx w' := fun wx ho => by
    have := heldSpanSS_c T (markSS 1 T) KG kG 1 wx rfl ho.read (by omega) (by omega)
    rw [hml] at this
    exact this.mono fun e w' ⟨h1, h2⟩ => ⟨h1, h2.below⟩
  have HHH := Lib.hid HH
  clear t10 og HH hml
  go_wp2_with fail
  refine (HHH.out w10 OG.out).mono ?_
  rintro e w11 ⟨rfl, b11⟩
  have hq8 : ¬ (1 + (cntSS T : Int) < 0) := by omega
  replace M0 := Lib.hid (M0.out.below (b11))
  replace BQ := Lib.hid (below_then BQ.out (b11))
  replace OG := Lib.hid (OG.out.under (b11))
  have B14 := Lib.hid (below_then B13.out (b11))
  clear B13 b11
  have n0a : w11.cell? ⟨w.heap.size, 0, none⟩ = some (.int .i64 r0.kind) := by rw [M0.out.cell]; rfl
  have n0b : w11.cell? ⟨w.heap.size, 1, none⟩ = some (p0) := by rw [M0.out.cell]; rfl
  have n0c : w11.cell? ⟨w.heap.size, 2, none⟩ = some (q0) := by rw [M0.out.cell]; rfl
  go_wp2_with fail
  refine (toRex_r r0 p0 q0 w11 0 (HR.out.under B14.out) hx0).mono ?_
  rintro e w12 ⟨s2, t2, rfl, o2, b12⟩
  have O2 := Lib.hid o2
  replace M0 := Lib.hid (M0.out.below (b12))
  replace BQ := Lib.hid (below_then BQ.out (b12))
  replace OG := Lib.hid (OG.out.under (b12))
  have B15 := Lib.hid (below_then B14.out (b12))
  clear B14 b12
  clear n0a n0b n0c o2
  go_wp2_with fail
  refine (iDerivParts_c r0 _ _ _ _ O2.out hx0).mono ?_
  rintro e w13 ⟨vH, fpH, LH, rfl, ho, hf, b13⟩
  rw [← HTT.out] at ho
  obtain ⟨KH, kH, rfl, _⟩ := ho.ssv
  have OH := Lib.hid ho.read
  clear ho hf O2
  replace M0 := Lib.hid (M0.out.below (b13))
  replace BQ := Lib.hid (below_then BQ.out (b13))
  replace OG := Lib.hid (OG.out.under (b13))
  have B16 := Lib.hid (below_then B15.out (b13))
  clear B15 b13
  go_wp2_with fail
  refine (eqSpanSS_c _ _ _ _ T T w13 OH.out (OW.out.below BQ.out)).mono ?_
  rintro e w14 ⟨rfl, b14⟩
  rw [decide_eq_true rfl]
  replace M0 := Lib.hid (M0.out.below (b14))
  replace BQ := Lib.hid (below_then BQ.out (b14))
  replace OG := Lib.hid (OG.out.under (b14))
  have B17 := Lib.hid (below_then B16.out (b14))
  clear B16 b14
  clear OH
  go_wp2_with fail
  refine (HHH.out w14 OG.out).mono ?_
  rintro e w15 ⟨rfl, b15⟩
  have B19 := Lib.hid (below_then B17.out b15)
  clear b15
  go_wp2
  go_ret
  exact ⟨rfl, B19.out⟩

end Go.Proofs.Ytiaccimbkghofaa
