/- The law FnExactDerivText: the program's DerivText tells what the reference's tells, in memory of its own. -/
import Derived.Test.YtfeidjjabjejiaaGreatDoorYm
import Derived.Test.YtfeidjjabjejiaaGreatDoorG23
namespace Go.Proofs.YtfeidjjabjejiaaGreatDoor
set_option linter.unusedSimpArgs false
set_option linter.unusedVariables false
set_option maxRecDepth 100000
open Go.RowKit

set_option maxHeartbeats 8000000 in
theorem exDerivText_c (r0 : Rex) (p0 q0 : Value) (tx0 : ByteArray) (w : World) (h0 : RexV w 0 r0 (.int .i64 r0.kind) p0 q0) (ht : Pow10 w) :
    Calls Tryz.prog 5 #[.agg #[.int .i64 r0.kind, p0, q0], .string tx0] w fun e w' => e = .returned (.bool true) ∧ Below w.heap.size w w' := by
  have HPW := Lib.hid ht
  clear ht
  by_cases hbig : (1048576 : Int) < tx0.size
  · obtain ⟨wa, hwa⟩ : ∃ x, x = w.alloc (.cells #[.int .i64 r0.kind, p0, q0] 38) := ⟨_, rfl⟩
    have hb : Below w.heap.size w wa := by rw [hwa]; exact below_alloc (Below.refl _ _) _
    have m0 : Blk wa w.heap.size #[.int .i64 r0.kind, p0, q0] 38 := by rw [hwa]; exact blk_new w _ _
    replace hwa := hwa.symm
    have HR := Lib.hid h0
    have M0 := Lib.hid m0
    have B0 := Lib.hid hb
    clear hb m0 h0
    have n0 : wa.cell? ⟨w.heap.size, 0, none⟩ = some (.int .i64 r0.kind) := by rw [M0.out.cell]; rfl
    have n0' : wa.cell? ⟨w.heap.size, 1, none⟩ = some (p0) := by rw [M0.out.cell]; rfl
    have n0'' : wa.cell? ⟨w.heap.size, 2, none⟩ = some (q0) := by rw [M0.out.cell]; rfl
    go_enter Tryz.func5, Tryz.ntmps5
    go_wp2
    go_ret
    exact ⟨rfl, B0.out⟩
  obtain ⟨wa, hwa⟩ : ∃ x, x = w.alloc (.cells #[.int .i64 r0.kind, p0, q0] 38) := ⟨_, rfl⟩
  have hb : Below w.heap.size w wa := by rw [hwa]; exact below_alloc (Below.refl _ _) _
  have m0 : Blk wa w.heap.size #[.int .i64 r0.kind, p0, q0] 38 := by rw [hwa]; exact blk_new w _ _
  replace hwa := hwa.symm
  have HR := Lib.hid h0
  have M0 := Lib.hid m0
  have B0 := Lib.hid hb
  clear hb m0 h0
  have n0 : wa.cell? ⟨w.heap.size, 0, none⟩ = some (.int .i64 r0.kind) := by rw [M0.out.cell]; rfl
  have n0' : wa.cell? ⟨w.heap.size, 1, none⟩ = some (p0) := by rw [M0.out.cell]; rfl
  have n0'' : wa.cell? ⟨w.heap.size, 2, none⟩ = some (q0) := by rw [M0.out.cell]; rfl
  go_enter Tryz.func5, Tryz.ntmps5
  go_wp2_with fail
  clear hwa
  refine (szRex_c r0 _ _ (1048576 : Int) _ _ (HR.out.under B0.out) (by omega) (by omega)).mono ?_
  rintro e w1 ⟨rfl, b1⟩
  have B1 := Lib.hid (below_then B0.out b1)
  replace M0 := Lib.hid (M0.out.below b1)
  clear n0 n0' n0'' b1 B0
  have n0 : w1.cell? ⟨w.heap.size, 0, none⟩ = some (.int .i64 r0.kind) := by rw [M0.out.cell]; rfl
  have n0' : w1.cell? ⟨w.heap.size, 1, none⟩ = some (p0) := by rw [M0.out.cell]; rfl
  have n0'' : w1.cell? ⟨w.heap.size, 2, none⟩ = some (q0) := by rw [M0.out.cell]; rfl
  by_cases hb0 : (1048576 : Int) < r0.size
  · have hs := szLeft_neg hb0
    clear hb0
    go_wp2
    go_ret
    exact ⟨rfl, B1.out⟩
  rw [szLeft_pos hb0]
  have hx0 : r0.size ≤ 1048576 := by omega
  have hs : ¬ ((1048576 - r0.size : Int) < 0) := by omega
  clear hb0
  clear n0 n0' n0''
  have n0a : w1.cell? ⟨w.heap.size, 0, none⟩ = some (.int .i64 r0.kind) := by rw [M0.out.cell]; rfl
  have n0b : w1.cell? ⟨w.heap.size, 1, none⟩ = some (p0) := by rw [M0.out.cell]; rfl
  have n0c : w1.cell? ⟨w.heap.size, 2, none⟩ = some (q0) := by rw [M0.out.cell]; rfl
  go_wp2_with fail
  refine (toRex_r r0 p0 q0 w1 0 (HR.out.under B1.out) hx0).mono ?_
  rintro e w2 ⟨s2, t2, rfl, o2, b2⟩
  have B2 := Lib.hid (below_then B1.out b2)
  replace M0 := Lib.hid (M0.out.below b2)
  have O2 := Lib.hid o2
  clear n0a n0b n0c o2 b2 B1 hs
  go_wp2_with fail
  refine (sDerivText_c r0 _ _ tx0 _ _ O2.out hx0 (HPW.out.below B2.out)).mono ?_
  rintro e w3 hc
  obtain ⟨A3, c3, K3, k3, fpW, rfl, ho, hn, hf, b3⟩ := hc.own
  rw [← Rex.eta] at ho
  have OW := Lib.hid ho
  have FW : Hid (∀ b, b ∈ fpW → w.heap.size ≤ b ∧ b < w3.heap.size) := fun b hb => ⟨Nat.le_trans B2.out.size (hf b hb), ho.lt b hb⟩
  have B3 := Lib.hid (below_then B2.out b3)
  replace M0 := Lib.hid (M0.out.below b3)
  clear O2 ho hn hf b3 hc B2
  obtain ⟨wb3, hwb⟩ : ∃ x, x = w3.alloc (.cells #[.int .i64 (derivText tx0 r0).kind, .slice A3 (derivText tx0 r0).set.length c3, .slice K3 (derivText tx0 r0).kids.length k3] TRx) := ⟨_, rfl⟩
  have bb : Below w3.heap.size w3 wb3 := by rw [hwb]; exact below_alloc (Below.refl _ _) _
  have x0 : Blk wb3 w3.heap.size #[.int .i64 (derivText tx0 r0).kind, .slice A3 (derivText tx0 r0).set.length c3, .slice K3 (derivText tx0 r0).kids.length k3] TRx := by rw [hwb]; exact blk_new _ _ _
  obtain ⟨gw, hgw⟩ : ∃ g, g = w3.heap.size := ⟨_, rfl⟩
  rw [← hgw] at x0 FW
  have hw0 : w.heap.size ≤ gw := by rw [hgw]; exact B3.out.size
  have XW := Lib.hid x0
  have GW : Hid (gw < wb3.heap.size) := x0.lt
  replace M0 := Lib.hid (M0.out.below bb)
  replace OW := Lib.hid (OW.out.under bb)
  have B4 := Lib.hid (below_then B3.out bb)
  clear x0 bb B3
  replace hwb := hwb.symm
  replace hgw := hgw.symm
  have n0a : wb3.cell? ⟨w.heap.size, 0, none⟩ = some (.int .i64 r0.kind) := by rw [M0.out.cell]; rfl
  have n0b : wb3.cell? ⟨w.heap.size, 1, none⟩ = some (p0) := by rw [M0.out.cell]; rfl
  have n0c : wb3.cell? ⟨w.heap.size, 2, none⟩ = some (q0) := by rw [M0.out.cell]; rfl
  go_wp2_with fail
  clear hwb hgw
  refine (toRex_c r0 p0 q0 wb3 0 (HR.out.under B4.out) hx0).mono ?_
  rintro e w4 ⟨s4, t4, fpX, rfl, ho, hn, hf, b4⟩
  obtain ⟨L4, fk4, _, _, hs4, hk4⟩ := ho.parts
  obtain ⟨A4, c4, rfl, _⟩ := hs4.sps
  obtain ⟨K4, k4, rfl, _, _⟩ := own_row hk4.hk
  have OX := Lib.hid ho
  have FX : Hid (∀ b, b ∈ fpX → gw < b ∧ b < w4.heap.size) := fun b hb => ⟨Nat.lt_of_lt_of_le GW.out (hf b hb), ho.lt b hb⟩
  have B5 := Lib.hid (below_then B4.out b4)
  replace M0 := Lib.hid (M0.out.below b4)
  replace OW := Lib.hid (OW.out.under b4)
  replace XW := Lib.hid (XW.out.below b4)
  have GW4 : Hid (gw < w4.heap.size) := Nat.lt_of_lt_of_le GW.out b4.size
  clear n0a n0b n0c ho hn hf b4 hs4 hk4 B4 GW
  obtain ⟨wb4, hwb⟩ : ∃ x, x = w4.alloc (.cells #[.int .i64 r0.kind, .slice A4 r0.set.length c4, .slice K4 r0.kids.length k4] TRx) := ⟨_, rfl⟩
  have bb : Below w4.heap.size w4 wb4 := by rw [hwb]; exact below_alloc (Below.refl _ _) _
  have x0 : Blk wb4 w4.heap.size #[.int .i64 r0.kind, .slice A4 r0.set.length c4, .slice K4 r0.kids.length k4] TRx := by rw [hwb]; exact blk_new _ _ _
  obtain ⟨gx, hgx⟩ : ∃ g, g = w4.heap.size := ⟨_, rfl⟩
  rw [← hgx] at x0 FX GW4
  have hwx : gw < gx := GW4.out
  have XX := Lib.hid x0
  have GX : Hid (gx < wb4.heap.size) := x0.lt
  replace M0 := Lib.hid (M0.out.below bb)
  replace OW := Lib.hid (OW.out.under bb)
  replace OX := Lib.hid (OX.out.under bb)
  replace XW := Lib.hid (XW.out.below bb)
  have B6 := Lib.hid (below_then B5.out bb)
  clear x0 bb B5 GW4
  replace hwb := hwb.symm
  replace hgx := hgx.symm
  have nxa : wb4.cell? ⟨gx, 0, none⟩ = some (.int .i64 r0.kind) := by rw [XX.out.cell]; rfl
  have nxb : wb4.cell? ⟨gx, 1, none⟩ = some (.slice A4 r0.set.length c4) := by rw [XX.out.cell]; rfl
  have nxc : wb4.cell? ⟨gx, 2, none⟩ = some (.slice K4 r0.kids.length k4) := by rw [XX.out.cell]; rfl
  go_wp2_with fail
  clear hwb hgx
  refine (iDerivText_c r0 _ _ tx0 _ _ OX.out.rex0 hx0 (HPW.out.below B6.out)).mono ?_
  rintro e w5 hc
  obtain ⟨A5, c5, K5, k5, fpG, rfl, ho, hn, hf, b5⟩ := hc.own
  rw [← Rex.eta] at ho
  have OG := Lib.hid ho
  have FG : Hid (∀ b, b ∈ fpG → gx < b ∧ b < w5.heap.size) := fun b hb => ⟨Nat.lt_of_lt_of_le GX.out (hf b hb), ho.lt b hb⟩
  have B7 := Lib.hid (below_then B6.out b5)
  replace M0 := Lib.hid (M0.out.below b5)
  replace OW := Lib.hid (OW.out.under b5)
  replace OX := Lib.hid (OX.out.under b5)
  replace XW := Lib.hid (XW.out.below b5)
  replace XX := Lib.hid (XX.out.below b5)
  have GX5 : Hid (gx < w5.heap.size) := Nat.lt_of_lt_of_le GX.out b5.size
  clear nxa nxb nxc ho hn hf b5 hc B6 GX
  obtain ⟨wb5, hwb⟩ : ∃ x, x = w5.alloc (.cells #[.int .i64 (derivText tx0 r0).kind, .slice A5 (derivText tx0 r0).set.length c5, .slice K5 (derivText tx0 r0).kids.length k5] TRx) := ⟨_, rfl⟩
  have bb : Below w5.heap.size w5 wb5 := by rw [hwb]; exact below_alloc (Below.refl _ _) _
  have x0 : Blk wb5 w5.heap.size #[.int .i64 (derivText tx0 r0).kind, .slice A5 (derivText tx0 r0).set.length c5, .slice K5 (derivText tx0 r0).kids.length k5] TRx := by rw [hwb]; exact blk_new _ _ _
  obtain ⟨gg, hgg⟩ : ∃ g, g = w5.heap.size := ⟨_, rfl⟩
  rw [← hgg] at x0 FG GX5
  have hxg : gx < gg := GX5.out
  have XG := Lib.hid x0
  replace M0 := Lib.hid (M0.out.below bb)
  replace OW := Lib.hid (OW.out.under bb)
  replace OX := Lib.hid (OX.out.under bb)
  replace OG := Lib.hid (OG.out.under bb)
  replace XW := Lib.hid (XW.out.below bb)
  replace XX := Lib.hid (XX.out.below bb)
  have B8 := Lib.hid (below_then B7.out bb)
  clear x0 bb B7 GX5
  replace hwb := hwb.symm
  replace hgg := hgg.symm
  have nwa : wb5.cell? ⟨gw, 0, none⟩ = some (.int .i64 (derivText tx0 r0).kind) := by rw [XW.out.cell]; rfl
  have nwb : wb5.cell? ⟨gw, 1, none⟩ = some (.slice A3 (derivText tx0 r0).set.length c3) := by rw [XW.out.cell]; rfl
  have nwc : wb5.cell? ⟨gw, 2, none⟩ = some (.slice K3 (derivText tx0 r0).kids.length k3) := by rw [XW.out.cell]; rfl
  have nga : wb5.cell? ⟨gg, 0, none⟩ = some (.int .i64 (derivText tx0 r0).kind) := by rw [XG.out.cell]; rfl
  have ngb : wb5.cell? ⟨gg, 1, none⟩ = some (.slice A5 (derivText tx0 r0).set.length c5) := by rw [XG.out.cell]; rfl
  have ngc : wb5.cell? ⟨gg, 2, none⟩ = some (.slice K5 (derivText tx0 r0).kids.length k5) := by rw [XG.out.cell]; rfl
  go_wp2_with fail
  clear hwb hgg
  refine (eqRex_r (derivText tx0 r0) (derivText tx0 r0) _ _ _ _ wb5 _ _ OG.out.rex0 OW.out.rex0).mono ?_
  rintro e w6 ⟨rfl, b6⟩
  rw [(rexEq_iff (derivText tx0 r0) (derivText tx0 r0)).2 rfl]
  replace M0 := Lib.hid (M0.out.below (b6))
  replace OW := Lib.hid (OW.out.under (b6))
  replace OX := Lib.hid (OX.out.under (b6))
  replace OG := Lib.hid (OG.out.under (b6))
  replace XW := Lib.hid (XW.out.below (b6))
  replace XX := Lib.hid (XX.out.below (b6))
  replace XG := Lib.hid (XG.out.below (b6))
  have B9 := Lib.hid (below_then B8.out (b6))
  clear B8
  clear nwa nwb nwc nga ngb ngc
  go_wp2
  have HM : ∀ w', Below w6.heap.size w6 w' → w'.cell? ⟨gx, 0, none⟩ = some (.int .i64 r0.kind) ∧ w'.cell? ⟨gx, 1, none⟩ = some (.slice A4 r0.set.length c4) ∧ w'.cell? ⟨gx, 2, none⟩ = some (.slice K4 r0.kids.length k4) ∧ w'.cell? ⟨w.heap.size, 0, none⟩ = some (.int .i64 r0.kind) ∧ w'.cell? ⟨w.heap.size, 1, none⟩ = some (p0) ∧ w'.cell? ⟨w.heap.size, 2, none⟩ = some (q0) := fun w' hb => ⟨by rw [(XX.out.below hb).cell]; rfl, by rw [(XX.out.below hb).cell]; rfl, by rw [(XX.out.below hb).cell]; rfl, by rw [(M0.out.below hb).cell]; rfl, by rw [(M0.out.below hb).cell]; rfl, by rw [(M0.out.below hb).cell]; rfl⟩
  have HMH := Lib.hid HM
  clear HM
  go_region_held3 (fun w' => w'.cell? ⟨gx, 0, none⟩ = some (.int .i64 r0.kind) ∧ w'.cell? ⟨gx, 1, none⟩ = some (.slice A4 r0.set.length c4) ∧ w'.cell? ⟨gx, 2, none⟩ = some (.slice K4 r0.kids.length k4) ∧ w'.cell? ⟨w.heap.size, 0, none⟩ = some (.int .i64 r0.kind) ∧ w'.cell? ⟨w.heap.size, 1, none⟩ = some (p0) ∧ w'.cell? ⟨w.heap.size, 2, none⟩ = some (q0))
    (first | exact HMH.out _ (Below.refl _ _) | exact HMH.out _ (below_drew (Below.refl _ _)) | exact HMH.out _ BA.out | exact HMH.out _ BD.out)
    (first
      | (go_at_call 24; with_reducible refine (toRex_r r0 p0 q0 w6.drew 0 (HR.out.under (below_drew B9.out)) hx0).mono ?_; rintro e wA ⟨s9, t9, rfl, o3, b3⟩; have BA := Lib.hid (below_then (below_drew (Below.refl w6.heap.size w6)) b3); have O9 := Lib.hid o3; clear o3 b3)
      | (go_at_call 25; with_reducible refine (eqRex_r r0 r0 _ _ _ _ wA _ _ (OX.out.rex0.under BA.out) O9.out).mono ?_; rintro e w7 ⟨rfl, b5⟩; have BD := Lib.hid (below_then BA.out b5); clear b5; rw [(rexEq_iff r0 r0).2 rfl]))
  replace M0 := Lib.hid (M0.out.below (BD.out))
  replace OW := Lib.hid (OW.out.under (BD.out))
  replace OX := Lib.hid (OX.out.under (BD.out))
  replace OG := Lib.hid (OG.out.under (BD.out))
  replace XW := Lib.hid (XW.out.below (BD.out))
  replace XX := Lib.hid (XX.out.below (BD.out))
  replace XG := Lib.hid (XG.out.below (BD.out))
  have B10 := Lib.hid (below_then B9.out (BD.out))
  clear B9
  clear BA BD O9 HMH
  have hcx : r0.cnt ≤ 4194304 := by have := cnt_size r0; omega
  have hcT : (derivText tx0 r0).cnt ≤ 536870912 := by have := cnt_size (derivText tx0 r0); have := derivText_size tx0 r0; omega
  have nxa : w7.cell? ⟨gx, 0, none⟩ = some (.int .i64 r0.kind) := by rw [XX.out.cell]; rfl
  have nxb : w7.cell? ⟨gx, 1, none⟩ = some (.slice A4 r0.set.length c4) := by rw [XX.out.cell]; rfl
  have nxc : w7.cell? ⟨gx, 2, none⟩ = some (.slice K4 r0.kids.length k4) := by rw [XX.out.cell]; rfl
  go_wp2_with fail
  refine (markRex_c r0 _ _ fpX 1 w7 OX.out (by omega) (by omega)).mono ?_
  rintro e w8 ⟨rfl, _, t8⟩
  have hq8 : ¬ (1 + (r0.cnt : Int) < 0) := by omega
  replace M0 := Lib.hid (M0.out.touch t8 fun h => by have := FX.out _ h; omega)
  replace XW := Lib.hid (XW.out.touch t8 fun h => by have := FX.out _ h; omega)
  have B11 := Lib.hid (below_touch B10.out t8 fun b hb => by have := FX.out _ hb; omega)
  clear B10
  replace XG := Lib.hid (XG.out.touch t8 fun h => by have := FX.out _ h; omega)
  replace OW := Lib.hid (OW.out.stay fun b hb => t8.block b (OW.out.lt b hb) fun h => by have h1 := FX.out _ h; have h2 := FW.out _ hb; omega)
  replace OG := Lib.hid (OG.out.stay fun b hb => t8.block b (OG.out.lt b hb) fun h => by have h1 := FX.out _ h; have h2 := FG.out _ hb; omega)
  clear nxa nxb nxc t8 OX XX
  have nwa : w8.cell? ⟨gw, 0, none⟩ = some (.int .i64 (derivText tx0 r0).kind) := by rw [XW.out.cell]; rfl
  have nwb : w8.cell? ⟨gw, 1, none⟩ = some (.slice A3 (derivText tx0 r0).set.length c3) := by rw [XW.out.cell]; rfl
  have nwc : w8.cell? ⟨gw, 2, none⟩ = some (.slice K3 (derivText tx0 r0).kids.length k3) := by rw [XW.out.cell]; rfl
  have nga : w8.cell? ⟨gg, 0, none⟩ = some (.int .i64 (derivText tx0 r0).kind) := by rw [XG.out.cell]; rfl
  have ngb : w8.cell? ⟨gg, 1, none⟩ = some (.slice A5 (derivText tx0 r0).set.length c5) := by rw [XG.out.cell]; rfl
  have ngc : w8.cell? ⟨gg, 2, none⟩ = some (.slice K5 (derivText tx0 r0).kids.length k5) := by rw [XG.out.cell]; rfl
  go_wp2_with fail
  refine (eqRex_r (derivText tx0 r0) (derivText tx0 r0) _ _ _ _ w8 _ _ OG.out.rex0 OW.out.rex0).mono ?_
  rintro e w9 ⟨rfl, b9⟩
  rw [(rexEq_iff (derivText tx0 r0) (derivText tx0 r0)).2 rfl]
  clear hq8
  replace M0 := Lib.hid (M0.out.below (b9))
  replace OW := Lib.hid (OW.out.under (b9))
  replace OG := Lib.hid (OG.out.under (b9))
  replace XW := Lib.hid (XW.out.below (b9))
  replace XG := Lib.hid (XG.out.below (b9))
  have B12 := Lib.hid (below_then B11.out (b9))
  clear B11 b9
  clear nwa nwb nwc nga ngb ngc
  have nga : w9.cell? ⟨gg, 0, none⟩ = some (.int .i64 (derivText tx0 r0).kind) := by rw [XG.out.cell]; rfl
  have ngb : w9.cell? ⟨gg, 1, none⟩ = some (.slice A5 (derivText tx0 r0).set.length c5) := by rw [XG.out.cell]; rfl
  have ngc : w9.cell? ⟨gg, 2, none⟩ = some (.slice K5 (derivText tx0 r0).kids.length k5) := by rw [XG.out.cell]; rfl
  go_wp2_with fail
  refine (markRex_c (derivText tx0 r0) _ _ fpG 1 w9 OG.out (by omega) (by omega)).mono ?_
  rintro e w10 ⟨rfl, og, t10⟩
  replace M0 := Lib.hid (M0.out.touch t10 fun h => by have := FG.out _ h; omega)
  replace XW := Lib.hid (XW.out.touch t10 fun h => by have := FG.out _ h; omega)
  have B13 := Lib.hid (below_touch B12.out t10 fun b hb => by have := FG.out _ hb; omega)
  clear B12
  replace XG := Lib.hid (XG.out.touch t10 fun h => by have := FG.out _ h; omega)
  replace OW := Lib.hid (OW.out.stay fun b hb => t10.block b (OW.out.lt b hb) fun h => by have h1 := FG.out _ h; have h2 := FW.out _ hb; omega)
  replace OG := Lib.hid og
  clear nga ngb ngc t10 og
  have nga : w10.cell? ⟨gg, 0, none⟩ = some (.int .i64 (derivText tx0 r0).kind) := by rw [XG.out.cell]; rfl
  have ngb : w10.cell? ⟨gg, 1, none⟩ = some (.slice A5 (derivText tx0 r0).set.length c5) := by rw [XG.out.cell]; rfl
  have ngc : w10.cell? ⟨gg, 2, none⟩ = some (.slice K5 (derivText tx0 r0).kids.length k5) := by rw [XG.out.cell]; rfl
  go_wp2_with fail
  refine (heldRex_c (derivText tx0 r0) _ _ 1 w10 0 OG.out.rex0 (by omega) (by omega)).mono ?_
  rintro e w11 ⟨rfl, b11⟩
  have hq8 : ¬ (1 + ((derivText tx0 r0).cnt : Int) < 0) := by omega
  replace M0 := Lib.hid (M0.out.below (b11))
  replace OW := Lib.hid (OW.out.under (b11))
  replace OG := Lib.hid (OG.out.under (b11))
  replace XW := Lib.hid (XW.out.below (b11))
  replace XG := Lib.hid (XG.out.below (b11))
  have B14 := Lib.hid (below_then B13.out (b11))
  clear B13 b11
  clear nga ngb ngc
  have n0a : w11.cell? ⟨w.heap.size, 0, none⟩ = some (.int .i64 r0.kind) := by rw [M0.out.cell]; rfl
  have n0b : w11.cell? ⟨w.heap.size, 1, none⟩ = some (p0) := by rw [M0.out.cell]; rfl
  have n0c : w11.cell? ⟨w.heap.size, 2, none⟩ = some (q0) := by rw [M0.out.cell]; rfl
  go_wp2_with fail
  refine (toRex_r r0 p0 q0 w11 0 (HR.out.under B14.out) hx0).mono ?_
  rintro e w12 ⟨s2, t2, rfl, o2, b12⟩
  have O2 := Lib.hid o2
  replace M0 := Lib.hid (M0.out.below (b12))
  replace OW := Lib.hid (OW.out.under (b12))
  replace OG := Lib.hid (OG.out.under (b12))
  replace XW := Lib.hid (XW.out.below (b12))
  replace XG := Lib.hid (XG.out.below (b12))
  have B15 := Lib.hid (below_then B14.out (b12))
  clear B14 b12
  clear n0a n0b n0c o2
  go_wp2_with fail
  refine (iDerivText_c r0 _ _ tx0 _ _ O2.out hx0 (HPW.out.below B15.out)).mono ?_
  rintro e w13 hc
  obtain ⟨A6, c6, K6, k6, fpH, rfl, ho, hn, hf, b13⟩ := hc.own
  rw [← Rex.eta] at ho
  have OH := Lib.hid ho.rex0
  clear ho hn hf hc O2
  replace M0 := Lib.hid (M0.out.below (b13))
  replace OW := Lib.hid (OW.out.under (b13))
  replace OG := Lib.hid (OG.out.under (b13))
  replace XW := Lib.hid (XW.out.below (b13))
  replace XG := Lib.hid (XG.out.below (b13))
  have B16 := Lib.hid (below_then B15.out (b13))
  clear B15 b13
  obtain ⟨wb6, hwb⟩ : ∃ x, x = w13.alloc (.cells #[.int .i64 (derivText tx0 r0).kind, .slice A6 (derivText tx0 r0).set.length c6, .slice K6 (derivText tx0 r0).kids.length k6] TRx) := ⟨_, rfl⟩
  have bb : Below w13.heap.size w13 wb6 := by rw [hwb]; exact below_alloc (Below.refl _ _) _
  have x0 : Blk wb6 w13.heap.size #[.int .i64 (derivText tx0 r0).kind, .slice A6 (derivText tx0 r0).set.length c6, .slice K6 (derivText tx0 r0).kids.length k6] TRx := by rw [hwb]; exact blk_new _ _ _
  obtain ⟨gh, hgh⟩ : ∃ g, g = w13.heap.size := ⟨_, rfl⟩
  rw [← hgh] at x0
  have XH := Lib.hid x0
  replace OH := Lib.hid (OH.out.under bb)
  replace M0 := Lib.hid (M0.out.below (bb))
  replace OW := Lib.hid (OW.out.under (bb))
  replace OG := Lib.hid (OG.out.under (bb))
  replace XW := Lib.hid (XW.out.below (bb))
  replace XG := Lib.hid (XG.out.below (bb))
  have B17 := Lib.hid (below_then B16.out (bb))
  clear B16 bb
  clear x0
  replace hwb := hwb.symm
  replace hgh := hgh.symm
  have nha : wb6.cell? ⟨gh, 0, none⟩ = some (.int .i64 (derivText tx0 r0).kind) := by rw [XH.out.cell]; rfl
  have nhb : wb6.cell? ⟨gh, 1, none⟩ = some (.slice A6 (derivText tx0 r0).set.length c6) := by rw [XH.out.cell]; rfl
  have nhc : wb6.cell? ⟨gh, 2, none⟩ = some (.slice K6 (derivText tx0 r0).kids.length k6) := by rw [XH.out.cell]; rfl
  have nwa : wb6.cell? ⟨gw, 0, none⟩ = some (.int .i64 (derivText tx0 r0).kind) := by rw [XW.out.cell]; rfl
  have nwb : wb6.cell? ⟨gw, 1, none⟩ = some (.slice A3 (derivText tx0 r0).set.length c3) := by rw [XW.out.cell]; rfl
  have nwc : wb6.cell? ⟨gw, 2, none⟩ = some (.slice K3 (derivText tx0 r0).kids.length k3) := by rw [XW.out.cell]; rfl
  go_wp2_with fail
  clear hwb hgh
  refine (eqRex_r (derivText tx0 r0) (derivText tx0 r0) _ _ _ _ wb6 _ _ OH.out OW.out.rex0).mono ?_
  rintro e w14 ⟨rfl, b14⟩
  rw [(rexEq_iff (derivText tx0 r0) (derivText tx0 r0)).2 rfl]
  replace M0 := Lib.hid (M0.out.below (b14))
  replace OW := Lib.hid (OW.out.under (b14))
  replace OG := Lib.hid (OG.out.under (b14))
  replace XW := Lib.hid (XW.out.below (b14))
  replace XG := Lib.hid (XG.out.below (b14))
  have B18 := Lib.hid (below_then B17.out (b14))
  clear B17 b14
  clear nwa nwb nwc nha nhb nhc OH XH
  have nga : w14.cell? ⟨gg, 0, none⟩ = some (.int .i64 (derivText tx0 r0).kind) := by rw [XG.out.cell]; rfl
  have ngb : w14.cell? ⟨gg, 1, none⟩ = some (.slice A5 (derivText tx0 r0).set.length c5) := by rw [XG.out.cell]; rfl
  have ngc : w14.cell? ⟨gg, 2, none⟩ = some (.slice K5 (derivText tx0 r0).kids.length k5) := by rw [XG.out.cell]; rfl
  go_wp2_with fail
  refine (heldRex_c (derivText tx0 r0) _ _ 1 w14 0 OG.out.rex0 (by omega) (by omega)).mono ?_
  rintro e w15 ⟨rfl, b15⟩
  have B19 := Lib.hid (below_then B18.out b15)
  clear nga ngb ngc b15
  go_wp2
  go_ret
  exact ⟨rfl, B19.out⟩

end Go.Proofs.YtfeidjjabjejiaaGreatDoor
