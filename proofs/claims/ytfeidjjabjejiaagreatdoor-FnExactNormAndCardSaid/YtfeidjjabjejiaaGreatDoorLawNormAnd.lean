/- The law FnExactNormAnd: the program's NormAnd tells what the reference's tells, in memory of its own. -/
import Derived.Test.YtfeidjjabjejiaaGreatDoorYj
import Derived.Test.YtfeidjjabjejiaaGreatDoorG23
namespace Go.Proofs.YtfeidjjabjejiaaGreatDoor
set_option linter.unusedSimpArgs false
set_option linter.unusedVariables false
set_option maxRecDepth 100000
open Go.RowKit

set_option maxHeartbeats 8000000 in
theorem exNormAnd_c (r0 : Rex) (p0 q0 : Value) (r1 : Rex) (p1 q1 : Value) (w : World) (h0 : RexV w 0 r0 (.int .i64 r0.kind) p0 q0) (h1 : RexV w 0 r1 (.int .i64 r1.kind) p1 q1) (ht : Pow10 w) :
    Calls Tryz.prog 8 #[.agg #[.int .i64 r0.kind, p0, q0], .agg #[.int .i64 r1.kind, p1, q1]] w fun e w' => e = .returned (.bool true) ∧ Below w.heap.size w w' := by
  have HPW := Lib.hid ht
  clear ht
  obtain ⟨wa, hwa⟩ : ∃ x, x = (w.alloc (.cells #[.int .i64 r0.kind, p0, q0] 38)).alloc (.cells #[.int .i64 r1.kind, p1, q1] 38) := ⟨_, rfl⟩
  have hb : Below w.heap.size w wa := by rw [hwa]; exact below_alloc (below_alloc (Below.refl _ _) _) _
  have M0 : Hid (Blk wa w.heap.size #[.int .i64 r0.kind, p0, q0] 38) := by rw [hwa]; exact (blk_new w _ _).alloc _
  have M1 : Hid (Blk wa (w.heap.size + 1) #[.int .i64 r1.kind, p1, q1] 38) := by
    rw [hwa]
    have := blk_new (w.alloc (.cells #[.int .i64 r0.kind, p0, q0] 38)) #[.int .i64 r1.kind, p1, q1] 38
    rw [show (w.alloc (.cells #[.int .i64 r0.kind, p0, q0] 38)).heap.size = w.heap.size + 1 by simp] at this
    exact this
  replace hwa := hwa.symm
  have HR := Lib.hid h0
  have HS := Lib.hid h1
  have B0 := Lib.hid hb
  clear hb h0 h1
  have n0 : wa.cell? ⟨w.heap.size, 0, none⟩ = some (.int .i64 r0.kind) := by rw [M0.out.cell]; rfl
  have n1 : wa.cell? ⟨w.heap.size, 1, none⟩ = some (p0) := by rw [M0.out.cell]; rfl
  have n2 : wa.cell? ⟨w.heap.size, 2, none⟩ = some (q0) := by rw [M0.out.cell]; rfl
  go_enter Tryz.func8, Tryz.ntmps8
  go_wp2_with fail
  clear hwa
  refine (szRex_c r0 _ _ (1048576 : Int) _ _ (HR.out.under B0.out) (by omega) (by omega)).mono ?_
  rintro e w1 ⟨rfl, b1⟩
  have B1 := Lib.hid (below_then B0.out b1)
  replace M0 := Lib.hid (M0.out.below b1)
  replace M1 := Lib.hid (M1.out.below b1)
  clear n0 n1 n2 b1 B0
  by_cases hb0 : (1048576 : Int) < r0.size
  · have hs := szLeft_neg hb0
    clear hb0
    go_wp2
    go_ret
    exact ⟨rfl, B1.out⟩
  rw [szLeft_pos hb0]
  have hx0 : r0.size ≤ 1048576 := by omega
  have hs : ¬ ((1048576 - r0.size : Int) < 0) := by omega
  obtain ⟨left, hleft⟩ : ∃ z : Int, z = 1048576 - r0.size := ⟨_, rfl⟩
  rw [← hleft] at hs ⊢
  have HL := Lib.hid hleft
  clear hb0 hleft
  have n0 : w1.cell? ⟨w.heap.size, 0, none⟩ = some (.int .i64 r0.kind) := by rw [M0.out.cell]; rfl
  have n1 : w1.cell? ⟨w.heap.size, 1, none⟩ = some (p0) := by rw [M0.out.cell]; rfl
  have n2 : w1.cell? ⟨w.heap.size, 2, none⟩ = some (q0) := by rw [M0.out.cell]; rfl
  have m0 : w1.cell? ⟨w.heap.size + 1, 0, none⟩ = some (.int .i64 r1.kind) := by rw [M1.out.cell]; rfl
  have m1 : w1.cell? ⟨w.heap.size + 1, 1, none⟩ = some (p1) := by rw [M1.out.cell]; rfl
  have m2 : w1.cell? ⟨w.heap.size + 1, 2, none⟩ = some (q1) := by rw [M1.out.cell]; rfl
  go_wp2_with fail
  refine (szRex_c r1 _ _ left _ _ (HS.out.under B1.out) (by omega) (by have := HL.out; omega)).mono ?_
  rintro e w2 ⟨rfl, b2⟩
  have B2 := Lib.hid (below_then B1.out b2)
  replace M0 := Lib.hid (M0.out.below b2)
  replace M1 := Lib.hid (M1.out.below b2)
  clear n0 n1 n2 m0 m1 m2 b2 B1 hs
  by_cases hb1 : left < r1.size
  · have hs := szLeft_neg hb1
    clear hb1
    go_wp2
    go_ret
    exact ⟨rfl, B2.out⟩
  rw [szLeft_pos hb1]
  have hsz : r0.size + r1.size ≤ 1048576 := by have := HL.out; omega
  have hs : ¬ ((left - r1.size : Int) < 0) := by omega
  clear hb1 HL
  go_wp2_with fail
  obtain ⟨T, hT⟩ : ∃ z, z = norm2 nAnd r0 r1 := ⟨_, rfl⟩
  have CS := sNormAndX_c r0 r1
  have CI := iNormAndX_c r0 r1
  rw [← hT] at CS CI
  have HTS : Hid (T.size ≤ 1048706) := by rw [hT]; exact Lib.hid (Nat.le_trans (norm2_size and_size r0 r1) (by omega))
  clear hT
  replace CS := Lib.hid CS
  replace CI := Lib.hid CI
  obtain ⟨W0, hW0⟩ : ∃ z : World, z = w2 := ⟨_, rfl⟩
  subst hW0
  have BP := B2
  have CC := CS.out
  have HCC : Hid (∀ w' : World, Below W0.heap.size W0 w' → w'.cell? ⟨w.heap.size, 0, none⟩ = some (.int .i64 r0.kind) ∧ w'.cell? ⟨w.heap.size, 1, none⟩ = some (p0) ∧ w'.cell? ⟨w.heap.size, 2, none⟩ = some (q0) ∧ w'.cell? ⟨w.heap.size + 1, 0, none⟩ = some (.int .i64 r1.kind) ∧ w'.cell? ⟨w.heap.size + 1, 1, none⟩ = some (p1) ∧ w'.cell? ⟨w.heap.size + 1, 2, none⟩ = some (q1)) := fun w' h => by
    have M := M0.out.below h
    have N := M1.out.below h
    exact ⟨by rw [M.cell]; rfl, by rw [M.cell]; rfl, by rw [M.cell]; rfl, by rw [N.cell]; rfl, by rw [N.cell]; rfl, by rw [N.cell]; rfl⟩
  go_cut [6] (fun v wx => ∃ (g : Nat) (A : Option Addr) (c : Nat) (K : Option Addr) (k : Nat) (fp : List Nat), v = .pointer (some ⟨g, 0, none⟩) ∧ Hid (Blk wx g #[.int .i64 T.kind, .slice A T.set.length c, .slice K T.kids.length k] TRx) ∧ Hid (OwnT wx fp T (.slice A T.set.length c) (.slice K T.kids.length k)) ∧ Hid fp.Nodup ∧ Hid (∀ b, b ∈ fp → W0.heap.size ≤ b ∧ b < wx.heap.size ∧ b ≠ g) ∧ Hid (W0.heap.size ≤ g ∧ g < wx.heap.size) ∧ Hid (Below W0.heap.size W0 wx))
  case first =>
    have bd := below_drew (Below.refl W0.heap.size W0)
    have hzd := bd.size
    refine wp_region_held_drew (S := fun w' => w'.cell? ⟨w.heap.size, 0, none⟩ = some (.int .i64 r0.kind) ∧ w'.cell? ⟨w.heap.size, 1, none⟩ = some (p0) ∧ w'.cell? ⟨w.heap.size, 2, none⟩ = some (q0) ∧ w'.cell? ⟨w.heap.size + 1, 0, none⟩ = some (.int .i64 r1.kind) ∧ w'.cell? ⟨w.heap.size + 1, 1, none⟩ = some (p1) ∧ w'.cell? ⟨w.heap.size + 1, 2, none⟩ = some (q1)) (by kernel_rfl) (HCC.out _ bd) (fun hH => ?_)
    refine wpAnyH_take (i := 0) (v := ?_) rfl (by kernel_rfl) (by kernel_rfl) (by kernel_rfl) (fun _ _ _ h => h) (Or.inl ⟨by rfl, ?_⟩) (by assumption) ?_
    rotate_left
    · (intro w hSw; (try dsimp only at hSw); go_simp; try with_reducible rfl)
    try simp only [Act.put, List.getElem_toArray, List.getElem_cons_zero, List.getElem_cons_succ, List.setIfInBounds_toArray, List.set_cons_zero, List.set_cons_succ]
    refine wpAnyH_take (i := 2) (v := ?_) rfl (by kernel_rfl) (by kernel_rfl) (by kernel_rfl) (fun _ _ _ h => h) (Or.inl ⟨by rfl, ?_⟩) (by assumption) ?_
    rotate_left
    · (intro w hSw; (try dsimp only at hSw); go_simp; try with_reducible rfl)
    try simp only [Act.put, List.getElem_toArray, List.getElem_cons_zero, List.getElem_cons_succ, List.setIfInBounds_toArray, List.set_cons_zero, List.set_cons_succ]
    refine wpAnyH_ready (rs := [1, 5]) (by kernel_rfl) (by simp) ?_
    refine AllReadyH.cons (o := ⟨some 25, _, _, _, _, _⟩) rfl (fun K hK => ?_) (AllReadyH.cons (o := ⟨some 6, _, _, _, _, _⟩) rfl (fun K hK => ?_) AllReadyH.nil)
    · go_simp
      refine (toRex_r r0 p0 q0 W0.drew 0 (HR.out.under (below_then BP.out (bd))) hx0).mono ?_
      rintro e wA ⟨sA, tA, rfl, oA, bA⟩
      have BA := Lib.hid (below_then (bd) bA)
      have OA := Lib.hid oA
      have hzA := bA.size
      (try go_wp2_with fail)
      refine hK.out _ _ (HCC.out _ BA.out) (fun hH => ?_)
      clear hK K
      try simp only [Act.put, List.getElem_toArray, List.getElem_cons_zero, List.getElem_cons_succ, List.setIfInBounds_toArray, List.set_cons_zero, List.set_cons_succ]
      refine wpAnyH_ready (rs := [3, 5]) (by kernel_rfl) (by simp) ?_
      refine AllReadyH.cons (o := ⟨some 27, _, _, _, _, _⟩) rfl (fun K hK => ?_) (AllReadyH.cons (o := ⟨some 6, _, _, _, _, _⟩) rfl (fun K hK => ?_) AllReadyH.nil)
      · go_simp
        refine (toRex_r r1 p1 q1 wA 0 (HS.out.under (below_then BP.out (BA.out))) (by omega)).mono ?_
        rintro e wB ⟨sB, tB, rfl, oB, bB⟩
        have BB := Lib.hid (below_then (BA.out) bB)
        have OB := Lib.hid oB
        replace OA := Lib.hid ((OA.out).under bB)
        have hzB := bB.size
        (try go_wp2_with fail)
        refine hK.out _ _ (HCC.out _ BB.out) (fun hH => ?_)
        clear hK K
        try simp only [Act.put, List.getElem_toArray, List.getElem_cons_zero, List.getElem_cons_succ, List.setIfInBounds_toArray, List.set_cons_zero, List.set_cons_succ]
        refine wpAnyH_ready (rs := [4, 5]) (by kernel_rfl) (by simp) ?_
        refine AllReadyH.cons (o := ⟨some 28, _, _, _, _, _⟩) rfl (fun K hK => ?_) (AllReadyH.cons (o := ⟨some 6, _, _, _, _, _⟩) rfl (fun K hK => ?_) AllReadyH.nil)
        · go_simp
          refine (CC _ _ _ _ wB _ _ (OA.out) (OB.out) hsz (HPW.out.below (below_then BP.out (BB.out)))).mono ?_
          rintro e wC hc
          obtain ⟨A4, c4, K4, k4, fp4, rfl, ho4, hn4, hf4, bC⟩ := hc.own
          rw [← Rex.eta] at ho4
          have BC := Lib.hid (below_then (BB.out) bC)
          have OC := Lib.hid ho4
          have NC := Lib.hid hn4
          have FC := Lib.hid hf4
          have hzC := bC.size
          clear hc ho4 hn4 hf4
          (try go_wp2_with fail)
          refine hK.out _ _ (HCC.out _ BC.out) (fun hH => ?_)
          clear hK K
          try simp only [Act.put, List.getElem_toArray, List.getElem_cons_zero, List.getElem_cons_succ, List.setIfInBounds_toArray, List.set_cons_zero, List.set_cons_succ]
          refine wpAnyH_ready (rs := [5]) (by kernel_rfl) (by simp) ?_
          refine AllReadyH.cons (o := ⟨some 6, _, _, _, _, _⟩) rfl (fun K hK => ?_) AllReadyH.nil
          go_simp
          go_simp
          obtain ⟨wz, hwz⟩ : ∃ z : World, z = wC.alloc (.cells #[.int .i64 0, nilS, nilS] TRx) := ⟨_, rfl⟩
          have bz : Below wC.heap.size wC wz := by rw [hwz]; exact below_alloc (Below.refl _ _) _
          have MG : Hid (Blk wz wC.heap.size #[.int .i64 0, nilS, nilS] TRx) := by rw [hwz]; exact blk_new _ _ _
          have BZ := Lib.hid (below_then (BC.out) bz)
          have hzz : wz.heap.size = wC.heap.size + 1 := by rw [hwz]; simp
          have HZZ := Lib.hid hzz
          rw [← hwz]
          obtain ⟨gz, hgz⟩ : ∃ z : Nat, z = wC.heap.size := ⟨_, rfl⟩
          rw [← hgz] at MG ⊢
          have HGZ := Lib.hid hgz
          clear hwz hzz hgz
          refine hK.out _ _ (HCC.out _ BZ.out) (fun hH => ?_)
          clear hK K
          try simp only [Act.put, List.getElem_toArray, List.getElem_cons_zero, List.getElem_cons_succ, List.setIfInBounds_toArray, List.set_cons_zero, List.set_cons_succ]
          have NE : Hid (∀ b, b ∈ fp4 → b ≠ gz) := fun b hb e => by have h1 := OC.out.lt b hb; have h2 := HGZ.out; omega
          have hgl := MG.out.lt
          have g0 : wz.cell? ⟨gz, 0, none⟩ = some (.int .i64 0) := by rw [MG.out.cell]; rfl
          have g1 : wz.cell? ⟨gz, 1, none⟩ = some nilS := by rw [MG.out.cell]; rfl
          have g2 : wz.cell? ⟨gz, 2, none⟩ = some nilS := by rw [MG.out.cell]; rfl
          have f0 : wz.frozen? ⟨gz, 0, none⟩ = false := MG.out.free 0
          have f1 : wz.frozen? ⟨gz, 1, none⟩ = false := MG.out.free 1
          have f2 : wz.frozen? ⟨gz, 2, none⟩ = false := MG.out.free 2
          refine wpAnyH_ready (rs := [6]) (by kernel_rfl) (by simp) ?_
          refine AllReadyH.cons (o := ⟨none, _, _, _, _, _⟩) rfl (fun K hK => ?_) AllReadyH.nil
          go_simp
          obtain ⟨wQ, hwQ⟩ : ∃ z : World, z = ((wz.setCell ⟨gz, 0, none⟩ (.int .i64 T.kind)).setCell ⟨gz, 1, none⟩ (.slice A4 T.set.length c4)).setCell ⟨gz, 2, none⟩ (.slice K4 T.kids.length k4) := ⟨_, rfl⟩
          have XQ : Hid (Blk wQ gz #[.int .i64 T.kind, .slice A4 T.set.length c4, .slice K4 T.kids.length k4] TRx) := by rw [hwQ]; exact Lib.hid (put3 rfl MG.out)
          have GQ : Hid (wz.grownBy wQ (some gz)) := by rw [hwQ]; exact grown_set (grown_set (grown_set (grown_refl _ _) _ _) _ _) _ _
          rw [← hwQ]
          clear g0 g1 g2 f0 f1 f2 hwQ
          have BQ : Hid (Below W0.heap.size W0 wQ) := Lib.hid ((BZ.out).grown GQ.out (BZ.out).size fun q hq => by have h1 := Option.some.inj hq; have h2 := HGZ.out; omega)
          refine hK.out _ _ (HCC.out _ BQ.out) (fun hH => ?_)
          clear hK K
          try simp only [Act.put, List.getElem_toArray, List.getElem_cons_zero, List.getElem_cons_succ, List.setIfInBounds_toArray, List.set_cons_zero, List.set_cons_succ]
          refine wpAnyH_done (by kernel_rfl) ?_ _
          go_wp2_with fail
          go_meet
          have hq := GQ.out.size
          have k1 := HGZ.out
          have k2 := HZZ.out
          have k3 := (BZ.out).size
          exact ⟨gz, A4, c4, K4, k4, fp4, rfl, XQ, ((OC.out.under bz)).stay fun b hb => GQ.out.block b (((OC.out.under bz)).lt b hb) (fun e => NE.out b hb (Option.some.inj e)), NC, fun b hb => ⟨by have h2 := FC.out b hb; omega, by have h3 := ((OC.out.under bz)).lt b hb; omega, NE.out b hb⟩, ⟨by omega, by omega⟩, BQ⟩
        · go_simp
          obtain ⟨wz, hwz⟩ : ∃ z : World, z = wB.alloc (.cells #[.int .i64 0, nilS, nilS] TRx) := ⟨_, rfl⟩
          have bz : Below wB.heap.size wB wz := by rw [hwz]; exact below_alloc (Below.refl _ _) _
          have MG : Hid (Blk wz wB.heap.size #[.int .i64 0, nilS, nilS] TRx) := by rw [hwz]; exact blk_new _ _ _
          have BZ := Lib.hid (below_then (BB.out) bz)
          have hzz : wz.heap.size = wB.heap.size + 1 := by rw [hwz]; simp
          have HZZ := Lib.hid hzz
          rw [← hwz]
          obtain ⟨gz, hgz⟩ : ∃ z : Nat, z = wB.heap.size := ⟨_, rfl⟩
          rw [← hgz] at MG ⊢
          have HGZ := Lib.hid hgz
          clear hwz hzz hgz
          refine hK.out _ _ (HCC.out _ BZ.out) (fun hH => ?_)
          clear hK K
          try simp only [Act.put, List.getElem_toArray, List.getElem_cons_zero, List.getElem_cons_succ, List.setIfInBounds_toArray, List.set_cons_zero, List.set_cons_succ]
          refine wpAnyH_ready (rs := [4]) (by kernel_rfl) (by simp) ?_
          refine AllReadyH.cons (o := ⟨some 28, _, _, _, _, _⟩) rfl (fun K hK => ?_) AllReadyH.nil
          go_simp
          refine (CC _ _ _ _ wz _ _ ((OA.out.under bz)) ((OB.out.under bz)) hsz (HPW.out.below (below_then BP.out (BZ.out)))).mono ?_
          rintro e wC hc
          obtain ⟨A4, c4, K4, k4, fp4, rfl, ho4, hn4, hf4, bC⟩ := hc.own
          rw [← Rex.eta] at ho4
          have BC := Lib.hid (below_then (BZ.out) bC)
          have OC := Lib.hid ho4
          have NC := Lib.hid hn4
          have FC := Lib.hid hf4
          have hzC := bC.size
          clear hc ho4 hn4 hf4
          (try go_wp2_with fail)
          refine hK.out _ _ (HCC.out _ BC.out) (fun hH => ?_)
          clear hK K
          try simp only [Act.put, List.getElem_toArray, List.getElem_cons_zero, List.getElem_cons_succ, List.setIfInBounds_toArray, List.set_cons_zero, List.set_cons_succ]
          replace MG := Lib.hid (MG.out.below bC)
          have NE : Hid (∀ b, b ∈ fp4 → b ≠ gz) := fun b hb e => by have h1 := FC.out b hb; have h2 := HGZ.out; have h3 := HZZ.out; omega
          have hgl := MG.out.lt
          have g0 : wC.cell? ⟨gz, 0, none⟩ = some (.int .i64 0) := by rw [MG.out.cell]; rfl
          have g1 : wC.cell? ⟨gz, 1, none⟩ = some nilS := by rw [MG.out.cell]; rfl
          have g2 : wC.cell? ⟨gz, 2, none⟩ = some nilS := by rw [MG.out.cell]; rfl
          have f0 : wC.frozen? ⟨gz, 0, none⟩ = false := MG.out.free 0
          have f1 : wC.frozen? ⟨gz, 1, none⟩ = false := MG.out.free 1
          have f2 : wC.frozen? ⟨gz, 2, none⟩ = false := MG.out.free 2
          refine wpAnyH_ready (rs := [6]) (by kernel_rfl) (by simp) ?_
          refine AllReadyH.cons (o := ⟨none, _, _, _, _, _⟩) rfl (fun K hK => ?_) AllReadyH.nil
          go_simp
          obtain ⟨wQ, hwQ⟩ : ∃ z : World, z = ((wC.setCell ⟨gz, 0, none⟩ (.int .i64 T.kind)).setCell ⟨gz, 1, none⟩ (.slice A4 T.set.length c4)).setCell ⟨gz, 2, none⟩ (.slice K4 T.kids.length k4) := ⟨_, rfl⟩
          have XQ : Hid (Blk wQ gz #[.int .i64 T.kind, .slice A4 T.set.length c4, .slice K4 T.kids.length k4] TRx) := by rw [hwQ]; exact Lib.hid (put3 rfl MG.out)
          have GQ : Hid (wC.grownBy wQ (some gz)) := by rw [hwQ]; exact grown_set (grown_set (grown_set (grown_refl _ _) _ _) _ _) _ _
          rw [← hwQ]
          clear g0 g1 g2 f0 f1 f2 hwQ
          have BQ : Hid (Below W0.heap.size W0 wQ) := Lib.hid ((BC.out).grown GQ.out (BC.out).size fun q hq => by have h1 := Option.some.inj hq; have h2 := HGZ.out; omega)
          refine hK.out _ _ (HCC.out _ BQ.out) (fun hH => ?_)
          clear hK K
          try simp only [Act.put, List.getElem_toArray, List.getElem_cons_zero, List.getElem_cons_succ, List.setIfInBounds_toArray, List.set_cons_zero, List.set_cons_succ]
          refine wpAnyH_done (by kernel_rfl) ?_ _
          go_wp2_with fail
          go_meet
          have hq := GQ.out.size
          have k1 := HGZ.out
          have k2 := HZZ.out
          have k3 := (BC.out).size
          exact ⟨gz, A4, c4, K4, k4, fp4, rfl, XQ, (OC.out).stay fun b hb => GQ.out.block b ((OC.out).lt b hb) (fun e => NE.out b hb (Option.some.inj e)), NC, fun b hb => ⟨by have h2 := FC.out b hb; omega, by have h3 := (OC.out).lt b hb; omega, NE.out b hb⟩, ⟨by omega, by omega⟩, BQ⟩
      · go_simp
        obtain ⟨wz, hwz⟩ : ∃ z : World, z = wA.alloc (.cells #[.int .i64 0, nilS, nilS] TRx) := ⟨_, rfl⟩
        have bz : Below wA.heap.size wA wz := by rw [hwz]; exact below_alloc (Below.refl _ _) _
        have MG : Hid (Blk wz wA.heap.size #[.int .i64 0, nilS, nilS] TRx) := by rw [hwz]; exact blk_new _ _ _
        have BZ := Lib.hid (below_then (BA.out) bz)
        have hzz : wz.heap.size = wA.heap.size + 1 := by rw [hwz]; simp
        have HZZ := Lib.hid hzz
        rw [← hwz]
        obtain ⟨gz, hgz⟩ : ∃ z : Nat, z = wA.heap.size := ⟨_, rfl⟩
        rw [← hgz] at MG ⊢
        have HGZ := Lib.hid hgz
        clear hwz hzz hgz
        refine hK.out _ _ (HCC.out _ BZ.out) (fun hH => ?_)
        clear hK K
        try simp only [Act.put, List.getElem_toArray, List.getElem_cons_zero, List.getElem_cons_succ, List.setIfInBounds_toArray, List.set_cons_zero, List.set_cons_succ]
        refine wpAnyH_ready (rs := [3]) (by kernel_rfl) (by simp) ?_
        refine AllReadyH.cons (o := ⟨some 27, _, _, _, _, _⟩) rfl (fun K hK => ?_) AllReadyH.nil
        go_simp
        refine (toRex_r r1 p1 q1 wz 0 (HS.out.under (below_then BP.out (BZ.out))) (by omega)).mono ?_
        rintro e wB ⟨sB, tB, rfl, oB, bB⟩
        have BB := Lib.hid (below_then (BZ.out) bB)
        have OB := Lib.hid oB
        replace OA := Lib.hid (((OA.out.under bz)).under bB)
        have hzB := bB.size
        (try go_wp2_with fail)
        refine hK.out _ _ (HCC.out _ BB.out) (fun hH => ?_)
        clear hK K
        try simp only [Act.put, List.getElem_toArray, List.getElem_cons_zero, List.getElem_cons_succ, List.setIfInBounds_toArray, List.set_cons_zero, List.set_cons_succ]
        replace MG := Lib.hid (MG.out.below bB)
        refine wpAnyH_ready (rs := [4]) (by kernel_rfl) (by simp) ?_
        refine AllReadyH.cons (o := ⟨some 28, _, _, _, _, _⟩) rfl (fun K hK => ?_) AllReadyH.nil
        go_simp
        refine (CC _ _ _ _ wB _ _ (OA.out) (OB.out) hsz (HPW.out.below (below_then BP.out (BB.out)))).mono ?_
        rintro e wC hc
        obtain ⟨A4, c4, K4, k4, fp4, rfl, ho4, hn4, hf4, bC⟩ := hc.own
        rw [← Rex.eta] at ho4
        have BC := Lib.hid (below_then (BB.out) bC)
        have OC := Lib.hid ho4
        have NC := Lib.hid hn4
        have FC := Lib.hid hf4
        have hzC := bC.size
        clear hc ho4 hn4 hf4
        (try go_wp2_with fail)
        refine hK.out _ _ (HCC.out _ BC.out) (fun hH => ?_)
        clear hK K
        try simp only [Act.put, List.getElem_toArray, List.getElem_cons_zero, List.getElem_cons_succ, List.setIfInBounds_toArray, List.set_cons_zero, List.set_cons_succ]
        replace MG := Lib.hid (MG.out.below bC)
        have NE : Hid (∀ b, b ∈ fp4 → b ≠ gz) := fun b hb e => by have h1 := FC.out b hb; have h2 := HGZ.out; have h3 := HZZ.out; omega
        have hgl := MG.out.lt
        have g0 : wC.cell? ⟨gz, 0, none⟩ = some (.int .i64 0) := by rw [MG.out.cell]; rfl
        have g1 : wC.cell? ⟨gz, 1, none⟩ = some nilS := by rw [MG.out.cell]; rfl
        have g2 : wC.cell? ⟨gz, 2, none⟩ = some nilS := by rw [MG.out.cell]; rfl
        have f0 : wC.frozen? ⟨gz, 0, none⟩ = false := MG.out.free 0
        have f1 : wC.frozen? ⟨gz, 1, none⟩ = false := MG.out.free 1
        have f2 : wC.frozen? ⟨gz, 2, none⟩ = false := MG.out.free 2
        refine wpAnyH_ready (rs := [6]) (by kernel_rfl) (by simp) ?_
        refine AllReadyH.cons (o := ⟨none, _, _, _, _, _⟩) rfl (fun K hK => ?_) AllReadyH.nil
        go_simp
        obtain ⟨wQ, hwQ⟩ : ∃ z : World, z = ((wC.setCell ⟨gz, 0, none⟩ (.int .i64 T.kind)).setCell ⟨gz, 1, none⟩ (.slice A4 T.set.length c4)).setCell ⟨gz, 2, none⟩ (.slice K4 T.kids.length k4) := ⟨_, rfl⟩
        have XQ : Hid (Blk wQ gz #[.int .i64 T.kind, .slice A4 T.set.length c4, .slice K4 T.kids.length k4] TRx) := by rw [hwQ]; exact Lib.hid (put3 rfl MG.out)
        have GQ : Hid (wC.grownBy wQ (some gz)) := by rw [hwQ]; exact grown_set (grown_set (grown_set (grown_refl _ _) _ _) _ _) _ _
        rw [← hwQ]
        clear g0 g1 g2 f0 f1 f2 hwQ
        have BQ : Hid (Below W0.heap.size W0 wQ) := Lib.hid ((BC.out).grown GQ.out (BC.out).size fun q hq => by have h1 := Option.some.inj hq; have h2 := HGZ.out; omega)
        refine hK.out _ _ (HCC.out _ BQ.out) (fun hH => ?_)
        clear hK K
        try simp only [Act.put, List.getElem_toArray, List.getElem_cons_zero, List.getElem_cons_succ, List.setIfInBounds_toArray, List.set_cons_zero, List.set_cons_succ]
        refine wpAnyH_done (by kernel_rfl) ?_ _
        go_wp2_with fail
        go_meet
        have hq := GQ.out.size
        have k1 := HGZ.out
        have k2 := HZZ.out
        have k3 := (BC.out).size
        exact ⟨gz, A4, c4, K4, k4, fp4, rfl, XQ, (OC.out).stay fun b hb => GQ.out.block b ((OC.out).lt b hb) (fun e => NE.out b hb (Option.some.inj e)), NC, fun b hb => ⟨by have h2 := FC.out b hb; omega, by have h3 := (OC.out).lt b hb; omega, NE.out b hb⟩, ⟨by omega, by omega⟩, BQ⟩
    · go_simp
      obtain ⟨wz, hwz⟩ : ∃ z : World, z = (W0.alloc (.cells #[.int .i64 0, nilS, nilS] TRx)).drew := ⟨_, rfl⟩
      have bz : Below W0.heap.size W0 wz := by rw [hwz]; exact below_drew (below_alloc (Below.refl _ _) _)
      have MG : Hid (Blk wz W0.heap.size #[.int .i64 0, nilS, nilS] TRx) := by rw [hwz]; exact (blk_new W0 #[.int .i64 0, nilS, nilS] TRx).below (below_drew (Below.refl _ _))
      have BZ := Lib.hid bz
      have hzz : wz.heap.size = W0.heap.size + 1 := by rw [hwz]; show (W0.alloc _).heap.size = _; simp
      have HZZ := Lib.hid hzz
      rw [← hwz]
      obtain ⟨gz, hgz⟩ : ∃ z : Nat, z = W0.heap.size := ⟨_, rfl⟩
      rw [← hgz] at MG ⊢
      have HGZ := Lib.hid hgz
      clear hwz hzz hgz
      refine hK.out _ _ (HCC.out _ BZ.out) (fun hH => ?_)
      clear hK K
      try simp only [Act.put, List.getElem_toArray, List.getElem_cons_zero, List.getElem_cons_succ, List.setIfInBounds_toArray, List.set_cons_zero, List.set_cons_succ]
      refine wpAnyH_ready (rs := [1]) (by kernel_rfl) (by simp) ?_
      refine AllReadyH.cons (o := ⟨some 25, _, _, _, _, _⟩) rfl (fun K hK => ?_) AllReadyH.nil
      go_simp
      refine (toRex_r r0 p0 q0 wz 0 (HR.out.under (below_then BP.out (BZ.out))) hx0).mono ?_
      rintro e wA ⟨sA, tA, rfl, oA, bA⟩
      have BA := Lib.hid (below_then (BZ.out) bA)
      have OA := Lib.hid oA
      have hzA := bA.size
      (try go_wp2_with fail)
      refine hK.out _ _ (HCC.out _ BA.out) (fun hH => ?_)
      clear hK K
      try simp only [Act.put, List.getElem_toArray, List.getElem_cons_zero, List.getElem_cons_succ, List.setIfInBounds_toArray, List.set_cons_zero, List.set_cons_succ]
      replace MG := Lib.hid (MG.out.below bA)
      refine wpAnyH_ready (rs := [3]) (by kernel_rfl) (by simp) ?_
      refine AllReadyH.cons (o := ⟨some 27, _, _, _, _, _⟩) rfl (fun K hK => ?_) AllReadyH.nil
      go_simp
      refine (toRex_r r1 p1 q1 wA 0 (HS.out.under (below_then BP.out (BA.out))) (by omega)).mono ?_
      rintro e wB ⟨sB, tB, rfl, oB, bB⟩
      have BB := Lib.hid (below_then (BA.out) bB)
      have OB := Lib.hid oB
      replace OA := Lib.hid ((OA.out).under bB)
      have hzB := bB.size
      (try go_wp2_with fail)
      refine hK.out _ _ (HCC.out _ BB.out) (fun hH => ?_)
      clear hK K
      try simp only [Act.put, List.getElem_toArray, List.getElem_cons_zero, List.getElem_cons_succ, List.setIfInBounds_toArray, List.set_cons_zero, List.set_cons_succ]
      replace MG := Lib.hid (MG.out.below bB)
      refine wpAnyH_ready (rs := [4]) (by kernel_rfl) (by simp) ?_
      refine AllReadyH.cons (o := ⟨some 28, _, _, _, _, _⟩) rfl (fun K hK => ?_) AllReadyH.nil
      go_simp
      refine (CC _ _ _ _ wB _ _ (OA.out) (OB.out) hsz (HPW.out.below (below_then BP.out (BB.out)))).mono ?_
      rintro e wC hc
      obtain ⟨A4, c4, K4, k4, fp4, rfl, ho4, hn4, hf4, bC⟩ := hc.own
      rw [← Rex.eta] at ho4
      have BC := Lib.hid (below_then (BB.out) bC)
      have OC := Lib.hid ho4
      have NC := Lib.hid hn4
      have FC := Lib.hid hf4
      have hzC := bC.size
      clear hc ho4 hn4 hf4
      (try go_wp2_with fail)
      refine hK.out _ _ (HCC.out _ BC.out) (fun hH => ?_)
      clear hK K
      try simp only [Act.put, List.getElem_toArray, List.getElem_cons_zero, List.getElem_cons_succ, List.setIfInBounds_toArray, List.set_cons_zero, List.set_cons_succ]
      replace MG := Lib.hid (MG.out.below bC)
      have NE : Hid (∀ b, b ∈ fp4 → b ≠ gz) := fun b hb e => by have h1 := FC.out b hb; have h2 := HGZ.out; have h3 := HZZ.out; omega
      have hgl := MG.out.lt
      have g0 : wC.cell? ⟨gz, 0, none⟩ = some (.int .i64 0) := by rw [MG.out.cell]; rfl
      have g1 : wC.cell? ⟨gz, 1, none⟩ = some nilS := by rw [MG.out.cell]; rfl
      have g2 : wC.cell? ⟨gz, 2, none⟩ = some nilS := by rw [MG.out.cell]; rfl
      have f0 : wC.frozen? ⟨gz, 0, none⟩ = false := MG.out.free 0
      have f1 : wC.frozen? ⟨gz, 1, none⟩ = false := MG.out.free 1
      have f2 : wC.frozen? ⟨gz, 2, none⟩ = false := MG.out.free 2
      refine wpAnyH_ready (rs := [6]) (by kernel_rfl) (by simp) ?_
      refine AllReadyH.cons (o := ⟨none, _, _, _, _, _⟩) rfl (fun K hK => ?_) AllReadyH.nil
      go_simp
      obtain ⟨wQ, hwQ⟩ : ∃ z : World, z = ((wC.setCell ⟨gz, 0, none⟩ (.int .i64 T.kind)).setCell ⟨gz, 1, none⟩ (.slice A4 T.set.length c4)).setCell ⟨gz, 2, none⟩ (.slice K4 T.kids.length k4) := ⟨_, rfl⟩
      have XQ : Hid (Blk wQ gz #[.int .i64 T.kind, .slice A4 T.set.length c4, .slice K4 T.kids.length k4] TRx) := by rw [hwQ]; exact Lib.hid (put3 rfl MG.out)
      have GQ : Hid (wC.grownBy wQ (some gz)) := by rw [hwQ]; exact grown_set (grown_set (grown_set (grown_refl _ _) _ _) _ _) _ _
      rw [← hwQ]
      clear g0 g1 g2 f0 f1 f2 hwQ
      have BQ : Hid (Below W0.heap.size W0 wQ) := Lib.hid ((BC.out).grown GQ.out (BC.out).size fun q hq => by have h1 := Option.some.inj hq; have h2 := HGZ.out; omega)
      refine hK.out _ _ (HCC.out _ BQ.out) (fun hH => ?_)
      clear hK K
      try simp only [Act.put, List.getElem_toArray, List.getElem_cons_zero, List.getElem_cons_succ, List.setIfInBounds_toArray, List.set_cons_zero, List.set_cons_succ]
      refine wpAnyH_done (by kernel_rfl) ?_ _
      go_wp2_with fail
      go_meet
      have hq := GQ.out.size
      have k1 := HGZ.out
      have k2 := HZZ.out
      have k3 := (BC.out).size
      exact ⟨gz, A4, c4, K4, k4, fp4, rfl, XQ, (OC.out).stay fun b hb => GQ.out.block b ((OC.out).lt b hb) (fun e => NE.out b hb (Option.some.inj e)), NC, fun b hb => ⟨by have h2 := FC.out b hb; omega, by have h3 := (OC.out).lt b hb; omega, NE.out b hb⟩, ⟨by omega, by omega⟩, BQ⟩
  case rest =>
    obtain ⟨gw, A3, c3, K3, k3, fpW, rfl, XW, OW, _, FW0, GW0, BWc⟩ := hcut
    have BL : Hid (Below w.heap.size w W0) := BP
    obtain ⟨E1, hE1⟩ : ∃ z : Nat, z = wc.heap.size := ⟨_, rfl⟩
    have FW : Hid (∀ b, b ∈ fpW → b < E1) := fun b hb => by rw [hE1]; exact (FW0.out b hb).2.1
    have GW : gw < E1 := by rw [hE1]; exact GW0.out.2
    have hM1 := M1.out.lt
    have hE0 : w.heap.size + 1 < E1 := by have := BWc.out.size; omega
    replace M0 := Lib.hid (M0.out.below BWc.out)
    replace M1 := Lib.hid (M1.out.below BWc.out)
    replace BL := Lib.hid (below_then BL.out BWc.out)
    have HE1 := Lib.hid hE1
    clear FW0 GW0 BWc BP hM1 hE1 hs CC HCC
    have n0 : wc.cell? ⟨w.heap.size, 0, none⟩ = some (.int .i64 r0.kind) := by rw [M0.out.cell]; rfl
    have n1 : wc.cell? ⟨w.heap.size, 1, none⟩ = some (p0) := by rw [M0.out.cell]; rfl
    have n2 : wc.cell? ⟨w.heap.size, 2, none⟩ = some (q0) := by rw [M0.out.cell]; rfl
    have m0 : wc.cell? ⟨w.heap.size + 1, 0, none⟩ = some (.int .i64 r1.kind) := by rw [M1.out.cell]; rfl
    have m1 : wc.cell? ⟨w.heap.size + 1, 1, none⟩ = some (p1) := by rw [M1.out.cell]; rfl
    have m2 : wc.cell? ⟨w.heap.size + 1, 2, none⟩ = some (q1) := by rw [M1.out.cell]; rfl
    go_wp2_with fail
    refine (toRex_c r0 p0 q0 wc 0 (HR.out.under BL.out) hx0).mono ?_
    rintro e w4 ⟨s4, t4, fpX, rfl, ho, hn, hf, b4⟩
    obtain ⟨L4, fk4, _, _, hs4, hk4⟩ := ho.parts
    obtain ⟨A4, c4, rfl, _⟩ := hs4.sps
    obtain ⟨K4, k4, rfl, _, _⟩ := own_row hk4.hk
    have OX := Lib.hid ho
    have FX0 : Hid (∀ b, b ∈ fpX → E1 ≤ b ∧ b < w4.heap.size) := fun b hb => ⟨by rw [HE1.out]; exact hf b hb, ho.lt b hb⟩
    have GX0 : Hid (E1 ≤ w4.heap.size) := by rw [HE1.out]; exact Lib.hid b4.size
    clear ho hn hf hs4 hk4 n0 n1 n2 m0 m1 m2
    replace M0 := Lib.hid (M0.out.below (b4))
    replace M1 := Lib.hid (M1.out.below (b4))
    replace OW := Lib.hid (OW.out.under (b4))
    replace XW := Lib.hid (XW.out.below (b4))
    try replace OX := Lib.hid (OX.out.under (b4))
    try replace XX := Lib.hid (XX.out.below (b4))
    try replace OY := Lib.hid (OY.out.under (b4))
    try replace XY := Lib.hid (XY.out.below (b4))
    try replace OG := Lib.hid (OG.out.under (b4))
    try replace XG := Lib.hid (XG.out.below (b4))
    replace BL := Lib.hid (below_then BL.out (b4))
    clear b4
    obtain ⟨wb4, hwb⟩ : ∃ x, x = w4.alloc (.cells #[.int .i64 r0.kind, .slice A4 r0.set.length c4, .slice K4 r0.kids.length k4] TRx) := ⟨_, rfl⟩
    have bb : Below w4.heap.size w4 wb4 := by rw [hwb]; exact below_alloc (Below.refl _ _) _
    have XX : Hid (Blk wb4 w4.heap.size #[.int .i64 r0.kind, .slice A4 r0.set.length c4, .slice K4 r0.kids.length k4] TRx) := by rw [hwb]; exact blk_new _ _ _
    obtain ⟨gx, hgx⟩ : ∃ g, g = w4.heap.size := ⟨_, rfl⟩
    rw [← hgx] at XX
    have HGN := Lib.hid hgx
    replace hwb := hwb.symm
    replace hgx := hgx.symm
    have FX : Hid (∀ b, b ∈ fpX → E1 ≤ b ∧ b < gx) := fun b hb => by rw [HGN.out]; exact FX0.out b hb
    have GX : E1 ≤ gx := by rw [HGN.out]; exact GX0.out
    replace M0 := Lib.hid (M0.out.below (bb))
    replace M1 := Lib.hid (M1.out.below (bb))
    replace OW := Lib.hid (OW.out.under (bb))
    replace XW := Lib.hid (XW.out.below (bb))
    try replace OX := Lib.hid (OX.out.under (bb))
    try replace XX := Lib.hid (XX.out.below (bb))
    try replace OY := Lib.hid (OY.out.under (bb))
    try replace XY := Lib.hid (XY.out.below (bb))
    try replace OG := Lib.hid (OG.out.under (bb))
    try replace XG := Lib.hid (XG.out.below (bb))
    replace BL := Lib.hid (below_then BL.out (bb))
    clear bb FX0 GX0 HGN
    have SX4 : Hid (gx < wb4.heap.size) := XX.out.lt
    have n0 : wb4.cell? ⟨w.heap.size, 0, none⟩ = some (.int .i64 r0.kind) := by rw [M0.out.cell]; rfl
    have n1 : wb4.cell? ⟨w.heap.size, 1, none⟩ = some (p0) := by rw [M0.out.cell]; rfl
    have n2 : wb4.cell? ⟨w.heap.size, 2, none⟩ = some (q0) := by rw [M0.out.cell]; rfl
    have m0 : wb4.cell? ⟨w.heap.size + 1, 0, none⟩ = some (.int .i64 r1.kind) := by rw [M1.out.cell]; rfl
    have m1 : wb4.cell? ⟨w.heap.size + 1, 1, none⟩ = some (p1) := by rw [M1.out.cell]; rfl
    have m2 : wb4.cell? ⟨w.heap.size + 1, 2, none⟩ = some (q1) := by rw [M1.out.cell]; rfl
    go_wp2_with fail
    clear hwb hgx
    refine (toRex_c r1 p1 q1 wb4 0 (HS.out.under BL.out) (by omega)).mono ?_
    rintro e w5 ⟨s5, t5, fpY, rfl, ho, hn, hf, b5⟩
    obtain ⟨L5, fk5, _, _, hs5, hk5⟩ := ho.parts
    obtain ⟨A5, c5, rfl, _⟩ := hs5.sps
    obtain ⟨K5, k5, rfl, _, _⟩ := own_row hk5.hk
    have OY := Lib.hid ho
    have FY0 : Hid (∀ b, b ∈ fpY → gx < b ∧ b < w5.heap.size) := fun b hb => ⟨Nat.lt_of_lt_of_le SX4.out (hf b hb), ho.lt b hb⟩
    have GY0 : Hid (gx < w5.heap.size) := Nat.lt_of_lt_of_le SX4.out b5.size
    clear ho hn hf hs5 hk5 n0 n1 n2 m0 m1 m2 SX4
    replace M0 := Lib.hid (M0.out.below (b5))
    replace M1 := Lib.hid (M1.out.below (b5))
    replace OW := Lib.hid (OW.out.under (b5))
    replace XW := Lib.hid (XW.out.below (b5))
    try replace OX := Lib.hid (OX.out.under (b5))
    try replace XX := Lib.hid (XX.out.below (b5))
    try replace OY := Lib.hid (OY.out.under (b5))
    try replace XY := Lib.hid (XY.out.below (b5))
    try replace OG := Lib.hid (OG.out.under (b5))
    try replace XG := Lib.hid (XG.out.below (b5))
    replace BL := Lib.hid (below_then BL.out (b5))
    clear b5
    obtain ⟨wb5, hwb⟩ : ∃ x, x = w5.alloc (.cells #[.int .i64 r1.kind, .slice A5 r1.set.length c5, .slice K5 r1.kids.length k5] TRx) := ⟨_, rfl⟩
    have bb : Below w5.heap.size w5 wb5 := by rw [hwb]; exact below_alloc (Below.refl _ _) _
    have XY : Hid (Blk wb5 w5.heap.size #[.int .i64 r1.kind, .slice A5 r1.set.length c5, .slice K5 r1.kids.length k5] TRx) := by rw [hwb]; exact blk_new _ _ _
    obtain ⟨gy, hgy⟩ : ∃ g, g = w5.heap.size := ⟨_, rfl⟩
    rw [← hgy] at XY
    have HGN := Lib.hid hgy
    replace hwb := hwb.symm
    replace hgy := hgy.symm
    have FY : Hid (∀ b, b ∈ fpY → gx < b ∧ b < gy) := fun b hb => by rw [HGN.out]; exact FY0.out b hb
    have GY : gx < gy := by rw [HGN.out]; exact GY0.out
    replace M0 := Lib.hid (M0.out.below (bb))
    replace M1 := Lib.hid (M1.out.below (bb))
    replace OW := Lib.hid (OW.out.under (bb))
    replace XW := Lib.hid (XW.out.below (bb))
    try replace OX := Lib.hid (OX.out.under (bb))
    try replace XX := Lib.hid (XX.out.below (bb))
    try replace OY := Lib.hid (OY.out.under (bb))
    try replace XY := Lib.hid (XY.out.below (bb))
    try replace OG := Lib.hid (OG.out.under (bb))
    try replace XG := Lib.hid (XG.out.below (bb))
    replace BL := Lib.hid (below_then BL.out (bb))
    clear bb FY0 GY0 HGN
    have SY5 : Hid (gy < wb5.heap.size) := XY.out.lt
    have nxa : wb5.cell? ⟨gx, 0, none⟩ = some (.int .i64 r0.kind) := by rw [XX.out.cell]; rfl
    have nxb : wb5.cell? ⟨gx, 1, none⟩ = some (.slice A4 r0.set.length c4) := by rw [XX.out.cell]; rfl
    have nxc : wb5.cell? ⟨gx, 2, none⟩ = some (.slice K4 r0.kids.length k4) := by rw [XX.out.cell]; rfl
    have nya : wb5.cell? ⟨gy, 0, none⟩ = some (.int .i64 r1.kind) := by rw [XY.out.cell]; rfl
    have nyb : wb5.cell? ⟨gy, 1, none⟩ = some (.slice A5 r1.set.length c5) := by rw [XY.out.cell]; rfl
    have nyc : wb5.cell? ⟨gy, 2, none⟩ = some (.slice K5 r1.kids.length k5) := by rw [XY.out.cell]; rfl
    go_wp2_with fail
    clear hwb hgy
    refine (CI.out _ _ _ _ wb5 _ _ OX.out.rex0 OY.out.rex0 hsz (HPW.out.below BL.out)).mono ?_
    rintro e w6 hc
    obtain ⟨A6, c6, K6, k6, fpG, rfl, ho, hn, hf, b6⟩ := hc.own
    rw [← Rex.eta] at ho
    have OG := Lib.hid ho
    have FG0 : Hid (∀ b, b ∈ fpG → gy < b ∧ b < w6.heap.size) := fun b hb => ⟨Nat.lt_of_lt_of_le SY5.out (hf b hb), ho.lt b hb⟩
    have GG0 : Hid (gy < w6.heap.size) := Nat.lt_of_lt_of_le SY5.out b6.size
    clear ho hn hf hc nxa nxb nxc nya nyb nyc SY5
    replace M0 := Lib.hid (M0.out.below (b6))
    replace M1 := Lib.hid (M1.out.below (b6))
    replace OW := Lib.hid (OW.out.under (b6))
    replace XW := Lib.hid (XW.out.below (b6))
    try replace OX := Lib.hid (OX.out.under (b6))
    try replace XX := Lib.hid (XX.out.below (b6))
    try replace OY := Lib.hid (OY.out.under (b6))
    try replace XY := Lib.hid (XY.out.below (b6))
    try replace OG := Lib.hid (OG.out.under (b6))
    try replace XG := Lib.hid (XG.out.below (b6))
    replace BL := Lib.hid (below_then BL.out (b6))
    clear b6
    obtain ⟨wb6, hwb⟩ : ∃ x, x = w6.alloc (.cells #[.int .i64 T.kind, .slice A6 T.set.length c6, .slice K6 T.kids.length k6] TRx) := ⟨_, rfl⟩
    have bb : Below w6.heap.size w6 wb6 := by rw [hwb]; exact below_alloc (Below.refl _ _) _
    have XG : Hid (Blk wb6 w6.heap.size #[.int .i64 T.kind, .slice A6 T.set.length c6, .slice K6 T.kids.length k6] TRx) := by rw [hwb]; exact blk_new _ _ _
    obtain ⟨gg, hgg⟩ : ∃ g, g = w6.heap.size := ⟨_, rfl⟩
    rw [← hgg] at XG
    have HGN := Lib.hid hgg
    replace hwb := hwb.symm
    replace hgg := hgg.symm
    have FG : Hid (∀ b, b ∈ fpG → gy < b ∧ b < gg) := fun b hb => by rw [HGN.out]; exact FG0.out b hb
    have GG : gy < gg := by rw [HGN.out]; exact GG0.out
    replace M0 := Lib.hid (M0.out.below (bb))
    replace M1 := Lib.hid (M1.out.below (bb))
    replace OW := Lib.hid (OW.out.under (bb))
    replace XW := Lib.hid (XW.out.below (bb))
    try replace OX := Lib.hid (OX.out.under (bb))
    try replace XX := Lib.hid (XX.out.below (bb))
    try replace OY := Lib.hid (OY.out.under (bb))
    try replace XY := Lib.hid (XY.out.below (bb))
    try replace OG := Lib.hid (OG.out.under (bb))
    try replace XG := Lib.hid (XG.out.below (bb))
    replace BL := Lib.hid (below_then BL.out (bb))
    clear bb FG0 GG0 HGN
    have nwa : wb6.cell? ⟨gw, 0, none⟩ = some (.int .i64 T.kind) := by rw [XW.out.cell]; rfl
    have nwb : wb6.cell? ⟨gw, 1, none⟩ = some (.slice A3 T.set.length c3) := by rw [XW.out.cell]; rfl
    have nwc : wb6.cell? ⟨gw, 2, none⟩ = some (.slice K3 T.kids.length k3) := by rw [XW.out.cell]; rfl
    have nga : wb6.cell? ⟨gg, 0, none⟩ = some (.int .i64 T.kind) := by rw [XG.out.cell]; rfl
    have ngb : wb6.cell? ⟨gg, 1, none⟩ = some (.slice A6 T.set.length c6) := by rw [XG.out.cell]; rfl
    have ngc : wb6.cell? ⟨gg, 2, none⟩ = some (.slice K6 T.kids.length k6) := by rw [XG.out.cell]; rfl
    go_wp2_with fail
    clear hwb hgg
    refine (eqRex_r T T _ _ _ _ wb6 _ _ OG.out.rex0 OW.out.rex0).mono ?_
    rintro e w7 ⟨rfl, b7⟩
    rw [(rexEq_iff T T).2 rfl]
    replace M0 := Lib.hid (M0.out.below (b7))
    replace M1 := Lib.hid (M1.out.below (b7))
    replace OW := Lib.hid (OW.out.under (b7))
    replace XW := Lib.hid (XW.out.below (b7))
    try replace OX := Lib.hid (OX.out.under (b7))
    try replace XX := Lib.hid (XX.out.below (b7))
    try replace OY := Lib.hid (OY.out.under (b7))
    try replace XY := Lib.hid (XY.out.below (b7))
    try replace OG := Lib.hid (OG.out.under (b7))
    try replace XG := Lib.hid (XG.out.below (b7))
    replace BL := Lib.hid (below_then BL.out (b7))
    clear b7 nwa nwb nwc nga ngb ngc
    go_wp2
    have HMH : Hid (∀ w', Below w7.heap.size w7 w' → w'.cell? ⟨gx, 0, none⟩ = some (.int .i64 r0.kind) ∧ w'.cell? ⟨gx, 1, none⟩ = some (.slice A4 r0.set.length c4) ∧ w'.cell? ⟨gx, 2, none⟩ = some (.slice K4 r0.kids.length k4) ∧ w'.cell? ⟨w.heap.size, 0, none⟩ = some (.int .i64 r0.kind) ∧ w'.cell? ⟨w.heap.size, 1, none⟩ = some (p0) ∧ w'.cell? ⟨w.heap.size, 2, none⟩ = some (q0)) := fun w' hb => ⟨by rw [(XX.out.below hb).cell]; rfl, by rw [(XX.out.below hb).cell]; rfl, by rw [(XX.out.below hb).cell]; rfl, by rw [(M0.out.below hb).cell]; rfl, by rw [(M0.out.below hb).cell]; rfl, by rw [(M0.out.below hb).cell]; rfl⟩
    go_region_held3 (fun w' => w'.cell? ⟨gx, 0, none⟩ = some (.int .i64 r0.kind) ∧ w'.cell? ⟨gx, 1, none⟩ = some (.slice A4 r0.set.length c4) ∧ w'.cell? ⟨gx, 2, none⟩ = some (.slice K4 r0.kids.length k4) ∧ w'.cell? ⟨w.heap.size, 0, none⟩ = some (.int .i64 r0.kind) ∧ w'.cell? ⟨w.heap.size, 1, none⟩ = some (p0) ∧ w'.cell? ⟨w.heap.size, 2, none⟩ = some (q0))
      (first | exact HMH.out _ (Below.refl _ _) | exact HMH.out _ (below_drew (Below.refl _ _)) | exact HMH.out _ BA.out | exact HMH.out _ BD.out)
      (first
        | (go_at_call 24; with_reducible refine (toRex_r r0 p0 q0 w7.drew 0 (HR.out.under (below_drew BL.out)) (by omega)).mono ?_; rintro e wA ⟨s9, t9, rfl, o3, b3⟩; have BA := Lib.hid (below_then (below_drew (Below.refl w7.heap.size w7)) b3); have O9 := Lib.hid o3; clear o3 b3)
        | (go_at_call 25; with_reducible refine (eqRex_r r0 r0 _ _ _ _ wA _ _ (OX.out.rex0.under BA.out) O9.out).mono ?_; rintro e wD ⟨rfl, b5⟩; have BD := Lib.hid (below_then BA.out b5); clear b5; rw [(rexEq_iff r0 r0).2 rfl]))
    replace M0 := Lib.hid (M0.out.below (BD.out))
    replace M1 := Lib.hid (M1.out.below (BD.out))
    replace OW := Lib.hid (OW.out.under (BD.out))
    replace XW := Lib.hid (XW.out.below (BD.out))
    try replace OX := Lib.hid (OX.out.under (BD.out))
    try replace XX := Lib.hid (XX.out.below (BD.out))
    try replace OY := Lib.hid (OY.out.under (BD.out))
    try replace XY := Lib.hid (XY.out.below (BD.out))
    try replace OG := Lib.hid (OG.out.under (BD.out))
    try replace XG := Lib.hid (XG.out.below (BD.out))
    replace BL := Lib.hid (below_then BL.out (BD.out))
    clear BA BD O9 HMH
    obtain ⟨w8, hw8⟩ : ∃ z, z = wD := ⟨_, rfl⟩
    subst hw8
    go_wp2
    have HMH : Hid (∀ w', Below w8.heap.size w8 w' → w'.cell? ⟨gy, 0, none⟩ = some (.int .i64 r1.kind) ∧ w'.cell? ⟨gy, 1, none⟩ = some (.slice A5 r1.set.length c5) ∧ w'.cell? ⟨gy, 2, none⟩ = some (.slice K5 r1.kids.length k5) ∧ w'.cell? ⟨w.heap.size+ 1, 0, none⟩ = some (.int .i64 r1.kind) ∧ w'.cell? ⟨w.heap.size+ 1, 1, none⟩ = some (p1) ∧ w'.cell? ⟨w.heap.size+ 1, 2, none⟩ = some (q1)) := fun w' hb => ⟨by rw [(XY.out.below hb).cell]; rfl, by rw [(XY.out.below hb).cell]; rfl, by rw [(XY.out.below hb).cell]; rfl, by rw [(M1.out.below hb).cell]; rfl, by rw [(M1.out.below hb).cell]; rfl, by rw [(M1.out.below hb).cell]; rfl⟩
    go_region_held3 (fun w' => w'.cell? ⟨gy, 0, none⟩ = some (.int .i64 r1.kind) ∧ w'.cell? ⟨gy, 1, none⟩ = some (.slice A5 r1.set.length c5) ∧ w'.cell? ⟨gy, 2, none⟩ = some (.slice K5 r1.kids.length k5) ∧ w'.cell? ⟨w.heap.size+ 1, 0, none⟩ = some (.int .i64 r1.kind) ∧ w'.cell? ⟨w.heap.size+ 1, 1, none⟩ = some (p1) ∧ w'.cell? ⟨w.heap.size+ 1, 2, none⟩ = some (q1))
      (first | exact HMH.out _ (Below.refl _ _) | exact HMH.out _ (below_drew (Below.refl _ _)) | exact HMH.out _ BA.out | exact HMH.out _ BD.out)
      (first
        | (go_at_call 24; with_reducible refine (toRex_r r1 p1 q1 w8.drew 0 (HS.out.under (below_drew BL.out)) (by omega)).mono ?_; rintro e wA ⟨s9, t9, rfl, o3, b3⟩; have BA := Lib.hid (below_then (below_drew (Below.refl w8.heap.size w8)) b3); have O9 := Lib.hid o3; clear o3 b3)
        | (go_at_call 25; with_reducible refine (eqRex_r r1 r1 _ _ _ _ wA _ _ (OY.out.rex0.under BA.out) O9.out).mono ?_; rintro e wD ⟨rfl, b5⟩; have BD := Lib.hid (below_then BA.out b5); clear b5; rw [(rexEq_iff r1 r1).2 rfl]))
    replace M0 := Lib.hid (M0.out.below (BD.out))
    replace M1 := Lib.hid (M1.out.below (BD.out))
    replace OW := Lib.hid (OW.out.under (BD.out))
    replace XW := Lib.hid (XW.out.below (BD.out))
    try replace OX := Lib.hid (OX.out.under (BD.out))
    try replace XX := Lib.hid (XX.out.below (BD.out))
    try replace OY := Lib.hid (OY.out.under (BD.out))
    try replace XY := Lib.hid (XY.out.below (BD.out))
    try replace OG := Lib.hid (OG.out.under (BD.out))
    try replace XG := Lib.hid (XG.out.below (BD.out))
    replace BL := Lib.hid (below_then BL.out (BD.out))
    clear BA BD O9 HMH
    obtain ⟨w9, hw9⟩ : ∃ z, z = wD := ⟨_, rfl⟩
    subst hw9
    have hcx : r0.cnt ≤ 4194304 := by have := cnt_size r0; omega
    have hcy : r1.cnt ≤ 4194304 := by have := cnt_size r1; omega
    have hcT : T.cnt ≤ 536870912 := by have := cnt_size T; have := HTS.out; omega
    have nxa : w9.cell? ⟨gx, 0, none⟩ = some (.int .i64 r0.kind) := by rw [XX.out.cell]; rfl
    have nxb : w9.cell? ⟨gx, 1, none⟩ = some (.slice A4 r0.set.length c4) := by rw [XX.out.cell]; rfl
    have nxc : w9.cell? ⟨gx, 2, none⟩ = some (.slice K4 r0.kids.length k4) := by rw [XX.out.cell]; rfl
    go_wp2_with fail
    refine (markRex_c r0 _ _ fpX 1 w9 OX.out (by omega) (by omega)).mono ?_
    rintro e w10 ⟨rfl, _, t10⟩
    replace M0 := Lib.hid (M0.out.touch (t10) fun h => by have := FX.out _ h; omega)
    replace M1 := Lib.hid (M1.out.touch (t10) fun h => by have := FX.out _ h; omega)
    replace XW := Lib.hid (XW.out.touch (t10) fun h => by have := FX.out _ h; omega)
    replace OW := Lib.hid (OW.out.stay fun b hb => (t10).block b (OW.out.lt b hb) fun h => by have h1 := FX.out _ h; have h2 := FW.out _ hb; omega)
    replace BL := Lib.hid (below_touch BL.out (t10) fun b hb => by have := FX.out _ hb; omega)
    replace XY := Lib.hid (XY.out.touch t10 fun h => by have := FX.out _ h; omega)
    replace OY := Lib.hid (OY.out.stay fun b hb => t10.block b (OY.out.lt b hb) fun h => by have h1 := FX.out _ h; have h2 := FY.out _ hb; omega)
    replace XG := Lib.hid (XG.out.touch t10 fun h => by have := FX.out _ h; omega)
    replace OG := Lib.hid (OG.out.stay fun b hb => t10.block b (OG.out.lt b hb) fun h => by have h1 := FX.out _ h; have h2 := FG.out _ hb; omega)
    clear nxa nxb nxc t10 OX XX
    have nya : w10.cell? ⟨gy, 0, none⟩ = some (.int .i64 r1.kind) := by rw [XY.out.cell]; rfl
    have nyb : w10.cell? ⟨gy, 1, none⟩ = some (.slice A5 r1.set.length c5) := by rw [XY.out.cell]; rfl
    have nyc : w10.cell? ⟨gy, 2, none⟩ = some (.slice K5 r1.kids.length k5) := by rw [XY.out.cell]; rfl
    go_wp2_with fail
    refine (markRex_c r1 _ _ fpY (1 + r0.cnt) w10 OY.out (by omega) (by omega)).mono ?_
    rintro e w11 ⟨rfl, _, t11⟩
    have hq8 : ¬ (1 + (r0.cnt : Int) + (r1.cnt : Int) < 0) := by omega
    replace M0 := Lib.hid (M0.out.touch (t11) fun h => by have := FY.out _ h; omega)
    replace M1 := Lib.hid (M1.out.touch (t11) fun h => by have := FY.out _ h; omega)
    replace XW := Lib.hid (XW.out.touch (t11) fun h => by have := FY.out _ h; omega)
    replace OW := Lib.hid (OW.out.stay fun b hb => (t11).block b (OW.out.lt b hb) fun h => by have h1 := FY.out _ h; have h2 := FW.out _ hb; omega)
    replace BL := Lib.hid (below_touch BL.out (t11) fun b hb => by have := FY.out _ hb; omega)
    replace XG := Lib.hid (XG.out.touch t11 fun h => by have := FY.out _ h; omega)
    replace OG := Lib.hid (OG.out.stay fun b hb => t11.block b (OG.out.lt b hb) fun h => by have h1 := FY.out _ h; have h2 := FG.out _ hb; omega)
    clear nya nyb nyc t11 OY XY
    have nwa : w11.cell? ⟨gw, 0, none⟩ = some (.int .i64 T.kind) := by rw [XW.out.cell]; rfl
    have nwb : w11.cell? ⟨gw, 1, none⟩ = some (.slice A3 T.set.length c3) := by rw [XW.out.cell]; rfl
    have nwc : w11.cell? ⟨gw, 2, none⟩ = some (.slice K3 T.kids.length k3) := by rw [XW.out.cell]; rfl
    have nga : w11.cell? ⟨gg, 0, none⟩ = some (.int .i64 T.kind) := by rw [XG.out.cell]; rfl
    have ngb : w11.cell? ⟨gg, 1, none⟩ = some (.slice A6 T.set.length c6) := by rw [XG.out.cell]; rfl
    have ngc : w11.cell? ⟨gg, 2, none⟩ = some (.slice K6 T.kids.length k6) := by rw [XG.out.cell]; rfl
    go_wp2_with fail
    refine (eqRex_r T T _ _ _ _ w11 _ _ OG.out.rex0 OW.out.rex0).mono ?_
    rintro e w12 ⟨rfl, b12⟩
    rw [(rexEq_iff T T).2 rfl]
    clear hq8
    replace M0 := Lib.hid (M0.out.below (b12))
    replace M1 := Lib.hid (M1.out.below (b12))
    replace OW := Lib.hid (OW.out.under (b12))
    replace XW := Lib.hid (XW.out.below (b12))
    try replace OX := Lib.hid (OX.out.under (b12))
    try replace XX := Lib.hid (XX.out.below (b12))
    try replace OY := Lib.hid (OY.out.under (b12))
    try replace XY := Lib.hid (XY.out.below (b12))
    try replace OG := Lib.hid (OG.out.under (b12))
    try replace XG := Lib.hid (XG.out.below (b12))
    replace BL := Lib.hid (below_then BL.out (b12))
    clear b12 nwa nwb nwc nga ngb ngc
    have nga : w12.cell? ⟨gg, 0, none⟩ = some (.int .i64 T.kind) := by rw [XG.out.cell]; rfl
    have ngb : w12.cell? ⟨gg, 1, none⟩ = some (.slice A6 T.set.length c6) := by rw [XG.out.cell]; rfl
    have ngc : w12.cell? ⟨gg, 2, none⟩ = some (.slice K6 T.kids.length k6) := by rw [XG.out.cell]; rfl
    go_wp2_with fail
    refine (markRex_c T _ _ fpG 1 w12 OG.out (by omega) (by omega)).mono ?_
    rintro e w13 ⟨rfl, og, t13⟩
    replace M0 := Lib.hid (M0.out.touch (t13) fun h => by have := FG.out _ h; omega)
    replace M1 := Lib.hid (M1.out.touch (t13) fun h => by have := FG.out _ h; omega)
    replace XW := Lib.hid (XW.out.touch (t13) fun h => by have := FG.out _ h; omega)
    replace OW := Lib.hid (OW.out.stay fun b hb => (t13).block b (OW.out.lt b hb) fun h => by have h1 := FG.out _ h; have h2 := FW.out _ hb; omega)
    replace BL := Lib.hid (below_touch BL.out (t13) fun b hb => by have := FG.out _ hb; omega)
    replace XG := Lib.hid (XG.out.touch t13 fun h => by have := FG.out _ h; omega)
    replace OG := Lib.hid og
    clear nga ngb ngc t13 og
    have nga : w13.cell? ⟨gg, 0, none⟩ = some (.int .i64 T.kind) := by rw [XG.out.cell]; rfl
    have ngb : w13.cell? ⟨gg, 1, none⟩ = some (.slice A6 T.set.length c6) := by rw [XG.out.cell]; rfl
    have ngc : w13.cell? ⟨gg, 2, none⟩ = some (.slice K6 T.kids.length k6) := by rw [XG.out.cell]; rfl
    go_wp2_with fail
    refine (heldRex_c T _ _ 1 w13 0 OG.out.rex0 (by omega) (by omega)).mono ?_
    rintro e w14 ⟨rfl, b14⟩
    have hq9 : ¬ (1 + (T.cnt : Int) < 0) := by omega
    replace M0 := Lib.hid (M0.out.below (b14))
    replace M1 := Lib.hid (M1.out.below (b14))
    replace OW := Lib.hid (OW.out.under (b14))
    replace XW := Lib.hid (XW.out.below (b14))
    try replace OX := Lib.hid (OX.out.under (b14))
    try replace XX := Lib.hid (XX.out.below (b14))
    try replace OY := Lib.hid (OY.out.under (b14))
    try replace XY := Lib.hid (XY.out.below (b14))
    try replace OG := Lib.hid (OG.out.under (b14))
    try replace XG := Lib.hid (XG.out.below (b14))
    replace BL := Lib.hid (below_then BL.out (b14))
    clear b14 nga ngb ngc
    go_wp2_with fail
    obtain ⟨W0, hW0⟩ : ∃ z : World, z = w14 := ⟨_, rfl⟩
    subst hW0
    have BP := BL
    have CC := CI.out
    have HCC : Hid (∀ w' : World, Below W0.heap.size W0 w' → w'.cell? ⟨w.heap.size, 0, none⟩ = some (.int .i64 r0.kind) ∧ w'.cell? ⟨w.heap.size, 1, none⟩ = some (p0) ∧ w'.cell? ⟨w.heap.size, 2, none⟩ = some (q0) ∧ w'.cell? ⟨w.heap.size + 1, 0, none⟩ = some (.int .i64 r1.kind) ∧ w'.cell? ⟨w.heap.size + 1, 1, none⟩ = some (p1) ∧ w'.cell? ⟨w.heap.size + 1, 2, none⟩ = some (q1)) := fun w' h => by
      have M := M0.out.below h
      have N := M1.out.below h
      exact ⟨by rw [M.cell]; rfl, by rw [M.cell]; rfl, by rw [M.cell]; rfl, by rw [N.cell]; rfl, by rw [N.cell]; rfl, by rw [N.cell]; rfl⟩
    go_cut [13] (fun v wx => ∃ (g : Nat) (A : Option Addr) (c : Nat) (K : Option Addr) (k : Nat) (fp : List Nat), v = .pointer (some ⟨g, 0, none⟩) ∧ Hid (Blk wx g #[.int .i64 T.kind, .slice A T.set.length c, .slice K T.kids.length k] TRx) ∧ Hid (OwnT wx fp T (.slice A T.set.length c) (.slice K T.kids.length k)) ∧ Hid fp.Nodup ∧ Hid (∀ b, b ∈ fp → W0.heap.size ≤ b ∧ b < wx.heap.size ∧ b ≠ g) ∧ Hid (W0.heap.size ≤ g ∧ g < wx.heap.size) ∧ Hid (Below W0.heap.size W0 wx))
    case first =>
      have bd := below_drew (Below.refl W0.heap.size W0)
      have hzd := bd.size
      refine wp_region_held_drew (S := fun w' => w'.cell? ⟨w.heap.size, 0, none⟩ = some (.int .i64 r0.kind) ∧ w'.cell? ⟨w.heap.size, 1, none⟩ = some (p0) ∧ w'.cell? ⟨w.heap.size, 2, none⟩ = some (q0) ∧ w'.cell? ⟨w.heap.size + 1, 0, none⟩ = some (.int .i64 r1.kind) ∧ w'.cell? ⟨w.heap.size + 1, 1, none⟩ = some (p1) ∧ w'.cell? ⟨w.heap.size + 1, 2, none⟩ = some (q1)) (by kernel_rfl) (HCC.out _ bd) (fun hH => ?_)
      refine wpAnyH_take (i := 0) (v := ?_) rfl (by kernel_rfl) (by kernel_rfl) (by kernel_rfl) (fun _ _ _ h => h) (Or.inl ⟨by rfl, ?_⟩) (by assumption) ?_
      rotate_left
      · (intro w hSw; (try dsimp only at hSw); go_simp; try with_reducible rfl)
      try simp only [Act.put, List.getElem_toArray, List.getElem_cons_zero, List.getElem_cons_succ, List.setIfInBounds_toArray, List.set_cons_zero, List.set_cons_succ]
      refine wpAnyH_take (i := 2) (v := ?_) rfl (by kernel_rfl) (by kernel_rfl) (by kernel_rfl) (fun _ _ _ h => h) (Or.inl ⟨by rfl, ?_⟩) (by assumption) ?_
      rotate_left
      · (intro w hSw; (try dsimp only at hSw); go_simp; try with_reducible rfl)
      try simp only [Act.put, List.getElem_toArray, List.getElem_cons_zero, List.getElem_cons_succ, List.setIfInBounds_toArray, List.set_cons_zero, List.set_cons_succ]
      refine wpAnyH_ready (rs := [1, 5]) (by kernel_rfl) (by simp) ?_
      refine AllReadyH.cons (o := ⟨some 76, _, _, _, _, _⟩) rfl (fun K hK => ?_) (AllReadyH.cons (o := ⟨some 13, _, _, _, _, _⟩) rfl (fun K hK => ?_) AllReadyH.nil)
      · go_simp
        refine (toRex_r r0 p0 q0 W0.drew 0 (HR.out.under (below_then BP.out (bd))) hx0).mono ?_
        rintro e wA ⟨sA, tA, rfl, oA, bA⟩
        have BA := Lib.hid (below_then (bd) bA)
        have OA := Lib.hid oA
        have hzA := bA.size
        (try go_wp2_with fail)
        refine hK.out _ _ (HCC.out _ BA.out) (fun hH => ?_)
        clear hK K
        try simp only [Act.put, List.getElem_toArray, List.getElem_cons_zero, List.getElem_cons_succ, List.setIfInBounds_toArray, List.set_cons_zero, List.set_cons_succ]
        refine wpAnyH_ready (rs := [3, 5]) (by kernel_rfl) (by simp) ?_
        refine AllReadyH.cons (o := ⟨some 78, _, _, _, _, _⟩) rfl (fun K hK => ?_) (AllReadyH.cons (o := ⟨some 13, _, _, _, _, _⟩) rfl (fun K hK => ?_) AllReadyH.nil)
        · go_simp
          refine (toRex_r r1 p1 q1 wA 0 (HS.out.under (below_then BP.out (BA.out))) (by omega)).mono ?_
          rintro e wB ⟨sB, tB, rfl, oB, bB⟩
          have BB := Lib.hid (below_then (BA.out) bB)
          have OB := Lib.hid oB
          replace OA := Lib.hid ((OA.out).under bB)
          have hzB := bB.size
          (try go_wp2_with fail)
          refine hK.out _ _ (HCC.out _ BB.out) (fun hH => ?_)
          clear hK K
          try simp only [Act.put, List.getElem_toArray, List.getElem_cons_zero, List.getElem_cons_succ, List.setIfInBounds_toArray, List.set_cons_zero, List.set_cons_succ]
          refine wpAnyH_ready (rs := [4, 5]) (by kernel_rfl) (by simp) ?_
          refine AllReadyH.cons (o := ⟨some 79, _, _, _, _, _⟩) rfl (fun K hK => ?_) (AllReadyH.cons (o := ⟨some 13, _, _, _, _, _⟩) rfl (fun K hK => ?_) AllReadyH.nil)
          · go_simp
            refine (CC _ _ _ _ wB _ _ (OA.out) (OB.out) hsz (HPW.out.below (below_then BP.out (BB.out)))).mono ?_
            rintro e wC hc
            obtain ⟨A4, c4, K4, k4, fp4, rfl, ho4, hn4, hf4, bC⟩ := hc.own
            rw [← Rex.eta] at ho4
            have BC := Lib.hid (below_then (BB.out) bC)
            have OC := Lib.hid ho4
            have NC := Lib.hid hn4
            have FC := Lib.hid hf4
            have hzC := bC.size
            clear hc ho4 hn4 hf4
            (try go_wp2_with fail)
            refine hK.out _ _ (HCC.out _ BC.out) (fun hH => ?_)
            clear hK K
            try simp only [Act.put, List.getElem_toArray, List.getElem_cons_zero, List.getElem_cons_succ, List.setIfInBounds_toArray, List.set_cons_zero, List.set_cons_succ]
            refine wpAnyH_ready (rs := [5]) (by kernel_rfl) (by simp) ?_
            refine AllReadyH.cons (o := ⟨some 13, _, _, _, _, _⟩) rfl (fun K hK => ?_) AllReadyH.nil
            go_simp
            go_simp
            obtain ⟨wz, hwz⟩ : ∃ z : World, z = wC.alloc (.cells #[.int .i64 0, nilS, nilS] TRx) := ⟨_, rfl⟩
            have bz : Below wC.heap.size wC wz := by rw [hwz]; exact below_alloc (Below.refl _ _) _
            have MG : Hid (Blk wz wC.heap.size #[.int .i64 0, nilS, nilS] TRx) := by rw [hwz]; exact blk_new _ _ _
            have BZ := Lib.hid (below_then (BC.out) bz)
            have hzz : wz.heap.size = wC.heap.size + 1 := by rw [hwz]; simp
            have HZZ := Lib.hid hzz
            rw [← hwz]
            obtain ⟨gz, hgz⟩ : ∃ z : Nat, z = wC.heap.size := ⟨_, rfl⟩
            rw [← hgz] at MG ⊢
            have HGZ := Lib.hid hgz
            clear hwz hzz hgz
            refine hK.out _ _ (HCC.out _ BZ.out) (fun hH => ?_)
            clear hK K
            try simp only [Act.put, List.getElem_toArray, List.getElem_cons_zero, List.getElem_cons_succ, List.setIfInBounds_toArray, List.set_cons_zero, List.set_cons_succ]
            have NE : Hid (∀ b, b ∈ fp4 → b ≠ gz) := fun b hb e => by have h1 := OC.out.lt b hb; have h2 := HGZ.out; omega
            have hgl := MG.out.lt
            have g0 : wz.cell? ⟨gz, 0, none⟩ = some (.int .i64 0) := by rw [MG.out.cell]; rfl
            have g1 : wz.cell? ⟨gz, 1, none⟩ = some nilS := by rw [MG.out.cell]; rfl
            have g2 : wz.cell? ⟨gz, 2, none⟩ = some nilS := by rw [MG.out.cell]; rfl
            have f0 : wz.frozen? ⟨gz, 0, none⟩ = false := MG.out.free 0
            have f1 : wz.frozen? ⟨gz, 1, none⟩ = false := MG.out.free 1
            have f2 : wz.frozen? ⟨gz, 2, none⟩ = false := MG.out.free 2
            refine wpAnyH_ready (rs := [6]) (by kernel_rfl) (by simp) ?_
            refine AllReadyH.cons (o := ⟨none, _, _, _, _, _⟩) rfl (fun K hK => ?_) AllReadyH.nil
            go_simp
            obtain ⟨wQ, hwQ⟩ : ∃ z : World, z = ((wz.setCell ⟨gz, 0, none⟩ (.int .i64 T.kind)).setCell ⟨gz, 1, none⟩ (.slice A4 T.set.length c4)).setCell ⟨gz, 2, none⟩ (.slice K4 T.kids.length k4) := ⟨_, rfl⟩
            have XQ : Hid (Blk wQ gz #[.int .i64 T.kind, .slice A4 T.set.length c4, .slice K4 T.kids.length k4] TRx) := by rw [hwQ]; exact Lib.hid (put3 rfl MG.out)
            have GQ : Hid (wz.grownBy wQ (some gz)) := by rw [hwQ]; exact grown_set (grown_set (grown_set (grown_refl _ _) _ _) _ _) _ _
            rw [← hwQ]
            clear g0 g1 g2 f0 f1 f2 hwQ
            have BQ : Hid (Below W0.heap.size W0 wQ) := Lib.hid ((BZ.out).grown GQ.out (BZ.out).size fun q hq => by have h1 := Option.some.inj hq; have h2 := HGZ.out; omega)
            refine hK.out _ _ (HCC.out _ BQ.out) (fun hH => ?_)
            clear hK K
            try simp only [Act.put, List.getElem_toArray, List.getElem_cons_zero, List.getElem_cons_succ, List.setIfInBounds_toArray, List.set_cons_zero, List.set_cons_succ]
            refine wpAnyH_done (by kernel_rfl) ?_ _
            go_wp2_with fail
            go_meet
            have hq := GQ.out.size
            have k1 := HGZ.out
            have k2 := HZZ.out
            have k3 := (BZ.out).size
            exact ⟨gz, A4, c4, K4, k4, fp4, rfl, XQ, ((OC.out.under bz)).stay fun b hb => GQ.out.block b (((OC.out.under bz)).lt b hb) (fun e => NE.out b hb (Option.some.inj e)), NC, fun b hb => ⟨by have h2 := FC.out b hb; omega, by have h3 := ((OC.out.under bz)).lt b hb; omega, NE.out b hb⟩, ⟨by omega, by omega⟩, BQ⟩
          · go_simp
            obtain ⟨wz, hwz⟩ : ∃ z : World, z = wB.alloc (.cells #[.int .i64 0, nilS, nilS] TRx) := ⟨_, rfl⟩
            have bz : Below wB.heap.size wB wz := by rw [hwz]; exact below_alloc (Below.refl _ _) _
            have MG : Hid (Blk wz wB.heap.size #[.int .i64 0, nilS, nilS] TRx) := by rw [hwz]; exact blk_new _ _ _
            have BZ := Lib.hid (below_then (BB.out) bz)
            have hzz : wz.heap.size = wB.heap.size + 1 := by rw [hwz]; simp
            have HZZ := Lib.hid hzz
            rw [← hwz]
            obtain ⟨gz, hgz⟩ : ∃ z : Nat, z = wB.heap.size := ⟨_, rfl⟩
            rw [← hgz] at MG ⊢
            have HGZ := Lib.hid hgz
            clear hwz hzz hgz
            refine hK.out _ _ (HCC.out _ BZ.out) (fun hH => ?_)
            clear hK K
            try simp only [Act.put, List.getElem_toArray, List.getElem_cons_zero, List.getElem_cons_succ, List.setIfInBounds_toArray, List.set_cons_zero, List.set_cons_succ]
            refine wpAnyH_ready (rs := [4]) (by kernel_rfl) (by simp) ?_
            refine AllReadyH.cons (o := ⟨some 79, _, _, _, _, _⟩) rfl (fun K hK => ?_) AllReadyH.nil
            go_simp
            refine (CC _ _ _ _ wz _ _ ((OA.out.under bz)) ((OB.out.under bz)) hsz (HPW.out.below (below_then BP.out (BZ.out)))).mono ?_
            rintro e wC hc
            obtain ⟨A4, c4, K4, k4, fp4, rfl, ho4, hn4, hf4, bC⟩ := hc.own
            rw [← Rex.eta] at ho4
            have BC := Lib.hid (below_then (BZ.out) bC)
            have OC := Lib.hid ho4
            have NC := Lib.hid hn4
            have FC := Lib.hid hf4
            have hzC := bC.size
            clear hc ho4 hn4 hf4
            (try go_wp2_with fail)
            refine hK.out _ _ (HCC.out _ BC.out) (fun hH => ?_)
            clear hK K
            try simp only [Act.put, List.getElem_toArray, List.getElem_cons_zero, List.getElem_cons_succ, List.setIfInBounds_toArray, List.set_cons_zero, List.set_cons_succ]
            replace MG := Lib.hid (MG.out.below bC)
            have NE : Hid (∀ b, b ∈ fp4 → b ≠ gz) := fun b hb e => by have h1 := FC.out b hb; have h2 := HGZ.out; have h3 := HZZ.out; omega
            have hgl := MG.out.lt
            have g0 : wC.cell? ⟨gz, 0, none⟩ = some (.int .i64 0) := by rw [MG.out.cell]; rfl
            have g1 : wC.cell? ⟨gz, 1, none⟩ = some nilS := by rw [MG.out.cell]; rfl
            have g2 : wC.cell? ⟨gz, 2, none⟩ = some nilS := by rw [MG.out.cell]; rfl
            have f0 : wC.frozen? ⟨gz, 0, none⟩ = false := MG.out.free 0
            have f1 : wC.frozen? ⟨gz, 1, none⟩ = false := MG.out.free 1
            have f2 : wC.frozen? ⟨gz, 2, none⟩ = false := MG.out.free 2
            refine wpAnyH_ready (rs := [6]) (by kernel_rfl) (by simp) ?_
            refine AllReadyH.cons (o := ⟨none, _, _, _, _, _⟩) rfl (fun K hK => ?_) AllReadyH.nil
            go_simp
            obtain ⟨wQ, hwQ⟩ : ∃ z : World, z = ((wC.setCell ⟨gz, 0, none⟩ (.int .i64 T.kind)).setCell ⟨gz, 1, none⟩ (.slice A4 T.set.length c4)).setCell ⟨gz, 2, none⟩ (.slice K4 T.kids.length k4) := ⟨_, rfl⟩
            have XQ : Hid (Blk wQ gz #[.int .i64 T.kind, .slice A4 T.set.length c4, .slice K4 T.kids.length k4] TRx) := by rw [hwQ]; exact Lib.hid (put3 rfl MG.out)
            have GQ : Hid (wC.grownBy wQ (some gz)) := by rw [hwQ]; exact grown_set (grown_set (grown_set (grown_refl _ _) _ _) _ _) _ _
            rw [← hwQ]
            clear g0 g1 g2 f0 f1 f2 hwQ
            have BQ : Hid (Below W0.heap.size W0 wQ) := Lib.hid ((BC.out).grown GQ.out (BC.out).size fun q hq => by have h1 := Option.some.inj hq; have h2 := HGZ.out; omega)
            refine hK.out _ _ (HCC.out _ BQ.out) (fun hH => ?_)
            clear hK K
            try simp only [Act.put, List.getElem_toArray, List.getElem_cons_zero, List.getElem_cons_succ, List.setIfInBounds_toArray, List.set_cons_zero, List.set_cons_succ]
            refine wpAnyH_done (by kernel_rfl) ?_ _
            go_wp2_with fail
            go_meet
            have hq := GQ.out.size
            have k1 := HGZ.out
            have k2 := HZZ.out
            have k3 := (BC.out).size
            exact ⟨gz, A4, c4, K4, k4, fp4, rfl, XQ, (OC.out).stay fun b hb => GQ.out.block b ((OC.out).lt b hb) (fun e => NE.out b hb (Option.some.inj e)), NC, fun b hb => ⟨by have h2 := FC.out b hb; omega, by have h3 := (OC.out).lt b hb; omega, NE.out b hb⟩, ⟨by omega, by omega⟩, BQ⟩
        · go_simp
          obtain ⟨wz, hwz⟩ : ∃ z : World, z = wA.alloc (.cells #[.int .i64 0, nilS, nilS] TRx) := ⟨_, rfl⟩
          have bz : Below wA.heap.size wA wz := by rw [hwz]; exact below_alloc (Below.refl _ _) _
          have MG : Hid (Blk wz wA.heap.size #[.int .i64 0, nilS, nilS] TRx) := by rw [hwz]; exact blk_new _ _ _
          have BZ := Lib.hid (below_then (BA.out) bz)
          have hzz : wz.heap.size = wA.heap.size + 1 := by rw [hwz]; simp
          have HZZ := Lib.hid hzz
          rw [← hwz]
          obtain ⟨gz, hgz⟩ : ∃ z : Nat, z = wA.heap.size := ⟨_, rfl⟩
          rw [← hgz] at MG ⊢
          have HGZ := Lib.hid hgz
          clear hwz hzz hgz
          refine hK.out _ _ (HCC.out _ BZ.out) (fun hH => ?_)
          clear hK K
          try simp only [Act.put, List.getElem_toArray, List.getElem_cons_zero, List.getElem_cons_succ, List.setIfInBounds_toArray, List.set_cons_zero, List.set_cons_succ]
          refine wpAnyH_ready (rs := [3]) (by kernel_rfl) (by simp) ?_
          refine AllReadyH.cons (o := ⟨some 78, _, _, _, _, _⟩) rfl (fun K hK => ?_) AllReadyH.nil
          go_simp
          refine (toRex_r r1 p1 q1 wz 0 (HS.out.under (below_then BP.out (BZ.out))) (by omega)).mono ?_
          rintro e wB ⟨sB, tB, rfl, oB, bB⟩
          have BB := Lib.hid (below_then (BZ.out) bB)
          have OB := Lib.hid oB
          replace OA := Lib.hid (((OA.out.under bz)).under bB)
          have hzB := bB.size
          (try go_wp2_with fail)
          refine hK.out _ _ (HCC.out _ BB.out) (fun hH => ?_)
          clear hK K
          try simp only [Act.put, List.getElem_toArray, List.getElem_cons_zero, List.getElem_cons_succ, List.setIfInBounds_toArray, List.set_cons_zero, List.set_cons_succ]
          replace MG := Lib.hid (MG.out.below bB)
          refine wpAnyH_ready (rs := [4]) (by kernel_rfl) (by simp) ?_
          refine AllReadyH.cons (o := ⟨some 79, _, _, _, _, _⟩) rfl (fun K hK => ?_) AllReadyH.nil
          go_simp
          refine (CC _ _ _ _ wB _ _ (OA.out) (OB.out) hsz (HPW.out.below (below_then BP.out (BB.out)))).mono ?_
          rintro e wC hc
          obtain ⟨A4, c4, K4, k4, fp4, rfl, ho4, hn4, hf4, bC⟩ := hc.own
          rw [← Rex.eta] at ho4
          have BC := Lib.hid (below_then (BB.out) bC)
          have OC := Lib.hid ho4
          have NC := Lib.hid hn4
          have FC := Lib.hid hf4
          have hzC := bC.size
          clear hc ho4 hn4 hf4
          (try go_wp2_with fail)
          refine hK.out _ _ (HCC.out _ BC.out) (fun hH => ?_)
          clear hK K
          try simp only [Act.put, List.getElem_toArray, List.getElem_cons_zero, List.getElem_cons_succ, List.setIfInBounds_toArray, List.set_cons_zero, List.set_cons_succ]
          replace MG := Lib.hid (MG.out.below bC)
          have NE : Hid (∀ b, b ∈ fp4 → b ≠ gz) := fun b hb e => by have h1 := FC.out b hb; have h2 := HGZ.out; have h3 := HZZ.out; omega
          have hgl := MG.out.lt
          have g0 : wC.cell? ⟨gz, 0, none⟩ = some (.int .i64 0) := by rw [MG.out.cell]; rfl
          have g1 : wC.cell? ⟨gz, 1, none⟩ = some nilS := by rw [MG.out.cell]; rfl
          have g2 : wC.cell? ⟨gz, 2, none⟩ = some nilS := by rw [MG.out.cell]; rfl
          have f0 : wC.frozen? ⟨gz, 0, none⟩ = false := MG.out.free 0
          have f1 : wC.frozen? ⟨gz, 1, none⟩ = false := MG.out.free 1
          have f2 : wC.frozen? ⟨gz, 2, none⟩ = false := MG.out.free 2
          refine wpAnyH_ready (rs := [6]) (by kernel_rfl) (by simp) ?_
          refine AllReadyH.cons (o := ⟨none, _, _, _, _, _⟩) rfl (fun K hK => ?_) AllReadyH.nil
          go_simp
          obtain ⟨wQ, hwQ⟩ : ∃ z : World, z = ((wC.setCell ⟨gz, 0, none⟩ (.int .i64 T.kind)).setCell ⟨gz, 1, none⟩ (.slice A4 T.set.length c4)).setCell ⟨gz, 2, none⟩ (.slice K4 T.kids.length k4) := ⟨_, rfl⟩
          have XQ : Hid (Blk wQ gz #[.int .i64 T.kind, .slice A4 T.set.length c4, .slice K4 T.kids.length k4] TRx) := by rw [hwQ]; exact Lib.hid (put3 rfl MG.out)
          have GQ : Hid (wC.grownBy wQ (some gz)) := by rw [hwQ]; exact grown_set (grown_set (grown_set (grown_refl _ _) _ _) _ _) _ _
          rw [← hwQ]
          clear g0 g1 g2 f0 f1 f2 hwQ
          have BQ : Hid (Below W0.heap.size W0 wQ) := Lib.hid ((BC.out).grown GQ.out (BC.out).size fun q hq => by have h1 := Option.some.inj hq; have h2 := HGZ.out; omega)
          refine hK.out _ _ (HCC.out _ BQ.out) (fun hH => ?_)
          clear hK K
          try simp only [Act.put, List.getElem_toArray, List.getElem_cons_zero, List.getElem_cons_succ, List.setIfInBounds_toArray, List.set_cons_zero, List.set_cons_succ]
          refine wpAnyH_done (by kernel_rfl) ?_ _
          go_wp2_with fail
          go_meet
          have hq := GQ.out.size
          have k1 := HGZ.out
          have k2 := HZZ.out
          have k3 := (BC.out).size
          exact ⟨gz, A4, c4, K4, k4, fp4, rfl, XQ, (OC.out).stay fun b hb => GQ.out.block b ((OC.out).lt b hb) (fun e => NE.out b hb (Option.some.inj e)), NC, fun b hb => ⟨by have h2 := FC.out b hb; omega, by have h3 := (OC.out).lt b hb; omega, NE.out b hb⟩, ⟨by omega, by omega⟩, BQ⟩
      · go_simp
        obtain ⟨wz, hwz⟩ : ∃ z : World, z = (W0.alloc (.cells #[.int .i64 0, nilS, nilS] TRx)).drew := ⟨_, rfl⟩
        have bz : Below W0.heap.size W0 wz := by rw [hwz]; exact below_drew (below_alloc (Below.refl _ _) _)
        have MG : Hid (Blk wz W0.heap.size #[.int .i64 0, nilS, nilS] TRx) := by rw [hwz]; exact (blk_new W0 #[.int .i64 0, nilS, nilS] TRx).below (below_drew (Below.refl _ _))
        have BZ := Lib.hid bz
        have hzz : wz.heap.size = W0.heap.size + 1 := by rw [hwz]; show (W0.alloc _).heap.size = _; simp
        have HZZ := Lib.hid hzz
        rw [← hwz]
        obtain ⟨gz, hgz⟩ : ∃ z : Nat, z = W0.heap.size := ⟨_, rfl⟩
        rw [← hgz] at MG ⊢
        have HGZ := Lib.hid hgz
        clear hwz hzz hgz
        refine hK.out _ _ (HCC.out _ BZ.out) (fun hH => ?_)
        clear hK K
        try simp only [Act.put, List.getElem_toArray, List.getElem_cons_zero, List.getElem_cons_succ, List.setIfInBounds_toArray, List.set_cons_zero, List.set_cons_succ]
        refine wpAnyH_ready (rs := [1]) (by kernel_rfl) (by simp) ?_
        refine AllReadyH.cons (o := ⟨some 76, _, _, _, _, _⟩) rfl (fun K hK => ?_) AllReadyH.nil
        go_simp
        refine (toRex_r r0 p0 q0 wz 0 (HR.out.under (below_then BP.out (BZ.out))) hx0).mono ?_
        rintro e wA ⟨sA, tA, rfl, oA, bA⟩
        have BA := Lib.hid (below_then (BZ.out) bA)
        have OA := Lib.hid oA
        have hzA := bA.size
        (try go_wp2_with fail)
        refine hK.out _ _ (HCC.out _ BA.out) (fun hH => ?_)
        clear hK K
        try simp only [Act.put, List.getElem_toArray, List.getElem_cons_zero, List.getElem_cons_succ, List.setIfInBounds_toArray, List.set_cons_zero, List.set_cons_succ]
        replace MG := Lib.hid (MG.out.below bA)
        refine wpAnyH_ready (rs := [3]) (by kernel_rfl) (by simp) ?_
        refine AllReadyH.cons (o := ⟨some 78, _, _, _, _, _⟩) rfl (fun K hK => ?_) AllReadyH.nil
        go_simp
        refine (toRex_r r1 p1 q1 wA 0 (HS.out.under (below_then BP.out (BA.out))) (by omega)).mono ?_
        rintro e wB ⟨sB, tB, rfl, oB, bB⟩
        have BB := Lib.hid (below_then (BA.out) bB)
        have OB := Lib.hid oB
        replace OA := Lib.hid ((OA.out).under bB)
        have hzB := bB.size
        (try go_wp2_with fail)
        refine hK.out _ _ (HCC.out _ BB.out) (fun hH => ?_)
        clear hK K
        try simp only [Act.put, List.getElem_toArray, List.getElem_cons_zero, List.getElem_cons_succ, List.setIfInBounds_toArray, List.set_cons_zero, List.set_cons_succ]
        replace MG := Lib.hid (MG.out.below bB)
        refine wpAnyH_ready (rs := [4]) (by kernel_rfl) (by simp) ?_
        refine AllReadyH.cons (o := ⟨some 79, _, _, _, _, _⟩) rfl (fun K hK => ?_) AllReadyH.nil
        go_simp
        refine (CC _ _ _ _ wB _ _ (OA.out) (OB.out) hsz (HPW.out.below (below_then BP.out (BB.out)))).mono ?_
        rintro e wC hc
        obtain ⟨A4, c4, K4, k4, fp4, rfl, ho4, hn4, hf4, bC⟩ := hc.own
        rw [← Rex.eta] at ho4
        have BC := Lib.hid (below_then (BB.out) bC)
        have OC := Lib.hid ho4
        have NC := Lib.hid hn4
        have FC := Lib.hid hf4
        have hzC := bC.size
        clear hc ho4 hn4 hf4
        (try go_wp2_with fail)
        refine hK.out _ _ (HCC.out _ BC.out) (fun hH => ?_)
        clear hK K
        try simp only [Act.put, List.getElem_toArray, List.getElem_cons_zero, List.getElem_cons_succ, List.setIfInBounds_toArray, List.set_cons_zero, List.set_cons_succ]
        replace MG := Lib.hid (MG.out.below bC)
        have NE : Hid (∀ b, b ∈ fp4 → b ≠ gz) := fun b hb e => by have h1 := FC.out b hb; have h2 := HGZ.out; have h3 := HZZ.out; omega
        have hgl := MG.out.lt
        have g0 : wC.cell? ⟨gz, 0, none⟩ = some (.int .i64 0) := by rw [MG.out.cell]; rfl
        have g1 : wC.cell? ⟨gz, 1, none⟩ = some nilS := by rw [MG.out.cell]; rfl
        have g2 : wC.cell? ⟨gz, 2, none⟩ = some nilS := by rw [MG.out.cell]; rfl
        have f0 : wC.frozen? ⟨gz, 0, none⟩ = false := MG.out.free 0
        have f1 : wC.frozen? ⟨gz, 1, none⟩ = false := MG.out.free 1
        have f2 : wC.frozen? ⟨gz, 2, none⟩ = false := MG.out.free 2
        refine wpAnyH_ready (rs := [6]) (by kernel_rfl) (by simp) ?_
        refine AllReadyH.cons (o := ⟨none, _, _, _, _, _⟩) rfl (fun K hK => ?_) AllReadyH.nil
        go_simp
        obtain ⟨wQ, hwQ⟩ : ∃ z : World, z = ((wC.setCell ⟨gz, 0, none⟩ (.int .i64 T.kind)).setCell ⟨gz, 1, none⟩ (.slice A4 T.set.length c4)).setCell ⟨gz, 2, none⟩ (.slice K4 T.kids.length k4) := ⟨_, rfl⟩
        have XQ : Hid (Blk wQ gz #[.int .i64 T.kind, .slice A4 T.set.length c4, .slice K4 T.kids.length k4] TRx) := by rw [hwQ]; exact Lib.hid (put3 rfl MG.out)
        have GQ : Hid (wC.grownBy wQ (some gz)) := by rw [hwQ]; exact grown_set (grown_set (grown_set (grown_refl _ _) _ _) _ _) _ _
        rw [← hwQ]
        clear g0 g1 g2 f0 f1 f2 hwQ
        have BQ : Hid (Below W0.heap.size W0 wQ) := Lib.hid ((BC.out).grown GQ.out (BC.out).size fun q hq => by have h1 := Option.some.inj hq; have h2 := HGZ.out; omega)
        refine hK.out _ _ (HCC.out _ BQ.out) (fun hH => ?_)
        clear hK K
        try simp only [Act.put, List.getElem_toArray, List.getElem_cons_zero, List.getElem_cons_succ, List.setIfInBounds_toArray, List.set_cons_zero, List.set_cons_succ]
        refine wpAnyH_done (by kernel_rfl) ?_ _
        go_wp2_with fail
        go_meet
        have hq := GQ.out.size
        have k1 := HGZ.out
        have k2 := HZZ.out
        have k3 := (BC.out).size
        exact ⟨gz, A4, c4, K4, k4, fp4, rfl, XQ, (OC.out).stay fun b hb => GQ.out.block b ((OC.out).lt b hb) (fun e => NE.out b hb (Option.some.inj e)), NC, fun b hb => ⟨by have h2 := FC.out b hb; omega, by have h3 := (OC.out).lt b hb; omega, NE.out b hb⟩, ⟨by omega, by omega⟩, BQ⟩
    case rest =>
      obtain ⟨gh, A7, c7, K7, k7, fpH, rfl, XH, OH, _, _, _, BWh⟩ := hcut
      replace M0 := Lib.hid (M0.out.below (BWh.out))
      replace M1 := Lib.hid (M1.out.below (BWh.out))
      replace OW := Lib.hid (OW.out.under (BWh.out))
      replace XW := Lib.hid (XW.out.below (BWh.out))
      try replace OX := Lib.hid (OX.out.under (BWh.out))
      try replace XX := Lib.hid (XX.out.below (BWh.out))
      try replace OY := Lib.hid (OY.out.under (BWh.out))
      try replace XY := Lib.hid (XY.out.below (BWh.out))
      try replace OG := Lib.hid (OG.out.under (BWh.out))
      try replace XG := Lib.hid (XG.out.below (BWh.out))
      replace BL := Lib.hid (below_then BL.out (BWh.out))
      clear BWh BP CC HCC
      have nha : wc.cell? ⟨gh, 0, none⟩ = some (.int .i64 T.kind) := by rw [XH.out.cell]; rfl
      have nhb : wc.cell? ⟨gh, 1, none⟩ = some (.slice A7 T.set.length c7) := by rw [XH.out.cell]; rfl
      have nhc : wc.cell? ⟨gh, 2, none⟩ = some (.slice K7 T.kids.length k7) := by rw [XH.out.cell]; rfl
      have nwa : wc.cell? ⟨gw, 0, none⟩ = some (.int .i64 T.kind) := by rw [XW.out.cell]; rfl
      have nwb : wc.cell? ⟨gw, 1, none⟩ = some (.slice A3 T.set.length c3) := by rw [XW.out.cell]; rfl
      have nwc : wc.cell? ⟨gw, 2, none⟩ = some (.slice K3 T.kids.length k3) := by rw [XW.out.cell]; rfl
      go_wp2_with fail
      refine (eqRex_r T T _ _ _ _ wc _ _ OH.out.rex0 OW.out.rex0).mono ?_
      rintro e w16 ⟨rfl, b16⟩
      rw [(rexEq_iff T T).2 rfl]
      replace M0 := Lib.hid (M0.out.below (b16))
      replace M1 := Lib.hid (M1.out.below (b16))
      replace OW := Lib.hid (OW.out.under (b16))
      replace XW := Lib.hid (XW.out.below (b16))
      try replace OX := Lib.hid (OX.out.under (b16))
      try replace XX := Lib.hid (XX.out.below (b16))
      try replace OY := Lib.hid (OY.out.under (b16))
      try replace XY := Lib.hid (XY.out.below (b16))
      try replace OG := Lib.hid (OG.out.under (b16))
      try replace XG := Lib.hid (XG.out.below (b16))
      replace BL := Lib.hid (below_then BL.out (b16))
      clear b16 nwa nwb nwc nha nhb nhc
      have nga : w16.cell? ⟨gg, 0, none⟩ = some (.int .i64 T.kind) := by rw [XG.out.cell]; rfl
      have ngb : w16.cell? ⟨gg, 1, none⟩ = some (.slice A6 T.set.length c6) := by rw [XG.out.cell]; rfl
      have ngc : w16.cell? ⟨gg, 2, none⟩ = some (.slice K6 T.kids.length k6) := by rw [XG.out.cell]; rfl
      go_wp2_with fail
      refine (heldRex_c T _ _ 1 w16 0 OG.out.rex0 (by omega) (by omega)).mono ?_
      rintro e w17 ⟨rfl, b17⟩
      replace BL := Lib.hid (below_then BL.out b17)
      clear b17 nga ngb ngc
      go_wp2
      go_ret
      exact ⟨rfl, BL.out⟩
end Go.Proofs.YtfeidjjabjejiaaGreatDoor
