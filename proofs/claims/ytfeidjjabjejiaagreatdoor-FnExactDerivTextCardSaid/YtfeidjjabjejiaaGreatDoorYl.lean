/- DerivBy, of the program and of the reference. -/
import Derived.Test.YtfeidjjabjejiaaGreatDoorG22
import Derived.Test.YtfeidjjabjejiaaGreatDoorYk
namespace Go.Proofs.YtfeidjjabjejiaaGreatDoor
set_option linter.unusedSimpArgs false
set_option linter.unusedVariables false
set_option maxRecDepth 100000
open Go.RowKit

def derivBy (b : Int) (r : Rex) : Rex := if rexOk r = true ∧ 0 ≤ b ∧ b ≤ 255 then dv b (nrm r) else noRex
theorem dv_size (b : Int) {n : Rex} (h : wf n) (hm : n.many ≤ 120) : (dv b n).size ≤ 1048576 := size_many (m := 0) (dv_fit b n h).wf (Nat.le_trans (dv_120 b h (Nat.le_refl _) hm) (by omega))
theorem nrm_120 {r : Rex} (h : rexOk r = true) : wf (nrm r) ∧ (nrm r).many ≤ 120 := by
  obtain ⟨h1, h2⟩ := rexOk_wf h
  have h3 := nrm_fit r h1
  have h4 := h3.many
  exact ⟨h3.wf, by omega⟩
theorem derivBy_size (b : Int) (r : Rex) : (derivBy b r).size ≤ 268435456 := by
  unfold derivBy
  split
  · rename_i h
    obtain ⟨h1, h2⟩ := nrm_120 h.1
    have := dv_size b h1 h2
    omega
  · show (Rex.mk 0 [] []).size ≤ _; simp [Rex.size, sizeL]
set_option maxHeartbeats 2000000 in
theorem iDerivBy_c (r : Rex) (v1 v2 : Value) (b : Int) (w : World) (lo : Nat) (h : RexV w lo r (.int .i64 r.kind) v1 v2) (hsz : r.size ≤ 1048576) (hpw : Pow10 w) :
    Calls Tryz.prog 15 #[.agg #[.int .i64 r.kind, v1, v2], .int .i64 b] w (CopyPost (derivBy b r).kind (derivBy b r).set (derivBy b r).kids w) := by
  obtain ⟨A, c, K, ck, _, rfl, rfl, _, _⟩ := h.parts
  obtain ⟨wa, hwa⟩ : ∃ x, x = (w.alloc (.cells #[.int .i64 r.kind, .slice A r.set.length c, .slice K r.kids.length ck] TRx)).alloc (.cells #[.int .i64 0, nilS, nilS] TRx) := ⟨_, rfl⟩
  have hb : Below w.heap.size w wa := by rw [hwa]; exact below_alloc (below_alloc (Below.refl _ _) _) _
  have m0 : Blk wa w.heap.size #[.int .i64 r.kind, .slice A r.set.length c, .slice K r.kids.length ck] TRx := by rw [hwa]; exact (blk_new w _ _).alloc _
  have m1 : Blk wa (w.heap.size + 1) #[.int .i64 0, nilS, nilS] TRx := by
    rw [hwa]
    have := blk_new (w.alloc (.cells #[.int .i64 r.kind, .slice A r.set.length c, .slice K r.kids.length ck] TRx)) #[.int .i64 0, nilS, nilS] TRx
    simpa using this
  have hz1 : wa.heap.size = w.heap.size + 2 := by rw [hwa]; simp
  have HZ := Lib.hid hz1
  clear hz1
  replace hwa := hwa.symm
  have HV := Lib.hid (h.under hb)
  have HB := Lib.hid hb
  have M0 := Lib.hid m0
  have M1 := Lib.hid m1
  have n0 : wa.cell? ⟨w.heap.size, 0, none⟩ = some (.int .i64 r.kind) := by rw [m0.cell]; rfl
  have n1 : wa.cell? ⟨w.heap.size, 1, none⟩ = some (.slice A r.set.length c) := by rw [m0.cell]; rfl
  have n2 : wa.cell? ⟨w.heap.size, 2, none⟩ = some (.slice K r.kids.length ck) := by rw [m0.cell]; rfl
  clear hb m0 m1 h
  have HPW := Lib.hid hpw
  clear hpw
  go_enter Tryz.func15, Tryz.ntmps15
  go_wp2_with fail
  clear hwa
  refine (iRexOk_c _ _ _ _ _ HV.out hsz).mono ?_
  rintro e w1 ⟨rfl, b1⟩
  have M1a := Lib.hid (M1.out.below b1)
  have M0a := Lib.hid (M0.out.below b1)
  have HBa := Lib.hid (below_then HB.out b1)
  clear n0 n1 n2
  have n0 : w1.cell? ⟨w.heap.size, 0, none⟩ = some (.int .i64 r.kind) := by rw [M0a.out.cell]; rfl
  have n1 : w1.cell? ⟨w.heap.size, 1, none⟩ = some (.slice A r.set.length c) := by rw [M0a.out.cell]; rfl
  have n2 : w1.cell? ⟨w.heap.size, 2, none⟩ = some (.slice K r.kids.length ck) := by rw [M0a.out.cell]; rfl
  have HVa := Lib.hid (HV.out.under b1)
  have HZa := Lib.hid b1.size
  clear b1
  by_cases hf : rexOk r = true
  · have IN : Hid (∀ W : World, Calls Tryz.prog 55 #[.int .i64 b, .int .i64 0, .int .i64 255] W fun e w' => e = .returned (.bool (decide (0 ≤ b) && decide (b ≤ 255))) ∧ W = w') := fun W => in_c b 0 255 W
    obtain ⟨ib, hib⟩ : ∃ z, z = (decide (0 ≤ b) && decide (b ≤ 255)) := ⟨_, rfl⟩
    rw [← hib] at IN
    rw [hf]
    have E : Hid (derivBy b r = if ib = true then dv b (nrm r) else noRex) := by
      show _ = _
      unfold derivBy
      simp only [hf, true_and, hib, Bool.and_eq_true, decide_eq_true_eq]
    clear hib
    cases ib
    · replace E : Hid (derivBy b r = noRex) := Lib.hid (E.out.trans (if_neg (by decide)))
      clear hf n0 n1 n2
      go_wp2_with (first
        | ((with_reducible refine (IN.out _).mono ?_); rintro e wi ⟨rfl, rfl⟩)
        | ((with_reducible refine at_st 4 13 ?_); refine ev_store (o := ⟨none, .store _ (.tmp 4) _, _, _, _, _⟩) rfl rfl TRx (.tmp 4) (.tmp 13) rfl (w.heap.size + 1) 0 rfl [.int .i64 0, nilS, nilS] rfl _ TRx M1a.out (sizeRx' _ _ _) (by show 0 + 3 ≤ 3; omega) (three_one _ _ _ _ _ _ _) ?_; intro w5 hX5 hg5; have HX5 : Hid (Blk w5 (w.heap.size + 1) ([.int .i64 0, nilS, nilS]).toArray TRx) := hX5; have HG5 := Lib.hid hg5; clear hX5 hg5)
        | fail)
      refine bodyPost_ret (results_cell_row rfl _ _ (w.heap.size + 1) TRx _ (0, 0) _ rfl HX5.out.eq Tryz.underlying26 rfl (by rw [sizeRx]; rfl)) rfl ?_
      rw [E.out]
      exact own_fin (t := noRex) (OwnT.leaf _ 0) List.nodup_nil (fun b hb => absurd hb (List.not_mem_nil)) (Nat.lt_succ_self _) (Nat.le_succ _) HBa.out HG5.out
    · replace E : Hid (derivBy b r = dv b (nrm r)) := Lib.hid (E.out.trans (if_pos rfl))
      have hdo : rexOk r = true := hf
      obtain ⟨hwf, hmn⟩ := rexOk_wf hf
      obtain ⟨hwn, hmn2⟩ := nrm_120 hf
      have HMN : r.many ≤ 8000 := by omega
      have HWF := Lib.hid hwf
      have IC : Hid (Calls Tryz.prog 58 #[.agg #[.int .i64 r.kind, .slice A r.set.length c, .slice K r.kids.length ck]] w1 (RexPost (fun b => b < w1.heap.size) (nrm r) w1)) := iNorm_c r _ _ w1 _ hwf HVa.out.rexp (fun b h => h) HMN (HPW.out.below HBa.out)
      obtain ⟨N, hN⟩ : ∃ z, z = nrm r := ⟨_, rfl⟩
      rw [← hN] at hwn hmn2 IC E
      have hts := dv_size b hwn hmn2
      have WN := Lib.hid hwn
      have MN := Lib.hid hmn2
      have DC := fun (u1 u2 : Value) (W : World) h1 h2 => iDeriv_c N b u1 u2 W (fun z => z < W.heap.size) hwn h1 (fun b h => h) hmn2 h2
      obtain ⟨T, hT⟩ : ∃ z, z = dv b N := ⟨_, rfl⟩
      rw [← hT] at hts E DC
      replace DC := Lib.hid DC
      have HTS : Hid (T.size ≤ 1073741824) := by show _ ≤ _; omega
      clear hf hT hts hN hwf hmn hwn hmn2 hdo
      go_wp2_with (first
        | ((with_reducible refine (IN.out _).mono ?_); rintro e wi ⟨rfl, rfl⟩)
        | (((with_reducible refine (IC.out).mono ?_); rintro e wn ⟨An, cn, Kn, kn, rfl, hvn, bn⟩; have HVN := Lib.hid hvn.rexv; have M1n := Lib.hid (M1a.out.below bn); have HBn := Lib.hid (below_then HBa.out bn); have HZn := Lib.hid (Nat.le_trans HZa.out bn.size); clear hvn bn))
        | ((with_reducible refine (DC.out _ _ wn HVN.out.rexp (HPW.out.below HBn.out)).mono ?_); rintro e w3 ⟨A3, c3, K3, k3, rfl, hv3, b3⟩; have HV3 := Lib.hid hv3.rexv; have M1d := Lib.hid (M1n.out.below b3); have HBd := Lib.hid (below_then HBn.out b3); have HZd := Lib.hid (Nat.le_trans HZn.out b3.size); clear hv3 b3)
        | (((with_reducible refine (iCopy_b T _ _ w3 _ HV3.out HTS.out).mono ?_); rintro e w4 hc; obtain ⟨A4, c4, K4, k4, fp4, rfl, ho4, hn4, hf4, b4⟩ := hc.own; rw [← Rex.eta] at ho4; have HO4 := Lib.hid ho4; have HN4 := Lib.hid hn4; have HF4 := Lib.hid hf4; have M1e := Lib.hid (M1d.out.below b4); have HBe := Lib.hid (below_then HBd.out b4); clear ho4 hn4 hf4 b4 hc))
        | ((with_reducible refine at_st 4 18 ?_); refine ev_store (o := ⟨none, .store _ (.tmp 4) _, _, _, _, _⟩) rfl rfl TRx (.tmp 4) (.tmp 18) rfl (w.heap.size + 1) 0 rfl [.int .i64 T.kind, .slice A4 T.set.length c4, .slice K4 T.kids.length k4] rfl _ TRx M1e.out (sizeRx' _ _ _) (by show 0 + 3 ≤ 3; omega) (three_one _ _ _ _ _ _ _) ?_; intro w5 hX5 hg5; have HX5 : Hid (Blk w5 (w.heap.size + 1) ([.int .i64 T.kind, .slice A4 T.set.length c4, .slice K4 T.kids.length k4]).toArray TRx) := hX5; have HG5 := Lib.hid hg5; clear hX5 hg5)
        | fail)
      refine bodyPost_ret (results_cell_row rfl _ _ (w.heap.size + 1) TRx _ (0, 0) _ rfl HX5.out.eq Tryz.underlying26 rfl (by rw [sizeRx]; rfl)) rfl ?_
      rw [E.out]
      exact own_fin HO4.out HN4.out HF4.out (by have h1 := HZ.out; have h2 := HZd.out; omega) (Nat.le_succ _) HBe.out HG5.out
  · have E : Hid (derivBy b r = noRex) := by show _ = _; unfold derivBy; rw [if_neg (fun h => hf h.1)]
    have HFO : Hid (rexOk r = false) := by show _ = _; simpa using hf
    rw [HFO.out]
    clear hf n0 n1 n2
    go_wp2_with ((with_reducible refine at_st 4 13 ?_); refine ev_store (o := ⟨none, .store _ (.tmp 4) _, _, _, _, _⟩) rfl rfl TRx (.tmp 4) (.tmp 13) rfl (w.heap.size + 1) 0 rfl [.int .i64 0, nilS, nilS] rfl _ TRx M1a.out (sizeRx' _ _ _) (by show 0 + 3 ≤ 3; omega) (three_one _ _ _ _ _ _ _) ?_; intro w5 hX5 hg5; have HX5 : Hid (Blk w5 (w.heap.size + 1) ([.int .i64 0, nilS, nilS]).toArray TRx) := hX5; have HG5 := Lib.hid hg5; clear hX5 hg5)
    refine bodyPost_ret (results_cell_row rfl _ _ (w.heap.size + 1) TRx _ (0, 0) _ rfl HX5.out.eq Tryz.underlying26 rfl (by rw [sizeRx]; rfl)) rfl ?_
    rw [E.out]
    exact own_fin (t := noRex) (OwnT.leaf _ 0) List.nodup_nil (fun b hb => absurd hb (List.not_mem_nil)) (Nat.lt_succ_self _) (Nat.le_succ _) HBa.out HG5.out
set_option maxHeartbeats 2000000 in
theorem sDerivBy_c (r : Rex) (v1 v2 : Value) (b : Int) (w : World) (lo : Nat) (h : RexV w lo r (.int .i64 r.kind) v1 v2) (hsz : r.size ≤ 1048576) (hpw : Pow10 w) :
    Calls Tryz.prog 17 #[.agg #[.int .i64 r.kind, v1, v2], .int .i64 b] w (CopyPost (derivBy b r).kind (derivBy b r).set (derivBy b r).kids w) := by
  obtain ⟨A, c, K, ck, _, rfl, rfl, _, _⟩ := h.parts
  obtain ⟨wa, hwa⟩ : ∃ x, x = (w.alloc (.cells #[.int .i64 r.kind, .slice A r.set.length c, .slice K r.kids.length ck] TRx)).alloc (.cells #[.int .i64 0, nilS, nilS] TRx) := ⟨_, rfl⟩
  have hb : Below w.heap.size w wa := by rw [hwa]; exact below_alloc (below_alloc (Below.refl _ _) _) _
  have m0 : Blk wa w.heap.size #[.int .i64 r.kind, .slice A r.set.length c, .slice K r.kids.length ck] TRx := by rw [hwa]; exact (blk_new w _ _).alloc _
  have m1 : Blk wa (w.heap.size + 1) #[.int .i64 0, nilS, nilS] TRx := by
    rw [hwa]
    have := blk_new (w.alloc (.cells #[.int .i64 r.kind, .slice A r.set.length c, .slice K r.kids.length ck] TRx)) #[.int .i64 0, nilS, nilS] TRx
    simpa using this
  have hz1 : wa.heap.size = w.heap.size + 2 := by rw [hwa]; simp
  have HZ := Lib.hid hz1
  clear hz1
  replace hwa := hwa.symm
  have HV := Lib.hid (h.under hb)
  have HB := Lib.hid hb
  have M0 := Lib.hid m0
  have M1 := Lib.hid m1
  have n0 : wa.cell? ⟨w.heap.size, 0, none⟩ = some (.int .i64 r.kind) := by rw [m0.cell]; rfl
  have n1 : wa.cell? ⟨w.heap.size, 1, none⟩ = some (.slice A r.set.length c) := by rw [m0.cell]; rfl
  have n2 : wa.cell? ⟨w.heap.size, 2, none⟩ = some (.slice K r.kids.length ck) := by rw [m0.cell]; rfl
  clear hb m0 m1 h
  have HPW := Lib.hid hpw
  clear hpw
  go_enter Tryz.func17, Tryz.ntmps17
  go_wp2_with fail
  clear hwa
  refine (sRexOk_c _ _ _ _ _ HV.out hsz).mono ?_
  rintro e w1 ⟨rfl, b1⟩
  have M1a := Lib.hid (M1.out.below b1)
  have M0a := Lib.hid (M0.out.below b1)
  have HBa := Lib.hid (below_then HB.out b1)
  clear n0 n1 n2
  have n0 : w1.cell? ⟨w.heap.size, 0, none⟩ = some (.int .i64 r.kind) := by rw [M0a.out.cell]; rfl
  have n1 : w1.cell? ⟨w.heap.size, 1, none⟩ = some (.slice A r.set.length c) := by rw [M0a.out.cell]; rfl
  have n2 : w1.cell? ⟨w.heap.size, 2, none⟩ = some (.slice K r.kids.length ck) := by rw [M0a.out.cell]; rfl
  have HVa := Lib.hid (HV.out.under b1)
  have HZa := Lib.hid b1.size
  clear b1
  by_cases hf : rexOk r = true
  · rw [hf]
    by_cases hlo : b < 0
    · have E : Hid (derivBy b r = noRex) := by show _ = _; unfold derivBy; rw [if_neg (fun h => by omega)]
      clear hf n0 n1 n2
      go_wp2_with ((with_reducible refine at_st 4 16 ?_); refine ev_store (o := ⟨none, .store _ (.tmp 4) _, _, _, _, _⟩) rfl rfl TRx (.tmp 4) (.tmp 16) rfl (w.heap.size + 1) 0 rfl [.int .i64 0, nilS, nilS] rfl _ TRx M1a.out (sizeRx' _ _ _) (by show 0 + 3 ≤ 3; omega) (three_one _ _ _ _ _ _ _) ?_; intro w5 hX5 hg5; have HX5 : Hid (Blk w5 (w.heap.size + 1) ([.int .i64 0, nilS, nilS]).toArray TRx) := hX5; have HG5 := Lib.hid hg5; clear hX5 hg5)
      refine bodyPost_ret (results_cell_row rfl _ _ (w.heap.size + 1) TRx _ (0, 0) _ rfl HX5.out.eq Tryz.underlying26 rfl (by rw [sizeRx]; rfl)) rfl ?_
      rw [E.out]
      exact own_fin (t := noRex) (OwnT.leaf _ 0) List.nodup_nil (fun b hb => absurd hb (List.not_mem_nil)) (Nat.lt_succ_self _) (Nat.le_succ _) HBa.out HG5.out
    by_cases hhi : 255 < b
    · have E : Hid (derivBy b r = noRex) := by show _ = _; unfold derivBy; rw [if_neg (fun h => by omega)]
      clear hf n0 n1 n2
      go_wp2_with ((with_reducible refine at_st 4 16 ?_); refine ev_store (o := ⟨none, .store _ (.tmp 4) _, _, _, _, _⟩) rfl rfl TRx (.tmp 4) (.tmp 16) rfl (w.heap.size + 1) 0 rfl [.int .i64 0, nilS, nilS] rfl _ TRx M1a.out (sizeRx' _ _ _) (by show 0 + 3 ≤ 3; omega) (three_one _ _ _ _ _ _ _) ?_; intro w5 hX5 hg5; have HX5 : Hid (Blk w5 (w.heap.size + 1) ([.int .i64 0, nilS, nilS]).toArray TRx) := hX5; have HG5 := Lib.hid hg5; clear hX5 hg5)
      refine bodyPost_ret (results_cell_row rfl _ _ (w.heap.size + 1) TRx _ (0, 0) _ rfl HX5.out.eq Tryz.underlying26 rfl (by rw [sizeRx]; rfl)) rfl ?_
      rw [E.out]
      exact own_fin (t := noRex) (OwnT.leaf _ 0) List.nodup_nil (fun b hb => absurd hb (List.not_mem_nil)) (Nat.lt_succ_self _) (Nat.le_succ _) HBa.out HG5.out
    have E : Hid (derivBy b r = dv b (nrm r)) := by show _ = _; unfold derivBy; rw [if_pos ⟨hf, by omega, by omega⟩]
    have hdo : rexOk r = true := hf
    obtain ⟨hwf, hmn⟩ := rexOk_wf hf
    obtain ⟨hwn, hmn2⟩ := nrm_120 hf
    have HMN : r.many ≤ 8000 := by omega
    have HWF := Lib.hid hwf
    have IC : Hid (∀ (w' : World) (a1 a2 : Value), RexV w' 0 r (.int .i64 r.kind) a1 a2 → Below w.heap.size w w' → Calls Tryz.prog 62 #[.agg #[.int .i64 r.kind, a1, a2]] w' (RexPost (fun b => b < w'.heap.size) (nrm r) w')) := fun w' a1 a2 hv hb => sNorm_c r _ _ w' _ HWF.out hv.rexp (fun b h => h) HMN (HPW.out.below hb)
    obtain ⟨N, hN⟩ : ∃ z, z = nrm r := ⟨_, rfl⟩
    rw [← hN] at hwn hmn2 IC E
    have hts := dv_size b hwn hmn2
    have DC := fun (u1 u2 : Value) (W : World) h1 h2 => sDeriv_c N b u1 u2 W (fun z => z < W.heap.size) hwn h1 (fun b h => h) hmn2 h2
    obtain ⟨T, hT⟩ : ∃ z, z = dv b N := ⟨_, rfl⟩
    rw [← hT] at hts E DC
    replace DC := Lib.hid DC
    have HTS : Hid (T.size ≤ 1073741824) := by show _ ≤ _; omega
    clear hf hT hts hN hwf hmn hwn hmn2 hdo
    go_wp2_with fail
    refine (sCopy_c r _ _ _ _ HVa.out (by omega)).mono ?_
    rintro e w2 hc
    obtain ⟨A2, c2, K2, k2, fp2, rfl, ho2, _, hf2, b2⟩ := hc.own
    rw [← Rex.eta] at ho2
    have HO2 := Lib.hid ho2.rex0
    have M1c := Lib.hid (M1a.out.below b2)
    have HBc := Lib.hid (below_then HBa.out b2)
    have HZc := Lib.hid (Nat.le_trans HZa.out b2.size)
    clear ho2 hf2 b2 hc n0 n1 n2
    go_wp2_with (first
      | (((with_reducible refine (IC.out w2 _ _ HO2.out HBc.out).mono ?_); rintro e wn ⟨An, cn, Kn, kn, rfl, hvn, bn⟩; have HVN := Lib.hid hvn.rexv; have M1n := Lib.hid (M1c.out.below bn); have HBn := Lib.hid (below_then HBc.out bn); have HZn := Lib.hid (Nat.le_trans HZc.out bn.size); clear hvn bn))
      | ((with_reducible refine (DC.out _ _ wn HVN.out.rexp (HPW.out.below HBn.out)).mono ?_); rintro e w3 ⟨A3, c3, K3, k3, rfl, hv3, b3⟩; have HV3 := Lib.hid hv3.rexv; have M1d := Lib.hid (M1n.out.below b3); have HBd := Lib.hid (below_then HBn.out b3); have HZd := Lib.hid (Nat.le_trans HZn.out b3.size); clear hv3 b3)
      | (((with_reducible refine (sCopy_b T _ _ w3 _ HV3.out HTS.out).mono ?_); rintro e w4 hc; obtain ⟨A4, c4, K4, k4, fp4, rfl, ho4, hn4, hf4, b4⟩ := hc.own; rw [← Rex.eta] at ho4; have HO4 := Lib.hid ho4; have HN4 := Lib.hid hn4; have HF4 := Lib.hid hf4; have M1e := Lib.hid (M1d.out.below b4); have HBe := Lib.hid (below_then HBd.out b4); clear ho4 hn4 hf4 b4 hc))
      | ((with_reducible refine at_st 4 22 ?_); refine ev_store (o := ⟨none, .store _ (.tmp 4) _, _, _, _, _⟩) rfl rfl TRx (.tmp 4) (.tmp 22) rfl (w.heap.size + 1) 0 rfl [.int .i64 T.kind, .slice A4 T.set.length c4, .slice K4 T.kids.length k4] rfl _ TRx M1e.out (sizeRx' _ _ _) (by show 0 + 3 ≤ 3; omega) (three_one _ _ _ _ _ _ _) ?_; intro w5 hX5 hg5; have HX5 : Hid (Blk w5 (w.heap.size + 1) ([.int .i64 T.kind, .slice A4 T.set.length c4, .slice K4 T.kids.length k4]).toArray TRx) := hX5; have HG5 := Lib.hid hg5; clear hX5 hg5)
      | fail)
    refine bodyPost_ret (results_cell_row rfl _ _ (w.heap.size + 1) TRx _ (0, 0) _ rfl HX5.out.eq Tryz.underlying26 rfl (by rw [sizeRx]; rfl)) rfl ?_
    rw [E.out]
    exact own_fin HO4.out HN4.out HF4.out (by have h1 := HZ.out; have h2 := HZd.out; omega) (Nat.le_succ _) HBe.out HG5.out
  · have E : Hid (derivBy b r = noRex) := by show _ = _; unfold derivBy; rw [if_neg (fun h => hf h.1)]
    have HFO : Hid (rexOk r = false) := by show _ = _; simpa using hf
    rw [HFO.out]
    clear hf n0 n1 n2
    go_wp2_with ((with_reducible refine at_st 4 16 ?_); refine ev_store (o := ⟨none, .store _ (.tmp 4) _, _, _, _, _⟩) rfl rfl TRx (.tmp 4) (.tmp 16) rfl (w.heap.size + 1) 0 rfl [.int .i64 0, nilS, nilS] rfl _ TRx M1a.out (sizeRx' _ _ _) (by show 0 + 3 ≤ 3; omega) (three_one _ _ _ _ _ _ _) ?_; intro w5 hX5 hg5; have HX5 : Hid (Blk w5 (w.heap.size + 1) ([.int .i64 0, nilS, nilS]).toArray TRx) := hX5; have HG5 := Lib.hid hg5; clear hX5 hg5)
    refine bodyPost_ret (results_cell_row rfl _ _ (w.heap.size + 1) TRx _ (0, 0) _ rfl HX5.out.eq Tryz.underlying26 rfl (by rw [sizeRx]; rfl)) rfl ?_
    rw [E.out]
    exact own_fin (t := noRex) (OwnT.leaf _ 0) List.nodup_nil (fun b hb => absurd hb (List.not_mem_nil)) (Nat.lt_succ_self _) (Nat.le_succ _) HBa.out HG5.out
end Go.Proofs.YtfeidjjabjejiaaGreatDoor
