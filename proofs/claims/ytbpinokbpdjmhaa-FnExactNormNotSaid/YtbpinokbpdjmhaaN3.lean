/- NormNot, NormStar, of the program and of the reference. -/
import Derived.Test.YtbpinokbpdjmhaaN2
import Derived.Test.YtbpinokbpdjmhaaC1
import Derived.Test.YtbpinokbpdjmhaaC2
namespace Go.Proofs.Ytbpinokbpdjmhaa
set_option linter.unusedSimpArgs false
set_option linter.unusedVariables false
open Go.RowKit

def noRex : Rex := .mk 0 [] []
def norm60 (f : Rex → Rex) (r : Rex) : Rex := if formed 60 r = true then f r else noRex
theorem OwnT.leaf (w : World) (k : Int) : OwnT w [] (.mk k [] []) nilS nilS := OwnT.of (fk := []) (k := k) (OwnSp.nil w 0) OwnK.empty (by simp [vblk_nil])
theorem kid0_size (r : Rex) : (kid0 r).size ≤ r.size := by
  obtain ⟨k, s, ks⟩ := r
  show (ks.getD 0 default).size ≤ _
  cases ks with
  | nil => show (default : Rex).size ≤ _; show (Rex.mk 0 [] []).size ≤ _; simp [Rex.size, sizeL]
  | cons x xs => show x.size ≤ _; rw [Rex.size, sizeL]; omega
theorem one_size (k : Int) (r : Rex) : (Rex.mk k [] [r]).size = r.size + 1 := by simp [Rex.size, sizeL]; omega
theorem nNot_size (r : Rex) : (nNot r).size ≤ r.size + 1 := by
  unfold nNot
  split
  · have := kid0_size r; omega
  · rw [one_size]; exact Nat.le_refl _
theorem nStar_size (r : Rex) : (nStar r).size ≤ r.size + 1 := by
  unfold nStar
  split
  · omega
  · split
    · simp [Rex.size, sizeL]
    · rw [one_size]; exact Nat.le_refl _
theorem own_fin {w wr w5 : World} {fp : List Nat} {t : Rex} {u1 u2 : Value} {R n : Nat} (HO : OwnT wr fp t u1 u2) (HN : fp.Nodup) (HF : ∀ b, b ∈ fp → n ≤ b) (hn : R < n) (hR : w.heap.size ≤ R) (HB : Below w.heap.size w wr) (HG : wr.grownBy w5 (some R)) :
    CopyPost t.kind t.set t.kids w (.returned (.agg #[.int .i64 t.kind, u1, u2])) w5 := by
  refine ⟨u1, u2, fp, rfl, ?_, HN, fun b hb => by have := HF b hb; omega, HB.grown HG HB.size fun q hq => by injection hq with hq; omega⟩
  rw [← Rex.eta]
  exact HO.stay fun b hb => HG.block b (HO.lt b hb) fun e => by injection e with e; have := HF b hb; omega
theorem CopyPost.own {k : Int} {s : List Sp} {ks : List Rex} {w : World} {e : Ending} {w' : World} (h : CopyPost k s ks w e w') :
    ∃ A c K ck fp, e = .returned (.agg #[.int .i64 k, .slice A s.length c, .slice K ks.length ck]) ∧ OwnT w' fp (.mk k s ks) (.slice A s.length c) (.slice K ks.length ck) ∧ fp.Nodup ∧ (∀ b, b ∈ fp → w.heap.size ≤ b) ∧ Below w.heap.size w w' := by
  obtain ⟨u1, u2, fp, rfl, ho, hn, hf, hb⟩ := h
  obtain ⟨L, fk, _, _, hs, hk⟩ := ho.parts
  obtain ⟨A, c, rfl, _⟩ := hs.sps
  obtain ⟨K, ck, rfl, _, _⟩ := own_row hk.hk
  exact ⟨A, c, K, ck, fp, rfl, ho, hn, hf, hb⟩

set_option maxHeartbeats 2000000 in
theorem sNormNot_c (r : Rex) (v1 v2 : Value) (w : World) (lo : Nat) (h : RexV w lo r (.int .i64 r.kind) v1 v2) (hsz : r.size ≤ 1048576) :
    Calls Try.prog 27 #[.agg #[.int .i64 r.kind, v1, v2]] w (CopyPost (norm60 nNot r).kind (norm60 nNot r).set (norm60 nNot r).kids w) := by
  obtain ⟨A, c, K, ck, _, rfl, rfl, _, _⟩ := h.parts
  obtain ⟨wa, hwa⟩ : ∃ x, x = (w.alloc (.cells #[.int .i64 r.kind, .slice A r.set.length c, .slice K r.kids.length ck] TRx)).alloc (.cells #[.int .i64 0, nilS, nilS] TRx) := ⟨_, rfl⟩
  have hb : Below w.heap.size w wa := by rw [hwa]; exact below_alloc (below_alloc (Below.refl _ _) _) _
  have m0 : Blk wa w.heap.size #[.int .i64 r.kind, .slice A r.set.length c, .slice K r.kids.length ck] TRx := by rw [hwa]; exact (blk_new w _ _).alloc _
  have m1 : Blk wa (w.heap.size + 1) #[.int .i64 0, nilS, nilS] TRx := by
    rw [hwa]
    have := blk_new (w.alloc (.cells #[.int .i64 r.kind, .slice A r.set.length c, .slice K r.kids.length ck] TRx)) #[.int .i64 0, nilS, nilS] TRx
    simpa using this
  have hz1 : wa.heap.size = w.heap.size + 2 := by rw [hwa]; simp
  have HZ := Lib.hid hz1
  clear hz1
  replace hwa := hwa.symm
  have HV := Lib.hid (h.under hb)
  have HB := Lib.hid hb
  have M0 := Lib.hid m0
  have M1 := Lib.hid m1
  have n0 : wa.cell? ⟨w.heap.size, 0, none⟩ = some (.int .i64 r.kind) := by rw [m0.cell]; rfl
  have n1 : wa.cell? ⟨w.heap.size, 1, none⟩ = some (.slice A r.set.length c) := by rw [m0.cell]; rfl
  have n2 : wa.cell? ⟨w.heap.size, 2, none⟩ = some (.slice K r.kids.length ck) := by rw [m0.cell]; rfl
  clear hb m0 m1 h
  go_enter Try.func27, Try.ntmps27
  go_wp2_with fail
  clear hwa
  refine (sDeep_c _ _ _ _ _ HV.out).mono ?_
  rintro e w1 ⟨rfl, b1⟩
  have M1a := Lib.hid (M1.out.below b1)
  have M0a := Lib.hid (M0.out.below b1)
  have HBa := Lib.hid (below_then HB.out b1)
  clear n0 n1 n2
  have n0 : w1.cell? ⟨w.heap.size, 0, none⟩ = some (.int .i64 r.kind) := by rw [M0a.out.cell]; rfl
  have n1 : w1.cell? ⟨w.heap.size, 1, none⟩ = some (.slice A r.set.length c) := by rw [M0a.out.cell]; rfl
  have n2 : w1.cell? ⟨w.heap.size, 2, none⟩ = some (.slice K r.kids.length ck) := by rw [M0a.out.cell]; rfl
  have HVa := Lib.hid (HV.out.under b1)
  have HZa := Lib.hid b1.size
  clear b1
  by_cases hf : formed 60 r = true
  · have E : Hid (norm60 nNot r = nNot r) := by show _ = _; rw [norm60, if_pos hf]
    have HFO := Lib.hid hf
    rw [hf]
    clear hf
    go_wp2_with fail
    refine (sCopy_c r _ _ _ _ HVa.out (by omega)).mono ?_
    rintro e w2 hc
    obtain ⟨A2, c2, K2, k2, fp2, rfl, ho2, _, hf2, b2⟩ := hc.own
    rw [← Rex.eta] at ho2
    have HO2 := Lib.hid ho2.rex0
    have M1c := Lib.hid (M1a.out.below b2)
    have HBc := Lib.hid (below_then HBa.out b2)
    have HZc := Lib.hid (Nat.le_trans HZa.out b2.size)
    clear ho2 hf2 b2 hc n0 n1 n2
    go_wp2_with fail
    refine (sNot_c r 60 _ _ _ _ HFO.out HO2.out.rexp (fun b h => h)).mono ?_
    rintro e w3 ⟨A3, c3, K3, k3, rfl, hv3, b3⟩
    have HV3 := Lib.hid hv3.rexv
    have M1d := Lib.hid (M1c.out.below b3)
    have HBd := Lib.hid (below_then HBc.out b3)
    have HZd := Lib.hid (Nat.le_trans HZc.out b3.size)
    have hs3 := nNot_size r
    clear hv3 b3 HO2
    go_wp2_with fail
    refine (sCopy_c (nNot r) _ _ _ _ HV3.out (by omega)).mono ?_
    rintro e w4 hc
    obtain ⟨A4, c4, K4, k4, fp4, rfl, ho4, hn4, hf4, b4⟩ := hc.own
    rw [← Rex.eta] at ho4
    have HO4 := Lib.hid ho4
    have HN4 := Lib.hid hn4
    have HF4 := Lib.hid hf4
    have M1e := Lib.hid (M1d.out.below b4)
    have HBe := Lib.hid (below_then HBd.out b4)
    clear ho4 hn4 hf4 b4 hc hs3
    go_wp2_with (refine ev_store (o := ⟨none, .store _ (.tmp 2) _, _, _, _, _⟩) rfl rfl TRx (.tmp 2) (.tmp 10) rfl (w.heap.size + 1) 0 rfl [.int .i64 (nNot r).kind, .slice A4 (nNot r).set.length c4, .slice K4 (nNot r).kids.length k4] rfl _ TRx M1e.out (sizeRx' _ _ _) (by show 0 + 3 ≤ 3; omega) (three_one _ _ _ _ _ _ _) ?_; intro w5 hX5 hg5; have HX5 : Hid (Blk w5 (w.heap.size + 1) ([.int .i64 (nNot r).kind, .slice A4 (nNot r).set.length c4, .slice K4 (nNot r).kids.length k4]).toArray TRx) := hX5; have HG5 := Lib.hid hg5; clear hX5 hg5)
    refine bodyPost_ret (results_cell_row rfl _ _ (w.heap.size + 1) TRx _ (0, 0) _ rfl HX5.out.eq Try.underlying31 rfl (by rw [sizeRx]; rfl)) rfl ?_
    rw [E.out]
    exact own_fin HO4.out HN4.out HF4.out (by have h1 := HZ.out; have h2 := HZd.out; omega) (Nat.le_succ _) HBe.out HG5.out
  · have E : Hid (norm60 nNot r = noRex) := by show _ = _; rw [norm60, if_neg hf]
    have HFO : Hid (formed 60 r = false) := by show _ = _; simpa using hf
    rw [HFO.out]
    clear hf n0 n1 n2
    go_wp2_with (refine ev_store (o := ⟨none, .store _ (.tmp 2) _, _, _, _, _⟩) rfl rfl TRx (.tmp 2) (.tmp 6) rfl (w.heap.size + 1) 0 rfl [.int .i64 0, nilS, nilS] rfl _ TRx M1a.out (sizeRx' _ _ _) (by show 0 + 3 ≤ 3; omega) (three_one _ _ _ _ _ _ _) ?_; intro w5 hX5 hg5; have HX5 : Hid (Blk w5 (w.heap.size + 1) ([.int .i64 0, nilS, nilS]).toArray TRx) := hX5; have HG5 := Lib.hid hg5; clear hX5 hg5)
    refine bodyPost_ret (results_cell_row rfl _ _ (w.heap.size + 1) TRx _ (0, 0) _ rfl HX5.out.eq Try.underlying31 rfl (by rw [sizeRx]; rfl)) rfl ?_
    rw [E.out]
    exact own_fin (t := noRex) (OwnT.leaf _ 0) List.nodup_nil (fun b hb => absurd hb (List.not_mem_nil)) (Nat.lt_succ_self _) (Nat.le_succ _) HBa.out HG5.out
set_option maxHeartbeats 2000000 in
theorem sNormStar_c (r : Rex) (v1 v2 : Value) (w : World) (lo : Nat) (h : RexV w lo r (.int .i64 r.kind) v1 v2) (hsz : r.size ≤ 1048576) :
    Calls Try.prog 30 #[.agg #[.int .i64 r.kind, v1, v2]] w (CopyPost (norm60 nStar r).kind (norm60 nStar r).set (norm60 nStar r).kids w) := by
  obtain ⟨A, c, K, ck, _, rfl, rfl, _, _⟩ := h.parts
  obtain ⟨wa, hwa⟩ : ∃ x, x = (w.alloc (.cells #[.int .i64 r.kind, .slice A r.set.length c, .slice K r.kids.length ck] TRx)).alloc (.cells #[.int .i64 0, nilS, nilS] TRx) := ⟨_, rfl⟩
  have hb : Below w.heap.size w wa := by rw [hwa]; exact below_alloc (below_alloc (Below.refl _ _) _) _
  have m0 : Blk wa w.heap.size #[.int .i64 r.kind, .slice A r.set.length c, .slice K r.kids.length ck] TRx := by rw [hwa]; exact (blk_new w _ _).alloc _
  have m1 : Blk wa (w.heap.size + 1) #[.int .i64 0, nilS, nilS] TRx := by
    rw [hwa]
    have := blk_new (w.alloc (.cells #[.int .i64 r.kind, .slice A r.set.length c, .slice K r.kids.length ck] TRx)) #[.int .i64 0, nilS, nilS] TRx
    simpa using this
  have hz1 : wa.heap.size = w.heap.size + 2 := by rw [hwa]; simp
  have HZ := Lib.hid hz1
  clear hz1
  replace hwa := hwa.symm
  have HV := Lib.hid (h.under hb)
  have HB := Lib.hid hb
  have M0 := Lib.hid m0
  have M1 := Lib.hid m1
  have n0 : wa.cell? ⟨w.heap.size, 0, none⟩ = some (.int .i64 r.kind) := by rw [m0.cell]; rfl
  have n1 : wa.cell? ⟨w.heap.size, 1, none⟩ = some (.slice A r.set.length c) := by rw [m0.cell]; rfl
  have n2 : wa.cell? ⟨w.heap.size, 2, none⟩ = some (.slice K r.kids.length ck) := by rw [m0.cell]; rfl
  clear hb m0 m1 h
  go_enter Try.func30, Try.ntmps30
  go_wp2_with fail
  clear hwa
  refine (sDeep_c _ _ _ _ _ HV.out).mono ?_
  rintro e w1 ⟨rfl, b1⟩
  have M1a := Lib.hid (M1.out.below b1)
  have M0a := Lib.hid (M0.out.below b1)
  have HBa := Lib.hid (below_then HB.out b1)
  clear n0 n1 n2
  have n0 : w1.cell? ⟨w.heap.size, 0, none⟩ = some (.int .i64 r.kind) := by rw [M0a.out.cell]; rfl
  have n1 : w1.cell? ⟨w.heap.size, 1, none⟩ = some (.slice A r.set.length c) := by rw [M0a.out.cell]; rfl
  have n2 : w1.cell? ⟨w.heap.size, 2, none⟩ = some (.slice K r.kids.length ck) := by rw [M0a.out.cell]; rfl
  have HVa := Lib.hid (HV.out.under b1)
  have HZa := Lib.hid b1.size
  clear b1
  by_cases hf : formed 60 r = true
  · have E : Hid (norm60 nStar r = nStar r) := by show _ = _; rw [norm60, if_pos hf]
    have HFO := Lib.hid hf
    rw [hf]
    clear hf
    go_wp2_with fail
    refine (sCopy_c r _ _ _ _ HVa.out (by omega)).mono ?_
    rintro e w2 hc
    obtain ⟨A2, c2, K2, k2, fp2, rfl, ho2, _, hf2, b2⟩ := hc.own
    rw [← Rex.eta] at ho2
    have HO2 := Lib.hid ho2.rex0
    have M1c := Lib.hid (M1a.out.below b2)
    have HBc := Lib.hid (below_then HBa.out b2)
    have HZc := Lib.hid (Nat.le_trans HZa.out b2.size)
    clear ho2 hf2 b2 hc n0 n1 n2
    go_wp2_with fail
    refine (sStar_c r _ _ _ _ HO2.out.rexp (fun b h => h)).mono ?_
    rintro e w3 ⟨A3, c3, K3, k3, rfl, hv3, b3⟩
    have HV3 := Lib.hid hv3.rexv
    have M1d := Lib.hid (M1c.out.below b3)
    have HBd := Lib.hid (below_then HBc.out b3)
    have HZd := Lib.hid (Nat.le_trans HZc.out b3.size)
    have hs3 := nStar_size r
    clear hv3 b3 HO2
    go_wp2_with fail
    refine (sCopy_c (nStar r) _ _ _ _ HV3.out (by omega)).mono ?_
    rintro e w4 hc
    obtain ⟨A4, c4, K4, k4, fp4, rfl, ho4, hn4, hf4, b4⟩ := hc.own
    rw [← Rex.eta] at ho4
    have HO4 := Lib.hid ho4
    have HN4 := Lib.hid hn4
    have HF4 := Lib.hid hf4
    have M1e := Lib.hid (M1d.out.below b4)
    have HBe := Lib.hid (below_then HBd.out b4)
    clear ho4 hn4 hf4 b4 hc hs3
    go_wp2_with (refine ev_store (o := ⟨none, .store _ (.tmp 2) _, _, _, _, _⟩) rfl rfl TRx (.tmp 2) (.tmp 10) rfl (w.heap.size + 1) 0 rfl [.int .i64 (nStar r).kind, .slice A4 (nStar r).set.length c4, .slice K4 (nStar r).kids.length k4] rfl _ TRx M1e.out (sizeRx' _ _ _) (by show 0 + 3 ≤ 3; omega) (three_one _ _ _ _ _ _ _) ?_; intro w5 hX5 hg5; have HX5 : Hid (Blk w5 (w.heap.size + 1) ([.int .i64 (nStar r).kind, .slice A4 (nStar r).set.length c4, .slice K4 (nStar r).kids.length k4]).toArray TRx) := hX5; have HG5 := Lib.hid hg5; clear hX5 hg5)
    refine bodyPost_ret (results_cell_row rfl _ _ (w.heap.size + 1) TRx _ (0, 0) _ rfl HX5.out.eq Try.underlying31 rfl (by rw [sizeRx]; rfl)) rfl ?_
    rw [E.out]
    exact own_fin HO4.out HN4.out HF4.out (by have h1 := HZ.out; have h2 := HZd.out; omega) (Nat.le_succ _) HBe.out HG5.out
  · have E : Hid (norm60 nStar r = noRex) := by show _ = _; rw [norm60, if_neg hf]
    have HFO : Hid (formed 60 r = false) := by show _ = _; simpa using hf
    rw [HFO.out]
    clear hf n0 n1 n2
    go_wp2_with (refine ev_store (o := ⟨none, .store _ (.tmp 2) _, _, _, _, _⟩) rfl rfl TRx (.tmp 2) (.tmp 6) rfl (w.heap.size + 1) 0 rfl [.int .i64 0, nilS, nilS] rfl _ TRx M1a.out (sizeRx' _ _ _) (by show 0 + 3 ≤ 3; omega) (three_one _ _ _ _ _ _ _) ?_; intro w5 hX5 hg5; have HX5 : Hid (Blk w5 (w.heap.size + 1) ([.int .i64 0, nilS, nilS]).toArray TRx) := hX5; have HG5 := Lib.hid hg5; clear hX5 hg5)
    refine bodyPost_ret (results_cell_row rfl _ _ (w.heap.size + 1) TRx _ (0, 0) _ rfl HX5.out.eq Try.underlying31 rfl (by rw [sizeRx]; rfl)) rfl ?_
    rw [E.out]
    exact own_fin (t := noRex) (OwnT.leaf _ 0) List.nodup_nil (fun b hb => absurd hb (List.not_mem_nil)) (Nat.lt_succ_self _) (Nat.le_succ _) HBa.out HG5.out

set_option maxHeartbeats 2000000 in
theorem iNormNot_c (r : Rex) (v1 v2 : Value) (w : World) (lo : Nat) (h : RexV w lo r (.int .i64 r.kind) v1 v2) (hsz : r.size ≤ 1048576) :
    Calls Try.prog 28 #[.agg #[.int .i64 r.kind, v1, v2]] w (CopyPost (norm60 nNot r).kind (norm60 nNot r).set (norm60 nNot r).kids w) := by
  obtain ⟨A, c, K, ck, _, rfl, rfl, _, _⟩ := h.parts
  obtain ⟨wa, hwa⟩ : ∃ x, x = (w.alloc (.cells #[.int .i64 r.kind, .slice A r.set.length c, .slice K r.kids.length ck] TRx)).alloc (.cells #[.int .i64 0, nilS, nilS] TRx) := ⟨_, rfl⟩
  have hb : Below w.heap.size w wa := by rw [hwa]; exact below_alloc (below_alloc (Below.refl _ _) _) _
  have m0 : Blk wa w.heap.size #[.int .i64 r.kind, .slice A r.set.length c, .slice K r.kids.length ck] TRx := by rw [hwa]; exact (blk_new w _ _).alloc _
  have m1 : Blk wa (w.heap.size + 1) #[.int .i64 0, nilS, nilS] TRx := by
    rw [hwa]
    have := blk_new (w.alloc (.cells #[.int .i64 r.kind, .slice A r.set.length c, .slice K r.kids.length ck] TRx)) #[.int .i64 0, nilS, nilS] TRx
    simpa using this
  have hz1 : wa.heap.size = w.heap.size + 2 := by rw [hwa]; simp
  have HZ := Lib.hid hz1
  clear hz1
  replace hwa := hwa.symm
  have HV := Lib.hid (h.under hb)
  have HB := Lib.hid hb
  have M0 := Lib.hid m0
  have M1 := Lib.hid m1
  have n0 : wa.cell? ⟨w.heap.size, 0, none⟩ = some (.int .i64 r.kind) := by rw [m0.cell]; rfl
  have n1 : wa.cell? ⟨w.heap.size, 1, none⟩ = some (.slice A r.set.length c) := by rw [m0.cell]; rfl
  have n2 : wa.cell? ⟨w.heap.size, 2, none⟩ = some (.slice K r.kids.length ck) := by rw [m0.cell]; rfl
  clear hb m0 m1 h
  obtain ⟨wb, hwb⟩ : ∃ x, x = wa.alloc (.cells #[.int .i64 r.kind, .slice A r.set.length c, .slice K r.kids.length ck] TRx) := ⟨_, rfl⟩
  have hbb : Below wa.heap.size wa wb := by rw [hwb]; exact below_alloc (Below.refl _ _) _
  have mb : Blk wb wa.heap.size #[.int .i64 r.kind, .slice A r.set.length c, .slice K r.kids.length ck] TRx := by rw [hwb]; exact blk_new _ _ _
  have HK1 := Lib.hid (KidsP.mk1 (p := fun b => b < wb.heap.size) mb mb.lt (HV.out.under hbb).rexp)
  replace hwb := hwb.symm
  go_enter Try.func28, Try.ntmps28
  go_wp2_with fail
  clear hwa hwb
  refine (iGiven_c [r] _ _ _ _ HK1.out.kids).mono ?_
  rintro e w1 ⟨rfl, b1'⟩
  have b1 : Below wa.heap.size wa w1 := below_then hbb b1'
  have M1a := Lib.hid (M1.out.below b1)
  have M0a := Lib.hid (M0.out.below b1)
  have HBa := Lib.hid (below_then HB.out b1)
  clear n0 n1 n2
  have n0 : w1.cell? ⟨w.heap.size, 0, none⟩ = some (.int .i64 r.kind) := by rw [M0a.out.cell]; rfl
  have n1 : w1.cell? ⟨w.heap.size, 1, none⟩ = some (.slice A r.set.length c) := by rw [M0a.out.cell]; rfl
  have n2 : w1.cell? ⟨w.heap.size, 2, none⟩ = some (.slice K r.kids.length ck) := by rw [M0a.out.cell]; rfl
  have HVa := Lib.hid (HV.out.under b1)
  have HZa := Lib.hid b1.size
  simp only [List.all_cons, List.all_nil, Bool.and_true]
  clear b1 b1' hbb mb HK1
  by_cases hf : formed 60 r = true
  · have E : Hid (norm60 nNot r = nNot r) := by show _ = _; rw [norm60, if_pos hf]
    have HFO := Lib.hid hf
    rw [hf]
    clear hf
    go_wp2_with fail
    refine (iNot_c r 60 _ _ _ _ HFO.out HVa.out.rexp (fun b h => h)).mono ?_
    rintro e w3 ⟨A3, c3, K3, k3, rfl, hv3, b3⟩
    have HV3 := Lib.hid hv3.rexv
    have M1d := Lib.hid (M1a.out.below b3)
    have HBd := Lib.hid (below_then HBa.out b3)
    have HZd := Lib.hid (Nat.le_trans HZa.out b3.size)
    have hs3 := nNot_size r
    clear hv3 b3 n0 n1 n2
    go_wp2_with fail
    refine (rexCopy_c (nNot r) _ _ _ _ HV3.out (by omega)).mono ?_
    rintro e w4 hc
    obtain ⟨A4, c4, K4, k4, fp4, rfl, ho4, hn4, hf4, b4⟩ := hc.own
    rw [← Rex.eta] at ho4
    have HO4 := Lib.hid ho4
    have HN4 := Lib.hid hn4
    have HF4 := Lib.hid hf4
    have M1e := Lib.hid (M1d.out.below b4)
    have HBe := Lib.hid (below_then HBd.out b4)
    clear ho4 hn4 hf4 b4 hc hs3
    go_wp2_with (refine ev_store (o := ⟨none, .store _ (.tmp 2) _, _, _, _, _⟩) rfl rfl TRx (.tmp 2) (.tmp 10) rfl (w.heap.size + 1) 0 rfl [.int .i64 (nNot r).kind, .slice A4 (nNot r).set.length c4, .slice K4 (nNot r).kids.length k4] rfl _ TRx M1e.out (sizeRx' _ _ _) (by show 0 + 3 ≤ 3; omega) (three_one _ _ _ _ _ _ _) ?_; intro w5 hX5 hg5; have HX5 : Hid (Blk w5 (w.heap.size + 1) ([.int .i64 (nNot r).kind, .slice A4 (nNot r).set.length c4, .slice K4 (nNot r).kids.length k4]).toArray TRx) := hX5; have HG5 := Lib.hid hg5; clear hX5 hg5)
    refine bodyPost_ret (results_cell_row rfl _ _ (w.heap.size + 1) TRx _ (0, 0) _ rfl HX5.out.eq Try.underlying31 rfl (by rw [sizeRx]; rfl)) rfl ?_
    rw [E.out]
    exact own_fin HO4.out HN4.out HF4.out (by have h1 := HZ.out; have h2 := HZd.out; omega) (Nat.le_succ _) HBe.out HG5.out
  · have E : Hid (norm60 nNot r = noRex) := by show _ = _; rw [norm60, if_neg hf]
    have HFO : Hid (formed 60 r = false) := by show _ = _; simpa using hf
    rw [HFO.out]
    clear hf n0 n1 n2
    go_wp2_with (refine ev_store (o := ⟨none, .store _ (.tmp 2) _, _, _, _, _⟩) rfl rfl TRx (.tmp 2) (.tmp 7) rfl (w.heap.size + 1) 0 rfl [.int .i64 0, nilS, nilS] rfl _ TRx M1a.out (sizeRx' _ _ _) (by show 0 + 3 ≤ 3; omega) (three_one _ _ _ _ _ _ _) ?_; intro w5 hX5 hg5; have HX5 : Hid (Blk w5 (w.heap.size + 1) ([.int .i64 0, nilS, nilS]).toArray TRx) := hX5; have HG5 := Lib.hid hg5; clear hX5 hg5)
    refine bodyPost_ret (results_cell_row rfl _ _ (w.heap.size + 1) TRx _ (0, 0) _ rfl HX5.out.eq Try.underlying31 rfl (by rw [sizeRx]; rfl)) rfl ?_
    rw [E.out]
    exact own_fin (t := noRex) (OwnT.leaf _ 0) List.nodup_nil (fun b hb => absurd hb (List.not_mem_nil)) (Nat.lt_succ_self _) (Nat.le_succ _) HBa.out HG5.out
set_option maxHeartbeats 2000000 in
theorem iNormStar_c (r : Rex) (v1 v2 : Value) (w : World) (lo : Nat) (h : RexV w lo r (.int .i64 r.kind) v1 v2) (hsz : r.size ≤ 1048576) :
    Calls Try.prog 31 #[.agg #[.int .i64 r.kind, v1, v2]] w (CopyPost (norm60 nStar r).kind (norm60 nStar r).set (norm60 nStar r).kids w) := by
  obtain ⟨A, c, K, ck, _, rfl, rfl, _, _⟩ := h.parts
  obtain ⟨wa, hwa⟩ : ∃ x, x = (w.alloc (.cells #[.int .i64 r.kind, .slice A r.set.length c, .slice K r.kids.length ck] TRx)).alloc (.cells #[.int .i64 0, nilS, nilS] TRx) := ⟨_, rfl⟩
  have hb : Below w.heap.size w wa := by rw [hwa]; exact below_alloc (below_alloc (Below.refl _ _) _) _
  have m0 : Blk wa w.heap.size #[.int .i64 r.kind, .slice A r.set.length c, .slice K r.kids.length ck] TRx := by rw [hwa]; exact (blk_new w _ _).alloc _
  have m1 : Blk wa (w.heap.size + 1) #[.int .i64 0, nilS, nilS] TRx := by
    rw [hwa]
    have := blk_new (w.alloc (.cells #[.int .i64 r.kind, .slice A r.set.length c, .slice K r.kids.length ck] TRx)) #[.int .i64 0, nilS, nilS] TRx
    simpa using this
  have hz1 : wa.heap.size = w.heap.size + 2 := by rw [hwa]; simp
  have HZ := Lib.hid hz1
  clear hz1
  replace hwa := hwa.symm
  have HV := Lib.hid (h.under hb)
  have HB := Lib.hid hb
  have M0 := Lib.hid m0
  have M1 := Lib.hid m1
  have n0 : wa.cell? ⟨w.heap.size, 0, none⟩ = some (.int .i64 r.kind) := by rw [m0.cell]; rfl
  have n1 : wa.cell? ⟨w.heap.size, 1, none⟩ = some (.slice A r.set.length c) := by rw [m0.cell]; rfl
  have n2 : wa.cell? ⟨w.heap.size, 2, none⟩ = some (.slice K r.kids.length ck) := by rw [m0.cell]; rfl
  clear hb m0 m1 h
  obtain ⟨wb, hwb⟩ : ∃ x, x = wa.alloc (.cells #[.int .i64 r.kind, .slice A r.set.length c, .slice K r.kids.length ck] TRx) := ⟨_, rfl⟩
  have hbb : Below wa.heap.size wa wb := by rw [hwb]; exact below_alloc (Below.refl _ _) _
  have mb : Blk wb wa.heap.size #[.int .i64 r.kind, .slice A r.set.length c, .slice K r.kids.length ck] TRx := by rw [hwb]; exact blk_new _ _ _
  have HK1 := Lib.hid (KidsP.mk1 (p := fun b => b < wb.heap.size) mb mb.lt (HV.out.under hbb).rexp)
  replace hwb := hwb.symm
  go_enter Try.func31, Try.ntmps31
  go_wp2_with fail
  clear hwa hwb
  refine (iGiven_c [r] _ _ _ _ HK1.out.kids).mono ?_
  rintro e w1 ⟨rfl, b1'⟩
  have b1 : Below wa.heap.size wa w1 := below_then hbb b1'
  have M1a := Lib.hid (M1.out.below b1)
  have M0a := Lib.hid (M0.out.below b1)
  have HBa := Lib.hid (below_then HB.out b1)
  clear n0 n1 n2
  have n0 : w1.cell? ⟨w.heap.size, 0, none⟩ = some (.int .i64 r.kind) := by rw [M0a.out.cell]; rfl
  have n1 : w1.cell? ⟨w.heap.size, 1, none⟩ = some (.slice A r.set.length c) := by rw [M0a.out.cell]; rfl
  have n2 : w1.cell? ⟨w.heap.size, 2, none⟩ = some (.slice K r.kids.length ck) := by rw [M0a.out.cell]; rfl
  have HVa := Lib.hid (HV.out.under b1)
  have HZa := Lib.hid b1.size
  simp only [List.all_cons, List.all_nil, Bool.and_true]
  clear b1 b1' hbb mb HK1
  by_cases hf : formed 60 r = true
  · have E : Hid (norm60 nStar r = nStar r) := by show _ = _; rw [norm60, if_pos hf]
    have HFO := Lib.hid hf
    rw [hf]
    clear hf
    go_wp2_with fail
    refine (iStar_c r _ _ _ _ HVa.out.rexp (fun b h => h)).mono ?_
    rintro e w3 ⟨A3, c3, K3, k3, rfl, hv3, b3⟩
    have HV3 := Lib.hid hv3.rexv
    have M1d := Lib.hid (M1a.out.below b3)
    have HBd := Lib.hid (below_then HBa.out b3)
    have HZd := Lib.hid (Nat.le_trans HZa.out b3.size)
    have hs3 := nStar_size r
    clear hv3 b3 n0 n1 n2
    go_wp2_with fail
    refine (rexCopy_c (nStar r) _ _ _ _ HV3.out (by omega)).mono ?_
    rintro e w4 hc
    obtain ⟨A4, c4, K4, k4, fp4, rfl, ho4, hn4, hf4, b4⟩ := hc.own
    rw [← Rex.eta] at ho4
    have HO4 := Lib.hid ho4
    have HN4 := Lib.hid hn4
    have HF4 := Lib.hid hf4
    have M1e := Lib.hid (M1d.out.below b4)
    have HBe := Lib.hid (below_then HBd.out b4)
    clear ho4 hn4 hf4 b4 hc hs3
    go_wp2_with (refine ev_store (o := ⟨none, .store _ (.tmp 2) _, _, _, _, _⟩) rfl rfl TRx (.tmp 2) (.tmp 10) rfl (w.heap.size + 1) 0 rfl [.int .i64 (nStar r).kind, .slice A4 (nStar r).set.length c4, .slice K4 (nStar r).kids.length k4] rfl _ TRx M1e.out (sizeRx' _ _ _) (by show 0 + 3 ≤ 3; omega) (three_one _ _ _ _ _ _ _) ?_; intro w5 hX5 hg5; have HX5 : Hid (Blk w5 (w.heap.size + 1) ([.int .i64 (nStar r).kind, .slice A4 (nStar r).set.length c4, .slice K4 (nStar r).kids.length k4]).toArray TRx) := hX5; have HG5 := Lib.hid hg5; clear hX5 hg5)
    refine bodyPost_ret (results_cell_row rfl _ _ (w.heap.size + 1) TRx _ (0, 0) _ rfl HX5.out.eq Try.underlying31 rfl (by rw [sizeRx]; rfl)) rfl ?_
    rw [E.out]
    exact own_fin HO4.out HN4.out HF4.out (by have h1 := HZ.out; have h2 := HZd.out; omega) (Nat.le_succ _) HBe.out HG5.out
  · have E : Hid (norm60 nStar r = noRex) := by show _ = _; rw [norm60, if_neg hf]
    have HFO : Hid (formed 60 r = false) := by show _ = _; simpa using hf
    rw [HFO.out]
    clear hf n0 n1 n2
    go_wp2_with (refine ev_store (o := ⟨none, .store _ (.tmp 2) _, _, _, _, _⟩) rfl rfl TRx (.tmp 2) (.tmp 7) rfl (w.heap.size + 1) 0 rfl [.int .i64 0, nilS, nilS] rfl _ TRx M1a.out (sizeRx' _ _ _) (by show 0 + 3 ≤ 3; omega) (three_one _ _ _ _ _ _ _) ?_; intro w5 hX5 hg5; have HX5 : Hid (Blk w5 (w.heap.size + 1) ([.int .i64 0, nilS, nilS]).toArray TRx) := hX5; have HG5 := Lib.hid hg5; clear hX5 hg5)
    refine bodyPost_ret (results_cell_row rfl _ _ (w.heap.size + 1) TRx _ (0, 0) _ rfl HX5.out.eq Try.underlying31 rfl (by rw [sizeRx]; rfl)) rfl ?_
    rw [E.out]
    exact own_fin (t := noRex) (OwnT.leaf _ 0) List.nodup_nil (fun b hb => absurd hb (List.not_mem_nil)) (Nat.lt_succ_self _) (Nat.le_succ _) HBa.out HG5.out

end Go.Proofs.Ytbpinokbpdjmhaa
