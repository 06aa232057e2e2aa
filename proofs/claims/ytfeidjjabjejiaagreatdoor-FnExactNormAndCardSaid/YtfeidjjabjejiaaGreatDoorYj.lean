/- NormOr and NormAnd, of the program and of the reference. -/
import Derived.Test.YtfeidjjabjejiaaGreatDoorG22
namespace Go.Proofs.YtfeidjjabjejiaaGreatDoor
set_option linter.unusedSimpArgs false
set_option linter.unusedVariables false
set_option maxRecDepth 100000
open Go.RowKit

/-- of two that are right, of whatever size -/
def norm2 (f : Rex → Rex → Rex) (a b : Rex) : Rex := if formed 60 a = true ∧ formed 60 b = true then f a b else noRex
theorem norm2_size {f : Rex → Rex → Rex} (hf : ∀ a b, wf a → wf b → (f a b).size ≤ a.size + b.size + 130) (a b : Rex) : (norm2 f a b).size ≤ a.size + b.size + 130 := by
  unfold norm2
  split
  · rename_i h
    exact hf a b ⟨_, h.1⟩ ⟨_, h.2⟩
  · show (Rex.mk 0 [] []).size ≤ _; simp [Rex.size, sizeL]
theorem or_size (a b : Rex) (ha : wf a) (hb : wf b) : (nOr a b).size ≤ a.size + b.size + 130 := (nOr_fit ha hb).size
theorem and_size (a b : Rex) (ha : wf a) (hb : wf b) : (nAnd a b).size ≤ a.size + b.size + 130 := (nAnd_fit ha hb).size
theorem many_sz (r : Rex) : r.many ≤ r.size + 1 := many_le_size r
set_option maxHeartbeats 2000000 in
theorem iNormOrX_c (a b : Rex) (u1 u2 v1 v2 : Value) (w : World) (lo lo' : Nat) (h : RexV w lo a (.int .i64 a.kind) u1 u2) (h' : RexV w lo' b (.int .i64 b.kind) v1 v2) (hsz : a.size + b.size ≤ 1048576) (hpw : Pow10 w) :
    Calls Tryz.prog 20 #[.agg #[.int .i64 a.kind, u1, u2], .agg #[.int .i64 b.kind, v1, v2]] w (CopyPost (norm2 nOr a b).kind (norm2 nOr a b).set (norm2 nOr a b).kids w) := by
  obtain ⟨p, hpd⟩ : ∃ p : Nat → Prop, p = fun z => z < w.heap.size := ⟨_, rfl⟩
  have ha : RexP w p a (.int .i64 a.kind) u1 u2 := by rw [hpd]; exact h.rexp
  have hb : RexP w p b (.int .i64 b.kind) v1 v2 := by rw [hpd]; exact h'.rexp
  have hp : ∀ z, p z → z < w.heap.size := fun z hz => by rw [hpd] at hz; exact hz
  clear hpd h h'
  have HPW := Lib.hid hpw
  clear hpw
  obtain ⟨A, c, K, ck, _, rfl, rfl, _, _⟩ := ha.parts
  obtain ⟨B, d, K', dk, _, rfl, rfl, _, _⟩ := hb.parts
  obtain ⟨wa, hwa⟩ : ∃ x, x = ((w.alloc (.cells #[.int .i64 a.kind, .slice A a.set.length c, .slice K a.kids.length ck] TRx)).alloc (.cells #[.int .i64 b.kind, .slice B b.set.length d, .slice K' b.kids.length dk] TRx)).alloc (.cells #[.int .i64 0, nilS, nilS] TRx) := ⟨_, rfl⟩
  have hbw : Below w.heap.size w wa := by rw [hwa]; exact below_alloc (below_alloc (below_alloc (Below.refl _ _) _) _) _
  have hz1 : wa.heap.size = w.heap.size + 3 := by rw [hwa]; simp
  have MA : Hid (Blk wa w.heap.size #[.int .i64 a.kind, .slice A a.set.length c, .slice K a.kids.length ck] TRx) := by rw [hwa]; exact ((blk_new w _ _).alloc _).alloc _
  have MB : Hid (Blk wa (w.heap.size + 1) #[.int .i64 b.kind, .slice B b.set.length d, .slice K' b.kids.length dk] TRx) := by
    rw [hwa]
    have := (blk_new (w.alloc (.cells #[.int .i64 a.kind, .slice A a.set.length c, .slice K a.kids.length ck] TRx)) #[.int .i64 b.kind, .slice B b.set.length d, .slice K' b.kids.length dk] TRx).alloc (.cells #[.int .i64 0, nilS, nilS] TRx)
    rw [show (w.alloc (.cells #[.int .i64 a.kind, .slice A a.set.length c, .slice K a.kids.length ck] TRx)).heap.size = w.heap.size + 1 by simp] at this
    exact this
  have MR : Hid (Blk wa (w.heap.size + 2) #[.int .i64 0, nilS, nilS] TRx) := by
    rw [hwa]
    have := blk_new ((w.alloc (.cells #[.int .i64 a.kind, .slice A a.set.length c, .slice K a.kids.length ck] TRx)).alloc (.cells #[.int .i64 b.kind, .slice B b.set.length d, .slice K' b.kids.length dk] TRx)) #[.int .i64 0, nilS, nilS] TRx
    rw [show ((w.alloc (.cells #[.int .i64 a.kind, .slice A a.set.length c, .slice K a.kids.length ck] TRx)).alloc (.cells #[.int .i64 b.kind, .slice B b.set.length d, .slice K' b.kids.length dk] TRx)).heap.size = w.heap.size + 2 by simp] at this
    exact this
  have HZ := Lib.hid hz1
  replace hwa := hwa.symm
  have HA := Lib.hid (ha.under hbw)
  have HB := Lib.hid (hb.under hbw)
  have BW := Lib.hid hbw
  have HP := Lib.hid hp
  clear hbw hz1 ha hb hp
  have n0 : wa.cell? ⟨w.heap.size, 0, none⟩ = some (.int .i64 a.kind) := by rw [MA.out.cell]; rfl
  have n1 : wa.cell? ⟨w.heap.size, 1, none⟩ = some (.slice A a.set.length c) := by rw [MA.out.cell]; rfl
  have n2 : wa.cell? ⟨w.heap.size, 2, none⟩ = some (.slice K a.kids.length ck) := by rw [MA.out.cell]; rfl
  have m0 : wa.cell? ⟨w.heap.size + 1, 0, none⟩ = some (.int .i64 b.kind) := by rw [MB.out.cell]; rfl
  have m1 : wa.cell? ⟨w.heap.size + 1, 1, none⟩ = some (.slice B b.set.length d) := by rw [MB.out.cell]; rfl
  have m2 : wa.cell? ⟨w.heap.size + 1, 2, none⟩ = some (.slice K' b.kids.length dk) := by rw [MB.out.cell]; rfl
  have h1 := many_sz a
  have h2 := many_sz b
  obtain ⟨wb, hwb⟩ : ∃ x, x = wa.alloc (.cells #[.int .i64 a.kind, .slice A a.set.length c, .slice K a.kids.length ck, .int .i64 b.kind, .slice B b.set.length d, .slice K' b.kids.length dk] TRx) := ⟨_, rfl⟩
  have hbb : Below wa.heap.size wa wb := by rw [hwb]; exact below_alloc (Below.refl _ _) _
  have mb : Blk wb wa.heap.size #[.int .i64 a.kind, .slice A a.set.length c, .slice K a.kids.length ck, .int .i64 b.kind, .slice B b.set.length d, .slice K' b.kids.length dk] TRx := by rw [hwb]; exact blk_new _ _ _
  have HK1 := Lib.hid (KidsP.mk2 (p := fun b => b < wb.heap.size) mb mb.lt (HA.out.under hbb).rexv.rexp (HB.out.under hbb).rexv.rexp)
  replace hwb := hwb.symm
  go_enter Tryz.func20, Tryz.ntmps20
  go_wp2_with fail
  clear hwa hwb
  refine (iGiven_c [a, b] _ _ _ _ HK1.out.kids).mono ?_
  rintro e w1 ⟨rfl, b1'⟩
  have b1 : Below wa.heap.size wa w1 := below_then hbb b1'
  replace MA := Lib.hid (MA.out.below (b1))
  replace MB := Lib.hid (MB.out.below (b1))
  replace MR := Lib.hid (MR.out.below (b1))
  replace HA := Lib.hid (HA.out.under (b1))
  replace HB := Lib.hid (HB.out.under (b1))
  replace BW := Lib.hid (below_then BW.out (b1))
  clear n0 n1 n2 m0 m1 m2
  have n0 : w1.cell? ⟨w.heap.size, 0, none⟩ = some (.int .i64 a.kind) := by rw [MA.out.cell]; rfl
  have n1 : w1.cell? ⟨w.heap.size, 1, none⟩ = some (.slice A a.set.length c) := by rw [MA.out.cell]; rfl
  have n2 : w1.cell? ⟨w.heap.size, 2, none⟩ = some (.slice K a.kids.length ck) := by rw [MA.out.cell]; rfl
  have m0 : w1.cell? ⟨w.heap.size + 1, 0, none⟩ = some (.int .i64 b.kind) := by rw [MB.out.cell]; rfl
  have m1 : w1.cell? ⟨w.heap.size + 1, 1, none⟩ = some (.slice B b.set.length d) := by rw [MB.out.cell]; rfl
  have m2 : w1.cell? ⟨w.heap.size + 1, 2, none⟩ = some (.slice K' b.kids.length dk) := by rw [MB.out.cell]; rfl
  simp only [List.all_cons, List.all_nil, Bool.and_true]
  have hz5 := b1.size
  clear b1 b1' hbb mb HK1
  by_cases hf : formed 60 a = true ∧ formed 60 b = true
  · have E : Hid (norm2 nOr a b = nOr a b) := by show _ = _; unfold norm2; rw [if_pos hf]
    have hts := or_size a b ⟨_, hf.1⟩ ⟨_, hf.2⟩
    have IC : Hid (Calls Tryz.prog 67 #[.agg #[.int .i64 a.kind, .slice A a.set.length c, .slice K a.kids.length ck], .agg #[.int .i64 b.kind, .slice B b.set.length d, .slice K' b.kids.length dk]] w1 (RexPost (fun z => z < w1.heap.size) (nOr a b) w1)) := Lib.hid (iOr_c a b _ _ _ _ w1 _ ⟨_, hf.1⟩ ⟨_, hf.2⟩ HA.out.rexv.rexp HB.out.rexv.rexp (fun z hz => hz) (by omega) (by omega) (by omega) (HPW.out.below BW.out))
    rw [hf.1, hf.2, Bool.and_true]
    obtain ⟨T, hT⟩ : ∃ z, z = nOr a b := ⟨_, rfl⟩
    rw [← hT] at hts IC E
    have HTS : Hid (T.size ≤ 1073741824) := by show _ ≤ _; omega
    clear hf hT hts
    go_wp2_with (first
      | ((with_reducible refine IC.out.mono ?_); rintro e w3 ⟨A3, c3, K3, k3, rfl, hv3, b3⟩; have HV3 := Lib.hid hv3.rexv; have M1d := Lib.hid (MR.out.below b3); have HBd := Lib.hid (below_then BW.out b3); have HZd := Lib.hid (Nat.le_trans hz5 b3.size); clear hv3 b3)
      | (((with_reducible refine (iCopy_b T _ _ w3 _ HV3.out HTS.out).mono ?_); rintro e w4 hc; obtain ⟨A4, c4, K4, k4, fp4, rfl, ho4, hn4, hf4, b4⟩ := hc.own; rw [← Rex.eta] at ho4; have HO4 := Lib.hid ho4; have HN4 := Lib.hid hn4; have HF4 := Lib.hid hf4; have M1e := Lib.hid (M1d.out.below b4); have HBe := Lib.hid (below_then HBd.out b4); clear ho4 hn4 hf4 b4 hc))
      | ((with_reducible refine at_st 4 14 ?_); refine ev_store (o := ⟨none, .store _ (.tmp 4) _, _, _, _, _⟩) rfl rfl TRx (.tmp 4) (.tmp 14) rfl (w.heap.size + 2) 0 rfl [.int .i64 T.kind, .slice A4 T.set.length c4, .slice K4 T.kids.length k4] rfl _ TRx M1e.out (sizeRx' _ _ _) (by show 0 + 3 ≤ 3; omega) (three_one _ _ _ _ _ _ _) ?_; intro w5 hX5 hg5; have HX5 : Hid (Blk w5 (w.heap.size + 2) ([.int .i64 T.kind, .slice A4 T.set.length c4, .slice K4 T.kids.length k4]).toArray TRx) := hX5; have HG5 := Lib.hid hg5; clear hX5 hg5)
      | fail)
    refine bodyPost_ret (results_cell_row rfl _ _ (w.heap.size + 2) TRx _ (0, 0) _ rfl HX5.out.eq Tryz.underlying26 rfl (by rw [sizeRx]; rfl)) rfl ?_
    rw [E.out]
    exact own_fin HO4.out HN4.out HF4.out (by have h1 := HZ.out; have h2 := HZd.out; omega) (by omega) HBe.out HG5.out
  · have e1 : (formed 60 a && formed 60 b) = false := by
      cases h1 : formed 60 a
      · rfl
      · cases h2 : formed 60 b
        · rfl
        · exact absurd ⟨h1, h2⟩ hf
    rw [e1]
    clear n0 n1 n2 m0 m1 m2
    have E : Hid (norm2 nOr a b = noRex) := by show _ = _; unfold norm2; rw [if_neg hf]
    go_wp2_with ((with_reducible refine at_st 4 10 ?_); refine ev_store (o := ⟨none, .store _ (.tmp 4) _, _, _, _, _⟩) rfl rfl TRx (.tmp 4) (.tmp 10) rfl (w.heap.size + 2) 0 rfl [.int .i64 0, nilS, nilS] rfl _ TRx MR.out (sizeRx' _ _ _) (by show 0 + 3 ≤ 3; omega) (three_one _ _ _ _ _ _ _) ?_; intro w5 hX5 hg5; have HX5 : Hid (Blk w5 (w.heap.size + 2) ([.int .i64 0, nilS, nilS]).toArray TRx) := hX5; have HG5 := Lib.hid hg5; clear hX5 hg5)
    refine bodyPost_ret (results_cell_row rfl _ _ (w.heap.size + 2) TRx _ (0, 0) _ rfl HX5.out.eq Tryz.underlying26 rfl (by rw [sizeRx]; rfl)) rfl ?_
    rw [E.out]
    exact own_fin (t := noRex) (OwnT.leaf _ 0) List.nodup_nil (fun b hb => absurd hb (List.not_mem_nil)) (Nat.lt_succ_self _) (by omega) BW.out HG5.out
set_option maxHeartbeats 2000000 in
theorem iNormAndX_c (a b : Rex) (u1 u2 v1 v2 : Value) (w : World) (lo lo' : Nat) (h : RexV w lo a (.int .i64 a.kind) u1 u2) (h' : RexV w lo' b (.int .i64 b.kind) v1 v2) (hsz : a.size + b.size ≤ 1048576) (hpw : Pow10 w) :
    Calls Tryz.prog 43 #[.agg #[.int .i64 a.kind, u1, u2], .agg #[.int .i64 b.kind, v1, v2]] w (CopyPost (norm2 nAnd a b).kind (norm2 nAnd a b).set (norm2 nAnd a b).kids w) := by
  obtain ⟨p, hpd⟩ : ∃ p : Nat → Prop, p = fun z => z < w.heap.size := ⟨_, rfl⟩
  have ha : RexP w p a (.int .i64 a.kind) u1 u2 := by rw [hpd]; exact h.rexp
  have hb : RexP w p b (.int .i64 b.kind) v1 v2 := by rw [hpd]; exact h'.rexp
  have hp : ∀ z, p z → z < w.heap.size := fun z hz => by rw [hpd] at hz; exact hz
  clear hpd h h'
  have HPW := Lib.hid hpw
  clear hpw
  obtain ⟨A, c, K, ck, _, rfl, rfl, _, _⟩ := ha.parts
  obtain ⟨B, d, K', dk, _, rfl, rfl, _, _⟩ := hb.parts
  obtain ⟨wa, hwa⟩ : ∃ x, x = ((w.alloc (.cells #[.int .i64 a.kind, .slice A a.set.length c, .slice K a.kids.length ck] TRx)).alloc (.cells #[.int .i64 b.kind, .slice B b.set.length d, .slice K' b.kids.length dk] TRx)).alloc (.cells #[.int .i64 0, nilS, nilS] TRx) := ⟨_, rfl⟩
  have hbw : Below w.heap.size w wa := by rw [hwa]; exact below_alloc (below_alloc (below_alloc (Below.refl _ _) _) _) _
  have hz1 : wa.heap.size = w.heap.size + 3 := by rw [hwa]; simp
  have MA : Hid (Blk wa w.heap.size #[.int .i64 a.kind, .slice A a.set.length c, .slice K a.kids.length ck] TRx) := by rw [hwa]; exact ((blk_new w _ _).alloc _).alloc _
  have MB : Hid (Blk wa (w.heap.size + 1) #[.int .i64 b.kind, .slice B b.set.length d, .slice K' b.kids.length dk] TRx) := by
    rw [hwa]
    have := (blk_new (w.alloc (.cells #[.int .i64 a.kind, .slice A a.set.length c, .slice K a.kids.length ck] TRx)) #[.int .i64 b.kind, .slice B b.set.length d, .slice K' b.kids.length dk] TRx).alloc (.cells #[.int .i64 0, nilS, nilS] TRx)
    rw [show (w.alloc (.cells #[.int .i64 a.kind, .slice A a.set.length c, .slice K a.kids.length ck] TRx)).heap.size = w.heap.size + 1 by simp] at this
    exact this
  have MR : Hid (Blk wa (w.heap.size + 2) #[.int .i64 0, nilS, nilS] TRx) := by
    rw [hwa]
    have := blk_new ((w.alloc (.cells #[.int .i64 a.kind, .slice A a.set.length c, .slice K a.kids.length ck] TRx)).alloc (.cells #[.int .i64 b.kind, .slice B b.set.length d, .slice K' b.kids.length dk] TRx)) #[.int .i64 0, nilS, nilS] TRx
    rw [show ((w.alloc (.cells #[.int .i64 a.kind, .slice A a.set.length c, .slice K a.kids.length ck] TRx)).alloc (.cells #[.int .i64 b.kind, .slice B b.set.length d, .slice K' b.kids.length dk] TRx)).heap.size = w.heap.size + 2 by simp] at this
    exact this
  have HZ := Lib.hid hz1
  replace hwa := hwa.symm
  have HA := Lib.hid (ha.under hbw)
  have HB := Lib.hid (hb.under hbw)
  have BW := Lib.hid hbw
  have HP := Lib.hid hp
  clear hbw hz1 ha hb hp
  have n0 : wa.cell? ⟨w.heap.size, 0, none⟩ = some (.int .i64 a.kind) := by rw [MA.out.cell]; rfl
  have n1 : wa.cell? ⟨w.heap.size, 1, none⟩ = some (.slice A a.set.length c) := by rw [MA.out.cell]; rfl
  have n2 : wa.cell? ⟨w.heap.size, 2, none⟩ = some (.slice K a.kids.length ck) := by rw [MA.out.cell]; rfl
  have m0 : wa.cell? ⟨w.heap.size + 1, 0, none⟩ = some (.int .i64 b.kind) := by rw [MB.out.cell]; rfl
  have m1 : wa.cell? ⟨w.heap.size + 1, 1, none⟩ = some (.slice B b.set.length d) := by rw [MB.out.cell]; rfl
  have m2 : wa.cell? ⟨w.heap.size + 1, 2, none⟩ = some (.slice K' b.kids.length dk) := by rw [MB.out.cell]; rfl
  have h1 := many_sz a
  have h2 := many_sz b
  obtain ⟨wb, hwb⟩ : ∃ x, x = wa.alloc (.cells #[.int .i64 a.kind, .slice A a.set.length c, .slice K a.kids.length ck, .int .i64 b.kind, .slice B b.set.length d, .slice K' b.kids.length dk] TRx) := ⟨_, rfl⟩
  have hbb : Below wa.heap.size wa wb := by rw [hwb]; exact below_alloc (Below.refl _ _) _
  have mb : Blk wb wa.heap.size #[.int .i64 a.kind, .slice A a.set.length c, .slice K a.kids.length ck, .int .i64 b.kind, .slice B b.set.length d, .slice K' b.kids.length dk] TRx := by rw [hwb]; exact blk_new _ _ _
  have HK1 := Lib.hid (KidsP.mk2 (p := fun b => b < wb.heap.size) mb mb.lt (HA.out.under hbb).rexv.rexp (HB.out.under hbb).rexv.rexp)
  replace hwb := hwb.symm
  go_enter Tryz.func43, Tryz.ntmps43
  go_wp2_with fail
  clear hwa hwb
  refine (iGiven_c [a, b] _ _ _ _ HK1.out.kids).mono ?_
  rintro e w1 ⟨rfl, b1'⟩
  have b1 : Below wa.heap.size wa w1 := below_then hbb b1'
  replace MA := Lib.hid (MA.out.below (b1))
  replace MB := Lib.hid (MB.out.below (b1))
  replace MR := Lib.hid (MR.out.below (b1))
  replace HA := Lib.hid (HA.out.under (b1))
  replace HB := Lib.hid (HB.out.under (b1))
  replace BW := Lib.hid (below_then BW.out (b1))
  clear n0 n1 n2 m0 m1 m2
  have n0 : w1.cell? ⟨w.heap.size, 0, none⟩ = some (.int .i64 a.kind) := by rw [MA.out.cell]; rfl
  have n1 : w1.cell? ⟨w.heap.size, 1, none⟩ = some (.slice A a.set.length c) := by rw [MA.out.cell]; rfl
  have n2 : w1.cell? ⟨w.heap.size, 2, none⟩ = some (.slice K a.kids.length ck) := by rw [MA.out.cell]; rfl
  have m0 : w1.cell? ⟨w.heap.size + 1, 0, none⟩ = some (.int .i64 b.kind) := by rw [MB.out.cell]; rfl
  have m1 : w1.cell? ⟨w.heap.size + 1, 1, none⟩ = some (.slice B b.set.length d) := by rw [MB.out.cell]; rfl
  have m2 : w1.cell? ⟨w.heap.size + 1, 2, none⟩ = some (.slice K' b.kids.length dk) := by rw [MB.out.cell]; rfl
  simp only [List.all_cons, List.all_nil, Bool.and_true]
  have hz5 := b1.size
  clear b1 b1' hbb mb HK1
  by_cases hf : formed 60 a = true ∧ formed 60 b = true
  · have E : Hid (norm2 nAnd a b = nAnd a b) := by show _ = _; unfold norm2; rw [if_pos hf]
    have hts := and_size a b ⟨_, hf.1⟩ ⟨_, hf.2⟩
    have IC : Hid (Calls Tryz.prog 98 #[.agg #[.int .i64 a.kind, .slice A a.set.length c, .slice K a.kids.length ck], .agg #[.int .i64 b.kind, .slice B b.set.length d, .slice K' b.kids.length dk]] w1 (RexPost (fun z => z < w1.heap.size) (nAnd a b) w1)) := Lib.hid (iAnd_c a b _ _ _ _ w1 _ ⟨_, hf.1⟩ ⟨_, hf.2⟩ HA.out.rexv.rexp HB.out.rexv.rexp (fun z hz => hz) (by omega) (by omega) (by omega) (HPW.out.below BW.out))
    rw [hf.1, hf.2, Bool.and_true]
    obtain ⟨T, hT⟩ : ∃ z, z = nAnd a b := ⟨_, rfl⟩
    rw [← hT] at hts IC E
    have HTS : Hid (T.size ≤ 1073741824) := by show _ ≤ _; omega
    clear hf hT hts
    go_wp2_with (first
      | ((with_reducible refine IC.out.mono ?_); rintro e w3 ⟨A3, c3, K3, k3, rfl, hv3, b3⟩; have HV3 := Lib.hid hv3.rexv; have M1d := Lib.hid (MR.out.below b3); have HBd := Lib.hid (below_then BW.out b3); have HZd := Lib.hid (Nat.le_trans hz5 b3.size); clear hv3 b3)
      | (((with_reducible refine (iCopy_b T _ _ w3 _ HV3.out HTS.out).mono ?_); rintro e w4 hc; obtain ⟨A4, c4, K4, k4, fp4, rfl, ho4, hn4, hf4, b4⟩ := hc.own; rw [← Rex.eta] at ho4; have HO4 := Lib.hid ho4; have HN4 := Lib.hid hn4; have HF4 := Lib.hid hf4; have M1e := Lib.hid (M1d.out.below b4); have HBe := Lib.hid (below_then HBd.out b4); clear ho4 hn4 hf4 b4 hc))
      | ((with_reducible refine at_st 4 14 ?_); refine ev_store (o := ⟨none, .store _ (.tmp 4) _, _, _, _, _⟩) rfl rfl TRx (.tmp 4) (.tmp 14) rfl (w.heap.size + 2) 0 rfl [.int .i64 T.kind, .slice A4 T.set.length c4, .slice K4 T.kids.length k4] rfl _ TRx M1e.out (sizeRx' _ _ _) (by show 0 + 3 ≤ 3; omega) (three_one _ _ _ _ _ _ _) ?_; intro w5 hX5 hg5; have HX5 : Hid (Blk w5 (w.heap.size + 2) ([.int .i64 T.kind, .slice A4 T.set.length c4, .slice K4 T.kids.length k4]).toArray TRx) := hX5; have HG5 := Lib.hid hg5; clear hX5 hg5)
      | fail)
    refine bodyPost_ret (results_cell_row rfl _ _ (w.heap.size + 2) TRx _ (0, 0) _ rfl HX5.out.eq Tryz.underlying26 rfl (by rw [sizeRx]; rfl)) rfl ?_
    rw [E.out]
    exact own_fin HO4.out HN4.out HF4.out (by have h1 := HZ.out; have h2 := HZd.out; omega) (by omega) HBe.out HG5.out
  · have e1 : (formed 60 a && formed 60 b) = false := by
      cases h1 : formed 60 a
      · rfl
      · cases h2 : formed 60 b
        · rfl
        · exact absurd ⟨h1, h2⟩ hf
    rw [e1]
    clear n0 n1 n2 m0 m1 m2
    have E : Hid (norm2 nAnd a b = noRex) := by show _ = _; unfold norm2; rw [if_neg hf]
    go_wp2_with ((with_reducible refine at_st 4 10 ?_); refine ev_store (o := ⟨none, .store _ (.tmp 4) _, _, _, _, _⟩) rfl rfl TRx (.tmp 4) (.tmp 10) rfl (w.heap.size + 2) 0 rfl [.int .i64 0, nilS, nilS] rfl _ TRx MR.out (sizeRx' _ _ _) (by show 0 + 3 ≤ 3; omega) (three_one _ _ _ _ _ _ _) ?_; intro w5 hX5 hg5; have HX5 : Hid (Blk w5 (w.heap.size + 2) ([.int .i64 0, nilS, nilS]).toArray TRx) := hX5; have HG5 := Lib.hid hg5; clear hX5 hg5)
    refine bodyPost_ret (results_cell_row rfl _ _ (w.heap.size + 2) TRx _ (0, 0) _ rfl HX5.out.eq Tryz.underlying26 rfl (by rw [sizeRx]; rfl)) rfl ?_
    rw [E.out]
    exact own_fin (t := noRex) (OwnT.leaf _ 0) List.nodup_nil (fun b hb => absurd hb (List.not_mem_nil)) (Nat.lt_succ_self _) (by omega) BW.out HG5.out
set_option maxHeartbeats 2000000 in
theorem sNormOrX_c (a b : Rex) (u1 u2 v1 v2 : Value) (w : World) (lo lo' : Nat) (h : RexV w lo a (.int .i64 a.kind) u1 u2) (h' : RexV w lo' b (.int .i64 b.kind) v1 v2) (hsz : a.size + b.size ≤ 1048576) (hpw : Pow10 w) :
    Calls Tryz.prog 41 #[.agg #[.int .i64 a.kind, u1, u2], .agg #[.int .i64 b.kind, v1, v2]] w (CopyPost (norm2 nOr a b).kind (norm2 nOr a b).set (norm2 nOr a b).kids w) := by
  obtain ⟨p, hpd⟩ : ∃ p : Nat → Prop, p = fun z => z < w.heap.size := ⟨_, rfl⟩
  have ha : RexP w p a (.int .i64 a.kind) u1 u2 := by rw [hpd]; exact h.rexp
  have hb : RexP w p b (.int .i64 b.kind) v1 v2 := by rw [hpd]; exact h'.rexp
  have hp : ∀ z, p z → z < w.heap.size := fun z hz => by rw [hpd] at hz; exact hz
  clear hpd h h'
  have HPW := Lib.hid hpw
  clear hpw
  obtain ⟨A, c, K, ck, _, rfl, rfl, _, _⟩ := ha.parts
  obtain ⟨B, d, K', dk, _, rfl, rfl, _, _⟩ := hb.parts
  obtain ⟨wa, hwa⟩ : ∃ x, x = ((w.alloc (.cells #[.int .i64 a.kind, .slice A a.set.length c, .slice K a.kids.length ck] TRx)).alloc (.cells #[.int .i64 b.kind, .slice B b.set.length d, .slice K' b.kids.length dk] TRx)).alloc (.cells #[.int .i64 0, nilS, nilS] TRx) := ⟨_, rfl⟩
  have hbw : Below w.heap.size w wa := by rw [hwa]; exact below_alloc (below_alloc (below_alloc (Below.refl _ _) _) _) _
  have hz1 : wa.heap.size = w.heap.size + 3 := by rw [hwa]; simp
  have MA : Hid (Blk wa w.heap.size #[.int .i64 a.kind, .slice A a.set.length c, .slice K a.kids.length ck] TRx) := by rw [hwa]; exact ((blk_new w _ _).alloc _).alloc _
  have MB : Hid (Blk wa (w.heap.size + 1) #[.int .i64 b.kind, .slice B b.set.length d, .slice K' b.kids.length dk] TRx) := by
    rw [hwa]
    have := (blk_new (w.alloc (.cells #[.int .i64 a.kind, .slice A a.set.length c, .slice K a.kids.length ck] TRx)) #[.int .i64 b.kind, .slice B b.set.length d, .slice K' b.kids.length dk] TRx).alloc (.cells #[.int .i64 0, nilS, nilS] TRx)
    rw [show (w.alloc (.cells #[.int .i64 a.kind, .slice A a.set.length c, .slice K a.kids.length ck] TRx)).heap.size = w.heap.size + 1 by simp] at this
    exact this
  have MR : Hid (Blk wa (w.heap.size + 2) #[.int .i64 0, nilS, nilS] TRx) := by
    rw [hwa]
    have := blk_new ((w.alloc (.cells #[.int .i64 a.kind, .slice A a.set.length c, .slice K a.kids.length ck] TRx)).alloc (.cells #[.int .i64 b.kind, .slice B b.set.length d, .slice K' b.kids.length dk] TRx)) #[.int .i64 0, nilS, nilS] TRx
    rw [show ((w.alloc (.cells #[.int .i64 a.kind, .slice A a.set.length c, .slice K a.kids.length ck] TRx)).alloc (.cells #[.int .i64 b.kind, .slice B b.set.length d, .slice K' b.kids.length dk] TRx)).heap.size = w.heap.size + 2 by simp] at this
    exact this
  have HZ := Lib.hid hz1
  replace hwa := hwa.symm
  have HA := Lib.hid (ha.under hbw)
  have HB := Lib.hid (hb.under hbw)
  have BW := Lib.hid hbw
  have HP := Lib.hid hp
  clear hbw hz1 ha hb hp
  have n0 : wa.cell? ⟨w.heap.size, 0, none⟩ = some (.int .i64 a.kind) := by rw [MA.out.cell]; rfl
  have n1 : wa.cell? ⟨w.heap.size, 1, none⟩ = some (.slice A a.set.length c) := by rw [MA.out.cell]; rfl
  have n2 : wa.cell? ⟨w.heap.size, 2, none⟩ = some (.slice K a.kids.length ck) := by rw [MA.out.cell]; rfl
  have m0 : wa.cell? ⟨w.heap.size + 1, 0, none⟩ = some (.int .i64 b.kind) := by rw [MB.out.cell]; rfl
  have m1 : wa.cell? ⟨w.heap.size + 1, 1, none⟩ = some (.slice B b.set.length d) := by rw [MB.out.cell]; rfl
  have m2 : wa.cell? ⟨w.heap.size + 1, 2, none⟩ = some (.slice K' b.kids.length dk) := by rw [MB.out.cell]; rfl
  have h1 := many_sz a
  have h2 := many_sz b
  have HC : Hid (∀ w' : World, (∀ k, k < wa.heap.size → k ≠ w.heap.size + 2 → w'.heap[k]? = wa.heap[k]?) → w'.cell? ⟨w.heap.size, 0, none⟩ = some (.int .i64 a.kind) ∧ w'.cell? ⟨w.heap.size, 1, none⟩ = some (.slice A a.set.length c) ∧ w'.cell? ⟨w.heap.size, 2, none⟩ = some (.slice K a.kids.length ck) ∧
      w'.cell? ⟨w.heap.size + 1, 0, none⟩ = some (.int .i64 b.kind) ∧ w'.cell? ⟨w.heap.size + 1, 1, none⟩ = some (.slice B b.set.length d) ∧ w'.cell? ⟨w.heap.size + 1, 2, none⟩ = some (.slice K' b.kids.length dk)) := fun w' h => by
    have M : Blk w' w.heap.size #[.int .i64 a.kind, .slice A a.set.length c, .slice K a.kids.length ck] TRx := ⟨(h _ MA.out.lt (by omega)).trans MA.out.eq⟩
    have N : Blk w' (w.heap.size + 1) #[.int .i64 b.kind, .slice B b.set.length d, .slice K' b.kids.length dk] TRx := ⟨(h _ MB.out.lt (by omega)).trans MB.out.eq⟩
    exact ⟨by rw [M.cell]; rfl, by rw [M.cell]; rfl, by rw [M.cell]; rfl, by rw [N.cell]; rfl, by rw [N.cell]; rfl, by rw [N.cell]; rfl⟩
  have DA := Lib.hid (sDeep_c a _ _ wa 0 HA.out.rexv)
  have DB : Hid (∀ w' : World, Below wa.heap.size wa w' → Calls Tryz.prog 95 #[.agg #[.int .i64 b.kind, .slice B b.set.length d, .slice K' b.kids.length dk]] w' fun e w'' => e = .returned (.bool (formed 60 b)) ∧ Below w'.heap.size w' w'') := fun w' h => sDeep_c b _ _ w' 0 (HB.out.under h).rexv
  by_cases hfa : formed 60 a = true
  · rw [hfa] at DA
    by_cases hfb : formed 60 b = true
    · rw [hfb] at DB
      have E : Hid (norm2 nOr a b = nOr a b) := by show _ = _; unfold norm2; rw [if_pos ⟨hfa, hfb⟩]
      have hts := or_size a b ⟨_, hfa⟩ ⟨_, hfb⟩
      have IC : Hid (∀ (w' : World) (a1 a2 b1 b2 : Value), RexV w' 0 a (.int .i64 a.kind) a1 a2 → RexV w' 0 b (.int .i64 b.kind) b1 b2 → Below w.heap.size w w' → Calls Tryz.prog 96 #[.agg #[.int .i64 a.kind, a1, a2], .agg #[.int .i64 b.kind, b1, b2]] w' (RexPost (fun z => z < w'.heap.size) (nOr a b) w')) := fun w' a1 a2 b1 b2 ra rb hbel => sOr_c a b _ _ _ _ w' _ ⟨_, hfa⟩ ⟨_, hfb⟩ ra.rexp rb.rexp (fun z hz => hz) (by omega) (by omega) (by omega)
      obtain ⟨T, hT⟩ : ∃ z, z = nOr a b := ⟨_, rfl⟩
      rw [← hT] at hts IC E
      have HTS : Hid (T.size ≤ 1073741824) := by show _ ≤ _; omega
      clear hT hts hfa hfb
      go_enter Tryz.func41, Tryz.ntmps41
      go_wp2_with (first
        | ((with_reducible refine DA.out.mono ?_); rintro e w1 ⟨rfl, b1⟩; obtain ⟨s0, s1, s2, t0, t1, t2⟩ := HC.out w1 (fun k hk _ => b1.block k hk); have B1 := Lib.hid b1; clear b1)
        | ((with_reducible refine (DB.out w1 B1.out).mono ?_); rintro e w2 ⟨rfl, b2⟩; have B2 := Lib.hid (below_then B1.out b2); clear b2)
        | fail)
      clear hwa n0 n1 n2 m0 m1 m2 s0 s1 s2 t0 t1 t2 DA DB
      refine wp_region_held_drew (S := fun w' => w'.cell? ⟨w.heap.size, 0, none⟩ = some (.int .i64 a.kind) ∧ w'.cell? ⟨w.heap.size, 1, none⟩ = some (.slice A a.set.length c) ∧ w'.cell? ⟨w.heap.size, 2, none⟩ = some (.slice K a.kids.length ck) ∧
        w'.cell? ⟨w.heap.size + 1, 0, none⟩ = some (.int .i64 b.kind) ∧ w'.cell? ⟨w.heap.size + 1, 1, none⟩ = some (.slice B b.set.length d) ∧ w'.cell? ⟨w.heap.size + 1, 2, none⟩ = some (.slice K' b.kids.length dk)) (by kernel_rfl) (HC.out _ fun k hk _ => (below_then B2.out (below_drew (Below.refl w2.heap.size w2))).block k hk) (fun hHeld0 => ?_)
      have BD := Lib.hid (below_then B2.out (below_drew (Below.refl w2.heap.size w2)))
      have hdz := BD.out.size
      refine wpAnyH_take (i := 0) (v := ?_) rfl (by kernel_rfl) (by kernel_rfl) (by kernel_rfl) (fun _ _ _ h => h) (Or.inl ⟨by rfl, ?_⟩) (by assumption) ?_
      rotate_left
      · (intro w hSw; (try dsimp only at hSw); go_simp; try with_reducible rfl)
      try simp only [Act.put, List.getElem_toArray, List.getElem_cons_zero, List.getElem_cons_succ, List.setIfInBounds_toArray, List.set_cons_zero, List.set_cons_succ]
      refine wpAnyH_take (i := 2) (v := ?_) rfl (by kernel_rfl) (by kernel_rfl) (by kernel_rfl) (fun _ _ _ h => h) (Or.inl ⟨by rfl, ?_⟩) (by assumption) ?_
      rotate_left
      · (intro w hSw; (try dsimp only at hSw); go_simp; try with_reducible rfl)
      try simp only [Act.put, List.getElem_toArray, List.getElem_cons_zero, List.getElem_cons_succ, List.setIfInBounds_toArray, List.set_cons_zero, List.set_cons_succ]
      refine wpAnyH_ready (rs := [1]) (by kernel_rfl) (by simp) ?_
      refine AllReadyH.cons (o := ⟨some 15, _, _, _, _, _⟩) rfl (fun K hK => ?_) AllReadyH.nil
      go_simp
      refine (sCopy_b a _ _ w2.drew 0 (HA.out.under BD.out).rexv (by omega)).mono ?_
      rintro e w3 hc
      obtain ⟨A3, c3, K3, k3, fp3, rfl, ho3, hn3, hf3, b3⟩ := hc.own
      rw [← Rex.eta] at ho3
      have B3 := Lib.hid (below_then BD.out b3)
      have O3 := Lib.hid ho3.rex0
      clear ho3 hn3 hf3 b3 hc
      (try go_wp2_with fail)
      refine hK.out _ _ (HC.out w3 (fun k hk _ => B3.out.block k hk)) (fun hHeld1 => ?_)
      clear hK K hHeld0
      try simp only [Act.put, List.getElem_toArray, List.getElem_cons_zero, List.getElem_cons_succ, List.setIfInBounds_toArray, List.set_cons_zero, List.set_cons_succ]
      refine wpAnyH_ready (rs := [3]) (by kernel_rfl) (by simp) ?_
      refine AllReadyH.cons (o := ⟨some 17, _, _, _, _, _⟩) rfl (fun K hK => ?_) AllReadyH.nil
      go_simp
      refine (sCopy_b b _ _ w3 0 (HB.out.under B3.out).rexv (by omega)).mono ?_
      rintro e w4 hc
      obtain ⟨A4, c4, K4, k4, fp4, rfl, ho4, hn4, hf4, b4⟩ := hc.own
      rw [← Rex.eta] at ho4
      have B4 := Lib.hid (below_then B3.out b4)
      have O4 := Lib.hid ho4.rex0
      replace O3 := Lib.hid (O3.out.under b4)
      clear ho4 hn4 hf4 b4 hc
      (try go_wp2_with fail)
      refine hK.out _ _ (HC.out w4 (fun k hk _ => B4.out.block k hk)) (fun hHeld2 => ?_)
      clear hK K hHeld1
      try simp only [Act.put, List.getElem_toArray, List.getElem_cons_zero, List.getElem_cons_succ, List.setIfInBounds_toArray, List.set_cons_zero, List.set_cons_succ]
      refine wpAnyH_ready (rs := [4]) (by kernel_rfl) (by simp) ?_
      refine AllReadyH.cons (o := ⟨some 18, _, _, _, _, _⟩) rfl (fun K hK => ?_) AllReadyH.nil
      go_simp
      refine (IC.out w4 _ _ _ _ O3.out O4.out (below_then BW.out B4.out)).mono ?_
      rintro e w5 ⟨A5, c5, K5, k5, rfl, hv5, b5⟩
      have B5 := Lib.hid (below_then B4.out b5)
      have HV5 := Lib.hid hv5.rexv
      clear hv5 b5 O3 O4
      (try go_wp2_with fail)
      refine hK.out _ _ (HC.out w5 (fun k hk _ => B5.out.block k hk)) (fun hHeld3 => ?_)
      clear hK K hHeld2
      try simp only [Act.put, List.getElem_toArray, List.getElem_cons_zero, List.getElem_cons_succ, List.setIfInBounds_toArray, List.set_cons_zero, List.set_cons_succ]
      refine wpAnyH_ready (rs := [5]) (by kernel_rfl) (by simp) ?_
      refine AllReadyH.cons (o := ⟨some 19, _, _, _, _, _⟩) rfl (fun K hK => ?_) AllReadyH.nil
      go_simp
      refine (sCopy_b T _ _ w5 _ HV5.out HTS.out).mono ?_
      rintro e w6 hc
      obtain ⟨A6, c6, K6, k6, fp6, rfl, ho6, hn6, hf6, b6⟩ := hc.own
      rw [← Rex.eta] at ho6
      have B6 := Lib.hid (below_then B5.out b6)
      have HO6 := Lib.hid ho6
      have HN6 := Lib.hid hn6
      have HF6 := Lib.hid hf6
      have M6 := Lib.hid (MR.out.below B6.out)
      have hz5 := B5.out.size
      clear ho6 hn6 hf6 b6 hc HV5
      (try go_wp2_with fail)
      refine hK.out _ _ (HC.out w6 (fun k hk _ => B6.out.block k hk)) (fun hHeld4 => ?_)
      clear hK K hHeld3
      try simp only [Act.put, List.getElem_toArray, List.getElem_cons_zero, List.getElem_cons_succ, List.setIfInBounds_toArray, List.set_cons_zero, List.set_cons_succ]
      have g0 : w6.cell? ⟨w.heap.size + 2, 0, none⟩ = some (.int .i64 0) := by rw [M6.out.cell]; rfl
      have g1 : w6.cell? ⟨w.heap.size + 2, 1, none⟩ = some nilS := by rw [M6.out.cell]; rfl
      have g2 : w6.cell? ⟨w.heap.size + 2, 2, none⟩ = some nilS := by rw [M6.out.cell]; rfl
      have f0 : w6.frozen? ⟨w.heap.size + 2, 0, none⟩ = false := M6.out.free 0
      have f1 : w6.frozen? ⟨w.heap.size + 2, 1, none⟩ = false := M6.out.free 1
      have f2 : w6.frozen? ⟨w.heap.size + 2, 2, none⟩ = false := M6.out.free 2
      refine wpAnyH_ready (rs := [6]) (by kernel_rfl) (by simp) ?_
      refine AllReadyH.cons (o := ⟨none, _, _, _, _, _⟩) rfl (fun K hK => ?_) AllReadyH.nil
      go_simp
      obtain ⟨w7, hw7⟩ : ∃ z : World, z = ((w6.setCell ⟨w.heap.size + 2, 0, none⟩ (.int .i64 T.kind)).setCell ⟨w.heap.size + 2, 1, none⟩ (.slice A6 T.set.length c6)).setCell ⟨w.heap.size + 2, 2, none⟩ (.slice K6 T.kids.length k6) := ⟨_, rfl⟩
      have HX5 : Hid (Blk w7 (w.heap.size + 2) #[.int .i64 T.kind, .slice A6 T.set.length c6, .slice K6 T.kids.length k6] TRx) := by rw [hw7]; exact Lib.hid (put3 rfl M6.out)
      have HG5 : Hid (w6.grownBy w7 (some (w.heap.size + 2))) := by rw [hw7]; exact grown_set (grown_set (grown_set (grown_refl _ _) _ _) _ _) _ _
      rw [← hw7]
      clear g0 g1 g2 f0 f1 f2 hw7
      refine hK.out _ _ (HC.out w7 (fun k hk hne => (HG5.out.block k (Nat.lt_of_lt_of_le hk B6.out.size) (fun e => hne (Option.some.inj e))).trans (B6.out.block k hk))) (fun hHeld5 => ?_)
      clear hK K hHeld4
      try simp only [Act.put, List.getElem_toArray, List.getElem_cons_zero, List.getElem_cons_succ, List.setIfInBounds_toArray, List.set_cons_zero, List.set_cons_succ]
      refine wpAnyH_done (by kernel_rfl) ?_ _
      clear hHeld5 HC
      go_wp2_with fail
      refine bodyPost_ret (results_cell_row rfl _ _ (w.heap.size + 2) TRx _ (0, 0) _ rfl HX5.out.eq Tryz.underlying26 rfl (by rw [sizeRx]; rfl)) rfl ?_
      rw [E.out]
      exact own_fin HO6.out HN6.out HF6.out (by have := HZ.out; omega) (by omega) (below_then BW.out B6.out) HG5.out
    · have hfb' : formed 60 b = false := by simpa using hfb
      have hf : ¬ (formed 60 a = true ∧ formed 60 b = true) := fun h => hfb h.2
      rw [hfb'] at DB
      clear hfa hfb hfb'
      go_enter Tryz.func41, Tryz.ntmps41
      have E : Hid (norm2 nOr a b = noRex) := by show _ = _; unfold norm2; rw [if_neg hf]
      clear hf
      go_wp2_with (first
        | ((with_reducible refine DA.out.mono ?_); rintro e w1 ⟨rfl, b1⟩; obtain ⟨s0, s1, s2, t0, t1, t2⟩ := HC.out w1 (fun k hk _ => b1.block k hk); have B1 := Lib.hid b1; clear b1)
        | ((with_reducible refine (DB.out w1 B1.out).mono ?_); rintro e w2 ⟨rfl, b2⟩; have B2 := Lib.hid (below_then B1.out b2); have M2 := Lib.hid (MR.out.below B2.out); clear b2)
        | ((with_reducible refine at_st 4 13 ?_); refine ev_store (o := ⟨none, .store _ (.tmp 4) _, _, _, _, _⟩) rfl rfl TRx (.tmp 4) (.tmp 13) rfl (w.heap.size + 2) 0 rfl [.int .i64 0, nilS, nilS] rfl _ TRx M2.out (sizeRx' _ _ _) (by show 0 + 3 ≤ 3; omega) (three_one _ _ _ _ _ _ _) ?_; intro w5 hX5 hg5; have HX5 : Hid (Blk w5 (w.heap.size + 2) ([.int .i64 0, nilS, nilS]).toArray TRx) := hX5; have HG5 := Lib.hid hg5; clear hX5 hg5)
        | fail)
      refine bodyPost_ret (results_cell_row rfl _ _ (w.heap.size + 2) TRx _ (0, 0) _ rfl HX5.out.eq Tryz.underlying26 rfl (by rw [sizeRx]; rfl)) rfl ?_
      rw [E.out]
      exact own_fin (t := noRex) (OwnT.leaf _ 0) List.nodup_nil (fun b hb => absurd hb (List.not_mem_nil)) (Nat.lt_succ_self _) (by omega) (below_then BW.out B2.out) HG5.out
  · have hfa' : formed 60 a = false := by simpa using hfa
    have hf : ¬ (formed 60 a = true ∧ formed 60 b = true) := fun h => hfa h.1
    rw [hfa'] at DA
    clear hfa hfa'
    have E : Hid (norm2 nOr a b = noRex) := by show _ = _; unfold norm2; rw [if_neg hf]
    clear hf DB
    go_enter Tryz.func41, Tryz.ntmps41
    go_wp2_with (first
      | ((with_reducible refine DA.out.mono ?_); rintro e w1 ⟨rfl, b1⟩; have B1 := Lib.hid b1; have M2 := Lib.hid (MR.out.below B1.out); clear b1)
      | ((with_reducible refine at_st 4 13 ?_); refine ev_store (o := ⟨none, .store _ (.tmp 4) _, _, _, _, _⟩) rfl rfl TRx (.tmp 4) (.tmp 13) rfl (w.heap.size + 2) 0 rfl [.int .i64 0, nilS, nilS] rfl _ TRx M2.out (sizeRx' _ _ _) (by show 0 + 3 ≤ 3; omega) (three_one _ _ _ _ _ _ _) ?_; intro w5 hX5 hg5; have HX5 : Hid (Blk w5 (w.heap.size + 2) ([.int .i64 0, nilS, nilS]).toArray TRx) := hX5; have HG5 := Lib.hid hg5; clear hX5 hg5)
      | fail)
    refine bodyPost_ret (results_cell_row rfl _ _ (w.heap.size + 2) TRx _ (0, 0) _ rfl HX5.out.eq Tryz.underlying26 rfl (by rw [sizeRx]; rfl)) rfl ?_
    rw [E.out]
    exact own_fin (t := noRex) (OwnT.leaf _ 0) List.nodup_nil (fun b hb => absurd hb (List.not_mem_nil)) (Nat.lt_succ_self _) (by omega) (below_then BW.out B1.out) HG5.out
set_option maxHeartbeats 2000000 in
theorem sNormAndX_c (a b : Rex) (u1 u2 v1 v2 : Value) (w : World) (lo lo' : Nat) (h : RexV w lo a (.int .i64 a.kind) u1 u2) (h' : RexV w lo' b (.int .i64 b.kind) v1 v2) (hsz : a.size + b.size ≤ 1048576) (hpw : Pow10 w) :
    Calls Tryz.prog 42 #[.agg #[.int .i64 a.kind, u1, u2], .agg #[.int .i64 b.kind, v1, v2]] w (CopyPost (norm2 nAnd a b).kind (norm2 nAnd a b).set (norm2 nAnd a b).kids w) := by
  obtain ⟨p, hpd⟩ : ∃ p : Nat → Prop, p = fun z => z < w.heap.size := ⟨_, rfl⟩
  have ha : RexP w p a (.int .i64 a.kind) u1 u2 := by rw [hpd]; exact h.rexp
  have hb : RexP w p b (.int .i64 b.kind) v1 v2 := by rw [hpd]; exact h'.rexp
  have hp : ∀ z, p z → z < w.heap.size := fun z hz => by rw [hpd] at hz; exact hz
  clear hpd h h'
  have HPW := Lib.hid hpw
  clear hpw
  obtain ⟨A, c, K, ck, _, rfl, rfl, _, _⟩ := ha.parts
  obtain ⟨B, d, K', dk, _, rfl, rfl, _, _⟩ := hb.parts
  obtain ⟨wa, hwa⟩ : ∃ x, x = ((w.alloc (.cells #[.int .i64 a.kind, .slice A a.set.length c, .slice K a.kids.length ck] TRx)).alloc (.cells #[.int .i64 b.kind, .slice B b.set.length d, .slice K' b.kids.length dk] TRx)).alloc (.cells #[.int .i64 0, nilS, nilS] TRx) := ⟨_, rfl⟩
  have hbw : Below w.heap.size w wa := by rw [hwa]; exact below_alloc (below_alloc (below_alloc (Below.refl _ _) _) _) _
  have hz1 : wa.heap.size = w.heap.size + 3 := by rw [hwa]; simp
  have MA : Hid (Blk wa w.heap.size #[.int .i64 a.kind, .slice A a.set.length c, .slice K a.kids.length ck] TRx) := by rw [hwa]; exact ((blk_new w _ _).alloc _).alloc _
  have MB : Hid (Blk wa (w.heap.size + 1) #[.int .i64 b.kind, .slice B b.set.length d, .slice K' b.kids.length dk] TRx) := by
    rw [hwa]
    have := (blk_new (w.alloc (.cells #[.int .i64 a.kind, .slice A a.set.length c, .slice K a.kids.length ck] TRx)) #[.int .i64 b.kind, .slice B b.set.length d, .slice K' b.kids.length dk] TRx).alloc (.cells #[.int .i64 0, nilS, nilS] TRx)
    rw [show (w.alloc (.cells #[.int .i64 a.kind, .slice A a.set.length c, .slice K a.kids.length ck] TRx)).heap.size = w.heap.size + 1 by simp] at this
    exact this
  have MR : Hid (Blk wa (w.heap.size + 2) #[.int .i64 0, nilS, nilS] TRx) := by
    rw [hwa]
    have := blk_new ((w.alloc (.cells #[.int .i64 a.kind, .slice A a.set.length c, .slice K a.kids.length ck] TRx)).alloc (.cells #[.int .i64 b.kind, .slice B b.set.length d, .slice K' b.kids.length dk] TRx)) #[.int .i64 0, nilS, nilS] TRx
    rw [show ((w.alloc (.cells #[.int .i64 a.kind, .slice A a.set.length c, .slice K a.kids.length ck] TRx)).alloc (.cells #[.int .i64 b.kind, .slice B b.set.length d, .slice K' b.kids.length dk] TRx)).heap.size = w.heap.size + 2 by simp] at this
    exact this
  have HZ := Lib.hid hz1
  replace hwa := hwa.symm
  have HA := Lib.hid (ha.under hbw)
  have HB := Lib.hid (hb.under hbw)
  have BW := Lib.hid hbw
  have HP := Lib.hid hp
  clear hbw hz1 ha hb hp
  have n0 : wa.cell? ⟨w.heap.size, 0, none⟩ = some (.int .i64 a.kind) := by rw [MA.out.cell]; rfl
  have n1 : wa.cell? ⟨w.heap.size, 1, none⟩ = some (.slice A a.set.length c) := by rw [MA.out.cell]; rfl
  have n2 : wa.cell? ⟨w.heap.size, 2, none⟩ = some (.slice K a.kids.length ck) := by rw [MA.out.cell]; rfl
  have m0 : wa.cell? ⟨w.heap.size + 1, 0, none⟩ = some (.int .i64 b.kind) := by rw [MB.out.cell]; rfl
  have m1 : wa.cell? ⟨w.heap.size + 1, 1, none⟩ = some (.slice B b.set.length d) := by rw [MB.out.cell]; rfl
  have m2 : wa.cell? ⟨w.heap.size + 1, 2, none⟩ = some (.slice K' b.kids.length dk) := by rw [MB.out.cell]; rfl
  have h1 := many_sz a
  have h2 := many_sz b
  have HC : Hid (∀ w' : World, (∀ k, k < wa.heap.size → k ≠ w.heap.size + 2 → w'.heap[k]? = wa.heap[k]?) → w'.cell? ⟨w.heap.size, 0, none⟩ = some (.int .i64 a.kind) ∧ w'.cell? ⟨w.heap.size, 1, none⟩ = some (.slice A a.set.length c) ∧ w'.cell? ⟨w.heap.size, 2, none⟩ = some (.slice K a.kids.length ck) ∧
      w'.cell? ⟨w.heap.size + 1, 0, none⟩ = some (.int .i64 b.kind) ∧ w'.cell? ⟨w.heap.size + 1, 1, none⟩ = some (.slice B b.set.length d) ∧ w'.cell? ⟨w.heap.size + 1, 2, none⟩ = some (.slice K' b.kids.length dk)) := fun w' h => by
    have M : Blk w' w.heap.size #[.int .i64 a.kind, .slice A a.set.length c, .slice K a.kids.length ck] TRx := ⟨(h _ MA.out.lt (by omega)).trans MA.out.eq⟩
    have N : Blk w' (w.heap.size + 1) #[.int .i64 b.kind, .slice B b.set.length d, .slice K' b.kids.length dk] TRx := ⟨(h _ MB.out.lt (by omega)).trans MB.out.eq⟩
    exact ⟨by rw [M.cell]; rfl, by rw [M.cell]; rfl, by rw [M.cell]; rfl, by rw [N.cell]; rfl, by rw [N.cell]; rfl, by rw [N.cell]; rfl⟩
  have DA := Lib.hid (sDeep_c a _ _ wa 0 HA.out.rexv)
  have DB : Hid (∀ w' : World, Below wa.heap.size wa w' → Calls Tryz.prog 95 #[.agg #[.int .i64 b.kind, .slice B b.set.length d, .slice K' b.kids.length dk]] w' fun e w'' => e = .returned (.bool (formed 60 b)) ∧ Below w'.heap.size w' w'') := fun w' h => sDeep_c b _ _ w' 0 (HB.out.under h).rexv
  by_cases hfa : formed 60 a = true
  · rw [hfa] at DA
    by_cases hfb : formed 60 b = true
    · rw [hfb] at DB
      have E : Hid (norm2 nAnd a b = nAnd a b) := by show _ = _; unfold norm2; rw [if_pos ⟨hfa, hfb⟩]
      have hts := and_size a b ⟨_, hfa⟩ ⟨_, hfb⟩
      have IC : Hid (∀ (w' : World) (a1 a2 b1 b2 : Value), RexV w' 0 a (.int .i64 a.kind) a1 a2 → RexV w' 0 b (.int .i64 b.kind) b1 b2 → Below w.heap.size w w' → Calls Tryz.prog 97 #[.agg #[.int .i64 a.kind, a1, a2], .agg #[.int .i64 b.kind, b1, b2]] w' (RexPost (fun z => z < w'.heap.size) (nAnd a b) w')) := fun w' a1 a2 b1 b2 ra rb hbel => sAnd_c a b _ _ _ _ w' _ ⟨_, hfa⟩ ⟨_, hfb⟩ ra.rexp rb.rexp (fun z hz => hz) (by omega) (by omega) (by omega)
      obtain ⟨T, hT⟩ : ∃ z, z = nAnd a b := ⟨_, rfl⟩
      rw [← hT] at hts IC E
      have HTS : Hid (T.size ≤ 1073741824) := by show _ ≤ _; omega
      clear hT hts hfa hfb
      go_enter Tryz.func42, Tryz.ntmps42
      go_wp2_with (first
        | ((with_reducible refine DA.out.mono ?_); rintro e w1 ⟨rfl, b1⟩; obtain ⟨s0, s1, s2, t0, t1, t2⟩ := HC.out w1 (fun k hk _ => b1.block k hk); have B1 := Lib.hid b1; clear b1)
        | ((with_reducible refine (DB.out w1 B1.out).mono ?_); rintro e w2 ⟨rfl, b2⟩; have B2 := Lib.hid (below_then B1.out b2); clear b2)
        | fail)
      clear hwa n0 n1 n2 m0 m1 m2 s0 s1 s2 t0 t1 t2 DA DB
      refine wp_region_held_drew (S := fun w' => w'.cell? ⟨w.heap.size, 0, none⟩ = some (.int .i64 a.kind) ∧ w'.cell? ⟨w.heap.size, 1, none⟩ = some (.slice A a.set.length c) ∧ w'.cell? ⟨w.heap.size, 2, none⟩ = some (.slice K a.kids.length ck) ∧
        w'.cell? ⟨w.heap.size + 1, 0, none⟩ = some (.int .i64 b.kind) ∧ w'.cell? ⟨w.heap.size + 1, 1, none⟩ = some (.slice B b.set.length d) ∧ w'.cell? ⟨w.heap.size + 1, 2, none⟩ = some (.slice K' b.kids.length dk)) (by kernel_rfl) (HC.out _ fun k hk _ => (below_then B2.out (below_drew (Below.refl w2.heap.size w2))).block k hk) (fun hHeld0 => ?_)
      have BD := Lib.hid (below_then B2.out (below_drew (Below.refl w2.heap.size w2)))
      have hdz := BD.out.size
      refine wpAnyH_take (i := 0) (v := ?_) rfl (by kernel_rfl) (by kernel_rfl) (by kernel_rfl) (fun _ _ _ h => h) (Or.inl ⟨by rfl, ?_⟩) (by assumption) ?_
      rotate_left
      · (intro w hSw; (try dsimp only at hSw); go_simp; try with_reducible rfl)
      try simp only [Act.put, List.getElem_toArray, List.getElem_cons_zero, List.getElem_cons_succ, List.setIfInBounds_toArray, List.set_cons_zero, List.set_cons_succ]
      refine wpAnyH_take (i := 2) (v := ?_) rfl (by kernel_rfl) (by kernel_rfl) (by kernel_rfl) (fun _ _ _ h => h) (Or.inl ⟨by rfl, ?_⟩) (by assumption) ?_
      rotate_left
      · (intro w hSw; (try dsimp only at hSw); go_simp; try with_reducible rfl)
      try simp only [Act.put, List.getElem_toArray, List.getElem_cons_zero, List.getElem_cons_succ, List.setIfInBounds_toArray, List.set_cons_zero, List.set_cons_succ]
      refine wpAnyH_ready (rs := [1]) (by kernel_rfl) (by simp) ?_
      refine AllReadyH.cons (o := ⟨some 15, _, _, _, _, _⟩) rfl (fun K hK => ?_) AllReadyH.nil
      go_simp
      refine (sCopy_b a _ _ w2.drew 0 (HA.out.under BD.out).rexv (by omega)).mono ?_
      rintro e w3 hc
      obtain ⟨A3, c3, K3, k3, fp3, rfl, ho3, hn3, hf3, b3⟩ := hc.own
      rw [← Rex.eta] at ho3
      have B3 := Lib.hid (below_then BD.out b3)
      have O3 := Lib.hid ho3.rex0
      clear ho3 hn3 hf3 b3 hc
      (try go_wp2_with fail)
      refine hK.out _ _ (HC.out w3 (fun k hk _ => B3.out.block k hk)) (fun hHeld1 => ?_)
      clear hK K hHeld0
      try simp only [Act.put, List.getElem_toArray, List.getElem_cons_zero, List.getElem_cons_succ, List.setIfInBounds_toArray, List.set_cons_zero, List.set_cons_succ]
      refine wpAnyH_ready (rs := [3]) (by kernel_rfl) (by simp) ?_
      refine AllReadyH.cons (o := ⟨some 17, _, _, _, _, _⟩) rfl (fun K hK => ?_) AllReadyH.nil
      go_simp
      refine (sCopy_b b _ _ w3 0 (HB.out.under B3.out).rexv (by omega)).mono ?_
      rintro e w4 hc
      obtain ⟨A4, c4, K4, k4, fp4, rfl, ho4, hn4, hf4, b4⟩ := hc.own
      rw [← Rex.eta] at ho4
      have B4 := Lib.hid (below_then B3.out b4)
      have O4 := Lib.hid ho4.rex0
      replace O3 := Lib.hid (O3.out.under b4)
      clear ho4 hn4 hf4 b4 hc
      (try go_wp2_with fail)
      refine hK.out _ _ (HC.out w4 (fun k hk _ => B4.out.block k hk)) (fun hHeld2 => ?_)
      clear hK K hHeld1
      try simp only [Act.put, List.getElem_toArray, List.getElem_cons_zero, List.getElem_cons_succ, List.setIfInBounds_toArray, List.set_cons_zero, List.set_cons_succ]
      refine wpAnyH_ready (rs := [4]) (by kernel_rfl) (by simp) ?_
      refine AllReadyH.cons (o := ⟨some 18, _, _, _, _, _⟩) rfl (fun K hK => ?_) AllReadyH.nil
      go_simp
      refine (IC.out w4 _ _ _ _ O3.out O4.out (below_then BW.out B4.out)).mono ?_
      rintro e w5 ⟨A5, c5, K5, k5, rfl, hv5, b5⟩
      have B5 := Lib.hid (below_then B4.out b5)
      have HV5 := Lib.hid hv5.rexv
      clear hv5 b5 O3 O4
      (try go_wp2_with fail)
      refine hK.out _ _ (HC.out w5 (fun k hk _ => B5.out.block k hk)) (fun hHeld3 => ?_)
      clear hK K hHeld2
      try simp only [Act.put, List.getElem_toArray, List.getElem_cons_zero, List.getElem_cons_succ, List.setIfInBounds_toArray, List.set_cons_zero, List.set_cons_succ]
      refine wpAnyH_ready (rs := [5]) (by kernel_rfl) (by simp) ?_
      refine AllReadyH.cons (o := ⟨some 19, _, _, _, _, _⟩) rfl (fun K hK => ?_) AllReadyH.nil
      go_simp
      refine (sCopy_b T _ _ w5 _ HV5.out HTS.out).mono ?_
      rintro e w6 hc
      obtain ⟨A6, c6, K6, k6, fp6, rfl, ho6, hn6, hf6, b6⟩ := hc.own
      rw [← Rex.eta] at ho6
      have B6 := Lib.hid (below_then B5.out b6)
      have HO6 := Lib.hid ho6
      have HN6 := Lib.hid hn6
      have HF6 := Lib.hid hf6
      have M6 := Lib.hid (MR.out.below B6.out)
      have hz5 := B5.out.size
      clear ho6 hn6 hf6 b6 hc HV5
      (try go_wp2_with fail)
      refine hK.out _ _ (HC.out w6 (fun k hk _ => B6.out.block k hk)) (fun hHeld4 => ?_)
      clear hK K hHeld3
      try simp only [Act.put, List.getElem_toArray, List.getElem_cons_zero, List.getElem_cons_succ, List.setIfInBounds_toArray, List.set_cons_zero, List.set_cons_succ]
      have g0 : w6.cell? ⟨w.heap.size + 2, 0, none⟩ = some (.int .i64 0) := by rw [M6.out.cell]; rfl
      have g1 : w6.cell? ⟨w.heap.size + 2, 1, none⟩ = some nilS := by rw [M6.out.cell]; rfl
      have g2 : w6.cell? ⟨w.heap.size + 2, 2, none⟩ = some nilS := by rw [M6.out.cell]; rfl
      have f0 : w6.frozen? ⟨w.heap.size + 2, 0, none⟩ = false := M6.out.free 0
      have f1 : w6.frozen? ⟨w.heap.size + 2, 1, none⟩ = false := M6.out.free 1
      have f2 : w6.frozen? ⟨w.heap.size + 2, 2, none⟩ = false := M6.out.free 2
      refine wpAnyH_ready (rs := [6]) (by kernel_rfl) (by simp) ?_
      refine AllReadyH.cons (o := ⟨none, _, _, _, _, _⟩) rfl (fun K hK => ?_) AllReadyH.nil
      go_simp
      obtain ⟨w7, hw7⟩ : ∃ z : World, z = ((w6.setCell ⟨w.heap.size + 2, 0, none⟩ (.int .i64 T.kind)).setCell ⟨w.heap.size + 2, 1, none⟩ (.slice A6 T.set.length c6)).setCell ⟨w.heap.size + 2, 2, none⟩ (.slice K6 T.kids.length k6) := ⟨_, rfl⟩
      have HX5 : Hid (Blk w7 (w.heap.size + 2) #[.int .i64 T.kind, .slice A6 T.set.length c6, .slice K6 T.kids.length k6] TRx) := by rw [hw7]; exact Lib.hid (put3 rfl M6.out)
      have HG5 : Hid (w6.grownBy w7 (some (w.heap.size + 2))) := by rw [hw7]; exact grown_set (grown_set (grown_set (grown_refl _ _) _ _) _ _) _ _
      rw [← hw7]
      clear g0 g1 g2 f0 f1 f2 hw7
      refine hK.out _ _ (HC.out w7 (fun k hk hne => (HG5.out.block k (Nat.lt_of_lt_of_le hk B6.out.size) (fun e => hne (Option.some.inj e))).trans (B6.out.block k hk))) (fun hHeld5 => ?_)
      clear hK K hHeld4
      try simp only [Act.put, List.getElem_toArray, List.getElem_cons_zero, List.getElem_cons_succ, List.setIfInBounds_toArray, List.set_cons_zero, List.set_cons_succ]
      refine wpAnyH_done (by kernel_rfl) ?_ _
      clear hHeld5 HC
      go_wp2_with fail
      refine bodyPost_ret (results_cell_row rfl _ _ (w.heap.size + 2) TRx _ (0, 0) _ rfl HX5.out.eq Tryz.underlying26 rfl (by rw [sizeRx]; rfl)) rfl ?_
      rw [E.out]
      exact own_fin HO6.out HN6.out HF6.out (by have := HZ.out; omega) (by omega) (below_then BW.out B6.out) HG5.out
    · have hfb' : formed 60 b = false := by simpa using hfb
      have hf : ¬ (formed 60 a = true ∧ formed 60 b = true) := fun h => hfb h.2
      rw [hfb'] at DB
      clear hfa hfb hfb'
      go_enter Tryz.func42, Tryz.ntmps42
      have E : Hid (norm2 nAnd a b = noRex) := by show _ = _; unfold norm2; rw [if_neg hf]
      clear hf
      go_wp2_with (first
        | ((with_reducible refine DA.out.mono ?_); rintro e w1 ⟨rfl, b1⟩; obtain ⟨s0, s1, s2, t0, t1, t2⟩ := HC.out w1 (fun k hk _ => b1.block k hk); have B1 := Lib.hid b1; clear b1)
        | ((with_reducible refine (DB.out w1 B1.out).mono ?_); rintro e w2 ⟨rfl, b2⟩; have B2 := Lib.hid (below_then B1.out b2); have M2 := Lib.hid (MR.out.below B2.out); clear b2)
        | ((with_reducible refine at_st 4 13 ?_); refine ev_store (o := ⟨none, .store _ (.tmp 4) _, _, _, _, _⟩) rfl rfl TRx (.tmp 4) (.tmp 13) rfl (w.heap.size + 2) 0 rfl [.int .i64 0, nilS, nilS] rfl _ TRx M2.out (sizeRx' _ _ _) (by show 0 + 3 ≤ 3; omega) (three_one _ _ _ _ _ _ _) ?_; intro w5 hX5 hg5; have HX5 : Hid (Blk w5 (w.heap.size + 2) ([.int .i64 0, nilS, nilS]).toArray TRx) := hX5; have HG5 := Lib.hid hg5; clear hX5 hg5)
        | fail)
      refine bodyPost_ret (results_cell_row rfl _ _ (w.heap.size + 2) TRx _ (0, 0) _ rfl HX5.out.eq Tryz.underlying26 rfl (by rw [sizeRx]; rfl)) rfl ?_
      rw [E.out]
      exact own_fin (t := noRex) (OwnT.leaf _ 0) List.nodup_nil (fun b hb => absurd hb (List.not_mem_nil)) (Nat.lt_succ_self _) (by omega) (below_then BW.out B2.out) HG5.out
  · have hfa' : formed 60 a = false := by simpa using hfa
    have hf : ¬ (formed 60 a = true ∧ formed 60 b = true) := fun h => hfa h.1
    rw [hfa'] at DA
    clear hfa hfa'
    have E : Hid (norm2 nAnd a b = noRex) := by show _ = _; unfold norm2; rw [if_neg hf]
    clear hf DB
    go_enter Tryz.func42, Tryz.ntmps42
    go_wp2_with (first
      | ((with_reducible refine DA.out.mono ?_); rintro e w1 ⟨rfl, b1⟩; have B1 := Lib.hid b1; have M2 := Lib.hid (MR.out.below B1.out); clear b1)
      | ((with_reducible refine at_st 4 13 ?_); refine ev_store (o := ⟨none, .store _ (.tmp 4) _, _, _, _, _⟩) rfl rfl TRx (.tmp 4) (.tmp 13) rfl (w.heap.size + 2) 0 rfl [.int .i64 0, nilS, nilS] rfl _ TRx M2.out (sizeRx' _ _ _) (by show 0 + 3 ≤ 3; omega) (three_one _ _ _ _ _ _ _) ?_; intro w5 hX5 hg5; have HX5 : Hid (Blk w5 (w.heap.size + 2) ([.int .i64 0, nilS, nilS]).toArray TRx) := hX5; have HG5 := Lib.hid hg5; clear hX5 hg5)
      | fail)
    refine bodyPost_ret (results_cell_row rfl _ _ (w.heap.size + 2) TRx _ (0, 0) _ rfl HX5.out.eq Tryz.underlying26 rfl (by rw [sizeRx]; rfl)) rfl ?_
    rw [E.out]
    exact own_fin (t := noRex) (OwnT.leaf _ 0) List.nodup_nil (fun b hb => absurd hb (List.not_mem_nil)) (Nat.lt_succ_self _) (by omega) (below_then BW.out B1.out) HG5.out
end Go.Proofs.YtfeidjjabjejiaaGreatDoor
