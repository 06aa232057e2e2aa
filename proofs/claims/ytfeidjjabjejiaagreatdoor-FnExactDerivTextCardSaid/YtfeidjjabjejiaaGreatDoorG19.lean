/- Texts joined for the claims: Y2. -/
import Derived.Test.YtfeidjjabjejiaaGreatDoorG8
/- One behind the other, made simpler, by the program and by the reference. -/
namespace Go.Proofs.YtfeidjjabjejiaaGreatDoor
set_option linter.unusedSimpArgs false
set_option linter.unusedVariables false
set_option maxRecDepth 100000
open Go.RowKit

def CatOk (f : FuncId) (a : Rex) : Prop := ∀ (b : Rex) (u1 u2 v1 v2 : Value) (w : World) (p : Nat → Prop), wf a → RexP w p a (.int .i64 a.kind) u1 u2 → RexP w p b (.int .i64 b.kind) v1 v2 → (∀ x, p x → x < w.heap.size) →
  Calls Tryz.prog f #[.agg #[.int .i64 a.kind, u1, u2], .agg #[.int .i64 b.kind, v1, v2]] w (RexPost p (nCat a b) w)

set_option maxHeartbeats 4000000 in
theorem iCat_c (a : Rex) : CatOk 68 a := by
  refine Rex.ind (p := CatOk 68) (fun k0 s0 ks0 ih => ?_) a
  obtain ⟨a, ea⟩ : ∃ a, a = Rex.mk k0 s0 ks0 := ⟨_, rfl⟩
  have IH : Hid (∀ x ∈ a.kids, CatOk 68 x) := by rw [ea]; exact ih
  rw [← ea]
  clear ih ea
  intro b u1 u2 v1 v2 w p hwf ha hb hp
  have HWF := Lib.hid hwf
  clear hwf
  obtain ⟨A, c, K, ck, _, rfl, rfl, _, _⟩ := ha.parts
  obtain ⟨B, d, K', dk, _, rfl, rfl, _, _⟩ := hb.parts
  obtain ⟨wa, hwa⟩ : ∃ x, x = ((w.alloc (.cells #[.int .i64 a.kind, .slice A a.set.length c, .slice K a.kids.length ck] TRx)).alloc (.cells #[.int .i64 b.kind, .slice B b.set.length d, .slice K' b.kids.length dk] TRx)).alloc (.cells #[.int .i64 0, nilS, nilS] TRx) := ⟨_, rfl⟩
  have hbw : Below w.heap.size w wa := by rw [hwa]; exact below_alloc (below_alloc (below_alloc (Below.refl _ _) _) _) _
  have hz1 : wa.heap.size = w.heap.size + 3 := by rw [hwa]; simp
  have MA : Hid (Blk wa w.heap.size #[.int .i64 a.kind, .slice A a.set.length c, .slice K a.kids.length ck] TRx) := by rw [hwa]; exact ((blk_new w _ _).alloc _).alloc _
  have MB : Hid (Blk wa (w.heap.size + 1) #[.int .i64 b.kind, .slice B b.set.length d, .slice K' b.kids.length dk] TRx) := by
    rw [hwa]
    have := (blk_new (w.alloc (.cells #[.int .i64 a.kind, .slice A a.set.length c, .slice K a.kids.length ck] TRx)) #[.int .i64 b.kind, .slice B b.set.length d, .slice K' b.kids.length dk] TRx).alloc (.cells #[.int .i64 0, nilS, nilS] TRx)
    rw [show (w.alloc (.cells #[.int .i64 a.kind, .slice A a.set.length c, .slice K a.kids.length ck] TRx)).heap.size = w.heap.size + 1 by simp] at this
    exact this
  have MR : Hid (Blk wa (w.heap.size + 2) #[.int .i64 0, nilS, nilS] TRx) := by
    rw [hwa]
    have := blk_new ((w.alloc (.cells #[.int .i64 a.kind, .slice A a.set.length c, .slice K a.kids.length ck] TRx)).alloc (.cells #[.int .i64 b.kind, .slice B b.set.length d, .slice K' b.kids.length dk] TRx)) #[.int .i64 0, nilS, nilS] TRx
    rw [show ((w.alloc (.cells #[.int .i64 a.kind, .slice A a.set.length c, .slice K a.kids.length ck] TRx)).alloc (.cells #[.int .i64 b.kind, .slice B b.set.length d, .slice K' b.kids.length dk] TRx)).heap.size = w.heap.size + 2 by simp] at this
    exact this
  have HZ := Lib.hid hz1
  replace hwa := hwa.symm
  have HA := Lib.hid (ha.under hbw)
  have HB := Lib.hid (hb.under hbw)
  have BW := Lib.hid hbw
  have HP := Lib.hid hp
  clear hbw hz1 ha hb hp
  have n0 : wa.cell? ⟨w.heap.size, 0, none⟩ = some (.int .i64 a.kind) := by rw [MA.out.cell]; rfl
  have n1 : wa.cell? ⟨w.heap.size, 1, none⟩ = some (.slice A a.set.length c) := by rw [MA.out.cell]; rfl
  have n2 : wa.cell? ⟨w.heap.size, 2, none⟩ = some (.slice K a.kids.length ck) := by rw [MA.out.cell]; rfl
  have m0 : wa.cell? ⟨w.heap.size + 1, 0, none⟩ = some (.int .i64 b.kind) := by rw [MB.out.cell]; rfl
  have m1 : wa.cell? ⟨w.heap.size + 1, 1, none⟩ = some (.slice B b.set.length d) := by rw [MB.out.cell]; rfl
  have m2 : wa.cell? ⟨w.heap.size + 1, 2, none⟩ = some (.slice K' b.kids.length dk) := by rw [MB.out.cell]; rfl
  go_enter Tryz.func68, Tryz.ntmps68
  go_wp2_with fail
  clear hwa
  refine (iNo_c a _ _ wa 0 HA.out.rexv).mono ?_
  rintro e w1 ⟨rfl, b1⟩
  replace MA := Lib.hid (MA.out.below (b1))
  replace MB := Lib.hid (MB.out.below (b1))
  replace MR := Lib.hid (MR.out.below (b1))
  replace HA := Lib.hid (HA.out.under (b1))
  replace HB := Lib.hid (HB.out.under (b1))
  replace BW := Lib.hid (below_then BW.out (b1))
  clear n0 n1 n2 m0 m1 m2
  have n0 : w1.cell? ⟨w.heap.size, 0, none⟩ = some (.int .i64 a.kind) := by rw [MA.out.cell]; rfl
  have n1 : w1.cell? ⟨w.heap.size, 1, none⟩ = some (.slice A a.set.length c) := by rw [MA.out.cell]; rfl
  have n2 : w1.cell? ⟨w.heap.size, 2, none⟩ = some (.slice K a.kids.length ck) := by rw [MA.out.cell]; rfl
  have m0 : w1.cell? ⟨w.heap.size + 1, 0, none⟩ = some (.int .i64 b.kind) := by rw [MB.out.cell]; rfl
  have m1 : w1.cell? ⟨w.heap.size + 1, 1, none⟩ = some (.slice B b.set.length d) := by rw [MB.out.cell]; rfl
  have m2 : w1.cell? ⟨w.heap.size + 1, 2, none⟩ = some (.slice K' b.kids.length dk) := by rw [MB.out.cell]; rfl
  clear b1
  have hz := HZ.out
  by_cases hn : isNo a = true
  · have E : Hid (nCat a b = noT) := nCat_no (.inl hn)
    rw [hn]
    clear hn
    go_wp2_with fail
    refine (iNothing_c w1).mono ?_
    rintro e wn ⟨rfl, bn⟩
    replace MR := Lib.hid (MR.out.below bn)
    replace BW := Lib.hid (below_then BW.out bn)
    clear bn
    go_wp2_with ((with_reducible refine at_st 4 12 ?_); refine ev_store (o := ⟨none, .store _ (.tmp 4) _, _, _, _, _⟩) rfl rfl TRx (.tmp 4) (.tmp 12) rfl (w.heap.size + 2) 0 rfl [.int .i64 1, nilS, nilS] rfl _ TRx MR.out (sizeRx' _ _ _) (by show 0 + 3 ≤ 3; omega) (three_one _ _ _ _ _ _ _) ?_; intro w5 hX5 hg5; have HX5 : Hid (Blk w5 (w.heap.size + 2) ([.int .i64 1, nilS, nilS]).toArray TRx) := hX5; have HG5 := Lib.hid hg5; clear hX5 hg5)
    refine bodyPost_ret (results_cell_row rfl _ _ (w.heap.size + 2) TRx _ (0, 0) _ rfl HX5.out.eq Tryz.underlying26 rfl (by rw [sizeRx]; rfl)) rfl ?_
    rw [E.out]
    exact rex_fin (t := noT) rfl rfl HP.out (RexP.leaf 1) BW.out HG5.out (by omega)
  have na := eq_false_of_ne_true hn
  rw [na]
  go_wp2_with fail
  refine (iNo_c b _ _ w1 0 HB.out.rexv).mono ?_
  rintro e w2 ⟨rfl, b2⟩
  replace MA := Lib.hid (MA.out.below (b2))
  replace MB := Lib.hid (MB.out.below (b2))
  replace MR := Lib.hid (MR.out.below (b2))
  replace HA := Lib.hid (HA.out.under (b2))
  replace HB := Lib.hid (HB.out.under (b2))
  replace BW := Lib.hid (below_then BW.out (b2))
  clear n0 n1 n2 m0 m1 m2
  have n0 : w2.cell? ⟨w.heap.size, 0, none⟩ = some (.int .i64 a.kind) := by rw [MA.out.cell]; rfl
  have n1 : w2.cell? ⟨w.heap.size, 1, none⟩ = some (.slice A a.set.length c) := by rw [MA.out.cell]; rfl
  have n2 : w2.cell? ⟨w.heap.size, 2, none⟩ = some (.slice K a.kids.length ck) := by rw [MA.out.cell]; rfl
  have m0 : w2.cell? ⟨w.heap.size + 1, 0, none⟩ = some (.int .i64 b.kind) := by rw [MB.out.cell]; rfl
  have m1 : w2.cell? ⟨w.heap.size + 1, 1, none⟩ = some (.slice B b.set.length d) := by rw [MB.out.cell]; rfl
  have m2 : w2.cell? ⟨w.heap.size + 1, 2, none⟩ = some (.slice K' b.kids.length dk) := by rw [MB.out.cell]; rfl
  clear b2
  by_cases hn2 : isNo b = true
  · have E : Hid (nCat a b = noT) := nCat_no (.inr hn2)
    rw [hn2]
    clear hn hn2
    go_wp2_with fail
    refine (iNothing_c w2).mono ?_
    rintro e wn ⟨rfl, bn⟩
    replace MR := Lib.hid (MR.out.below bn)
    replace BW := Lib.hid (below_then BW.out bn)
    clear bn
    go_wp2_with ((with_reducible refine at_st 4 12 ?_); refine ev_store (o := ⟨none, .store _ (.tmp 4) _, _, _, _, _⟩) rfl rfl TRx (.tmp 4) (.tmp 12) rfl (w.heap.size + 2) 0 rfl [.int .i64 1, nilS, nilS] rfl _ TRx MR.out (sizeRx' _ _ _) (by show 0 + 3 ≤ 3; omega) (three_one _ _ _ _ _ _ _) ?_; intro w5 hX5 hg5; have HX5 : Hid (Blk w5 (w.heap.size + 2) ([.int .i64 1, nilS, nilS]).toArray TRx) := hX5; have HG5 := Lib.hid hg5; clear hX5 hg5)
    refine bodyPost_ret (results_cell_row rfl _ _ (w.heap.size + 2) TRx _ (0, 0) _ rfl HX5.out.eq Tryz.underlying26 rfl (by rw [sizeRx]; rfl)) rfl ?_
    rw [E.out]
    exact rex_fin (t := noT) rfl rfl HP.out (RexP.leaf 1) BW.out HG5.out (by omega)
  have nb := eq_false_of_ne_true hn2
  rw [nb]
  have NA := Lib.hid na
  have NB := Lib.hid nb
  clear hn hn2 na nb
  by_cases k2 : a.kind = 2
  · have E : Hid (nCat a b = b) := nCat_e1 NA.out NB.out k2
    have d2 : (a.kind == 2) = true := by simp [k2]
    clear k2
    go_wp2_with ((with_reducible refine at_st 4 17 ?_); refine ev_store (o := ⟨none, .store _ (.tmp 4) _, _, _, _, _⟩) rfl rfl TRx (.tmp 4) (.tmp 17) rfl (w.heap.size + 2) 0 rfl [.int .i64 b.kind, .slice B b.set.length d, .slice K' b.kids.length dk] rfl _ TRx MR.out (sizeRx' _ _ _) (by show 0 + 3 ≤ 3; omega) (three_one _ _ _ _ _ _ _) ?_; intro w5 hX5 hg5; have HX5 : Hid (Blk w5 (w.heap.size + 2) ([.int .i64 b.kind, .slice B b.set.length d, .slice K' b.kids.length dk]).toArray TRx) := hX5; have HG5 := Lib.hid hg5; clear hX5 hg5)
    refine bodyPost_ret (results_cell_row rfl _ _ (w.heap.size + 2) TRx _ (0, 0) _ rfl HX5.out.eq Tryz.underlying26 rfl (by rw [sizeRx]; rfl)) rfl ?_
    rw [E.out]
    exact rex_fin rfl rfl HP.out (HB.out.mono fun b hb => ⟨fun e => by have := HP.out b hb; omega, .inl hb⟩) BW.out HG5.out (by omega)
  have d2 : (a.kind == 2) = false := by simp [k2]
  by_cases k3 : b.kind = 2
  · have E : Hid (nCat a b = a) := nCat_e2 NA.out NB.out k2 k3
    have d3 : (b.kind == 2) = true := by simp [k3]
    clear k2 k3
    go_wp2_with ((with_reducible refine at_st 4 22 ?_); refine ev_store (o := ⟨none, .store _ (.tmp 4) _, _, _, _, _⟩) rfl rfl TRx (.tmp 4) (.tmp 22) rfl (w.heap.size + 2) 0 rfl [.int .i64 a.kind, .slice A a.set.length c, .slice K a.kids.length ck] rfl _ TRx MR.out (sizeRx' _ _ _) (by show 0 + 3 ≤ 3; omega) (three_one _ _ _ _ _ _ _) ?_; intro w5 hX5 hg5; have HX5 : Hid (Blk w5 (w.heap.size + 2) ([.int .i64 a.kind, .slice A a.set.length c, .slice K a.kids.length ck]).toArray TRx) := hX5; have HG5 := Lib.hid hg5; clear hX5 hg5)
    refine bodyPost_ret (results_cell_row rfl _ _ (w.heap.size + 2) TRx _ (0, 0) _ rfl HX5.out.eq Tryz.underlying26 rfl (by rw [sizeRx]; rfl)) rfl ?_
    rw [E.out]
    exact rex_fin rfl rfl HP.out (HA.out.mono fun b hb => ⟨fun e => by have := HP.out b hb; omega, .inl hb⟩) BW.out HG5.out (by omega)
  have d3 : (b.kind == 2) = false := by simp [k3]
  by_cases k4 : a.kind = 3
  · obtain ⟨x, y, ex, wx, wy⟩ := wf_kids2 HWF.out (.inl k4)
    have ekids : a.kids = [x, y] := by rw [ex]; rfl
    have E : Hid (nCat a b = nCat x (nCat y b)) := by show _ = _; rw [ex, k4]; exact nCat_cat NB.out k3
    obtain ⟨_, _, _, _, _, _, e2, _, hkk⟩ := HA.out.parts
    injection e2 with e3 e4 e5
    subst e3 e5
    rw [ekids] at hkk
    obtain ⟨ad, A1, c1, K1, dk1, A2, c2, K2, dk2, rfl, hx, x0, x1, x2, hy, y0, y1, y2⟩ := hkk.two
    have HX := Lib.hid hx
    have HY := Lib.hid hy
    have IHX : Hid (CatOk 68 x) := IH.out x (by rw [ekids]; simp)
    have IHY : Hid (CatOk 68 y) := IH.out y (by rw [ekids]; simp)
    have d4 : (a.kind == 3) = true := by simp [k4]
    have WX := Lib.hid wx
    have WY := Lib.hid wy
    rw [ekids] at n2
    simp only [List.length_cons, List.length_nil, Nat.zero_add] at n2
    clear ex ekids e4 hx hy k2 k3 k4 wx wy IH HWF
    have hadp : p ad.block := hkk.ok ad rfl (by simp)
    have hadl : ad.block < w.heap.size := HP.out _ hadp
    have HC : Hid (∀ w' : World, (∀ k, k < w2.heap.size → k ≠ w.heap.size + 2 → w'.heap[k]? = w2.heap[k]?) → w'.cell? ⟨w.heap.size, 2, none⟩ = some (.slice (some ad) 2 ck) ∧ w'.cell? ad = some (.int .i64 x.kind) ∧ w'.cell? ⟨ad.block, ad.off + 1, none⟩ = some (.slice A1 x.set.length c1) ∧ w'.cell? ⟨ad.block, ad.off + 2, none⟩ = some (.slice K1 x.kids.length dk1) ∧
        w'.cell? ⟨ad.block, ad.off + 3, none⟩ = some (.int .i64 y.kind) ∧ w'.cell? ⟨ad.block, ad.off + 3 + 1, none⟩ = some (.slice A2 y.set.length c2) ∧ w'.cell? ⟨ad.block, ad.off + 3 + 2, none⟩ = some (.slice K2 y.kids.length dk2) ∧
        w'.cell? ⟨w.heap.size + 1, 0, none⟩ = some (.int .i64 b.kind) ∧ w'.cell? ⟨w.heap.size + 1, 1, none⟩ = some (.slice B b.set.length d) ∧ w'.cell? ⟨w.heap.size + 1, 2, none⟩ = some (.slice K' b.kids.length dk)) := fun w' hb =>
      have up : ∀ {q : Addr} {v : Value}, q.block ≠ w.heap.size + 2 → w2.cell? q = some v → w'.cell? q = some v := fun {q v} hne h => (World.cell?_of_block (w := w2) (hb _ (World.block_lt_of_cell? w2 q h) hne)).trans h
      ⟨up (by simp) n2, up (by omega) x0, up (by show ad.block ≠ _; omega) x1, up (by show ad.block ≠ _; omega) x2, up (by show ad.block ≠ _; omega) y0, up (by show ad.block ≠ _; omega) y1, up (by show ad.block ≠ _; omega) y2, up (by simp) m0, up (by simp) m1, up (by simp) m2⟩
    go_wp2_with fail
    clear n0 n1 n2 m0 m1 m2 x0 x1 x2 y0 y1 y2
    refine wp_region_held_drew (S := fun w' => w'.cell? ⟨w.heap.size, 2, none⟩ = some (.slice (some ad) 2 ck) ∧ w'.cell? ad = some (.int .i64 x.kind) ∧ w'.cell? ⟨ad.block, ad.off + 1, none⟩ = some (.slice A1 x.set.length c1) ∧ w'.cell? ⟨ad.block, ad.off + 2, none⟩ = some (.slice K1 x.kids.length dk1) ∧
      w'.cell? ⟨ad.block, ad.off + 3, none⟩ = some (.int .i64 y.kind) ∧ w'.cell? ⟨ad.block, ad.off + 3 + 1, none⟩ = some (.slice A2 y.set.length c2) ∧ w'.cell? ⟨ad.block, ad.off + 3 + 2, none⟩ = some (.slice K2 y.kids.length dk2) ∧
      w'.cell? ⟨w.heap.size + 1, 0, none⟩ = some (.int .i64 b.kind) ∧ w'.cell? ⟨w.heap.size + 1, 1, none⟩ = some (.slice B b.set.length d) ∧ w'.cell? ⟨w.heap.size + 1, 2, none⟩ = some (.slice K' b.kids.length dk)) (by kernel_rfl) (HC.out _ fun k hk _ => (below_drew (Below.refl w2.heap.size w2)).block k hk) (fun hHeld0 => ?_)
    refine wpAnyH_take (i := 0) (v := ?_) rfl (by kernel_rfl) (by kernel_rfl) (by kernel_rfl) (fun _ _ _ h => h) (Or.inl ⟨by rfl, ?_⟩) (by assumption) ?_
    rotate_left
    · (intro w hSw; (try dsimp only at hSw); go_simp; try with_reducible rfl)
    try simp only [Act.put, List.getElem_toArray, List.getElem_cons_zero, List.getElem_cons_succ, List.setIfInBounds_toArray, List.set_cons_zero, List.set_cons_succ]
    refine wpAnyH_take (i := 1) (v := ?_) rfl (by kernel_rfl) (by kernel_rfl) (by kernel_rfl) (fun _ _ _ h => h) (Or.inl ⟨by rfl, ?_⟩) (by assumption) ?_
    rotate_left
    · (intro w hSw; (try dsimp only at hSw); go_simp; try with_reducible rfl)
    try simp only [Act.put, List.getElem_toArray, List.getElem_cons_zero, List.getElem_cons_succ, List.setIfInBounds_toArray, List.set_cons_zero, List.set_cons_succ]
    refine wpAnyH_take (i := 2) (v := ?_) rfl (by kernel_rfl) (by kernel_rfl) (by kernel_rfl) (fun _ _ _ h => h) (Or.inl ⟨by rfl, ?_⟩) (by assumption) ?_
    rotate_left
    · (intro w hSw; (try dsimp only at hSw); go_simp; try with_reducible rfl)
    try simp only [Act.put, List.getElem_toArray, List.getElem_cons_zero, List.getElem_cons_succ, List.setIfInBounds_toArray, List.set_cons_zero, List.set_cons_succ]
    refine wpAnyH_take (i := 3) (v := ?_) rfl (by kernel_rfl) (by kernel_rfl) (by kernel_rfl) (fun _ _ _ h => h) (Or.inl ⟨by rfl, ?_⟩) (by assumption) ?_
    rotate_left
    · (intro w hSw; (try dsimp only at hSw); go_simp; try with_reducible rfl)
    try simp only [Act.put, List.getElem_toArray, List.getElem_cons_zero, List.getElem_cons_succ, List.setIfInBounds_toArray, List.set_cons_zero, List.set_cons_succ]
    refine wpAnyH_take (i := 4) (v := ?_) rfl (by kernel_rfl) (by kernel_rfl) (by kernel_rfl) (fun _ _ _ h => h) (Or.inl ⟨by rfl, ?_⟩) (by assumption) ?_
    rotate_left
    · (intro w hSw; (try dsimp only at hSw); go_simp; try with_reducible rfl)
    try simp only [Act.put, List.getElem_toArray, List.getElem_cons_zero, List.getElem_cons_succ, List.setIfInBounds_toArray, List.set_cons_zero, List.set_cons_succ]
    refine wpAnyH_take (i := 5) (v := ?_) rfl (by kernel_rfl) (by kernel_rfl) (by kernel_rfl) (fun _ _ _ h => h) (Or.inl ⟨by rfl, ?_⟩) (by assumption) ?_
    rotate_left
    · (intro w hSw; (try dsimp only at hSw); go_simp; try with_reducible rfl)
    try simp only [Act.put, List.getElem_toArray, List.getElem_cons_zero, List.getElem_cons_succ, List.setIfInBounds_toArray, List.set_cons_zero, List.set_cons_succ]
    refine wpAnyH_take (i := 6) (v := ?_) rfl (by kernel_rfl) (by kernel_rfl) (by kernel_rfl) (fun _ _ _ h => h) (Or.inl ⟨by rfl, ?_⟩) (by assumption) ?_
    rotate_left
    · (intro w hSw; (try dsimp only at hSw); go_simp; try with_reducible rfl)
    try simp only [Act.put, List.getElem_toArray, List.getElem_cons_zero, List.getElem_cons_succ, List.setIfInBounds_toArray, List.set_cons_zero, List.set_cons_succ]
    refine wpAnyH_take (i := 7) (v := ?_) rfl (by kernel_rfl) (by kernel_rfl) (by kernel_rfl) (fun _ _ _ h => h) (Or.inl ⟨by rfl, ?_⟩) (by assumption) ?_
    rotate_left
    · (intro w hSw; (try dsimp only at hSw); go_simp; try with_reducible rfl)
    try simp only [Act.put, List.getElem_toArray, List.getElem_cons_zero, List.getElem_cons_succ, List.setIfInBounds_toArray, List.set_cons_zero, List.set_cons_succ]
    refine wpAnyH_take (i := 8) (v := ?_) rfl (by kernel_rfl) (by kernel_rfl) (by kernel_rfl) (fun _ _ _ h => h) (Or.inl ⟨by rfl, ?_⟩) (by assumption) ?_
    rotate_left
    · (intro w hSw; (try dsimp only at hSw); go_simp; try with_reducible rfl)
    try simp only [Act.put, List.getElem_toArray, List.getElem_cons_zero, List.getElem_cons_succ, List.setIfInBounds_toArray, List.set_cons_zero, List.set_cons_succ]
    refine wpAnyH_ready (rs := [9]) (by kernel_rfl) (by simp) ?_
    refine AllReadyH.cons (o := ⟨some 36, _, _, _, _, _⟩) rfl (fun K hK => ?_) AllReadyH.nil
    go_simp
    refine (IHY.out b _ _ _ _ w2.drew p WY.out (HY.out.under (below_drew (Below.refl _ _))) (HB.out.under (below_drew (Below.refl _ _))) (fun z hz => Nat.lt_of_lt_of_le (HP.out z hz) (Nat.le_trans (BW.out.size) (below_drew (Below.refl w2.heap.size w2)).size))).mono ?_
    rintro e w3 ⟨A3, c3, K3, ck3, rfl, hv3, b3⟩
    have b23 := below_then (below_drew (Below.refl w2.heap.size w2)) b3
    have B23 := Lib.hid b23
    have HV3 : Hid (RexP w3 (fun z => (p z ∨ w2.heap.size ≤ z) ∧ z < w3.heap.size) (nCat y b) (.int .i64 (nCat y b).kind) (.slice A3 (nCat y b).set.length c3) (.slice K3 (nCat y b).kids.length ck3)) := hv3.lt.mono fun z hz => ⟨hz.1.imp id fun h => Nat.le_trans (below_drew (Below.refl w2.heap.size w2)).size h, hz.2⟩
    have HX3 : Hid (RexP w3 (fun z => (p z ∨ w2.heap.size ≤ z) ∧ z < w3.heap.size) x (.int .i64 x.kind) (.slice A1 x.set.length c1) (.slice K1 x.kids.length dk1)) := (HX.out.under b23).lt.mono fun z hz => ⟨.inl hz.1, hz.2⟩
    clear hv3 b3 b23
    (try go_wp2_with fail)
    refine hK.out _ _ (HC.out w3 (fun k hk _ => B23.out.block k hk)) (fun hHeld1 => ?_)
    clear hK K hHeld0
    try simp only [Act.put, List.getElem_toArray, List.getElem_cons_zero, List.getElem_cons_succ, List.setIfInBounds_toArray, List.set_cons_zero, List.set_cons_succ]
    refine wpAnyH_ready (rs := [10]) (by kernel_rfl) (by simp) ?_
    refine AllReadyH.cons (o := ⟨some 37, _, _, _, _, _⟩) rfl (fun K hK => ?_) AllReadyH.nil
    go_simp
    refine (IHX.out (nCat y b) _ _ _ _ w3 (fun z => (p z ∨ w2.heap.size ≤ z) ∧ z < w3.heap.size) WX.out HX3.out HV3.out (fun z hz => hz.2)).mono ?_
    rintro e w4 ⟨A4, c4, K4, ck4, rfl, hv4, b4⟩
    have B24 := Lib.hid (below_then B23.out b4)
    have h23 := B23.out.size
    have hw2 := BW.out.size
    have MR2 := MR.out.lt
    have HV4 : Hid (RexP w4 (fun z => z ≠ w.heap.size + 2 ∧ (p z ∨ w.heap.size ≤ z)) (nCat x (nCat y b)) (.int .i64 (nCat x (nCat y b)).kind) (.slice A4 (nCat x (nCat y b)).set.length c4) (.slice K4 (nCat x (nCat y b)).kids.length ck4)) := hv4.mono fun z hz => by
      rcases hz with ⟨h | h, _⟩ | h
      · exact ⟨fun e => by have := HP.out z h; omega, .inl h⟩
      · exact ⟨fun e => by omega, .inr (by omega)⟩
      · exact ⟨fun e => by omega, .inr (by omega)⟩
    have MR4 := Lib.hid (MR.out.below B24.out)
    have BW4 := Lib.hid (below_then BW.out B24.out)
    clear hv4 b4 HV3 HX3
    (try go_wp2_with fail)
    refine hK.out _ _ (HC.out w4 (fun k hk _ => B24.out.block k hk)) (fun hHeld2 => ?_)
    clear hK K hHeld1
    try simp only [Act.put, List.getElem_toArray, List.getElem_cons_zero, List.getElem_cons_succ, List.setIfInBounds_toArray, List.set_cons_zero, List.set_cons_succ]
    have r0 : w4.cell? ⟨w.heap.size + 2, 0, none⟩ = some (.int .i64 0) := by rw [MR4.out.cell]; rfl
    have r1 : w4.cell? ⟨w.heap.size + 2, 1, none⟩ = some nilS := by rw [MR4.out.cell]; rfl
    have r2 : w4.cell? ⟨w.heap.size + 2, 2, none⟩ = some nilS := by rw [MR4.out.cell]; rfl
    have q0 : w4.frozen? ⟨w.heap.size + 2, 0, none⟩ = false := MR4.out.free 0
    have q1 : w4.frozen? ⟨w.heap.size + 2, 1, none⟩ = false := MR4.out.free 1
    have q2 : w4.frozen? ⟨w.heap.size + 2, 2, none⟩ = false := MR4.out.free 2
    refine wpAnyH_ready (rs := [11]) (by kernel_rfl) (by simp) ?_
    refine AllReadyH.cons (o := ⟨none, _, _, _, _, _⟩) rfl (fun K hK => ?_) AllReadyH.nil
    go_simp
    obtain ⟨w5, hw5⟩ : ∃ z : World, z = ((w4.setCell ⟨w.heap.size + 2, 0, none⟩ (.int .i64 (nCat x (nCat y b)).kind)).setCell ⟨w.heap.size + 2, 1, none⟩ (.slice A4 (nCat x (nCat y b)).set.length c4)).setCell ⟨w.heap.size + 2, 2, none⟩ (.slice K4 (nCat x (nCat y b)).kids.length ck4) := ⟨_, rfl⟩
    have HX5 : Hid (Blk w5 (w.heap.size + 2) #[.int .i64 (nCat x (nCat y b)).kind, .slice A4 (nCat x (nCat y b)).set.length c4, .slice K4 (nCat x (nCat y b)).kids.length ck4] TRx) := by rw [hw5]; exact Lib.hid (by simpa using ((MR4.out.set 0 (.int .i64 (nCat x (nCat y b)).kind)).set 1 (.slice A4 (nCat x (nCat y b)).set.length c4)).set 2 (.slice K4 (nCat x (nCat y b)).kids.length ck4))
    have HG5 : Hid (w4.grownBy w5 (some (w.heap.size + 2))) := by rw [hw5]; exact grown_set (grown_set (grown_set (grown_refl _ _) _ _) _ _) _ _
    rw [← hw5]
    clear r0 r1 r2 q0 q1 q2 hw5
    refine hK.out _ _ (HC.out w5 (fun k hk hne => (HG5.out.block k (Nat.lt_of_lt_of_le hk B24.out.size) (fun e => hne (Option.some.inj e))).trans (B24.out.block k hk))) (fun hHeld3 => ?_)
    clear hK K hHeld2
    try simp only [Act.put, List.getElem_toArray, List.getElem_cons_zero, List.getElem_cons_succ, List.setIfInBounds_toArray, List.set_cons_zero, List.set_cons_succ]
    refine wpAnyH_done (by kernel_rfl) ?_ _
    clear hHeld3 HC
    go_wp2_with fail
    refine bodyPost_ret (results_cell_row rfl _ _ (w.heap.size + 2) TRx _ (0, 0) _ rfl HX5.out.eq Tryz.underlying26 rfl (by rw [sizeRx]; rfl)) rfl ?_
    rw [E.out]
    exact rex_fin rfl rfl HP.out HV4.out BW4.out HG5.out (by omega)
  · have E : Hid (nCat a b = two 3 a b) := nCat_two NA.out NB.out k2 k3 k4
    have d4 : (a.kind == 3) = false := by simp [k4]
    clear k2 k3 k4
    go_wp2_with fail
    refine (iTwo_c 3 a b _ _ _ _ w2 p HA.out HB.out (fun z hz => Nat.lt_of_lt_of_le (HP.out z hz) BW.out.size)).mono ?_
    rintro e w3 ⟨A3, c3, K3, ck3, rfl, hv3, b3⟩
    have hw2 := BW.out.size
    have MR2 := MR.out.lt
    have HV3 : Hid (RexP w3 (fun z => z ≠ w.heap.size + 2 ∧ (p z ∨ w.heap.size ≤ z)) (two 3 a b) (.int .i64 (two 3 a b).kind) (.slice A3 (two 3 a b).set.length c3) (.slice K3 (two 3 a b).kids.length ck3)) := hv3.mono fun z hz => by
      rcases hz with h | h
      · exact ⟨fun e => by have := HP.out z h; omega, .inl h⟩
      · exact ⟨fun e => by omega, .inr (by omega)⟩
    replace MR := Lib.hid (MR.out.below b3)
    replace BW := Lib.hid (below_then BW.out b3)
    clear hv3 b3 n0 n1 n2 m0 m1 m2
    go_wp2_with ((with_reducible refine at_st 4 40 ?_); refine ev_store (o := ⟨none, .store _ (.tmp 4) _, _, _, _, _⟩) rfl rfl TRx (.tmp 4) (.tmp 40) rfl (w.heap.size + 2) 0 rfl [.int .i64 (two 3 a b).kind, .slice A3 (two 3 a b).set.length c3, .slice K3 (two 3 a b).kids.length ck3] rfl _ TRx MR.out (sizeRx' _ _ _) (by show 0 + 3 ≤ 3; omega) (three_one _ _ _ _ _ _ _) ?_; intro w5 hX5 hg5; have HX5 : Hid (Blk w5 (w.heap.size + 2) ([.int .i64 (two 3 a b).kind, .slice A3 (two 3 a b).set.length c3, .slice K3 (two 3 a b).kids.length ck3]).toArray TRx) := hX5; have HG5 := Lib.hid hg5; clear hX5 hg5)
    refine bodyPost_ret (results_cell_row rfl _ _ (w.heap.size + 2) TRx _ (0, 0) _ rfl HX5.out.eq Tryz.underlying26 rfl (by rw [sizeRx]; rfl)) rfl ?_
    rw [E.out]
    exact rex_fin rfl rfl HP.out HV3.out BW.out HG5.out (by omega)
set_option maxHeartbeats 4000000 in
theorem sCat_c (a : Rex) : CatOk 103 a := by
  refine Rex.ind (p := CatOk 103) (fun k0 s0 ks0 ih => ?_) a
  obtain ⟨a, ea⟩ : ∃ a, a = Rex.mk k0 s0 ks0 := ⟨_, rfl⟩
  have IH : Hid (∀ x ∈ a.kids, CatOk 103 x) := by rw [ea]; exact ih
  rw [← ea]
  clear ih ea
  intro b u1 u2 v1 v2 w p hwf ha hb hp
  have HWF := Lib.hid hwf
  clear hwf
  obtain ⟨A, c, K, ck, _, rfl, rfl, _, _⟩ := ha.parts
  obtain ⟨B, d, K', dk, _, rfl, rfl, _, _⟩ := hb.parts
  obtain ⟨wa, hwa⟩ : ∃ x, x = ((w.alloc (.cells #[.int .i64 a.kind, .slice A a.set.length c, .slice K a.kids.length ck] TRx)).alloc (.cells #[.int .i64 b.kind, .slice B b.set.length d, .slice K' b.kids.length dk] TRx)).alloc (.cells #[.int .i64 0, nilS, nilS] TRx) := ⟨_, rfl⟩
  have hbw : Below w.heap.size w wa := by rw [hwa]; exact below_alloc (below_alloc (below_alloc (Below.refl _ _) _) _) _
  have hz1 : wa.heap.size = w.heap.size + 3 := by rw [hwa]; simp
  have MA : Hid (Blk wa w.heap.size #[.int .i64 a.kind, .slice A a.set.length c, .slice K a.kids.length ck] TRx) := by rw [hwa]; exact ((blk_new w _ _).alloc _).alloc _
  have MB : Hid (Blk wa (w.heap.size + 1) #[.int .i64 b.kind, .slice B b.set.length d, .slice K' b.kids.length dk] TRx) := by
    rw [hwa]
    have := (blk_new (w.alloc (.cells #[.int .i64 a.kind, .slice A a.set.length c, .slice K a.kids.length ck] TRx)) #[.int .i64 b.kind, .slice B b.set.length d, .slice K' b.kids.length dk] TRx).alloc (.cells #[.int .i64 0, nilS, nilS] TRx)
    rw [show (w.alloc (.cells #[.int .i64 a.kind, .slice A a.set.length c, .slice K a.kids.length ck] TRx)).heap.size = w.heap.size + 1 by simp] at this
    exact this
  have MR : Hid (Blk wa (w.heap.size + 2) #[.int .i64 0, nilS, nilS] TRx) := by
    rw [hwa]
    have := blk_new ((w.alloc (.cells #[.int .i64 a.kind, .slice A a.set.length c, .slice K a.kids.length ck] TRx)).alloc (.cells #[.int .i64 b.kind, .slice B b.set.length d, .slice K' b.kids.length dk] TRx)) #[.int .i64 0, nilS, nilS] TRx
    rw [show ((w.alloc (.cells #[.int .i64 a.kind, .slice A a.set.length c, .slice K a.kids.length ck] TRx)).alloc (.cells #[.int .i64 b.kind, .slice B b.set.length d, .slice K' b.kids.length dk] TRx)).heap.size = w.heap.size + 2 by simp] at this
    exact this
  have HZ := Lib.hid hz1
  replace hwa := hwa.symm
  have HA := Lib.hid (ha.under hbw)
  have HB := Lib.hid (hb.under hbw)
  have BW := Lib.hid hbw
  have HP := Lib.hid hp
  clear hbw hz1 ha hb hp
  have n0 : wa.cell? ⟨w.heap.size, 0, none⟩ = some (.int .i64 a.kind) := by rw [MA.out.cell]; rfl
  have n1 : wa.cell? ⟨w.heap.size, 1, none⟩ = some (.slice A a.set.length c) := by rw [MA.out.cell]; rfl
  have n2 : wa.cell? ⟨w.heap.size, 2, none⟩ = some (.slice K a.kids.length ck) := by rw [MA.out.cell]; rfl
  have m0 : wa.cell? ⟨w.heap.size + 1, 0, none⟩ = some (.int .i64 b.kind) := by rw [MB.out.cell]; rfl
  have m1 : wa.cell? ⟨w.heap.size + 1, 1, none⟩ = some (.slice B b.set.length d) := by rw [MB.out.cell]; rfl
  have m2 : wa.cell? ⟨w.heap.size + 1, 2, none⟩ = some (.slice K' b.kids.length dk) := by rw [MB.out.cell]; rfl
  go_enter Tryz.func103, Tryz.ntmps103
  go_wp2_with fail
  clear hwa
  refine (sNo_c a _ _ wa 0 HA.out.rexv).mono ?_
  rintro e w1 ⟨rfl, b1⟩
  replace MA := Lib.hid (MA.out.below (b1))
  replace MB := Lib.hid (MB.out.below (b1))
  replace MR := Lib.hid (MR.out.below (b1))
  replace HA := Lib.hid (HA.out.under (b1))
  replace HB := Lib.hid (HB.out.under (b1))
  replace BW := Lib.hid (below_then BW.out (b1))
  clear n0 n1 n2 m0 m1 m2
  have n0 : w1.cell? ⟨w.heap.size, 0, none⟩ = some (.int .i64 a.kind) := by rw [MA.out.cell]; rfl
  have n1 : w1.cell? ⟨w.heap.size, 1, none⟩ = some (.slice A a.set.length c) := by rw [MA.out.cell]; rfl
  have n2 : w1.cell? ⟨w.heap.size, 2, none⟩ = some (.slice K a.kids.length ck) := by rw [MA.out.cell]; rfl
  have m0 : w1.cell? ⟨w.heap.size + 1, 0, none⟩ = some (.int .i64 b.kind) := by rw [MB.out.cell]; rfl
  have m1 : w1.cell? ⟨w.heap.size + 1, 1, none⟩ = some (.slice B b.set.length d) := by rw [MB.out.cell]; rfl
  have m2 : w1.cell? ⟨w.heap.size + 1, 2, none⟩ = some (.slice K' b.kids.length dk) := by rw [MB.out.cell]; rfl
  clear b1
  have hz := HZ.out
  by_cases hn : isNo a = true
  · have E : Hid (nCat a b = noT) := nCat_no (.inl hn)
    rw [hn]
    clear hn
    go_wp2_with ((with_reducible refine at_st 4 12 ?_); refine ev_store (o := ⟨none, .store _ (.tmp 4) _, _, _, _, _⟩) rfl rfl TRx (.tmp 4) (.tmp 12) rfl (w.heap.size + 2) 0 rfl [.int .i64 1, nilS, nilS] rfl _ TRx MR.out (sizeRx' _ _ _) (by show 0 + 3 ≤ 3; omega) (three_one _ _ _ _ _ _ _) ?_; intro w5 hX5 hg5; have HX5 : Hid (Blk w5 (w.heap.size + 2) ([.int .i64 1, nilS, nilS]).toArray TRx) := hX5; have HG5 := Lib.hid hg5; clear hX5 hg5)
    refine bodyPost_ret (results_cell_row rfl _ _ (w.heap.size + 2) TRx _ (0, 0) _ rfl HX5.out.eq Tryz.underlying26 rfl (by rw [sizeRx]; rfl)) rfl ?_
    rw [E.out]
    exact rex_fin (t := noT) rfl rfl HP.out (RexP.leaf 1) BW.out HG5.out (by omega)
  have na := eq_false_of_ne_true hn
  rw [na]
  go_wp2_with fail
  refine (sNo_c b _ _ w1 0 HB.out.rexv).mono ?_
  rintro e w2 ⟨rfl, b2⟩
  replace MA := Lib.hid (MA.out.below (b2))
  replace MB := Lib.hid (MB.out.below (b2))
  replace MR := Lib.hid (MR.out.below (b2))
  replace HA := Lib.hid (HA.out.under (b2))
  replace HB := Lib.hid (HB.out.under (b2))
  replace BW := Lib.hid (below_then BW.out (b2))
  clear n0 n1 n2 m0 m1 m2
  have n0 : w2.cell? ⟨w.heap.size, 0, none⟩ = some (.int .i64 a.kind) := by rw [MA.out.cell]; rfl
  have n1 : w2.cell? ⟨w.heap.size, 1, none⟩ = some (.slice A a.set.length c) := by rw [MA.out.cell]; rfl
  have n2 : w2.cell? ⟨w.heap.size, 2, none⟩ = some (.slice K a.kids.length ck) := by rw [MA.out.cell]; rfl
  have m0 : w2.cell? ⟨w.heap.size + 1, 0, none⟩ = some (.int .i64 b.kind) := by rw [MB.out.cell]; rfl
  have m1 : w2.cell? ⟨w.heap.size + 1, 1, none⟩ = some (.slice B b.set.length d) := by rw [MB.out.cell]; rfl
  have m2 : w2.cell? ⟨w.heap.size + 1, 2, none⟩ = some (.slice K' b.kids.length dk) := by rw [MB.out.cell]; rfl
  clear b2
  by_cases hn2 : isNo b = true
  · have E : Hid (nCat a b = noT) := nCat_no (.inr hn2)
    rw [hn2]
    clear hn hn2
    go_wp2_with ((with_reducible refine at_st 4 12 ?_); refine ev_store (o := ⟨none, .store _ (.tmp 4) _, _, _, _, _⟩) rfl rfl TRx (.tmp 4) (.tmp 12) rfl (w.heap.size + 2) 0 rfl [.int .i64 1, nilS, nilS] rfl _ TRx MR.out (sizeRx' _ _ _) (by show 0 + 3 ≤ 3; omega) (three_one _ _ _ _ _ _ _) ?_; intro w5 hX5 hg5; have HX5 : Hid (Blk w5 (w.heap.size + 2) ([.int .i64 1, nilS, nilS]).toArray TRx) := hX5; have HG5 := Lib.hid hg5; clear hX5 hg5)
    refine bodyPost_ret (results_cell_row rfl _ _ (w.heap.size + 2) TRx _ (0, 0) _ rfl HX5.out.eq Tryz.underlying26 rfl (by rw [sizeRx]; rfl)) rfl ?_
    rw [E.out]
    exact rex_fin (t := noT) rfl rfl HP.out (RexP.leaf 1) BW.out HG5.out (by omega)
  have nb := eq_false_of_ne_true hn2
  rw [nb]
  have NA := Lib.hid na
  have NB := Lib.hid nb
  clear hn hn2 na nb
  by_cases k2 : a.kind = 2
  · have E : Hid (nCat a b = b) := nCat_e1 NA.out NB.out k2
    have d2 : (a.kind == 2) = true := by simp [k2]
    clear k2
    go_wp2_with ((with_reducible refine at_st 4 17 ?_); refine ev_store (o := ⟨none, .store _ (.tmp 4) _, _, _, _, _⟩) rfl rfl TRx (.tmp 4) (.tmp 17) rfl (w.heap.size + 2) 0 rfl [.int .i64 b.kind, .slice B b.set.length d, .slice K' b.kids.length dk] rfl _ TRx MR.out (sizeRx' _ _ _) (by show 0 + 3 ≤ 3; omega) (three_one _ _ _ _ _ _ _) ?_; intro w5 hX5 hg5; have HX5 : Hid (Blk w5 (w.heap.size + 2) ([.int .i64 b.kind, .slice B b.set.length d, .slice K' b.kids.length dk]).toArray TRx) := hX5; have HG5 := Lib.hid hg5; clear hX5 hg5)
    refine bodyPost_ret (results_cell_row rfl _ _ (w.heap.size + 2) TRx _ (0, 0) _ rfl HX5.out.eq Tryz.underlying26 rfl (by rw [sizeRx]; rfl)) rfl ?_
    rw [E.out]
    exact rex_fin rfl rfl HP.out (HB.out.mono fun b hb => ⟨fun e => by have := HP.out b hb; omega, .inl hb⟩) BW.out HG5.out (by omega)
  have d2 : (a.kind == 2) = false := by simp [k2]
  by_cases k3 : b.kind = 2
  · have E : Hid (nCat a b = a) := nCat_e2 NA.out NB.out k2 k3
    have d3 : (b.kind == 2) = true := by simp [k3]
    clear k2 k3
    go_wp2_with ((with_reducible refine at_st 4 22 ?_); refine ev_store (o := ⟨none, .store _ (.tmp 4) _, _, _, _, _⟩) rfl rfl TRx (.tmp 4) (.tmp 22) rfl (w.heap.size + 2) 0 rfl [.int .i64 a.kind, .slice A a.set.length c, .slice K a.kids.length ck] rfl _ TRx MR.out (sizeRx' _ _ _) (by show 0 + 3 ≤ 3; omega) (three_one _ _ _ _ _ _ _) ?_; intro w5 hX5 hg5; have HX5 : Hid (Blk w5 (w.heap.size + 2) ([.int .i64 a.kind, .slice A a.set.length c, .slice K a.kids.length ck]).toArray TRx) := hX5; have HG5 := Lib.hid hg5; clear hX5 hg5)
    refine bodyPost_ret (results_cell_row rfl _ _ (w.heap.size + 2) TRx _ (0, 0) _ rfl HX5.out.eq Tryz.underlying26 rfl (by rw [sizeRx]; rfl)) rfl ?_
    rw [E.out]
    exact rex_fin rfl rfl HP.out (HA.out.mono fun b hb => ⟨fun e => by have := HP.out b hb; omega, .inl hb⟩) BW.out HG5.out (by omega)
  have d3 : (b.kind == 2) = false := by simp [k3]
  by_cases k4 : a.kind = 3
  · obtain ⟨x, y, ex, wx, wy⟩ := wf_kids2 HWF.out (.inl k4)
    have ekids : a.kids = [x, y] := by rw [ex]; rfl
    have E : Hid (nCat a b = nCat x (nCat y b)) := by show _ = _; rw [ex, k4]; exact nCat_cat NB.out k3
    obtain ⟨_, _, _, _, _, _, e2, _, hkk⟩ := HA.out.parts
    injection e2 with e3 e4 e5
    subst e3 e5
    rw [ekids] at hkk
    obtain ⟨ad, A1, c1, K1, dk1, A2, c2, K2, dk2, rfl, hx, x0, x1, x2, hy, y0, y1, y2⟩ := hkk.two
    have HX := Lib.hid hx
    have HY := Lib.hid hy
    have IHX : Hid (CatOk 103 x) := IH.out x (by rw [ekids]; simp)
    have IHY : Hid (CatOk 103 y) := IH.out y (by rw [ekids]; simp)
    have d4 : (a.kind == 3) = true := by simp [k4]
    have WX := Lib.hid wx
    have WY := Lib.hid wy
    rw [ekids] at n2
    simp only [List.length_cons, List.length_nil, Nat.zero_add] at n2
    clear ex ekids e4 hx hy k2 k3 k4 wx wy IH HWF
    have hadp : p ad.block := hkk.ok ad rfl (by simp)
    have hadl : ad.block < w.heap.size := HP.out _ hadp
    have HC : Hid (∀ w' : World, (∀ k, k < w2.heap.size → k ≠ w.heap.size + 2 → w'.heap[k]? = w2.heap[k]?) → w'.cell? ⟨w.heap.size, 2, none⟩ = some (.slice (some ad) 2 ck) ∧ w'.cell? ad = some (.int .i64 x.kind) ∧ w'.cell? ⟨ad.block, ad.off + 1, none⟩ = some (.slice A1 x.set.length c1) ∧ w'.cell? ⟨ad.block, ad.off + 2, none⟩ = some (.slice K1 x.kids.length dk1) ∧
        w'.cell? ⟨ad.block, ad.off + 3, none⟩ = some (.int .i64 y.kind) ∧ w'.cell? ⟨ad.block, ad.off + 3 + 1, none⟩ = some (.slice A2 y.set.length c2) ∧ w'.cell? ⟨ad.block, ad.off + 3 + 2, none⟩ = some (.slice K2 y.kids.length dk2) ∧
        w'.cell? ⟨w.heap.size + 1, 0, none⟩ = some (.int .i64 b.kind) ∧ w'.cell? ⟨w.heap.size + 1, 1, none⟩ = some (.slice B b.set.length d) ∧ w'.cell? ⟨w.heap.size + 1, 2, none⟩ = some (.slice K' b.kids.length dk)) := fun w' hb =>
      have up : ∀ {q : Addr} {v : Value}, q.block ≠ w.heap.size + 2 → w2.cell? q = some v → w'.cell? q = some v := fun {q v} hne h => (World.cell?_of_block (w := w2) (hb _ (World.block_lt_of_cell? w2 q h) hne)).trans h
      ⟨up (by simp) n2, up (by omega) x0, up (by show ad.block ≠ _; omega) x1, up (by show ad.block ≠ _; omega) x2, up (by show ad.block ≠ _; omega) y0, up (by show ad.block ≠ _; omega) y1, up (by show ad.block ≠ _; omega) y2, up (by simp) m0, up (by simp) m1, up (by simp) m2⟩
    go_wp2_with fail
    clear n0 n1 n2 m0 m1 m2 x0 x1 x2 y0 y1 y2
    refine wp_region_held_drew (S := fun w' => w'.cell? ⟨w.heap.size, 2, none⟩ = some (.slice (some ad) 2 ck) ∧ w'.cell? ad = some (.int .i64 x.kind) ∧ w'.cell? ⟨ad.block, ad.off + 1, none⟩ = some (.slice A1 x.set.length c1) ∧ w'.cell? ⟨ad.block, ad.off + 2, none⟩ = some (.slice K1 x.kids.length dk1) ∧
      w'.cell? ⟨ad.block, ad.off + 3, none⟩ = some (.int .i64 y.kind) ∧ w'.cell? ⟨ad.block, ad.off + 3 + 1, none⟩ = some (.slice A2 y.set.length c2) ∧ w'.cell? ⟨ad.block, ad.off + 3 + 2, none⟩ = some (.slice K2 y.kids.length dk2) ∧
      w'.cell? ⟨w.heap.size + 1, 0, none⟩ = some (.int .i64 b.kind) ∧ w'.cell? ⟨w.heap.size + 1, 1, none⟩ = some (.slice B b.set.length d) ∧ w'.cell? ⟨w.heap.size + 1, 2, none⟩ = some (.slice K' b.kids.length dk)) (by kernel_rfl) (HC.out _ fun k hk _ => (below_drew (Below.refl w2.heap.size w2)).block k hk) (fun hHeld0 => ?_)
    refine wpAnyH_take (i := 0) (v := ?_) rfl (by kernel_rfl) (by kernel_rfl) (by kernel_rfl) (fun _ _ _ h => h) (Or.inl ⟨by rfl, ?_⟩) (by assumption) ?_
    rotate_left
    · (intro w hSw; (try dsimp only at hSw); go_simp; try with_reducible rfl)
    try simp only [Act.put, List.getElem_toArray, List.getElem_cons_zero, List.getElem_cons_succ, List.setIfInBounds_toArray, List.set_cons_zero, List.set_cons_succ]
    refine wpAnyH_take (i := 1) (v := ?_) rfl (by kernel_rfl) (by kernel_rfl) (by kernel_rfl) (fun _ _ _ h => h) (Or.inl ⟨by rfl, ?_⟩) (by assumption) ?_
    rotate_left
    · (intro w hSw; (try dsimp only at hSw); go_simp; try with_reducible rfl)
    try simp only [Act.put, List.getElem_toArray, List.getElem_cons_zero, List.getElem_cons_succ, List.setIfInBounds_toArray, List.set_cons_zero, List.set_cons_succ]
    refine wpAnyH_take (i := 2) (v := ?_) rfl (by kernel_rfl) (by kernel_rfl) (by kernel_rfl) (fun _ _ _ h => h) (Or.inl ⟨by rfl, ?_⟩) (by assumption) ?_
    rotate_left
    · (intro w hSw; (try dsimp only at hSw); go_simp; try with_reducible rfl)
    try simp only [Act.put, List.getElem_toArray, List.getElem_cons_zero, List.getElem_cons_succ, List.setIfInBounds_toArray, List.set_cons_zero, List.set_cons_succ]
    refine wpAnyH_take (i := 3) (v := ?_) rfl (by kernel_rfl) (by kernel_rfl) (by kernel_rfl) (fun _ _ _ h => h) (Or.inl ⟨by rfl, ?_⟩) (by assumption) ?_
    rotate_left
    · (intro w hSw; (try dsimp only at hSw); go_simp; try with_reducible rfl)
    try simp only [Act.put, List.getElem_toArray, List.getElem_cons_zero, List.getElem_cons_succ, List.setIfInBounds_toArray, List.set_cons_zero, List.set_cons_succ]
    refine wpAnyH_take (i := 4) (v := ?_) rfl (by kernel_rfl) (by kernel_rfl) (by kernel_rfl) (fun _ _ _ h => h) (Or.inl ⟨by rfl, ?_⟩) (by assumption) ?_
    rotate_left
    · (intro w hSw; (try dsimp only at hSw); go_simp; try with_reducible rfl)
    try simp only [Act.put, List.getElem_toArray, List.getElem_cons_zero, List.getElem_cons_succ, List.setIfInBounds_toArray, List.set_cons_zero, List.set_cons_succ]
    refine wpAnyH_take (i := 5) (v := ?_) rfl (by kernel_rfl) (by kernel_rfl) (by kernel_rfl) (fun _ _ _ h => h) (Or.inl ⟨by rfl, ?_⟩) (by assumption) ?_
    rotate_left
    · (intro w hSw; (try dsimp only at hSw); go_simp; try with_reducible rfl)
    try simp only [Act.put, List.getElem_toArray, List.getElem_cons_zero, List.getElem_cons_succ, List.setIfInBounds_toArray, List.set_cons_zero, List.set_cons_succ]
    refine wpAnyH_take (i := 6) (v := ?_) rfl (by kernel_rfl) (by kernel_rfl) (by kernel_rfl) (fun _ _ _ h => h) (Or.inl ⟨by rfl, ?_⟩) (by assumption) ?_
    rotate_left
    · (intro w hSw; (try dsimp only at hSw); go_simp; try with_reducible rfl)
    try simp only [Act.put, List.getElem_toArray, List.getElem_cons_zero, List.getElem_cons_succ, List.setIfInBounds_toArray, List.set_cons_zero, List.set_cons_succ]
    refine wpAnyH_take (i := 7) (v := ?_) rfl (by kernel_rfl) (by kernel_rfl) (by kernel_rfl) (fun _ _ _ h => h) (Or.inl ⟨by rfl, ?_⟩) (by assumption) ?_
    rotate_left
    · (intro w hSw; (try dsimp only at hSw); go_simp; try with_reducible rfl)
    try simp only [Act.put, List.getElem_toArray, List.getElem_cons_zero, List.getElem_cons_succ, List.setIfInBounds_toArray, List.set_cons_zero, List.set_cons_succ]
    refine wpAnyH_take (i := 8) (v := ?_) rfl (by kernel_rfl) (by kernel_rfl) (by kernel_rfl) (fun _ _ _ h => h) (Or.inl ⟨by rfl, ?_⟩) (by assumption) ?_
    rotate_left
    · (intro w hSw; (try dsimp only at hSw); go_simp; try with_reducible rfl)
    try simp only [Act.put, List.getElem_toArray, List.getElem_cons_zero, List.getElem_cons_succ, List.setIfInBounds_toArray, List.set_cons_zero, List.set_cons_succ]
    refine wpAnyH_ready (rs := [9]) (by kernel_rfl) (by simp) ?_
    refine AllReadyH.cons (o := ⟨some 36, _, _, _, _, _⟩) rfl (fun K hK => ?_) AllReadyH.nil
    go_simp
    refine (IHY.out b _ _ _ _ w2.drew p WY.out (HY.out.under (below_drew (Below.refl _ _))) (HB.out.under (below_drew (Below.refl _ _))) (fun z hz => Nat.lt_of_lt_of_le (HP.out z hz) (Nat.le_trans (BW.out.size) (below_drew (Below.refl w2.heap.size w2)).size))).mono ?_
    rintro e w3 ⟨A3, c3, K3, ck3, rfl, hv3, b3⟩
    have b23 := below_then (below_drew (Below.refl w2.heap.size w2)) b3
    have B23 := Lib.hid b23
    have HV3 : Hid (RexP w3 (fun z => (p z ∨ w2.heap.size ≤ z) ∧ z < w3.heap.size) (nCat y b) (.int .i64 (nCat y b).kind) (.slice A3 (nCat y b).set.length c3) (.slice K3 (nCat y b).kids.length ck3)) := hv3.lt.mono fun z hz => ⟨hz.1.imp id fun h => Nat.le_trans (below_drew (Below.refl w2.heap.size w2)).size h, hz.2⟩
    have HX3 : Hid (RexP w3 (fun z => (p z ∨ w2.heap.size ≤ z) ∧ z < w3.heap.size) x (.int .i64 x.kind) (.slice A1 x.set.length c1) (.slice K1 x.kids.length dk1)) := (HX.out.under b23).lt.mono fun z hz => ⟨.inl hz.1, hz.2⟩
    clear hv3 b3 b23
    (try go_wp2_with fail)
    refine hK.out _ _ (HC.out w3 (fun k hk _ => B23.out.block k hk)) (fun hHeld1 => ?_)
    clear hK K hHeld0
    try simp only [Act.put, List.getElem_toArray, List.getElem_cons_zero, List.getElem_cons_succ, List.setIfInBounds_toArray, List.set_cons_zero, List.set_cons_succ]
    refine wpAnyH_ready (rs := [10]) (by kernel_rfl) (by simp) ?_
    refine AllReadyH.cons (o := ⟨some 37, _, _, _, _, _⟩) rfl (fun K hK => ?_) AllReadyH.nil
    go_simp
    refine (IHX.out (nCat y b) _ _ _ _ w3 (fun z => (p z ∨ w2.heap.size ≤ z) ∧ z < w3.heap.size) WX.out HX3.out HV3.out (fun z hz => hz.2)).mono ?_
    rintro e w4 ⟨A4, c4, K4, ck4, rfl, hv4, b4⟩
    have B24 := Lib.hid (below_then B23.out b4)
    have h23 := B23.out.size
    have hw2 := BW.out.size
    have MR2 := MR.out.lt
    have HV4 : Hid (RexP w4 (fun z => z ≠ w.heap.size + 2 ∧ (p z ∨ w.heap.size ≤ z)) (nCat x (nCat y b)) (.int .i64 (nCat x (nCat y b)).kind) (.slice A4 (nCat x (nCat y b)).set.length c4) (.slice K4 (nCat x (nCat y b)).kids.length ck4)) := hv4.mono fun z hz => by
      rcases hz with ⟨h | h, _⟩ | h
      · exact ⟨fun e => by have := HP.out z h; omega, .inl h⟩
      · exact ⟨fun e => by omega, .inr (by omega)⟩
      · exact ⟨fun e => by omega, .inr (by omega)⟩
    have MR4 := Lib.hid (MR.out.below B24.out)
    have BW4 := Lib.hid (below_then BW.out B24.out)
    clear hv4 b4 HV3 HX3
    (try go_wp2_with fail)
    refine hK.out _ _ (HC.out w4 (fun k hk _ => B24.out.block k hk)) (fun hHeld2 => ?_)
    clear hK K hHeld1
    try simp only [Act.put, List.getElem_toArray, List.getElem_cons_zero, List.getElem_cons_succ, List.setIfInBounds_toArray, List.set_cons_zero, List.set_cons_succ]
    have r0 : w4.cell? ⟨w.heap.size + 2, 0, none⟩ = some (.int .i64 0) := by rw [MR4.out.cell]; rfl
    have r1 : w4.cell? ⟨w.heap.size + 2, 1, none⟩ = some nilS := by rw [MR4.out.cell]; rfl
    have r2 : w4.cell? ⟨w.heap.size + 2, 2, none⟩ = some nilS := by rw [MR4.out.cell]; rfl
    have q0 : w4.frozen? ⟨w.heap.size + 2, 0, none⟩ = false := MR4.out.free 0
    have q1 : w4.frozen? ⟨w.heap.size + 2, 1, none⟩ = false := MR4.out.free 1
    have q2 : w4.frozen? ⟨w.heap.size + 2, 2, none⟩ = false := MR4.out.free 2
    refine wpAnyH_ready (rs := [11]) (by kernel_rfl) (by simp) ?_
    refine AllReadyH.cons (o := ⟨none, _, _, _, _, _⟩) rfl (fun K hK => ?_) AllReadyH.nil
    go_simp
    obtain ⟨w5, hw5⟩ : ∃ z : World, z = ((w4.setCell ⟨w.heap.size + 2, 0, none⟩ (.int .i64 (nCat x (nCat y b)).kind)).setCell ⟨w.heap.size + 2, 1, none⟩ (.slice A4 (nCat x (nCat y b)).set.length c4)).setCell ⟨w.heap.size + 2, 2, none⟩ (.slice K4 (nCat x (nCat y b)).kids.length ck4) := ⟨_, rfl⟩
    have HX5 : Hid (Blk w5 (w.heap.size + 2) #[.int .i64 (nCat x (nCat y b)).kind, .slice A4 (nCat x (nCat y b)).set.length c4, .slice K4 (nCat x (nCat y b)).kids.length ck4] TRx) := by rw [hw5]; exact Lib.hid (by simpa using ((MR4.out.set 0 (.int .i64 (nCat x (nCat y b)).kind)).set 1 (.slice A4 (nCat x (nCat y b)).set.length c4)).set 2 (.slice K4 (nCat x (nCat y b)).kids.length ck4))
    have HG5 : Hid (w4.grownBy w5 (some (w.heap.size + 2))) := by rw [hw5]; exact grown_set (grown_set (grown_set (grown_refl _ _) _ _) _ _) _ _
    rw [← hw5]
    clear r0 r1 r2 q0 q1 q2 hw5
    refine hK.out _ _ (HC.out w5 (fun k hk hne => (HG5.out.block k (Nat.lt_of_lt_of_le hk B24.out.size) (fun e => hne (Option.some.inj e))).trans (B24.out.block k hk))) (fun hHeld3 => ?_)
    clear hK K hHeld2
    try simp only [Act.put, List.getElem_toArray, List.getElem_cons_zero, List.getElem_cons_succ, List.setIfInBounds_toArray, List.set_cons_zero, List.set_cons_succ]
    refine wpAnyH_done (by kernel_rfl) ?_ _
    clear hHeld3 HC
    go_wp2_with fail
    refine bodyPost_ret (results_cell_row rfl _ _ (w.heap.size + 2) TRx _ (0, 0) _ rfl HX5.out.eq Tryz.underlying26 rfl (by rw [sizeRx]; rfl)) rfl ?_
    rw [E.out]
    exact rex_fin rfl rfl HP.out HV4.out BW4.out HG5.out (by omega)
  · have E : Hid (nCat a b = two 3 a b) := nCat_two NA.out NB.out k2 k3 k4
    have d4 : (a.kind == 3) = false := by simp [k4]
    clear k2 k3 k4
    obtain ⟨wb, hwb⟩ : ∃ x, x = w2.alloc (.cells #[.int .i64 a.kind, .slice A a.set.length c, .slice K a.kids.length ck, .int .i64 b.kind, .slice B b.set.length d, .slice K' b.kids.length dk] TRx) := ⟨_, rfl⟩
    have hbb : Below w2.heap.size w2 wb := by rw [hwb]; exact below_alloc (Below.refl _ _) _
    have MX : Hid (Blk wb w2.heap.size #[.int .i64 a.kind, .slice A a.set.length c, .slice K a.kids.length ck, .int .i64 b.kind, .slice B b.set.length d, .slice K' b.kids.length dk] TRx) := by rw [hwb]; exact blk_new _ _ _
    have hw2 := BW.out.size
    have MR2 := MR.out.lt
    have MRb := Lib.hid (MR.out.below hbb)
    have HAb := Lib.hid (HA.out.under hbb)
    have HBb := Lib.hid (HB.out.under hbb)
    have BWb := Lib.hid (below_then BW.out hbb)
    obtain ⟨gB, hgB⟩ : ∃ g, g = w2.heap.size := ⟨_, rfl⟩
    rw [← hgB] at MX hw2 MR2
    replace hwb := hwb.symm
    replace hgB := hgB.symm
    clear hbb
    go_wp2_with ((with_reducible refine at_st 4 41 ?_); refine ev_store (o := ⟨none, .store _ (.tmp 4) _, _, _, _, _⟩) rfl rfl TRx (.tmp 4) (.tmp 41) rfl (w.heap.size + 2) 0 rfl [.int .i64 3, nilS, .slice (some ⟨gB, 0, none⟩) 2 2] rfl _ TRx MRb.out (sizeRx' _ _ _) (by show 0 + 3 ≤ 3; omega) (three_one _ _ _ _ _ _ _) ?_; intro w5 hX5 hg5; have HX5 : Hid (Blk w5 (w.heap.size + 2) ([.int .i64 3, nilS, .slice (some ⟨gB, 0, none⟩) 2 2]).toArray TRx) := hX5; have HG5 := Lib.hid hg5; clear hX5 hg5)
    refine bodyPost_ret (results_cell_row rfl _ _ (w.heap.size + 2) TRx _ (0, 0) _ rfl HX5.out.eq Tryz.underlying26 rfl (by rw [sizeRx]; rfl)) rfl ?_
    rw [E.out]
    refine rex_fin (t := two 3 a b) rfl rfl HP.out ?_ BWb.out HG5.out (by omega)
    refine RexP.of (k := 3) (s := []) (ks := [a, b]) ⟨⟨.inl rfl, Nat.le_refl _, by simp⟩, fun a e => by cases e⟩ (KidsP.mk2 MX.out ⟨by omega, .inr (by omega)⟩ (HAb.out.mono fun b hb => ⟨fun e => by have := HP.out b hb; omega, .inl hb⟩) (HBb.out.mono fun b hb => ⟨fun e => by have := HP.out b hb; omega, .inl hb⟩))

end Go.Proofs.YtfeidjjabjejiaaGreatDoor
