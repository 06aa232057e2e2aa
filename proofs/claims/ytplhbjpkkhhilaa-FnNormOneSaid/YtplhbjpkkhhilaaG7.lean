/- Texts joined for the claims: N2 C1 Ap. -/
import Derived.Test.YtplhbjpkkhhilaaG6
import Derived.Test.YtplhbjpkkhhilaaG2
import Derived.Deep.RegionHeld3
import Derived.Deep.DeepCutAuto
import Derived.Test.YtplhbjpkkhhilaaG5
import Derived.Maps.AppendAt
import Derived.Deep.AppendLies
import Derived.Deep.RegionLaw
/- normStar, of the program and of the reference; given, l4Deep. -/
namespace Go.Proofs.Ytplhbjpkkhhilaa
set_option linter.unusedSimpArgs false
set_option linter.unusedVariables false
open Go.RowKit

set_option maxHeartbeats 1000000 in
theorem iStar_c (r : Rex) (v1 v2 : Value) (w : World) (p : Nat → Prop) (h : RexP w p r (.int .i64 r.kind) v1 v2) (hp : ∀ b, p b → b < w.heap.size) :
    Calls Try.prog 65 #[.agg #[.int .i64 r.kind, v1, v2]] w (RexPost p (nStar r) w) := by
  obtain ⟨A, c, K, ck, _, rfl, rfl, hs, hk⟩ := h.parts
  obtain ⟨wa, hwa⟩ : ∃ x, x = (w.alloc (.cells #[.int .i64 r.kind, .slice A r.set.length c, .slice K r.kids.length ck] TRx)).alloc (.cells #[.int .i64 0, nilS, nilS] TRx) := ⟨_, rfl⟩
  have hb : Below w.heap.size w wa := by rw [hwa]; exact below_alloc (below_alloc (Below.refl _ _) _) _
  have m0 : Blk wa w.heap.size #[.int .i64 r.kind, .slice A r.set.length c, .slice K r.kids.length ck] TRx := by rw [hwa]; exact (blk_new w _ _).alloc _
  have m1 : Blk wa (w.heap.size + 1) #[.int .i64 0, nilS, nilS] TRx := by
    rw [hwa]
    have := blk_new (w.alloc (.cells #[.int .i64 r.kind, .slice A r.set.length c, .slice K r.kids.length ck] TRx)) #[.int .i64 0, nilS, nilS] TRx
    simpa using this
  have hz1 : wa.heap.size = w.heap.size + 2 := by rw [hwa]; simp
  have HZ := Lib.hid hz1
  clear hz1
  replace hwa := hwa.symm
  have HV := Lib.hid (h.under hb)
  have HB := Lib.hid hb
  have M0 := Lib.hid m0
  have M1 := Lib.hid m1
  have HP := Lib.hid hp
  have n0 : wa.cell? ⟨w.heap.size, 0, none⟩ = some (.int .i64 r.kind) := by rw [m0.cell]; rfl
  have n1 : wa.cell? ⟨w.heap.size, 1, none⟩ = some (.slice A r.set.length c) := by rw [m0.cell]; rfl
  have n2 : wa.cell? ⟨w.heap.size, 2, none⟩ = some (.slice K r.kids.length ck) := by rw [m0.cell]; rfl
  clear hb m0 m1 hs hk h hp
  by_cases hk : r.kind = 5
  · have E : Hid (nStar r = r) := by show _ = _; rw [nStar, if_pos hk]
    have d5 : (r.kind == 5) = true := by simp [hk]
    clear hk
    go_enter Try.func65, Try.ntmps65
    go_wp2_with (refine ev_store (o := ⟨none, .store _ (.tmp 2) _, _, _, _, _⟩) rfl rfl TRx (.tmp 2) (.tmp 7) rfl (w.heap.size + 1) 0 rfl [.int .i64 r.kind, .slice A r.set.length c, .slice K r.kids.length ck] rfl _ TRx M1.out (sizeRx' _ _ _) (by show 0 + 3 ≤ 3; omega) (three_one _ _ _ _ _ _ _) ?_; intro w5 hX5 hg5; have HX5 : Hid (Blk w5 (w.heap.size + 1) ([.int .i64 r.kind, .slice A r.set.length c, .slice K r.kids.length ck]).toArray TRx) := hX5; have HG5 := Lib.hid hg5; clear hX5 hg5)
    refine bodyPost_ret (results_cell_row rfl _ _ (w.heap.size + 1) TRx _ (0, 0) _ rfl HX5.out.eq Try.underlying34 rfl (by rw [sizeRx]; rfl)) rfl ?_
    rw [E.out]
    exact rex_fin rfl rfl HP.out (HV.out.mono fun b hb => ⟨fun e => by have := HP.out b hb; omega, .inl hb⟩) HB.out HG5.out (Nat.le_succ _)
  have d5 : (r.kind == 5) = false := by simp [hk]
  by_cases hk2 : r.kind = 2
  · have E : Hid (nStar r = .mk 2 [] []) := by show _ = _; rw [nStar, if_neg hk, if_pos (.inl hk2)]
    have d2 : (r.kind == 2) = true := by simp [hk2]
    clear hk hk2
    go_enter Try.func65, Try.ntmps65
    go_wp2_with (refine ev_store (o := ⟨none, .store _ (.tmp 2) _, _, _, _, _⟩) rfl rfl TRx (.tmp 2) (.tmp 16) rfl (w.heap.size + 1) 0 rfl [.int .i64 2, nilS, nilS] rfl _ TRx M1.out (sizeRx' _ _ _) (by show 0 + 3 ≤ 3; omega) (three_one _ _ _ _ _ _ _) ?_; intro w5 hX5 hg5; have HX5 : Hid (Blk w5 (w.heap.size + 1) ([.int .i64 2, nilS, nilS]).toArray TRx) := hX5; have HG5 := Lib.hid hg5; clear hX5 hg5)
    refine bodyPost_ret (results_cell_row rfl _ _ (w.heap.size + 1) TRx _ (0, 0) _ rfl HX5.out.eq Try.underlying34 rfl (by rw [sizeRx]; rfl)) rfl ?_
    rw [E.out]
    exact rex_fin rfl rfl HP.out (RexP.leaf 2) HB.out HG5.out (Nat.le_succ _)
  have d2 : (r.kind == 2) = false := by simp [hk2]
  by_cases hn : isNo r = true
  · have E : Hid (nStar r = .mk 2 [] []) := by show _ = _; rw [nStar, if_neg hk, if_pos (.inr hn)]
    have HN := Lib.hid hn
    clear hk hk2 hn
    go_enter Try.func65, Try.ntmps65
    go_wp2_with fail
    clear hwa
    refine (iNo_c _ _ _ _ _ HV.out.rexv).mono ?_
    rintro e w1 ⟨rfl, b1⟩
    rw [HN.out]
    have M11 := Lib.hid (M1.out.below b1)
    have HB1 := Lib.hid (below_then HB.out b1)
    clear n0 n1 n2 b1
    go_wp2_with (refine ev_store (o := ⟨none, .store _ (.tmp 2) _, _, _, _, _⟩) rfl rfl TRx (.tmp 2) (.tmp 16) rfl (w.heap.size + 1) 0 rfl [.int .i64 2, nilS, nilS] rfl _ TRx M11.out (sizeRx' _ _ _) (by show 0 + 3 ≤ 3; omega) (three_one _ _ _ _ _ _ _) ?_; intro w5 hX5 hg5; have HX5 : Hid (Blk w5 (w.heap.size + 1) ([.int .i64 2, nilS, nilS]).toArray TRx) := hX5; have HG5 := Lib.hid hg5; clear hX5 hg5)
    refine bodyPost_ret (results_cell_row rfl _ _ (w.heap.size + 1) TRx _ (0, 0) _ rfl HX5.out.eq Try.underlying34 rfl (by rw [sizeRx]; rfl)) rfl ?_
    rw [E.out]
    exact rex_fin rfl rfl HP.out (RexP.leaf 2) HB1.out HG5.out (Nat.le_succ _)
  · have HN : Hid (isNo r = false) := by show _ = _; simpa using hn
    have E : Hid (nStar r = .mk 5 [] [r]) := by show _ = _; rw [nStar, if_neg hk, if_neg (by intro h; rcases h with h | h; exact hk2 h; exact hn h)]
    clear hk hk2 hn
    go_enter Try.func65, Try.ntmps65
    go_wp2_with fail
    clear hwa
    refine (iNo_c _ _ _ _ _ HV.out.rexv).mono ?_
    rintro e w1 ⟨rfl, b1⟩
    rw [HN.out]
    obtain ⟨wb, hwb⟩ : ∃ x, x = w1.alloc (.cells #[.int .i64 r.kind, .slice A r.set.length c, .slice K r.kids.length ck] TRx) := ⟨_, rfl⟩
    have hbb : Below wa.heap.size wa wb := by rw [hwb]; exact below_alloc b1 _
    have mb : Blk wb w1.heap.size #[.int .i64 r.kind, .slice A r.set.length c, .slice K r.kids.length ck] TRx := by rw [hwb]; exact blk_new _ _ _
    have MB := Lib.hid mb
    have M11 := Lib.hid (M1.out.below hbb)
    have M01 := Lib.hid (M0.out.below b1)
    have HVb := Lib.hid (HV.out.under hbb)
    have HBb := Lib.hid (below_then HB.out hbb)
    have HZ1 : Hid (w.heap.size + 2 ≤ w1.heap.size) := by have := b1.size; rw [HZ.out] at this; exact this
    clear n0 n1 n2
    have n0 : w1.cell? ⟨w.heap.size, 0, none⟩ = some (.int .i64 r.kind) := by rw [M01.out.cell]; rfl
    have n1 : w1.cell? ⟨w.heap.size, 1, none⟩ = some (.slice A r.set.length c) := by rw [M01.out.cell]; rfl
    have n2 : w1.cell? ⟨w.heap.size, 2, none⟩ = some (.slice K r.kids.length ck) := by rw [M01.out.cell]; rfl
    replace hwb := hwb.symm
    obtain ⟨gB, hgB⟩ : ∃ g, g = w1.heap.size := ⟨_, rfl⟩
    rw [← hgB] at MB HZ1
    replace hgB := hgB.symm
    clear mb hbb b1
    go_wp2_with (refine ev_store (o := ⟨none, .store _ (.tmp 2) _, _, _, _, _⟩) rfl rfl TRx (.tmp 2) (.tmp 19) rfl (w.heap.size + 1) 0 rfl [.int .i64 5, nilS, .slice (some ⟨gB, 0, none⟩) 1 1] rfl _ TRx M11.out (sizeRx' _ _ _) (by show 0 + 3 ≤ 3; omega) (three_one _ _ _ _ _ _ _) ?_; intro w5 hX5 hg5; have HX5 : Hid (Blk w5 (w.heap.size + 1) ([.int .i64 5, nilS, .slice (some ⟨gB, 0, none⟩) 1 1]).toArray TRx) := hX5; have HG5 := Lib.hid hg5; clear hX5 hg5)
    refine bodyPost_ret (results_cell_row rfl _ _ (w.heap.size + 1) TRx _ (0, 0) _ rfl HX5.out.eq Try.underlying34 rfl (by rw [sizeRx]; rfl)) rfl ?_
    rw [E.out]
    refine rex_fin rfl rfl HP.out ?_ HBb.out HG5.out (Nat.le_succ _)
    refine RexP.of (k := 5) (s := []) (ks := [r]) ⟨⟨.inl rfl, Nat.le_refl _, by simp⟩, fun a e => by cases e⟩ (KidsP.mk1 MB.out ⟨by have := HZ1.out; omega, .inr (by have := HZ1.out; omega)⟩ (HVb.out.mono fun b hb => ⟨fun e => by have := HP.out b hb; omega, .inl hb⟩))
set_option maxHeartbeats 1000000 in
theorem sStar_c (r : Rex) (v1 v2 : Value) (w : World) (p : Nat → Prop) (h : RexP w p r (.int .i64 r.kind) v1 v2) (hp : ∀ b, p b → b < w.heap.size) :
    Calls Try.prog 69 #[.agg #[.int .i64 r.kind, v1, v2]] w (RexPost p (nStar r) w) := by
  obtain ⟨A, c, K, ck, _, rfl, rfl, hs, hk⟩ := h.parts
  obtain ⟨wa, hwa⟩ : ∃ x, x = (w.alloc (.cells #[.int .i64 r.kind, .slice A r.set.length c, .slice K r.kids.length ck] TRx)).alloc (.cells #[.int .i64 0, nilS, nilS] TRx) := ⟨_, rfl⟩
  have hb : Below w.heap.size w wa := by rw [hwa]; exact below_alloc (below_alloc (Below.refl _ _) _) _
  have m0 : Blk wa w.heap.size #[.int .i64 r.kind, .slice A r.set.length c, .slice K r.kids.length ck] TRx := by rw [hwa]; exact (blk_new w _ _).alloc _
  have m1 : Blk wa (w.heap.size + 1) #[.int .i64 0, nilS, nilS] TRx := by
    rw [hwa]
    have := blk_new (w.alloc (.cells #[.int .i64 r.kind, .slice A r.set.length c, .slice K r.kids.length ck] TRx)) #[.int .i64 0, nilS, nilS] TRx
    simpa using this
  have hz1 : wa.heap.size = w.heap.size + 2 := by rw [hwa]; simp
  have HZ := Lib.hid hz1
  clear hz1
  replace hwa := hwa.symm
  have HV := Lib.hid (h.under hb)
  have HB := Lib.hid hb
  have M0 := Lib.hid m0
  have M1 := Lib.hid m1
  have HP := Lib.hid hp
  have n0 : wa.cell? ⟨w.heap.size, 0, none⟩ = some (.int .i64 r.kind) := by rw [m0.cell]; rfl
  have n1 : wa.cell? ⟨w.heap.size, 1, none⟩ = some (.slice A r.set.length c) := by rw [m0.cell]; rfl
  have n2 : wa.cell? ⟨w.heap.size, 2, none⟩ = some (.slice K r.kids.length ck) := by rw [m0.cell]; rfl
  clear hb m0 m1 hs hk h hp
  by_cases hk : r.kind = 5
  · have E : Hid (nStar r = r) := by show _ = _; rw [nStar, if_pos hk]
    have d5 : (r.kind == 5) = true := by simp [hk]
    clear hk
    go_enter Try.func69, Try.ntmps69
    go_wp2_with (refine ev_store (o := ⟨none, .store _ (.tmp 2) _, _, _, _, _⟩) rfl rfl TRx (.tmp 2) (.tmp 7) rfl (w.heap.size + 1) 0 rfl [.int .i64 r.kind, .slice A r.set.length c, .slice K r.kids.length ck] rfl _ TRx M1.out (sizeRx' _ _ _) (by show 0 + 3 ≤ 3; omega) (three_one _ _ _ _ _ _ _) ?_; intro w5 hX5 hg5; have HX5 : Hid (Blk w5 (w.heap.size + 1) ([.int .i64 r.kind, .slice A r.set.length c, .slice K r.kids.length ck]).toArray TRx) := hX5; have HG5 := Lib.hid hg5; clear hX5 hg5)
    refine bodyPost_ret (results_cell_row rfl _ _ (w.heap.size + 1) TRx _ (0, 0) _ rfl HX5.out.eq Try.underlying34 rfl (by rw [sizeRx]; rfl)) rfl ?_
    rw [E.out]
    exact rex_fin rfl rfl HP.out (HV.out.mono fun b hb => ⟨fun e => by have := HP.out b hb; omega, .inl hb⟩) HB.out HG5.out (Nat.le_succ _)
  have d5 : (r.kind == 5) = false := by simp [hk]
  by_cases hk2 : r.kind = 2
  · have E : Hid (nStar r = .mk 2 [] []) := by show _ = _; rw [nStar, if_neg hk, if_pos (.inl hk2)]
    have d2 : (r.kind == 2) = true := by simp [hk2]
    clear hk hk2
    go_enter Try.func69, Try.ntmps69
    go_wp2_with (refine ev_store (o := ⟨none, .store _ (.tmp 2) _, _, _, _, _⟩) rfl rfl TRx (.tmp 2) (.tmp 16) rfl (w.heap.size + 1) 0 rfl [.int .i64 2, nilS, nilS] rfl _ TRx M1.out (sizeRx' _ _ _) (by show 0 + 3 ≤ 3; omega) (three_one _ _ _ _ _ _ _) ?_; intro w5 hX5 hg5; have HX5 : Hid (Blk w5 (w.heap.size + 1) ([.int .i64 2, nilS, nilS]).toArray TRx) := hX5; have HG5 := Lib.hid hg5; clear hX5 hg5)
    refine bodyPost_ret (results_cell_row rfl _ _ (w.heap.size + 1) TRx _ (0, 0) _ rfl HX5.out.eq Try.underlying34 rfl (by rw [sizeRx]; rfl)) rfl ?_
    rw [E.out]
    exact rex_fin rfl rfl HP.out (RexP.leaf 2) HB.out HG5.out (Nat.le_succ _)
  have d2 : (r.kind == 2) = false := by simp [hk2]
  by_cases hn : isNo r = true
  · have E : Hid (nStar r = .mk 2 [] []) := by show _ = _; rw [nStar, if_neg hk, if_pos (.inr hn)]
    have HN := Lib.hid hn
    clear hk hk2 hn
    go_enter Try.func69, Try.ntmps69
    go_wp2_with fail
    clear hwa
    refine (sNo_c _ _ _ _ _ HV.out.rexv).mono ?_
    rintro e w1 ⟨rfl, b1⟩
    rw [HN.out]
    have M11 := Lib.hid (M1.out.below b1)
    have HB1 := Lib.hid (below_then HB.out b1)
    clear n0 n1 n2 b1
    go_wp2_with (refine ev_store (o := ⟨none, .store _ (.tmp 2) _, _, _, _, _⟩) rfl rfl TRx (.tmp 2) (.tmp 16) rfl (w.heap.size + 1) 0 rfl [.int .i64 2, nilS, nilS] rfl _ TRx M11.out (sizeRx' _ _ _) (by show 0 + 3 ≤ 3; omega) (three_one _ _ _ _ _ _ _) ?_; intro w5 hX5 hg5; have HX5 : Hid (Blk w5 (w.heap.size + 1) ([.int .i64 2, nilS, nilS]).toArray TRx) := hX5; have HG5 := Lib.hid hg5; clear hX5 hg5)
    refine bodyPost_ret (results_cell_row rfl _ _ (w.heap.size + 1) TRx _ (0, 0) _ rfl HX5.out.eq Try.underlying34 rfl (by rw [sizeRx]; rfl)) rfl ?_
    rw [E.out]
    exact rex_fin rfl rfl HP.out (RexP.leaf 2) HB1.out HG5.out (Nat.le_succ _)
  · have HN : Hid (isNo r = false) := by show _ = _; simpa using hn
    have E : Hid (nStar r = .mk 5 [] [r]) := by show _ = _; rw [nStar, if_neg hk, if_neg (by intro h; rcases h with h | h; exact hk2 h; exact hn h)]
    clear hk hk2 hn
    go_enter Try.func69, Try.ntmps69
    go_wp2_with fail
    clear hwa
    refine (sNo_c _ _ _ _ _ HV.out.rexv).mono ?_
    rintro e w1 ⟨rfl, b1⟩
    rw [HN.out]
    obtain ⟨wb, hwb⟩ : ∃ x, x = w1.alloc (.cells #[.int .i64 r.kind, .slice A r.set.length c, .slice K r.kids.length ck] TRx) := ⟨_, rfl⟩
    have hbb : Below wa.heap.size wa wb := by rw [hwb]; exact below_alloc b1 _
    have mb : Blk wb w1.heap.size #[.int .i64 r.kind, .slice A r.set.length c, .slice K r.kids.length ck] TRx := by rw [hwb]; exact blk_new _ _ _
    have MB := Lib.hid mb
    have M11 := Lib.hid (M1.out.below hbb)
    have M01 := Lib.hid (M0.out.below b1)
    have HVb := Lib.hid (HV.out.under hbb)
    have HBb := Lib.hid (below_then HB.out hbb)
    have HZ1 : Hid (w.heap.size + 2 ≤ w1.heap.size) := by have := b1.size; rw [HZ.out] at this; exact this
    clear n0 n1 n2
    have n0 : w1.cell? ⟨w.heap.size, 0, none⟩ = some (.int .i64 r.kind) := by rw [M01.out.cell]; rfl
    have n1 : w1.cell? ⟨w.heap.size, 1, none⟩ = some (.slice A r.set.length c) := by rw [M01.out.cell]; rfl
    have n2 : w1.cell? ⟨w.heap.size, 2, none⟩ = some (.slice K r.kids.length ck) := by rw [M01.out.cell]; rfl
    replace hwb := hwb.symm
    obtain ⟨gB, hgB⟩ : ∃ g, g = w1.heap.size := ⟨_, rfl⟩
    rw [← hgB] at MB HZ1
    replace hgB := hgB.symm
    clear mb hbb b1
    go_wp2_with (refine ev_store (o := ⟨none, .store _ (.tmp 2) _, _, _, _, _⟩) rfl rfl TRx (.tmp 2) (.tmp 19) rfl (w.heap.size + 1) 0 rfl [.int .i64 5, nilS, .slice (some ⟨gB, 0, none⟩) 1 1] rfl _ TRx M11.out (sizeRx' _ _ _) (by show 0 + 3 ≤ 3; omega) (three_one _ _ _ _ _ _ _) ?_; intro w5 hX5 hg5; have HX5 : Hid (Blk w5 (w.heap.size + 1) ([.int .i64 5, nilS, .slice (some ⟨gB, 0, none⟩) 1 1]).toArray TRx) := hX5; have HG5 := Lib.hid hg5; clear hX5 hg5)
    refine bodyPost_ret (results_cell_row rfl _ _ (w.heap.size + 1) TRx _ (0, 0) _ rfl HX5.out.eq Try.underlying34 rfl (by rw [sizeRx]; rfl)) rfl ?_
    rw [E.out]
    refine rex_fin rfl rfl HP.out ?_ HBb.out HG5.out (Nat.le_succ _)
    refine RexP.of (k := 5) (s := []) (ks := [r]) ⟨⟨.inl rfl, Nat.le_refl _, by simp⟩, fun a e => by cases e⟩ (KidsP.mk1 MB.out ⟨by have := HZ1.out; omega, .inr (by have := HZ1.out; omega)⟩ (HVb.out.mono fun b hb => ⟨fun e => by have := HP.out b hb; omega, .inl hb⟩))

theorem sDeep_c (r : Rex) (v1 v2 : Value) (w : World) (lo : Nat) (h : RexV w lo r (.int .i64 r.kind) v1 v2) :
    Calls Try.prog 67 #[.agg #[.int .i64 r.kind, v1, v2]] w fun e w' => e = .returned (.bool (formed 60 r)) ∧ Below w.heap.size w w' := by
  obtain ⟨A, c, K, ck, _, rfl, rfl, _, _⟩ := h.parts
  have HV := Lib.hid h
  have hb := below_alloc (Below.refl w.heap.size w) (.cells #[.int .i64 r.kind, .slice A r.set.length c, .slice K r.kids.length ck] TRx)
  have HB := Lib.hid hb
  clear h hb
  go_enter Try.func67, Try.ntmps67
  go_wp2_with fail
  refine (sForm_c r 60 _ _ _ _ (by omega) (HV.out.under HB.out)).mono ?_
  rintro e w1 ⟨rfl, b1⟩
  go_wp2
  go_ret
  exact ⟨rfl, below_then HB.out b1⟩

set_option maxHeartbeats 1000000 in
theorem iGiven_c (ks : List Rex) (K : Option Addr) (ck : Nat) (w : World) (lo : Nat) (h : Kids w lo K ck ks) :
    Calls Try.prog 63 #[.slice K ks.length ck] w fun e w' => e = .returned (.bool (ks.all (formed 60))) ∧ Below w.heap.size w w' := by
  have hlen := h.len
  unfold maxN at hlen
  have HK := Lib.hid h
  clear h
  go_enter Try.func63, Try.ntmps63
  go_wp2
  go_loopg [7] (ks.length) (fun n i wr => ∃ j : Nat, j + n = ks.length ∧ i = .int .i64 j ∧ Hid ((ks.drop j).all (formed 60) = ks.all (formed 60)) ∧ Hid (Below w.heap.size w wr))
  case atStart => exact ⟨0, by omega, rfl, by rw [List.drop_zero]; rfl, Below.refl _ _⟩
  case round =>
    obtain ⟨j, hj, rfl, HF, HW⟩ := hrel
    by_cases hlt : j < ks.length
    · obtain ⟨a, r, x1, x2, rfl, HX, HD, HV, c0, c1, c2⟩ := (HK.out.below HW.out).at_ j hlt
      obtain ⟨A1, d1, K1, e1, _, rfl, rfl, _⟩ := HV.out.parts
      have E2 : Hid ((ks.drop j).all (formed 60) = (formed 60 r && (ks.drop (j + 1)).all (formed 60))) := by show _ = _; rw [HD.out, List.all_cons]
      have hb2 := below_alloc (Below.refl wr.heap.size wr) (.cells #[.int .i64 r.kind, .slice A1 r.set.length d1, .slice K1 r.kids.length e1] TRx)
      have HV2 := Lib.hid (HV.out.under hb2)
      have HW2 := Lib.hid (below_then HW.out hb2)
      clear hb2
      go_wp2_with fail
      refine (iForm_c r 60 _ _ _ _ (by omega) HV2.out).mono ?_
      rintro e w4 ⟨rfl, b4⟩
      have HW4 := Lib.hid (below_then HW2.out b4)
      clear b4 c0 c1 c2
      by_cases hf : formed 60 r = true
      · have HQ := Lib.hid hf
        rw [hf]
        clear hf
        go_wp2
        go_roundg (gk - 1)
        case rel => exact ⟨j + 1, by omega, by go_num, by have := HF.out; rw [E2.out, HQ.out] at this; exact this, HW4⟩
        case measure => omega
      · have HQ : Hid (formed 60 r = false) := by show _ = _; simpa using hf
        rw [HQ.out]
        clear hf
        go_wp2
        go_ret
        exact ⟨ret_bool (by rw [← HF.out, E2.out, HQ.out]; rfl), HW4.out⟩
    · go_wp2
      go_ret
      exact ⟨ret_bool (by rw [← HF.out, List.drop_of_length_le (by omega)]; rfl), HW.out⟩

end Go.Proofs.Ytplhbjpkkhhilaa

/- rexCopy: a tree in new memory. -/
namespace Go.Proofs.Ytplhbjpkkhhilaa
set_option linter.unusedSimpArgs false
set_option linter.unusedVariables false
open Go.RowKit

set_option maxHeartbeats 4000000 in
theorem rexCopy_c (r : Rex) : CopyOk r := by
  refine Rex.ind (p := CopyOk) (fun k s ks ih => ?_) r
  intro v1 v2 w lo h hsz
  obtain ⟨A, c, K, ck, _, rfl, rfl, hs, hk⟩ := h.parts
  dsimp only [Rex.kind, Rex.set, Rex.kids] at hs hk ⊢
  rw [Rex.size] at hsz
  clear h
  obtain ⟨wa, hwa⟩ : ∃ x, x = (w.alloc (.cells #[.int .i64 k, .slice A s.length c, .slice K ks.length ck] TRx)).alloc (.cells #[.int .i64 0, nilS, nilS] TRx) := ⟨_, rfl⟩
  have hb : Below w.heap.size w wa := by rw [hwa]; exact below_alloc (below_alloc (Below.refl _ _) _) _
  have m0 : Blk wa w.heap.size #[.int .i64 k, .slice A s.length c, .slice K ks.length ck] TRx := by rw [hwa]; exact (blk_new w _ _).alloc _
  have m1 : Blk wa (w.heap.size + 1) #[.int .i64 0, nilS, nilS] TRx := by
    rw [hwa]
    have := blk_new (w.alloc (.cells #[.int .i64 k, .slice A s.length c, .slice K ks.length ck] TRx)) #[.int .i64 0, nilS, nilS] TRx
    simpa using this
  have hz1 : w.heap.size + 1 < wa.heap.size := m1.lt
  replace hwa := hwa.symm
  obtain ⟨cs, hcs⟩ := (hk.below hb).krow
  have HB := Lib.hid hb
  have M0 := Lib.hid m0
  have M1 := Lib.hid m1
  have HS := Lib.hid (hs.below hb)
  have HC := Lib.hid hcs
  clear hb m0 m1 hs hk hcs
  have HM : Hid (∀ w', Below wa.heap.size wa w' → w'.cell? ⟨w.heap.size, 0, none⟩ = some (.int .i64 k) ∧ w'.cell? ⟨w.heap.size, 1, none⟩ = some (.slice A s.length c) ∧ w'.cell? ⟨w.heap.size, 2, none⟩ = some (.slice K ks.length ck)) := fun w' hb =>
    ⟨by rw [(M0.out.below hb).cell]; rfl, by rw [(M0.out.below hb).cell]; rfl, by rw [(M0.out.below hb).cell]; rfl⟩
  go_enter Try.func64, Try.ntmps64
  go_upto_region 1 with fail
  clear hwa
  go_cut [3] (fun s3 wx => CopyMidP wa k s ks.length cs s3 wx)
  case first =>
    go_region_held3 (fun w' => Below wa.heap.size wa w' ∧ w'.cell? ⟨w.heap.size, 0, none⟩ = some (.int .i64 k) ∧ w'.cell? ⟨w.heap.size, 1, none⟩ = some (.slice A s.length c) ∧ w'.cell? ⟨w.heap.size, 2, none⟩ = some (.slice K ks.length ck))
      ((refine (fun h => ⟨h, HM.out _ h⟩ : Below wa.heap.size wa _ → _) ?_; (repeat (first | exact BB.out | exact BA.out | exact Below.refl _ _ | exact below_drew (Below.refl _ _) | refine below_alloc ?_ _ | refine below_drew ?_ | refine below_set ?_ (by first | exact Nat.le_refl _ | exact BA.out.size | exact BB.out.size) _))))
      (first
        | (go_at_call 73; refine (copiedSpan_c A c s.length (spcs s) _ (HS.out.below (by first | exact below_drew (Below.refl _ _) | exact below_alloc (below_drew (Below.refl _ _)) _)).row (spcs_length _) (spcs_one _) (by omega)).mono ?_; rintro e wA ⟨vS, rfl, oS, bS⟩; obtain ⟨A1, c1, rfl, _, _⟩ := own_row oS; have BA : Hid (Below wa.heap.size wa wA) := below_then (by first | exact below_drew (Below.refl _ _) | exact below_alloc (below_drew (Below.refl _ _)) _) bS; have OS := Lib.hid oS; have BS := Lib.hid bS; (first | have ZA := Lib.hid ((show Blk (wa.drew.alloc (.cells #[.int .i64 0, nilS, nilS] TRx)) wa.heap.size #[.int .i64 0, nilS, nilS] TRx from blk_new wa.drew _ _).below bS) | skip); clear oS bS)
        | (go_at_call 84; refine (copiedRex_c K ck ks.length cs _ (HC.out.row.below (by first | exact BA.out | exact below_alloc BA.out _)) HC.out.len HC.out.one (by omega)).mono ?_; rintro e wB ⟨vK, rfl, oK, bK⟩; obtain ⟨K1, k1, rfl, _, _⟩ := own_row oK; have BB : Hid (Below wa.heap.size wa wB) := below_then (by first | exact BA.out | exact below_alloc BA.out _) bK; have OK := Lib.hid oK; have BK := Lib.hid bK; (first | have Z := ZA.out.below bK | have Z := (blk_new wA #[.int .i64 0, nilS, nilS] TRx).below bK | skip); (first | (have z0 := (Z.cell 0).trans rfl; have z1 := (Z.cell 1).trans rfl; have z2 := (Z.cell 2).trans rfl; have f0 := Z.free 0; have f1 := Z.free 1; have f2 := Z.free 2; have HZ := Lib.hid Z; clear Z) | skip); clear oK bK))
    all_goals
      go_wp2_with fail
      go_meet
      first | exact mid1 HS.out.len OS.out BS.out OK.out BK.out | exact mid2 HS.out.len OS.out BS.out OK.out BK.out | exact mid3 HS.out.len OS.out BS.out OK.out BK.out
  case rest =>
    obtain ⟨g, vS, vK, rfl, hm⟩ := hcut
    have hgl := hm.gl
    have HM1 := Lib.hid (M1.out.below hm.bel)
    have CM := Lib.hid hm
    obtain ⟨A1, c1, eS, _⟩ := hm.set.sps
    obtain ⟨K1, k1, eK, _, _⟩ := own_row hm.row
    subst eS eK
    have n2 : wc.cell? ⟨g, 2, none⟩ = some (.slice K1 ks.length k1) := by rw [hm.blk.cell]; rfl
    have hlen : ks.length ≤ 1073741824 := by omega
    clear hm M0 HM HS
    by_cases h0 : ks = []
    · subst h0
      have hrow := CM.out.row
      have ecs : cs = [] := by have := HC.out.len; simpa using this
      rw [ecs] at hrow
      have HOK : Hid (OwnK wc (vblk (.slice K1 ([] : List Rex).length k1)) [] (.slice K1 ([] : List Rex).length k1) []) := ⟨rfl, own_lower hrow (Nat.zero_le _), by simp, fun i r x h => by simp at h, by simp [fps], by unfold vblk; split <;> simp⟩
      have HFK : Hid (∀ b, b ∈ vblk (.slice K1 ([] : List Rex).length k1) → wa.heap.size ≤ b ∧ b ∉ vblk (.slice A1 s.length c1)) := fun b hb => ⟨(own_vlt hrow b hb).1, fun h => CM.out.dj b h hb⟩
      have HBG := Lib.hid CM.out.blk
      have HOS := Lib.hid CM.out.set
      have HBE := Lib.hid CM.out.bel
      clear hrow CM ecs
      simp only [List.length_nil] at n2 HBG HOK HFK ⊢
      go_wp2_with fail
      go_loopg [17] 0 (fun n i wr => n = 0 ∧ i = .int .i64 0 ∧ wr = wc)
      case atStart => exact ⟨rfl, rfl, rfl⟩
      case round =>
        obtain ⟨_, rfl, rfl⟩ := hrel
        go_wp2_with (first
          | (refine ev_load (o := ⟨some 31, _, _, _, _, _⟩) rfl TRx _ rfl g rfl [.int .i64 k, .slice A1 s.length c1, (.slice K1 0 k1)] TRx HBG.out _ Try.underlying34 rfl (sizeRx' _ _ _) ?_)
          | (refine ev_store (o := ⟨none, .store _ (.tmp 2) _, _, _, _, _⟩) rfl rfl TRx (.tmp 2) (.tmp 31) rfl (w.heap.size + 1) 0 rfl [.int .i64 k, .slice A1 s.length c1, (.slice K1 0 k1)] rfl _ TRx HM1.out (sizeRx' _ _ _) (by show 0 + 3 ≤ 3; omega) (three_one _ _ _ _ _ _ _) ?_; intro w5 hX5 hg5; have HX5 : Hid (Blk w5 (w.heap.size + 1) #[.int .i64 k, .slice A1 s.length c1, (.slice K1 0 k1)] TRx) := hX5; have HG5 := Lib.hid hg5; clear hX5 hg5))
        have hz : w.heap.size + 1 < wa.heap.size := hz1
        refine bodyPost_ret (results_cell_row rfl _ _ (w.heap.size + 1) TRx _ (0, 0) _ rfl HX5.out.eq Try.underlying34 rfl (by rw [sizeRx]; rfl)) rfl ?_
        exact copy_fin hz HB.out HOS.out HOK.out HBE.out HFK.out HG5.out
    · have hpos : 0 < ks.length := List.length_pos_iff.2 h0
      clear h0
      obtain ⟨gK, capK, eK2, hgK, _⟩ := own_form CM.out.row hpos
      injection eK2 with e1 e2 e3
      subst e1 e3
      obtain ⟨cur, hBK, hcsz, hcap, _, hcm, htk⟩ := own_blk CM.out.row
      have hgKc : gK < wc.heap.size := hBK.lt
      have hgc : g < wc.heap.size := CM.out.blk.lt
      have HX := Lib.hid (KPart.first (ks := ks) hBK hcsz hcap hcm hgK)
      have HT : Hid (∀ t, 0 * 3 ≤ t → t < ks.length * 3 → cur[t]? = cs[t]?) := fun t _ ht => by
        rw [← htk, List.getElem?_take, if_pos ht, Array.getElem?_toList]
      have HBG := Lib.hid CM.out.blk
      have HOS := Lib.hid CM.out.set
      have HBE := Lib.hid CM.out.bel
      have HVS : Hid (∀ b, b ∈ vblk (.slice A1 s.length c1) → b < wc.heap.size) := fun b hb => (CM.out.set.lt b hb).2
      have HDJ := Lib.hid CM.out.dj
      have HGK : Hid (gK ≠ g) := fun e => CM.out.gK (by rw [e]; simp [vblk_some])
      have HGV : Hid (gK ∉ vblk (.slice A1 s.length c1)) := fun h => CM.out.dj gK h (by simp [vblk_some])
      have HGS := Lib.hid CM.out.gS
      clear CM hBK hcsz hcap hcm htk
      go_wp2_with fail
      go_loopg [17] (ks.length) (fun n i wr => ∃ j : Nat, j + n = ks.length ∧ i = .int .i64 j ∧ ∃ (cur : Array Value) (L : List KInfo), Hid (KPart wr gK wa.heap.size k1 cur ks j L) ∧ Hid (∀ t, j * 3 ≤ t → t < ks.length * 3 → cur[t]? = cs[t]?) ∧
        Hid (Blk wr g #[.int .i64 k, .slice A1 s.length c1, .slice (some ⟨gK, 0, none⟩) ks.length k1] TRx) ∧ Hid (OwnSp wr wa.heap.size (.slice A1 s.length c1) s) ∧ Hid (Below wa.heap.size wa wr) ∧ Hid (Blk wr (w.heap.size + 1) #[.int .i64 0, nilS, nilS] TRx) ∧ Hid (∀ b, b ∈ fps L → wc.heap.size ≤ b) ∧ Hid (wc.heap.size ≤ wr.heap.size))
      case atStart => exact ⟨0, by omega, rfl, cur, [], HX, HT, HBG, HOS, HBE, HM1, fun b hb => by simp [fps] at hb, Nat.le_refl _⟩
      case round =>
        clear HX HT HBG HOS HBE HM1 n2
        obtain ⟨j, hj, rfl, cur, L, HX, HT, HBG, HOS, HBE, HM1, HFL, HWZ⟩ := hrel
        have n2 : wr.cell? ⟨g, 2, none⟩ = some (.slice (some ⟨gK, 0, none⟩) ks.length k1) := by rw [HBG.out.cell]; rfl
        by_cases hlt : j < ks.length
        · obtain ⟨r, hr⟩ : ∃ r, ks[j]? = some r := ⟨ks[j], List.getElem?_eq_getElem hlt⟩
          obtain ⟨x1, x2, g0, g1, g2, hv⟩ := HC.out.each j r hr
          obtain ⟨A2, c2, K2, d2, _, rfl, rfl, _⟩ := hv.parts
          have hmem := List.mem_of_getElem? hr
          have hks := size_kid hmem
          rw [← HT.out (j * 3) (Nat.le_refl _) (by omega)] at g0
          rw [← HT.out (j * 3 + 1) (by omega) (by omega)] at g1
          rw [← HT.out (j * 3 + 2) (by omega) (by omega)] at g2
          have HR := Lib.hid hr
          have HV := Lib.hid (hv.under HBE.out)
          have HME : Hid (∀ w', Below wr.heap.size wr w' → w'.cell? ⟨g, 2, none⟩ = some (.slice (some ⟨gK, 0, none⟩) ks.length k1) ∧ w'.cell? ⟨gK, j * 3, none⟩ = some (.int .i64 r.kind) ∧ w'.cell? ⟨gK, j * 3 + 1, none⟩ = some (.slice A2 r.set.length c2) ∧ w'.cell? ⟨gK, j * 3 + 2, none⟩ = some (.slice K2 r.kids.length d2)) := fun w' hb =>
            ⟨by rw [(HBG.out.below hb).cell]; rfl, by rw [(HX.out.blk.below hb).cell]; exact g0, by rw [(HX.out.blk.below hb).cell]; exact g1, by rw [(HX.out.blk.below hb).cell]; exact g2⟩
          have i0 : (0 : Int) ≤ (j : Int) := by omega
          have i1 : (j : Int) < (ks.length : Int) := by omega
          clear hr hv g0 g1 g2
          go_wp2
          have z0 := (HME.out _ (Below.refl _ _)).2.1
          have z1 := (HME.out _ (Below.refl _ _)).2.2.1
          have z2 := (HME.out _ (Below.refl _ _)).2.2.2
          go_region_with (first
              | (go_at_call 64; refine (ih r hmem _ _ _ _ (HV.out.under (below_drew (Below.refl _ _))) (by omega)).mono ?_; rintro e wD ⟨u1, u2, fp, rfl, ho, hnd, hf, b3⟩; rw [← Rex.eta r] at ho; obtain ⟨L3, fk3, _, _, hos3, hok3⟩ := ho.parts; obtain ⟨A3, c3, rfl, _⟩ := hos3.sps; obtain ⟨K3, d3, rfl, _, _⟩ := own_row hok3.hk; clear hos3 hok3; have BD : Hid (Below wr.heap.size wr wD) := below_then (below_drew (Below.refl _ _)) b3; have HO := Lib.hid ho; have HND := Lib.hid hnd; have HF : Hid (∀ b, b ∈ fp → wr.heap.size ≤ b) := hf; clear ho hnd hf b3; have y2 := (HME.out _ BD.out).1; have y0 := (HME.out _ BD.out).2.1; have y1 := (HME.out _ BD.out).2.2.1; have y3 := (HME.out _ BD.out).2.2.2; have f0 := (HX.out.blk.below BD.out).free (j * 3); have f1 := (HX.out.blk.below BD.out).free (j * 3 + 1); have f2 := (HX.out.blk.below BD.out).free (j * 3 + 2)))
          all_goals
            clear y0 y1 y2 y3 f0 f1 f2 z0 z1 z2 n2 i0 i1
            go_wp2
            go_roundg (gk - 1)
            case rel =>
              have hs0 : wa.heap.size ≤ wr.heap.size := HBE.out.size
              obtain ⟨cur', hX', hT'⟩ := copy_round (n := 0) HX.out HR.out BD.out HO.out HF.out HND.out hs0 HT.out
              have hne : g ≠ gK := fun e => HGK.out e.symm
              refine ⟨j + 1, by omega, by go_num, cur', _, hX', hT', (((HBG.out.below BD.out).far hne _).far hne _).far hne _, (HOS.out.below BD.out).stay fun b hb => ?_, below_set (below_set (below_set (below_then HBE.out BD.out) hgK _) hgK _) hgK _, (((HM1.out.below BD.out).far (by show w.heap.size + 1 ≠ gK; omega) _).far (by show w.heap.size + 1 ≠ gK; omega) _).far (by show w.heap.size + 1 ≠ gK; omega) _, fun b hb => ?_, by show _ ≤ _; simp only [World.size_setCell]; exact Nat.le_trans HWZ.out BD.out.size⟩
              · have hb' : b ≠ gK := fun e => HGV.out (e ▸ hb)
                exact (Below.heap_setCell _ _ _ _ hb').trans ((Below.heap_setCell _ _ _ _ hb').trans (Below.heap_setCell _ _ _ _ hb'))
              · rw [fps_append] at hb
                rcases List.mem_append.1 hb with hb | hb
                · exact HFL.out b hb
                · exact Nat.le_trans HWZ.out (HF.out b (by simpa [fps] using hb))
            case measure => omega
        · have hj' : j = ks.length := by omega
          have HOK := Lib.hid (HX.out.done hj')
          have HFK : Hid (∀ b, b ∈ gK :: fps L → wa.heap.size ≤ b ∧ b ∉ vblk (.slice A1 s.length c1)) := fun b hb => by
            refine ⟨HX.out.lo b hb, fun h => ?_⟩
            rcases List.mem_cons.1 hb with e | hb
            · exact HGV.out (e ▸ h)
            · have h1 := HFL.out b hb
              have h2 := HVS.out b h
              omega
          clear hj' HT HX n2
          go_wp2_with (first
            | (refine ev_load (o := ⟨some 31, _, _, _, _, _⟩) rfl TRx _ rfl g rfl [.int .i64 k, .slice A1 s.length c1, (.slice (some ⟨gK, 0, none⟩) ks.length k1)] TRx HBG.out _ Try.underlying34 rfl (sizeRx' _ _ _) ?_)
            | (refine ev_store (o := ⟨none, .store _ (.tmp 2) _, _, _, _, _⟩) rfl rfl TRx (.tmp 2) (.tmp 31) rfl (w.heap.size + 1) 0 rfl [.int .i64 k, .slice A1 s.length c1, (.slice (some ⟨gK, 0, none⟩) ks.length k1)] rfl _ TRx HM1.out (sizeRx' _ _ _) (by show 0 + 3 ≤ 3; omega) (three_one _ _ _ _ _ _ _) ?_; intro w5 hX5 hg5; have HX5 : Hid (Blk w5 (w.heap.size + 1) #[.int .i64 k, .slice A1 s.length c1, (.slice (some ⟨gK, 0, none⟩) ks.length k1)] TRx) := hX5; have HG5 := Lib.hid hg5; clear hX5 hg5))
          have hz : w.heap.size + 1 < wa.heap.size := hz1
          refine bodyPost_ret (results_cell_row rfl _ _ (w.heap.size + 1) TRx _ (0, 0) _ rfl HX5.out.eq Try.underlying34 rfl (by rw [sizeRx]; rfl)) rfl ?_
          exact copy_fin hz HB.out HOS.out HOK.out HBE.out HFK.out HG5.out

end Go.Proofs.Ytplhbjpkkhhilaa

/- append, of a row that may be nil; laws for regions that draw their order. -/
namespace Go.Proofs.Ytplhbjpkkhhilaa
set_option linter.unusedSimpArgs false
set_option linter.unusedVariables false
open Go.RowKit

section
variable {P : Program} {w : World}
theorem run_append_row (base : Nat) (t ty e : TypeId) (i : TypeInfo) (z : Value) (size bytes : Nat) (ht : P.underlying t = some (.slice e)) (hi : P.info? e = some i) (hz : i.zero = some z)
    (hsize : i.size = size) (hby : i.bytes = bytes) (hzs : z.cells.size = size) (hsz : 0 < size)
    (v : Value) (n : Nat) (xs : List Value) (hown : w.ownsRow base e size v n xs)
    (A : Option Addr) (m c : Nat) (news : List Value) {lo : Nat} (hrow : Row w lo A news) (hl : news.length = m * size) (h1 : ∀ u ∈ news, u.oneCell' = true)
    (h63 : n + m ≤ maxLen) (hbytes : (n + m) * bytes ≤ 140737488355328) (hbase : base ≤ w.heap.size) :
    ∃ A' c' w', (Builtin.append_ #[t, t] ty #[v, .slice A m c]).run P w = .ok (.slice A' (n + m) c') w' ∧ w'.ownsRow base e size (.slice A' (n + m) c') (n + m) (xs ++ news) ∧ w.grownBy w' v.ownBlock ∧
      ∀ b, b ∈ vblk (.slice A' (n + m) c') → b ∈ vblk v ∨ b = w.heap.size := by
  cases A with
  | some ad =>
    have hcells : ∀ j u, news[j]? = some u → w.cell? (ad.add j) = some u := by
      rcases hrow with rfl | ⟨a, e', _, hc⟩
      · intro j u h; simp at h
      · injection e' with e'; subst e'; exact hc
    obtain ⟨v', w', hr, ho, hg, _, hb⟩ := run_append_own_at (P := P) w base t ty e i z size bytes ht hi hz hsize hby hzs hsz v n xs hown ad m c news hl hcells h1 h63 hbytes hbase
    obtain ⟨A', c', rfl, _⟩ := own_row ho
    refine ⟨A', c', w', hr, ho, hg, fun b h => ?_⟩
    rw [mem_vblk] at h
    rcases hb with hb | hb
    · exact .inl (mem_vblk.2 (hb ▸ h))
    · right; rw [hb] at h; injection h with h; exact h.symm
  | none =>
    have hn : news = [] := by
      rcases hrow with h | ⟨a, e', _⟩
      · exact h
      · cases e'
    subst hn
    have hm : m = 0 := by
      rcases Nat.eq_zero_or_pos m with h | h
      · exact h
      · exfalso
        have := Nat.mul_le_mul h (Nat.le_refl size)
        simp at hl
        omega
    subst hm
    obtain ⟨A', c', rfl, _⟩ := own_row hown
    refine ⟨A', c', w, ?_, by simpa using hown, ⟨rfl, rfl, rfl, Nat.le_refl _, fun _ _ _ => rfl⟩, fun b h => .inl h⟩
    rcases hown.2 with ⟨e1, rfl⟩ | ⟨g, cap, cur, e1, _, _, hnc, _⟩
    · injection e1 with e1 e2 e3
      subst e1 e3
      simp [Builtin.append_, run_underlying ht, sizeOf, typeInfo, hi, Builtin.lenOf, Builtin.firstCells]
    · injection e1 with e1 e2 e3
      subst e1 e3
      simp [Builtin.append_, run_underlying ht, sizeOf, typeInfo, hi, Builtin.lenOf, Builtin.firstCells, hnc, storeCells]

theorem wp_append_row {o : Oper} {a : Act} {K : Act → World → Prop} {Q : Exit → Act → World → Prop} (s x : Operand) (t : TypeId)
    (ho : o.op = .call { callee := .builtin .append, args := #[s, x], argTypes := #[t, t] })
    (base : Nat) (e : TypeId) (i : TypeInfo) (z : Value) (size bytes : Nat) (ht : P.underlying t = some (.slice e)) (hi : P.info? e = some i) (hz : i.zero = some z)
    (hsize : i.size = size) (hby : i.bytes = bytes) (hzs : z.cells.size = size) (hsz : 0 < size)
    (v : Value) (n : Nat) (xs : List Value) (hs : a.eval s = v) (hown : w.ownsRow base e size v n xs)
    (A : Option Addr) (m c : Nat) (news : List Value) (hx : a.eval x = .slice A m c) {lo : Nat} (hrow : Row w lo A news) (hl : news.length = m * size) (h1 : ∀ u ∈ news, u.oneCell' = true)
    (h63 : n + m ≤ maxLen) (hbytes : (n + m) * bytes ≤ 140737488355328) (hbase : base ≤ w.heap.size) (H : Nat) (hH : w.heap.size = H) (N : Nat) (hN : n + m = N)
    (h : ∀ A' c' w', w'.ownsRow base e size (.slice A' N c') N (xs ++ news) → w.grownBy w' v.ownBlock → (∀ b, b ∈ vblk (.slice A' N c') → b ∈ vblk v ∨ b = H) → K (a.put o.dst (.slice A' N c')) w') : o.wp P a w K Q := by
  obtain ⟨A', c', w', hr, h2, h3, h4⟩ := run_append_row (P := P) (w := w) base t o.type e i z size bytes ht hi hz hsize hby hzs hsz v n xs hown A m c news hrow hl h1 h63 hbytes hbase
  unfold Oper.wp execOp
  simp only [ho, resolve, invoke, builtin, Sem.run_bind, Sem.run_pure, Result.andThen_ok, List.map_toArray, List.map_cons, List.map_nil, hs, hx, hr]
  subst hN
  exact h A' c' w' h2 h3 (hH ▸ h4)
theorem wpList_append_row {ops : Array Oper} {rest : List Oper} {o : Oper} {a : Act} {Q : Exit → Act → World → Prop} (hgd : o.guard = none) (s x : Operand) (t : TypeId)
    (ho : o.op = .call { callee := .builtin .append, args := #[s, x], argTypes := #[t, t] })
    (base : Nat) (e : TypeId) (i : TypeInfo) (z : Value) (size bytes : Nat) (ht : P.underlying t = some (.slice e)) (hi : P.info? e = some i) (hz : i.zero = some z)
    (hsize : i.size = size) (hby : i.bytes = bytes) (hzs : z.cells.size = size) (hsz : 0 < size)
    (v : Value) (n : Nat) (xs : List Value) (hs : a.eval s = v) (hown : w.ownsRow base e size v n xs)
    (A : Option Addr) (m c : Nat) (news : List Value) (hx : a.eval x = .slice A m c) {lo : Nat} (hrow : Row w lo A news) (hl : news.length = m * size) (h1 : ∀ u ∈ news, u.oneCell' = true)
    (h63 : n + m ≤ maxLen) (hbytes : (n + m) * bytes ≤ 140737488355328) (hbase : base ≤ w.heap.size) (H : Nat) (hH : w.heap.size = H) (N : Nat) (hN : n + m = N)
    (h : ∀ A' c' w', w'.ownsRow base e size (.slice A' N c') N (xs ++ news) → w.grownBy w' v.ownBlock → (∀ b, b ∈ vblk (.slice A' N c') → b ∈ vblk v ∨ b = H) → wpList P ops Q rest (a.put o.dst (.slice A' N c')) w') : wpList P ops Q (o :: rest) a w :=
  wpList_plain hgd fun _ hK => wp_append_row s x t ho base e i z size bytes ht hi hz hsize hby hzs hsz v n xs hs hown A m c news hx hrow hl h1 h63 hbytes hbase H hH N hN fun A' c' w' h2 h3 h4 => hK _ _ (h A' c' w' h2 h3 h4)
theorem step_append_row {ops : Array Oper} {o : Oper} {a : Act} {K : Act → World → Prop} {Q : Exit → Act → World → Prop} {E : Prop} (hgd : o.guard = none) (s x : Operand) (t : TypeId)
    (ho : o.op = .call { callee := .builtin .append, args := #[s, x], argTypes := #[t, t] })
    (base : Nat) (e : TypeId) (i : TypeInfo) (z : Value) (size bytes : Nat) (ht : P.underlying t = some (.slice e)) (hi : P.info? e = some i) (hz : i.zero = some z)
    (hsize : i.size = size) (hby : i.bytes = bytes) (hzs : z.cells.size = size) (hsz : 0 < size)
    (v : Value) (n : Nat) (xs : List Value) (hs : a.eval s = v) (hown : w.ownsRow base e size v n xs)
    (A : Option Addr) (m c : Nat) (news : List Value) (hx : a.eval x = .slice A m c) {lo : Nat} (hrow : Row w lo A news) (hl : news.length = m * size) (h1 : ∀ u ∈ news, u.oneCell' = true)
    (h63 : n + m ≤ maxLen) (hbytes : (n + m) * bytes ≤ 140737488355328) (hbase : base ≤ w.heap.size) (H : Nat) (hH : w.heap.size = H) (N : Nat) (hN : n + m = N)
    (h : ∀ A' c' w', w'.ownsRow base e size (.slice A' N c') N (xs ++ news) → w.grownBy w' v.ownBlock → (∀ b, b ∈ vblk (.slice A' N c') → b ∈ vblk v ∨ b = H) → K (a.put o.dst (.slice A' N c')) w') :
    if Region.wanted o (yielded ops a.tmps) = true then Oper.wp P o a w K Q else E := by
  have hw : Region.wanted o (yielded ops a.tmps) = true := by simp [Region.wanted, hgd]
  rw [if_pos hw]
  exact wp_append_row s x t ho base e i z size bytes ht hi hz hsize hby hzs hsz v n xs hs hown A m c news hx hrow hl h1 h63 hbytes hbase H hH N hN h
/-- A call of a Go function, as one step of a region that draws. -/
theorem step_call {ops : Array Oper} {o : Oper} {a : Act} {K : Act → World → Prop} {Q : Exit → Act → World → Prop} {E : Prop} (hgd : o.guard = none) (f : FuncId) (xs : Array Operand) (ts : Array TypeId)
    (ho : o.op = .call { callee := .value (.func f), args := xs, argTypes := ts }) (fn : Func) (hf : P.funcs[f]? = some fn) (hname : (fn.name == "runtime.NumGoroutine") = false) (hb : fn.body.isNone = false)
    (vals : Array Value) (hv : xs.toList.map a.eval = vals.toList) {R : Value → World → Prop} (hc : Calls P f vals w fun e w' => ∃ v, e = .returned v ∧ R v w')
    (h : ∀ v w', R v w' → K (a.put o.dst v) w') : if Region.wanted o (yielded ops a.tmps) = true then Oper.wp P o a w K Q else E := by
  have hw : Region.wanted o (yielded ops a.tmps) = true := by simp [Region.wanted, hgd]
  rw [if_pos hw]
  have h1 : ¬ fn.name = "runtime.NumGoroutine" := by simpa using hname
  have h2 : ¬ fn.body = none := by cases hx : fn.body <;> simp_all
  have hrun : (execOp a.eval o).run P w = .ok (.enter f vals) w := by
    have hv' : xs.map a.eval = vals := Array.toList_inj.1 (by rw [Array.toList_map]; exact hv)
    rw [← hv']
    unfold execOp
    simp [ho, resolve, Deferred.ofValue, invoke, callFunc, hf, h1, h2, Act.eval]
  unfold Oper.wp
  rw [hrun, Oper.upon_enter]
  refine hc.mono ?_
  rintro e w' ⟨v, rfl, hr⟩
  exact h v w' hr
end

end Go.Proofs.Ytplhbjpkkhhilaa
