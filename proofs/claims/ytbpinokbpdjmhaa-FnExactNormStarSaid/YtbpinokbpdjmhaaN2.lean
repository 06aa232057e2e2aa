/- normStar, of the program and of the reference; given, l4Deep. -/
import Derived.Test.YtbpinokbpdjmhaaN1
import Derived.Test.YtbpinokbpdjmhaaT7
import Derived.Test.YtbpinokbpdjmhaaT8
namespace Go.Proofs.Ytbpinokbpdjmhaa
set_option linter.unusedSimpArgs false
set_option linter.unusedVariables false
open Go.RowKit

set_option maxHeartbeats 1000000 in
theorem iStar_c (r : Rex) (v1 v2 : Value) (w : World) (p : Nat → Prop) (h : RexP w p r (.int .i64 r.kind) v1 v2) (hp : ∀ b, p b → b < w.heap.size) :
    Calls Try.prog 60 #[.agg #[.int .i64 r.kind, v1, v2]] w (RexPost p (nStar r) w) := by
  obtain ⟨A, c, K, ck, _, rfl, rfl, hs, hk⟩ := h.parts
  obtain ⟨wa, hwa⟩ : ∃ x, x = (w.alloc (.cells #[.int .i64 r.kind, .slice A r.set.length c, .slice K r.kids.length ck] TRx)).alloc (.cells #[.int .i64 0, nilS, nilS] TRx) := ⟨_, rfl⟩
  have hb : Below w.heap.size w wa := by rw [hwa]; exact below_alloc (below_alloc (Below.refl _ _) _) _
  have m0 : Blk wa w.heap.size #[.int .i64 r.kind, .slice A r.set.length c, .slice K r.kids.length ck] TRx := by rw [hwa]; exact (blk_new w _ _).alloc _
  have m1 : Blk wa (w.heap.size + 1) #[.int .i64 0, nilS, nilS] TRx := by
    rw [hwa]
    have := blk_new (w.alloc (.cells #[.int .i64 r.kind, .slice A r.set.length c, .slice K r.kids.length ck] TRx)) #[.int .i64 0, nilS, nilS] TRx
    simpa using this
  have hz1 : wa.heap.size = w.heap.size + 2 := by rw [hwa]; simp
  have HZ := Lib.hid hz1
  clear hz1
  replace hwa := hwa.symm
  have HV := Lib.hid (h.under hb)
  have HB := Lib.hid hb
  have M0 := Lib.hid m0
  have M1 := Lib.hid m1
  have HP := Lib.hid hp
  have n0 : wa.cell? ⟨w.heap.size, 0, none⟩ = some (.int .i64 r.kind) := by rw [m0.cell]; rfl
  have n1 : wa.cell? ⟨w.heap.size, 1, none⟩ = some (.slice A r.set.length c) := by rw [m0.cell]; rfl
  have n2 : wa.cell? ⟨w.heap.size, 2, none⟩ = some (.slice K r.kids.length ck) := by rw [m0.cell]; rfl
  clear hb m0 m1 hs hk h hp
  by_cases hk : r.kind = 5
  · have E : Hid (nStar r = r) := by show _ = _; rw [nStar, if_pos hk]
    have d5 : (r.kind == 5) = true := by simp [hk]
    clear hk
    go_enter Try.func60, Try.ntmps60
    go_wp2_with (refine ev_store (o := ⟨none, .store _ (.tmp 2) _, _, _, _, _⟩) rfl rfl TRx (.tmp 2) (.tmp 7) rfl (w.heap.size + 1) 0 rfl [.int .i64 r.kind, .slice A r.set.length c, .slice K r.kids.length ck] rfl _ TRx M1.out (sizeRx' _ _ _) (by show 0 + 3 ≤ 3; omega) (three_one _ _ _ _ _ _ _) ?_; intro w5 hX5 hg5; have HX5 : Hid (Blk w5 (w.heap.size + 1) ([.int .i64 r.kind, .slice A r.set.length c, .slice K r.kids.length ck]).toArray TRx) := hX5; have HG5 := Lib.hid hg5; clear hX5 hg5)
    refine bodyPost_ret (results_cell_row rfl _ _ (w.heap.size + 1) TRx _ (0, 0) _ rfl HX5.out.eq Try.underlying31 rfl (by rw [sizeRx]; rfl)) rfl ?_
    rw [E.out]
    exact rex_fin rfl rfl HP.out (HV.out.mono fun b hb => ⟨fun e => by have := HP.out b hb; omega, .inl hb⟩) HB.out HG5.out (Nat.le_succ _)
  have d5 : (r.kind == 5) = false := by simp [hk]
  by_cases hk2 : r.kind = 2
  · have E : Hid (nStar r = .mk 2 [] []) := by show _ = _; rw [nStar, if_neg hk, if_pos (.inl hk2)]
    have d2 : (r.kind == 2) = true := by simp [hk2]
    clear hk hk2
    go_enter Try.func60, Try.ntmps60
    go_wp2_with (refine ev_store (o := ⟨none, .store _ (.tmp 2) _, _, _, _, _⟩) rfl rfl TRx (.tmp 2) (.tmp 16) rfl (w.heap.size + 1) 0 rfl [.int .i64 2, nilS, nilS] rfl _ TRx M1.out (sizeRx' _ _ _) (by show 0 + 3 ≤ 3; omega) (three_one _ _ _ _ _ _ _) ?_; intro w5 hX5 hg5; have HX5 : Hid (Blk w5 (w.heap.size + 1) ([.int .i64 2, nilS, nilS]).toArray TRx) := hX5; have HG5 := Lib.hid hg5; clear hX5 hg5)
    refine bodyPost_ret (results_cell_row rfl _ _ (w.heap.size + 1) TRx _ (0, 0) _ rfl HX5.out.eq Try.underlying31 rfl (by rw [sizeRx]; rfl)) rfl ?_
    rw [E.out]
    exact rex_fin rfl rfl HP.out (RexP.leaf 2) HB.out HG5.out (Nat.le_succ _)
  have d2 : (r.kind == 2) = false := by simp [hk2]
  by_cases hn : isNo r = true
  · have E : Hid (nStar r = .mk 2 [] []) := by show _ = _; rw [nStar, if_neg hk, if_pos (.inr hn)]
    have HN := Lib.hid hn
    clear hk hk2 hn
    go_enter Try.func60, Try.ntmps60
    go_wp2_with fail
    clear hwa
    refine (iNo_c _ _ _ _ _ HV.out.rexv).mono ?_
    rintro e w1 ⟨rfl, b1⟩
    rw [HN.out]
    have M11 := Lib.hid (M1.out.below b1)
    have HB1 := Lib.hid (below_then HB.out b1)
    clear n0 n1 n2 b1
    go_wp2_with (refine ev_store (o := ⟨none, .store _ (.tmp 2) _, _, _, _, _⟩) rfl rfl TRx (.tmp 2) (.tmp 16) rfl (w.heap.size + 1) 0 rfl [.int .i64 2, nilS, nilS] rfl _ TRx M11.out (sizeRx' _ _ _) (by show 0 + 3 ≤ 3; omega) (three_one _ _ _ _ _ _ _) ?_; intro w5 hX5 hg5; have HX5 : Hid (Blk w5 (w.heap.size + 1) ([.int .i64 2, nilS, nilS]).toArray TRx) := hX5; have HG5 := Lib.hid hg5; clear hX5 hg5)
    refine bodyPost_ret (results_cell_row rfl _ _ (w.heap.size + 1) TRx _ (0, 0) _ rfl HX5.out.eq Try.underlying31 rfl (by rw [sizeRx]; rfl)) rfl ?_
    rw [E.out]
    exact rex_fin rfl rfl HP.out (RexP.leaf 2) HB1.out HG5.out (Nat.le_succ _)
  · have HN : Hid (isNo r = false) := by show _ = _; simpa using hn
    have E : Hid (nStar r = .mk 5 [] [r]) := by show _ = _; rw [nStar, if_neg hk, if_neg (by intro h; rcases h with h | h; exact hk2 h; exact hn h)]
    clear hk hk2 hn
    go_enter Try.func60, Try.ntmps60
    go_wp2_with fail
    clear hwa
    refine (iNo_c _ _ _ _ _ HV.out.rexv).mono ?_
    rintro e w1 ⟨rfl, b1⟩
    rw [HN.out]
    obtain ⟨wb, hwb⟩ : ∃ x, x = w1.alloc (.cells #[.int .i64 r.kind, .slice A r.set.length c, .slice K r.kids.length ck] TRx) := ⟨_, rfl⟩
    have hbb : Below wa.heap.size wa wb := by rw [hwb]; exact below_alloc b1 _
    have mb : Blk wb w1.heap.size #[.int .i64 r.kind, .slice A r.set.length c, .slice K r.kids.length ck] TRx := by rw [hwb]; exact blk_new _ _ _
    have MB := Lib.hid mb
    have M11 := Lib.hid (M1.out.below hbb)
    have M01 := Lib.hid (M0.out.below b1)
    have HVb := Lib.hid (HV.out.under hbb)
    have HBb := Lib.hid (below_then HB.out hbb)
    have HZ1 : Hid (w.heap.size + 2 ≤ w1.heap.size) := by have := b1.size; rw [HZ.out] at this; exact this
    clear n0 n1 n2
    have n0 : w1.cell? ⟨w.heap.size, 0, none⟩ = some (.int .i64 r.kind) := by rw [M01.out.cell]; rfl
    have n1 : w1.cell? ⟨w.heap.size, 1, none⟩ = some (.slice A r.set.length c) := by rw [M01.out.cell]; rfl
    have n2 : w1.cell? ⟨w.heap.size, 2, none⟩ = some (.slice K r.kids.length ck) := by rw [M01.out.cell]; rfl
    replace hwb := hwb.symm
    obtain ⟨gB, hgB⟩ : ∃ g, g = w1.heap.size := ⟨_, rfl⟩
    rw [← hgB] at MB HZ1
    replace hgB := hgB.symm
    clear mb hbb b1
    go_wp2_with (refine ev_store (o := ⟨none, .store _ (.tmp 2) _, _, _, _, _⟩) rfl rfl TRx (.tmp 2) (.tmp 19) rfl (w.heap.size + 1) 0 rfl [.int .i64 5, nilS, .slice (some ⟨gB, 0, none⟩) 1 1] rfl _ TRx M11.out (sizeRx' _ _ _) (by show 0 + 3 ≤ 3; omega) (three_one _ _ _ _ _ _ _) ?_; intro w5 hX5 hg5; have HX5 : Hid (Blk w5 (w.heap.size + 1) ([.int .i64 5, nilS, .slice (some ⟨gB, 0, none⟩) 1 1]).toArray TRx) := hX5; have HG5 := Lib.hid hg5; clear hX5 hg5)
    refine bodyPost_ret (results_cell_row rfl _ _ (w.heap.size + 1) TRx _ (0, 0) _ rfl HX5.out.eq Try.underlying31 rfl (by rw [sizeRx]; rfl)) rfl ?_
    rw [E.out]
    refine rex_fin rfl rfl HP.out ?_ HBb.out HG5.out (Nat.le_succ _)
    refine RexP.of (k := 5) (s := []) (ks := [r]) ⟨⟨.inl rfl, Nat.le_refl _, by simp⟩, fun a e => by cases e⟩ (KidsP.mk1 MB.out ⟨by have := HZ1.out; omega, .inr (by have := HZ1.out; omega)⟩ (HVb.out.mono fun b hb => ⟨fun e => by have := HP.out b hb; omega, .inl hb⟩))
set_option maxHeartbeats 1000000 in
theorem sStar_c (r : Rex) (v1 v2 : Value) (w : World) (p : Nat → Prop) (h : RexP w p r (.int .i64 r.kind) v1 v2) (hp : ∀ b, p b → b < w.heap.size) :
    Calls Try.prog 59 #[.agg #[.int .i64 r.kind, v1, v2]] w (RexPost p (nStar r) w) := by
  obtain ⟨A, c, K, ck, _, rfl, rfl, hs, hk⟩ := h.parts
  obtain ⟨wa, hwa⟩ : ∃ x, x = (w.alloc (.cells #[.int .i64 r.kind, .slice A r.set.length c, .slice K r.kids.length ck] TRx)).alloc (.cells #[.int .i64 0, nilS, nilS] TRx) := ⟨_, rfl⟩
  have hb : Below w.heap.size w wa := by rw [hwa]; exact below_alloc (below_alloc (Below.refl _ _) _) _
  have m0 : Blk wa w.heap.size #[.int .i64 r.kind, .slice A r.set.length c, .slice K r.kids.length ck] TRx := by rw [hwa]; exact (blk_new w _ _).alloc _
  have m1 : Blk wa (w.heap.size + 1) #[.int .i64 0, nilS, nilS] TRx := by
    rw [hwa]
    have := blk_new (w.alloc (.cells #[.int .i64 r.kind, .slice A r.set.length c, .slice K r.kids.length ck] TRx)) #[.int .i64 0, nilS, nilS] TRx
    simpa using this
  have hz1 : wa.heap.size = w.heap.size + 2 := by rw [hwa]; simp
  have HZ := Lib.hid hz1
  clear hz1
  replace hwa := hwa.symm
  have HV := Lib.hid (h.under hb)
  have HB := Lib.hid hb
  have M0 := Lib.hid m0
  have M1 := Lib.hid m1
  have HP := Lib.hid hp
  have n0 : wa.cell? ⟨w.heap.size, 0, none⟩ = some (.int .i64 r.kind) := by rw [m0.cell]; rfl
  have n1 : wa.cell? ⟨w.heap.size, 1, none⟩ = some (.slice A r.set.length c) := by rw [m0.cell]; rfl
  have n2 : wa.cell? ⟨w.heap.size, 2, none⟩ = some (.slice K r.kids.length ck) := by rw [m0.cell]; rfl
  clear hb m0 m1 hs hk h hp
  by_cases hk : r.kind = 5
  · have E : Hid (nStar r = r) := by show _ = _; rw [nStar, if_pos hk]
    have d5 : (r.kind == 5) = true := by simp [hk]
    clear hk
    go_enter Try.func59, Try.ntmps59
    go_wp2_with (refine ev_store (o := ⟨none, .store _ (.tmp 2) _, _, _, _, _⟩) rfl rfl TRx (.tmp 2) (.tmp 7) rfl (w.heap.size + 1) 0 rfl [.int .i64 r.kind, .slice A r.set.length c, .slice K r.kids.length ck] rfl _ TRx M1.out (sizeRx' _ _ _) (by show 0 + 3 ≤ 3; omega) (three_one _ _ _ _ _ _ _) ?_; intro w5 hX5 hg5; have HX5 : Hid (Blk w5 (w.heap.size + 1) ([.int .i64 r.kind, .slice A r.set.length c, .slice K r.kids.length ck]).toArray TRx) := hX5; have HG5 := Lib.hid hg5; clear hX5 hg5)
    refine bodyPost_ret (results_cell_row rfl _ _ (w.heap.size + 1) TRx _ (0, 0) _ rfl HX5.out.eq Try.underlying31 rfl (by rw [sizeRx]; rfl)) rfl ?_
    rw [E.out]
    exact rex_fin rfl rfl HP.out (HV.out.mono fun b hb => ⟨fun e => by have := HP.out b hb; omega, .inl hb⟩) HB.out HG5.out (Nat.le_succ _)
  have d5 : (r.kind == 5) = false := by simp [hk]
  by_cases hk2 : r.kind = 2
  · have E : Hid (nStar r = .mk 2 [] []) := by show _ = _; rw [nStar, if_neg hk, if_pos (.inl hk2)]
    have d2 : (r.kind == 2) = true := by simp [hk2]
    clear hk hk2
    go_enter Try.func59, Try.ntmps59
    go_wp2_with (refine ev_store (o := ⟨none, .store _ (.tmp 2) _, _, _, _, _⟩) rfl rfl TRx (.tmp 2) (.tmp 16) rfl (w.heap.size + 1) 0 rfl [.int .i64 2, nilS, nilS] rfl _ TRx M1.out (sizeRx' _ _ _) (by show 0 + 3 ≤ 3; omega) (three_one _ _ _ _ _ _ _) ?_; intro w5 hX5 hg5; have HX5 : Hid (Blk w5 (w.heap.size + 1) ([.int .i64 2, nilS, nilS]).toArray TRx) := hX5; have HG5 := Lib.hid hg5; clear hX5 hg5)
    refine bodyPost_ret (results_cell_row rfl _ _ (w.heap.size + 1) TRx _ (0, 0) _ rfl HX5.out.eq Try.underlying31 rfl (by rw [sizeRx]; rfl)) rfl ?_
    rw [E.out]
    exact rex_fin rfl rfl HP.out (RexP.leaf 2) HB.out HG5.out (Nat.le_succ _)
  have d2 : (r.kind == 2) = false := by simp [hk2]
  by_cases hn : isNo r = true
  · have E : Hid (nStar r = .mk 2 [] []) := by show _ = _; rw [nStar, if_neg hk, if_pos (.inr hn)]
    have HN := Lib.hid hn
    clear hk hk2 hn
    go_enter Try.func59, Try.ntmps59
    go_wp2_with fail
    clear hwa
    refine (sNo_c _ _ _ _ _ HV.out.rexv).mono ?_
    rintro e w1 ⟨rfl, b1⟩
    rw [HN.out]
    have M11 := Lib.hid (M1.out.below b1)
    have HB1 := Lib.hid (below_then HB.out b1)
    clear n0 n1 n2 b1
    go_wp2_with (refine ev_store (o := ⟨none, .store _ (.tmp 2) _, _, _, _, _⟩) rfl rfl TRx (.tmp 2) (.tmp 16) rfl (w.heap.size + 1) 0 rfl [.int .i64 2, nilS, nilS] rfl _ TRx M11.out (sizeRx' _ _ _) (by show 0 + 3 ≤ 3; omega) (three_one _ _ _ _ _ _ _) ?_; intro w5 hX5 hg5; have HX5 : Hid (Blk w5 (w.heap.size + 1) ([.int .i64 2, nilS, nilS]).toArray TRx) := hX5; have HG5 := Lib.hid hg5; clear hX5 hg5)
    refine bodyPost_ret (results_cell_row rfl _ _ (w.heap.size + 1) TRx _ (0, 0) _ rfl HX5.out.eq Try.underlying31 rfl (by rw [sizeRx]; rfl)) rfl ?_
    rw [E.out]
    exact rex_fin rfl rfl HP.out (RexP.leaf 2) HB1.out HG5.out (Nat.le_succ _)
  · have HN : Hid (isNo r = false) := by show _ = _; simpa using hn
    have E : Hid (nStar r = .mk 5 [] [r]) := by show _ = _; rw [nStar, if_neg hk, if_neg (by intro h; rcases h with h | h; exact hk2 h; exact hn h)]
    clear hk hk2 hn
    go_enter Try.func59, Try.ntmps59
    go_wp2_with fail
    clear hwa
    refine (sNo_c _ _ _ _ _ HV.out.rexv).mono ?_
    rintro e w1 ⟨rfl, b1⟩
    rw [HN.out]
    obtain ⟨wb, hwb⟩ : ∃ x, x = w1.alloc (.cells #[.int .i64 r.kind, .slice A r.set.length c, .slice K r.kids.length ck] TRx) := ⟨_, rfl⟩
    have hbb : Below wa.heap.size wa wb := by rw [hwb]; exact below_alloc b1 _
    have mb : Blk wb w1.heap.size #[.int .i64 r.kind, .slice A r.set.length c, .slice K r.kids.length ck] TRx := by rw [hwb]; exact blk_new _ _ _
    have MB := Lib.hid mb
    have M11 := Lib.hid (M1.out.below hbb)
    have M01 := Lib.hid (M0.out.below b1)
    have HVb := Lib.hid (HV.out.under hbb)
    have HBb := Lib.hid (below_then HB.out hbb)
    have HZ1 : Hid (w.heap.size + 2 ≤ w1.heap.size) := by have := b1.size; rw [HZ.out] at this; exact this
    clear n0 n1 n2
    have n0 : w1.cell? ⟨w.heap.size, 0, none⟩ = some (.int .i64 r.kind) := by rw [M01.out.cell]; rfl
    have n1 : w1.cell? ⟨w.heap.size, 1, none⟩ = some (.slice A r.set.length c) := by rw [M01.out.cell]; rfl
    have n2 : w1.cell? ⟨w.heap.size, 2, none⟩ = some (.slice K r.kids.length ck) := by rw [M01.out.cell]; rfl
    replace hwb := hwb.symm
    obtain ⟨gB, hgB⟩ : ∃ g, g = w1.heap.size := ⟨_, rfl⟩
    rw [← hgB] at MB HZ1
    replace hgB := hgB.symm
    clear mb hbb b1
    go_wp2_with (refine ev_store (o := ⟨none, .store _ (.tmp 2) _, _, _, _, _⟩) rfl rfl TRx (.tmp 2) (.tmp 19) rfl (w.heap.size + 1) 0 rfl [.int .i64 5, nilS, .slice (some ⟨gB, 0, none⟩) 1 1] rfl _ TRx M11.out (sizeRx' _ _ _) (by show 0 + 3 ≤ 3; omega) (three_one _ _ _ _ _ _ _) ?_; intro w5 hX5 hg5; have HX5 : Hid (Blk w5 (w.heap.size + 1) ([.int .i64 5, nilS, .slice (some ⟨gB, 0, none⟩) 1 1]).toArray TRx) := hX5; have HG5 := Lib.hid hg5; clear hX5 hg5)
    refine bodyPost_ret (results_cell_row rfl _ _ (w.heap.size + 1) TRx _ (0, 0) _ rfl HX5.out.eq Try.underlying31 rfl (by rw [sizeRx]; rfl)) rfl ?_
    rw [E.out]
    refine rex_fin rfl rfl HP.out ?_ HBb.out HG5.out (Nat.le_succ _)
    refine RexP.of (k := 5) (s := []) (ks := [r]) ⟨⟨.inl rfl, Nat.le_refl _, by simp⟩, fun a e => by cases e⟩ (KidsP.mk1 MB.out ⟨by have := HZ1.out; omega, .inr (by have := HZ1.out; omega)⟩ (HVb.out.mono fun b hb => ⟨fun e => by have := HP.out b hb; omega, .inl hb⟩))

theorem sDeep_c (r : Rex) (v1 v2 : Value) (w : World) (lo : Nat) (h : RexV w lo r (.int .i64 r.kind) v1 v2) :
    Calls Try.prog 52 #[.agg #[.int .i64 r.kind, v1, v2]] w fun e w' => e = .returned (.bool (formed 60 r)) ∧ Below w.heap.size w w' := by
  obtain ⟨A, c, K, ck, _, rfl, rfl, _, _⟩ := h.parts
  have HV := Lib.hid h
  have hb := below_alloc (Below.refl w.heap.size w) (.cells #[.int .i64 r.kind, .slice A r.set.length c, .slice K r.kids.length ck] TRx)
  have HB := Lib.hid hb
  clear h hb
  go_enter Try.func52, Try.ntmps52
  go_wp2_with fail
  refine (sForm_c r 60 _ _ _ _ (by omega) (HV.out.under HB.out)).mono ?_
  rintro e w1 ⟨rfl, b1⟩
  go_wp2
  go_ret
  exact ⟨rfl, below_then HB.out b1⟩

set_option maxHeartbeats 1000000 in
theorem iGiven_c (ks : List Rex) (K : Option Addr) (ck : Nat) (w : World) (lo : Nat) (h : Kids w lo K ck ks) :
    Calls Try.prog 55 #[.slice K ks.length ck] w fun e w' => e = .returned (.bool (ks.all (formed 60))) ∧ Below w.heap.size w w' := by
  have hlen := h.len
  unfold maxN at hlen
  have HK := Lib.hid h
  clear h
  go_enter Try.func55, Try.ntmps55
  go_wp2
  go_loopg [7] (ks.length) (fun n i wr => ∃ j : Nat, j + n = ks.length ∧ i = .int .i64 j ∧ Hid ((ks.drop j).all (formed 60) = ks.all (formed 60)) ∧ Hid (Below w.heap.size w wr))
  case atStart => exact ⟨0, by omega, rfl, by rw [List.drop_zero]; rfl, Below.refl _ _⟩
  case round =>
    obtain ⟨j, hj, rfl, HF, HW⟩ := hrel
    by_cases hlt : j < ks.length
    · obtain ⟨a, r, x1, x2, rfl, HX, HD, HV, c0, c1, c2⟩ := (HK.out.below HW.out).at_ j hlt
      obtain ⟨A1, d1, K1, e1, _, rfl, rfl, _⟩ := HV.out.parts
      have E2 : Hid ((ks.drop j).all (formed 60) = (formed 60 r && (ks.drop (j + 1)).all (formed 60))) := by show _ = _; rw [HD.out, List.all_cons]
      have hb2 := below_alloc (Below.refl wr.heap.size wr) (.cells #[.int .i64 r.kind, .slice A1 r.set.length d1, .slice K1 r.kids.length e1] TRx)
      have HV2 := Lib.hid (HV.out.under hb2)
      have HW2 := Lib.hid (below_then HW.out hb2)
      clear hb2
      go_wp2_with fail
      refine (iForm_c r 60 _ _ _ _ (by omega) HV2.out).mono ?_
      rintro e w4 ⟨rfl, b4⟩
      have HW4 := Lib.hid (below_then HW2.out b4)
      clear b4 c0 c1 c2
      by_cases hf : formed 60 r = true
      · have HQ := Lib.hid hf
        rw [hf]
        clear hf
        go_wp2
        go_roundg (gk - 1)
        case rel => exact ⟨j + 1, by omega, by go_num, by have := HF.out; rw [E2.out, HQ.out] at this; exact this, HW4⟩
        case measure => omega
      · have HQ : Hid (formed 60 r = false) := by show _ = _; simpa using hf
        rw [HQ.out]
        clear hf
        go_wp2
        go_ret
        exact ⟨ret_bool (by rw [← HF.out, E2.out, HQ.out]; rfl), HW4.out⟩
    · go_wp2
      go_ret
      exact ⟨ret_bool (by rw [← HF.out, List.drop_of_length_le (by omega)]; rfl), HW.out⟩

end Go.Proofs.Ytbpinokbpdjmhaa
