/- normNot, normStar, of the program and of the reference. -/
import Derived.Test.YtbpinokbpdjmhaaRexP
import Derived.Test.YtbpinokbpdjmhaaT10
import Derived.Test.YtbpinokbpdjmhaaC0
namespace Go.Proofs.Ytbpinokbpdjmhaa
set_option linter.unusedSimpArgs false
set_option linter.unusedVariables false
open Go.RowKit

def isNo (r : Rex) : Bool := decide (r.kind = 1) && r.set.isEmpty
theorem isNo_iff (r : Rex) : isNo r = true ↔ r.kind = 1 ∧ r.set = [] := by simp [isNo]
def kid0 (r : Rex) : Rex := r.kids.getD 0 default
def nNot (r : Rex) : Rex := if r.kind = 7 then kid0 r else .mk 7 [] [r]
def nStar (r : Rex) : Rex := if r.kind = 5 then r else if r.kind = 2 ∨ isNo r = true then .mk 2 [] [] else .mk 5 [] [r]

theorem iNo_c (r : Rex) (v1 v2 : Value) (w : World) (lo : Nat) (h : RexV w lo r (.int .i64 r.kind) v1 v2) :
    Calls Try.prog 70 #[.agg #[.int .i64 r.kind, v1, v2]] w fun e w' => e = .returned (.bool (isNo r)) ∧ Below w.heap.size w w' := by
  obtain ⟨A, c, K, ck, _, rfl, rfl, hs, hk⟩ := h.parts
  clear h hk
  have hl := hs.len
  by_cases h1 : r.kind = 1
  · by_cases h2 : r.set.length = 0
    · have E : Hid (isNo r = true) := (isNo_iff r).2 ⟨h1, List.length_eq_zero_iff.1 h2⟩
      rw [h1, h2]
      clear h1 h2 hs hl
      go_enter Try.func70, Try.ntmps70
      go_wp2
      go_ret
      exact ⟨ret_bool E.out.symm, below_alloc (Below.refl _ _) _⟩
    · have E : Hid (isNo r = false) := by show _ = _; rw [isNo, Bool.and_eq_false_iff]; right; cases h : r.set with | nil => rw [h] at h2; exact absurd rfl h2 | cons x xs => rfl
      rw [h1]
      obtain ⟨n, hn⟩ : ∃ n, n = r.set.length := ⟨_, rfl⟩
      rw [← hn] at h2 ⊢
      have d : ((n : Int) == 0) = false := by simp [h2]
      have d2 : (n == 0) = false := by simp [h2]
      clear h1 h2 hs hl hn
      go_enter Try.func70, Try.ntmps70
      go_wp2
      go_ret
      exact ⟨ret_bool E.out.symm, below_alloc (Below.refl _ _) _⟩
  · have E : Hid (isNo r = false) := by show _ = _; rw [isNo, decide_eq_false h1]; rfl
    obtain ⟨k, hk⟩ : ∃ k, k = r.kind := ⟨_, rfl⟩
    rw [← hk] at h1 ⊢
    have d : (k == 1) = false := by simp [h1]
    clear h1 hs hl hk
    go_enter Try.func70, Try.ntmps70
    go_wp2
    go_ret
    exact ⟨ret_bool E.out.symm, below_alloc (Below.refl _ _) _⟩
theorem sNo_c (r : Rex) (v1 v2 : Value) (w : World) (lo : Nat) (h : RexV w lo r (.int .i64 r.kind) v1 v2) :
    Calls Try.prog 69 #[.agg #[.int .i64 r.kind, v1, v2]] w fun e w' => e = .returned (.bool (isNo r)) ∧ Below w.heap.size w w' := by
  obtain ⟨A, c, K, ck, _, rfl, rfl, hs, hk⟩ := h.parts
  clear h hk
  have hl := hs.len
  by_cases h1 : r.kind = 1
  · by_cases h2 : r.set.length = 0
    · have E : Hid (isNo r = true) := (isNo_iff r).2 ⟨h1, List.length_eq_zero_iff.1 h2⟩
      rw [h1, h2]
      clear h1 h2 hs hl
      go_enter Try.func69, Try.ntmps69
      go_wp2
      go_ret
      exact ⟨ret_bool E.out.symm, below_alloc (Below.refl _ _) _⟩
    · have E : Hid (isNo r = false) := by show _ = _; rw [isNo, Bool.and_eq_false_iff]; right; cases h : r.set with | nil => rw [h] at h2; exact absurd rfl h2 | cons x xs => rfl
      rw [h1]
      obtain ⟨n, hn⟩ : ∃ n, n = r.set.length := ⟨_, rfl⟩
      rw [← hn] at h2 ⊢
      have d : ((n : Int) == 0) = false := by simp [h2]
      have d2 : (n == 0) = false := by simp [h2]
      clear h1 h2 hs hl hn
      go_enter Try.func69, Try.ntmps69
      go_wp2
      go_ret
      exact ⟨ret_bool E.out.symm, below_alloc (Below.refl _ _) _⟩
  · have E : Hid (isNo r = false) := by show _ = _; rw [isNo, decide_eq_false h1]; rfl
    obtain ⟨k, hk⟩ : ∃ k, k = r.kind := ⟨_, rfl⟩
    rw [← hk] at h1 ⊢
    have d : (k == 1) = false := by simp [h1]
    clear h1 hs hl hk
    go_enter Try.func69, Try.ntmps69
    go_wp2
    go_ret
    exact ⟨ret_bool E.out.symm, below_alloc (Below.refl _ _) _⟩

set_option maxHeartbeats 1000000 in
theorem iNot_c (r : Rex) (d : Nat) (v1 v2 : Value) (w : World) (p : Nat → Prop) (hf : formed d r = true) (h : RexP w p r (.int .i64 r.kind) v1 v2) (hp : ∀ b, p b → b < w.heap.size) :
    Calls Try.prog 57 #[.agg #[.int .i64 r.kind, v1, v2]] w (RexPost p (nNot r) w) := by
  obtain ⟨A, c, K, ck, _, rfl, rfl, hs, hk⟩ := h.parts
  obtain ⟨wa, hwa⟩ : ∃ x, x = (w.alloc (.cells #[.int .i64 r.kind, .slice A r.set.length c, .slice K r.kids.length ck] TRx)).alloc (.cells #[.int .i64 0, nilS, nilS] TRx) := ⟨_, rfl⟩
  have hb : Below w.heap.size w wa := by rw [hwa]; exact below_alloc (below_alloc (Below.refl _ _) _) _
  have m0 : Blk wa w.heap.size #[.int .i64 r.kind, .slice A r.set.length c, .slice K r.kids.length ck] TRx := by rw [hwa]; exact (blk_new w _ _).alloc _
  have m1 : Blk wa (w.heap.size + 1) #[.int .i64 0, nilS, nilS] TRx := by
    rw [hwa]
    have := blk_new (w.alloc (.cells #[.int .i64 r.kind, .slice A r.set.length c, .slice K r.kids.length ck] TRx)) #[.int .i64 0, nilS, nilS] TRx
    simpa using this
  have hz1 : wa.heap.size = w.heap.size + 2 := by rw [hwa]; simp
  have HZ := Lib.hid hz1
  clear hz1
  replace hwa := hwa.symm
  have HV := Lib.hid (h.under hb)
  have HB := Lib.hid hb
  have M0 := Lib.hid m0
  have M1 := Lib.hid m1
  have HP := Lib.hid hp
  have n0 : wa.cell? ⟨w.heap.size, 0, none⟩ = some (.int .i64 r.kind) := by rw [m0.cell]; rfl
  have n1 : wa.cell? ⟨w.heap.size, 1, none⟩ = some (.slice A r.set.length c) := by rw [m0.cell]; rfl
  have n2 : wa.cell? ⟨w.heap.size, 2, none⟩ = some (.slice K r.kids.length ck) := by rw [m0.cell]; rfl
  clear hb m0 m1 hs hk h hp
  by_cases hk : r.kind = 7
  · obtain ⟨a, ha⟩ : ∃ a, r.kids = [a] := by
      obtain ⟨k, s, ks⟩ := r
      rcases formed_shape hf with ⟨e, _⟩ | ⟨_, a, e, _⟩ | ⟨e, _⟩
      · exfalso; have : k = 7 := hk; omega
      · exact ⟨a, e⟩
      · exfalso; have : k = 7 := hk; omega
    have E : Hid (nNot r = a) := by show _ = _; rw [nNot, if_pos hk, kid0, ha]; rfl
    obtain ⟨_, _, _, _, _, e1, e2, _, hkk⟩ := HV.out.parts
    injection e2 with e3 e4 e5
    subst e3 e5
    rw [ha] at hkk
    obtain ⟨ad, A2, c2, K2, d2, rfl, hv, c0, c1, c2'⟩ := hkk.one
    have HA := Lib.hid hv
    have HM := Lib.hid M0.out
    have d7 : (r.kind == 7) = true := by simp [hk]
    rw [ha] at hwa n2 ⊢
    clear e1 e4 hkk hv hk ha M0
    simp only [List.length_cons, List.length_nil, Nat.zero_add] at hwa n2 ⊢
    go_enter Try.func57, Try.ntmps57
    go_wp2_with (refine ev_store (o := ⟨none, .store _ (.tmp 2) _, _, _, _, _⟩) rfl rfl TRx (.tmp 2) (.tmp 9) rfl (w.heap.size + 1) 0 rfl [.int .i64 a.kind, .slice A2 a.set.length c2, .slice K2 a.kids.length d2] rfl _ TRx M1.out (sizeRx' _ _ _) (by show 0 + 3 ≤ 3; omega) (three_one _ _ _ _ _ _ _) ?_; intro w5 hX5 hg5; have HX5 : Hid (Blk w5 (w.heap.size + 1) ([.int .i64 a.kind, .slice A2 a.set.length c2, .slice K2 a.kids.length d2]).toArray TRx) := hX5; have HG5 := Lib.hid hg5; clear hX5 hg5)
    refine bodyPost_ret (results_cell_row rfl _ _ (w.heap.size + 1) TRx _ (0, 0) _ rfl HX5.out.eq Try.underlying31 rfl (by rw [sizeRx]; rfl)) rfl ?_
    rw [E.out]
    exact rex_fin rfl rfl HP.out (HA.out.mono fun b hb => ⟨fun e => by have := HP.out b hb; omega, .inl hb⟩) HB.out HG5.out (Nat.le_succ _)
  · have E : Hid (nNot r = .mk 7 [] [r]) := by show _ = _; rw [nNot, if_neg hk]
    have d7 : (r.kind == 7) = false := by simp [hk]
    clear hk
    obtain ⟨wb, hwb⟩ : ∃ x, x = wa.alloc (.cells #[.int .i64 r.kind, .slice A r.set.length c, .slice K r.kids.length ck] TRx) := ⟨_, rfl⟩
    have hbb : Below wa.heap.size wa wb := by rw [hwb]; exact below_alloc (Below.refl _ _) _
    have mb : Blk wb wa.heap.size #[.int .i64 r.kind, .slice A r.set.length c, .slice K r.kids.length ck] TRx := by rw [hwb]; exact blk_new _ _ _
    have MB := Lib.hid mb
    have M1b := Lib.hid (M1.out.below hbb)
    have HVb := Lib.hid (HV.out.under hbb)
    have HBb := Lib.hid (below_then HB.out hbb)
    replace hwb := hwb.symm
    clear mb hbb
    go_enter Try.func57, Try.ntmps57
    go_wp2_with (refine ev_store (o := ⟨none, .store _ (.tmp 2) _, _, _, _, _⟩) rfl rfl TRx (.tmp 2) (.tmp 12) rfl (w.heap.size + 1) 0 rfl [.int .i64 7, nilS, .slice (some ⟨wa.heap.size, 0, none⟩) 1 1] rfl _ TRx M1b.out (sizeRx' _ _ _) (by show 0 + 3 ≤ 3; omega) (three_one _ _ _ _ _ _ _) ?_; intro w5 hX5 hg5; have HX5 : Hid (Blk w5 (w.heap.size + 1) ([.int .i64 7, nilS, .slice (some ⟨wa.heap.size, 0, none⟩) 1 1]).toArray TRx) := hX5; have HG5 := Lib.hid hg5; clear hX5 hg5)
    refine bodyPost_ret (results_cell_row rfl _ _ (w.heap.size + 1) TRx _ (0, 0) _ rfl HX5.out.eq Try.underlying31 rfl (by rw [sizeRx]; rfl)) rfl ?_
    rw [E.out]
    refine rex_fin rfl rfl HP.out ?_ HBb.out HG5.out (Nat.le_succ _)
    refine RexP.of (k := 7) (s := []) (ks := [r]) ⟨⟨.inl rfl, Nat.le_refl _, by simp⟩, fun a e => by cases e⟩ (KidsP.mk1 MB.out ⟨by rw [HZ.out]; omega, .inr (by rw [HZ.out]; omega)⟩ (HVb.out.mono fun b hb => ⟨fun e => by have := HP.out b hb; omega, .inl hb⟩))
set_option maxHeartbeats 1000000 in
theorem sNot_c (r : Rex) (d : Nat) (v1 v2 : Value) (w : World) (p : Nat → Prop) (hf : formed d r = true) (h : RexP w p r (.int .i64 r.kind) v1 v2) (hp : ∀ b, p b → b < w.heap.size) :
    Calls Try.prog 54 #[.agg #[.int .i64 r.kind, v1, v2]] w (RexPost p (nNot r) w) := by
  obtain ⟨A, c, K, ck, _, rfl, rfl, hs, hk⟩ := h.parts
  obtain ⟨wa, hwa⟩ : ∃ x, x = (w.alloc (.cells #[.int .i64 r.kind, .slice A r.set.length c, .slice K r.kids.length ck] TRx)).alloc (.cells #[.int .i64 0, nilS, nilS] TRx) := ⟨_, rfl⟩
  have hb : Below w.heap.size w wa := by rw [hwa]; exact below_alloc (below_alloc (Below.refl _ _) _) _
  have m0 : Blk wa w.heap.size #[.int .i64 r.kind, .slice A r.set.length c, .slice K r.kids.length ck] TRx := by rw [hwa]; exact (blk_new w _ _).alloc _
  have m1 : Blk wa (w.heap.size + 1) #[.int .i64 0, nilS, nilS] TRx := by
    rw [hwa]
    have := blk_new (w.alloc (.cells #[.int .i64 r.kind, .slice A r.set.length c, .slice K r.kids.length ck] TRx)) #[.int .i64 0, nilS, nilS] TRx
    simpa using this
  have hz1 : wa.heap.size = w.heap.size + 2 := by rw [hwa]; simp
  have HZ := Lib.hid hz1
  clear hz1
  replace hwa := hwa.symm
  have HV := Lib.hid (h.under hb)
  have HB := Lib.hid hb
  have M0 := Lib.hid m0
  have M1 := Lib.hid m1
  have HP := Lib.hid hp
  have n0 : wa.cell? ⟨w.heap.size, 0, none⟩ = some (.int .i64 r.kind) := by rw [m0.cell]; rfl
  have n1 : wa.cell? ⟨w.heap.size, 1, none⟩ = some (.slice A r.set.length c) := by rw [m0.cell]; rfl
  have n2 : wa.cell? ⟨w.heap.size, 2, none⟩ = some (.slice K r.kids.length ck) := by rw [m0.cell]; rfl
  clear hb m0 m1 hs hk h hp
  by_cases hk : r.kind = 7
  · obtain ⟨a, ha⟩ : ∃ a, r.kids = [a] := by
      obtain ⟨k, s, ks⟩ := r
      rcases formed_shape hf with ⟨e, _⟩ | ⟨_, a, e, _⟩ | ⟨e, _⟩
      · exfalso; have : k = 7 := hk; omega
      · exact ⟨a, e⟩
      · exfalso; have : k = 7 := hk; omega
    have E : Hid (nNot r = a) := by show _ = _; rw [nNot, if_pos hk, kid0, ha]; rfl
    obtain ⟨_, _, _, _, _, e1, e2, _, hkk⟩ := HV.out.parts
    injection e2 with e3 e4 e5
    subst e3 e5
    rw [ha] at hkk
    obtain ⟨ad, A2, c2, K2, d2, rfl, hv, c0, c1, c2'⟩ := hkk.one
    have HA := Lib.hid hv
    have HM := Lib.hid M0.out
    have d7 : (r.kind == 7) = true := by simp [hk]
    rw [ha] at hwa n2 ⊢
    clear e1 e4 hkk hv hk ha M0
    simp only [List.length_cons, List.length_nil, Nat.zero_add] at hwa n2 ⊢
    go_enter Try.func54, Try.ntmps54
    go_wp2_with (refine ev_store (o := ⟨none, .store _ (.tmp 2) _, _, _, _, _⟩) rfl rfl TRx (.tmp 2) (.tmp 9) rfl (w.heap.size + 1) 0 rfl [.int .i64 a.kind, .slice A2 a.set.length c2, .slice K2 a.kids.length d2] rfl _ TRx M1.out (sizeRx' _ _ _) (by show 0 + 3 ≤ 3; omega) (three_one _ _ _ _ _ _ _) ?_; intro w5 hX5 hg5; have HX5 : Hid (Blk w5 (w.heap.size + 1) ([.int .i64 a.kind, .slice A2 a.set.length c2, .slice K2 a.kids.length d2]).toArray TRx) := hX5; have HG5 := Lib.hid hg5; clear hX5 hg5)
    refine bodyPost_ret (results_cell_row rfl _ _ (w.heap.size + 1) TRx _ (0, 0) _ rfl HX5.out.eq Try.underlying31 rfl (by rw [sizeRx]; rfl)) rfl ?_
    rw [E.out]
    exact rex_fin rfl rfl HP.out (HA.out.mono fun b hb => ⟨fun e => by have := HP.out b hb; omega, .inl hb⟩) HB.out HG5.out (Nat.le_succ _)
  · have E : Hid (nNot r = .mk 7 [] [r]) := by show _ = _; rw [nNot, if_neg hk]
    have d7 : (r.kind == 7) = false := by simp [hk]
    clear hk
    obtain ⟨wb, hwb⟩ : ∃ x, x = wa.alloc (.cells #[.int .i64 r.kind, .slice A r.set.length c, .slice K r.kids.length ck] TRx) := ⟨_, rfl⟩
    have hbb : Below wa.heap.size wa wb := by rw [hwb]; exact below_alloc (Below.refl _ _) _
    have mb : Blk wb wa.heap.size #[.int .i64 r.kind, .slice A r.set.length c, .slice K r.kids.length ck] TRx := by rw [hwb]; exact blk_new _ _ _
    have MB := Lib.hid mb
    have M1b := Lib.hid (M1.out.below hbb)
    have HVb := Lib.hid (HV.out.under hbb)
    have HBb := Lib.hid (below_then HB.out hbb)
    replace hwb := hwb.symm
    clear mb hbb
    go_enter Try.func54, Try.ntmps54
    go_wp2_with (refine ev_store (o := ⟨none, .store _ (.tmp 2) _, _, _, _, _⟩) rfl rfl TRx (.tmp 2) (.tmp 12) rfl (w.heap.size + 1) 0 rfl [.int .i64 7, nilS, .slice (some ⟨wa.heap.size, 0, none⟩) 1 1] rfl _ TRx M1b.out (sizeRx' _ _ _) (by show 0 + 3 ≤ 3; omega) (three_one _ _ _ _ _ _ _) ?_; intro w5 hX5 hg5; have HX5 : Hid (Blk w5 (w.heap.size + 1) ([.int .i64 7, nilS, .slice (some ⟨wa.heap.size, 0, none⟩) 1 1]).toArray TRx) := hX5; have HG5 := Lib.hid hg5; clear hX5 hg5)
    refine bodyPost_ret (results_cell_row rfl _ _ (w.heap.size + 1) TRx _ (0, 0) _ rfl HX5.out.eq Try.underlying31 rfl (by rw [sizeRx]; rfl)) rfl ?_
    rw [E.out]
    refine rex_fin rfl rfl HP.out ?_ HBb.out HG5.out (Nat.le_succ _)
    refine RexP.of (k := 7) (s := []) (ks := [r]) ⟨⟨.inl rfl, Nat.le_refl _, by simp⟩, fun a e => by cases e⟩ (KidsP.mk1 MB.out ⟨by rw [HZ.out]; omega, .inr (by rw [HZ.out]; omega)⟩ (HVb.out.mono fun b hb => ⟨fun e => by have := HP.out b hb; omega, .inl hb⟩))

end Go.Proofs.Ytbpinokbpdjmhaa
