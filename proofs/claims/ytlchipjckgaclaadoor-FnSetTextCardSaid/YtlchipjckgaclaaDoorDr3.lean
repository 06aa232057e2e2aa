/- What draws sets, with the range of their numbers: l1Bent, l1Two, DrawSetSame, DrawSetRead. -/
import Derived.Test.YtlchipjckgaclaaDoorG14
import Derived.Test.YtlchipjckgaclaaDoorG4
namespace Go.Proofs.YtlchipjckgaclaaDoor
set_option linter.unusedSimpArgs false
set_option linter.unusedVariables false
set_option maxRecDepth 100000
open Go.RowKit

def Rng (x : Sp) : Prop := -1 ≤ x.lo ∧ x.lo ≤ 300 ∧ -1 ≤ x.hi ∧ x.hi ≤ 300
structure RngOk (xs : List Sp) : Prop where
  len : xs.length ≤ 300
  rng : ∀ x ∈ xs, Rng x
theorem rng_spans (f : Nat → Bool) : ∀ x ∈ spansOf f, Rng x := fun x hx => by
  have h0 : setOkGo none (spansOf f) = true := setOk_spans f
  have h := ok_go h0 x hx
  unfold Rng
  omega
theorem rng_mem {xs : List Sp} (h : ∀ x ∈ xs, Rng x) {k : Nat} {x : Sp} (hx : xs[k]? = some x) : -1 ≤ x.lo ∧ x.lo ≤ 300 ∧ -1 ≤ x.hi ∧ x.hi ≤ 300 := h x (List.mem_of_getElem? hx)
theorem rng_set {xs : List Sp} (h : ∀ x ∈ xs, Rng x) (k : Nat) {y : Sp} (hy : Rng y) : ∀ x ∈ xs.set k y, Rng x := fun x hx => by
  rcases List.mem_or_eq_of_mem_set hx with hx | hx
  · exact h x hx
  · rw [hx]; exact hy
theorem rng_snoc {xs : List Sp} (h : ∀ x ∈ xs, Rng x) {y : Sp} (hy : Rng y) : ∀ x ∈ xs ++ [y], Rng x := fun x hx => by
  rcases List.mem_append.1 hx with hx | hx
  · exact h x hx
  · rw [List.mem_singleton.1 hx]; exact hy
theorem RngOk.sp64 {xs : List Sp} (h : RngOk xs) : sp64 xs := fun x hx => by
  have := h.rng x hx
  unfold Rng at this
  unfold in64
  omega

set_option maxRecDepth 100000 in
set_option maxHeartbeats 4000000 in
theorem l1Bent_r (g p : Nat) (w : World) (h : Rd w g p) (hp : p ≤ 800000) :
    Calls Tryd.prog 68 #[.pointer (some ⟨g, 0, none⟩)] w fun e w' => ∃ xs v q, e = .returned v ∧ OwnSp w' w.heap.size v xs ∧ (∃ b cap, v = .slice (some ⟨b, 0, none⟩) xs.length cap) ∧ RngOk xs ∧ Rd w' g q ∧ q ≤ p + 20 ∧ w.grownBy w' (some g) := by
  obtain ⟨i0, hi, hz0, hz1, hz2⟩ := info_parts infoSp
  have hgw := h.lt
  go_enter Tryd.func68, Tryd.ntmps68
  go_wp2_with fail
  refine (l1Set_c g p _ h (by omega)).mono ?_
  rintro e w1 ⟨f, v, q, rfl, HO, hf, HR, hq, HG⟩
  have hl := spansOf_pos hf
  have hl2 := spansOf_len f
  clear h hf
  replace HG := Lib.hid HG
  go_wp2_with fail
  refine (pick_c g q 40 _ HR (by omega) (by omega) (by omega)).mono ?_
  rintro e w2 ⟨r, rfl, r0, r1, HR2, HG2⟩
  replace HO := Lib.hid (HO.grown HG2 (fun k hk => by injection hk with hk; omega))
  replace HG := Lib.hid (grown_then HG.out HG2)
  replace HR := Lib.hid HR2
  clear HG2 HR2
  obtain ⟨b, cap, rfl, hb, _⟩ := own_form HO.out.own hl
  by_cases c0 : r = 0
  · subst c0
    go_wp2
    go_ret
    exact ⟨[], _, q + 1, rfl, (own_empty w2).lower HG.out.size, ⟨_, _, rfl⟩, ⟨by simp, fun x h => by cases h⟩, HR.out.below (below_alloc (Below.refl _ _) _), by omega, grown_then HG.out (grown_below (below_alloc (Below.refl _ _) _))⟩
  have d0 : (r == 0) = false := by simp [c0]
  by_cases c1 : r = 1
  · subst c1
    obtain ⟨x, HX, m0, m1, f0, f1⟩ := HO.out.cells 0 hl
    have HXM := HX
    go_wp2_with fail
    refine (num_c g (q + 1) w2.heap.size 2 L2 (-1) 300 _ (HR.out.below (below_alloc (Below.refl _ _) _)) (ints_new w2 L2 _) (by have := HR.out.lt; omega) (by simp) (by decide) (by decide) (by decide) (by omega)).mono ?_
    rintro e w3 ⟨z, rfl, z0, z1, HR3, HG3⟩
    have HO3 := Lib.hid ((HO.out.below (below_alloc (Below.refl _ _) _)).grown HG3 (fun k hk => by injection hk with hk; omega))
    have HT := Lib.hid (grown_then HG.out (grown_then (grown_below (below_alloc (Below.refl _ _) _)) HG3))
    replace HR3 := Lib.hid HR3
    clear HX m0 m1 f0 f1 HG3 HG HO HR
    obtain ⟨x, HX, m0, m1, f0, f1⟩ := HO3.out.cells 0 hl
    go_wp2
    go_ret
    exact ⟨_, .slice (some ⟨b, 0, none⟩) (spansOf f).length cap, q + 2, rfl, HO3.out.setLo 0 x HX.out z, ⟨b, cap, by rw [List.length_set]⟩, ⟨by rw [List.length_set]; omega, rng_set (rng_spans f) 0 (by have := rng_mem (rng_spans f) HX.out; show -1 ≤ z ∧ z ≤ 300 ∧ -1 ≤ x.hi ∧ x.hi ≤ 300; omega)⟩, HR3.out.grown (grown_set (grown_refl _ _) _ _) (fun k hk => by injection hk with hk; omega), by omega, grown_fresh HT.out hb _ _⟩
  have d1 : (r == 1) = false := by simp [c1]
  by_cases c2 : r = 2
  · subst c2
    obtain ⟨x, HX, m0, m1, f0, f1⟩ := HO.out.cells 0 hl
    have HXM := HX
    have HOw := HO
    have HRw := HR
    have HGw := HG
    have hsz := HG.out.size
    go_wp2_with (at_builtin; refine wpList_append_own _ rfl (.tmp 21) (.tmp 25) 25 rfl w.heap.size TSp i0 (.agg #[.int .i64 0, .int .i64 0]) 2 16 Tryd.underlying25 hi hz0 hz1 hz2 rfl (by decide) _ _ _ rfl (HOw.out.own.alloc _) ⟨_, 0, none⟩ 1 1 [.int .i64 x.lo, .int .i64 x.hi] rfl rfl (new_cells _ [.int .i64 x.lo, .int .i64 x.hi] TSp) (two_one _ _) (by unfold maxLen; omega) (by omega) (by simp; omega) ?_; intro v' w5 hown' hgrow _)
    have hbs := own_base HOw.out.own
    go_wp2
    go_ret
    exact ⟨_, _, q + 1, rfl, OwnSp.snoc hown', (OwnSp.snoc hown').some (by simp), ⟨by rw [List.length_append, List.length_singleton]; omega, rng_snoc (rng_spans f) (rng_mem (rng_spans f) HXM.out)⟩, (HRw.out.below (below_alloc (Below.refl _ _) _)).grown hgrow (fun k hk => by have := (hbs k hk).1; omega), by omega, grown_row (grown_then HGw.out (grown_below (below_alloc (Below.refl _ _) _))) hgrow (fun k hk => (hbs k hk).1)⟩
  have d2 : (r == 2) = false := by simp [c2]
  obtain ⟨x, HX, m0, m1, f0, f1⟩ := HO.out.cells ((spansOf f).length - 1) (by omega)
  have HXM := HX
  have hh := spansTo_hi (f := f) (n := 256) (by omega) hl HX.out
  have hx0 : 0 ≤ x.hi := hh.1
  have hx1 : x.hi ≤ 255 := hh.2.1
  clear hh
  by_cases c3 : r = 3
  · subst c3
    go_wp2
    go_ret
    exact ⟨_, .slice (some ⟨b, 0, none⟩) (spansOf f).length cap, q + 1, rfl, HO.out.setHi _ x HX.out 256, ⟨b, cap, by rw [List.length_set]⟩, ⟨by rw [List.length_set]; omega, rng_set (rng_spans f) _ (by have := rng_mem (rng_spans f) HXM.out; show -1 ≤ x.lo ∧ x.lo ≤ 300 ∧ -1 ≤ (256 : Int) ∧ (256 : Int) ≤ 300; omega)⟩, HR.out.grown (grown_set (grown_refl _ _) _ _) (fun k hk => by injection hk with hk; omega), by omega, grown_fresh HG.out hb _ _⟩
  have d3 : (r == 3) = false := by simp [c3]
  by_cases c4 : r = 4
  · subst c4
    have HOw := HO
    have HRw := HR
    have HGw := HG
    have hsz := HG.out.size
    have e1 : IntKind.i64.wrap (((spansOf f).length : Int) - 1) = ((spansOf f).length : Int) - 1 := IntWalk.i64_in _ (by omega)
    have e2 : (0 : Int) ≤ ((spansOf f).length : Int) - 1 := by omega
    have e3 : ((spansOf f).length : Int) - 1 < ((spansOf f).length : Int) := by omega
    have e4 : (((spansOf f).length : Int) - 1).toNat = (spansOf f).length - 1 := by omega
    have e5 : IntKind.i64.wrap (x.hi + 1) = x.hi + 1 := IntWalk.i64_in _ (by omega)
    have e6 : (1 : Int) ≤ ((spansOf f).length : Int) := by omega
    go_wp2
    go_region_law (refine step_append_lies _ rfl (.tmp 37) (.tmp 55) 25 rfl w.heap.size TSp i0 (.agg #[.int .i64 0, .int .i64 0]) 2 16 Tryd.underlying25 hi hz0 hz1 hz2 rfl (by decide) _ _ _ rfl ((HOw.out.below (below_alloc (below_drew (Below.refl _ _)) _)).own) ⟨_, 0, none⟩ 1 1 [.int .i64 (x.hi + 1), .int .i64 (x.hi + 1)] rfl rfl (new_cells _ [.int .i64 (x.hi + 1), .int .i64 (x.hi + 1)] TSp) (two_one _ _) (by decide) (by unfold maxLen; omega) (by omega) (by simp; omega) _ rfl ?_; intro g5 cap5 w5 hown' hgrow hat' hlt')
    all_goals
      have hbs := own_base HOw.out.own
      go_wp2
      go_ret
      exact ⟨_, _, q + 1, rfl, OwnSp.snoc hown', (OwnSp.snoc hown').some (by simp), ⟨by rw [List.length_append, List.length_singleton]; omega, rng_snoc (rng_spans f) (by show -1 ≤ x.hi + 1 ∧ x.hi + 1 ≤ 300 ∧ -1 ≤ x.hi + 1 ∧ x.hi + 1 ≤ 300; omega)⟩, (HRw.out.below (below_alloc (below_drew (Below.refl _ _)) _)).grown hgrow (fun k hk => by have := (hbs k hk).1; omega), by omega, grown_row (grown_then HGw.out (grown_below (below_alloc (below_drew (Below.refl _ _)) _))) hgrow (fun k hk => (hbs k hk).1)⟩
  · have d4 : (r == 4) = false := by simp [c4]
    go_wp2
    go_ret
    exact ⟨_, _, q + 1, rfl, HO.out, ⟨b, cap, rfl⟩, ⟨by omega, rng_spans f⟩, HR.out, by omega, HG.out⟩

set_option maxHeartbeats 2000000 in
theorem l1Two_r (A : Option Addr) (c : Nat) (bs : List Int) (w : World) (h : Bys w 0 A c bs) :
    Calls Tryd.prog 67 #[.slice A bs.length c] w fun e w' => ∃ xs ys v u, e = .returned (.tuple #[v, u]) ∧ OwnSp w' w.heap.size v xs ∧ OwnSp w' w.heap.size u ys ∧ RngOk xs ∧ RngOk ys ∧ Below w.heap.size w w' := by
  obtain ⟨i0, hi, hz0, hz1, hz2⟩ := info_parts infoSp
  go_enter Tryd.func67, Tryd.ntmps67
  go_wp2_with fail
  refine (open_c _ _ _ _ h).mono ?_
  rintro e w1 ⟨g, rfl, HR, hg, b1⟩
  go_wp2_with fail
  refine (l1Bent_r g 0 _ HR (by omega)).mono ?_
  rintro e w2 ⟨xs, v, q, rfl, o, ⟨b, cap, rfl⟩, hl, HR2, hq, hG⟩
  have hl3 := hl.len
  have HT := Lib.hid (b1.grown hG b1.size (fun k hk => by injection hk with hk; omega))
  have hz := hG.size
  have hgl := HR.lt
  have hws := b1.size
  clear hG b1 HR
  go_wp2_with fail
  refine (pick_c g q 4 _ HR2 (by omega) (by omega) (by omega)).mono ?_
  rintro e w3 ⟨r, rfl, r0, r1, HR3, HG3⟩
  replace HT := Lib.hid (HT.out.grown HG3 HT.out.size (fun k hk => by injection hk with hk; omega))
  have HO := Lib.hid (o.grown HG3 (fun k hk => by injection hk with hk; omega))
  have hz3 := HG3.size
  clear HG3 o HR2
  by_cases c0 : r = 0
  · subst c0
    have HC : Hid (CellsAt (w3.alloc (.cells #[] TSp)) ⟨b, 0, none⟩ (spcs xs)) := by
      rcases ((HO.out.below (below_alloc (Below.refl _ _) (.cells #[] TSp))).row).row with h0 | ⟨a, e, _, hc⟩
      · intro j u hj
        rw [h0] at hj
        simp at hj
      · cases e
        exact hc
    have HE := Lib.hid (own_empty w3)
    go_wp2_with (at_builtin; refine wpList_append_own _ rfl (.tmp 14) (.tmp 15) 25 rfl w3.heap.size TSp i0 (.agg #[.int .i64 0, .int .i64 0]) 2 16 Tryd.underlying25 hi hz0 hz1 hz2 rfl (by decide) _ 0 [] rfl HE.out.own ⟨b, 0, none⟩ xs.length cap (spcs xs) rfl (spcs_length _) HC.out (spcs_one _) (by unfold maxLen; omega) (by omega) (by simp) ?_; intro v' w5 hown' hgrow _)
    have HN : Hid (OwnSp w5 w3.heap.size v' xs) := ⟨by simpa using hown', by unfold maxN; omega⟩
    have hbs := own_base HE.out.own
    have HG5 : Hid (w3.grownBy w5 none) := grown_row (grown_below (below_alloc (Below.refl _ _) _)) hgrow (fun k hk => (hbs k hk).1)
    clear hown' hgrow
    go_wp2
    exact bodyPost_ret (v := .tuple #[.slice (some ⟨b, 0, none⟩) xs.length cap, v']) (by simp [results, Tryd.results67, go_sem]) rfl ⟨xs, xs, _, v', rfl, (HO.out.grown HG5.out (fun k hk => by cases hk)).lower (by omega), HN.out.lower (by omega), hl, hl, HT.out.grown HG5.out HT.out.size (fun k hk => by cases hk)⟩
  · have d0 : (r == 0) = false := by simp [c0]
    go_wp2_with fail
    refine (l1Bent_r g (q + 1) _ HR3 (by omega)).mono ?_
    rintro e w4 ⟨ys, u, q4, rfl, o4, _, hl4, _, _, hG4⟩
    have HO4 := Lib.hid (HO.out.grown hG4 (fun k hk => by injection hk with hk; omega))
    have HT4 := Lib.hid (HT.out.grown hG4 HT.out.size (fun k hk => by injection hk with hk; omega))
    go_wp2
    exact bodyPost_ret (v := .tuple #[.slice (some ⟨b, 0, none⟩) xs.length cap, u]) (by simp [results, Tryd.results67, go_sem]) rfl ⟨xs, ys, _, u, rfl, HO4.out.lower (by omega), o4.lower (by omega), hl, hl4, HT4.out⟩

theorem drawSetSame_r (A : Option Addr) (c : Nat) (bs : List Int) (w : World) (h : Bys w 0 A c bs) :
    Calls Tryd.prog 30 #[.slice A bs.length c] w fun e w' => ∃ xs ys v u, e = .returned (.tuple #[v, u]) ∧ OwnSp w' w.heap.size v xs ∧ OwnSp w' w.heap.size u ys ∧ RngOk xs ∧ RngOk ys ∧ Below w.heap.size w w' := by
  go_enter Tryd.func30, Tryd.ntmps30
  go_wp2_with fail
  refine (l1Two_r _ _ _ _ h).mono ?_
  rintro e w1 ⟨xs, ys, v, u, rfl, o1, o2, l1, l2, b1⟩
  go_wp2
  exact bodyPost_ret (v := .tuple #[v, u]) (by simp [results, Tryd.results30, go_sem]) rfl ⟨xs, ys, v, u, rfl, o1, o2, l1, l2, b1⟩

end Go.Proofs.YtlchipjckgaclaaDoor
