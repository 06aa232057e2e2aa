/- Texts joined for the claims: Dr Dr2. -/
import Derived.Test.YtlchipjckgaclaaDoorG13
import Derived.Deep.AppendLies
import Derived.Deep.RegionLaw
/- What draws a set: l1Set. -/
namespace Go.Proofs.YtlchipjckgaclaaDoor
set_option linter.unusedSimpArgs false
set_option linter.unusedVariables false
set_option maxRecDepth 100000
open Go.RowKit

theorem ints_new (w : World) (zs : List Int) (t : TypeId) : CellsAt (w.alloc (.cells (zs.map fun z => Value.int .i64 z).toArray t)) ⟨w.heap.size, 0, none⟩ (zs.map fun z => .int .i64 z) := new_cells w _ t
def L9 : List Int := [0, 48, 97, 97, 98, 99, 120, 254, 255]
def L7 : List Int := [0, 0, 1, 2, 9, 25, 200]

theorem grown_fresh {w w1 : World} {row : Option Nat} (h : w.grownBy w1 row) {b : Nat} (hb : w.heap.size ≤ b) (o : Nat) (u : Value) : w.grownBy (w1.setCell ⟨b, o, none⟩ u) row :=
  ⟨h.os, h.tape, h.output, by rw [World.size_setCell]; exact h.size, fun k hk hne => (Below.heap_setCell w1 ⟨b, o, none⟩ u k (by show k ≠ b; omega)).trans (h.block k hk hne)⟩

set_option maxRecDepth 100000 in
set_option maxHeartbeats 2000000 in
theorem l1Set_c (g p : Nat) (w : World) (h : Rd w g p) (hp : p ≤ 900000) :
    Calls Tryd.prog 90 #[.pointer (some ⟨g, 0, none⟩)] w fun e w' => ∃ f v q, e = .returned v ∧ OwnSp w' w.heap.size v (spansOf f) ∧ (∃ k, k < 256 ∧ f k = true) ∧ Rd w' g q ∧ q ≤ p + 10 ∧ w.grownBy w' (some g) := by
  obtain ⟨i0, hi, hz0, hz1, hz2⟩ := info_parts infoBool
  have hgw := h.lt
  go_enter Tryd.func90, Tryd.ntmps90
  go_wp2_with (at_make; refine wpList_make_full _ rfl _ _ 114 rfl w.heap.size TB i0 (.bool false) 1 Tryd.underlying114 hi hz0 hz1 .i64 .i64 _ _ 256 rfl rfl rfl rfl (by rw [hz2]; omega) (by unfold maxLen; omega) (Nat.le_refl _) ?_; intro w1 hown hgrow; have HX1 := Lib.hid (own_bits hown); have HR1 := Lib.hid (h.grown hgrow (fun k hk => by cases hk)); have HB1 := Lib.hid ((Below.refl _ w).grown hgrow (Nat.le_refl _) (fun k hk => by cases hk)); clear hown hgrow hi hz0 hz1 hz2 h; skip)
  refine (pick_c g p 3 _ HR1.out (by omega) (by omega) (by omega)).mono ?_
  rintro e w2 ⟨r, rfl, r0, r1, HR, HG⟩
  have HX := Lib.hid (HX1.out.grown HG (fun k hk => by injection hk with hk; omega))
  replace HR := Lib.hid HR
  replace HG := Lib.hid (grown_then (grown_below HB1.out) HG)
  obtain ⟨m, rfl⟩ := Int.eq_ofNat_of_zero_le r0
  clear HX1 HR1 HB1
  go_wp2
  go_loopg [4] (m + 1) (fun n i wr => i = .int .i64 n ∧ Hid (n ≤ m + 1) ∧ ∃ (f : Nat → Bool) (q : Nat), Hid (Blk wr w.heap.size (bitCells f).toArray TB) ∧ Hid (Rd wr g q) ∧ Hid (q + 2 * n ≤ p + 7) ∧ Hid (n = m + 1 ∨ ∃ k, k < 256 ∧ f k = true) ∧ Hid (w.grownBy wr (some g)))
  case atStart => exact ⟨by go_num, Nat.le_refl _, _, p + 1, HX, HR, by show _ ≤ _; omega, .inl rfl, HG⟩
  case round =>
    clear HX HR HG
    obtain ⟨rfl, hn, f, q, HX, HR, HQ, HE, HG⟩ := hrel
    by_cases hpos : 0 < gk
    · obtain ⟨gn, rfl⟩ : ∃ x, gk = x + 1 := ⟨gk - 1, by omega⟩
      have hgk : gn + 1 ≤ 3 := by have := hn.out; omega
      have hq0 : q ≤ 900010 := by have := HQ.out; omega
      have hl9 : L9.length = 9 := rfl
      go_wp2_with fail
      refine (num_c g q wr.heap.size 9 L9 0 255 _ (HR.out.below (below_alloc (Below.refl _ _) _)) (ints_new wr L9 _) (by have := HR.out.lt; omega) (by simp) (by decide) (by decide) (by decide) (by omega)).mono ?_
      rintro e w3 ⟨a, rfl, a0, a1, HR3, HG3⟩
      have HX3 := Lib.hid ((HX.out.alloc _).grown HG3 (fun k hk => by injection hk with hk; omega))
      have HT3 := Lib.hid (grown_then HG.out (grown_then (grown_below (below_alloc (Below.refl _ _) _)) HG3))
      replace HR3 := Lib.hid HR3
      clear HX HR HG HG3
      go_wp2_with fail
      refine (num_c g (q + 1) w3.heap.size 7 L7 0 200 _ (HR3.out.below (below_alloc (Below.refl _ _) _)) (ints_new w3 L7 _) (by have := HR3.out.lt; omega) (by simp) (by decide) (by decide) (by decide) (by omega)).mono ?_
      rintro e w4 ⟨r2, rfl, b0, b1, HR4, HG4⟩
      have HX4 := Lib.hid ((HX3.out.alloc _).grown HG4 (fun k hk => by injection hk with hk; omega))
      have HT4 := Lib.hid (grown_then HT3.out (grown_then (grown_below (below_alloc (Below.refl _ _) _)) HG4))
      replace HR4 := Lib.hid HR4
      clear HX3 HR3 HT3 HG4
      go_wp2_with fail
      refine (min_c _ _ _).mono ?_
      rintro e w5 ⟨rfl, rfl⟩
      obtain ⟨b, hb⟩ : ∃ b, b = (if (255 : Int) < a + r2 then 255 else a + r2) := ⟨_, rfl⟩
      rw [← hb]
      have hab : a ≤ b ∧ b ≤ 255 := by rw [hb]; split <;> omega
      clear hb
      obtain ⟨an, rfl⟩ := Int.eq_ofNat_of_zero_le a0
      obtain ⟨bn, rfl⟩ := Int.eq_ofNat_of_zero_le (show 0 ≤ b by omega)
      have hab1 : an ≤ bn := by omega
      have hab2 : bn ≤ 255 := by omega
      clear hab a0 a1 b0 b1
      go_wp2
      go_loopg [7] (bn + 1 - an) (fun n i wr => ∃ kk : Nat, i = .int .i64 kk ∧ kk + n = bn + 1 ∧ ∃ (f : Nat → Bool), Hid (Blk wr w.heap.size (bitCells f).toArray TB) ∧ Hid (Rd wr g (q + 2)) ∧ Hid (kk = an ∨ ∃ k, k < 256 ∧ f k = true) ∧ Hid (w.grownBy wr (some g)))
      case atStart => exact ⟨an, rfl, by omega, _, HX4, HR4, .inl rfl, HT4⟩
      case round =>
        clear HX4 HR4 HT4
        obtain ⟨kk, rfl, hkk, f', HX, HR, HE', HG⟩ := hrel
        by_cases hk : kk ≤ bn
        · have c0 := bitr_cell HX.out kk (by omega)
          have f0 := HX.out.free kk
          go_wp2
          go_roundg (gk - 1)
          case rel => exact ⟨kk + 1, by go_num, by omega, _, bitr_set HX.out kk _, HR.out.grown (grown_set (grown_refl _ _) _ _) (fun k hk => by injection hk with hk; omega), .inr ⟨kk, by omega, by simp⟩, grown_fresh HG.out (Nat.le_refl _) _ _⟩
          case measure => omega
        · go_wp2
          go_roundg gn
          case rel => exact ⟨by go_num, by have := hn.out; show _ ≤ _; omega, f', q + 2, HX, HR, by have := HQ.out; show _ ≤ _; omega, .inr (HE'.out.resolve_left (by omega)), HG⟩
          case measure => omega
    · go_wp2_with fail
      refine (sl1Of_c f _ _ HX.out).mono ?_
      rintro e w9 ⟨v9, rfl, o9, b9⟩
      go_wp2
      go_ret
      exact ⟨f, v9, q, rfl, o9.lower HG.out.size, HE.out.resolve_left (by omega), HR.out.below b9, by have := HQ.out; omega, grown_then HG.out (grown_below b9)⟩

end Go.Proofs.YtlchipjckgaclaaDoor

/- What draws sets: l1Bent, l1Two. -/
namespace Go.Proofs.YtlchipjckgaclaaDoor
set_option linter.unusedSimpArgs false
set_option linter.unusedVariables false
set_option maxRecDepth 100000
open Go.RowKit

theorem spcs_set_lo (xs : List Sp) (k : Nat) (x : Sp) (a : Int) (hx : xs[k]? = some x) : (spcs xs).set (k * 2) (.int .i64 a) = spcs (xs.set k ⟨a, x.hi⟩) := by
  have hk := (List.getElem?_eq_some_iff.1 hx).1
  have hg := (spcs_get xs k hk).2
  have e1 : xs.getD k default = x := by simp [List.getD_eq_getElem?_getD, hx]
  rw [e1] at hg
  rw [← spcs_set xs k a x.hi]
  apply List.ext_getElem?
  intro j
  rw [List.getElem?_set (l := (spcs xs).set (k * 2) _)]
  split
  · rename_i e; subst e
    rw [List.getElem?_set, if_neg (by omega), hg]
    rw [if_pos (by rw [List.length_set]; exact (List.getElem?_eq_some_iff.1 hg).1)]
  · rfl
theorem OwnSp.setLo {w : World} {base g n cap : Nat} {xs : List Sp} (h : OwnSp w base (.slice (some ⟨g, 0, none⟩) n cap) xs) (k : Nat) (x : Sp) (hx : xs[k]? = some x) (a : Int) :
    OwnSp (w.setCell ⟨g, k * 2, none⟩ (.int .i64 a)) base (.slice (some ⟨g, 0, none⟩) n cap) (xs.set k ⟨a, x.hi⟩) := by
  obtain ⟨h1, h2⟩ := h
  have hn : n = xs.length := by
    rcases h1.2 with ⟨h0, _⟩ | ⟨g', cap', cur, h0, _⟩
    · simp at h0
    · simp at h0; exact h0.2.1
  subst hn
  have s1 := (h1.stored (k * 2) (.int .i64 a)).1
  rw [spcs_set_lo xs k x a hx] at s1
  exact ⟨by rw [List.length_set]; exact s1, by rw [List.length_set]; exact h2⟩
theorem OwnSp.grown {w w1 : World} {base : Nat} {v : Value} {xs : List Sp} (h : OwnSp w base v xs) {row : Option Nat} (hg : w.grownBy w1 row) (hr : ∀ k, row = some k → k < base) : OwnSp w1 base v xs :=
  h.moved fun k hk => hg.block k (own_base h.own k hk).2 (fun e => by have := hr k e.symm; have := (own_base h.own k hk).1; omega)
theorem grown_row {w w1 w2 : World} {r row : Option Nat} (h : w.grownBy w1 r) (k : w1.grownBy w2 row) (hr : ∀ q, row = some q → w.heap.size ≤ q) : w.grownBy w2 r :=
  ⟨k.os.trans h.os, k.tape.trans h.tape, k.output.trans h.output, Nat.le_trans h.size k.size, fun i hi hne => (k.block i (Nat.lt_of_lt_of_le hi h.size) (fun e => by have := hr i e.symm; omega)).trans (h.block i hi hne)⟩
theorem spansOf_pos {f : Nat → Bool} (h : ∃ k, k < 256 ∧ f k = true) : 0 < (spansOf f).length := by
  obtain ⟨k, hk, hf⟩ := h
  rcases Nat.eq_zero_or_pos (spansOf f).length with h0 | h0
  · have e : spansOf f = [] := List.length_eq_zero_iff.1 h0
    have := setHas_spans_nat f k hk
    rw [e, hf] at this
    cases this
  · exact h0
theorem OwnSp.some {w : World} {base : Nat} {v : Value} {xs : List Sp} (h : OwnSp w base v xs) (hn : 0 < xs.length) : ∃ b cap, v = .slice (some ⟨b, 0, none⟩) xs.length cap := by
  obtain ⟨g, cap, e, _⟩ := own_form h.own hn
  exact ⟨g, cap, e⟩
def L2 : List Int := [-1, 300]

set_option maxRecDepth 100000 in
set_option maxHeartbeats 4000000 in
theorem l1Bent_c (g p : Nat) (w : World) (h : Rd w g p) (hp : p ≤ 800000) :
    Calls Tryd.prog 68 #[.pointer (some ⟨g, 0, none⟩)] w fun e w' => ∃ xs v q, e = .returned v ∧ OwnSp w' w.heap.size v xs ∧ (∃ b cap, v = .slice (some ⟨b, 0, none⟩) xs.length cap) ∧ xs.length ≤ 300 ∧ Rd w' g q ∧ q ≤ p + 20 ∧ w.grownBy w' (some g) := by
  obtain ⟨i0, hi, hz0, hz1, hz2⟩ := info_parts infoSp
  have hgw := h.lt
  go_enter Tryd.func68, Tryd.ntmps68
  go_wp2_with fail
  refine (l1Set_c g p _ h (by omega)).mono ?_
  rintro e w1 ⟨f, v, q, rfl, HO, hf, HR, hq, HG⟩
  have hl := spansOf_pos hf
  have hl2 := spansOf_len f
  clear h hf
  replace HG := Lib.hid HG
  go_wp2_with fail
  refine (pick_c g q 40 _ HR (by omega) (by omega) (by omega)).mono ?_
  rintro e w2 ⟨r, rfl, r0, r1, HR2, HG2⟩
  replace HO := Lib.hid (HO.grown HG2 (fun k hk => by injection hk with hk; omega))
  replace HG := Lib.hid (grown_then HG.out HG2)
  replace HR := Lib.hid HR2
  clear HG2 HR2
  obtain ⟨b, cap, rfl, hb, _⟩ := own_form HO.out.own hl
  by_cases c0 : r = 0
  · subst c0
    go_wp2
    go_ret
    exact ⟨[], _, q + 1, rfl, (own_empty w2).lower HG.out.size, ⟨_, _, rfl⟩, by simp, HR.out.below (below_alloc (Below.refl _ _) _), by omega, grown_then HG.out (grown_below (below_alloc (Below.refl _ _) _))⟩
  have d0 : (r == 0) = false := by simp [c0]
  by_cases c1 : r = 1
  · subst c1
    obtain ⟨x, HX, m0, m1, f0, f1⟩ := HO.out.cells 0 hl
    go_wp2_with fail
    refine (num_c g (q + 1) w2.heap.size 2 L2 (-1) 300 _ (HR.out.below (below_alloc (Below.refl _ _) _)) (ints_new w2 L2 _) (by have := HR.out.lt; omega) (by simp) (by decide) (by decide) (by decide) (by omega)).mono ?_
    rintro e w3 ⟨z, rfl, z0, z1, HR3, HG3⟩
    have HO3 := Lib.hid ((HO.out.below (below_alloc (Below.refl _ _) _)).grown HG3 (fun k hk => by injection hk with hk; omega))
    have HT := Lib.hid (grown_then HG.out (grown_then (grown_below (below_alloc (Below.refl _ _) _)) HG3))
    replace HR3 := Lib.hid HR3
    clear HX m0 m1 f0 f1 HG3 HG HO HR
    obtain ⟨x, HX, m0, m1, f0, f1⟩ := HO3.out.cells 0 hl
    go_wp2
    go_ret
    exact ⟨_, .slice (some ⟨b, 0, none⟩) (spansOf f).length cap, q + 2, rfl, HO3.out.setLo 0 x HX.out z, ⟨b, cap, by rw [List.length_set]⟩, by rw [List.length_set]; omega, HR3.out.grown (grown_set (grown_refl _ _) _ _) (fun k hk => by injection hk with hk; omega), by omega, grown_fresh HT.out hb _ _⟩
  have d1 : (r == 1) = false := by simp [c1]
  by_cases c2 : r = 2
  · subst c2
    obtain ⟨x, HX, m0, m1, f0, f1⟩ := HO.out.cells 0 hl
    have HOw := HO
    have HRw := HR
    have HGw := HG
    have hsz := HG.out.size
    go_wp2_with (at_builtin; refine wpList_append_own _ rfl (.tmp 21) (.tmp 25) 25 rfl w.heap.size TSp i0 (.agg #[.int .i64 0, .int .i64 0]) 2 16 Tryd.underlying25 hi hz0 hz1 hz2 rfl (by decide) _ _ _ rfl (HOw.out.own.alloc _) ⟨_, 0, none⟩ 1 1 [.int .i64 x.lo, .int .i64 x.hi] rfl rfl (new_cells _ [.int .i64 x.lo, .int .i64 x.hi] TSp) (two_one _ _) (by unfold maxLen; omega) (by omega) (by simp; omega) ?_; intro v' w5 hown' hgrow _)
    have hbs := own_base HOw.out.own
    go_wp2
    go_ret
    exact ⟨_, _, q + 1, rfl, OwnSp.snoc hown', (OwnSp.snoc hown').some (by simp), by rw [List.length_append, List.length_singleton]; omega, (HRw.out.below (below_alloc (Below.refl _ _) _)).grown hgrow (fun k hk => by have := (hbs k hk).1; omega), by omega, grown_row (grown_then HGw.out (grown_below (below_alloc (Below.refl _ _) _))) hgrow (fun k hk => (hbs k hk).1)⟩
  have d2 : (r == 2) = false := by simp [c2]
  obtain ⟨x, HX, m0, m1, f0, f1⟩ := HO.out.cells ((spansOf f).length - 1) (by omega)
  have hh := spansTo_hi (f := f) (n := 256) (by omega) hl HX.out
  have hx0 : 0 ≤ x.hi := hh.1
  have hx1 : x.hi ≤ 255 := hh.2.1
  clear hh
  by_cases c3 : r = 3
  · subst c3
    go_wp2
    go_ret
    exact ⟨_, .slice (some ⟨b, 0, none⟩) (spansOf f).length cap, q + 1, rfl, HO.out.setHi _ x HX.out 256, ⟨b, cap, by rw [List.length_set]⟩, by rw [List.length_set]; omega, HR.out.grown (grown_set (grown_refl _ _) _ _) (fun k hk => by injection hk with hk; omega), by omega, grown_fresh HG.out hb _ _⟩
  have d3 : (r == 3) = false := by simp [c3]
  by_cases c4 : r = 4
  · subst c4
    have HOw := HO
    have HRw := HR
    have HGw := HG
    have hsz := HG.out.size
    have e1 : IntKind.i64.wrap (((spansOf f).length : Int) - 1) = ((spansOf f).length : Int) - 1 := IntWalk.i64_in _ (by omega)
    have e2 : (0 : Int) ≤ ((spansOf f).length : Int) - 1 := by omega
    have e3 : ((spansOf f).length : Int) - 1 < ((spansOf f).length : Int) := by omega
    have e4 : (((spansOf f).length : Int) - 1).toNat = (spansOf f).length - 1 := by omega
    have e5 : IntKind.i64.wrap (x.hi + 1) = x.hi + 1 := IntWalk.i64_in _ (by omega)
    have e6 : (1 : Int) ≤ ((spansOf f).length : Int) := by omega
    go_wp2
    go_region_law (refine step_append_lies _ rfl (.tmp 37) (.tmp 55) 25 rfl w.heap.size TSp i0 (.agg #[.int .i64 0, .int .i64 0]) 2 16 Tryd.underlying25 hi hz0 hz1 hz2 rfl (by decide) _ _ _ rfl ((HOw.out.below (below_alloc (below_drew (Below.refl _ _)) _)).own) ⟨_, 0, none⟩ 1 1 [.int .i64 (x.hi + 1), .int .i64 (x.hi + 1)] rfl rfl (new_cells _ [.int .i64 (x.hi + 1), .int .i64 (x.hi + 1)] TSp) (two_one _ _) (by decide) (by unfold maxLen; omega) (by omega) (by simp; omega) _ rfl ?_; intro g5 cap5 w5 hown' hgrow hat' hlt')
    all_goals
      have hbs := own_base HOw.out.own
      go_wp2
      go_ret
      exact ⟨_, _, q + 1, rfl, OwnSp.snoc hown', (OwnSp.snoc hown').some (by simp), by rw [List.length_append, List.length_singleton]; omega, (HRw.out.below (below_alloc (below_drew (Below.refl _ _)) _)).grown hgrow (fun k hk => by have := (hbs k hk).1; omega), by omega, grown_row (grown_then HGw.out (grown_below (below_alloc (below_drew (Below.refl _ _)) _))) hgrow (fun k hk => (hbs k hk).1)⟩
  · have d4 : (r == 4) = false := by simp [c4]
    go_wp2
    go_ret
    exact ⟨_, _, q + 1, rfl, HO.out, ⟨b, cap, rfl⟩, by omega, HR.out, by omega, HG.out⟩

set_option maxHeartbeats 2000000 in
theorem l1Two_c (A : Option Addr) (c : Nat) (bs : List Int) (w : World) (h : Bys w 0 A c bs) :
    Calls Tryd.prog 67 #[.slice A bs.length c] w fun e w' => ∃ xs ys v u, e = .returned (.tuple #[v, u]) ∧ OwnSp w' w.heap.size v xs ∧ OwnSp w' w.heap.size u ys ∧ xs.length ≤ 300 ∧ ys.length ≤ 300 ∧ Below w.heap.size w w' := by
  obtain ⟨i0, hi, hz0, hz1, hz2⟩ := info_parts infoSp
  go_enter Tryd.func67, Tryd.ntmps67
  go_wp2_with fail
  refine (open_c _ _ _ _ h).mono ?_
  rintro e w1 ⟨g, rfl, HR, hg, b1⟩
  go_wp2_with fail
  refine (l1Bent_c g 0 _ HR (by omega)).mono ?_
  rintro e w2 ⟨xs, v, q, rfl, o, ⟨b, cap, rfl⟩, hl, HR2, hq, hG⟩
  have HT := Lib.hid (b1.grown hG b1.size (fun k hk => by injection hk with hk; omega))
  have hz := hG.size
  have hgl := HR.lt
  have hws := b1.size
  clear hG b1 HR
  go_wp2_with fail
  refine (pick_c g q 4 _ HR2 (by omega) (by omega) (by omega)).mono ?_
  rintro e w3 ⟨r, rfl, r0, r1, HR3, HG3⟩
  replace HT := Lib.hid (HT.out.grown HG3 HT.out.size (fun k hk => by injection hk with hk; omega))
  have HO := Lib.hid (o.grown HG3 (fun k hk => by injection hk with hk; omega))
  have hz3 := HG3.size
  clear HG3 o HR2
  by_cases c0 : r = 0
  · subst c0
    have HC : Hid (CellsAt (w3.alloc (.cells #[] TSp)) ⟨b, 0, none⟩ (spcs xs)) := by
      rcases ((HO.out.below (below_alloc (Below.refl _ _) (.cells #[] TSp))).row).row with h0 | ⟨a, e, _, hc⟩
      · intro j u hj
        rw [h0] at hj
        simp at hj
      · cases e
        exact hc
    have HE := Lib.hid (own_empty w3)
    go_wp2_with (at_builtin; refine wpList_append_own _ rfl (.tmp 14) (.tmp 15) 25 rfl w3.heap.size TSp i0 (.agg #[.int .i64 0, .int .i64 0]) 2 16 Tryd.underlying25 hi hz0 hz1 hz2 rfl (by decide) _ 0 [] rfl HE.out.own ⟨b, 0, none⟩ xs.length cap (spcs xs) rfl (spcs_length _) HC.out (spcs_one _) (by unfold maxLen; omega) (by omega) (by simp) ?_; intro v' w5 hown' hgrow _)
    have HN : Hid (OwnSp w5 w3.heap.size v' xs) := ⟨by simpa using hown', by unfold maxN; omega⟩
    have hbs := own_base HE.out.own
    have HG5 : Hid (w3.grownBy w5 none) := grown_row (grown_below (below_alloc (Below.refl _ _) _)) hgrow (fun k hk => (hbs k hk).1)
    clear hown' hgrow
    go_wp2
    exact bodyPost_ret (v := .tuple #[.slice (some ⟨b, 0, none⟩) xs.length cap, v']) (by simp [results, Tryd.results67, go_sem]) rfl ⟨xs, xs, _, v', rfl, (HO.out.grown HG5.out (fun k hk => by cases hk)).lower (by omega), HN.out.lower (by omega), hl, hl, HT.out.grown HG5.out HT.out.size (fun k hk => by cases hk)⟩
  · have d0 : (r == 0) = false := by simp [c0]
    go_wp2_with fail
    refine (l1Bent_c g (q + 1) _ HR3 (by omega)).mono ?_
    rintro e w4 ⟨ys, u, q4, rfl, o4, _, hl4, _, _, hG4⟩
    have HO4 := Lib.hid (HO.out.grown hG4 (fun k hk => by injection hk with hk; omega))
    have HT4 := Lib.hid (HT.out.grown hG4 HT.out.size (fun k hk => by injection hk with hk; omega))
    go_wp2
    exact bodyPost_ret (v := .tuple #[.slice (some ⟨b, 0, none⟩) xs.length cap, u]) (by simp [results, Tryd.results67, go_sem]) rfl ⟨xs, ys, _, u, rfl, HO4.out.lower (by omega), o4.lower (by omega), hl, hl4, HT4.out⟩

end Go.Proofs.YtlchipjckgaclaaDoor
