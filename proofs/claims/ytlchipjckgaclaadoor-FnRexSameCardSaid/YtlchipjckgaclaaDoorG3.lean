/- Texts joined for the claims: Dr2 Rex Tree T1 OwnT. -/
import Derived.Test.YtlchipjckgaclaaDoorG2
import Derived.Deep.AppendLies
import Derived.Deep.RegionLaw
import Derived.Test.YtlchipjckgaclaaDoorG1
/- What draws sets: l1Bent, l1Two. -/
namespace Go.Proofs.YtlchipjckgaclaaDoor
set_option linter.unusedSimpArgs false
set_option linter.unusedVariables false
set_option maxRecDepth 100000
open Go.RowKit

theorem spcs_set_lo (xs : List Sp) (k : Nat) (x : Sp) (a : Int) (hx : xs[k]? = some x) : (spcs xs).set (k * 2) (.int .i64 a) = spcs (xs.set k ⟨a, x.hi⟩) := by
  have hk := (List.getElem?_eq_some_iff.1 hx).1
  have hg := (spcs_get xs k hk).2
  have e1 : xs.getD k default = x := by simp [List.getD_eq_getElem?_getD, hx]
  rw [e1] at hg
  rw [← spcs_set xs k a x.hi]
  apply List.ext_getElem?
  intro j
  rw [List.getElem?_set (l := (spcs xs).set (k * 2) _)]
  split
  · rename_i e; subst e
    rw [List.getElem?_set, if_neg (by omega), hg]
    rw [if_pos (by rw [List.length_set]; exact (List.getElem?_eq_some_iff.1 hg).1)]
  · rfl
theorem OwnSp.setLo {w : World} {base g n cap : Nat} {xs : List Sp} (h : OwnSp w base (.slice (some ⟨g, 0, none⟩) n cap) xs) (k : Nat) (x : Sp) (hx : xs[k]? = some x) (a : Int) :
    OwnSp (w.setCell ⟨g, k * 2, none⟩ (.int .i64 a)) base (.slice (some ⟨g, 0, none⟩) n cap) (xs.set k ⟨a, x.hi⟩) := by
  obtain ⟨h1, h2⟩ := h
  have hn : n = xs.length := by
    rcases h1.2 with ⟨h0, _⟩ | ⟨g', cap', cur, h0, _⟩
    · simp at h0
    · simp at h0; exact h0.2.1
  subst hn
  have s1 := (h1.stored (k * 2) (.int .i64 a)).1
  rw [spcs_set_lo xs k x a hx] at s1
  exact ⟨by rw [List.length_set]; exact s1, by rw [List.length_set]; exact h2⟩
theorem OwnSp.grown {w w1 : World} {base : Nat} {v : Value} {xs : List Sp} (h : OwnSp w base v xs) {row : Option Nat} (hg : w.grownBy w1 row) (hr : ∀ k, row = some k → k < base) : OwnSp w1 base v xs :=
  h.moved fun k hk => hg.block k (own_base h.own k hk).2 (fun e => by have := hr k e.symm; have := (own_base h.own k hk).1; omega)
theorem grown_row {w w1 w2 : World} {r row : Option Nat} (h : w.grownBy w1 r) (k : w1.grownBy w2 row) (hr : ∀ q, row = some q → w.heap.size ≤ q) : w.grownBy w2 r :=
  ⟨k.os.trans h.os, k.tape.trans h.tape, k.output.trans h.output, Nat.le_trans h.size k.size, fun i hi hne => (k.block i (Nat.lt_of_lt_of_le hi h.size) (fun e => by have := hr i e.symm; omega)).trans (h.block i hi hne)⟩
theorem spansOf_pos {f : Nat → Bool} (h : ∃ k, k < 256 ∧ f k = true) : 0 < (spansOf f).length := by
  obtain ⟨k, hk, hf⟩ := h
  rcases Nat.eq_zero_or_pos (spansOf f).length with h0 | h0
  · have e : spansOf f = [] := List.length_eq_zero_iff.1 h0
    have := setHas_spans_nat f k hk
    rw [e, hf] at this
    cases this
  · exact h0
theorem OwnSp.some {w : World} {base : Nat} {v : Value} {xs : List Sp} (h : OwnSp w base v xs) (hn : 0 < xs.length) : ∃ b cap, v = .slice (some ⟨b, 0, none⟩) xs.length cap := by
  obtain ⟨g, cap, e, _⟩ := own_form h.own hn
  exact ⟨g, cap, e⟩
def L2 : List Int := [-1, 300]

set_option maxRecDepth 100000 in
set_option maxHeartbeats 4000000 in
theorem l1Bent_c (g p : Nat) (w : World) (h : Rd w g p) (hp : p ≤ 800000) :
    Calls Tryd.prog 68 #[.pointer (some ⟨g, 0, none⟩)] w fun e w' => ∃ xs v q, e = .returned v ∧ OwnSp w' w.heap.size v xs ∧ (∃ b cap, v = .slice (some ⟨b, 0, none⟩) xs.length cap) ∧ xs.length ≤ 300 ∧ Rd w' g q ∧ q ≤ p + 20 ∧ w.grownBy w' (some g) := by
  obtain ⟨i0, hi, hz0, hz1, hz2⟩ := info_parts infoSp
  have hgw := h.lt
  go_enter Tryd.func68, Tryd.ntmps68
  go_wp2_with fail
  refine (l1Set_c g p _ h (by omega)).mono ?_
  rintro e w1 ⟨f, v, q, rfl, HO, hf, HR, hq, HG⟩
  have hl := spansOf_pos hf
  have hl2 := spansOf_len f
  clear h hf
  replace HG := Lib.hid HG
  go_wp2_with fail
  refine (pick_c g q 40 _ HR (by omega) (by omega) (by omega)).mono ?_
  rintro e w2 ⟨r, rfl, r0, r1, HR2, HG2⟩
  replace HO := Lib.hid (HO.grown HG2 (fun k hk => by injection hk with hk; omega))
  replace HG := Lib.hid (grown_then HG.out HG2)
  replace HR := Lib.hid HR2
  clear HG2 HR2
  obtain ⟨b, cap, rfl, hb, _⟩ := own_form HO.out.own hl
  by_cases c0 : r = 0
  · subst c0
    go_wp2
    go_ret
    exact ⟨[], _, q + 1, rfl, (own_empty w2).lower HG.out.size, ⟨_, _, rfl⟩, by simp, HR.out.below (below_alloc (Below.refl _ _) _), by omega, grown_then HG.out (grown_below (below_alloc (Below.refl _ _) _))⟩
  have d0 : (r == 0) = false := by simp [c0]
  by_cases c1 : r = 1
  · subst c1
    obtain ⟨x, HX, m0, m1, f0, f1⟩ := HO.out.cells 0 hl
    go_wp2_with fail
    refine (num_c g (q + 1) w2.heap.size 2 L2 (-1) 300 _ (HR.out.below (below_alloc (Below.refl _ _) _)) (ints_new w2 L2 _) (by have := HR.out.lt; omega) (by simp) (by decide) (by decide) (by decide) (by omega)).mono ?_
    rintro e w3 ⟨z, rfl, z0, z1, HR3, HG3⟩
    have HO3 := Lib.hid ((HO.out.below (below_alloc (Below.refl _ _) _)).grown HG3 (fun k hk => by injection hk with hk; omega))
    have HT := Lib.hid (grown_then HG.out (grown_then (grown_below (below_alloc (Below.refl _ _) _)) HG3))
    replace HR3 := Lib.hid HR3
    clear HX m0 m1 f0 f1 HG3 HG HO HR
    obtain ⟨x, HX, m0, m1, f0, f1⟩ := HO3.out.cells 0 hl
    go_wp2
    go_ret
    exact ⟨_, .slice (some ⟨b, 0, none⟩) (spansOf f).length cap, q + 2, rfl, HO3.out.setLo 0 x HX.out z, ⟨b, cap, by rw [List.length_set]⟩, by rw [List.length_set]; omega, HR3.out.grown (grown_set (grown_refl _ _) _ _) (fun k hk => by injection hk with hk; omega), by omega, grown_fresh HT.out hb _ _⟩
  have d1 : (r == 1) = false := by simp [c1]
  by_cases c2 : r = 2
  · subst c2
    obtain ⟨x, HX, m0, m1, f0, f1⟩ := HO.out.cells 0 hl
    have HOw := HO
    have HRw := HR
    have HGw := HG
    have hsz := HG.out.size
    go_wp2_with (at_builtin; refine wpList_append_own _ rfl (.tmp 21) (.tmp 25) 25 rfl w.heap.size TSp i0 (.agg #[.int .i64 0, .int .i64 0]) 2 16 Tryd.underlying25 hi hz0 hz1 hz2 rfl (by decide) _ _ _ rfl (HOw.out.own.alloc _) ⟨_, 0, none⟩ 1 1 [.int .i64 x.lo, .int .i64 x.hi] rfl rfl (new_cells _ [.int .i64 x.lo, .int .i64 x.hi] TSp) (two_one _ _) (by unfold maxLen; omega) (by omega) (by simp; omega) ?_; intro v' w5 hown' hgrow _)
    have hbs := own_base HOw.out.own
    go_wp2
    go_ret
    exact ⟨_, _, q + 1, rfl, OwnSp.snoc hown', (OwnSp.snoc hown').some (by simp), by rw [List.length_append, List.length_singleton]; omega, (HRw.out.below (below_alloc (Below.refl _ _) _)).grown hgrow (fun k hk => by have := (hbs k hk).1; omega), by omega, grown_row (grown_then HGw.out (grown_below (below_alloc (Below.refl _ _) _))) hgrow (fun k hk => (hbs k hk).1)⟩
  have d2 : (r == 2) = false := by simp [c2]
  obtain ⟨x, HX, m0, m1, f0, f1⟩ := HO.out.cells ((spansOf f).length - 1) (by omega)
  have hh := spansTo_hi (f := f) (n := 256) (by omega) hl HX.out
  have hx0 : 0 ≤ x.hi := hh.1
  have hx1 : x.hi ≤ 255 := hh.2.1
  clear hh
  by_cases c3 : r = 3
  · subst c3
    go_wp2
    go_ret
    exact ⟨_, .slice (some ⟨b, 0, none⟩) (spansOf f).length cap, q + 1, rfl, HO.out.setHi _ x HX.out 256, ⟨b, cap, by rw [List.length_set]⟩, by rw [List.length_set]; omega, HR.out.grown (grown_set (grown_refl _ _) _ _) (fun k hk => by injection hk with hk; omega), by omega, grown_fresh HG.out hb _ _⟩
  have d3 : (r == 3) = false := by simp [c3]
  by_cases c4 : r = 4
  · subst c4
    have HOw := HO
    have HRw := HR
    have HGw := HG
    have hsz := HG.out.size
    have e1 : IntKind.i64.wrap (((spansOf f).length : Int) - 1) = ((spansOf f).length : Int) - 1 := IntWalk.i64_in _ (by omega)
    have e2 : (0 : Int) ≤ ((spansOf f).length : Int) - 1 := by omega
    have e3 : ((spansOf f).length : Int) - 1 < ((spansOf f).length : Int) := by omega
    have e4 : (((spansOf f).length : Int) - 1).toNat = (spansOf f).length - 1 := by omega
    have e5 : IntKind.i64.wrap (x.hi + 1) = x.hi + 1 := IntWalk.i64_in _ (by omega)
    have e6 : (1 : Int) ≤ ((spansOf f).length : Int) := by omega
    go_wp2
    go_region_law (refine step_append_lies _ rfl (.tmp 37) (.tmp 55) 25 rfl w.heap.size TSp i0 (.agg #[.int .i64 0, .int .i64 0]) 2 16 Tryd.underlying25 hi hz0 hz1 hz2 rfl (by decide) _ _ _ rfl ((HOw.out.below (below_alloc (below_drew (Below.refl _ _)) _)).own) ⟨_, 0, none⟩ 1 1 [.int .i64 (x.hi + 1), .int .i64 (x.hi + 1)] rfl rfl (new_cells _ [.int .i64 (x.hi + 1), .int .i64 (x.hi + 1)] TSp) (two_one _ _) (by decide) (by unfold maxLen; omega) (by omega) (by simp; omega) _ rfl ?_; intro g5 cap5 w5 hown' hgrow hat' hlt')
    all_goals
      have hbs := own_base HOw.out.own
      go_wp2
      go_ret
      exact ⟨_, _, q + 1, rfl, OwnSp.snoc hown', (OwnSp.snoc hown').some (by simp), by rw [List.length_append, List.length_singleton]; omega, (HRw.out.below (below_alloc (below_drew (Below.refl _ _)) _)).grown hgrow (fun k hk => by have := (hbs k hk).1; omega), by omega, grown_row (grown_then HGw.out (grown_below (below_alloc (below_drew (Below.refl _ _)) _))) hgrow (fun k hk => (hbs k hk).1)⟩
  · have d4 : (r == 4) = false := by simp [c4]
    go_wp2
    go_ret
    exact ⟨_, _, q + 1, rfl, HO.out, ⟨b, cap, rfl⟩, by omega, HR.out, by omega, HG.out⟩

set_option maxHeartbeats 2000000 in
theorem l1Two_c (A : Option Addr) (c : Nat) (bs : List Int) (w : World) (h : Bys w 0 A c bs) :
    Calls Tryd.prog 67 #[.slice A bs.length c] w fun e w' => ∃ xs ys v u, e = .returned (.tuple #[v, u]) ∧ OwnSp w' w.heap.size v xs ∧ OwnSp w' w.heap.size u ys ∧ xs.length ≤ 300 ∧ ys.length ≤ 300 ∧ Below w.heap.size w w' := by
  obtain ⟨i0, hi, hz0, hz1, hz2⟩ := info_parts infoSp
  go_enter Tryd.func67, Tryd.ntmps67
  go_wp2_with fail
  refine (open_c _ _ _ _ h).mono ?_
  rintro e w1 ⟨g, rfl, HR, hg, b1⟩
  go_wp2_with fail
  refine (l1Bent_c g 0 _ HR (by omega)).mono ?_
  rintro e w2 ⟨xs, v, q, rfl, o, ⟨b, cap, rfl⟩, hl, HR2, hq, hG⟩
  have HT := Lib.hid (b1.grown hG b1.size (fun k hk => by injection hk with hk; omega))
  have hz := hG.size
  have hgl := HR.lt
  have hws := b1.size
  clear hG b1 HR
  go_wp2_with fail
  refine (pick_c g q 4 _ HR2 (by omega) (by omega) (by omega)).mono ?_
  rintro e w3 ⟨r, rfl, r0, r1, HR3, HG3⟩
  replace HT := Lib.hid (HT.out.grown HG3 HT.out.size (fun k hk => by injection hk with hk; omega))
  have HO := Lib.hid (o.grown HG3 (fun k hk => by injection hk with hk; omega))
  have hz3 := HG3.size
  clear HG3 o HR2
  by_cases c0 : r = 0
  · subst c0
    have HC : Hid (CellsAt (w3.alloc (.cells #[] TSp)) ⟨b, 0, none⟩ (spcs xs)) := by
      rcases ((HO.out.below (below_alloc (Below.refl _ _) (.cells #[] TSp))).row).row with h0 | ⟨a, e, _, hc⟩
      · intro j u hj
        rw [h0] at hj
        simp at hj
      · cases e
        exact hc
    have HE := Lib.hid (own_empty w3)
    go_wp2_with (at_builtin; refine wpList_append_own _ rfl (.tmp 14) (.tmp 15) 25 rfl w3.heap.size TSp i0 (.agg #[.int .i64 0, .int .i64 0]) 2 16 Tryd.underlying25 hi hz0 hz1 hz2 rfl (by decide) _ 0 [] rfl HE.out.own ⟨b, 0, none⟩ xs.length cap (spcs xs) rfl (spcs_length _) HC.out (spcs_one _) (by unfold maxLen; omega) (by omega) (by simp) ?_; intro v' w5 hown' hgrow _)
    have HN : Hid (OwnSp w5 w3.heap.size v' xs) := ⟨by simpa using hown', by unfold maxN; omega⟩
    have hbs := own_base HE.out.own
    have HG5 : Hid (w3.grownBy w5 none) := grown_row (grown_below (below_alloc (Below.refl _ _) _)) hgrow (fun k hk => (hbs k hk).1)
    clear hown' hgrow
    go_wp2
    exact bodyPost_ret (v := .tuple #[.slice (some ⟨b, 0, none⟩) xs.length cap, v']) (by simp [results, Tryd.results67, go_sem]) rfl ⟨xs, xs, _, v', rfl, (HO.out.grown HG5.out (fun k hk => by cases hk)).lower (by omega), HN.out.lower (by omega), hl, hl, HT.out.grown HG5.out HT.out.size (fun k hk => by cases hk)⟩
  · have d0 : (r == 0) = false := by simp [c0]
    go_wp2_with fail
    refine (l1Bent_c g (q + 1) _ HR3 (by omega)).mono ?_
    rintro e w4 ⟨ys, u, q4, rfl, o4, _, hl4, _, _, hG4⟩
    have HO4 := Lib.hid (HO.out.grown hG4 (fun k hk => by injection hk with hk; omega))
    have HT4 := Lib.hid (HT.out.grown hG4 HT.out.size (fun k hk => by injection hk with hk; omega))
    go_wp2
    exact bodyPost_ret (v := .tuple #[.slice (some ⟨b, 0, none⟩) xs.length cap, u]) (by simp [results, Tryd.results67, go_sem]) rfl ⟨xs, ys, _, u, rfl, HO4.out.lower (by omega), o4.lower (by omega), hl, hl4, HT4.out⟩

end Go.Proofs.YtlchipjckgaclaaDoor

/- What a text is like, as a tree: the plain functions, and what holds of them. No program in sight. -/
namespace Go.Proofs.YtlchipjckgaclaaDoor
set_option linter.unusedSimpArgs false
set_option linter.unusedVariables false
set_option maxRecDepth 100000

inductive Rex where
  | mk : Int → List Sp → List Rex → Rex
def Rex.kind : Rex → Int
  | .mk k _ _ => k
def Rex.set : Rex → List Sp
  | .mk _ s _ => s
def Rex.kids : Rex → List Rex
  | .mk _ _ ks => ks
instance : Inhabited Rex := ⟨.mk 0 [] []⟩
theorem Rex.eta (r : Rex) : r = .mk r.kind r.set r.kids := by cases r; rfl

theorem Rex.ind {p : Rex → Prop} (h : ∀ k s ks, (∀ r, r ∈ ks → p r) → p (.mk k s ks)) (r : Rex) : p r :=
  Rex.rec (motive_1 := p) (motive_2 := fun ks => ∀ r, r ∈ ks → p r) (fun k s ks ih => h k s ks ih) (fun r hr => by cases hr)
    (fun x xs h1 h2 r hr => by
      rcases List.mem_cons.1 hr with rfl | hr
      · exact h1
      · exact h2 r hr) r

/-- how many kids a kind has -/
def kidsOf (k : Int) : Int := if k = 1 ∨ k = 2 then 0 else if k = 5 ∨ k = 7 then 1 else if k = 3 ∨ k = 4 ∨ k = 6 then 2 else -1

/-- the node itself is right -/
def nodeOk (r : Rex) : Bool := decide (kidsOf r.kind = r.kids.length) && (decide (r.kind = 1) || r.set.isEmpty) && setOk r.set
def formed : Nat → Rex → Bool
  | 0, _ => false
  | d + 1, r => nodeOk r && r.kids.all (formed d)

mutual
def Rex.many : Rex → Nat
  | .mk _ _ ks => 1 + manyL ks
def manyL : List Rex → Nat
  | [] => 0
  | r :: rs => r.many + manyL rs
end
def rexOk (r : Rex) : Bool := formed 8 r && decide (r.many ≤ 24)

mutual
def rexEq : Rex → Rex → Bool
  | .mk k s ks, .mk k' s' ks' => decide (k = k') && decide (s = s') && rexEqL ks ks'
def rexEqL : List Rex → List Rex → Bool
  | [], [] => true
  | r :: rs, r' :: rs' => rexEq r r' && rexEqL rs rs'
  | _, _ => false
end

mutual
def null : Rex → Bool
  | .mk k _ ks =>
    if k = 2 ∨ k = 5 then true
    else if k = 3 ∨ k = 6 then nullAt ks 0 && nullAt ks 1
    else if k = 4 then nullAt ks 0 || nullAt ks 1
    else if k = 7 then !nullAt ks 0
    else false
def nullAt : List Rex → Nat → Bool
  | [], _ => false
  | r :: _, 0 => null r
  | _ :: rs, n + 1 => nullAt rs n
end

mutual
def setsOf : Rex → List (List Sp)
  | .mk k s ks => (if k = 1 then [s] else []) ++ setsOfL ks
def setsOfL : List Rex → List (List Sp)
  | [] => []
  | r :: rs => setsOf r ++ setsOfL rs
end

theorem rexEq_iff (a : Rex) : ∀ b, rexEq a b = true ↔ a = b := by
  refine Rex.rec (motive_1 := fun a => ∀ b, rexEq a b = true ↔ a = b) (motive_2 := fun l => ∀ l', rexEqL l l' = true ↔ l = l') ?_ ?_ ?_ a
  · intro k s ks ih b
    obtain ⟨k', s', ks'⟩ := b
    simp only [rexEq, Bool.and_eq_true, decide_eq_true_eq, ih, Rex.mk.injEq, and_assoc]
  · intro l'
    cases l' <;> simp [rexEqL]
  · intro x xs h1 h2 l'
    cases l' with
    | nil => simp [rexEqL]
    | cons y ys => simp only [rexEqL, Bool.and_eq_true, h1, h2, List.cons.injEq]

theorem formed_mono {d : Nat} : ∀ {r : Rex}, formed d r = true → formed (d + 1) r = true := by
  induction d with
  | zero => intro r h; simp [formed] at h
  | succ d ih =>
    intro r h
    rw [formed, Bool.and_eq_true, List.all_eq_true] at h ⊢
    exact ⟨h.1, fun k hk => ih (h.2 k hk)⟩
theorem formed_le {d d' : Nat} (hd : d ≤ d') {r : Rex} (h : formed d r = true) : formed d' r = true := by
  obtain ⟨j, rfl⟩ := Nat.exists_eq_add_of_le hd
  induction j with
  | zero => exact h
  | succ j ih => exact formed_mono (ih (by omega))

end Go.Proofs.YtlchipjckgaclaaDoor

/- Trees in memory. -/
namespace Go.Proofs.YtlchipjckgaclaaDoor
set_option linter.unusedSimpArgs false
set_option linter.unusedVariables false
set_option maxRecDepth 100000
open Go.RowKit

/-- the three cells of an element -/
structure KCell (w : World) (lo : Nat) (K : Option Addr) (i : Nat) (u0 u1 u2 : Value) : Prop where
  ex : ∃ a, K = some a ∧ lo ≤ a.block ∧ w.cell? (a.add (i * 3)) = some u0 ∧ w.cell? ⟨(a.add (i * 3)).block, (a.add (i * 3)).off + 1, none⟩ = some u1 ∧ w.cell? ⟨(a.add (i * 3)).block, (a.add (i * 3)).off + 2, none⟩ = some u2
theorem add_block' (a : Addr) (n : Nat) : (a.add n).block = a.block := by unfold Addr.add; split <;> rfl
theorem KCell.keep {w w' : World} {lo : Nat} {K : Option Addr} {i : Nat} {u0 u1 u2 : Value} (h : KCell w lo K i u0 u1 u2) (hk : ∀ k, lo ≤ k → k < w.heap.size → w'.heap[k]? = w.heap[k]?) : KCell w' lo K i u0 u1 u2 := by
  obtain ⟨a, e, hl, h0, h1, h2⟩ := h.ex
  have hb := World.block_lt_of_cell? w _ h0
  rw [add_block'] at hb
  have hh := hk a.block hl hb
  refine ⟨a, e, hl, ?_, ?_, ?_⟩
  · rw [World.cell?_of_block (w := w) (by rw [add_block']; exact hh)]; exact h0
  · rw [World.cell?_of_block (w := w) (by show w'.heap[(a.add (i * 3)).block]? = _; rw [add_block']; exact hh)]; exact h1
  · rw [World.cell?_of_block (w := w) (by show w'.heap[(a.add (i * 3)).block]? = _; rw [add_block']; exact hh)]; exact h2
theorem KCell.lower {w : World} {lo lo' : Nat} {K : Option Addr} {i : Nat} {u0 u1 u2 : Value} (h : KCell w lo K i u0 u1 u2) (hl : lo' ≤ lo) : KCell w lo' K i u0 u1 u2 := by
  obtain ⟨a, e, h1, r⟩ := h.ex
  exact ⟨a, e, Nat.le_trans hl h1, r⟩

theorem Sps.keep {w w' : World} {lo : Nat} {A : Option Addr} {c : Nat} {xs : List Sp} (h : Sps w lo A c xs) (hk : ∀ k, lo ≤ k → k < w.heap.size → w'.heap[k]? = w.heap[k]?) : Sps w' lo A c xs := ⟨h.row.keep hk, h.cap, h.len⟩
theorem Sps.lower {w : World} {lo lo' : Nat} {A : Option Addr} {c : Nat} {xs : List Sp} (h : Sps w lo A c xs) (hl : lo' ≤ lo) : Sps w lo' A c xs := ⟨h.row.lower hl, h.cap, h.len⟩

inductive RexV (w : World) (lo : Nat) : Rex → Value → Value → Value → Prop
  | mk (k : Int) (s : List Sp) (ks : List Rex) (A K : Option Addr) (c ck : Nat) (V0 V1 V2 : Nat → Value) (hs : Sps w lo A c s) (hn : ks.length ≤ ck) (hl : ks.length ≤ maxN)
      (hc : ∀ i, i < ks.length → KCell w lo K i (V0 i) (V1 i) (V2 i)) (hr : ∀ i r, ks[i]? = some r → RexV w lo r (V0 i) (V1 i) (V2 i)) : RexV w lo (.mk k s ks) (.int .i64 k) (.slice A s.length c) (.slice K ks.length ck)

theorem RexV.keep {w w' : World} {lo : Nat} {r : Rex} {v0 v1 v2 : Value} (h : RexV w lo r v0 v1 v2) (hk : ∀ k, lo ≤ k → k < w.heap.size → w'.heap[k]? = w.heap[k]?) : RexV w' lo r v0 v1 v2 := by
  induction h with
  | mk k s ks A K c ck V0 V1 V2 hs hn hl hc hr ih => exact .mk k s ks A K c ck V0 V1 V2 (hs.keep hk) hn hl (fun i hi => (hc i hi).keep hk) ih
theorem RexV.under {w w' : World} {lo : Nat} {r : Rex} {v0 v1 v2 : Value} (h : RexV w lo r v0 v1 v2) (hb : Below w.heap.size w w') : RexV w' lo r v0 v1 v2 := h.keep fun k _ hk => hb.block k hk
theorem RexV.lower {w : World} {lo lo' : Nat} {r : Rex} {v0 v1 v2 : Value} (h : RexV w lo r v0 v1 v2) (hl : lo' ≤ lo) : RexV w lo' r v0 v1 v2 := by
  induction h with
  | mk k s ks A K c ck V0 V1 V2 hs hn hl' hc hr ih => exact .mk k s ks A K c ck V0 V1 V2 (hs.lower hl) hn hl' (fun i hi => (hc i hi).lower hl) ih

/-- a row of trees -/
structure Kids (w : World) (lo : Nat) (K : Option Addr) (ck : Nat) (ks : List Rex) : Prop where
  ex : ∃ V0 V1 V2 : Nat → Value, (∀ i, i < ks.length → KCell w lo K i (V0 i) (V1 i) (V2 i)) ∧ ∀ i r, ks[i]? = some r → RexV w lo r (V0 i) (V1 i) (V2 i)
  cap : ks.length ≤ ck
  len : ks.length ≤ maxN
theorem Kids.keep {w w' : World} {lo : Nat} {K : Option Addr} {ck : Nat} {ks : List Rex} (h : Kids w lo K ck ks) (hk : ∀ k, lo ≤ k → k < w.heap.size → w'.heap[k]? = w.heap[k]?) : Kids w' lo K ck ks := by
  obtain ⟨⟨V0, V1, V2, hc, hr⟩, h1, h2⟩ := h
  exact ⟨⟨V0, V1, V2, fun i hi => (hc i hi).keep hk, fun i r e => (hr i r e).keep hk⟩, h1, h2⟩
theorem Kids.below {w w' : World} {lo : Nat} {K : Option Addr} {ck : Nat} {ks : List Rex} (h : Kids w lo K ck ks) (hb : Below w.heap.size w w') : Kids w' lo K ck ks := h.keep fun k _ hk => hb.block k hk
theorem Kids.lower {w : World} {lo lo' : Nat} {K : Option Addr} {ck : Nat} {ks : List Rex} (h : Kids w lo K ck ks) (hl : lo' ≤ lo) : Kids w lo' K ck ks := by
  obtain ⟨⟨V0, V1, V2, hc, hr⟩, h1, h2⟩ := h
  exact ⟨⟨V0, V1, V2, fun i hi => (hc i hi).lower hl, fun i r e => (hr i r e).lower hl⟩, h1, h2⟩
/-- a tree's parts -/
theorem RexV.parts {w : World} {lo : Nat} {r : Rex} {v0 v1 v2 : Value} (h : RexV w lo r v0 v1 v2) :
    ∃ A c K ck, v0 = .int .i64 r.kind ∧ v1 = .slice A r.set.length c ∧ v2 = .slice K r.kids.length ck ∧ Sps w lo A c r.set ∧ Kids w lo K ck r.kids := by
  cases h with
  | mk k s ks A K c ck V0 V1 V2 hs hn hl hc hr => exact ⟨A, c, K, ck, rfl, rfl, rfl, hs, ⟨⟨V0, V1, V2, hc, hr⟩, hn, hl⟩⟩
theorem RexV.of {w : World} {lo : Nat} {k : Int} {s : List Sp} {ks : List Rex} {A K : Option Addr} {c ck : Nat} (hs : Sps w lo A c s) (hk : Kids w lo K ck ks) : RexV w lo (.mk k s ks) (.int .i64 k) (.slice A s.length c) (.slice K ks.length ck) := by
  obtain ⟨⟨V0, V1, V2, hc, hr⟩, h1, h2⟩ := hk
  exact .mk k s ks A K c ck V0 V1 V2 hs h1 h2 hc hr
/-- an element of a row of trees -/
theorem Kids.at_ {w : World} {lo : Nat} {K : Option Addr} {ck : Nat} {ks : List Rex} (h : Kids w lo K ck ks) (i : Nat) (hi : i < ks.length) :
    ∃ a r v1 v2, K = some a ∧ Hid (ks[i]? = some r) ∧ Hid (ks.drop i = r :: ks.drop (i + 1)) ∧ Hid (RexV w lo r (.int .i64 r.kind) v1 v2) ∧
      w.cell? (a.add (i * 3)) = some (.int .i64 r.kind) ∧ w.cell? ⟨(a.add (i * 3)).block, (a.add (i * 3)).off + 1, none⟩ = some v1 ∧ w.cell? ⟨(a.add (i * 3)).block, (a.add (i * 3)).off + 2, none⟩ = some v2 := by
  obtain ⟨⟨V0, V1, V2, hc, hr⟩, h1, h2⟩ := h
  obtain ⟨a, e, _, c0, c1, c2⟩ := (hc i hi).ex
  have hg : ks[i]? = some ks[i] := by simp [hi]
  have hv := hr i _ hg
  have e0 : V0 i = .int .i64 ks[i].kind := by
    obtain ⟨_, _, _, _, e, _⟩ := hv.parts
    exact e
  rw [e0] at hv c0
  exact ⟨a, ks[i], V1 i, V2 i, e, hg, List.drop_eq_getElem_cons hi, hv, c0, c1, c2⟩

end Go.Proofs.YtlchipjckgaclaaDoor

/- Sizes of trees, and comparison of trees. -/
namespace Go.Proofs.YtlchipjckgaclaaDoor
set_option linter.unusedSimpArgs false
set_option linter.unusedVariables false
set_option maxRecDepth 100000
open Go.RowKit

mutual
def Rex.size : Rex → Nat
  | .mk _ s ks => s.length + (ks.length + sizeL ks)
def sizeL : List Rex → Nat
  | [] => 0
  | r :: rs => r.size + sizeL rs
end
theorem szLeft_neg {n : Nat} {left : Int} (h : left < n) : szLeft n left < 0 := by unfold szLeft; rw [if_pos h]; omega
theorem szLeft_neg1 {n : Nat} {left : Int} (h : left < n) : szLeft n left = -1 := by unfold szLeft; rw [if_pos h]
theorem szLeft_pos {n : Nat} {left : Int} (h : ¬ left < n) : szLeft n left = left - n := by unfold szLeft; rw [if_neg h]
theorem szLeft_add1 {n m : Nat} {left : Int} (h : left < n) : szLeft (n + m) left = -1 := szLeft_neg1 (by omega)
theorem szLeft_add {n m : Nat} {left : Int} (h : ¬ left < n) : szLeft (n + m) left = szLeft m (left - n) := by
  unfold szLeft
  by_cases h2 : left < ((n + m : Nat) : Int)
  · rw [if_pos h2, if_pos (by omega)]
  · rw [if_neg h2, if_neg (by omega)]; omega

def SzOk (r : Rex) : Prop := ∀ (v1 v2 : Value) (left : Int) (w : World) (lo : Nat), RexV w lo r (.int .i64 r.kind) v1 v2 → 0 ≤ left → left ≤ 1048576 →
  Calls Tryd.prog 14 #[.agg #[.int .i64 r.kind, v1, v2], .int .i64 left] w fun e w' => e = .returned (.int .i64 (szLeft r.size left)) ∧ Below w.heap.size w w'

set_option maxHeartbeats 1000000 in
theorem szRexS_of (ks : List Rex) (ih : ∀ r, r ∈ ks → SzOk r) (K : Option Addr) (ck : Nat) (left : Int) (w : World) (lo : Nat) (h : Kids w lo K ck ks) (h0 : 0 ≤ left) (h1 : left ≤ 1048576) :
    Calls Tryd.prog 46 #[.slice K ks.length ck, .int .i64 left] w fun e w' => e = .returned (.int .i64 (szLeft (ks.length + sizeL ks) left)) ∧ Below w.heap.size w w' := by
  have hlen := h.len
  unfold maxN at hlen
  by_cases hb : left < ks.length
  · have E := Lib.hid (szLeft_add1 (m := sizeL ks) hb)
    go_enter Tryd.func46, Tryd.ntmps46
    go_wp2
    go_ret
    exact ⟨ret_int E.out.symm, Below.refl _ _⟩
  · have E := Lib.hid (szLeft_add (m := sizeL ks) hb)
    have hb' : ¬ (left - (ks.length : Int) < 0) := by omega
    go_enter Tryd.func46, Tryd.ntmps46
    go_wp2
    go_loopg [1, 5] (ks.length) (fun n l i wr => ∃ k : Nat, k + n = ks.length ∧ i = .int .i64 k ∧ ∃ x : Int, l = .int .i64 x ∧ 0 ≤ x ∧ x ≤ 1048576 ∧ Hid (szLeft (sizeL (ks.drop k)) x = szLeft (ks.length + sizeL ks) left) ∧ Hid (Below w.heap.size w wr))
    case atStart => exact ⟨0, by omega, rfl, _, rfl, by omega, by omega, by rw [E.out]; rfl, Below.refl _ _⟩
    case round =>
      clear hb hb'
      obtain ⟨k, hk, rfl, x, rfl, hx0, hx1, HS, HB⟩ := hrel
      by_cases hlt : k < ks.length
      · obtain ⟨a, r, v1, v2, rfl, HX, HD, HV, c0, c1, c2⟩ := (h.below HB.out).at_ k hlt
        go_wp2_with fail
        refine (ih r (List.mem_of_getElem? HX.out) v1 v2 x _ _ HV.out hx0 hx1).mono ?_
        rintro e w2 ⟨rfl, b2⟩
        clear c0 c1 c2
        have E2 : Hid (sizeL (ks.drop k) = r.size + sizeL (ks.drop (k + 1))) := by show _ = _; rw [HD.out, sizeL]
        by_cases hx : x < r.size
        · have hs := szLeft_neg hx
          have HX1 := Lib.hid hx
          clear hx
          go_wp2
          go_ret
          exact ⟨ret_int (by rw [← HS.out, E2.out, szLeft_add1 HX1.out]), below_then HB.out b2⟩
        · rw [szLeft_pos hx]
          have hs : ¬ (x - (r.size : Int) < 0) := by omega
          have HX1 := Lib.hid hx
          clear hx
          go_wp2
          go_roundg (gk - 1)
          case rel => exact ⟨k + 1, by omega, by go_num, _, rfl, by omega, by omega, by rw [← HS.out, E2.out, szLeft_add (by have := HX1.out; omega)]; rfl, below_then HB.out b2⟩
          case measure => omega
      · go_wp2
        go_ret
        refine ⟨ret_int ?_, HB.out⟩
        rw [← HS.out, List.drop_of_length_le (by omega), sizeL, szLeft_pos (by simpa using hx0)]
        simp

set_option maxHeartbeats 1000000 in
theorem szRex_c (r : Rex) : SzOk r := by
  refine Rex.ind (p := SzOk) (fun k s ks ih => ?_) r
  intro v1 v2 left w lo h h0 h1
  obtain ⟨A, c, K, ck, _, rfl, rfl, hs, hk⟩ := h.parts
  dsimp only [Rex.kind, Rex.set, Rex.kids] at hs hk ⊢
  clear h
  have hlen := hs.len
  by_cases hx : left < s.length
  · have E := Lib.hid (szLeft_add1 (m := ks.length + sizeL ks) hx)
    have hs1 := szLeft_neg hx
    clear hx
    go_enter Tryd.func14, Tryd.ntmps14
    go_wp2_with fail
    refine (szSpanS_c _ _ _ _ _ hlen h0 h1).mono ?_
    rintro e w2 ⟨rfl, rfl⟩
    go_wp2
    go_ret
    exact ⟨ret_int (by rw [Rex.size, E.out]), below_alloc (Below.refl _ _) _⟩
  · have E := Lib.hid (szLeft_add (m := ks.length + sizeL ks) hx)
    go_enter Tryd.func14, Tryd.ntmps14
    go_wp2_with fail
    refine (szSpanS_c _ _ _ _ _ hlen h0 h1).mono ?_
    rintro e w2 ⟨rfl, rfl⟩
    rw [szLeft_pos (by omega : ¬ left < (s.length : Int))]
    have hs1 : ¬ (left - (s.length : Int) < 0) := by omega
    have hb := below_alloc (Below.refl w.heap.size w) (.cells #[.int .i64 k, .slice A s.length c, .slice K ks.length ck] 31)
    have hk2 := hk.below hb
    have HB := Lib.hid hb
    clear hx hb
    go_wp2_with fail
    refine (szRexS_of ks ih _ _ _ _ _ hk2 (by omega) (by omega)).mono ?_
    rintro e w3 ⟨rfl, b3⟩
    clear hs1
    by_cases hy : left - (s.length : Int) < ((ks.length + sizeL ks : Nat) : Int)
    · have hs2 := szLeft_neg hy
      have E2 := Lib.hid (szLeft_neg1 hy)
      clear hy
      go_wp2
      go_ret
      exact ⟨ret_int (by rw [Rex.size, E.out, E2.out]), below_then HB.out b3⟩
    · have hs2 : ¬ szLeft (ks.length + sizeL ks) (left - (s.length : Int)) < 0 := by rw [szLeft_pos hy]; omega
      clear hy
      go_wp2
      go_ret
      exact ⟨ret_int (by rw [Rex.size, E.out]), below_then HB.out b3⟩

/-! ### comparison -/
theorem rexEqL_len {ks ls : List Rex} (h : ks.length ≠ ls.length) : rexEqL ks ls = false := by
  induction ks generalizing ls with
  | nil => cases ls with
    | nil => simp at h
    | cons y ys => rfl
  | cons x xs ih => cases ls with
    | nil => rfl
    | cons y ys => rw [rexEqL, ih (by simpa using h), Bool.and_false]
def EqOk (r : Rex) : Prop := ∀ (r' : Rex) (v1 v2 u1 u2 : Value) (w : World) (lo lo' : Nat), RexV w lo r (.int .i64 r.kind) v1 v2 → RexV w lo' r' (.int .i64 r'.kind) u1 u2 →
  Calls Tryd.prog 18 #[.agg #[.int .i64 r.kind, v1, v2], .agg #[.int .i64 r'.kind, u1, u2]] w fun e w' => e = .returned (.bool (rexEq r r')) ∧ Below w.heap.size w w'

set_option maxHeartbeats 1000000 in
theorem eqRexS_of (ks ls : List Rex) (ih : ∀ r, r ∈ ks → EqOk r) (K L : Option Addr) (ck cl : Nat) (w : World) (lo lo' : Nat) (h : Kids w lo K ck ks) (h' : Kids w lo' L cl ls) :
    Calls Tryd.prog 50 #[.slice K ks.length ck, .slice L ls.length cl] w fun e w' => e = .returned (.bool (rexEqL ks ls)) ∧ Below w.heap.size w w' := by
  have hlen := h.len
  have hlen' := h'.len
  unfold maxN at hlen hlen'
  by_cases he : ks.length = ls.length
  · have b1 : ((ks.length : Int) != (ls.length : Int)) = false := by simp [he]
    have HE : Hid (ks.length = ls.length) := he
    clear he
    go_enter Tryd.func50, Tryd.ntmps50
    go_wp2
    go_loopg [5] (ks.length) (fun n i wr => ∃ k : Nat, k + n = ks.length ∧ i = .int .i64 k ∧ Hid (rexEqL (ks.drop k) (ls.drop k) = rexEqL ks ls) ∧ Below w.heap.size w wr)
    case atStart => exact ⟨0, by omega, rfl, by rw [List.drop_zero, List.drop_zero]; rfl, Below.refl _ _⟩
    case round =>
      obtain ⟨k, hk, rfl, HS, hb⟩ := hrel
      by_cases hlt : k < ks.length
      · have hlt' : k < ls.length := by have := HE.out; omega
        obtain ⟨a, r, v1, v2, rfl, HX, HD, HV, c0, c1, c2⟩ := (h.below hb).at_ k hlt
        obtain ⟨a', r', u1, u2, rfl, HX', HD', HV', c0', c1', c2'⟩ := (h'.below hb).at_ k hlt'
        have ST : Hid (rexEqL ks ls = (rexEq r r' && rexEqL (ks.drop (k + 1)) (ls.drop (k + 1)))) := by show _ = _; rw [← HS.out, HD.out, HD'.out, rexEqL]
        have HV1 := Lib.hid (HV.out.under (below_drew (Below.refl _ _)))
        have HV2 := Lib.hid (HV'.out.under (below_drew (Below.refl _ _)))
        go_wp2
        go_still_tail 8, (by kernel_rfl)
        by_cases hq : rexEq r r' = true
        · have HQ := Lib.hid hq
          clear hq
          go_wp2_with (go_at_call 18; refine (ih r (List.mem_of_getElem? HX.out) r' v1 v2 u1 u2 _ _ _ HV1.out HV2.out).mono ?_; rintro e w' ⟨rfl, hb'⟩; rw [HQ.out])
          go_roundg (gk - 1)
          case rel => exact ⟨k + 1, by omega, by go_num, by rw [ST.out, HQ.out]; rfl, below_then (below_drew hb) hb'⟩
          case measure => omega
        · have HQ : Hid (rexEq r r' = false) := by show _ = _; simpa using hq
          clear hq
          go_wp2_with (go_at_call 18; refine (ih r (List.mem_of_getElem? HX.out) r' v1 v2 u1 u2 _ _ _ HV1.out HV2.out).mono ?_; rintro e w' ⟨rfl, hb'⟩; rw [HQ.out])
          go_ret
          exact ⟨ret_bool (by rw [ST.out, HQ.out]; rfl), below_then (below_drew hb) hb'⟩
      · go_wp2
        go_ret
        exact ⟨ret_bool (by rw [← HS.out, List.drop_of_length_le (by omega), List.drop_of_length_le (by have := HE.out; omega)]; rfl), hb⟩
  · have b1 : ((ks.length : Int) != (ls.length : Int)) = true := by simp; omega
    have b2 : (ks.length == ls.length) = false := by simp [he]
    have C := Lib.hid (rexEqL_len he)
    clear he
    go_enter Tryd.func50, Tryd.ntmps50
    go_wp2
    go_ret
    exact ⟨ret_bool C.out.symm, Below.refl _ _⟩

theorem cell_at {w w' : World} {g : Nat} {cs : Array Value} {t : TypeId} (h : w.heap[g]? = some (.cells cs t (0, 0))) (i : Nat) : w.cell? ⟨g, i, none⟩ = cs[i]? := cell_of_row w g i cs t (0, 0) h

set_option maxHeartbeats 1000000 in
theorem eqRex_c (r : Rex) : EqOk r := by
  refine Rex.ind (p := EqOk) (fun k s ks ih => ?_) r
  intro r' v1 v2 u1 u2 w lo lo' h h'
  obtain ⟨k', s', ks'⟩ := r'
  obtain ⟨A, c, K, ck, _, rfl, rfl, hs, hk⟩ := h.parts
  obtain ⟨A', c', K', ck', _, rfl, rfl, hs', hk'⟩ := h'.parts
  dsimp only [Rex.kind, Rex.set, Rex.kids] at hs hk hs' hk' ⊢
  clear h h'
  obtain ⟨wa, hwa⟩ : ∃ x, x = (w.alloc (.cells #[.int .i64 k, .slice A s.length c, .slice K ks.length ck] 36)).alloc (.cells #[.int .i64 k', .slice A' s'.length c', .slice K' ks'.length ck'] 36) := ⟨_, rfl⟩
  have hb : Below w.heap.size w wa := by rw [hwa]; exact below_alloc (below_alloc (Below.refl _ _) _) _
  have m0 : wa.heap[w.heap.size]? = some (.cells #[.int .i64 k, .slice A s.length c, .slice K ks.length ck] 36 (0, 0)) := by
    rw [hwa]
    exact ((below_alloc (Below.refl _ _) _).block _ (by simp)).trans (heap_alloc_new w _)
  have m1 : wa.heap[w.heap.size + 1]? = some (.cells #[.int .i64 k', .slice A' s'.length c', .slice K' ks'.length ck'] 36 (0, 0)) := by
    rw [hwa]
    have := heap_alloc_new (w.alloc (.cells #[.int .i64 k, .slice A s.length c, .slice K ks.length ck] 36)) (.cells #[.int .i64 k', .slice A' s'.length c', .slice K' ks'.length ck'] 36)
    simpa using this
  have hsz : wa.heap.size = w.heap.size + 2 := by rw [hwa]; simp
  have HS := Lib.hid (hs.below hb)
  have HS' := Lib.hid (hs'.below hb)
  have HK := Lib.hid (hk.below hb)
  have HK' := Lib.hid (hk'.below hb)
  have HB := Lib.hid hb
  have M0 := Lib.hid m0
  have M1 := Lib.hid m1
  have HZ := Lib.hid hsz
  clear hb m0 m1 hs hs' hk hk' hsz
  have hlen := HS.out.len
  have hlen' := HS'.out.len
  unfold maxN at hlen hlen'
  go_enter Tryd.func18, Tryd.ntmps18
  by_cases e0 : k = k'
  · subst e0
    go_wp2_with fail
    rw [← hwa]
    refine (eqSpanS_c _ _ _ _ _ _ _ HS.out HS'.out).mono ?_
    rintro e w3 ⟨rfl, b3⟩
    have n0 : w3.cell? ⟨w.heap.size, 2, none⟩ = some (.slice K ks.length ck) := by
      rw [cell_at (w' := w3) ((b3.block _ (by have := HZ.out; omega)).trans M0.out)]; rfl
    have n1 : w3.cell? ⟨w.heap.size + 1, 2, none⟩ = some (.slice K' ks'.length ck') := by
      rw [cell_at (w' := w3) ((b3.block _ (by have := HZ.out; omega)).trans M1.out)]; rfl
    have HK2 := Lib.hid (HK.out.below b3)
    have HK2' := Lib.hid (HK'.out.below b3)
    have HB3 := Lib.hid (below_then HB.out b3)
    clear b3
    by_cases e1 : s = s'
    · have E1 := Lib.hid e1
      rw [decide_eq_true e1]
      clear e1 hwa M0 M1 HK HK' HS HS' HB
      go_wp2_with fail
      refine (eqRexS_of ks ks' ih _ _ _ _ _ _ _ HK2.out HK2'.out).mono ?_
      rintro e w4 ⟨rfl, b4⟩
      have HB4 := Lib.hid (below_then HB3.out b4)
      clear b4 n0 n1
      by_cases e2 : rexEqL ks ks' = true
      · have E2 := Lib.hid e2
        rw [e2]
        clear e2
        go_wp2
        go_ret
        exact ⟨ret_bool (by rw [rexEq, decide_eq_true rfl, decide_eq_true E1.out, E2.out]; rfl), HB4.out⟩
      · replace e2 : rexEqL ks ks' = false := by simpa using e2
        have E2 := Lib.hid e2
        rw [e2]
        clear e2
        go_wp2
        go_ret
        exact ⟨ret_bool (by rw [rexEq, E2.out, Bool.and_false]), HB4.out⟩
    · have E1 := Lib.hid e1
      rw [decide_eq_false e1]
      clear e1 hwa
      go_wp2
      go_ret
      exact ⟨ret_bool (by rw [rexEq, decide_eq_false E1.out]; simp), HB3.out⟩
  · have b0 : (k != k') = true := by simp [e0]
    have E0 := Lib.hid e0
    clear e0
    go_wp2
    rw [← hwa]
    go_ret
    exact ⟨ret_bool (by rw [rexEq, decide_eq_false E0.out]; rfl), HB.out⟩

end Go.Proofs.YtlchipjckgaclaaDoor

/- Trees that a call made: each row in a block of its own. -/
namespace Go.Proofs.YtlchipjckgaclaaDoor
set_option linter.unusedSimpArgs false
set_option linter.unusedVariables false
set_option maxRecDepth 100000
open Go.RowKit

abbrev TRx : Nat := 36
abbrev nilS : Value := .slice none 0 0
/-- the block of a row -/
def vblk (v : Value) : List Nat := match v.ownBlock with
  | some g => [g]
  | none => []
theorem mem_vblk {v : Value} {g : Nat} : g ∈ vblk v ↔ v.ownBlock = some g := by
  unfold vblk
  split <;> simp_all
  exact eq_comm
theorem vblk_nil : vblk nilS = [] := rfl
theorem vblk_some (g n c : Nat) : vblk (.slice (some ⟨g, 0, none⟩) n c) = [g] := rfl

structure KInfo where
  fp : List Nat
  v1 : Value
  v2 : Value
def kcell (r : Rex) (x : KInfo) : List Value := [.int .i64 r.kind, x.v1, x.v2]
def kcells : List Rex → List KInfo → List Value
  | r :: rs, x :: xs => kcell r x ++ kcells rs xs
  | _, _ => []
def fps (L : List KInfo) : List Nat := L.flatMap (·.fp)
theorem fps_append (L M : List KInfo) : fps (L ++ M) = fps L ++ fps M := by simp [fps]
theorem fps_cons (x : KInfo) (L : List KInfo) : fps (x :: L) = x.fp ++ fps L := by simp [fps]
theorem kcells_length : ∀ (rs : List Rex) (L : List KInfo), rs.length = L.length → (kcells rs L).length = rs.length * 3
  | [], [], _ => rfl
  | r :: rs, x :: L, h => by
    simp only [kcells, kcell, List.length_append, List.length_cons, List.length_nil]
    rw [kcells_length rs L (by simpa using h)]
    omega
theorem kcells_append : ∀ (rs : List Rex) (L : List KInfo) (r : Rex) (x : KInfo), rs.length = L.length → kcells (rs ++ [r]) (L ++ [x]) = kcells rs L ++ [.int .i64 r.kind, x.v1, x.v2]
  | [], [], r, x, _ => by simp [kcells, kcell]
  | r' :: rs, x' :: L, r, x, h => by
    have := kcells_append rs L r x (by simpa using h)
    simp only [List.cons_append, kcells, this, List.append_assoc]
theorem kcells_get : ∀ (rs : List Rex) (L : List KInfo) (i : Nat) (r : Rex) (x : KInfo), rs[i]? = some r → L[i]? = some x → rs.length = L.length →
    (kcells rs L)[i * 3]? = some (.int .i64 r.kind) ∧ (kcells rs L)[i * 3 + 1]? = some x.v1 ∧ (kcells rs L)[i * 3 + 2]? = some x.v2
  | [], _, i, r, x, h, _, _ => by simp at h
  | r' :: rs, [], i, r, x, _, h, _ => by simp at h
  | r' :: rs, x' :: L, 0, r, x, h1, h2, hl => by
    simp at h1 h2
    subst h1 h2
    simp [kcells, kcell]
  | r' :: rs, x' :: L, i + 1, r, x, h1, h2, hl => by
    have := kcells_get rs L i r x (by simpa using h1) (by simpa using h2) (by simpa using hl)
    rw [show (i + 1) * 3 = i * 3 + 3 by omega]
    simpa [kcells, kcell] using this

inductive OwnT (w : World) : List Nat → Rex → Value → Value → Prop
  | mk (k : Int) (s : List Sp) (ks : List Rex) (v1 v2 : Value) (L : List KInfo) (hL : ks.length = L.length) (hs : OwnSp w 0 v1 s) (hk : w.ownsRow 0 TRx 3 v2 ks.length (kcells ks L)) (hn : ks.length ≤ maxN)
      (hr : ∀ (i : Nat) (r : Rex) (x : KInfo), ks[i]? = some r → L[i]? = some x → OwnT w x.fp r x.v1 x.v2) (nd : (vblk v1 ++ (vblk v2 ++ fps L)).Nodup) : OwnT w (vblk v1 ++ (vblk v2 ++ fps L)) (.mk k s ks) v1 v2

/-- a row of trees that a call made -/
structure OwnK (w : World) (fp : List Nat) (ks : List Rex) (v2 : Value) (L : List KInfo) : Prop where
  hL : ks.length = L.length
  hk : w.ownsRow 0 TRx 3 v2 ks.length (kcells ks L)
  hn : ks.length ≤ maxN
  hr : ∀ (i : Nat) (r : Rex) (x : KInfo), ks[i]? = some r → L[i]? = some x → OwnT w x.fp r x.v1 x.v2
  fe : fp = vblk v2 ++ fps L
  nd : fp.Nodup
theorem OwnT.parts {w : World} {fp : List Nat} {r : Rex} {v1 v2 : Value} (h : OwnT w fp r v1 v2) :
    ∃ L fk, fp = vblk v1 ++ fk ∧ fp.Nodup ∧ OwnSp w 0 v1 r.set ∧ OwnK w fk r.kids v2 L := by
  cases h with
  | mk k s ks _ _ L hL hs hk hn hr nd => exact ⟨L, _, rfl, nd, hs, hL, hk, hn, hr, rfl, (List.nodup_append.1 nd).2.1⟩
theorem OwnT.of {w : World} {fk : List Nat} {k : Int} {s : List Sp} {ks : List Rex} {v1 v2 : Value} {L : List KInfo} (hs : OwnSp w 0 v1 s) (hk : OwnK w fk ks v2 L) (nd : (vblk v1 ++ fk).Nodup) : OwnT w (vblk v1 ++ fk) (.mk k s ks) v1 v2 := by
  obtain ⟨hL, hk, hn, hr, fe, _⟩ := hk
  subst fe
  exact .mk k s ks v1 v2 L hL hs hk hn hr nd

theorem OwnSp.lt {w : World} {base : Nat} {v : Value} {xs : List Sp} (h : OwnSp w base v xs) : ∀ b, b ∈ vblk v → base ≤ b ∧ b < w.heap.size := fun b hb => h.own.lt b (mem_vblk.1 hb)
theorem mem_fps {L : List KInfo} {b : Nat} : b ∈ fps L ↔ ∃ (i : Nat) (x : KInfo), L[i]? = some x ∧ b ∈ x.fp := by
  unfold fps
  rw [List.mem_flatMap]
  constructor
  · rintro ⟨x, hx, hb⟩
    obtain ⟨i, hi⟩ := List.getElem?_of_mem hx
    exact ⟨i, x, hi, hb⟩
  · rintro ⟨i, x, hi, hb⟩
    exact ⟨x, List.mem_of_getElem? hi, hb⟩
theorem OwnT.lt {w : World} {fp : List Nat} {r : Rex} {v1 v2 : Value} (h : OwnT w fp r v1 v2) : ∀ b, b ∈ fp → b < w.heap.size := by
  induction h with
  | mk k s ks v1 v2 L hL hs hk hn hr nd ih =>
    intro b hb
    rcases List.mem_append.1 hb with hb | hb
    · exact (hs.lt b hb).2
    · rcases List.mem_append.1 hb with hb | hb
      · exact (hk.lt b (mem_vblk.1 hb)).2
      · obtain ⟨i, x, hx, hb⟩ := mem_fps.1 hb
        have hi := (List.getElem?_eq_some_iff.1 hx).1
        exact ih i (ks[i]'(by omega)) x (List.getElem?_eq_getElem _) hx b hb
theorem OwnK.lt {w : World} {fp : List Nat} {ks : List Rex} {v2 : Value} {L : List KInfo} (h : OwnK w fp ks v2 L) : ∀ b, b ∈ fp → b < w.heap.size := by
  intro b hb
  rw [h.fe] at hb
  rcases List.mem_append.1 hb with hb | hb
  · exact (h.hk.lt b (mem_vblk.1 hb)).2
  · obtain ⟨i, x, hx, hb⟩ := mem_fps.1 hb
    have hi := (List.getElem?_eq_some_iff.1 hx).1
    have hL := h.hL
    exact (h.hr i (ks[i]'(by omega)) x (List.getElem?_eq_getElem _) hx).lt b hb
/-- it stays where its blocks stay -/
theorem OwnSp.stay {w w1 : World} {base : Nat} {v : Value} {xs : List Sp} (h : OwnSp w base v xs) (hm : ∀ b, b ∈ vblk v → w1.heap[b]? = w.heap[b]?) : OwnSp w1 base v xs := ⟨own_move h.own fun k hk => hm k (mem_vblk.2 hk), h.len⟩
theorem OwnT.stay {w w' : World} {fp : List Nat} {r : Rex} {v1 v2 : Value} (h : OwnT w fp r v1 v2) (hm : ∀ b, b ∈ fp → w'.heap[b]? = w.heap[b]?) : OwnT w' fp r v1 v2 := by
  induction h with
  | mk k s ks v1 v2 L hL hs hk hn hr nd ih =>
    refine .mk k s ks v1 v2 L hL (hs.stay fun b hb => hm b (by simp [hb])) (own_move hk fun g hg => hm g (by simp [mem_vblk.2 hg])) hn (fun i r x hi hx => ih i r x hi hx fun b hb => hm b ?_) nd
    have := mem_fps.2 ⟨i, x, hx, hb⟩
    simp [this]
theorem OwnK.stay {w w' : World} {fp : List Nat} {ks : List Rex} {v2 : Value} {L : List KInfo} (h : OwnK w fp ks v2 L) (hm : ∀ b, b ∈ fp → w'.heap[b]? = w.heap[b]?) : OwnK w' fp ks v2 L := by
  obtain ⟨hL, hk, hn, hr, fe, nd⟩ := h
  refine ⟨hL, own_move hk fun g hg => hm g (by simp [fe, mem_vblk.2 hg]), hn, fun i r x hi hx => (hr i r x hi hx).stay fun b hb => hm b ?_, fe, nd⟩
  have := mem_fps.2 ⟨i, x, hx, hb⟩
  simp [fe, this]
theorem OwnT.under {w w' : World} {fp : List Nat} {r : Rex} {v1 v2 : Value} (h : OwnT w fp r v1 v2) (hb : Below w.heap.size w w') : OwnT w' fp r v1 v2 := h.stay fun b hf => hb.block b (h.lt b hf)
theorem OwnK.under {w w' : World} {fp : List Nat} {ks : List Rex} {v2 : Value} {L : List KInfo} (h : OwnK w fp ks v2 L) (hb : Below w.heap.size w w') : OwnK w' fp ks v2 L := h.stay fun b hf => hb.block b (h.lt b hf)

/-- what is owned is read -/
theorem OwnT.rexv {w : World} {fp : List Nat} {r : Rex} {v1 v2 : Value} (h : OwnT w fp r v1 v2) : ∀ lo, (∀ b, b ∈ fp → lo ≤ b) → RexV w lo r (.int .i64 r.kind) v1 v2 := by
  induction h with
  | mk k s ks v1 v2 L hL hs hk hn hr nd ih =>
    intro lo hlo
    have hs' : OwnSp w lo v1 s := by
      refine ⟨?_, hs.len⟩
      obtain ⟨h1, h2⟩ := hs.own
      refine ⟨h1, h2.imp id ?_⟩
      rintro ⟨g, cap, cur, rfl, hg, r⟩
      exact ⟨g, cap, cur, rfl, hlo g (by simp [vblk_some]), r⟩
    obtain ⟨A, c, rfl, sp⟩ := hs'.sps
    have hk' : w.ownsRow lo TRx 3 v2 ks.length (kcells ks L) := by
      obtain ⟨h1, h2⟩ := hk
      refine ⟨h1, h2.imp id ?_⟩
      rintro ⟨g, cap, cur, rfl, hg, r⟩
      exact ⟨g, cap, cur, rfl, hlo g (by simp [vblk_some]), r⟩
    obtain ⟨K, ck, rfl, hck, hrow⟩ := own_row hk'
    refine .mk k s ks A K c ck (fun i => .int .i64 (ks.getD i default).kind) (fun i => (L.getD i ⟨[], undef, undef⟩).v1) (fun i => (L.getD i ⟨[], undef, undef⟩).v2) sp hck hn (fun i hi => ?_) (fun i r hi => ?_)
    · have e1 : ks[i]? = some (ks.getD i default) := by simp [List.getD_eq_getElem?_getD, hi]
      have e2 : L[i]? = some (L.getD i ⟨[], undef, undef⟩) := by simp [List.getD_eq_getElem?_getD, show i < L.length by omega]
      obtain ⟨g0, g1, g2⟩ := kcells_get ks L i _ _ e1 e2 hL
      rcases hrow with h0 | ⟨a, rfl, ha, hc⟩
      · rw [h0] at g0; simp at g0
      · exact ⟨a, rfl, ha, hc _ _ g0, by rw [← add_field _ _ 1 (by omega)]; exact hc _ _ g1, by rw [← add_field _ _ 2 (by omega)]; exact hc _ _ g2⟩
    · have hi' := (List.getElem?_eq_some_iff.1 hi).1
      have e1 : ks.getD i default = r := by simp [List.getD_eq_getElem?_getD, hi]
      have e2 : L[i]? = some (L.getD i ⟨[], undef, undef⟩) := by simp [List.getD_eq_getElem?_getD, show i < L.length by omega]
      show RexV w lo r (.int .i64 (ks.getD i default).kind) _ _
      rw [e1]
      exact ih i r _ hi e2 lo fun b hb => hlo b (by have := mem_fps.2 ⟨i, _, e2, hb⟩; simp [this])
theorem OwnT.rex0 {w : World} {fp : List Nat} {r : Rex} {v1 v2 : Value} (h : OwnT w fp r v1 v2) : RexV w 0 r (.int .i64 r.kind) v1 v2 := h.rexv 0 fun _ _ => Nat.zero_le _
theorem OwnK.empty {w : World} : OwnK w [] [] nilS [] := ⟨rfl, World.ownsRow_nil _ _ _ _, by simp, fun i r x h => by simp at h, rfl, List.nodup_nil⟩

/-- all blocks but some are as they were -/
structure Touch (fp : List Nat) (w w' : World) : Prop where
  os : w'.os = w.os
  tape : w'.tape = w.tape
  output : w'.output = w.output
  size : w.heap.size ≤ w'.heap.size
  block : ∀ k, k < w.heap.size → k ∉ fp → w'.heap[k]? = w.heap[k]?
theorem Touch.refl (fp : List Nat) (w : World) : Touch fp w w := ⟨rfl, rfl, rfl, Nat.le_refl _, fun _ _ _ => rfl⟩
theorem Touch.trans {fp : List Nat} {w w' w'' : World} (h : Touch fp w w') (k : Touch fp w' w'') : Touch fp w w'' :=
  ⟨k.os.trans h.os, k.tape.trans h.tape, k.output.trans h.output, Nat.le_trans h.size k.size, fun i hi hf => (k.block i (Nat.lt_of_lt_of_le hi h.size) hf).trans (h.block i hi hf)⟩
theorem Touch.wide {fp fp' : List Nat} {w w' : World} (h : Touch fp w w') (hs : ∀ b, b ∈ fp → b ∈ fp') : Touch fp' w w' := ⟨h.os, h.tape, h.output, h.size, fun k hk hf => h.block k hk fun h2 => hf (hs k h2)⟩
theorem Touch.of_below {fp : List Nat} {w w' : World} (h : Below w.heap.size w w') : Touch fp w w' := ⟨h.os, h.tape, h.output, h.size, fun k hk _ => h.block k hk⟩
theorem Touch.of_grown {v : Value} {w w' : World} (h : w.grownBy w' v.ownBlock) : Touch (vblk v) w w' := ⟨h.os, h.tape, h.output, h.size, fun k hk hf => h.block k hk fun e => hf (mem_vblk.2 e.symm)⟩
theorem Touch.set {fp : List Nat} {w w' : World} (h : Touch fp w w') {p : Addr} (hp : p.block ∈ fp) (u : Value) : Touch fp w (w'.setCell p u) :=
  ⟨h.os, h.tape, h.output, by rw [World.size_setCell]; exact h.size, fun k hk hf => (Below.heap_setCell w' p u k (fun e => hf (e ▸ hp))).trans (h.block k hk hf)⟩
theorem Touch.below {fp : List Nat} {w w' : World} (h : Touch fp w w') {n : Nat} (hf : ∀ b, b ∈ fp → n ≤ b) (hn : n ≤ w.heap.size) : Below n w w' := ⟨h.os, h.tape, h.output, h.size, fun k hk => h.block k (by omega) fun h2 => by have := hf k h2; omega⟩
theorem Touch.rex {fp : List Nat} {w w' w0 : World} {lo : Nat} {r : Rex} {v0 v1 v2 : Value} (h : Touch fp w w') (hv : RexV w lo r v0 v1 v2) (hf : ∀ b, b ∈ fp → b < lo) : RexV w' lo r v0 v1 v2 :=
  hv.keep fun k hl hk => h.block k hk fun h2 => by have := hf k h2; omega

end Go.Proofs.YtlchipjckgaclaaDoor
