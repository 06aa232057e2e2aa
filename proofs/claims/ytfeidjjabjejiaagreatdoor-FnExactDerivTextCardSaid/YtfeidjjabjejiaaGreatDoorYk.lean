/- What is left behind a byte: deriv of the program, l5By of the reference. -/
import Derived.Test.YtfeidjjabjejiaaGreatDoorG21
import Derived.Test.YtfeidjjabjejiaaGreatDoorG6
import Derived.Test.YtfeidjjabjejiaaGreatDoorG4
namespace Go.Proofs.YtfeidjjabjejiaaGreatDoor
set_option linter.unusedSimpArgs false
set_option linter.unusedVariables false
set_option maxRecDepth 100000
open Go.RowKit

theorem tri3 (a b : Nat) : (a + b + 1) * (a + b + 1 + 3) = a * (a + 3) + b * (b + 3) + 2 * (a * b) + 2 * a + 2 * b + 4 := by
  have h1 := sq_sum a b
  have e1 : (a + b + 1) * (a + b + 1 + 3) = (a + b) * (a + b) + 5 * (a + b) + 4 := by
    have : (a + b + 1) * (a + b + 4) = (a + b) * (a + b + 4) + (a + b + 4) := Nat.succ_mul _ _
    have h2 : (a + b) * (a + b + 4) = (a + b) * (a + b) + (a + b) * 4 := Nat.mul_add _ _ _
    rw [show a + b + 1 + 3 = a + b + 4 by omega, this, h2]; omega
  have e2 : a * (a + 3) = a * a + a * 3 := Nat.mul_add _ _ _
  have e3 : b * (b + 3) = b * b + b * 3 := Nat.mul_add _ _ _
  omega
theorem dv_many (b : Int) (r : Rex) (h : wf r) : 2 * (dv b r).many ≤ r.many * (r.many + 3) := by
  refine wf_ind (p := fun r => 2 * (dv b r).many ≤ r.many * (r.many + 3)) (fun s hs => ?_) ?_ (fun k x y hk wx wy ix iy => ?_) (fun k x hk wx ix => ?_) r h
  · rw [dv_set]
    split <;> simp [noT, Rex.many, manyL]
  · rw [dv_emp]; simp [noT, Rex.many, manyL]
  · have fx := dv_fit b x wx
    have fy := dv_fit b y wy
    have q := tri3 x.many y.many
    have q2 : y.many ≤ x.many * y.many := Nat.le_mul_of_pos_left _ (many_pos x)
    have p1 := many_pos x
    have p2 := many_pos y
    rw [two_many k x y, q]
    rcases hk with rfl | rfl | rfl
    · rw [two, dv_cat]
      have f := nCat_fit _ fx.wf y wy
      have f1 := f.many
      split
      · have f2 := (nOr_fit f.wf fy.wf).many
        omega
      · omega
    · rw [two, dv_or]
      have f := (nOr_fit fx.wf fy.wf).many
      omega
    · rw [two, dv_and]
      have f := (nAnd_fit fx.wf fy.wf).many
      omega
  · have fx := dv_fit b x wx
    have e : ∀ j : Int, (Rex.mk j [] [x]).many = x.many + 1 := fun j => by simp [Rex.many, manyL]; omega
    have q := tri3 x.many 0
    have p1 := many_pos x
    simp only [Nat.add_zero, Nat.zero_mul, Nat.mul_zero] at q
    rw [e, q]
    rcases hk with rfl | rfl
    · rw [dv_star]
      have f1 := (nCat_fit _ fx.wf _ (wf_one (.inl rfl) wx)).many
      rw [e] at f1
      omega
    · rw [dv_not]
      have f1 := (nNot_fit fx.wf).many
      omega
theorem dv_120 (b : Int) {r : Rex} (h : wf r) {m : Nat} (hm : r.many ≤ m) (h120 : m ≤ 120) : (dv b r).many ≤ 7380 := by
  have h1 := dv_many b r h
  have h2 : r.many * (r.many + 3) ≤ 120 * 123 := Nat.mul_le_mul (by omega) (by omega)
  omega
/-- .. and of two parts together -/
theorem dv_sum (b : Int) {x y : Rex} (wx : wf x) (wy : wf y) (h : x.many + y.many + 1 ≤ 120) : (dv b x).many + (dv b y).many + y.many + 1 ≤ 7380 := by
  have h1 := dv_many b x wx
  have h2 := dv_many b y wy
  have q := tri3 x.many y.many
  have q2 : y.many ≤ x.many * y.many := Nat.le_mul_of_pos_left _ (many_pos x)
  have h3 : (x.many + y.many + 1) * (x.many + y.many + 1 + 3) ≤ 120 * 123 := Nat.mul_le_mul h (by omega)
  omega
theorem dv_set' (b : Int) {r : Rex} (h : r.kind = 1) : dv b r = if setHas r.set b = true then .mk 2 [] [] else noT := by
  obtain ⟨k, s, ks⟩ := r
  obtain rfl : k = 1 := h
  exact dv_set b s ks
theorem dv_emp' (b : Int) {r : Rex} (h : r.kind = 2) : dv b r = noT := by
  obtain ⟨k, s, ks⟩ := r
  obtain rfl : k = 2 := h
  exact dv_emp b s ks
def DvOk (f : FuncId) (r : Rex) : Prop := ∀ (b : Int) (v1 v2 : Value) (w : World) (p : Nat → Prop), wf r → RexP w p r (.int .i64 r.kind) v1 v2 → (∀ q, p q → q < w.heap.size) → r.many ≤ 120 → Pow10 w →
  Calls Tryz.prog f #[.agg #[.int .i64 r.kind, v1, v2], .int .i64 b] w (RexPost p (dv b r) w)
theorem iSetHas_d (A : Option Addr) (c : Nat) (xs : List Sp) (b : Int) (w : World) (h : Sps w 0 A c xs) :
    Calls Tryz.prog 109 #[.slice A xs.length c, .int .i64 b] w fun e w' => e = .returned (.bool (setHas xs b)) ∧ Below w.heap.size w w' := (iSetHas_c A c xs b w h).mono fun e w' h => ⟨h.1, h.2⟩
theorem sSetHas_d (A : Option Addr) (c : Nat) (xs : List Sp) (b : Int) (w : World) (h : Sps w 0 A c xs) :
    Calls Tryz.prog 111 #[.slice A xs.length c, .int .i64 b] w fun e w' => e = .returned (.bool (setHas xs b)) ∧ Below w.heap.size w w' := (sSetHas_c A c xs b w h).mono fun e w' h => ⟨h.1, h.2.below⟩
theorem iNull_d (r : Rex) (v1 v2 : Value) (w : World) (hw : wf r) (h : RexV w 0 r (.int .i64 r.kind) v1 v2) :
    Calls Tryz.prog 105 #[.agg #[.int .i64 r.kind, v1, v2]] w fun e w' => e = .returned (.bool (null r)) ∧ Below w.heap.size w w' := by
  obtain ⟨d, hd⟩ := hw
  exact (iNull_c r d v1 v2 w 0 hd h).mono fun e w' h => ⟨h.1, h.2⟩
theorem sNull_d (r : Rex) (v1 v2 : Value) (w : World) (hw : wf r) (h : RexV w 0 r (.int .i64 r.kind) v1 v2) :
    Calls Tryz.prog 112 #[.agg #[.int .i64 r.kind, v1, v2]] w fun e w' => e = .returned (.bool (null r)) ∧ Below w.heap.size w w' := by
  obtain ⟨d, hd⟩ := hw
  exact (sNull_c r d v1 v2 w 0 hd h).mono fun e w' h => ⟨h.1, h.2⟩
set_option maxHeartbeats 4000000 in
theorem sDeriv_c (r : Rex) : DvOk 61 r := by
  refine Rex.ind (p := DvOk 61) (fun k0 s0 ks0 ih => ?_) r
  obtain ⟨r, er⟩ : ∃ a, a = Rex.mk k0 s0 ks0 := ⟨_, rfl⟩
  have IH : Hid (∀ x ∈ r.kids, DvOk 61 x) := by rw [er]; exact ih
  rw [← er]
  clear ih er
  intro b v1 v2 w p hwf h hp hm hpw
  have HPW := Lib.hid hpw
  obtain ⟨A, c, K, ck, _, rfl, rfl, hs, hk⟩ := h.parts
  obtain ⟨wa, hwa⟩ : ∃ x, x = (w.alloc (.cells #[.int .i64 r.kind, .slice A r.set.length c, .slice K r.kids.length ck] TRx)).alloc (.cells #[.int .i64 0, nilS, nilS] TRx) := ⟨_, rfl⟩
  have hb : Below w.heap.size w wa := by rw [hwa]; exact below_alloc (below_alloc (Below.refl _ _) _) _
  have m0 : Blk wa w.heap.size #[.int .i64 r.kind, .slice A r.set.length c, .slice K r.kids.length ck] TRx := by rw [hwa]; exact (blk_new w _ _).alloc _
  have m1 : Blk wa (w.heap.size + 1) #[.int .i64 0, nilS, nilS] TRx := by
    rw [hwa]
    have := blk_new (w.alloc (.cells #[.int .i64 r.kind, .slice A r.set.length c, .slice K r.kids.length ck] TRx)) #[.int .i64 0, nilS, nilS] TRx
    simpa using this
  have hz1 : wa.heap.size = w.heap.size + 2 := by rw [hwa]; simp
  have HZ := Lib.hid hz1
  clear hz1
  replace hwa := hwa.symm
  have HV := Lib.hid (h.under hb)
  have HB := Lib.hid hb
  have M0 := Lib.hid m0
  have M1 := Lib.hid m1
  have HP := Lib.hid hp
  have n0 : wa.cell? ⟨w.heap.size, 0, none⟩ = some (.int .i64 r.kind) := by rw [m0.cell]; rfl
  have n1 : wa.cell? ⟨w.heap.size, 1, none⟩ = some (.slice A r.set.length c) := by rw [m0.cell]; rfl
  have n2 : wa.cell? ⟨w.heap.size, 2, none⟩ = some (.slice K r.kids.length ck) := by rw [m0.cell]; rfl
  clear hb m0 m1 hs hk h hp
  clear hpw
  have hlo := HZ.out
  have HLO : w.heap.size + 2 ≤ wa.heap.size := by omega
  clear hlo
  by_cases k1 : r.kind = 1
  · obtain ⟨nb, hnb⟩ : ∃ z, z = setHas r.set b := ⟨_, rfl⟩
    have E : Hid (dv b r = if nb = true then .mk 2 [] [] else noT) := by show _ = _; rw [hnb]; exact dv_set' b k1
    have HS : Hid (Sps wa 0 A c r.set) := by
      obtain ⟨_, _, _, _, _, e1, _, hs, _⟩ := HV.out.rexv.parts
      injection e1 with e3 e4 e5
      subst e3 e5
      exact hs
    have SC := sSetHas_d A c r.set b wa HS.out
    rw [← hnb] at SC
    replace SC := Lib.hid SC
    have d1 : (r.kind == 1) = true := by simp [k1]
    clear k1 hwf hnb IH
    go_enter Tryz.func61, Tryz.ntmps61
    go_wp2_with fail
    clear hwa
    refine SC.out.mono ?_
    rintro e w3 ⟨rfl, b3⟩
    replace M1 := Lib.hid (M1.out.below b3)
    replace HB := Lib.hid (below_then HB.out b3)
    clear n0 n1 n2 b3
    cases nb
    · replace E : Hid (dv b r = noT) := Lib.hid (E.out.trans (if_neg (by decide)))
      go_wp2_with (first
        | ((with_reducible refine (iNothing_c w3).mono ?_); rintro e wn ⟨rfl, bn⟩; replace M1 := Lib.hid (M1.out.below bn); replace HB := Lib.hid (below_then HB.out bn); clear bn)
        | ((with_reducible refine at_st 4 91 ?_); refine ev_store (o := ⟨none, .store _ (.tmp 4) _, _, _, _, _⟩) rfl rfl TRx (.tmp 4) (.tmp 91) rfl (w.heap.size + 1) 0 rfl [.int .i64 1, nilS, nilS] rfl _ TRx M1.out (sizeRx' _ _ _) (by show 0 + 3 ≤ 3; omega) (three_one _ _ _ _ _ _ _) ?_; intro w5 hX5 hg5; have HX5 : Hid (Blk w5 (w.heap.size + 1) ([.int .i64 1, nilS, nilS]).toArray TRx) := hX5; have HG5 := Lib.hid hg5; clear hX5 hg5)
        | fail)
      refine bodyPost_ret (results_cell_row rfl _ _ (w.heap.size + 1) TRx _ (0, 0) _ rfl HX5.out.eq Tryz.underlying26 rfl (by rw [sizeRx]; rfl)) rfl ?_
      rw [E.out]
      exact rex_fin (t := noT) rfl rfl HP.out (RexP.leaf 1) HB.out HG5.out (by omega)
    · replace E : Hid (dv b r = .mk 2 [] []) := Lib.hid (E.out.trans (if_pos rfl))
      go_wp2_with ((with_reducible refine at_st 4 14 ?_); refine ev_store (o := ⟨none, .store _ (.tmp 4) _, _, _, _, _⟩) rfl rfl TRx (.tmp 4) (.tmp 14) rfl (w.heap.size + 1) 0 rfl [.int .i64 2, nilS, nilS] rfl _ TRx M1.out (sizeRx' _ _ _) (by show 0 + 3 ≤ 3; omega) (three_one _ _ _ _ _ _ _) ?_; intro w5 hX5 hg5; have HX5 : Hid (Blk w5 (w.heap.size + 1) ([.int .i64 2, nilS, nilS]).toArray TRx) := hX5; have HG5 := Lib.hid hg5; clear hX5 hg5)
      refine bodyPost_ret (results_cell_row rfl _ _ (w.heap.size + 1) TRx _ (0, 0) _ rfl HX5.out.eq Tryz.underlying26 rfl (by rw [sizeRx]; rfl)) rfl ?_
      rw [E.out]
      exact rex_fin (t := .mk 2 [] []) rfl rfl HP.out (RexP.leaf 2) HB.out HG5.out (by omega)
  by_cases k3 : r.kind = 3
  · obtain ⟨x, y, ex, wx, wy⟩ := wf_kids2 hwf (by omega)
    have ekids : r.kids = [x, y] := by rw [ex]; rfl
    have hm2 : r.many = x.many + y.many + 1 := by rw [ex]; exact two_many _ x y
    obtain ⟨_, _, _, _, _, _, e2, _, hkk⟩ := HV.out.parts
    injection e2 with e3 e4 e5
    subst e3 e5
    rw [ekids] at hkk
    obtain ⟨ad, A1, c1, K1, dk1, A2, c2, K2, dk2, rfl, hx, x0, x1, x2, hy, y0, y1, y2⟩ := hkk.two
    have HX := Lib.hid hx
    have HY := Lib.hid hy
    have IHX : Hid (DvOk 61 x) := IH.out x (by rw [ekids]; simp)
    have IHY : Hid (DvOk 61 y) := IH.out y (by rw [ekids]; simp)
    have WX := Lib.hid wx
    have WY := Lib.hid wy
    have FX := Lib.hid (dv_fit b x wx)
    have FY := Lib.hid (dv_fit b y wy)
    have hds := dv_sum b wx wy (by omega)
    have hmx : x.many ≤ 120 := by omega
    have hmy : y.many ≤ 120 := by omega
    have hadp : p ad.block := hkk.ok ad rfl (by simp)
    have hadl : ad.block < w.heap.size := HP.out _ hadp
    rw [ekids] at n2
    simp only [List.length_cons, List.length_nil, Nat.zero_add] at n2
    have HC : Hid (∀ w' : World, (∀ k, k < wa.heap.size → k ≠ w.heap.size + 1 → w'.heap[k]? = wa.heap[k]?) → w'.cell? ⟨w.heap.size, 2, none⟩ = some (.slice (some ad) 2 ck) ∧ w'.cell? ad = some (.int .i64 x.kind) ∧ w'.cell? ⟨ad.block, ad.off + 1, none⟩ = some (.slice A1 x.set.length c1) ∧ w'.cell? ⟨ad.block, ad.off + 2, none⟩ = some (.slice K1 x.kids.length dk1) ∧
        w'.cell? ⟨ad.block, ad.off + 3, none⟩ = some (.int .i64 y.kind) ∧ w'.cell? ⟨ad.block, ad.off + 3 + 1, none⟩ = some (.slice A2 y.set.length c2) ∧ w'.cell? ⟨ad.block, ad.off + 3 + 2, none⟩ = some (.slice K2 y.kids.length dk2)) := fun w' hb =>
      have up : ∀ {q : Addr} {v : Value}, q.block ≠ w.heap.size + 1 → wa.cell? q = some v → w'.cell? q = some v := fun {q v} hne h => (World.cell?_of_block (w := wa) (hb _ (World.block_lt_of_cell? wa q h) hne)).trans h
      ⟨up (by show w.heap.size ≠ _; omega) n2, up (by omega) x0, up (by show ad.block ≠ _; omega) x1, up (by show ad.block ≠ _; omega) x2, up (by show ad.block ≠ _; omega) y0, up (by show ad.block ≠ _; omega) y1, up (by show ad.block ≠ _; omega) y2⟩
    have FT := Lib.hid (nCat_fit _ FX.out.wf y wy)
    have hft := FT.out.many
    obtain ⟨nb, hnb⟩ : ∃ z, z = null x := ⟨_, rfl⟩
    have E : Hid (dv b r = if nb = true then nOr (nCat (dv b x) y) (dv b y) else nCat (dv b x) y) := by show _ = _; rw [hnb, ex, k3]; exact dv_cat b [] x y
    have NC := fun (v1 v2 : Value) (W : World) h => sNull_d x v1 v2 W wx h
    rw [← hnb] at NC
    replace NC := Lib.hid NC
    have CC := fun (u1 u2 v1 v2 : Value) (W : World) (q : Nat → Prop) ha hb hp hpw => sCat_r (dv b x) y u1 u2 v1 v2 W q FX.out.wf wy ha hb hp (size_many (m := 0) FX.out.wf (by omega)) (size_many (m := 0) wy (by omega)) (by omega) hpw
    obtain ⟨T, hT⟩ : ∃ z, z = nCat (dv b x) y := ⟨_, rfl⟩
    rw [← hT] at CC E FT hft
    replace CC := Lib.hid CC
    have d1 : (r.kind == 1) = false := by simp [k1]
    have d3 : (r.kind == 3) = true := by simp [k3]
    clear k1 k3 hnb hT
    go_enter Tryz.func61, Tryz.ntmps61
    clear ex ekids e4 hx hy wx wy IH hwf hm2 hkk
    go_wp2_with fail
    clear hwa n0 n1 n2 x0 x1 x2 y0 y1 y2
    go_cut [5] (fun v wx => ∃ (g : Nat) (A : Option Addr) (c : Nat) (K : Option Addr) (k : Nat), v = .pointer (some ⟨g, 0, none⟩) ∧ Hid (Blk wx g #[.int .i64 T.kind, .slice A T.set.length c, .slice K T.kids.length k] TRx) ∧ Hid (RexP wx (fun z => z ≠ g ∧ (p z ∨ wa.heap.size ≤ z)) T (.int .i64 T.kind) (.slice A T.set.length c) (.slice K T.kids.length k)) ∧ Hid (wa.heap.size ≤ g ∧ g < wx.heap.size) ∧ Hid (Below wa.heap.size wa wx))
    case first =>
      have hwz := HB.out.size
      have bd := below_drew (Below.refl wa.heap.size wa)
      have hdz := bd.size
      refine wp_region_held_drew (S := fun w' => w'.cell? ⟨w.heap.size, 2, none⟩ = some (.slice (some ad) 2 ck) ∧ w'.cell? ad = some (.int .i64 x.kind) ∧ w'.cell? ⟨ad.block, ad.off + 1, none⟩ = some (.slice A1 x.set.length c1) ∧ w'.cell? ⟨ad.block, ad.off + 2, none⟩ = some (.slice K1 x.kids.length dk1) ∧
          w'.cell? ⟨ad.block, ad.off + 3, none⟩ = some (.int .i64 y.kind) ∧ w'.cell? ⟨ad.block, ad.off + 3 + 1, none⟩ = some (.slice A2 y.set.length c2) ∧ w'.cell? ⟨ad.block, ad.off + 3 + 2, none⟩ = some (.slice K2 y.kids.length dk2)) (by kernel_rfl) (HC.out _ (fun k hk _ => bd.block k hk)) (fun hHeld0 => ?_)
      refine wpAnyH_take (i := 0) (v := ?_) rfl (by kernel_rfl) (by kernel_rfl) (by kernel_rfl) (fun _ _ _ h => h) (Or.inl ⟨by rfl, ?_⟩) (by assumption) ?_
      rotate_left
      · (intro w hSw; (try dsimp only at hSw); go_simp; try with_reducible rfl)
      try simp only [Act.put, List.getElem_toArray, List.getElem_cons_zero, List.getElem_cons_succ, List.setIfInBounds_toArray, List.set_cons_zero, List.set_cons_succ]
      refine wpAnyH_take (i := 1) (v := ?_) rfl (by kernel_rfl) (by kernel_rfl) (by kernel_rfl) (fun _ _ _ h => h) (Or.inl ⟨by rfl, ?_⟩) (by assumption) ?_
      rotate_left
      · (intro w hSw; (try dsimp only at hSw); go_simp; try with_reducible rfl)
      try simp only [Act.put, List.getElem_toArray, List.getElem_cons_zero, List.getElem_cons_succ, List.setIfInBounds_toArray, List.set_cons_zero, List.set_cons_succ]
      refine wpAnyH_take (i := 2) (v := ?_) rfl (by kernel_rfl) (by kernel_rfl) (by kernel_rfl) (fun _ _ _ h => h) (Or.inl ⟨by rfl, ?_⟩) (by assumption) ?_
      rotate_left
      · (intro w hSw; (try dsimp only at hSw); go_simp; try with_reducible rfl)
      try simp only [Act.put, List.getElem_toArray, List.getElem_cons_zero, List.getElem_cons_succ, List.setIfInBounds_toArray, List.set_cons_zero, List.set_cons_succ]
      refine wpAnyH_take (i := 3) (v := ?_) rfl (by kernel_rfl) (by kernel_rfl) (by kernel_rfl) (fun _ _ _ h => h) (Or.inl ⟨by rfl, ?_⟩) (by assumption) ?_
      rotate_left
      · (intro w hSw; (try dsimp only at hSw); go_simp; try with_reducible rfl)
      try simp only [Act.put, List.getElem_toArray, List.getElem_cons_zero, List.getElem_cons_succ, List.setIfInBounds_toArray, List.set_cons_zero, List.set_cons_succ]
      refine wpAnyH_take (i := 4) (v := ?_) rfl (by kernel_rfl) (by kernel_rfl) (by kernel_rfl) (fun _ _ _ h => h) (Or.inl ⟨by rfl, ?_⟩) (by assumption) ?_
      rotate_left
      · (intro w hSw; (try dsimp only at hSw); go_simp; try with_reducible rfl)
      try simp only [Act.put, List.getElem_toArray, List.getElem_cons_zero, List.getElem_cons_succ, List.setIfInBounds_toArray, List.set_cons_zero, List.set_cons_succ]
      refine wpAnyH_take (i := 6) (v := ?_) rfl (by kernel_rfl) (by kernel_rfl) (by kernel_rfl) (fun _ _ _ h => h) (Or.inl ⟨by rfl, ?_⟩) (by assumption) ?_
      rotate_left
      · (intro w hSw; (try dsimp only at hSw); go_simp; try with_reducible rfl)
      try simp only [Act.put, List.getElem_toArray, List.getElem_cons_zero, List.getElem_cons_succ, List.setIfInBounds_toArray, List.set_cons_zero, List.set_cons_succ]
      refine wpAnyH_take (i := 7) (v := ?_) rfl (by kernel_rfl) (by kernel_rfl) (by kernel_rfl) (fun _ _ _ h => h) (Or.inl ⟨by rfl, ?_⟩) (by assumption) ?_
      rotate_left
      · (intro w hSw; (try dsimp only at hSw); go_simp; try with_reducible rfl)
      try simp only [Act.put, List.getElem_toArray, List.getElem_cons_zero, List.getElem_cons_succ, List.setIfInBounds_toArray, List.set_cons_zero, List.set_cons_succ]
      refine wpAnyH_take (i := 8) (v := ?_) rfl (by kernel_rfl) (by kernel_rfl) (by kernel_rfl) (fun _ _ _ h => h) (Or.inl ⟨by rfl, ?_⟩) (by assumption) ?_
      rotate_left
      · (intro w hSw; (try dsimp only at hSw); go_simp; try with_reducible rfl)
      try simp only [Act.put, List.getElem_toArray, List.getElem_cons_zero, List.getElem_cons_succ, List.setIfInBounds_toArray, List.set_cons_zero, List.set_cons_succ]
      refine wpAnyH_take (i := 9) (v := ?_) rfl (by kernel_rfl) (by kernel_rfl) (by kernel_rfl) (fun _ _ _ h => h) (Or.inl ⟨by rfl, ?_⟩) (by assumption) ?_
      rotate_left
      · (intro w hSw; (try dsimp only at hSw); go_simp; try with_reducible rfl)
      try simp only [Act.put, List.getElem_toArray, List.getElem_cons_zero, List.getElem_cons_succ, List.setIfInBounds_toArray, List.set_cons_zero, List.set_cons_succ]
      refine wpAnyH_ready (rs := [5, 11]) (by kernel_rfl) (by simp) ?_
      refine AllReadyH.cons (o := ⟨some 22, _, _, _, _, _⟩) rfl (fun K hK => ?_) (AllReadyH.cons (o := ⟨some 5, _, _, _, _, _⟩) rfl (fun K hK => ?_) AllReadyH.nil)
      · go_simp
        refine (IHX.out b _ _ wa.drew p WX.out (HX.out.under (bd)) (fun z hz => by have h1 := HP.out z hz; have h2 := (bd).size; omega) hmx (HPW.out.below (below_then HB.out (bd)))).mono ?_
        rintro e w3 ⟨A3, c3, K3, k3, rfl, hv3, b3⟩
        have B3 := Lib.hid (below_then (bd) b3)
        have hz3 := (bd).size
        have HV3 : Hid (RexP w3 (fun z => (p z ∨ wa.drew.heap.size ≤ z) ∧ z < w3.heap.size) (dv b x) (.int .i64 (dv b x).kind) (.slice A3 (dv b x).set.length c3) (.slice K3 (dv b x).kids.length k3)) := Lib.hid hv3.lt
        clear hv3
        (try go_wp2_with fail)
        refine hK.out _ _ (HC.out _ (fun k hk _ => B3.out.block k hk)) (fun hH => ?_)
        clear hK K
        try simp only [Act.put, List.getElem_toArray, List.getElem_cons_zero, List.getElem_cons_succ, List.setIfInBounds_toArray, List.set_cons_zero, List.set_cons_succ]
        refine wpAnyH_ready (rs := [10, 11]) (by kernel_rfl) (by simp) ?_
        refine AllReadyH.cons (o := ⟨some 27, _, _, _, _, _⟩) rfl (fun K hK => ?_) (AllReadyH.cons (o := ⟨some 5, _, _, _, _, _⟩) rfl (fun K hK => ?_) AllReadyH.nil)
        · go_simp
          refine (CC.out _ _ _ _ w3 _ (HV3.out) ((HY.out.under (B3.out)).mono fun z hz => ⟨.inl hz, by have h1 := HP.out z hz; have h2 := B3.out.size; omega⟩) (fun z hz => Nat.lt_of_lt_of_le hz.2 (Nat.le_refl _)) (HPW.out.below (below_then HB.out (B3.out)))).mono ?_
          rintro e w4 ⟨A4, c4, K4, k4, rfl, hv4, b4⟩
          have B4 := Lib.hid (below_then (B3.out) b4)
          have HV4 := Lib.hid hv4
          have hz4 := (B3.out).size
          have h34 := b4.size
          clear hv4
          (try go_wp2_with fail)
          refine hK.out _ _ (HC.out _ (fun k hk _ => B4.out.block k hk)) (fun hH => ?_)
          clear hK K
          try simp only [Act.put, List.getElem_toArray, List.getElem_cons_zero, List.getElem_cons_succ, List.setIfInBounds_toArray, List.set_cons_zero, List.set_cons_succ]
          refine wpAnyH_ready (rs := [11]) (by kernel_rfl) (by simp) ?_
          refine AllReadyH.cons (o := ⟨some 5, _, _, _, _, _⟩) rfl (fun K hK => ?_) AllReadyH.nil
          go_simp
          obtain ⟨wz, hwz⟩ : ∃ z : World, z = w4.alloc (.cells #[.int .i64 0, nilS, nilS] TRx) := ⟨_, rfl⟩
          have bz : Below w4.heap.size w4 wz := by rw [hwz]; exact below_alloc (Below.refl _ _) _
          have MG : Hid (Blk wz w4.heap.size #[.int .i64 0, nilS, nilS] TRx) := by rw [hwz]; exact blk_new _ _ _
          have BZ := Lib.hid (below_then (B4.out) bz)
          have hzz : wz.heap.size = w4.heap.size + 1 := by rw [hwz]; simp
          have HZZ := Lib.hid hzz
          rw [← hwz]
          obtain ⟨gz, hgz⟩ : ∃ z : Nat, z = w4.heap.size := ⟨_, rfl⟩
          rw [← hgz] at MG ⊢
          have HGZ := Lib.hid hgz
          clear hwz hzz hgz
          refine hK.out _ _ (HC.out _ (fun k hk _ => BZ.out.block k hk)) (fun hH => ?_)
          clear hK K
          try simp only [Act.put, List.getElem_toArray, List.getElem_cons_zero, List.getElem_cons_succ, List.setIfInBounds_toArray, List.set_cons_zero, List.set_cons_succ]
          have GE : Hid (wa.heap.size ≤ gz) := by have h1 := HGZ.out; have h2 := B4.out.size; show _ ≤ _; omega
          have HVZ : Hid (RexP wz (fun z => z ≠ gz ∧ (p z ∨ wa.heap.size ≤ z)) T (.int .i64 T.kind) (.slice A4 T.set.length c4) (.slice K4 T.kids.length k4)) := Lib.hid ((HV4.out.lt.under bz).mono fun z hz => by
            have h1 := HGZ.out
            have h2 := hz.2
            refine ⟨by omega, ?_⟩
            rcases hz.1 with ⟨h | h, _⟩ | h
            · exact .inl h
            · exact .inr (by omega)
            · exact .inr (by omega))
          have hgl := MG.out.lt
          have g0 : wz.cell? ⟨gz, 0, none⟩ = some (.int .i64 0) := by rw [MG.out.cell]; rfl
          have g1 : wz.cell? ⟨gz, 1, none⟩ = some nilS := by rw [MG.out.cell]; rfl
          have g2 : wz.cell? ⟨gz, 2, none⟩ = some nilS := by rw [MG.out.cell]; rfl
          have f0 : wz.frozen? ⟨gz, 0, none⟩ = false := MG.out.free 0
          have f1 : wz.frozen? ⟨gz, 1, none⟩ = false := MG.out.free 1
          have f2 : wz.frozen? ⟨gz, 2, none⟩ = false := MG.out.free 2
          refine wpAnyH_ready (rs := [12]) (by kernel_rfl) (by simp) ?_
          refine AllReadyH.cons (o := ⟨none, _, _, _, _, _⟩) rfl (fun K hK => ?_) AllReadyH.nil
          go_simp
          obtain ⟨wQ, hwQ⟩ : ∃ z : World, z = ((wz.setCell ⟨gz, 0, none⟩ (.int .i64 T.kind)).setCell ⟨gz, 1, none⟩ (.slice A4 T.set.length c4)).setCell ⟨gz, 2, none⟩ (.slice K4 T.kids.length k4) := ⟨_, rfl⟩
          have XQ : Hid (Blk wQ gz #[.int .i64 T.kind, .slice A4 T.set.length c4, .slice K4 T.kids.length k4] TRx) := by rw [hwQ]; exact Lib.hid (put3 rfl MG.out)
          have GQ : Hid (wz.grownBy wQ (some gz)) := by rw [hwQ]; exact grown_set (grown_set (grown_set (grown_refl _ _) _ _) _ _) _ _
          rw [← hwQ]
          clear g0 g1 g2 f0 f1 f2 hwQ
          have BQ : Hid (Below wa.heap.size wa wQ) := Lib.hid ((BZ.out).grown GQ.out (BZ.out).size fun q hq => by have h1 := Option.some.inj hq; have h2 := GE.out; omega)
          refine hK.out _ _ (HC.out _ (fun k hk _ => BQ.out.block k hk)) (fun hH => ?_)
          clear hK K
          try simp only [Act.put, List.getElem_toArray, List.getElem_cons_zero, List.getElem_cons_succ, List.setIfInBounds_toArray, List.set_cons_zero, List.set_cons_succ]
          refine wpAnyH_done (by kernel_rfl) ?_ _
          go_wp2_with fail
          go_meet
          have hq := GQ.out.size
          exact ⟨gz, A4, c4, K4, k4, rfl, XQ, (HVZ.out).keep fun z hz hlt => GQ.out.block z hlt fun e => hz.1 (Option.some.inj e), ⟨GE.out, by omega⟩, BQ⟩
        · go_simp
          obtain ⟨wz, hwz⟩ : ∃ z : World, z = w3.alloc (.cells #[.int .i64 0, nilS, nilS] TRx) := ⟨_, rfl⟩
          have bz : Below w3.heap.size w3 wz := by rw [hwz]; exact below_alloc (Below.refl _ _) _
          have MG : Hid (Blk wz w3.heap.size #[.int .i64 0, nilS, nilS] TRx) := by rw [hwz]; exact blk_new _ _ _
          have BZ := Lib.hid (below_then (B3.out) bz)
          have hzz : wz.heap.size = w3.heap.size + 1 := by rw [hwz]; simp
          have HZZ := Lib.hid hzz
          rw [← hwz]
          obtain ⟨gz, hgz⟩ : ∃ z : Nat, z = w3.heap.size := ⟨_, rfl⟩
          rw [← hgz] at MG ⊢
          have HGZ := Lib.hid hgz
          clear hwz hzz hgz
          refine hK.out _ _ (HC.out _ (fun k hk _ => BZ.out.block k hk)) (fun hH => ?_)
          clear hK K
          try simp only [Act.put, List.getElem_toArray, List.getElem_cons_zero, List.getElem_cons_succ, List.setIfInBounds_toArray, List.set_cons_zero, List.set_cons_succ]
          refine wpAnyH_ready (rs := [10]) (by kernel_rfl) (by simp) ?_
          refine AllReadyH.cons (o := ⟨some 27, _, _, _, _, _⟩) rfl (fun K hK => ?_) AllReadyH.nil
          go_simp
          refine (CC.out _ _ _ _ wz _ (HV3.out.under bz) ((HY.out.under (BZ.out)).mono fun z hz => ⟨.inl hz, by have h1 := HP.out z hz; have h2 := B3.out.size; omega⟩) (fun z hz => Nat.lt_of_lt_of_le hz.2 (bz.size)) (HPW.out.below (below_then HB.out (BZ.out)))).mono ?_
          rintro e w4 ⟨A4, c4, K4, k4, rfl, hv4, b4⟩
          have B4 := Lib.hid (below_then (BZ.out) b4)
          have HV4 := Lib.hid hv4
          have hz4 := (BZ.out).size
          have h34 := b4.size
          clear hv4
          (try go_wp2_with fail)
          refine hK.out _ _ (HC.out _ (fun k hk _ => B4.out.block k hk)) (fun hH => ?_)
          clear hK K
          try simp only [Act.put, List.getElem_toArray, List.getElem_cons_zero, List.getElem_cons_succ, List.setIfInBounds_toArray, List.set_cons_zero, List.set_cons_succ]
          have GE : Hid (wa.heap.size ≤ gz) := by have h1 := HGZ.out; have h2 := B3.out.size; show _ ≤ _; omega
          replace MG := Lib.hid (MG.out.below b4)
          have HVZ : Hid (RexP w4 (fun z => z ≠ gz ∧ (p z ∨ wa.heap.size ≤ z)) T (.int .i64 T.kind) (.slice A4 T.set.length c4) (.slice K4 T.kids.length k4)) := Lib.hid (HV4.out.mono fun z hz => by
            have h1 := HGZ.out
            have h2 := HZZ.out
            have h3 := B3.out.size
            rcases hz with ⟨h | h, _⟩ | h
            · exact ⟨by have := HP.out z h; omega, .inl h⟩
            · exact ⟨by omega, .inr (by omega)⟩
            · exact ⟨by omega, .inr (by omega)⟩)
          have hgl := MG.out.lt
          have g0 : w4.cell? ⟨gz, 0, none⟩ = some (.int .i64 0) := by rw [MG.out.cell]; rfl
          have g1 : w4.cell? ⟨gz, 1, none⟩ = some nilS := by rw [MG.out.cell]; rfl
          have g2 : w4.cell? ⟨gz, 2, none⟩ = some nilS := by rw [MG.out.cell]; rfl
          have f0 : w4.frozen? ⟨gz, 0, none⟩ = false := MG.out.free 0
          have f1 : w4.frozen? ⟨gz, 1, none⟩ = false := MG.out.free 1
          have f2 : w4.frozen? ⟨gz, 2, none⟩ = false := MG.out.free 2
          refine wpAnyH_ready (rs := [12]) (by kernel_rfl) (by simp) ?_
          refine AllReadyH.cons (o := ⟨none, _, _, _, _, _⟩) rfl (fun K hK => ?_) AllReadyH.nil
          go_simp
          obtain ⟨wQ, hwQ⟩ : ∃ z : World, z = ((w4.setCell ⟨gz, 0, none⟩ (.int .i64 T.kind)).setCell ⟨gz, 1, none⟩ (.slice A4 T.set.length c4)).setCell ⟨gz, 2, none⟩ (.slice K4 T.kids.length k4) := ⟨_, rfl⟩
          have XQ : Hid (Blk wQ gz #[.int .i64 T.kind, .slice A4 T.set.length c4, .slice K4 T.kids.length k4] TRx) := by rw [hwQ]; exact Lib.hid (put3 rfl MG.out)
          have GQ : Hid (w4.grownBy wQ (some gz)) := by rw [hwQ]; exact grown_set (grown_set (grown_set (grown_refl _ _) _ _) _ _) _ _
          rw [← hwQ]
          clear g0 g1 g2 f0 f1 f2 hwQ
          have BQ : Hid (Below wa.heap.size wa wQ) := Lib.hid ((B4.out).grown GQ.out (B4.out).size fun q hq => by have h1 := Option.some.inj hq; have h2 := GE.out; omega)
          refine hK.out _ _ (HC.out _ (fun k hk _ => BQ.out.block k hk)) (fun hH => ?_)
          clear hK K
          try simp only [Act.put, List.getElem_toArray, List.getElem_cons_zero, List.getElem_cons_succ, List.setIfInBounds_toArray, List.set_cons_zero, List.set_cons_succ]
          refine wpAnyH_done (by kernel_rfl) ?_ _
          go_wp2_with fail
          go_meet
          have hq := GQ.out.size
          exact ⟨gz, A4, c4, K4, k4, rfl, XQ, (HVZ.out).keep fun z hz hlt => GQ.out.block z hlt fun e => hz.1 (Option.some.inj e), ⟨GE.out, by omega⟩, BQ⟩
      · go_simp
        obtain ⟨wz, hwz⟩ : ∃ z : World, z = (wa.alloc (.cells #[.int .i64 0, nilS, nilS] TRx)).drew := ⟨_, rfl⟩
        have bz : Below wa.heap.size wa wz := by rw [hwz]; exact below_drew (below_alloc (Below.refl _ _) _)
        have MG : Hid (Blk wz wa.heap.size #[.int .i64 0, nilS, nilS] TRx) := by rw [hwz]; exact (blk_new wa #[.int .i64 0, nilS, nilS] TRx).below (below_drew (Below.refl _ _))
        have BZ := Lib.hid (below_then (Below.refl wa.heap.size wa) bz)
        have hzz : wz.heap.size = wa.heap.size + 1 := by rw [hwz]; show (wa.alloc _).heap.size = _; simp
        have HZZ := Lib.hid hzz
        rw [← hwz]
        obtain ⟨gz, hgz⟩ : ∃ z : Nat, z = wa.heap.size := ⟨_, rfl⟩
        rw [← hgz] at MG ⊢
        have HGZ := Lib.hid hgz
        clear hwz hzz hgz
        refine hK.out _ _ (HC.out _ (fun k hk _ => BZ.out.block k hk)) (fun hH => ?_)
        clear hK K
        try simp only [Act.put, List.getElem_toArray, List.getElem_cons_zero, List.getElem_cons_succ, List.setIfInBounds_toArray, List.set_cons_zero, List.set_cons_succ]
        refine wpAnyH_ready (rs := [5]) (by kernel_rfl) (by simp) ?_
        refine AllReadyH.cons (o := ⟨some 22, _, _, _, _, _⟩) rfl (fun K hK => ?_) AllReadyH.nil
        go_simp
        refine (IHX.out b _ _ wz p WX.out (HX.out.under (BZ.out)) (fun z hz => by have h1 := HP.out z hz; have h2 := (BZ.out).size; omega) hmx (HPW.out.below (below_then HB.out (BZ.out)))).mono ?_
        rintro e w3 ⟨A3, c3, K3, k3, rfl, hv3, b3⟩
        have B3 := Lib.hid (below_then (BZ.out) b3)
        have hz3 := (BZ.out).size
        have HV3 : Hid (RexP w3 (fun z => (p z ∨ wz.heap.size ≤ z) ∧ z < w3.heap.size) (dv b x) (.int .i64 (dv b x).kind) (.slice A3 (dv b x).set.length c3) (.slice K3 (dv b x).kids.length k3)) := Lib.hid hv3.lt
        clear hv3
        (try go_wp2_with fail)
        refine hK.out _ _ (HC.out _ (fun k hk _ => B3.out.block k hk)) (fun hH => ?_)
        clear hK K
        try simp only [Act.put, List.getElem_toArray, List.getElem_cons_zero, List.getElem_cons_succ, List.setIfInBounds_toArray, List.set_cons_zero, List.set_cons_succ]
        replace MG := Lib.hid (MG.out.below b3)
        refine wpAnyH_ready (rs := [10]) (by kernel_rfl) (by simp) ?_
        refine AllReadyH.cons (o := ⟨some 27, _, _, _, _, _⟩) rfl (fun K hK => ?_) AllReadyH.nil
        go_simp
        refine (CC.out _ _ _ _ w3 _ (HV3.out) ((HY.out.under (B3.out)).mono fun z hz => ⟨.inl hz, by have h1 := HP.out z hz; have h2 := B3.out.size; omega⟩) (fun z hz => Nat.lt_of_lt_of_le hz.2 (Nat.le_refl _)) (HPW.out.below (below_then HB.out (B3.out)))).mono ?_
        rintro e w4 ⟨A4, c4, K4, k4, rfl, hv4, b4⟩
        have B4 := Lib.hid (below_then (B3.out) b4)
        have HV4 := Lib.hid hv4
        have hz4 := (B3.out).size
        have h34 := b4.size
        clear hv4
        (try go_wp2_with fail)
        refine hK.out _ _ (HC.out _ (fun k hk _ => B4.out.block k hk)) (fun hH => ?_)
        clear hK K
        try simp only [Act.put, List.getElem_toArray, List.getElem_cons_zero, List.getElem_cons_succ, List.setIfInBounds_toArray, List.set_cons_zero, List.set_cons_succ]
        have GE : Hid (wa.heap.size ≤ gz) := by have h1 := HGZ.out; show _ ≤ _; omega
        replace MG := Lib.hid (MG.out.below b4)
        have HVZ : Hid (RexP w4 (fun z => z ≠ gz ∧ (p z ∨ wa.heap.size ≤ z)) T (.int .i64 T.kind) (.slice A4 T.set.length c4) (.slice K4 T.kids.length k4)) := Lib.hid (HV4.out.mono fun z hz => by
          have h1 := HGZ.out
          have h2 := HZZ.out
          have h3 := b3.size
          rcases hz with ⟨h | h, _⟩ | h
          · exact ⟨by have := HP.out z h; omega, .inl h⟩
          · exact ⟨by omega, .inr (by omega)⟩
          · exact ⟨by omega, .inr (by omega)⟩)
        have hgl := MG.out.lt
        have g0 : w4.cell? ⟨gz, 0, none⟩ = some (.int .i64 0) := by rw [MG.out.cell]; rfl
        have g1 : w4.cell? ⟨gz, 1, none⟩ = some nilS := by rw [MG.out.cell]; rfl
        have g2 : w4.cell? ⟨gz, 2, none⟩ = some nilS := by rw [MG.out.cell]; rfl
        have f0 : w4.frozen? ⟨gz, 0, none⟩ = false := MG.out.free 0
        have f1 : w4.frozen? ⟨gz, 1, none⟩ = false := MG.out.free 1
        have f2 : w4.frozen? ⟨gz, 2, none⟩ = false := MG.out.free 2
        refine wpAnyH_ready (rs := [12]) (by kernel_rfl) (by simp) ?_
        refine AllReadyH.cons (o := ⟨none, _, _, _, _, _⟩) rfl (fun K hK => ?_) AllReadyH.nil
        go_simp
        obtain ⟨wQ, hwQ⟩ : ∃ z : World, z = ((w4.setCell ⟨gz, 0, none⟩ (.int .i64 T.kind)).setCell ⟨gz, 1, none⟩ (.slice A4 T.set.length c4)).setCell ⟨gz, 2, none⟩ (.slice K4 T.kids.length k4) := ⟨_, rfl⟩
        have XQ : Hid (Blk wQ gz #[.int .i64 T.kind, .slice A4 T.set.length c4, .slice K4 T.kids.length k4] TRx) := by rw [hwQ]; exact Lib.hid (put3 rfl MG.out)
        have GQ : Hid (w4.grownBy wQ (some gz)) := by rw [hwQ]; exact grown_set (grown_set (grown_set (grown_refl _ _) _ _) _ _) _ _
        rw [← hwQ]
        clear g0 g1 g2 f0 f1 f2 hwQ
        have BQ : Hid (Below wa.heap.size wa wQ) := Lib.hid ((B4.out).grown GQ.out (B4.out).size fun q hq => by have h1 := Option.some.inj hq; have h2 := GE.out; omega)
        refine hK.out _ _ (HC.out _ (fun k hk _ => BQ.out.block k hk)) (fun hH => ?_)
        clear hK K
        try simp only [Act.put, List.getElem_toArray, List.getElem_cons_zero, List.getElem_cons_succ, List.setIfInBounds_toArray, List.set_cons_zero, List.set_cons_succ]
        refine wpAnyH_done (by kernel_rfl) ?_ _
        go_wp2_with fail
        go_meet
        have hq := GQ.out.size
        exact ⟨gz, A4, c4, K4, k4, rfl, XQ, (HVZ.out).keep fun z hz hlt => GQ.out.block z hlt fun e => hz.1 (Option.some.inj e), ⟨GE.out, by omega⟩, BQ⟩
    case rest =>
      obtain ⟨g, A5, c5, K5, k5, rfl, XG, HV5, GW, BC⟩ := hcut
      have hwz := HB.out.size
      have hgz : wa.heap.size ≤ g := GW.out.1
      have hgc : g < wc.heap.size := GW.out.2
      have M5 := Lib.hid (M1.out.below BC.out)
      obtain ⟨n2, x0, x1, x2, y0, y1, y2⟩ := HC.out wc fun k hk _ => BC.out.block k hk
      clear GW
      go_wp2_with fail
      refine (NC.out _ _ wc (HX.out.under BC.out).rexv).mono ?_
      rintro e w7 ⟨rfl, b7⟩
      clear n2 x0 x1 x2 y0 y1 y2
      have B7 := Lib.hid (below_then BC.out b7)
      have h7z := b7.size
      replace XG := Lib.hid (XG.out.below b7)
      replace HV5 := Lib.hid (HV5.out.under b7)
      replace M5 := Lib.hid (M5.out.below b7)
      cases nb
      · replace E : Hid (dv b r = T) := Lib.hid (E.out.trans (if_neg (by decide)))
        have g0 : w7.cell? ⟨g, 0, none⟩ = some (.int .i64 T.kind) := by rw [XG.out.cell]; rfl
        have g1 : w7.cell? ⟨g, 1, none⟩ = some (.slice A5 T.set.length c5) := by rw [XG.out.cell]; rfl
        have g2 : w7.cell? ⟨g, 2, none⟩ = some (.slice K5 T.kids.length k5) := by rw [XG.out.cell]; rfl
        go_wp2_with ((with_reducible refine at_st 4 41 ?_); refine ev_store (o := ⟨none, .store _ (.tmp 4) _, _, _, _, _⟩) rfl rfl TRx (.tmp 4) (.tmp 41) rfl (w.heap.size + 1) 0 rfl [.int .i64 T.kind, .slice A5 T.set.length c5, .slice K5 T.kids.length k5] rfl _ TRx M5.out (sizeRx' _ _ _) (by show 0 + 3 ≤ 3; omega) (three_one _ _ _ _ _ _ _) ?_; intro w5 hX5 hg5; have HX5 : Hid (Blk w5 (w.heap.size + 1) ([.int .i64 T.kind, .slice A5 T.set.length c5, .slice K5 T.kids.length k5]).toArray TRx) := hX5; have HG5 := Lib.hid hg5; clear hX5 hg5)
        refine bodyPost_ret (results_cell_row rfl _ _ (w.heap.size + 1) TRx _ (0, 0) _ rfl HX5.out.eq Tryz.underlying26 rfl (by rw [sizeRx]; rfl)) rfl ?_
        rw [E.out]
        exact rex_fin rfl rfl HP.out (HV5.out.mono fun z hz => by
          have h0 := HZ.out
          rcases hz with ⟨_, h | h⟩
          · exact ⟨fun e => by have := HP.out z h; omega, .inl h⟩
          · exact ⟨by omega, .inr (by omega)⟩) (below_then HB.out B7.out) HG5.out (by omega)
      replace E : Hid (dv b r = nOr T (dv b y)) := Lib.hid (E.out.trans (if_pos rfl))
      go_wp2_with fail
      have bd := below_drew (Below.refl w7.heap.size w7)
      have hdz := bd.size
      have D7 : Hid (Below wa.heap.size wa w7.drew) := Lib.hid (below_then B7.out bd)
      replace XG := Lib.hid (XG.out.below bd)
      replace HV5 := Lib.hid (HV5.out.under bd)
      replace M5 := Lib.hid (M5.out.below bd)
      refine wp_region_held_drew (S := fun w' => w'.cell? ⟨w.heap.size, 2, none⟩ = some (.slice (some ad) 2 ck) ∧ w'.cell? ad = some (.int .i64 x.kind) ∧ w'.cell? ⟨ad.block, ad.off + 1, none⟩ = some (.slice A1 x.set.length c1) ∧ w'.cell? ⟨ad.block, ad.off + 2, none⟩ = some (.slice K1 x.kids.length dk1) ∧
          w'.cell? ⟨ad.block, ad.off + 3, none⟩ = some (.int .i64 y.kind) ∧ w'.cell? ⟨ad.block, ad.off + 3 + 1, none⟩ = some (.slice A2 y.set.length c2) ∧ w'.cell? ⟨ad.block, ad.off + 3 + 2, none⟩ = some (.slice K2 y.kids.length dk2)) (by kernel_rfl) (HC.out _ (fun k hk _ => D7.out.block k hk)) (fun hHeld0 => ?_)
      refine wpAnyH_take (i := 1) (v := ?_) rfl (by kernel_rfl) (by kernel_rfl) (by kernel_rfl) (fun _ _ _ h => h) (Or.inl ⟨by rfl, ?_⟩) (by assumption) ?_
      rotate_left
      · (intro w hSw; (try dsimp only at hSw); go_simp; try with_reducible rfl)
      try simp only [Act.put, List.getElem_toArray, List.getElem_cons_zero, List.getElem_cons_succ, List.setIfInBounds_toArray, List.set_cons_zero, List.set_cons_succ]
      refine wpAnyH_take (i := 2) (v := ?_) rfl (by kernel_rfl) (by kernel_rfl) (by kernel_rfl) (fun _ _ _ h => h) (Or.inl ⟨by rfl, ?_⟩) (by assumption) ?_
      rotate_left
      · (intro w hSw; (try dsimp only at hSw); go_simp; try with_reducible rfl)
      try simp only [Act.put, List.getElem_toArray, List.getElem_cons_zero, List.getElem_cons_succ, List.setIfInBounds_toArray, List.set_cons_zero, List.set_cons_succ]
      refine wpAnyH_take (i := 3) (v := ?_) rfl (by kernel_rfl) (by kernel_rfl) (by kernel_rfl) (fun _ _ _ h => h) (Or.inl ⟨by rfl, ?_⟩) (by assumption) ?_
      rotate_left
      · (intro w hSw; (try dsimp only at hSw); go_simp; try with_reducible rfl)
      try simp only [Act.put, List.getElem_toArray, List.getElem_cons_zero, List.getElem_cons_succ, List.setIfInBounds_toArray, List.set_cons_zero, List.set_cons_succ]
      refine wpAnyH_take (i := 4) (v := ?_) rfl (by kernel_rfl) (by kernel_rfl) (by kernel_rfl) (fun _ _ _ h => h) (Or.inl ⟨by rfl, ?_⟩) (by assumption) ?_
      rotate_left
      · (intro w hSw; (try dsimp only at hSw); go_simp; try with_reducible rfl)
      try simp only [Act.put, List.getElem_toArray, List.getElem_cons_zero, List.getElem_cons_succ, List.setIfInBounds_toArray, List.set_cons_zero, List.set_cons_succ]
      refine wpAnyH_take (i := 5) (v := ?_) rfl (by kernel_rfl) (by kernel_rfl) (by kernel_rfl) (fun _ _ _ h => h) (Or.inl ⟨by rfl, ?_⟩) (by assumption) ?_
      rotate_left
      · (intro w hSw; (try dsimp only at hSw); go_simp; try with_reducible rfl)
      try simp only [Act.put, List.getElem_toArray, List.getElem_cons_zero, List.getElem_cons_succ, List.setIfInBounds_toArray, List.set_cons_zero, List.set_cons_succ]
      refine wpAnyH_ready (rs := [0, 6]) (by kernel_rfl) (by simp) ?_
      refine AllReadyH.cons (o := ⟨some 33, _, _, _, _, _⟩) rfl (fun K hK => ?_) (AllReadyH.cons (o := ⟨some 39, _, _, _, _, _⟩) rfl (fun K hK => ?_) AllReadyH.nil)
      · have g0 : (w7.drew).cell? ⟨g, 0, none⟩ = some (.int .i64 T.kind) := by rw [XG.out.cell]; rfl
        have g1 : (w7.drew).cell? ⟨g, 1, none⟩ = some (.slice A5 T.set.length c5) := by rw [XG.out.cell]; rfl
        have g2 : (w7.drew).cell? ⟨g, 2, none⟩ = some (.slice K5 T.kids.length k5) := by rw [XG.out.cell]; rfl
        go_simp
        clear g0 g1 g2
        refine hK.out _ _ (HC.out _ (fun k hk _ => D7.out.block k hk)) (fun hH => ?_)
        clear hK K
        try simp only [Act.put, List.getElem_toArray, List.getElem_cons_zero, List.getElem_cons_succ, List.setIfInBounds_toArray, List.set_cons_zero, List.set_cons_succ]
        refine wpAnyH_ready (rs := [6]) (by kernel_rfl) (by simp) ?_
        refine AllReadyH.cons (o := ⟨some 39, _, _, _, _, _⟩) rfl (fun K hK => ?_) AllReadyH.nil
        go_simp
        refine (IHY.out b _ _ (w7.drew) p WY.out (HY.out.under (D7.out)) (fun z hz => by have h1 := HP.out z hz; have h2 := (D7.out).size; omega) hmy (HPW.out.below (below_then HB.out (D7.out)))).mono ?_
        rintro e w8 ⟨A8, c8, K8, k8, rfl, hv8, b8⟩
        have B8 := Lib.hid (below_then (D7.out) b8)
        have h8z := b8.size
        have HV8 : Hid (RexP w8 (fun z => (z ≠ g ∧ (p z ∨ wa.heap.size ≤ z)) ∧ z < w8.heap.size) (dv b y) (.int .i64 (dv b y).kind) (.slice A8 (dv b y).set.length c8) (.slice K8 (dv b y).kids.length k8)) := Lib.hid (hv8.lt.mono fun z hz => ⟨by
          rcases hz.1 with h | h
          · exact ⟨by have := HP.out z h; omega, .inl h⟩
          · exact ⟨by omega, .inr (by omega)⟩, hz.2⟩)
        replace HV5 := Lib.hid ((HV5.out.under b8).lt)
        replace XG := Lib.hid (XG.out.below b8)
        replace M5 := Lib.hid (M5.out.below b8)
        clear hv8 b8
        (try go_wp2_with fail)
        refine hK.out _ _ (HC.out _ (fun k hk _ => B8.out.block k hk)) (fun hH => ?_)
        clear hK K
        try simp only [Act.put, List.getElem_toArray, List.getElem_cons_zero, List.getElem_cons_succ, List.setIfInBounds_toArray, List.set_cons_zero, List.set_cons_succ]
        refine wpAnyH_ready (rs := [7]) (by kernel_rfl) (by simp) ?_
        refine AllReadyH.cons (o := ⟨some 40, _, _, _, _, _⟩) rfl (fun K hK => ?_) AllReadyH.nil
        go_simp
        refine (sOr_r T (dv b y) _ _ _ _ w8 _ FT.out.wf FY.out.wf HV5.out HV8.out (fun z hz => hz.2) (size_many (m := 0) FT.out.wf (by omega)) (size_many (m := 0) FY.out.wf (by omega)) (by omega) (HPW.out.below (below_then HB.out B8.out))).mono ?_
        rintro e w9 ⟨A9, c9, K9, k9, rfl, hv9, b9⟩
        obtain ⟨TT, hTT⟩ : ∃ z, z = nOr T (dv b y) := ⟨_, rfl⟩
        rw [← hTT] at hv9 E ⊢
        have B9 := Lib.hid (below_then B8.out b9)
        have HV9 : Hid (RexP w9 (fun z => z ≠ g ∧ z ≠ w.heap.size + 1 ∧ (p z ∨ w.heap.size ≤ z)) TT (.int .i64 TT.kind) (.slice A9 TT.set.length c9) (.slice K9 TT.kids.length k9)) := Lib.hid (hv9.mono fun z hz => by
          have h0 := HZ.out
          rcases hz with ⟨⟨hne, h | h⟩, _⟩ | h
          · exact ⟨hne, fun e => by have := HP.out z h; omega, .inl h⟩
          · exact ⟨hne, by omega, .inr (by omega)⟩
          · exact ⟨by omega, by omega, .inr (by omega)⟩)
        replace XG := Lib.hid (XG.out.below b9)
        replace M5 := Lib.hid (M5.out.below b9)
        have h9z := b9.size
        clear hv9 b9 HV5 HV8 hTT
        (try go_wp2_with fail)
        refine hK.out _ _ (HC.out _ (fun k hk _ => B9.out.block k hk)) (fun hH => ?_)
        clear hK K
        try simp only [Act.put, List.getElem_toArray, List.getElem_cons_zero, List.getElem_cons_succ, List.setIfInBounds_toArray, List.set_cons_zero, List.set_cons_succ]
        have HV5 : Hid (RexP w9 (fun z => z ≠ w.heap.size + 1 ∧ (p z ∨ w.heap.size ≤ z)) TT (.int .i64 TT.kind) (.slice A9 TT.set.length c9) (.slice K9 TT.kids.length k9)) := Lib.hid (HV9.out.mono fun z hz => hz.2)
        have B5 := Lib.hid B9.out
        have g0 : w9.cell? ⟨w.heap.size + 1, 0, none⟩ = some (.int .i64 0) := by rw [M5.out.cell]; rfl
        have g1 : w9.cell? ⟨w.heap.size + 1, 1, none⟩ = some nilS := by rw [M5.out.cell]; rfl
        have g2 : w9.cell? ⟨w.heap.size + 1, 2, none⟩ = some nilS := by rw [M5.out.cell]; rfl
        have f0 : w9.frozen? ⟨w.heap.size + 1, 0, none⟩ = false := M5.out.free 0
        have f1 : w9.frozen? ⟨w.heap.size + 1, 1, none⟩ = false := M5.out.free 1
        have f2 : w9.frozen? ⟨w.heap.size + 1, 2, none⟩ = false := M5.out.free 2
        refine wpAnyH_ready (rs := [8]) (by kernel_rfl) (by simp) ?_
        refine AllReadyH.cons (o := ⟨none, _, _, _, _, _⟩) rfl (fun K hK => ?_) AllReadyH.nil
        go_simp
        obtain ⟨w6, hw6⟩ : ∃ z : World, z = ((w9.setCell ⟨w.heap.size + 1, 0, none⟩ (.int .i64 TT.kind)).setCell ⟨w.heap.size + 1, 1, none⟩ (.slice A9 TT.set.length c9)).setCell ⟨w.heap.size + 1, 2, none⟩ (.slice K9 TT.kids.length k9) := ⟨_, rfl⟩
        have HX5 : Hid (Blk w6 (w.heap.size + 1) #[.int .i64 TT.kind, .slice A9 TT.set.length c9, .slice K9 TT.kids.length k9] TRx) := by rw [hw6]; exact Lib.hid (put3 rfl M5.out)
        have HG5 : Hid (w9.grownBy w6 (some (w.heap.size + 1))) := by rw [hw6]; exact grown_set (grown_set (grown_set (grown_refl _ _) _ _) _ _) _ _
        rw [← hw6]
        clear g0 g1 g2 f0 f1 f2 hw6
        refine hK.out _ _ (HC.out w6 (fun k hk hne => (HG5.out.block k (Nat.lt_of_lt_of_le hk B5.out.size) (fun e => hne (Option.some.inj e))).trans (B9.out.block k hk))) (fun hH => ?_)
        clear hK K
        try simp only [Act.put, List.getElem_toArray, List.getElem_cons_zero, List.getElem_cons_succ, List.setIfInBounds_toArray, List.set_cons_zero, List.set_cons_succ]
        refine wpAnyH_done (by kernel_rfl) ?_ _
        clear HC
        go_wp2_with fail
        refine bodyPost_ret (results_cell_row rfl _ _ (w.heap.size + 1) TRx _ (0, 0) _ rfl HX5.out.eq Tryz.underlying26 rfl (by rw [sizeRx]; rfl)) rfl ?_
        rw [E.out]
        exact rex_fin rfl rfl HP.out HV5.out (below_then HB.out B5.out) HG5.out (by omega)
      · go_simp
        go_simp
        refine (IHY.out b _ _ (w7.drew) p WY.out (HY.out.under (D7.out)) (fun z hz => by have h1 := HP.out z hz; have h2 := (D7.out).size; omega) hmy (HPW.out.below (below_then HB.out (D7.out)))).mono ?_
        rintro e w8 ⟨A8, c8, K8, k8, rfl, hv8, b8⟩
        have B8 := Lib.hid (below_then (D7.out) b8)
        have h8z := b8.size
        have HV8 : Hid (RexP w8 (fun z => (z ≠ g ∧ (p z ∨ wa.heap.size ≤ z)) ∧ z < w8.heap.size) (dv b y) (.int .i64 (dv b y).kind) (.slice A8 (dv b y).set.length c8) (.slice K8 (dv b y).kids.length k8)) := Lib.hid (hv8.lt.mono fun z hz => ⟨by
          rcases hz.1 with h | h
          · exact ⟨by have := HP.out z h; omega, .inl h⟩
          · exact ⟨by omega, .inr (by omega)⟩, hz.2⟩)
        replace HV5 := Lib.hid ((HV5.out.under b8).lt)
        replace XG := Lib.hid (XG.out.below b8)
        replace M5 := Lib.hid (M5.out.below b8)
        clear hv8 b8
        (try go_wp2_with fail)
        refine hK.out _ _ (HC.out _ (fun k hk _ => B8.out.block k hk)) (fun hH => ?_)
        clear hK K
        try simp only [Act.put, List.getElem_toArray, List.getElem_cons_zero, List.getElem_cons_succ, List.setIfInBounds_toArray, List.set_cons_zero, List.set_cons_succ]
        refine wpAnyH_ready (rs := [0]) (by kernel_rfl) (by simp) ?_
        refine AllReadyH.cons (o := ⟨some 33, _, _, _, _, _⟩) rfl (fun K hK => ?_) AllReadyH.nil
        have g0 : (w8).cell? ⟨g, 0, none⟩ = some (.int .i64 T.kind) := by rw [XG.out.cell]; rfl
        have g1 : (w8).cell? ⟨g, 1, none⟩ = some (.slice A5 T.set.length c5) := by rw [XG.out.cell]; rfl
        have g2 : (w8).cell? ⟨g, 2, none⟩ = some (.slice K5 T.kids.length k5) := by rw [XG.out.cell]; rfl
        go_simp
        clear g0 g1 g2
        refine hK.out _ _ (HC.out _ (fun k hk _ => B8.out.block k hk)) (fun hH => ?_)
        clear hK K
        try simp only [Act.put, List.getElem_toArray, List.getElem_cons_zero, List.getElem_cons_succ, List.setIfInBounds_toArray, List.set_cons_zero, List.set_cons_succ]
        refine wpAnyH_ready (rs := [7]) (by kernel_rfl) (by simp) ?_
        refine AllReadyH.cons (o := ⟨some 40, _, _, _, _, _⟩) rfl (fun K hK => ?_) AllReadyH.nil
        go_simp
        refine (sOr_r T (dv b y) _ _ _ _ w8 _ FT.out.wf FY.out.wf HV5.out HV8.out (fun z hz => hz.2) (size_many (m := 0) FT.out.wf (by omega)) (size_many (m := 0) FY.out.wf (by omega)) (by omega) (HPW.out.below (below_then HB.out B8.out))).mono ?_
        rintro e w9 ⟨A9, c9, K9, k9, rfl, hv9, b9⟩
        obtain ⟨TT, hTT⟩ : ∃ z, z = nOr T (dv b y) := ⟨_, rfl⟩
        rw [← hTT] at hv9 E ⊢
        have B9 := Lib.hid (below_then B8.out b9)
        have HV9 : Hid (RexP w9 (fun z => z ≠ g ∧ z ≠ w.heap.size + 1 ∧ (p z ∨ w.heap.size ≤ z)) TT (.int .i64 TT.kind) (.slice A9 TT.set.length c9) (.slice K9 TT.kids.length k9)) := Lib.hid (hv9.mono fun z hz => by
          have h0 := HZ.out
          rcases hz with ⟨⟨hne, h | h⟩, _⟩ | h
          · exact ⟨hne, fun e => by have := HP.out z h; omega, .inl h⟩
          · exact ⟨hne, by omega, .inr (by omega)⟩
          · exact ⟨by omega, by omega, .inr (by omega)⟩)
        replace XG := Lib.hid (XG.out.below b9)
        replace M5 := Lib.hid (M5.out.below b9)
        have h9z := b9.size
        clear hv9 b9 HV5 HV8 hTT
        (try go_wp2_with fail)
        refine hK.out _ _ (HC.out _ (fun k hk _ => B9.out.block k hk)) (fun hH => ?_)
        clear hK K
        try simp only [Act.put, List.getElem_toArray, List.getElem_cons_zero, List.getElem_cons_succ, List.setIfInBounds_toArray, List.set_cons_zero, List.set_cons_succ]
        have HV5 : Hid (RexP w9 (fun z => z ≠ w.heap.size + 1 ∧ (p z ∨ w.heap.size ≤ z)) TT (.int .i64 TT.kind) (.slice A9 TT.set.length c9) (.slice K9 TT.kids.length k9)) := Lib.hid (HV9.out.mono fun z hz => hz.2)
        have B5 := Lib.hid B9.out
        have g0 : w9.cell? ⟨w.heap.size + 1, 0, none⟩ = some (.int .i64 0) := by rw [M5.out.cell]; rfl
        have g1 : w9.cell? ⟨w.heap.size + 1, 1, none⟩ = some nilS := by rw [M5.out.cell]; rfl
        have g2 : w9.cell? ⟨w.heap.size + 1, 2, none⟩ = some nilS := by rw [M5.out.cell]; rfl
        have f0 : w9.frozen? ⟨w.heap.size + 1, 0, none⟩ = false := M5.out.free 0
        have f1 : w9.frozen? ⟨w.heap.size + 1, 1, none⟩ = false := M5.out.free 1
        have f2 : w9.frozen? ⟨w.heap.size + 1, 2, none⟩ = false := M5.out.free 2
        refine wpAnyH_ready (rs := [8]) (by kernel_rfl) (by simp) ?_
        refine AllReadyH.cons (o := ⟨none, _, _, _, _, _⟩) rfl (fun K hK => ?_) AllReadyH.nil
        go_simp
        obtain ⟨w6, hw6⟩ : ∃ z : World, z = ((w9.setCell ⟨w.heap.size + 1, 0, none⟩ (.int .i64 TT.kind)).setCell ⟨w.heap.size + 1, 1, none⟩ (.slice A9 TT.set.length c9)).setCell ⟨w.heap.size + 1, 2, none⟩ (.slice K9 TT.kids.length k9) := ⟨_, rfl⟩
        have HX5 : Hid (Blk w6 (w.heap.size + 1) #[.int .i64 TT.kind, .slice A9 TT.set.length c9, .slice K9 TT.kids.length k9] TRx) := by rw [hw6]; exact Lib.hid (put3 rfl M5.out)
        have HG5 : Hid (w9.grownBy w6 (some (w.heap.size + 1))) := by rw [hw6]; exact grown_set (grown_set (grown_set (grown_refl _ _) _ _) _ _) _ _
        rw [← hw6]
        clear g0 g1 g2 f0 f1 f2 hw6
        refine hK.out _ _ (HC.out w6 (fun k hk hne => (HG5.out.block k (Nat.lt_of_lt_of_le hk B5.out.size) (fun e => hne (Option.some.inj e))).trans (B9.out.block k hk))) (fun hH => ?_)
        clear hK K
        try simp only [Act.put, List.getElem_toArray, List.getElem_cons_zero, List.getElem_cons_succ, List.setIfInBounds_toArray, List.set_cons_zero, List.set_cons_succ]
        refine wpAnyH_done (by kernel_rfl) ?_ _
        clear HC
        go_wp2_with fail
        refine bodyPost_ret (results_cell_row rfl _ _ (w.heap.size + 1) TRx _ (0, 0) _ rfl HX5.out.eq Tryz.underlying26 rfl (by rw [sizeRx]; rfl)) rfl ?_
        rw [E.out]
        exact rex_fin rfl rfl HP.out HV5.out (below_then HB.out B5.out) HG5.out (by omega)
  by_cases k4 : r.kind = 4
  · obtain ⟨x, y, ex, wx, wy⟩ := wf_kids2 hwf (by omega)
    have ekids : r.kids = [x, y] := by rw [ex]; rfl
    have hm2 : r.many = x.many + y.many + 1 := by rw [ex]; exact two_many _ x y
    obtain ⟨_, _, _, _, _, _, e2, _, hkk⟩ := HV.out.parts
    injection e2 with e3 e4 e5
    subst e3 e5
    rw [ekids] at hkk
    obtain ⟨ad, A1, c1, K1, dk1, A2, c2, K2, dk2, rfl, hx, x0, x1, x2, hy, y0, y1, y2⟩ := hkk.two
    have HX := Lib.hid hx
    have HY := Lib.hid hy
    have IHX : Hid (DvOk 61 x) := IH.out x (by rw [ekids]; simp)
    have IHY : Hid (DvOk 61 y) := IH.out y (by rw [ekids]; simp)
    have WX := Lib.hid wx
    have WY := Lib.hid wy
    have FX := Lib.hid (dv_fit b x wx)
    have FY := Lib.hid (dv_fit b y wy)
    have hds := dv_sum b wx wy (by omega)
    have hmx : x.many ≤ 120 := by omega
    have hmy : y.many ≤ 120 := by omega
    have hadp : p ad.block := hkk.ok ad rfl (by simp)
    have hadl : ad.block < w.heap.size := HP.out _ hadp
    rw [ekids] at n2
    simp only [List.length_cons, List.length_nil, Nat.zero_add] at n2
    have HC : Hid (∀ w' : World, (∀ k, k < wa.heap.size → k ≠ w.heap.size + 1 → w'.heap[k]? = wa.heap[k]?) → w'.cell? ⟨w.heap.size, 2, none⟩ = some (.slice (some ad) 2 ck) ∧ w'.cell? ad = some (.int .i64 x.kind) ∧ w'.cell? ⟨ad.block, ad.off + 1, none⟩ = some (.slice A1 x.set.length c1) ∧ w'.cell? ⟨ad.block, ad.off + 2, none⟩ = some (.slice K1 x.kids.length dk1) ∧
        w'.cell? ⟨ad.block, ad.off + 3, none⟩ = some (.int .i64 y.kind) ∧ w'.cell? ⟨ad.block, ad.off + 3 + 1, none⟩ = some (.slice A2 y.set.length c2) ∧ w'.cell? ⟨ad.block, ad.off + 3 + 2, none⟩ = some (.slice K2 y.kids.length dk2)) := fun w' hb =>
      have up : ∀ {q : Addr} {v : Value}, q.block ≠ w.heap.size + 1 → wa.cell? q = some v → w'.cell? q = some v := fun {q v} hne h => (World.cell?_of_block (w := wa) (hb _ (World.block_lt_of_cell? wa q h) hne)).trans h
      ⟨up (by show w.heap.size ≠ _; omega) n2, up (by omega) x0, up (by show ad.block ≠ _; omega) x1, up (by show ad.block ≠ _; omega) x2, up (by show ad.block ≠ _; omega) y0, up (by show ad.block ≠ _; omega) y1, up (by show ad.block ≠ _; omega) y2⟩
    have E : Hid (dv b r = nOr (dv b x) (dv b y)) := by show _ = _; rw [ex, k4]; exact dv_or b [] x y
    have d1 : (r.kind == 1) = false := by simp [k1]
    have d3 : (r.kind == 3) = false := by simp [k3]
    have d4 : (r.kind == 4) = true := by simp [k4]
    clear k1 k3 k4
    go_enter Tryz.func61, Tryz.ntmps61
    clear ex ekids e4 hx hy wx wy IH hwf hm2 hkk
    go_wp2_with fail
    clear hwa n0 n1 n2 x0 x1 x2 y0 y1 y2
    refine wp_region_held_drew (S := fun w' => w'.cell? ⟨w.heap.size, 2, none⟩ = some (.slice (some ad) 2 ck) ∧ w'.cell? ad = some (.int .i64 x.kind) ∧ w'.cell? ⟨ad.block, ad.off + 1, none⟩ = some (.slice A1 x.set.length c1) ∧ w'.cell? ⟨ad.block, ad.off + 2, none⟩ = some (.slice K1 x.kids.length dk1) ∧
        w'.cell? ⟨ad.block, ad.off + 3, none⟩ = some (.int .i64 y.kind) ∧ w'.cell? ⟨ad.block, ad.off + 3 + 1, none⟩ = some (.slice A2 y.set.length c2) ∧ w'.cell? ⟨ad.block, ad.off + 3 + 2, none⟩ = some (.slice K2 y.kids.length dk2)) (by kernel_rfl) (HC.out _ (fun k hk _ => (below_drew (Below.refl wa.heap.size wa)).block k hk)) (fun hHeld0 => ?_)
    refine wpAnyH_take (i := 0) (v := ?_) rfl (by kernel_rfl) (by kernel_rfl) (by kernel_rfl) (fun _ _ _ h => h) (Or.inl ⟨by rfl, ?_⟩) (by assumption) ?_
    rotate_left
    · (intro w hSw; (try dsimp only at hSw); go_simp; try with_reducible rfl)
    try simp only [Act.put, List.getElem_toArray, List.getElem_cons_zero, List.getElem_cons_succ, List.setIfInBounds_toArray, List.set_cons_zero, List.set_cons_succ]
    refine wpAnyH_take (i := 1) (v := ?_) rfl (by kernel_rfl) (by kernel_rfl) (by kernel_rfl) (fun _ _ _ h => h) (Or.inl ⟨by rfl, ?_⟩) (by assumption) ?_
    rotate_left
    · (intro w hSw; (try dsimp only at hSw); go_simp; try with_reducible rfl)
    try simp only [Act.put, List.getElem_toArray, List.getElem_cons_zero, List.getElem_cons_succ, List.setIfInBounds_toArray, List.set_cons_zero, List.set_cons_succ]
    refine wpAnyH_take (i := 2) (v := ?_) rfl (by kernel_rfl) (by kernel_rfl) (by kernel_rfl) (fun _ _ _ h => h) (Or.inl ⟨by rfl, ?_⟩) (by assumption) ?_
    rotate_left
    · (intro w hSw; (try dsimp only at hSw); go_simp; try with_reducible rfl)
    try simp only [Act.put, List.getElem_toArray, List.getElem_cons_zero, List.getElem_cons_succ, List.setIfInBounds_toArray, List.set_cons_zero, List.set_cons_succ]
    refine wpAnyH_take (i := 3) (v := ?_) rfl (by kernel_rfl) (by kernel_rfl) (by kernel_rfl) (fun _ _ _ h => h) (Or.inl ⟨by rfl, ?_⟩) (by assumption) ?_
    rotate_left
    · (intro w hSw; (try dsimp only at hSw); go_simp; try with_reducible rfl)
    try simp only [Act.put, List.getElem_toArray, List.getElem_cons_zero, List.getElem_cons_succ, List.setIfInBounds_toArray, List.set_cons_zero, List.set_cons_succ]
    refine wpAnyH_take (i := 4) (v := ?_) rfl (by kernel_rfl) (by kernel_rfl) (by kernel_rfl) (fun _ _ _ h => h) (Or.inl ⟨by rfl, ?_⟩) (by assumption) ?_
    rotate_left
    · (intro w hSw; (try dsimp only at hSw); go_simp; try with_reducible rfl)
    try simp only [Act.put, List.getElem_toArray, List.getElem_cons_zero, List.getElem_cons_succ, List.setIfInBounds_toArray, List.set_cons_zero, List.set_cons_succ]
    refine wpAnyH_take (i := 6) (v := ?_) rfl (by kernel_rfl) (by kernel_rfl) (by kernel_rfl) (fun _ _ _ h => h) (Or.inl ⟨by rfl, ?_⟩) (by assumption) ?_
    rotate_left
    · (intro w hSw; (try dsimp only at hSw); go_simp; try with_reducible rfl)
    try simp only [Act.put, List.getElem_toArray, List.getElem_cons_zero, List.getElem_cons_succ, List.setIfInBounds_toArray, List.set_cons_zero, List.set_cons_succ]
    refine wpAnyH_take (i := 7) (v := ?_) rfl (by kernel_rfl) (by kernel_rfl) (by kernel_rfl) (fun _ _ _ h => h) (Or.inl ⟨by rfl, ?_⟩) (by assumption) ?_
    rotate_left
    · (intro w hSw; (try dsimp only at hSw); go_simp; try with_reducible rfl)
    try simp only [Act.put, List.getElem_toArray, List.getElem_cons_zero, List.getElem_cons_succ, List.setIfInBounds_toArray, List.set_cons_zero, List.set_cons_succ]
    refine wpAnyH_take (i := 8) (v := ?_) rfl (by kernel_rfl) (by kernel_rfl) (by kernel_rfl) (fun _ _ _ h => h) (Or.inl ⟨by rfl, ?_⟩) (by assumption) ?_
    rotate_left
    · (intro w hSw; (try dsimp only at hSw); go_simp; try with_reducible rfl)
    try simp only [Act.put, List.getElem_toArray, List.getElem_cons_zero, List.getElem_cons_succ, List.setIfInBounds_toArray, List.set_cons_zero, List.set_cons_succ]
    refine wpAnyH_take (i := 9) (v := ?_) rfl (by kernel_rfl) (by kernel_rfl) (by kernel_rfl) (fun _ _ _ h => h) (Or.inl ⟨by rfl, ?_⟩) (by assumption) ?_
    rotate_left
    · (intro w hSw; (try dsimp only at hSw); go_simp; try with_reducible rfl)
    try simp only [Act.put, List.getElem_toArray, List.getElem_cons_zero, List.getElem_cons_succ, List.setIfInBounds_toArray, List.set_cons_zero, List.set_cons_succ]
    refine wpAnyH_take (i := 10) (v := ?_) rfl (by kernel_rfl) (by kernel_rfl) (by kernel_rfl) (fun _ _ _ h => h) (Or.inl ⟨by rfl, ?_⟩) (by assumption) ?_
    rotate_left
    · (intro w hSw; (try dsimp only at hSw); go_simp; try with_reducible rfl)
    try simp only [Act.put, List.getElem_toArray, List.getElem_cons_zero, List.getElem_cons_succ, List.setIfInBounds_toArray, List.set_cons_zero, List.set_cons_succ]
    have hdz := (below_drew (Below.refl wa.heap.size wa)).size
    have hwz := HB.out.size
    refine wpAnyH_ready (rs := [5]) (by kernel_rfl) (by simp) ?_
    refine AllReadyH.cons (o := ⟨some 49, _, _, _, _, _⟩) rfl (fun K hK => ?_) AllReadyH.nil
    go_simp
    refine (IHX.out b _ _ wa.drew p WX.out (HX.out.under (below_drew (Below.refl _ _))) (fun z hz => by have := HP.out z hz; omega) hmx (HPW.out.below (below_then HB.out (below_drew (Below.refl _ _))))).mono ?_
    rintro e w3 ⟨A3, c3, K3, k3, rfl, hv3, b3⟩
    have B3 := Lib.hid (below_then (below_drew (Below.refl wa.heap.size wa)) b3)
    have HV3 : Hid (RexP w3 (fun z => p z ∨ wa.heap.size ≤ z) (dv b x) (.int .i64 (dv b x).kind) (.slice A3 (dv b x).set.length c3) (.slice K3 (dv b x).kids.length k3)) := hv3.mono fun z hz => hz.imp id fun h => by omega
    clear hv3 b3
    (try go_wp2_with fail)
    refine hK.out _ _ (HC.out w3 (fun k hk _ => B3.out.block k hk)) (fun hHeld1 => ?_)
    clear hK K hHeld0
    try simp only [Act.put, List.getElem_toArray, List.getElem_cons_zero, List.getElem_cons_succ, List.setIfInBounds_toArray, List.set_cons_zero, List.set_cons_succ]
    have h3z := B3.out.size
    refine wpAnyH_ready (rs := [11]) (by kernel_rfl) (by simp) ?_
    refine AllReadyH.cons (o := ⟨some 55, _, _, _, _, _⟩) rfl (fun K hK => ?_) AllReadyH.nil
    go_simp
    refine (IHY.out b _ _ w3 p WY.out (HY.out.under B3.out) (fun z hz => by have := HP.out z hz; omega) hmy (HPW.out.below (below_then HB.out B3.out))).mono ?_
    rintro e w4 ⟨A4, c4, K4, k4, rfl, hv4, b4⟩
    have B4 := Lib.hid (below_then B3.out b4)
    have HV4 : Hid (RexP w4 (fun z => (p z ∨ wa.heap.size ≤ z) ∧ z < w4.heap.size) (dv b y) (.int .i64 (dv b y).kind) (.slice A4 (dv b y).set.length c4) (.slice K4 (dv b y).kids.length k4)) := hv4.lt.mono fun z hz => ⟨hz.1.imp id fun h => by omega, hz.2⟩
    have HV34 : Hid (RexP w4 (fun z => (p z ∨ wa.heap.size ≤ z) ∧ z < w4.heap.size) (dv b x) (.int .i64 (dv b x).kind) (.slice A3 (dv b x).set.length c3) (.slice K3 (dv b x).kids.length k3)) := (HV3.out.under b4).lt
    clear hv4 b4 HV3
    (try go_wp2_with fail)
    refine hK.out _ _ (HC.out w4 (fun k hk _ => B4.out.block k hk)) (fun hHeld2 => ?_)
    clear hK K hHeld1
    try simp only [Act.put, List.getElem_toArray, List.getElem_cons_zero, List.getElem_cons_succ, List.setIfInBounds_toArray, List.set_cons_zero, List.set_cons_succ]
    have h4z := B4.out.size
    refine wpAnyH_ready (rs := [12]) (by kernel_rfl) (by simp) ?_
    refine AllReadyH.cons (o := ⟨some 56, _, _, _, _, _⟩) rfl (fun K hK => ?_) AllReadyH.nil
    go_simp
    refine (sOr_r (dv b x) (dv b y) _ _ _ _ w4 _ FX.out.wf FY.out.wf HV34.out HV4.out (fun z hz => hz.2) (size_many (m := 0) FX.out.wf (by omega)) (size_many (m := 0) FY.out.wf (by omega)) (by omega) (HPW.out.below (below_then HB.out B4.out))).mono ?_
    rintro e w5 ⟨A5, c5, K5, k5, rfl, hv5, b5⟩
    obtain ⟨T, hT⟩ : ∃ z, z = nOr (dv b x) (dv b y) := ⟨_, rfl⟩
    rw [← hT] at hv5 E ⊢
    have B5 := Lib.hid (below_then B4.out b5)
    have HV5 : Hid (RexP w5 (fun z => z ≠ w.heap.size + 1 ∧ (p z ∨ w.heap.size ≤ z)) T (.int .i64 T.kind) (.slice A5 T.set.length c5) (.slice K5 T.kids.length k5)) := hv5.mono fun z hz => by
      have h0 := HZ.out
      rcases hz with ⟨h | h, _⟩ | h
      · exact ⟨fun e => by have := HP.out z h; omega, .inl h⟩
      · exact ⟨by omega, .inr (by omega)⟩
      · exact ⟨by omega, .inr (by omega)⟩
    have M5 := Lib.hid (M1.out.below B5.out)
    clear hv5 b5 HV34 HV4 hT
    (try go_wp2_with fail)
    refine hK.out _ _ (HC.out w5 (fun k hk _ => B5.out.block k hk)) (fun hHeld3 => ?_)
    clear hK K hHeld2
    try simp only [Act.put, List.getElem_toArray, List.getElem_cons_zero, List.getElem_cons_succ, List.setIfInBounds_toArray, List.set_cons_zero, List.set_cons_succ]
    have g0 : w5.cell? ⟨w.heap.size + 1, 0, none⟩ = some (.int .i64 0) := by rw [M5.out.cell]; rfl
    have g1 : w5.cell? ⟨w.heap.size + 1, 1, none⟩ = some nilS := by rw [M5.out.cell]; rfl
    have g2 : w5.cell? ⟨w.heap.size + 1, 2, none⟩ = some nilS := by rw [M5.out.cell]; rfl
    have f0 : w5.frozen? ⟨w.heap.size + 1, 0, none⟩ = false := M5.out.free 0
    have f1 : w5.frozen? ⟨w.heap.size + 1, 1, none⟩ = false := M5.out.free 1
    have f2 : w5.frozen? ⟨w.heap.size + 1, 2, none⟩ = false := M5.out.free 2
    refine wpAnyH_ready (rs := [13]) (by kernel_rfl) (by simp) ?_
    refine AllReadyH.cons (o := ⟨none, _, _, _, _, _⟩) rfl (fun K hK => ?_) AllReadyH.nil
    go_simp
    obtain ⟨w6, hw6⟩ : ∃ z : World, z = ((w5.setCell ⟨w.heap.size + 1, 0, none⟩ (.int .i64 T.kind)).setCell ⟨w.heap.size + 1, 1, none⟩ (.slice A5 T.set.length c5)).setCell ⟨w.heap.size + 1, 2, none⟩ (.slice K5 T.kids.length k5) := ⟨_, rfl⟩
    have HX5 : Hid (Blk w6 (w.heap.size + 1) #[.int .i64 T.kind, .slice A5 T.set.length c5, .slice K5 T.kids.length k5] TRx) := by rw [hw6]; exact Lib.hid (put3 rfl M5.out)
    have HG5 : Hid (w5.grownBy w6 (some (w.heap.size + 1))) := by rw [hw6]; exact grown_set (grown_set (grown_set (grown_refl _ _) _ _) _ _) _ _
    rw [← hw6]
    clear g0 g1 g2 f0 f1 f2 hw6
    refine hK.out _ _ (HC.out w6 (fun k hk hne => (HG5.out.block k (Nat.lt_of_lt_of_le hk B5.out.size) (fun e => hne (Option.some.inj e))).trans (B5.out.block k hk))) (fun hH => ?_)
    clear hK K
    try simp only [Act.put, List.getElem_toArray, List.getElem_cons_zero, List.getElem_cons_succ, List.setIfInBounds_toArray, List.set_cons_zero, List.set_cons_succ]
    refine wpAnyH_done (by kernel_rfl) ?_ _
    clear HC
    go_wp2_with fail
    refine bodyPost_ret (results_cell_row rfl _ _ (w.heap.size + 1) TRx _ (0, 0) _ rfl HX5.out.eq Tryz.underlying26 rfl (by rw [sizeRx]; rfl)) rfl ?_
    rw [E.out]
    exact rex_fin rfl rfl HP.out HV5.out (below_then HB.out B5.out) HG5.out (by omega)
  by_cases k6 : r.kind = 6
  · obtain ⟨x, y, ex, wx, wy⟩ := wf_kids2 hwf (by omega)
    have ekids : r.kids = [x, y] := by rw [ex]; rfl
    have hm2 : r.many = x.many + y.many + 1 := by rw [ex]; exact two_many _ x y
    obtain ⟨_, _, _, _, _, _, e2, _, hkk⟩ := HV.out.parts
    injection e2 with e3 e4 e5
    subst e3 e5
    rw [ekids] at hkk
    obtain ⟨ad, A1, c1, K1, dk1, A2, c2, K2, dk2, rfl, hx, x0, x1, x2, hy, y0, y1, y2⟩ := hkk.two
    have HX := Lib.hid hx
    have HY := Lib.hid hy
    have IHX : Hid (DvOk 61 x) := IH.out x (by rw [ekids]; simp)
    have IHY : Hid (DvOk 61 y) := IH.out y (by rw [ekids]; simp)
    have WX := Lib.hid wx
    have WY := Lib.hid wy
    have FX := Lib.hid (dv_fit b x wx)
    have FY := Lib.hid (dv_fit b y wy)
    have hds := dv_sum b wx wy (by omega)
    have hmx : x.many ≤ 120 := by omega
    have hmy : y.many ≤ 120 := by omega
    have hadp : p ad.block := hkk.ok ad rfl (by simp)
    have hadl : ad.block < w.heap.size := HP.out _ hadp
    rw [ekids] at n2
    simp only [List.length_cons, List.length_nil, Nat.zero_add] at n2
    have HC : Hid (∀ w' : World, (∀ k, k < wa.heap.size → k ≠ w.heap.size + 1 → w'.heap[k]? = wa.heap[k]?) → w'.cell? ⟨w.heap.size, 2, none⟩ = some (.slice (some ad) 2 ck) ∧ w'.cell? ad = some (.int .i64 x.kind) ∧ w'.cell? ⟨ad.block, ad.off + 1, none⟩ = some (.slice A1 x.set.length c1) ∧ w'.cell? ⟨ad.block, ad.off + 2, none⟩ = some (.slice K1 x.kids.length dk1) ∧
        w'.cell? ⟨ad.block, ad.off + 3, none⟩ = some (.int .i64 y.kind) ∧ w'.cell? ⟨ad.block, ad.off + 3 + 1, none⟩ = some (.slice A2 y.set.length c2) ∧ w'.cell? ⟨ad.block, ad.off + 3 + 2, none⟩ = some (.slice K2 y.kids.length dk2)) := fun w' hb =>
      have up : ∀ {q : Addr} {v : Value}, q.block ≠ w.heap.size + 1 → wa.cell? q = some v → w'.cell? q = some v := fun {q v} hne h => (World.cell?_of_block (w := wa) (hb _ (World.block_lt_of_cell? wa q h) hne)).trans h
      ⟨up (by show w.heap.size ≠ _; omega) n2, up (by omega) x0, up (by show ad.block ≠ _; omega) x1, up (by show ad.block ≠ _; omega) x2, up (by show ad.block ≠ _; omega) y0, up (by show ad.block ≠ _; omega) y1, up (by show ad.block ≠ _; omega) y2⟩
    have E : Hid (dv b r = nAnd (dv b x) (dv b y)) := by show _ = _; rw [ex, k6]; exact dv_and b [] x y
    have d1 : (r.kind == 1) = false := by simp [k1]
    have d3 : (r.kind == 3) = false := by simp [k3]
    have d4 : (r.kind == 4) = false := by simp [k4]
    have d6 : (r.kind == 6) = true := by simp [k6]
    clear k1 k3 k4 k6
    go_enter Tryz.func61, Tryz.ntmps61
    clear ex ekids e4 hx hy wx wy IH hwf hm2 hkk
    go_wp2_with fail
    clear hwa n0 n1 n2 x0 x1 x2 y0 y1 y2
    refine wp_region_held_drew (S := fun w' => w'.cell? ⟨w.heap.size, 2, none⟩ = some (.slice (some ad) 2 ck) ∧ w'.cell? ad = some (.int .i64 x.kind) ∧ w'.cell? ⟨ad.block, ad.off + 1, none⟩ = some (.slice A1 x.set.length c1) ∧ w'.cell? ⟨ad.block, ad.off + 2, none⟩ = some (.slice K1 x.kids.length dk1) ∧
        w'.cell? ⟨ad.block, ad.off + 3, none⟩ = some (.int .i64 y.kind) ∧ w'.cell? ⟨ad.block, ad.off + 3 + 1, none⟩ = some (.slice A2 y.set.length c2) ∧ w'.cell? ⟨ad.block, ad.off + 3 + 2, none⟩ = some (.slice K2 y.kids.length dk2)) (by kernel_rfl) (HC.out _ (fun k hk _ => (below_drew (Below.refl wa.heap.size wa)).block k hk)) (fun hHeld0 => ?_)
    refine wpAnyH_take (i := 0) (v := ?_) rfl (by kernel_rfl) (by kernel_rfl) (by kernel_rfl) (fun _ _ _ h => h) (Or.inl ⟨by rfl, ?_⟩) (by assumption) ?_
    rotate_left
    · (intro w hSw; (try dsimp only at hSw); go_simp; try with_reducible rfl)
    try simp only [Act.put, List.getElem_toArray, List.getElem_cons_zero, List.getElem_cons_succ, List.setIfInBounds_toArray, List.set_cons_zero, List.set_cons_succ]
    refine wpAnyH_take (i := 1) (v := ?_) rfl (by kernel_rfl) (by kernel_rfl) (by kernel_rfl) (fun _ _ _ h => h) (Or.inl ⟨by rfl, ?_⟩) (by assumption) ?_
    rotate_left
    · (intro w hSw; (try dsimp only at hSw); go_simp; try with_reducible rfl)
    try simp only [Act.put, List.getElem_toArray, List.getElem_cons_zero, List.getElem_cons_succ, List.setIfInBounds_toArray, List.set_cons_zero, List.set_cons_succ]
    refine wpAnyH_take (i := 2) (v := ?_) rfl (by kernel_rfl) (by kernel_rfl) (by kernel_rfl) (fun _ _ _ h => h) (Or.inl ⟨by rfl, ?_⟩) (by assumption) ?_
    rotate_left
    · (intro w hSw; (try dsimp only at hSw); go_simp; try with_reducible rfl)
    try simp only [Act.put, List.getElem_toArray, List.getElem_cons_zero, List.getElem_cons_succ, List.setIfInBounds_toArray, List.set_cons_zero, List.set_cons_succ]
    refine wpAnyH_take (i := 3) (v := ?_) rfl (by kernel_rfl) (by kernel_rfl) (by kernel_rfl) (fun _ _ _ h => h) (Or.inl ⟨by rfl, ?_⟩) (by assumption) ?_
    rotate_left
    · (intro w hSw; (try dsimp only at hSw); go_simp; try with_reducible rfl)
    try simp only [Act.put, List.getElem_toArray, List.getElem_cons_zero, List.getElem_cons_succ, List.setIfInBounds_toArray, List.set_cons_zero, List.set_cons_succ]
    refine wpAnyH_take (i := 4) (v := ?_) rfl (by kernel_rfl) (by kernel_rfl) (by kernel_rfl) (fun _ _ _ h => h) (Or.inl ⟨by rfl, ?_⟩) (by assumption) ?_
    rotate_left
    · (intro w hSw; (try dsimp only at hSw); go_simp; try with_reducible rfl)
    try simp only [Act.put, List.getElem_toArray, List.getElem_cons_zero, List.getElem_cons_succ, List.setIfInBounds_toArray, List.set_cons_zero, List.set_cons_succ]
    refine wpAnyH_take (i := 6) (v := ?_) rfl (by kernel_rfl) (by kernel_rfl) (by kernel_rfl) (fun _ _ _ h => h) (Or.inl ⟨by rfl, ?_⟩) (by assumption) ?_
    rotate_left
    · (intro w hSw; (try dsimp only at hSw); go_simp; try with_reducible rfl)
    try simp only [Act.put, List.getElem_toArray, List.getElem_cons_zero, List.getElem_cons_succ, List.setIfInBounds_toArray, List.set_cons_zero, List.set_cons_succ]
    refine wpAnyH_take (i := 7) (v := ?_) rfl (by kernel_rfl) (by kernel_rfl) (by kernel_rfl) (fun _ _ _ h => h) (Or.inl ⟨by rfl, ?_⟩) (by assumption) ?_
    rotate_left
    · (intro w hSw; (try dsimp only at hSw); go_simp; try with_reducible rfl)
    try simp only [Act.put, List.getElem_toArray, List.getElem_cons_zero, List.getElem_cons_succ, List.setIfInBounds_toArray, List.set_cons_zero, List.set_cons_succ]
    refine wpAnyH_take (i := 8) (v := ?_) rfl (by kernel_rfl) (by kernel_rfl) (by kernel_rfl) (fun _ _ _ h => h) (Or.inl ⟨by rfl, ?_⟩) (by assumption) ?_
    rotate_left
    · (intro w hSw; (try dsimp only at hSw); go_simp; try with_reducible rfl)
    try simp only [Act.put, List.getElem_toArray, List.getElem_cons_zero, List.getElem_cons_succ, List.setIfInBounds_toArray, List.set_cons_zero, List.set_cons_succ]
    refine wpAnyH_take (i := 9) (v := ?_) rfl (by kernel_rfl) (by kernel_rfl) (by kernel_rfl) (fun _ _ _ h => h) (Or.inl ⟨by rfl, ?_⟩) (by assumption) ?_
    rotate_left
    · (intro w hSw; (try dsimp only at hSw); go_simp; try with_reducible rfl)
    try simp only [Act.put, List.getElem_toArray, List.getElem_cons_zero, List.getElem_cons_succ, List.setIfInBounds_toArray, List.set_cons_zero, List.set_cons_succ]
    refine wpAnyH_take (i := 10) (v := ?_) rfl (by kernel_rfl) (by kernel_rfl) (by kernel_rfl) (fun _ _ _ h => h) (Or.inl ⟨by rfl, ?_⟩) (by assumption) ?_
    rotate_left
    · (intro w hSw; (try dsimp only at hSw); go_simp; try with_reducible rfl)
    try simp only [Act.put, List.getElem_toArray, List.getElem_cons_zero, List.getElem_cons_succ, List.setIfInBounds_toArray, List.set_cons_zero, List.set_cons_succ]
    have hdz := (below_drew (Below.refl wa.heap.size wa)).size
    have hwz := HB.out.size
    refine wpAnyH_ready (rs := [5]) (by kernel_rfl) (by simp) ?_
    refine AllReadyH.cons (o := ⟨some 64, _, _, _, _, _⟩) rfl (fun K hK => ?_) AllReadyH.nil
    go_simp
    refine (IHX.out b _ _ wa.drew p WX.out (HX.out.under (below_drew (Below.refl _ _))) (fun z hz => by have := HP.out z hz; omega) hmx (HPW.out.below (below_then HB.out (below_drew (Below.refl _ _))))).mono ?_
    rintro e w3 ⟨A3, c3, K3, k3, rfl, hv3, b3⟩
    have B3 := Lib.hid (below_then (below_drew (Below.refl wa.heap.size wa)) b3)
    have HV3 : Hid (RexP w3 (fun z => p z ∨ wa.heap.size ≤ z) (dv b x) (.int .i64 (dv b x).kind) (.slice A3 (dv b x).set.length c3) (.slice K3 (dv b x).kids.length k3)) := hv3.mono fun z hz => hz.imp id fun h => by omega
    clear hv3 b3
    (try go_wp2_with fail)
    refine hK.out _ _ (HC.out w3 (fun k hk _ => B3.out.block k hk)) (fun hHeld1 => ?_)
    clear hK K hHeld0
    try simp only [Act.put, List.getElem_toArray, List.getElem_cons_zero, List.getElem_cons_succ, List.setIfInBounds_toArray, List.set_cons_zero, List.set_cons_succ]
    have h3z := B3.out.size
    refine wpAnyH_ready (rs := [11]) (by kernel_rfl) (by simp) ?_
    refine AllReadyH.cons (o := ⟨some 70, _, _, _, _, _⟩) rfl (fun K hK => ?_) AllReadyH.nil
    go_simp
    refine (IHY.out b _ _ w3 p WY.out (HY.out.under B3.out) (fun z hz => by have := HP.out z hz; omega) hmy (HPW.out.below (below_then HB.out B3.out))).mono ?_
    rintro e w4 ⟨A4, c4, K4, k4, rfl, hv4, b4⟩
    have B4 := Lib.hid (below_then B3.out b4)
    have HV4 : Hid (RexP w4 (fun z => (p z ∨ wa.heap.size ≤ z) ∧ z < w4.heap.size) (dv b y) (.int .i64 (dv b y).kind) (.slice A4 (dv b y).set.length c4) (.slice K4 (dv b y).kids.length k4)) := hv4.lt.mono fun z hz => ⟨hz.1.imp id fun h => by omega, hz.2⟩
    have HV34 : Hid (RexP w4 (fun z => (p z ∨ wa.heap.size ≤ z) ∧ z < w4.heap.size) (dv b x) (.int .i64 (dv b x).kind) (.slice A3 (dv b x).set.length c3) (.slice K3 (dv b x).kids.length k3)) := (HV3.out.under b4).lt
    clear hv4 b4 HV3
    (try go_wp2_with fail)
    refine hK.out _ _ (HC.out w4 (fun k hk _ => B4.out.block k hk)) (fun hHeld2 => ?_)
    clear hK K hHeld1
    try simp only [Act.put, List.getElem_toArray, List.getElem_cons_zero, List.getElem_cons_succ, List.setIfInBounds_toArray, List.set_cons_zero, List.set_cons_succ]
    have h4z := B4.out.size
    refine wpAnyH_ready (rs := [12]) (by kernel_rfl) (by simp) ?_
    refine AllReadyH.cons (o := ⟨some 71, _, _, _, _, _⟩) rfl (fun K hK => ?_) AllReadyH.nil
    go_simp
    refine (sAnd_r (dv b x) (dv b y) _ _ _ _ w4 _ FX.out.wf FY.out.wf HV34.out HV4.out (fun z hz => hz.2) (size_many (m := 0) FX.out.wf (by omega)) (size_many (m := 0) FY.out.wf (by omega)) (by omega) (HPW.out.below (below_then HB.out B4.out))).mono ?_
    rintro e w5 ⟨A5, c5, K5, k5, rfl, hv5, b5⟩
    obtain ⟨T, hT⟩ : ∃ z, z = nAnd (dv b x) (dv b y) := ⟨_, rfl⟩
    rw [← hT] at hv5 E ⊢
    have B5 := Lib.hid (below_then B4.out b5)
    have HV5 : Hid (RexP w5 (fun z => z ≠ w.heap.size + 1 ∧ (p z ∨ w.heap.size ≤ z)) T (.int .i64 T.kind) (.slice A5 T.set.length c5) (.slice K5 T.kids.length k5)) := hv5.mono fun z hz => by
      have h0 := HZ.out
      rcases hz with ⟨h | h, _⟩ | h
      · exact ⟨fun e => by have := HP.out z h; omega, .inl h⟩
      · exact ⟨by omega, .inr (by omega)⟩
      · exact ⟨by omega, .inr (by omega)⟩
    have M5 := Lib.hid (M1.out.below B5.out)
    clear hv5 b5 HV34 HV4 hT
    (try go_wp2_with fail)
    refine hK.out _ _ (HC.out w5 (fun k hk _ => B5.out.block k hk)) (fun hHeld3 => ?_)
    clear hK K hHeld2
    try simp only [Act.put, List.getElem_toArray, List.getElem_cons_zero, List.getElem_cons_succ, List.setIfInBounds_toArray, List.set_cons_zero, List.set_cons_succ]
    have g0 : w5.cell? ⟨w.heap.size + 1, 0, none⟩ = some (.int .i64 0) := by rw [M5.out.cell]; rfl
    have g1 : w5.cell? ⟨w.heap.size + 1, 1, none⟩ = some nilS := by rw [M5.out.cell]; rfl
    have g2 : w5.cell? ⟨w.heap.size + 1, 2, none⟩ = some nilS := by rw [M5.out.cell]; rfl
    have f0 : w5.frozen? ⟨w.heap.size + 1, 0, none⟩ = false := M5.out.free 0
    have f1 : w5.frozen? ⟨w.heap.size + 1, 1, none⟩ = false := M5.out.free 1
    have f2 : w5.frozen? ⟨w.heap.size + 1, 2, none⟩ = false := M5.out.free 2
    refine wpAnyH_ready (rs := [13]) (by kernel_rfl) (by simp) ?_
    refine AllReadyH.cons (o := ⟨none, _, _, _, _, _⟩) rfl (fun K hK => ?_) AllReadyH.nil
    go_simp
    obtain ⟨w6, hw6⟩ : ∃ z : World, z = ((w5.setCell ⟨w.heap.size + 1, 0, none⟩ (.int .i64 T.kind)).setCell ⟨w.heap.size + 1, 1, none⟩ (.slice A5 T.set.length c5)).setCell ⟨w.heap.size + 1, 2, none⟩ (.slice K5 T.kids.length k5) := ⟨_, rfl⟩
    have HX5 : Hid (Blk w6 (w.heap.size + 1) #[.int .i64 T.kind, .slice A5 T.set.length c5, .slice K5 T.kids.length k5] TRx) := by rw [hw6]; exact Lib.hid (put3 rfl M5.out)
    have HG5 : Hid (w5.grownBy w6 (some (w.heap.size + 1))) := by rw [hw6]; exact grown_set (grown_set (grown_set (grown_refl _ _) _ _) _ _) _ _
    rw [← hw6]
    clear g0 g1 g2 f0 f1 f2 hw6
    refine hK.out _ _ (HC.out w6 (fun k hk hne => (HG5.out.block k (Nat.lt_of_lt_of_le hk B5.out.size) (fun e => hne (Option.some.inj e))).trans (B5.out.block k hk))) (fun hH => ?_)
    clear hK K
    try simp only [Act.put, List.getElem_toArray, List.getElem_cons_zero, List.getElem_cons_succ, List.setIfInBounds_toArray, List.set_cons_zero, List.set_cons_succ]
    refine wpAnyH_done (by kernel_rfl) ?_ _
    clear HC
    go_wp2_with fail
    refine bodyPost_ret (results_cell_row rfl _ _ (w.heap.size + 1) TRx _ (0, 0) _ rfl HX5.out.eq Tryz.underlying26 rfl (by rw [sizeRx]; rfl)) rfl ?_
    rw [E.out]
    exact rex_fin rfl rfl HP.out HV5.out (below_then HB.out B5.out) HG5.out (by omega)
  by_cases k5 : r.kind = 5
  · obtain ⟨x, ex, wx⟩ := wf_kids1 hwf (by omega)
    have ekids : r.kids = [x] := by rw [ex]; rfl
    have hm2 : r.many = x.many + 1 := by rw [ex]; simp [Rex.many, manyL]; omega
    obtain ⟨_, _, _, _, _, _, e2, _, hkk⟩ := HV.out.parts
    injection e2 with e3 e4 e5
    subst e3 e5
    rw [ekids] at hkk
    obtain ⟨ad, A1, c1, K1, dk1, rfl, hx, x0, x1, x2⟩ := hkk.one
    have HX := Lib.hid hx
    have IHX : Hid (DvOk 61 x) := IH.out x (by rw [ekids]; simp)
    have WX := Lib.hid wx
    have FX := Lib.hid (dv_fit b x wx)
    have hmx : x.many ≤ 120 := by omega
    have hdx : (dv b x).many ≤ 7380 := dv_120 b wx (Nat.le_refl _) hmx
    have hadp : p ad.block := hkk.ok ad rfl (by simp)
    have hadl : ad.block < w.heap.size := HP.out _ hadp
    rw [ekids] at n2 HV
    simp only [List.length_cons, List.length_nil, Nat.zero_add] at n2 HV
    have E : Hid (dv b r = nCat (dv b x) r) := by show _ = _; rw [ex, k5]; exact dv_star b [] x
    have d1 : (r.kind == 1) = false := by simp [k1]
    have d3 : (r.kind == 3) = false := by simp [k3]
    have d4 : (r.kind == 4) = false := by simp [k4]
    have d6 : (r.kind == 6) = false := by simp [k6]
    have d5 : (r.kind == 5) = true := by simp [k5]
    clear k1 k3 k4 k6 k5
    go_enter Tryz.func61, Tryz.ntmps61
    have WR := Lib.hid hwf
    have hmr : r.many ≤ 121 := by omega
    have HC : Hid (∀ w' : World, (∀ k, k < wa.heap.size → k ≠ w.heap.size + 1 → w'.heap[k]? = wa.heap[k]?) → w'.cell? ⟨w.heap.size, 0, none⟩ = some (.int .i64 r.kind) ∧ w'.cell? ⟨w.heap.size, 1, none⟩ = some (.slice A r.set.length c) ∧ w'.cell? ⟨w.heap.size, 2, none⟩ = some (.slice (some ad) 1 ck) ∧ w'.cell? ad = some (.int .i64 x.kind) ∧ w'.cell? ⟨ad.block, ad.off + 1, none⟩ = some (.slice A1 x.set.length c1) ∧ w'.cell? ⟨ad.block, ad.off + 2, none⟩ = some (.slice K1 x.kids.length dk1)) := fun w' hb =>
      have up : ∀ {q : Addr} {v : Value}, q.block ≠ w.heap.size + 1 → wa.cell? q = some v → w'.cell? q = some v := fun {q v} hne h => (World.cell?_of_block (w := wa) (hb _ (World.block_lt_of_cell? wa q h) hne)).trans h
      ⟨up (by show w.heap.size ≠ _; omega) n0, up (by show w.heap.size ≠ _; omega) n1, up (by show w.heap.size ≠ _; omega) n2, up (by omega) x0, up (by show ad.block ≠ _; omega) x1, up (by show ad.block ≠ _; omega) x2⟩
    clear ex ekids e4 hx wx IH hwf hm2 hkk
    go_wp2_with fail
    clear hwa n0 n1 n2 x0 x1 x2
    have bd := below_drew (Below.refl wa.heap.size wa)
    have hwz := HB.out.size
    have hdz := bd.size
    refine wp_region_held_drew (S := fun w' => w'.cell? ⟨w.heap.size, 0, none⟩ = some (.int .i64 r.kind) ∧ w'.cell? ⟨w.heap.size, 1, none⟩ = some (.slice A r.set.length c) ∧ w'.cell? ⟨w.heap.size, 2, none⟩ = some (.slice (some ad) 1 ck) ∧ w'.cell? ad = some (.int .i64 x.kind) ∧ w'.cell? ⟨ad.block, ad.off + 1, none⟩ = some (.slice A1 x.set.length c1) ∧ w'.cell? ⟨ad.block, ad.off + 2, none⟩ = some (.slice K1 x.kids.length dk1)) (by kernel_rfl) (HC.out _ fun k hk _ => bd.block k hk) (fun hHeld0 => ?_)
    refine wpAnyH_take (i := 0) (v := ?_) rfl (by kernel_rfl) (by kernel_rfl) (by kernel_rfl) (fun _ _ _ h => h) (Or.inl ⟨by rfl, ?_⟩) (by assumption) ?_
    rotate_left
    · (intro w hSw; (try dsimp only at hSw); go_simp; try with_reducible rfl)
    try simp only [Act.put, List.getElem_toArray, List.getElem_cons_zero, List.getElem_cons_succ, List.setIfInBounds_toArray, List.set_cons_zero, List.set_cons_succ]
    refine wpAnyH_take (i := 1) (v := ?_) rfl (by kernel_rfl) (by kernel_rfl) (by kernel_rfl) (fun _ _ _ h => h) (Or.inl ⟨by rfl, ?_⟩) (by assumption) ?_
    rotate_left
    · (intro w hSw; (try dsimp only at hSw); go_simp; try with_reducible rfl)
    try simp only [Act.put, List.getElem_toArray, List.getElem_cons_zero, List.getElem_cons_succ, List.setIfInBounds_toArray, List.set_cons_zero, List.set_cons_succ]
    refine wpAnyH_take (i := 2) (v := ?_) rfl (by kernel_rfl) (by kernel_rfl) (by kernel_rfl) (fun _ _ _ h => h) (Or.inl ⟨by rfl, ?_⟩) (by assumption) ?_
    rotate_left
    · (intro w hSw; (try dsimp only at hSw); go_simp; try with_reducible rfl)
    try simp only [Act.put, List.getElem_toArray, List.getElem_cons_zero, List.getElem_cons_succ, List.setIfInBounds_toArray, List.set_cons_zero, List.set_cons_succ]
    refine wpAnyH_take (i := 3) (v := ?_) rfl (by kernel_rfl) (by kernel_rfl) (by kernel_rfl) (fun _ _ _ h => h) (Or.inl ⟨by rfl, ?_⟩) (by assumption) ?_
    rotate_left
    · (intro w hSw; (try dsimp only at hSw); go_simp; try with_reducible rfl)
    try simp only [Act.put, List.getElem_toArray, List.getElem_cons_zero, List.getElem_cons_succ, List.setIfInBounds_toArray, List.set_cons_zero, List.set_cons_succ]
    refine wpAnyH_take (i := 4) (v := ?_) rfl (by kernel_rfl) (by kernel_rfl) (by kernel_rfl) (fun _ _ _ h => h) (Or.inl ⟨by rfl, ?_⟩) (by assumption) ?_
    rotate_left
    · (intro w hSw; (try dsimp only at hSw); go_simp; try with_reducible rfl)
    try simp only [Act.put, List.getElem_toArray, List.getElem_cons_zero, List.getElem_cons_succ, List.setIfInBounds_toArray, List.set_cons_zero, List.set_cons_succ]
    refine wpAnyH_take (i := 6) (v := ?_) rfl (by kernel_rfl) (by kernel_rfl) (by kernel_rfl) (fun _ _ _ h => h) (Or.inl ⟨by rfl, ?_⟩) (by assumption) ?_
    rotate_left
    · (intro w hSw; (try dsimp only at hSw); go_simp; try with_reducible rfl)
    try simp only [Act.put, List.getElem_toArray, List.getElem_cons_zero, List.getElem_cons_succ, List.setIfInBounds_toArray, List.set_cons_zero, List.set_cons_succ]
    refine wpAnyH_ready (rs := [5]) (by kernel_rfl) (by simp) ?_
    refine AllReadyH.cons (o := ⟨some 79, _, _, _, _, _⟩) rfl (fun K hK => ?_) AllReadyH.nil
    go_simp
    refine (IHX.out b _ _ wa.drew p WX.out (HX.out.under bd) (fun z hz => by have := HP.out z hz; omega) hmx (HPW.out.below (below_then HB.out bd))).mono ?_
    rintro e w3 ⟨A3, c3, K3, k3, rfl, hv3, b3⟩
    have B3 := Lib.hid (below_then bd b3)
    have HV3 : Hid (RexP w3 (fun z => (p z ∨ wa.heap.size ≤ z) ∧ z < w3.heap.size) (dv b x) (.int .i64 (dv b x).kind) (.slice A3 (dv b x).set.length c3) (.slice K3 (dv b x).kids.length k3)) := Lib.hid (hv3.lt.mono fun z hz => ⟨hz.1.imp id fun h => by omega, hz.2⟩)
    have h3z := b3.size
    clear hv3 b3
    (try go_wp2_with fail)
    refine hK.out _ _ (HC.out w3 (fun k hk _ => B3.out.block k hk)) (fun hHeld1 => ?_)
    clear hK K hHeld0
    try simp only [Act.put, List.getElem_toArray, List.getElem_cons_zero, List.getElem_cons_succ, List.setIfInBounds_toArray, List.set_cons_zero, List.set_cons_succ]
    refine wpAnyH_ready (rs := [7]) (by kernel_rfl) (by simp) ?_
    refine AllReadyH.cons (o := ⟨some 81, _, _, _, _, _⟩) rfl (fun K hK => ?_) AllReadyH.nil
    go_simp
    refine (sCat_r (dv b x) r _ _ _ _ w3 _ FX.out.wf WR.out HV3.out ((HV.out.under B3.out).mono fun z hz => ⟨.inl hz, by have := HP.out z hz; omega⟩) (fun z hz => hz.2) (size_many (m := 0) FX.out.wf (by omega)) (size_many (m := 0) WR.out (by omega)) (by omega) (HPW.out.below (below_then HB.out B3.out))).mono ?_
    rintro e w5 ⟨A5, c5, K5, k5, rfl, hv5, b5⟩
    obtain ⟨T, hT⟩ : ∃ z, z = nCat (dv b x) r := ⟨_, rfl⟩
    rw [← hT] at hv5 E ⊢
    have B5 := Lib.hid (below_then B3.out b5)
    have HV5 : Hid (RexP w5 (fun z => z ≠ w.heap.size + 1 ∧ (p z ∨ w.heap.size ≤ z)) T (.int .i64 T.kind) (.slice A5 T.set.length c5) (.slice K5 T.kids.length k5)) := hv5.mono fun z hz => by
      have h0 := HZ.out
      rcases hz with ⟨h | h, _⟩ | h
      · exact ⟨fun e => by have := HP.out z h; omega, .inl h⟩
      · exact ⟨by omega, .inr (by omega)⟩
      · exact ⟨by omega, .inr (by omega)⟩
    have M5 := Lib.hid (M1.out.below B5.out)
    clear hv5 b5 HV3 hT
    (try go_wp2_with fail)
    refine hK.out _ _ (HC.out w5 (fun k hk _ => B5.out.block k hk)) (fun hH => ?_)
    clear hK K
    try simp only [Act.put, List.getElem_toArray, List.getElem_cons_zero, List.getElem_cons_succ, List.setIfInBounds_toArray, List.set_cons_zero, List.set_cons_succ]
    have g0 : w5.cell? ⟨w.heap.size + 1, 0, none⟩ = some (.int .i64 0) := by rw [M5.out.cell]; rfl
    have g1 : w5.cell? ⟨w.heap.size + 1, 1, none⟩ = some nilS := by rw [M5.out.cell]; rfl
    have g2 : w5.cell? ⟨w.heap.size + 1, 2, none⟩ = some nilS := by rw [M5.out.cell]; rfl
    have f0 : w5.frozen? ⟨w.heap.size + 1, 0, none⟩ = false := M5.out.free 0
    have f1 : w5.frozen? ⟨w.heap.size + 1, 1, none⟩ = false := M5.out.free 1
    have f2 : w5.frozen? ⟨w.heap.size + 1, 2, none⟩ = false := M5.out.free 2
    refine wpAnyH_ready (rs := [8]) (by kernel_rfl) (by simp) ?_
    refine AllReadyH.cons (o := ⟨none, _, _, _, _, _⟩) rfl (fun K hK => ?_) AllReadyH.nil
    go_simp
    obtain ⟨w6, hw6⟩ : ∃ z : World, z = ((w5.setCell ⟨w.heap.size + 1, 0, none⟩ (.int .i64 T.kind)).setCell ⟨w.heap.size + 1, 1, none⟩ (.slice A5 T.set.length c5)).setCell ⟨w.heap.size + 1, 2, none⟩ (.slice K5 T.kids.length k5) := ⟨_, rfl⟩
    have HX5 : Hid (Blk w6 (w.heap.size + 1) #[.int .i64 T.kind, .slice A5 T.set.length c5, .slice K5 T.kids.length k5] TRx) := by rw [hw6]; exact Lib.hid (put3 rfl M5.out)
    have HG5 : Hid (w5.grownBy w6 (some (w.heap.size + 1))) := by rw [hw6]; exact grown_set (grown_set (grown_set (grown_refl _ _) _ _) _ _) _ _
    rw [← hw6]
    clear g0 g1 g2 f0 f1 f2 hw6
    refine hK.out _ _ (HC.out w6 (fun k hk hne => (HG5.out.block k (Nat.lt_of_lt_of_le hk B5.out.size) (fun e => hne (Option.some.inj e))).trans (B5.out.block k hk))) (fun hH => ?_)
    clear hK K
    try simp only [Act.put, List.getElem_toArray, List.getElem_cons_zero, List.getElem_cons_succ, List.setIfInBounds_toArray, List.set_cons_zero, List.set_cons_succ]
    refine wpAnyH_done (by kernel_rfl) ?_ _
    clear HC
    go_wp2_with fail
    refine bodyPost_ret (results_cell_row rfl _ _ (w.heap.size + 1) TRx _ (0, 0) _ rfl HX5.out.eq Tryz.underlying26 rfl (by rw [sizeRx]; rfl)) rfl ?_
    rw [E.out]
    exact rex_fin rfl rfl HP.out HV5.out (below_then HB.out B5.out) HG5.out (by omega)
  by_cases k7 : r.kind = 7
  · obtain ⟨x, ex, wx⟩ := wf_kids1 hwf (by omega)
    have ekids : r.kids = [x] := by rw [ex]; rfl
    have hm2 : r.many = x.many + 1 := by rw [ex]; simp [Rex.many, manyL]; omega
    obtain ⟨_, _, _, _, _, _, e2, _, hkk⟩ := HV.out.parts
    injection e2 with e3 e4 e5
    subst e3 e5
    rw [ekids] at hkk
    obtain ⟨ad, A1, c1, K1, dk1, rfl, hx, x0, x1, x2⟩ := hkk.one
    have HX := Lib.hid hx
    have IHX : Hid (DvOk 61 x) := IH.out x (by rw [ekids]; simp)
    have WX := Lib.hid wx
    have FX := Lib.hid (dv_fit b x wx)
    have hmx : x.many ≤ 120 := by omega
    have hdx : (dv b x).many ≤ 7380 := dv_120 b wx (Nat.le_refl _) hmx
    have hadp : p ad.block := hkk.ok ad rfl (by simp)
    have hadl : ad.block < w.heap.size := HP.out _ hadp
    rw [ekids] at n2 HV
    simp only [List.length_cons, List.length_nil, Nat.zero_add] at n2 HV
    have E : Hid (dv b r = nNot (dv b x)) := by show _ = _; rw [ex, k7]; exact dv_not b [] x
    have d1 : (r.kind == 1) = false := by simp [k1]
    have d3 : (r.kind == 3) = false := by simp [k3]
    have d4 : (r.kind == 4) = false := by simp [k4]
    have d6 : (r.kind == 6) = false := by simp [k6]
    have d5 : (r.kind == 5) = false := by simp [k5]
    have d7 : (r.kind == 7) = true := by simp [k7]
    clear k1 k3 k4 k6 k5 k7
    go_enter Tryz.func61, Tryz.ntmps61
    have hwz := HB.out.size
    obtain ⟨dn, hdn⟩ := FX.out.wf
    have HDN := Lib.hid hdn
    have IHC : Hid (Calls Tryz.prog 61 #[.agg #[.int .i64 x.kind, .slice A1 x.set.length c1, .slice K1 x.kids.length dk1], .int .i64 b] wa (RexPost p (dv b x) wa)) := IHX.out b _ _ wa p WX.out HX.out (fun z hz => by have := HP.out z hz; omega) hmx (HPW.out.below HB.out)
    clear ex ekids e4 hx wx IH hwf hm2 hkk hdn
    go_wp2_with (first
      | ((with_reducible refine IHC.out.mono ?_); rintro e w3 ⟨A3, c3, K3, k3, rfl, hv3, b3⟩; have B3 := Lib.hid b3; have HV3 : Hid (RexP w3 (fun z => (p z ∨ wa.heap.size ≤ z) ∧ z < w3.heap.size) (dv b x) (.int .i64 (dv b x).kind) (.slice A3 (dv b x).set.length c3) (.slice K3 (dv b x).kids.length k3)) := (Lib.hid hv3.lt); clear hv3 b3)
      | ((with_reducible refine (sNot_c (dv b x) dn _ _ w3 _ HDN.out HV3.out (fun z hz => hz.2)).mono ?_); rintro e w4 ⟨A4, c4, K4, k4, rfl, hv4, b4⟩; have B4 := Lib.hid (below_then B3.out b4); have HV4 := Lib.hid hv4; have M4 := Lib.hid (M1.out.below B4.out); have h43 := b4.size; clear hv4 b4)
      | ((with_reducible refine at_st 4 90 ?_); refine ev_store (o := ⟨none, .store _ (.tmp 4) _, _, _, _, _⟩) rfl rfl TRx (.tmp 4) (.tmp 90) rfl (w.heap.size + 1) 0 rfl [.int .i64 (nNot (dv b x)).kind, .slice A4 (nNot (dv b x)).set.length c4, .slice K4 (nNot (dv b x)).kids.length k4] rfl _ TRx M4.out (sizeRx' _ _ _) (by show 0 + 3 ≤ 3; omega) (three_one _ _ _ _ _ _ _) ?_; intro w5 hX5 hg5; have HX5 : Hid (Blk w5 (w.heap.size + 1) ([.int .i64 (nNot (dv b x)).kind, .slice A4 (nNot (dv b x)).set.length c4, .slice K4 (nNot (dv b x)).kids.length k4]).toArray TRx) := hX5; have HG5 := Lib.hid hg5; clear hX5 hg5)
      | fail)
    refine bodyPost_ret (results_cell_row rfl _ _ (w.heap.size + 1) TRx _ (0, 0) _ rfl HX5.out.eq Tryz.underlying26 rfl (by rw [sizeRx]; rfl)) rfl ?_
    rw [E.out]
    have h3z := B3.out.size
    exact rex_fin rfl rfl HP.out (HV4.out.mono fun z hz => by
      have h0 := HZ.out
      rcases hz with ⟨h | h, _⟩ | h
      · exact ⟨fun e => by have := HP.out z h; omega, .inl h⟩
      · exact ⟨by omega, .inr (by omega)⟩
      · exact ⟨by omega, .inr (by omega)⟩) (below_then HB.out B4.out) HG5.out (by omega)
  · have k2 : r.kind = 2 := by rcases wf_kind hwf with h | h | h | h | h | h | h <;> omega
    have E : Hid (dv b r = noT) := dv_emp' b k2
    have d1 : (r.kind == 1) = false := by simp [k1]
    have d3 : (r.kind == 3) = false := by simp [k3]
    have d4 : (r.kind == 4) = false := by simp [k4]
    have d6 : (r.kind == 6) = false := by simp [k6]
    have d5 : (r.kind == 5) = false := by simp [k5]
    have d7 : (r.kind == 7) = false := by simp [k7]
    clear k1 k3 k4 k6 k5 k7 k2 hwf IH
    go_enter Tryz.func61, Tryz.ntmps61
    go_wp2_with (first
      | ((with_reducible refine (iNothing_c wa).mono ?_); rintro e wn ⟨rfl, bn⟩; replace M1 := Lib.hid (M1.out.below bn); replace HB := Lib.hid (below_then HB.out bn); clear bn)
      | ((with_reducible refine at_st 4 91 ?_); refine ev_store (o := ⟨none, .store _ (.tmp 4) _, _, _, _, _⟩) rfl rfl TRx (.tmp 4) (.tmp 91) rfl (w.heap.size + 1) 0 rfl [.int .i64 1, nilS, nilS] rfl _ TRx M1.out (sizeRx' _ _ _) (by show 0 + 3 ≤ 3; omega) (three_one _ _ _ _ _ _ _) ?_; intro w5 hX5 hg5; have HX5 : Hid (Blk w5 (w.heap.size + 1) ([.int .i64 1, nilS, nilS]).toArray TRx) := hX5; have HG5 := Lib.hid hg5; clear hX5 hg5)
      | fail)
    refine bodyPost_ret (results_cell_row rfl _ _ (w.heap.size + 1) TRx _ (0, 0) _ rfl HX5.out.eq Tryz.underlying26 rfl (by rw [sizeRx]; rfl)) rfl ?_
    rw [E.out]
    exact rex_fin (t := noT) rfl rfl HP.out (RexP.leaf 1) HB.out HG5.out (by omega)
set_option maxHeartbeats 4000000 in
theorem iDeriv_c (r : Rex) : DvOk 57 r := by
  refine Rex.ind (p := DvOk 57) (fun k0 s0 ks0 ih => ?_) r
  obtain ⟨r, er⟩ : ∃ a, a = Rex.mk k0 s0 ks0 := ⟨_, rfl⟩
  have IH : Hid (∀ x ∈ r.kids, DvOk 57 x) := by rw [er]; exact ih
  rw [← er]
  clear ih er
  intro b v1 v2 w p hwf h hp hm hpw
  have HPW := Lib.hid hpw
  obtain ⟨A, c, K, ck, _, rfl, rfl, hs, hk⟩ := h.parts
  obtain ⟨wa, hwa⟩ : ∃ x, x = (w.alloc (.cells #[.int .i64 r.kind, .slice A r.set.length c, .slice K r.kids.length ck] TRx)).alloc (.cells #[.int .i64 0, nilS, nilS] TRx) := ⟨_, rfl⟩
  have hb : Below w.heap.size w wa := by rw [hwa]; exact below_alloc (below_alloc (Below.refl _ _) _) _
  have m0 : Blk wa w.heap.size #[.int .i64 r.kind, .slice A r.set.length c, .slice K r.kids.length ck] TRx := by rw [hwa]; exact (blk_new w _ _).alloc _
  have m1 : Blk wa (w.heap.size + 1) #[.int .i64 0, nilS, nilS] TRx := by
    rw [hwa]
    have := blk_new (w.alloc (.cells #[.int .i64 r.kind, .slice A r.set.length c, .slice K r.kids.length ck] TRx)) #[.int .i64 0, nilS, nilS] TRx
    simpa using this
  have hz1 : wa.heap.size = w.heap.size + 2 := by rw [hwa]; simp
  have HZ := Lib.hid hz1
  clear hz1
  replace hwa := hwa.symm
  have HV := Lib.hid (h.under hb)
  have HB := Lib.hid hb
  have M0 := Lib.hid m0
  have M1 := Lib.hid m1
  have HP := Lib.hid hp
  have n0 : wa.cell? ⟨w.heap.size, 0, none⟩ = some (.int .i64 r.kind) := by rw [m0.cell]; rfl
  have n1 : wa.cell? ⟨w.heap.size, 1, none⟩ = some (.slice A r.set.length c) := by rw [m0.cell]; rfl
  have n2 : wa.cell? ⟨w.heap.size, 2, none⟩ = some (.slice K r.kids.length ck) := by rw [m0.cell]; rfl
  clear hb m0 m1 hs hk h hp
  clear hpw
  have hlo := HZ.out
  have HLO : w.heap.size + 2 ≤ wa.heap.size := by omega
  clear hlo
  by_cases k1 : r.kind = 1
  · obtain ⟨nb, hnb⟩ : ∃ z, z = setHas r.set b := ⟨_, rfl⟩
    have E : Hid (dv b r = if nb = true then .mk 2 [] [] else noT) := by show _ = _; rw [hnb]; exact dv_set' b k1
    have HS : Hid (Sps wa 0 A c r.set) := by
      obtain ⟨_, _, _, _, _, e1, _, hs, _⟩ := HV.out.rexv.parts
      injection e1 with e3 e4 e5
      subst e3 e5
      exact hs
    have SC := iSetHas_d A c r.set b wa HS.out
    rw [← hnb] at SC
    replace SC := Lib.hid SC
    have d1 : (r.kind == 1) = true := by simp [k1]
    clear k1 hwf hnb IH
    go_enter Tryz.func57, Tryz.ntmps57
    go_wp2_with fail
    clear hwa
    refine SC.out.mono ?_
    rintro e w3 ⟨rfl, b3⟩
    replace M1 := Lib.hid (M1.out.below b3)
    replace HB := Lib.hid (below_then HB.out b3)
    clear n0 n1 n2 b3
    cases nb
    · replace E : Hid (dv b r = noT) := Lib.hid (E.out.trans (if_neg (by decide)))
      go_wp2_with (first
        | ((with_reducible refine (iNothing_c w3).mono ?_); rintro e wn ⟨rfl, bn⟩; replace M1 := Lib.hid (M1.out.below bn); replace HB := Lib.hid (below_then HB.out bn); clear bn)
        | ((with_reducible refine at_st 4 91 ?_); refine ev_store (o := ⟨none, .store _ (.tmp 4) _, _, _, _, _⟩) rfl rfl TRx (.tmp 4) (.tmp 91) rfl (w.heap.size + 1) 0 rfl [.int .i64 1, nilS, nilS] rfl _ TRx M1.out (sizeRx' _ _ _) (by show 0 + 3 ≤ 3; omega) (three_one _ _ _ _ _ _ _) ?_; intro w5 hX5 hg5; have HX5 : Hid (Blk w5 (w.heap.size + 1) ([.int .i64 1, nilS, nilS]).toArray TRx) := hX5; have HG5 := Lib.hid hg5; clear hX5 hg5)
        | fail)
      refine bodyPost_ret (results_cell_row rfl _ _ (w.heap.size + 1) TRx _ (0, 0) _ rfl HX5.out.eq Tryz.underlying26 rfl (by rw [sizeRx]; rfl)) rfl ?_
      rw [E.out]
      exact rex_fin (t := noT) rfl rfl HP.out (RexP.leaf 1) HB.out HG5.out (by omega)
    · replace E : Hid (dv b r = .mk 2 [] []) := Lib.hid (E.out.trans (if_pos rfl))
      go_wp2_with ((with_reducible refine at_st 4 14 ?_); refine ev_store (o := ⟨none, .store _ (.tmp 4) _, _, _, _, _⟩) rfl rfl TRx (.tmp 4) (.tmp 14) rfl (w.heap.size + 1) 0 rfl [.int .i64 2, nilS, nilS] rfl _ TRx M1.out (sizeRx' _ _ _) (by show 0 + 3 ≤ 3; omega) (three_one _ _ _ _ _ _ _) ?_; intro w5 hX5 hg5; have HX5 : Hid (Blk w5 (w.heap.size + 1) ([.int .i64 2, nilS, nilS]).toArray TRx) := hX5; have HG5 := Lib.hid hg5; clear hX5 hg5)
      refine bodyPost_ret (results_cell_row rfl _ _ (w.heap.size + 1) TRx _ (0, 0) _ rfl HX5.out.eq Tryz.underlying26 rfl (by rw [sizeRx]; rfl)) rfl ?_
      rw [E.out]
      exact rex_fin (t := .mk 2 [] []) rfl rfl HP.out (RexP.leaf 2) HB.out HG5.out (by omega)
  by_cases k3 : r.kind = 3
  · obtain ⟨x, y, ex, wx, wy⟩ := wf_kids2 hwf (by omega)
    have ekids : r.kids = [x, y] := by rw [ex]; rfl
    have hm2 : r.many = x.many + y.many + 1 := by rw [ex]; exact two_many _ x y
    obtain ⟨_, _, _, _, _, _, e2, _, hkk⟩ := HV.out.parts
    injection e2 with e3 e4 e5
    subst e3 e5
    rw [ekids] at hkk
    obtain ⟨ad, A1, c1, K1, dk1, A2, c2, K2, dk2, rfl, hx, x0, x1, x2, hy, y0, y1, y2⟩ := hkk.two
    have HX := Lib.hid hx
    have HY := Lib.hid hy
    have IHX : Hid (DvOk 57 x) := IH.out x (by rw [ekids]; simp)
    have IHY : Hid (DvOk 57 y) := IH.out y (by rw [ekids]; simp)
    have WX := Lib.hid wx
    have WY := Lib.hid wy
    have FX := Lib.hid (dv_fit b x wx)
    have FY := Lib.hid (dv_fit b y wy)
    have hds := dv_sum b wx wy (by omega)
    have hmx : x.many ≤ 120 := by omega
    have hmy : y.many ≤ 120 := by omega
    have hadp : p ad.block := hkk.ok ad rfl (by simp)
    have hadl : ad.block < w.heap.size := HP.out _ hadp
    rw [ekids] at n2
    simp only [List.length_cons, List.length_nil, Nat.zero_add] at n2
    have HC : Hid (∀ w' : World, (∀ k, k < wa.heap.size → k ≠ w.heap.size + 1 → w'.heap[k]? = wa.heap[k]?) → w'.cell? ⟨w.heap.size, 2, none⟩ = some (.slice (some ad) 2 ck) ∧ w'.cell? ad = some (.int .i64 x.kind) ∧ w'.cell? ⟨ad.block, ad.off + 1, none⟩ = some (.slice A1 x.set.length c1) ∧ w'.cell? ⟨ad.block, ad.off + 2, none⟩ = some (.slice K1 x.kids.length dk1) ∧
        w'.cell? ⟨ad.block, ad.off + 3, none⟩ = some (.int .i64 y.kind) ∧ w'.cell? ⟨ad.block, ad.off + 3 + 1, none⟩ = some (.slice A2 y.set.length c2) ∧ w'.cell? ⟨ad.block, ad.off + 3 + 2, none⟩ = some (.slice K2 y.kids.length dk2)) := fun w' hb =>
      have up : ∀ {q : Addr} {v : Value}, q.block ≠ w.heap.size + 1 → wa.cell? q = some v → w'.cell? q = some v := fun {q v} hne h => (World.cell?_of_block (w := wa) (hb _ (World.block_lt_of_cell? wa q h) hne)).trans h
      ⟨up (by show w.heap.size ≠ _; omega) n2, up (by omega) x0, up (by show ad.block ≠ _; omega) x1, up (by show ad.block ≠ _; omega) x2, up (by show ad.block ≠ _; omega) y0, up (by show ad.block ≠ _; omega) y1, up (by show ad.block ≠ _; omega) y2⟩
    have FT := Lib.hid (nCat_fit _ FX.out.wf y wy)
    have hft := FT.out.many
    obtain ⟨nb, hnb⟩ : ∃ z, z = null x := ⟨_, rfl⟩
    have E : Hid (dv b r = if nb = true then nOr (nCat (dv b x) y) (dv b y) else nCat (dv b x) y) := by show _ = _; rw [hnb, ex, k3]; exact dv_cat b [] x y
    have NC := fun (v1 v2 : Value) (W : World) h => iNull_d x v1 v2 W wx h
    rw [← hnb] at NC
    replace NC := Lib.hid NC
    have CC := fun (u1 u2 v1 v2 : Value) (W : World) (q : Nat → Prop) ha hb hp hpw => iCat_r (dv b x) y u1 u2 v1 v2 W q FX.out.wf wy ha hb hp (size_many (m := 0) FX.out.wf (by omega)) (size_many (m := 0) wy (by omega)) (by omega) hpw
    obtain ⟨T, hT⟩ : ∃ z, z = nCat (dv b x) y := ⟨_, rfl⟩
    rw [← hT] at CC E FT hft
    replace CC := Lib.hid CC
    have d1 : (r.kind == 1) = false := by simp [k1]
    have d3 : (r.kind == 3) = true := by simp [k3]
    clear k1 k3 hnb hT
    go_enter Tryz.func57, Tryz.ntmps57
    clear ex ekids e4 hx hy wx wy IH hwf hm2 hkk
    go_wp2_with fail
    clear hwa n0 n1 n2 x0 x1 x2 y0 y1 y2
    go_cut [5] (fun v wx => ∃ (g : Nat) (A : Option Addr) (c : Nat) (K : Option Addr) (k : Nat), v = .pointer (some ⟨g, 0, none⟩) ∧ Hid (Blk wx g #[.int .i64 T.kind, .slice A T.set.length c, .slice K T.kids.length k] TRx) ∧ Hid (RexP wx (fun z => z ≠ g ∧ (p z ∨ wa.heap.size ≤ z)) T (.int .i64 T.kind) (.slice A T.set.length c) (.slice K T.kids.length k)) ∧ Hid (wa.heap.size ≤ g ∧ g < wx.heap.size) ∧ Hid (Below wa.heap.size wa wx))
    case first =>
      have hwz := HB.out.size
      have bd := below_drew (Below.refl wa.heap.size wa)
      have hdz := bd.size
      refine wp_region_held_drew (S := fun w' => w'.cell? ⟨w.heap.size, 2, none⟩ = some (.slice (some ad) 2 ck) ∧ w'.cell? ad = some (.int .i64 x.kind) ∧ w'.cell? ⟨ad.block, ad.off + 1, none⟩ = some (.slice A1 x.set.length c1) ∧ w'.cell? ⟨ad.block, ad.off + 2, none⟩ = some (.slice K1 x.kids.length dk1) ∧
          w'.cell? ⟨ad.block, ad.off + 3, none⟩ = some (.int .i64 y.kind) ∧ w'.cell? ⟨ad.block, ad.off + 3 + 1, none⟩ = some (.slice A2 y.set.length c2) ∧ w'.cell? ⟨ad.block, ad.off + 3 + 2, none⟩ = some (.slice K2 y.kids.length dk2)) (by kernel_rfl) (HC.out _ (fun k hk _ => bd.block k hk)) (fun hHeld0 => ?_)
      refine wpAnyH_take (i := 0) (v := ?_) rfl (by kernel_rfl) (by kernel_rfl) (by kernel_rfl) (fun _ _ _ h => h) (Or.inl ⟨by rfl, ?_⟩) (by assumption) ?_
      rotate_left
      · (intro w hSw; (try dsimp only at hSw); go_simp; try with_reducible rfl)
      try simp only [Act.put, List.getElem_toArray, List.getElem_cons_zero, List.getElem_cons_succ, List.setIfInBounds_toArray, List.set_cons_zero, List.set_cons_succ]
      refine wpAnyH_take (i := 1) (v := ?_) rfl (by kernel_rfl) (by kernel_rfl) (by kernel_rfl) (fun _ _ _ h => h) (Or.inl ⟨by rfl, ?_⟩) (by assumption) ?_
      rotate_left
      · (intro w hSw; (try dsimp only at hSw); go_simp; try with_reducible rfl)
      try simp only [Act.put, List.getElem_toArray, List.getElem_cons_zero, List.getElem_cons_succ, List.setIfInBounds_toArray, List.set_cons_zero, List.set_cons_succ]
      refine wpAnyH_take (i := 2) (v := ?_) rfl (by kernel_rfl) (by kernel_rfl) (by kernel_rfl) (fun _ _ _ h => h) (Or.inl ⟨by rfl, ?_⟩) (by assumption) ?_
      rotate_left
      · (intro w hSw; (try dsimp only at hSw); go_simp; try with_reducible rfl)
      try simp only [Act.put, List.getElem_toArray, List.getElem_cons_zero, List.getElem_cons_succ, List.setIfInBounds_toArray, List.set_cons_zero, List.set_cons_succ]
      refine wpAnyH_take (i := 3) (v := ?_) rfl (by kernel_rfl) (by kernel_rfl) (by kernel_rfl) (fun _ _ _ h => h) (Or.inl ⟨by rfl, ?_⟩) (by assumption) ?_
      rotate_left
      · (intro w hSw; (try dsimp only at hSw); go_simp; try with_reducible rfl)
      try simp only [Act.put, List.getElem_toArray, List.getElem_cons_zero, List.getElem_cons_succ, List.setIfInBounds_toArray, List.set_cons_zero, List.set_cons_succ]
      refine wpAnyH_take (i := 4) (v := ?_) rfl (by kernel_rfl) (by kernel_rfl) (by kernel_rfl) (fun _ _ _ h => h) (Or.inl ⟨by rfl, ?_⟩) (by assumption) ?_
      rotate_left
      · (intro w hSw; (try dsimp only at hSw); go_simp; try with_reducible rfl)
      try simp only [Act.put, List.getElem_toArray, List.getElem_cons_zero, List.getElem_cons_succ, List.setIfInBounds_toArray, List.set_cons_zero, List.set_cons_succ]
      refine wpAnyH_take (i := 6) (v := ?_) rfl (by kernel_rfl) (by kernel_rfl) (by kernel_rfl) (fun _ _ _ h => h) (Or.inl ⟨by rfl, ?_⟩) (by assumption) ?_
      rotate_left
      · (intro w hSw; (try dsimp only at hSw); go_simp; try with_reducible rfl)
      try simp only [Act.put, List.getElem_toArray, List.getElem_cons_zero, List.getElem_cons_succ, List.setIfInBounds_toArray, List.set_cons_zero, List.set_cons_succ]
      refine wpAnyH_take (i := 7) (v := ?_) rfl (by kernel_rfl) (by kernel_rfl) (by kernel_rfl) (fun _ _ _ h => h) (Or.inl ⟨by rfl, ?_⟩) (by assumption) ?_
      rotate_left
      · (intro w hSw; (try dsimp only at hSw); go_simp; try with_reducible rfl)
      try simp only [Act.put, List.getElem_toArray, List.getElem_cons_zero, List.getElem_cons_succ, List.setIfInBounds_toArray, List.set_cons_zero, List.set_cons_succ]
      refine wpAnyH_take (i := 8) (v := ?_) rfl (by kernel_rfl) (by kernel_rfl) (by kernel_rfl) (fun _ _ _ h => h) (Or.inl ⟨by rfl, ?_⟩) (by assumption) ?_
      rotate_left
      · (intro w hSw; (try dsimp only at hSw); go_simp; try with_reducible rfl)
      try simp only [Act.put, List.getElem_toArray, List.getElem_cons_zero, List.getElem_cons_succ, List.setIfInBounds_toArray, List.set_cons_zero, List.set_cons_succ]
      refine wpAnyH_take (i := 9) (v := ?_) rfl (by kernel_rfl) (by kernel_rfl) (by kernel_rfl) (fun _ _ _ h => h) (Or.inl ⟨by rfl, ?_⟩) (by assumption) ?_
      rotate_left
      · (intro w hSw; (try dsimp only at hSw); go_simp; try with_reducible rfl)
      try simp only [Act.put, List.getElem_toArray, List.getElem_cons_zero, List.getElem_cons_succ, List.setIfInBounds_toArray, List.set_cons_zero, List.set_cons_succ]
      refine wpAnyH_ready (rs := [5, 11]) (by kernel_rfl) (by simp) ?_
      refine AllReadyH.cons (o := ⟨some 22, _, _, _, _, _⟩) rfl (fun K hK => ?_) (AllReadyH.cons (o := ⟨some 5, _, _, _, _, _⟩) rfl (fun K hK => ?_) AllReadyH.nil)
      · go_simp
        refine (IHX.out b _ _ wa.drew p WX.out (HX.out.under (bd)) (fun z hz => by have h1 := HP.out z hz; have h2 := (bd).size; omega) hmx (HPW.out.below (below_then HB.out (bd)))).mono ?_
        rintro e w3 ⟨A3, c3, K3, k3, rfl, hv3, b3⟩
        have B3 := Lib.hid (below_then (bd) b3)
        have hz3 := (bd).size
        have HV3 : Hid (RexP w3 (fun z => (p z ∨ wa.drew.heap.size ≤ z) ∧ z < w3.heap.size) (dv b x) (.int .i64 (dv b x).kind) (.slice A3 (dv b x).set.length c3) (.slice K3 (dv b x).kids.length k3)) := Lib.hid hv3.lt
        clear hv3
        (try go_wp2_with fail)
        refine hK.out _ _ (HC.out _ (fun k hk _ => B3.out.block k hk)) (fun hH => ?_)
        clear hK K
        try simp only [Act.put, List.getElem_toArray, List.getElem_cons_zero, List.getElem_cons_succ, List.setIfInBounds_toArray, List.set_cons_zero, List.set_cons_succ]
        refine wpAnyH_ready (rs := [10, 11]) (by kernel_rfl) (by simp) ?_
        refine AllReadyH.cons (o := ⟨some 27, _, _, _, _, _⟩) rfl (fun K hK => ?_) (AllReadyH.cons (o := ⟨some 5, _, _, _, _, _⟩) rfl (fun K hK => ?_) AllReadyH.nil)
        · go_simp
          refine (CC.out _ _ _ _ w3 _ (HV3.out) ((HY.out.under (B3.out)).mono fun z hz => ⟨.inl hz, by have h1 := HP.out z hz; have h2 := B3.out.size; omega⟩) (fun z hz => Nat.lt_of_lt_of_le hz.2 (Nat.le_refl _)) (HPW.out.below (below_then HB.out (B3.out)))).mono ?_
          rintro e w4 ⟨A4, c4, K4, k4, rfl, hv4, b4⟩
          have B4 := Lib.hid (below_then (B3.out) b4)
          have HV4 := Lib.hid hv4
          have hz4 := (B3.out).size
          have h34 := b4.size
          clear hv4
          (try go_wp2_with fail)
          refine hK.out _ _ (HC.out _ (fun k hk _ => B4.out.block k hk)) (fun hH => ?_)
          clear hK K
          try simp only [Act.put, List.getElem_toArray, List.getElem_cons_zero, List.getElem_cons_succ, List.setIfInBounds_toArray, List.set_cons_zero, List.set_cons_succ]
          refine wpAnyH_ready (rs := [11]) (by kernel_rfl) (by simp) ?_
          refine AllReadyH.cons (o := ⟨some 5, _, _, _, _, _⟩) rfl (fun K hK => ?_) AllReadyH.nil
          go_simp
          obtain ⟨wz, hwz⟩ : ∃ z : World, z = w4.alloc (.cells #[.int .i64 0, nilS, nilS] TRx) := ⟨_, rfl⟩
          have bz : Below w4.heap.size w4 wz := by rw [hwz]; exact below_alloc (Below.refl _ _) _
          have MG : Hid (Blk wz w4.heap.size #[.int .i64 0, nilS, nilS] TRx) := by rw [hwz]; exact blk_new _ _ _
          have BZ := Lib.hid (below_then (B4.out) bz)
          have hzz : wz.heap.size = w4.heap.size + 1 := by rw [hwz]; simp
          have HZZ := Lib.hid hzz
          rw [← hwz]
          obtain ⟨gz, hgz⟩ : ∃ z : Nat, z = w4.heap.size := ⟨_, rfl⟩
          rw [← hgz] at MG ⊢
          have HGZ := Lib.hid hgz
          clear hwz hzz hgz
          refine hK.out _ _ (HC.out _ (fun k hk _ => BZ.out.block k hk)) (fun hH => ?_)
          clear hK K
          try simp only [Act.put, List.getElem_toArray, List.getElem_cons_zero, List.getElem_cons_succ, List.setIfInBounds_toArray, List.set_cons_zero, List.set_cons_succ]
          have GE : Hid (wa.heap.size ≤ gz) := by have h1 := HGZ.out; have h2 := B4.out.size; show _ ≤ _; omega
          have HVZ : Hid (RexP wz (fun z => z ≠ gz ∧ (p z ∨ wa.heap.size ≤ z)) T (.int .i64 T.kind) (.slice A4 T.set.length c4) (.slice K4 T.kids.length k4)) := Lib.hid ((HV4.out.lt.under bz).mono fun z hz => by
            have h1 := HGZ.out
            have h2 := hz.2
            refine ⟨by omega, ?_⟩
            rcases hz.1 with ⟨h | h, _⟩ | h
            · exact .inl h
            · exact .inr (by omega)
            · exact .inr (by omega))
          have hgl := MG.out.lt
          have g0 : wz.cell? ⟨gz, 0, none⟩ = some (.int .i64 0) := by rw [MG.out.cell]; rfl
          have g1 : wz.cell? ⟨gz, 1, none⟩ = some nilS := by rw [MG.out.cell]; rfl
          have g2 : wz.cell? ⟨gz, 2, none⟩ = some nilS := by rw [MG.out.cell]; rfl
          have f0 : wz.frozen? ⟨gz, 0, none⟩ = false := MG.out.free 0
          have f1 : wz.frozen? ⟨gz, 1, none⟩ = false := MG.out.free 1
          have f2 : wz.frozen? ⟨gz, 2, none⟩ = false := MG.out.free 2
          refine wpAnyH_ready (rs := [12]) (by kernel_rfl) (by simp) ?_
          refine AllReadyH.cons (o := ⟨none, _, _, _, _, _⟩) rfl (fun K hK => ?_) AllReadyH.nil
          go_simp
          obtain ⟨wQ, hwQ⟩ : ∃ z : World, z = ((wz.setCell ⟨gz, 0, none⟩ (.int .i64 T.kind)).setCell ⟨gz, 1, none⟩ (.slice A4 T.set.length c4)).setCell ⟨gz, 2, none⟩ (.slice K4 T.kids.length k4) := ⟨_, rfl⟩
          have XQ : Hid (Blk wQ gz #[.int .i64 T.kind, .slice A4 T.set.length c4, .slice K4 T.kids.length k4] TRx) := by rw [hwQ]; exact Lib.hid (put3 rfl MG.out)
          have GQ : Hid (wz.grownBy wQ (some gz)) := by rw [hwQ]; exact grown_set (grown_set (grown_set (grown_refl _ _) _ _) _ _) _ _
          rw [← hwQ]
          clear g0 g1 g2 f0 f1 f2 hwQ
          have BQ : Hid (Below wa.heap.size wa wQ) := Lib.hid ((BZ.out).grown GQ.out (BZ.out).size fun q hq => by have h1 := Option.some.inj hq; have h2 := GE.out; omega)
          refine hK.out _ _ (HC.out _ (fun k hk _ => BQ.out.block k hk)) (fun hH => ?_)
          clear hK K
          try simp only [Act.put, List.getElem_toArray, List.getElem_cons_zero, List.getElem_cons_succ, List.setIfInBounds_toArray, List.set_cons_zero, List.set_cons_succ]
          refine wpAnyH_done (by kernel_rfl) ?_ _
          go_wp2_with fail
          go_meet
          have hq := GQ.out.size
          exact ⟨gz, A4, c4, K4, k4, rfl, XQ, (HVZ.out).keep fun z hz hlt => GQ.out.block z hlt fun e => hz.1 (Option.some.inj e), ⟨GE.out, by omega⟩, BQ⟩
        · go_simp
          obtain ⟨wz, hwz⟩ : ∃ z : World, z = w3.alloc (.cells #[.int .i64 0, nilS, nilS] TRx) := ⟨_, rfl⟩
          have bz : Below w3.heap.size w3 wz := by rw [hwz]; exact below_alloc (Below.refl _ _) _
          have MG : Hid (Blk wz w3.heap.size #[.int .i64 0, nilS, nilS] TRx) := by rw [hwz]; exact blk_new _ _ _
          have BZ := Lib.hid (below_then (B3.out) bz)
          have hzz : wz.heap.size = w3.heap.size + 1 := by rw [hwz]; simp
          have HZZ := Lib.hid hzz
          rw [← hwz]
          obtain ⟨gz, hgz⟩ : ∃ z : Nat, z = w3.heap.size := ⟨_, rfl⟩
          rw [← hgz] at MG ⊢
          have HGZ := Lib.hid hgz
          clear hwz hzz hgz
          refine hK.out _ _ (HC.out _ (fun k hk _ => BZ.out.block k hk)) (fun hH => ?_)
          clear hK K
          try simp only [Act.put, List.getElem_toArray, List.getElem_cons_zero, List.getElem_cons_succ, List.setIfInBounds_toArray, List.set_cons_zero, List.set_cons_succ]
          refine wpAnyH_ready (rs := [10]) (by kernel_rfl) (by simp) ?_
          refine AllReadyH.cons (o := ⟨some 27, _, _, _, _, _⟩) rfl (fun K hK => ?_) AllReadyH.nil
          go_simp
          refine (CC.out _ _ _ _ wz _ (HV3.out.under bz) ((HY.out.under (BZ.out)).mono fun z hz => ⟨.inl hz, by have h1 := HP.out z hz; have h2 := B3.out.size; omega⟩) (fun z hz => Nat.lt_of_lt_of_le hz.2 (bz.size)) (HPW.out.below (below_then HB.out (BZ.out)))).mono ?_
          rintro e w4 ⟨A4, c4, K4, k4, rfl, hv4, b4⟩
          have B4 := Lib.hid (below_then (BZ.out) b4)
          have HV4 := Lib.hid hv4
          have hz4 := (BZ.out).size
          have h34 := b4.size
          clear hv4
          (try go_wp2_with fail)
          refine hK.out _ _ (HC.out _ (fun k hk _ => B4.out.block k hk)) (fun hH => ?_)
          clear hK K
          try simp only [Act.put, List.getElem_toArray, List.getElem_cons_zero, List.getElem_cons_succ, List.setIfInBounds_toArray, List.set_cons_zero, List.set_cons_succ]
          have GE : Hid (wa.heap.size ≤ gz) := by have h1 := HGZ.out; have h2 := B3.out.size; show _ ≤ _; omega
          replace MG := Lib.hid (MG.out.below b4)
          have HVZ : Hid (RexP w4 (fun z => z ≠ gz ∧ (p z ∨ wa.heap.size ≤ z)) T (.int .i64 T.kind) (.slice A4 T.set.length c4) (.slice K4 T.kids.length k4)) := Lib.hid (HV4.out.mono fun z hz => by
            have h1 := HGZ.out
            have h2 := HZZ.out
            have h3 := B3.out.size
            rcases hz with ⟨h | h, _⟩ | h
            · exact ⟨by have := HP.out z h; omega, .inl h⟩
            · exact ⟨by omega, .inr (by omega)⟩
            · exact ⟨by omega, .inr (by omega)⟩)
          have hgl := MG.out.lt
          have g0 : w4.cell? ⟨gz, 0, none⟩ = some (.int .i64 0) := by rw [MG.out.cell]; rfl
          have g1 : w4.cell? ⟨gz, 1, none⟩ = some nilS := by rw [MG.out.cell]; rfl
          have g2 : w4.cell? ⟨gz, 2, none⟩ = some nilS := by rw [MG.out.cell]; rfl
          have f0 : w4.frozen? ⟨gz, 0, none⟩ = false := MG.out.free 0
          have f1 : w4.frozen? ⟨gz, 1, none⟩ = false := MG.out.free 1
          have f2 : w4.frozen? ⟨gz, 2, none⟩ = false := MG.out.free 2
          refine wpAnyH_ready (rs := [12]) (by kernel_rfl) (by simp) ?_
          refine AllReadyH.cons (o := ⟨none, _, _, _, _, _⟩) rfl (fun K hK => ?_) AllReadyH.nil
          go_simp
          obtain ⟨wQ, hwQ⟩ : ∃ z : World, z = ((w4.setCell ⟨gz, 0, none⟩ (.int .i64 T.kind)).setCell ⟨gz, 1, none⟩ (.slice A4 T.set.length c4)).setCell ⟨gz, 2, none⟩ (.slice K4 T.kids.length k4) := ⟨_, rfl⟩
          have XQ : Hid (Blk wQ gz #[.int .i64 T.kind, .slice A4 T.set.length c4, .slice K4 T.kids.length k4] TRx) := by rw [hwQ]; exact Lib.hid (put3 rfl MG.out)
          have GQ : Hid (w4.grownBy wQ (some gz)) := by rw [hwQ]; exact grown_set (grown_set (grown_set (grown_refl _ _) _ _) _ _) _ _
          rw [← hwQ]
          clear g0 g1 g2 f0 f1 f2 hwQ
          have BQ : Hid (Below wa.heap.size wa wQ) := Lib.hid ((B4.out).grown GQ.out (B4.out).size fun q hq => by have h1 := Option.some.inj hq; have h2 := GE.out; omega)
          refine hK.out _ _ (HC.out _ (fun k hk _ => BQ.out.block k hk)) (fun hH => ?_)
          clear hK K
          try simp only [Act.put, List.getElem_toArray, List.getElem_cons_zero, List.getElem_cons_succ, List.setIfInBounds_toArray, List.set_cons_zero, List.set_cons_succ]
          refine wpAnyH_done (by kernel_rfl) ?_ _
          go_wp2_with fail
          go_meet
          have hq := GQ.out.size
          exact ⟨gz, A4, c4, K4, k4, rfl, XQ, (HVZ.out).keep fun z hz hlt => GQ.out.block z hlt fun e => hz.1 (Option.some.inj e), ⟨GE.out, by omega⟩, BQ⟩
      · go_simp
        obtain ⟨wz, hwz⟩ : ∃ z : World, z = (wa.alloc (.cells #[.int .i64 0, nilS, nilS] TRx)).drew := ⟨_, rfl⟩
        have bz : Below wa.heap.size wa wz := by rw [hwz]; exact below_drew (below_alloc (Below.refl _ _) _)
        have MG : Hid (Blk wz wa.heap.size #[.int .i64 0, nilS, nilS] TRx) := by rw [hwz]; exact (blk_new wa #[.int .i64 0, nilS, nilS] TRx).below (below_drew (Below.refl _ _))
        have BZ := Lib.hid (below_then (Below.refl wa.heap.size wa) bz)
        have hzz : wz.heap.size = wa.heap.size + 1 := by rw [hwz]; show (wa.alloc _).heap.size = _; simp
        have HZZ := Lib.hid hzz
        rw [← hwz]
        obtain ⟨gz, hgz⟩ : ∃ z : Nat, z = wa.heap.size := ⟨_, rfl⟩
        rw [← hgz] at MG ⊢
        have HGZ := Lib.hid hgz
        clear hwz hzz hgz
        refine hK.out _ _ (HC.out _ (fun k hk _ => BZ.out.block k hk)) (fun hH => ?_)
        clear hK K
        try simp only [Act.put, List.getElem_toArray, List.getElem_cons_zero, List.getElem_cons_succ, List.setIfInBounds_toArray, List.set_cons_zero, List.set_cons_succ]
        refine wpAnyH_ready (rs := [5]) (by kernel_rfl) (by simp) ?_
        refine AllReadyH.cons (o := ⟨some 22, _, _, _, _, _⟩) rfl (fun K hK => ?_) AllReadyH.nil
        go_simp
        refine (IHX.out b _ _ wz p WX.out (HX.out.under (BZ.out)) (fun z hz => by have h1 := HP.out z hz; have h2 := (BZ.out).size; omega) hmx (HPW.out.below (below_then HB.out (BZ.out)))).mono ?_
        rintro e w3 ⟨A3, c3, K3, k3, rfl, hv3, b3⟩
        have B3 := Lib.hid (below_then (BZ.out) b3)
        have hz3 := (BZ.out).size
        have HV3 : Hid (RexP w3 (fun z => (p z ∨ wz.heap.size ≤ z) ∧ z < w3.heap.size) (dv b x) (.int .i64 (dv b x).kind) (.slice A3 (dv b x).set.length c3) (.slice K3 (dv b x).kids.length k3)) := Lib.hid hv3.lt
        clear hv3
        (try go_wp2_with fail)
        refine hK.out _ _ (HC.out _ (fun k hk _ => B3.out.block k hk)) (fun hH => ?_)
        clear hK K
        try simp only [Act.put, List.getElem_toArray, List.getElem_cons_zero, List.getElem_cons_succ, List.setIfInBounds_toArray, List.set_cons_zero, List.set_cons_succ]
        replace MG := Lib.hid (MG.out.below b3)
        refine wpAnyH_ready (rs := [10]) (by kernel_rfl) (by simp) ?_
        refine AllReadyH.cons (o := ⟨some 27, _, _, _, _, _⟩) rfl (fun K hK => ?_) AllReadyH.nil
        go_simp
        refine (CC.out _ _ _ _ w3 _ (HV3.out) ((HY.out.under (B3.out)).mono fun z hz => ⟨.inl hz, by have h1 := HP.out z hz; have h2 := B3.out.size; omega⟩) (fun z hz => Nat.lt_of_lt_of_le hz.2 (Nat.le_refl _)) (HPW.out.below (below_then HB.out (B3.out)))).mono ?_
        rintro e w4 ⟨A4, c4, K4, k4, rfl, hv4, b4⟩
        have B4 := Lib.hid (below_then (B3.out) b4)
        have HV4 := Lib.hid hv4
        have hz4 := (B3.out).size
        have h34 := b4.size
        clear hv4
        (try go_wp2_with fail)
        refine hK.out _ _ (HC.out _ (fun k hk _ => B4.out.block k hk)) (fun hH => ?_)
        clear hK K
        try simp only [Act.put, List.getElem_toArray, List.getElem_cons_zero, List.getElem_cons_succ, List.setIfInBounds_toArray, List.set_cons_zero, List.set_cons_succ]
        have GE : Hid (wa.heap.size ≤ gz) := by have h1 := HGZ.out; show _ ≤ _; omega
        replace MG := Lib.hid (MG.out.below b4)
        have HVZ : Hid (RexP w4 (fun z => z ≠ gz ∧ (p z ∨ wa.heap.size ≤ z)) T (.int .i64 T.kind) (.slice A4 T.set.length c4) (.slice K4 T.kids.length k4)) := Lib.hid (HV4.out.mono fun z hz => by
          have h1 := HGZ.out
          have h2 := HZZ.out
          have h3 := b3.size
          rcases hz with ⟨h | h, _⟩ | h
          · exact ⟨by have := HP.out z h; omega, .inl h⟩
          · exact ⟨by omega, .inr (by omega)⟩
          · exact ⟨by omega, .inr (by omega)⟩)
        have hgl := MG.out.lt
        have g0 : w4.cell? ⟨gz, 0, none⟩ = some (.int .i64 0) := by rw [MG.out.cell]; rfl
        have g1 : w4.cell? ⟨gz, 1, none⟩ = some nilS := by rw [MG.out.cell]; rfl
        have g2 : w4.cell? ⟨gz, 2, none⟩ = some nilS := by rw [MG.out.cell]; rfl
        have f0 : w4.frozen? ⟨gz, 0, none⟩ = false := MG.out.free 0
        have f1 : w4.frozen? ⟨gz, 1, none⟩ = false := MG.out.free 1
        have f2 : w4.frozen? ⟨gz, 2, none⟩ = false := MG.out.free 2
        refine wpAnyH_ready (rs := [12]) (by kernel_rfl) (by simp) ?_
        refine AllReadyH.cons (o := ⟨none, _, _, _, _, _⟩) rfl (fun K hK => ?_) AllReadyH.nil
        go_simp
        obtain ⟨wQ, hwQ⟩ : ∃ z : World, z = ((w4.setCell ⟨gz, 0, none⟩ (.int .i64 T.kind)).setCell ⟨gz, 1, none⟩ (.slice A4 T.set.length c4)).setCell ⟨gz, 2, none⟩ (.slice K4 T.kids.length k4) := ⟨_, rfl⟩
        have XQ : Hid (Blk wQ gz #[.int .i64 T.kind, .slice A4 T.set.length c4, .slice K4 T.kids.length k4] TRx) := by rw [hwQ]; exact Lib.hid (put3 rfl MG.out)
        have GQ : Hid (w4.grownBy wQ (some gz)) := by rw [hwQ]; exact grown_set (grown_set (grown_set (grown_refl _ _) _ _) _ _) _ _
        rw [← hwQ]
        clear g0 g1 g2 f0 f1 f2 hwQ
        have BQ : Hid (Below wa.heap.size wa wQ) := Lib.hid ((B4.out).grown GQ.out (B4.out).size fun q hq => by have h1 := Option.some.inj hq; have h2 := GE.out; omega)
        refine hK.out _ _ (HC.out _ (fun k hk _ => BQ.out.block k hk)) (fun hH => ?_)
        clear hK K
        try simp only [Act.put, List.getElem_toArray, List.getElem_cons_zero, List.getElem_cons_succ, List.setIfInBounds_toArray, List.set_cons_zero, List.set_cons_succ]
        refine wpAnyH_done (by kernel_rfl) ?_ _
        go_wp2_with fail
        go_meet
        have hq := GQ.out.size
        exact ⟨gz, A4, c4, K4, k4, rfl, XQ, (HVZ.out).keep fun z hz hlt => GQ.out.block z hlt fun e => hz.1 (Option.some.inj e), ⟨GE.out, by omega⟩, BQ⟩
    case rest =>
      obtain ⟨g, A5, c5, K5, k5, rfl, XG, HV5, GW, BC⟩ := hcut
      have hwz := HB.out.size
      have hgz : wa.heap.size ≤ g := GW.out.1
      have hgc : g < wc.heap.size := GW.out.2
      have M5 := Lib.hid (M1.out.below BC.out)
      obtain ⟨n2, x0, x1, x2, y0, y1, y2⟩ := HC.out wc fun k hk _ => BC.out.block k hk
      clear GW
      go_wp2_with fail
      refine (NC.out _ _ wc (HX.out.under BC.out).rexv).mono ?_
      rintro e w7 ⟨rfl, b7⟩
      clear n2 x0 x1 x2 y0 y1 y2
      have B7 := Lib.hid (below_then BC.out b7)
      have h7z := b7.size
      replace XG := Lib.hid (XG.out.below b7)
      replace HV5 := Lib.hid (HV5.out.under b7)
      replace M5 := Lib.hid (M5.out.below b7)
      cases nb
      · replace E : Hid (dv b r = T) := Lib.hid (E.out.trans (if_neg (by decide)))
        have g0 : w7.cell? ⟨g, 0, none⟩ = some (.int .i64 T.kind) := by rw [XG.out.cell]; rfl
        have g1 : w7.cell? ⟨g, 1, none⟩ = some (.slice A5 T.set.length c5) := by rw [XG.out.cell]; rfl
        have g2 : w7.cell? ⟨g, 2, none⟩ = some (.slice K5 T.kids.length k5) := by rw [XG.out.cell]; rfl
        go_wp2_with ((with_reducible refine at_st 4 41 ?_); refine ev_store (o := ⟨none, .store _ (.tmp 4) _, _, _, _, _⟩) rfl rfl TRx (.tmp 4) (.tmp 41) rfl (w.heap.size + 1) 0 rfl [.int .i64 T.kind, .slice A5 T.set.length c5, .slice K5 T.kids.length k5] rfl _ TRx M5.out (sizeRx' _ _ _) (by show 0 + 3 ≤ 3; omega) (three_one _ _ _ _ _ _ _) ?_; intro w5 hX5 hg5; have HX5 : Hid (Blk w5 (w.heap.size + 1) ([.int .i64 T.kind, .slice A5 T.set.length c5, .slice K5 T.kids.length k5]).toArray TRx) := hX5; have HG5 := Lib.hid hg5; clear hX5 hg5)
        refine bodyPost_ret (results_cell_row rfl _ _ (w.heap.size + 1) TRx _ (0, 0) _ rfl HX5.out.eq Tryz.underlying26 rfl (by rw [sizeRx]; rfl)) rfl ?_
        rw [E.out]
        exact rex_fin rfl rfl HP.out (HV5.out.mono fun z hz => by
          have h0 := HZ.out
          rcases hz with ⟨_, h | h⟩
          · exact ⟨fun e => by have := HP.out z h; omega, .inl h⟩
          · exact ⟨by omega, .inr (by omega)⟩) (below_then HB.out B7.out) HG5.out (by omega)
      replace E : Hid (dv b r = nOr T (dv b y)) := Lib.hid (E.out.trans (if_pos rfl))
      go_wp2_with fail
      have bd := below_drew (Below.refl w7.heap.size w7)
      have hdz := bd.size
      have D7 : Hid (Below wa.heap.size wa w7.drew) := Lib.hid (below_then B7.out bd)
      replace XG := Lib.hid (XG.out.below bd)
      replace HV5 := Lib.hid (HV5.out.under bd)
      replace M5 := Lib.hid (M5.out.below bd)
      refine wp_region_held_drew (S := fun w' => w'.cell? ⟨w.heap.size, 2, none⟩ = some (.slice (some ad) 2 ck) ∧ w'.cell? ad = some (.int .i64 x.kind) ∧ w'.cell? ⟨ad.block, ad.off + 1, none⟩ = some (.slice A1 x.set.length c1) ∧ w'.cell? ⟨ad.block, ad.off + 2, none⟩ = some (.slice K1 x.kids.length dk1) ∧
          w'.cell? ⟨ad.block, ad.off + 3, none⟩ = some (.int .i64 y.kind) ∧ w'.cell? ⟨ad.block, ad.off + 3 + 1, none⟩ = some (.slice A2 y.set.length c2) ∧ w'.cell? ⟨ad.block, ad.off + 3 + 2, none⟩ = some (.slice K2 y.kids.length dk2)) (by kernel_rfl) (HC.out _ (fun k hk _ => D7.out.block k hk)) (fun hHeld0 => ?_)
      refine wpAnyH_take (i := 1) (v := ?_) rfl (by kernel_rfl) (by kernel_rfl) (by kernel_rfl) (fun _ _ _ h => h) (Or.inl ⟨by rfl, ?_⟩) (by assumption) ?_
      rotate_left
      · (intro w hSw; (try dsimp only at hSw); go_simp; try with_reducible rfl)
      try simp only [Act.put, List.getElem_toArray, List.getElem_cons_zero, List.getElem_cons_succ, List.setIfInBounds_toArray, List.set_cons_zero, List.set_cons_succ]
      refine wpAnyH_take (i := 2) (v := ?_) rfl (by kernel_rfl) (by kernel_rfl) (by kernel_rfl) (fun _ _ _ h => h) (Or.inl ⟨by rfl, ?_⟩) (by assumption) ?_
      rotate_left
      · (intro w hSw; (try dsimp only at hSw); go_simp; try with_reducible rfl)
      try simp only [Act.put, List.getElem_toArray, List.getElem_cons_zero, List.getElem_cons_succ, List.setIfInBounds_toArray, List.set_cons_zero, List.set_cons_succ]
      refine wpAnyH_take (i := 3) (v := ?_) rfl (by kernel_rfl) (by kernel_rfl) (by kernel_rfl) (fun _ _ _ h => h) (Or.inl ⟨by rfl, ?_⟩) (by assumption) ?_
      rotate_left
      · (intro w hSw; (try dsimp only at hSw); go_simp; try with_reducible rfl)
      try simp only [Act.put, List.getElem_toArray, List.getElem_cons_zero, List.getElem_cons_succ, List.setIfInBounds_toArray, List.set_cons_zero, List.set_cons_succ]
      refine wpAnyH_take (i := 4) (v := ?_) rfl (by kernel_rfl) (by kernel_rfl) (by kernel_rfl) (fun _ _ _ h => h) (Or.inl ⟨by rfl, ?_⟩) (by assumption) ?_
      rotate_left
      · (intro w hSw; (try dsimp only at hSw); go_simp; try with_reducible rfl)
      try simp only [Act.put, List.getElem_toArray, List.getElem_cons_zero, List.getElem_cons_succ, List.setIfInBounds_toArray, List.set_cons_zero, List.set_cons_succ]
      refine wpAnyH_take (i := 5) (v := ?_) rfl (by kernel_rfl) (by kernel_rfl) (by kernel_rfl) (fun _ _ _ h => h) (Or.inl ⟨by rfl, ?_⟩) (by assumption) ?_
      rotate_left
      · (intro w hSw; (try dsimp only at hSw); go_simp; try with_reducible rfl)
      try simp only [Act.put, List.getElem_toArray, List.getElem_cons_zero, List.getElem_cons_succ, List.setIfInBounds_toArray, List.set_cons_zero, List.set_cons_succ]
      refine wpAnyH_ready (rs := [0, 6]) (by kernel_rfl) (by simp) ?_
      refine AllReadyH.cons (o := ⟨some 33, _, _, _, _, _⟩) rfl (fun K hK => ?_) (AllReadyH.cons (o := ⟨some 39, _, _, _, _, _⟩) rfl (fun K hK => ?_) AllReadyH.nil)
      · have g0 : (w7.drew).cell? ⟨g, 0, none⟩ = some (.int .i64 T.kind) := by rw [XG.out.cell]; rfl
        have g1 : (w7.drew).cell? ⟨g, 1, none⟩ = some (.slice A5 T.set.length c5) := by rw [XG.out.cell]; rfl
        have g2 : (w7.drew).cell? ⟨g, 2, none⟩ = some (.slice K5 T.kids.length k5) := by rw [XG.out.cell]; rfl
        go_simp
        clear g0 g1 g2
        refine hK.out _ _ (HC.out _ (fun k hk _ => D7.out.block k hk)) (fun hH => ?_)
        clear hK K
        try simp only [Act.put, List.getElem_toArray, List.getElem_cons_zero, List.getElem_cons_succ, List.setIfInBounds_toArray, List.set_cons_zero, List.set_cons_succ]
        refine wpAnyH_ready (rs := [6]) (by kernel_rfl) (by simp) ?_
        refine AllReadyH.cons (o := ⟨some 39, _, _, _, _, _⟩) rfl (fun K hK => ?_) AllReadyH.nil
        go_simp
        refine (IHY.out b _ _ (w7.drew) p WY.out (HY.out.under (D7.out)) (fun z hz => by have h1 := HP.out z hz; have h2 := (D7.out).size; omega) hmy (HPW.out.below (below_then HB.out (D7.out)))).mono ?_
        rintro e w8 ⟨A8, c8, K8, k8, rfl, hv8, b8⟩
        have B8 := Lib.hid (below_then (D7.out) b8)
        have h8z := b8.size
        have HV8 : Hid (RexP w8 (fun z => (z ≠ g ∧ (p z ∨ wa.heap.size ≤ z)) ∧ z < w8.heap.size) (dv b y) (.int .i64 (dv b y).kind) (.slice A8 (dv b y).set.length c8) (.slice K8 (dv b y).kids.length k8)) := Lib.hid (hv8.lt.mono fun z hz => ⟨by
          rcases hz.1 with h | h
          · exact ⟨by have := HP.out z h; omega, .inl h⟩
          · exact ⟨by omega, .inr (by omega)⟩, hz.2⟩)
        replace HV5 := Lib.hid ((HV5.out.under b8).lt)
        replace XG := Lib.hid (XG.out.below b8)
        replace M5 := Lib.hid (M5.out.below b8)
        clear hv8 b8
        (try go_wp2_with fail)
        refine hK.out _ _ (HC.out _ (fun k hk _ => B8.out.block k hk)) (fun hH => ?_)
        clear hK K
        try simp only [Act.put, List.getElem_toArray, List.getElem_cons_zero, List.getElem_cons_succ, List.setIfInBounds_toArray, List.set_cons_zero, List.set_cons_succ]
        refine wpAnyH_ready (rs := [7]) (by kernel_rfl) (by simp) ?_
        refine AllReadyH.cons (o := ⟨some 40, _, _, _, _, _⟩) rfl (fun K hK => ?_) AllReadyH.nil
        go_simp
        refine (iOr_c T (dv b y) _ _ _ _ w8 _ FT.out.wf FY.out.wf HV5.out HV8.out (fun z hz => hz.2) (size_many (m := 0) FT.out.wf (by omega)) (size_many (m := 0) FY.out.wf (by omega)) (by omega) (HPW.out.below (below_then HB.out B8.out))).mono ?_
        rintro e w9 ⟨A9, c9, K9, k9, rfl, hv9, b9⟩
        obtain ⟨TT, hTT⟩ : ∃ z, z = nOr T (dv b y) := ⟨_, rfl⟩
        rw [← hTT] at hv9 E ⊢
        have B9 := Lib.hid (below_then B8.out b9)
        have HV9 : Hid (RexP w9 (fun z => z ≠ g ∧ z ≠ w.heap.size + 1 ∧ (p z ∨ w.heap.size ≤ z)) TT (.int .i64 TT.kind) (.slice A9 TT.set.length c9) (.slice K9 TT.kids.length k9)) := Lib.hid (hv9.mono fun z hz => by
          have h0 := HZ.out
          rcases hz with ⟨⟨hne, h | h⟩, _⟩ | h
          · exact ⟨hne, fun e => by have := HP.out z h; omega, .inl h⟩
          · exact ⟨hne, by omega, .inr (by omega)⟩
          · exact ⟨by omega, by omega, .inr (by omega)⟩)
        replace XG := Lib.hid (XG.out.below b9)
        replace M5 := Lib.hid (M5.out.below b9)
        have h9z := b9.size
        clear hv9 b9 HV5 HV8 hTT
        (try go_wp2_with fail)
        refine hK.out _ _ (HC.out _ (fun k hk _ => B9.out.block k hk)) (fun hH => ?_)
        clear hK K
        try simp only [Act.put, List.getElem_toArray, List.getElem_cons_zero, List.getElem_cons_succ, List.setIfInBounds_toArray, List.set_cons_zero, List.set_cons_succ]
        have g0 : w9.cell? ⟨g, 0, none⟩ = some (.int .i64 T.kind) := by rw [XG.out.cell]; rfl
        have g1 : w9.cell? ⟨g, 1, none⟩ = some (.slice A5 T.set.length c5) := by rw [XG.out.cell]; rfl
        have g2 : w9.cell? ⟨g, 2, none⟩ = some (.slice K5 T.kids.length k5) := by rw [XG.out.cell]; rfl
        have f0 : w9.frozen? ⟨g, 0, none⟩ = false := XG.out.free 0
        have f1 : w9.frozen? ⟨g, 1, none⟩ = false := XG.out.free 1
        have f2 : w9.frozen? ⟨g, 2, none⟩ = false := XG.out.free 2
        refine wpAnyH_ready (rs := [8]) (by kernel_rfl) (by simp) ?_
        refine AllReadyH.cons (o := ⟨none, _, _, _, _, _⟩) rfl (fun K hK => ?_) AllReadyH.nil
        go_simp
        obtain ⟨wQ, hwQ⟩ : ∃ z : World, z = ((w9.setCell ⟨g, 0, none⟩ (.int .i64 TT.kind)).setCell ⟨g, 1, none⟩ (.slice A9 TT.set.length c9)).setCell ⟨g, 2, none⟩ (.slice K9 TT.kids.length k9) := ⟨_, rfl⟩
        have XQ : Hid (Blk wQ g #[.int .i64 TT.kind, .slice A9 TT.set.length c9, .slice K9 TT.kids.length k9] TRx) := by rw [hwQ]; exact Lib.hid (put3 rfl XG.out)
        have GQ : Hid (w9.grownBy wQ (some g)) := by rw [hwQ]; exact grown_set (grown_set (grown_set (grown_refl _ _) _ _) _ _) _ _
        rw [← hwQ]
        clear g0 g1 g2 f0 f1 f2 hwQ
        have BQ : Hid (Below wa.heap.size wa wQ) := Lib.hid (B9.out.grown GQ.out B9.out.size fun q hq => by have h1 := Option.some.inj hq; omega)
        have MQ : Hid (Blk wQ (w.heap.size + 1) #[.int .i64 0, nilS, nilS] TRx) := Lib.hid (M5.out.grown GQ.out fun k hk => by have h1 := Option.some.inj hk; have h0 := HZ.out; omega)
        refine hK.out _ _ (HC.out _ (fun k hk _ => BQ.out.block k hk)) (fun hH => ?_)
        clear hK K
        try simp only [Act.put, List.getElem_toArray, List.getElem_cons_zero, List.getElem_cons_succ, List.setIfInBounds_toArray, List.set_cons_zero, List.set_cons_succ]
        refine wpAnyH_done (by kernel_rfl) ?_ _
        clear HC
        have q0 : wQ.cell? ⟨g, 0, none⟩ = some (.int .i64 TT.kind) := by rw [XQ.out.cell]; rfl
        have q1 : wQ.cell? ⟨g, 1, none⟩ = some (.slice A9 TT.set.length c9) := by rw [XQ.out.cell]; rfl
        have q2 : wQ.cell? ⟨g, 2, none⟩ = some (.slice K9 TT.kids.length k9) := by rw [XQ.out.cell]; rfl
        go_wp2_with ((with_reducible refine at_st 4 41 ?_); refine ev_store (o := ⟨none, .store _ (.tmp 4) _, _, _, _, _⟩) rfl rfl TRx (.tmp 4) (.tmp 41) rfl (w.heap.size + 1) 0 rfl [.int .i64 TT.kind, .slice A9 TT.set.length c9, .slice K9 TT.kids.length k9] rfl _ TRx MQ.out (sizeRx' _ _ _) (by show 0 + 3 ≤ 3; omega) (three_one _ _ _ _ _ _ _) ?_; intro w5 hX5 hg5; have HX5 : Hid (Blk w5 (w.heap.size + 1) ([.int .i64 TT.kind, .slice A9 TT.set.length c9, .slice K9 TT.kids.length k9]).toArray TRx) := hX5; have HG5 := Lib.hid hg5; clear hX5 hg5)
        refine bodyPost_ret (results_cell_row rfl _ _ (w.heap.size + 1) TRx _ (0, 0) _ rfl HX5.out.eq Tryz.underlying26 rfl (by rw [sizeRx]; rfl)) rfl ?_
        rw [E.out]
        exact rex_fin rfl rfl HP.out ((HV9.out.keep fun z hz hlt => GQ.out.block z hlt fun e => hz.1 (Option.some.inj e)).mono fun z hz => hz.2) (below_then HB.out BQ.out) HG5.out (by omega)
      · go_simp
        go_simp
        refine (IHY.out b _ _ (w7.drew) p WY.out (HY.out.under (D7.out)) (fun z hz => by have h1 := HP.out z hz; have h2 := (D7.out).size; omega) hmy (HPW.out.below (below_then HB.out (D7.out)))).mono ?_
        rintro e w8 ⟨A8, c8, K8, k8, rfl, hv8, b8⟩
        have B8 := Lib.hid (below_then (D7.out) b8)
        have h8z := b8.size
        have HV8 : Hid (RexP w8 (fun z => (z ≠ g ∧ (p z ∨ wa.heap.size ≤ z)) ∧ z < w8.heap.size) (dv b y) (.int .i64 (dv b y).kind) (.slice A8 (dv b y).set.length c8) (.slice K8 (dv b y).kids.length k8)) := Lib.hid (hv8.lt.mono fun z hz => ⟨by
          rcases hz.1 with h | h
          · exact ⟨by have := HP.out z h; omega, .inl h⟩
          · exact ⟨by omega, .inr (by omega)⟩, hz.2⟩)
        replace HV5 := Lib.hid ((HV5.out.under b8).lt)
        replace XG := Lib.hid (XG.out.below b8)
        replace M5 := Lib.hid (M5.out.below b8)
        clear hv8 b8
        (try go_wp2_with fail)
        refine hK.out _ _ (HC.out _ (fun k hk _ => B8.out.block k hk)) (fun hH => ?_)
        clear hK K
        try simp only [Act.put, List.getElem_toArray, List.getElem_cons_zero, List.getElem_cons_succ, List.setIfInBounds_toArray, List.set_cons_zero, List.set_cons_succ]
        refine wpAnyH_ready (rs := [0]) (by kernel_rfl) (by simp) ?_
        refine AllReadyH.cons (o := ⟨some 33, _, _, _, _, _⟩) rfl (fun K hK => ?_) AllReadyH.nil
        have g0 : (w8).cell? ⟨g, 0, none⟩ = some (.int .i64 T.kind) := by rw [XG.out.cell]; rfl
        have g1 : (w8).cell? ⟨g, 1, none⟩ = some (.slice A5 T.set.length c5) := by rw [XG.out.cell]; rfl
        have g2 : (w8).cell? ⟨g, 2, none⟩ = some (.slice K5 T.kids.length k5) := by rw [XG.out.cell]; rfl
        go_simp
        clear g0 g1 g2
        refine hK.out _ _ (HC.out _ (fun k hk _ => B8.out.block k hk)) (fun hH => ?_)
        clear hK K
        try simp only [Act.put, List.getElem_toArray, List.getElem_cons_zero, List.getElem_cons_succ, List.setIfInBounds_toArray, List.set_cons_zero, List.set_cons_succ]
        refine wpAnyH_ready (rs := [7]) (by kernel_rfl) (by simp) ?_
        refine AllReadyH.cons (o := ⟨some 40, _, _, _, _, _⟩) rfl (fun K hK => ?_) AllReadyH.nil
        go_simp
        refine (iOr_c T (dv b y) _ _ _ _ w8 _ FT.out.wf FY.out.wf HV5.out HV8.out (fun z hz => hz.2) (size_many (m := 0) FT.out.wf (by omega)) (size_many (m := 0) FY.out.wf (by omega)) (by omega) (HPW.out.below (below_then HB.out B8.out))).mono ?_
        rintro e w9 ⟨A9, c9, K9, k9, rfl, hv9, b9⟩
        obtain ⟨TT, hTT⟩ : ∃ z, z = nOr T (dv b y) := ⟨_, rfl⟩
        rw [← hTT] at hv9 E ⊢
        have B9 := Lib.hid (below_then B8.out b9)
        have HV9 : Hid (RexP w9 (fun z => z ≠ g ∧ z ≠ w.heap.size + 1 ∧ (p z ∨ w.heap.size ≤ z)) TT (.int .i64 TT.kind) (.slice A9 TT.set.length c9) (.slice K9 TT.kids.length k9)) := Lib.hid (hv9.mono fun z hz => by
          have h0 := HZ.out
          rcases hz with ⟨⟨hne, h | h⟩, _⟩ | h
          · exact ⟨hne, fun e => by have := HP.out z h; omega, .inl h⟩
          · exact ⟨hne, by omega, .inr (by omega)⟩
          · exact ⟨by omega, by omega, .inr (by omega)⟩)
        replace XG := Lib.hid (XG.out.below b9)
        replace M5 := Lib.hid (M5.out.below b9)
        have h9z := b9.size
        clear hv9 b9 HV5 HV8 hTT
        (try go_wp2_with fail)
        refine hK.out _ _ (HC.out _ (fun k hk _ => B9.out.block k hk)) (fun hH => ?_)
        clear hK K
        try simp only [Act.put, List.getElem_toArray, List.getElem_cons_zero, List.getElem_cons_succ, List.setIfInBounds_toArray, List.set_cons_zero, List.set_cons_succ]
        have g0 : w9.cell? ⟨g, 0, none⟩ = some (.int .i64 T.kind) := by rw [XG.out.cell]; rfl
        have g1 : w9.cell? ⟨g, 1, none⟩ = some (.slice A5 T.set.length c5) := by rw [XG.out.cell]; rfl
        have g2 : w9.cell? ⟨g, 2, none⟩ = some (.slice K5 T.kids.length k5) := by rw [XG.out.cell]; rfl
        have f0 : w9.frozen? ⟨g, 0, none⟩ = false := XG.out.free 0
        have f1 : w9.frozen? ⟨g, 1, none⟩ = false := XG.out.free 1
        have f2 : w9.frozen? ⟨g, 2, none⟩ = false := XG.out.free 2
        refine wpAnyH_ready (rs := [8]) (by kernel_rfl) (by simp) ?_
        refine AllReadyH.cons (o := ⟨none, _, _, _, _, _⟩) rfl (fun K hK => ?_) AllReadyH.nil
        go_simp
        obtain ⟨wQ, hwQ⟩ : ∃ z : World, z = ((w9.setCell ⟨g, 0, none⟩ (.int .i64 TT.kind)).setCell ⟨g, 1, none⟩ (.slice A9 TT.set.length c9)).setCell ⟨g, 2, none⟩ (.slice K9 TT.kids.length k9) := ⟨_, rfl⟩
        have XQ : Hid (Blk wQ g #[.int .i64 TT.kind, .slice A9 TT.set.length c9, .slice K9 TT.kids.length k9] TRx) := by rw [hwQ]; exact Lib.hid (put3 rfl XG.out)
        have GQ : Hid (w9.grownBy wQ (some g)) := by rw [hwQ]; exact grown_set (grown_set (grown_set (grown_refl _ _) _ _) _ _) _ _
        rw [← hwQ]
        clear g0 g1 g2 f0 f1 f2 hwQ
        have BQ : Hid (Below wa.heap.size wa wQ) := Lib.hid (B9.out.grown GQ.out B9.out.size fun q hq => by have h1 := Option.some.inj hq; omega)
        have MQ : Hid (Blk wQ (w.heap.size + 1) #[.int .i64 0, nilS, nilS] TRx) := Lib.hid (M5.out.grown GQ.out fun k hk => by have h1 := Option.some.inj hk; have h0 := HZ.out; omega)
        refine hK.out _ _ (HC.out _ (fun k hk _ => BQ.out.block k hk)) (fun hH => ?_)
        clear hK K
        try simp only [Act.put, List.getElem_toArray, List.getElem_cons_zero, List.getElem_cons_succ, List.setIfInBounds_toArray, List.set_cons_zero, List.set_cons_succ]
        refine wpAnyH_done (by kernel_rfl) ?_ _
        clear HC
        have q0 : wQ.cell? ⟨g, 0, none⟩ = some (.int .i64 TT.kind) := by rw [XQ.out.cell]; rfl
        have q1 : wQ.cell? ⟨g, 1, none⟩ = some (.slice A9 TT.set.length c9) := by rw [XQ.out.cell]; rfl
        have q2 : wQ.cell? ⟨g, 2, none⟩ = some (.slice K9 TT.kids.length k9) := by rw [XQ.out.cell]; rfl
        go_wp2_with ((with_reducible refine at_st 4 41 ?_); refine ev_store (o := ⟨none, .store _ (.tmp 4) _, _, _, _, _⟩) rfl rfl TRx (.tmp 4) (.tmp 41) rfl (w.heap.size + 1) 0 rfl [.int .i64 TT.kind, .slice A9 TT.set.length c9, .slice K9 TT.kids.length k9] rfl _ TRx MQ.out (sizeRx' _ _ _) (by show 0 + 3 ≤ 3; omega) (three_one _ _ _ _ _ _ _) ?_; intro w5 hX5 hg5; have HX5 : Hid (Blk w5 (w.heap.size + 1) ([.int .i64 TT.kind, .slice A9 TT.set.length c9, .slice K9 TT.kids.length k9]).toArray TRx) := hX5; have HG5 := Lib.hid hg5; clear hX5 hg5)
        refine bodyPost_ret (results_cell_row rfl _ _ (w.heap.size + 1) TRx _ (0, 0) _ rfl HX5.out.eq Tryz.underlying26 rfl (by rw [sizeRx]; rfl)) rfl ?_
        rw [E.out]
        exact rex_fin rfl rfl HP.out ((HV9.out.keep fun z hz hlt => GQ.out.block z hlt fun e => hz.1 (Option.some.inj e)).mono fun z hz => hz.2) (below_then HB.out BQ.out) HG5.out (by omega)
  by_cases k4 : r.kind = 4
  · obtain ⟨x, y, ex, wx, wy⟩ := wf_kids2 hwf (by omega)
    have ekids : r.kids = [x, y] := by rw [ex]; rfl
    have hm2 : r.many = x.many + y.many + 1 := by rw [ex]; exact two_many _ x y
    obtain ⟨_, _, _, _, _, _, e2, _, hkk⟩ := HV.out.parts
    injection e2 with e3 e4 e5
    subst e3 e5
    rw [ekids] at hkk
    obtain ⟨ad, A1, c1, K1, dk1, A2, c2, K2, dk2, rfl, hx, x0, x1, x2, hy, y0, y1, y2⟩ := hkk.two
    have HX := Lib.hid hx
    have HY := Lib.hid hy
    have IHX : Hid (DvOk 57 x) := IH.out x (by rw [ekids]; simp)
    have IHY : Hid (DvOk 57 y) := IH.out y (by rw [ekids]; simp)
    have WX := Lib.hid wx
    have WY := Lib.hid wy
    have FX := Lib.hid (dv_fit b x wx)
    have FY := Lib.hid (dv_fit b y wy)
    have hds := dv_sum b wx wy (by omega)
    have hmx : x.many ≤ 120 := by omega
    have hmy : y.many ≤ 120 := by omega
    have hadp : p ad.block := hkk.ok ad rfl (by simp)
    have hadl : ad.block < w.heap.size := HP.out _ hadp
    rw [ekids] at n2
    simp only [List.length_cons, List.length_nil, Nat.zero_add] at n2
    have HC : Hid (∀ w' : World, (∀ k, k < wa.heap.size → k ≠ w.heap.size + 1 → w'.heap[k]? = wa.heap[k]?) → w'.cell? ⟨w.heap.size, 2, none⟩ = some (.slice (some ad) 2 ck) ∧ w'.cell? ad = some (.int .i64 x.kind) ∧ w'.cell? ⟨ad.block, ad.off + 1, none⟩ = some (.slice A1 x.set.length c1) ∧ w'.cell? ⟨ad.block, ad.off + 2, none⟩ = some (.slice K1 x.kids.length dk1) ∧
        w'.cell? ⟨ad.block, ad.off + 3, none⟩ = some (.int .i64 y.kind) ∧ w'.cell? ⟨ad.block, ad.off + 3 + 1, none⟩ = some (.slice A2 y.set.length c2) ∧ w'.cell? ⟨ad.block, ad.off + 3 + 2, none⟩ = some (.slice K2 y.kids.length dk2)) := fun w' hb =>
      have up : ∀ {q : Addr} {v : Value}, q.block ≠ w.heap.size + 1 → wa.cell? q = some v → w'.cell? q = some v := fun {q v} hne h => (World.cell?_of_block (w := wa) (hb _ (World.block_lt_of_cell? wa q h) hne)).trans h
      ⟨up (by show w.heap.size ≠ _; omega) n2, up (by omega) x0, up (by show ad.block ≠ _; omega) x1, up (by show ad.block ≠ _; omega) x2, up (by show ad.block ≠ _; omega) y0, up (by show ad.block ≠ _; omega) y1, up (by show ad.block ≠ _; omega) y2⟩
    have E : Hid (dv b r = nOr (dv b x) (dv b y)) := by show _ = _; rw [ex, k4]; exact dv_or b [] x y
    have d1 : (r.kind == 1) = false := by simp [k1]
    have d3 : (r.kind == 3) = false := by simp [k3]
    have d4 : (r.kind == 4) = true := by simp [k4]
    clear k1 k3 k4
    go_enter Tryz.func57, Tryz.ntmps57
    clear ex ekids e4 hx hy wx wy IH hwf hm2 hkk
    go_wp2_with fail
    clear hwa n0 n1 n2 x0 x1 x2 y0 y1 y2
    refine wp_region_held_drew (S := fun w' => w'.cell? ⟨w.heap.size, 2, none⟩ = some (.slice (some ad) 2 ck) ∧ w'.cell? ad = some (.int .i64 x.kind) ∧ w'.cell? ⟨ad.block, ad.off + 1, none⟩ = some (.slice A1 x.set.length c1) ∧ w'.cell? ⟨ad.block, ad.off + 2, none⟩ = some (.slice K1 x.kids.length dk1) ∧
        w'.cell? ⟨ad.block, ad.off + 3, none⟩ = some (.int .i64 y.kind) ∧ w'.cell? ⟨ad.block, ad.off + 3 + 1, none⟩ = some (.slice A2 y.set.length c2) ∧ w'.cell? ⟨ad.block, ad.off + 3 + 2, none⟩ = some (.slice K2 y.kids.length dk2)) (by kernel_rfl) (HC.out _ (fun k hk _ => (below_drew (Below.refl wa.heap.size wa)).block k hk)) (fun hHeld0 => ?_)
    refine wpAnyH_take (i := 0) (v := ?_) rfl (by kernel_rfl) (by kernel_rfl) (by kernel_rfl) (fun _ _ _ h => h) (Or.inl ⟨by rfl, ?_⟩) (by assumption) ?_
    rotate_left
    · (intro w hSw; (try dsimp only at hSw); go_simp; try with_reducible rfl)
    try simp only [Act.put, List.getElem_toArray, List.getElem_cons_zero, List.getElem_cons_succ, List.setIfInBounds_toArray, List.set_cons_zero, List.set_cons_succ]
    refine wpAnyH_take (i := 1) (v := ?_) rfl (by kernel_rfl) (by kernel_rfl) (by kernel_rfl) (fun _ _ _ h => h) (Or.inl ⟨by rfl, ?_⟩) (by assumption) ?_
    rotate_left
    · (intro w hSw; (try dsimp only at hSw); go_simp; try with_reducible rfl)
    try simp only [Act.put, List.getElem_toArray, List.getElem_cons_zero, List.getElem_cons_succ, List.setIfInBounds_toArray, List.set_cons_zero, List.set_cons_succ]
    refine wpAnyH_take (i := 2) (v := ?_) rfl (by kernel_rfl) (by kernel_rfl) (by kernel_rfl) (fun _ _ _ h => h) (Or.inl ⟨by rfl, ?_⟩) (by assumption) ?_
    rotate_left
    · (intro w hSw; (try dsimp only at hSw); go_simp; try with_reducible rfl)
    try simp only [Act.put, List.getElem_toArray, List.getElem_cons_zero, List.getElem_cons_succ, List.setIfInBounds_toArray, List.set_cons_zero, List.set_cons_succ]
    refine wpAnyH_take (i := 3) (v := ?_) rfl (by kernel_rfl) (by kernel_rfl) (by kernel_rfl) (fun _ _ _ h => h) (Or.inl ⟨by rfl, ?_⟩) (by assumption) ?_
    rotate_left
    · (intro w hSw; (try dsimp only at hSw); go_simp; try with_reducible rfl)
    try simp only [Act.put, List.getElem_toArray, List.getElem_cons_zero, List.getElem_cons_succ, List.setIfInBounds_toArray, List.set_cons_zero, List.set_cons_succ]
    refine wpAnyH_take (i := 4) (v := ?_) rfl (by kernel_rfl) (by kernel_rfl) (by kernel_rfl) (fun _ _ _ h => h) (Or.inl ⟨by rfl, ?_⟩) (by assumption) ?_
    rotate_left
    · (intro w hSw; (try dsimp only at hSw); go_simp; try with_reducible rfl)
    try simp only [Act.put, List.getElem_toArray, List.getElem_cons_zero, List.getElem_cons_succ, List.setIfInBounds_toArray, List.set_cons_zero, List.set_cons_succ]
    refine wpAnyH_take (i := 6) (v := ?_) rfl (by kernel_rfl) (by kernel_rfl) (by kernel_rfl) (fun _ _ _ h => h) (Or.inl ⟨by rfl, ?_⟩) (by assumption) ?_
    rotate_left
    · (intro w hSw; (try dsimp only at hSw); go_simp; try with_reducible rfl)
    try simp only [Act.put, List.getElem_toArray, List.getElem_cons_zero, List.getElem_cons_succ, List.setIfInBounds_toArray, List.set_cons_zero, List.set_cons_succ]
    refine wpAnyH_take (i := 7) (v := ?_) rfl (by kernel_rfl) (by kernel_rfl) (by kernel_rfl) (fun _ _ _ h => h) (Or.inl ⟨by rfl, ?_⟩) (by assumption) ?_
    rotate_left
    · (intro w hSw; (try dsimp only at hSw); go_simp; try with_reducible rfl)
    try simp only [Act.put, List.getElem_toArray, List.getElem_cons_zero, List.getElem_cons_succ, List.setIfInBounds_toArray, List.set_cons_zero, List.set_cons_succ]
    refine wpAnyH_take (i := 8) (v := ?_) rfl (by kernel_rfl) (by kernel_rfl) (by kernel_rfl) (fun _ _ _ h => h) (Or.inl ⟨by rfl, ?_⟩) (by assumption) ?_
    rotate_left
    · (intro w hSw; (try dsimp only at hSw); go_simp; try with_reducible rfl)
    try simp only [Act.put, List.getElem_toArray, List.getElem_cons_zero, List.getElem_cons_succ, List.setIfInBounds_toArray, List.set_cons_zero, List.set_cons_succ]
    refine wpAnyH_take (i := 9) (v := ?_) rfl (by kernel_rfl) (by kernel_rfl) (by kernel_rfl) (fun _ _ _ h => h) (Or.inl ⟨by rfl, ?_⟩) (by assumption) ?_
    rotate_left
    · (intro w hSw; (try dsimp only at hSw); go_simp; try with_reducible rfl)
    try simp only [Act.put, List.getElem_toArray, List.getElem_cons_zero, List.getElem_cons_succ, List.setIfInBounds_toArray, List.set_cons_zero, List.set_cons_succ]
    refine wpAnyH_take (i := 10) (v := ?_) rfl (by kernel_rfl) (by kernel_rfl) (by kernel_rfl) (fun _ _ _ h => h) (Or.inl ⟨by rfl, ?_⟩) (by assumption) ?_
    rotate_left
    · (intro w hSw; (try dsimp only at hSw); go_simp; try with_reducible rfl)
    try simp only [Act.put, List.getElem_toArray, List.getElem_cons_zero, List.getElem_cons_succ, List.setIfInBounds_toArray, List.set_cons_zero, List.set_cons_succ]
    have hdz := (below_drew (Below.refl wa.heap.size wa)).size
    have hwz := HB.out.size
    refine wpAnyH_ready (rs := [5]) (by kernel_rfl) (by simp) ?_
    refine AllReadyH.cons (o := ⟨some 49, _, _, _, _, _⟩) rfl (fun K hK => ?_) AllReadyH.nil
    go_simp
    refine (IHX.out b _ _ wa.drew p WX.out (HX.out.under (below_drew (Below.refl _ _))) (fun z hz => by have := HP.out z hz; omega) hmx (HPW.out.below (below_then HB.out (below_drew (Below.refl _ _))))).mono ?_
    rintro e w3 ⟨A3, c3, K3, k3, rfl, hv3, b3⟩
    have B3 := Lib.hid (below_then (below_drew (Below.refl wa.heap.size wa)) b3)
    have HV3 : Hid (RexP w3 (fun z => p z ∨ wa.heap.size ≤ z) (dv b x) (.int .i64 (dv b x).kind) (.slice A3 (dv b x).set.length c3) (.slice K3 (dv b x).kids.length k3)) := hv3.mono fun z hz => hz.imp id fun h => by omega
    clear hv3 b3
    (try go_wp2_with fail)
    refine hK.out _ _ (HC.out w3 (fun k hk _ => B3.out.block k hk)) (fun hHeld1 => ?_)
    clear hK K hHeld0
    try simp only [Act.put, List.getElem_toArray, List.getElem_cons_zero, List.getElem_cons_succ, List.setIfInBounds_toArray, List.set_cons_zero, List.set_cons_succ]
    have h3z := B3.out.size
    refine wpAnyH_ready (rs := [11]) (by kernel_rfl) (by simp) ?_
    refine AllReadyH.cons (o := ⟨some 55, _, _, _, _, _⟩) rfl (fun K hK => ?_) AllReadyH.nil
    go_simp
    refine (IHY.out b _ _ w3 p WY.out (HY.out.under B3.out) (fun z hz => by have := HP.out z hz; omega) hmy (HPW.out.below (below_then HB.out B3.out))).mono ?_
    rintro e w4 ⟨A4, c4, K4, k4, rfl, hv4, b4⟩
    have B4 := Lib.hid (below_then B3.out b4)
    have HV4 : Hid (RexP w4 (fun z => (p z ∨ wa.heap.size ≤ z) ∧ z < w4.heap.size) (dv b y) (.int .i64 (dv b y).kind) (.slice A4 (dv b y).set.length c4) (.slice K4 (dv b y).kids.length k4)) := hv4.lt.mono fun z hz => ⟨hz.1.imp id fun h => by omega, hz.2⟩
    have HV34 : Hid (RexP w4 (fun z => (p z ∨ wa.heap.size ≤ z) ∧ z < w4.heap.size) (dv b x) (.int .i64 (dv b x).kind) (.slice A3 (dv b x).set.length c3) (.slice K3 (dv b x).kids.length k3)) := (HV3.out.under b4).lt
    clear hv4 b4 HV3
    (try go_wp2_with fail)
    refine hK.out _ _ (HC.out w4 (fun k hk _ => B4.out.block k hk)) (fun hHeld2 => ?_)
    clear hK K hHeld1
    try simp only [Act.put, List.getElem_toArray, List.getElem_cons_zero, List.getElem_cons_succ, List.setIfInBounds_toArray, List.set_cons_zero, List.set_cons_succ]
    have h4z := B4.out.size
    refine wpAnyH_ready (rs := [12]) (by kernel_rfl) (by simp) ?_
    refine AllReadyH.cons (o := ⟨some 56, _, _, _, _, _⟩) rfl (fun K hK => ?_) AllReadyH.nil
    go_simp
    refine (iOr_c (dv b x) (dv b y) _ _ _ _ w4 _ FX.out.wf FY.out.wf HV34.out HV4.out (fun z hz => hz.2) (size_many (m := 0) FX.out.wf (by omega)) (size_many (m := 0) FY.out.wf (by omega)) (by omega) (HPW.out.below (below_then HB.out B4.out))).mono ?_
    rintro e w5 ⟨A5, c5, K5, k5, rfl, hv5, b5⟩
    obtain ⟨T, hT⟩ : ∃ z, z = nOr (dv b x) (dv b y) := ⟨_, rfl⟩
    rw [← hT] at hv5 E ⊢
    have B5 := Lib.hid (below_then B4.out b5)
    have HV5 : Hid (RexP w5 (fun z => z ≠ w.heap.size + 1 ∧ (p z ∨ w.heap.size ≤ z)) T (.int .i64 T.kind) (.slice A5 T.set.length c5) (.slice K5 T.kids.length k5)) := hv5.mono fun z hz => by
      have h0 := HZ.out
      rcases hz with ⟨h | h, _⟩ | h
      · exact ⟨fun e => by have := HP.out z h; omega, .inl h⟩
      · exact ⟨by omega, .inr (by omega)⟩
      · exact ⟨by omega, .inr (by omega)⟩
    have M5 := Lib.hid (M1.out.below B5.out)
    clear hv5 b5 HV34 HV4 hT
    (try go_wp2_with fail)
    refine hK.out _ _ (HC.out w5 (fun k hk _ => B5.out.block k hk)) (fun hHeld3 => ?_)
    clear hK K hHeld2
    try simp only [Act.put, List.getElem_toArray, List.getElem_cons_zero, List.getElem_cons_succ, List.setIfInBounds_toArray, List.set_cons_zero, List.set_cons_succ]
    have g0 : w5.cell? ⟨w.heap.size + 1, 0, none⟩ = some (.int .i64 0) := by rw [M5.out.cell]; rfl
    have g1 : w5.cell? ⟨w.heap.size + 1, 1, none⟩ = some nilS := by rw [M5.out.cell]; rfl
    have g2 : w5.cell? ⟨w.heap.size + 1, 2, none⟩ = some nilS := by rw [M5.out.cell]; rfl
    have f0 : w5.frozen? ⟨w.heap.size + 1, 0, none⟩ = false := M5.out.free 0
    have f1 : w5.frozen? ⟨w.heap.size + 1, 1, none⟩ = false := M5.out.free 1
    have f2 : w5.frozen? ⟨w.heap.size + 1, 2, none⟩ = false := M5.out.free 2
    refine wpAnyH_ready (rs := [13]) (by kernel_rfl) (by simp) ?_
    refine AllReadyH.cons (o := ⟨none, _, _, _, _, _⟩) rfl (fun K hK => ?_) AllReadyH.nil
    go_simp
    obtain ⟨w6, hw6⟩ : ∃ z : World, z = ((w5.setCell ⟨w.heap.size + 1, 0, none⟩ (.int .i64 T.kind)).setCell ⟨w.heap.size + 1, 1, none⟩ (.slice A5 T.set.length c5)).setCell ⟨w.heap.size + 1, 2, none⟩ (.slice K5 T.kids.length k5) := ⟨_, rfl⟩
    have HX5 : Hid (Blk w6 (w.heap.size + 1) #[.int .i64 T.kind, .slice A5 T.set.length c5, .slice K5 T.kids.length k5] TRx) := by rw [hw6]; exact Lib.hid (put3 rfl M5.out)
    have HG5 : Hid (w5.grownBy w6 (some (w.heap.size + 1))) := by rw [hw6]; exact grown_set (grown_set (grown_set (grown_refl _ _) _ _) _ _) _ _
    rw [← hw6]
    clear g0 g1 g2 f0 f1 f2 hw6
    refine hK.out _ _ (HC.out w6 (fun k hk hne => (HG5.out.block k (Nat.lt_of_lt_of_le hk B5.out.size) (fun e => hne (Option.some.inj e))).trans (B5.out.block k hk))) (fun hH => ?_)
    clear hK K
    try simp only [Act.put, List.getElem_toArray, List.getElem_cons_zero, List.getElem_cons_succ, List.setIfInBounds_toArray, List.set_cons_zero, List.set_cons_succ]
    refine wpAnyH_done (by kernel_rfl) ?_ _
    clear HC
    go_wp2_with fail
    refine bodyPost_ret (results_cell_row rfl _ _ (w.heap.size + 1) TRx _ (0, 0) _ rfl HX5.out.eq Tryz.underlying26 rfl (by rw [sizeRx]; rfl)) rfl ?_
    rw [E.out]
    exact rex_fin rfl rfl HP.out HV5.out (below_then HB.out B5.out) HG5.out (by omega)
  by_cases k6 : r.kind = 6
  · obtain ⟨x, y, ex, wx, wy⟩ := wf_kids2 hwf (by omega)
    have ekids : r.kids = [x, y] := by rw [ex]; rfl
    have hm2 : r.many = x.many + y.many + 1 := by rw [ex]; exact two_many _ x y
    obtain ⟨_, _, _, _, _, _, e2, _, hkk⟩ := HV.out.parts
    injection e2 with e3 e4 e5
    subst e3 e5
    rw [ekids] at hkk
    obtain ⟨ad, A1, c1, K1, dk1, A2, c2, K2, dk2, rfl, hx, x0, x1, x2, hy, y0, y1, y2⟩ := hkk.two
    have HX := Lib.hid hx
    have HY := Lib.hid hy
    have IHX : Hid (DvOk 57 x) := IH.out x (by rw [ekids]; simp)
    have IHY : Hid (DvOk 57 y) := IH.out y (by rw [ekids]; simp)
    have WX := Lib.hid wx
    have WY := Lib.hid wy
    have FX := Lib.hid (dv_fit b x wx)
    have FY := Lib.hid (dv_fit b y wy)
    have hds := dv_sum b wx wy (by omega)
    have hmx : x.many ≤ 120 := by omega
    have hmy : y.many ≤ 120 := by omega
    have hadp : p ad.block := hkk.ok ad rfl (by simp)
    have hadl : ad.block < w.heap.size := HP.out _ hadp
    rw [ekids] at n2
    simp only [List.length_cons, List.length_nil, Nat.zero_add] at n2
    have HC : Hid (∀ w' : World, (∀ k, k < wa.heap.size → k ≠ w.heap.size + 1 → w'.heap[k]? = wa.heap[k]?) → w'.cell? ⟨w.heap.size, 2, none⟩ = some (.slice (some ad) 2 ck) ∧ w'.cell? ad = some (.int .i64 x.kind) ∧ w'.cell? ⟨ad.block, ad.off + 1, none⟩ = some (.slice A1 x.set.length c1) ∧ w'.cell? ⟨ad.block, ad.off + 2, none⟩ = some (.slice K1 x.kids.length dk1) ∧
        w'.cell? ⟨ad.block, ad.off + 3, none⟩ = some (.int .i64 y.kind) ∧ w'.cell? ⟨ad.block, ad.off + 3 + 1, none⟩ = some (.slice A2 y.set.length c2) ∧ w'.cell? ⟨ad.block, ad.off + 3 + 2, none⟩ = some (.slice K2 y.kids.length dk2)) := fun w' hb =>
      have up : ∀ {q : Addr} {v : Value}, q.block ≠ w.heap.size + 1 → wa.cell? q = some v → w'.cell? q = some v := fun {q v} hne h => (World.cell?_of_block (w := wa) (hb _ (World.block_lt_of_cell? wa q h) hne)).trans h
      ⟨up (by show w.heap.size ≠ _; omega) n2, up (by omega) x0, up (by show ad.block ≠ _; omega) x1, up (by show ad.block ≠ _; omega) x2, up (by show ad.block ≠ _; omega) y0, up (by show ad.block ≠ _; omega) y1, up (by show ad.block ≠ _; omega) y2⟩
    have E : Hid (dv b r = nAnd (dv b x) (dv b y)) := by show _ = _; rw [ex, k6]; exact dv_and b [] x y
    have d1 : (r.kind == 1) = false := by simp [k1]
    have d3 : (r.kind == 3) = false := by simp [k3]
    have d4 : (r.kind == 4) = false := by simp [k4]
    have d6 : (r.kind == 6) = true := by simp [k6]
    clear k1 k3 k4 k6
    go_enter Tryz.func57, Tryz.ntmps57
    clear ex ekids e4 hx hy wx wy IH hwf hm2 hkk
    go_wp2_with fail
    clear hwa n0 n1 n2 x0 x1 x2 y0 y1 y2
    refine wp_region_held_drew (S := fun w' => w'.cell? ⟨w.heap.size, 2, none⟩ = some (.slice (some ad) 2 ck) ∧ w'.cell? ad = some (.int .i64 x.kind) ∧ w'.cell? ⟨ad.block, ad.off + 1, none⟩ = some (.slice A1 x.set.length c1) ∧ w'.cell? ⟨ad.block, ad.off + 2, none⟩ = some (.slice K1 x.kids.length dk1) ∧
        w'.cell? ⟨ad.block, ad.off + 3, none⟩ = some (.int .i64 y.kind) ∧ w'.cell? ⟨ad.block, ad.off + 3 + 1, none⟩ = some (.slice A2 y.set.length c2) ∧ w'.cell? ⟨ad.block, ad.off + 3 + 2, none⟩ = some (.slice K2 y.kids.length dk2)) (by kernel_rfl) (HC.out _ (fun k hk _ => (below_drew (Below.refl wa.heap.size wa)).block k hk)) (fun hHeld0 => ?_)
    refine wpAnyH_take (i := 0) (v := ?_) rfl (by kernel_rfl) (by kernel_rfl) (by kernel_rfl) (fun _ _ _ h => h) (Or.inl ⟨by rfl, ?_⟩) (by assumption) ?_
    rotate_left
    · (intro w hSw; (try dsimp only at hSw); go_simp; try with_reducible rfl)
    try simp only [Act.put, List.getElem_toArray, List.getElem_cons_zero, List.getElem_cons_succ, List.setIfInBounds_toArray, List.set_cons_zero, List.set_cons_succ]
    refine wpAnyH_take (i := 1) (v := ?_) rfl (by kernel_rfl) (by kernel_rfl) (by kernel_rfl) (fun _ _ _ h => h) (Or.inl ⟨by rfl, ?_⟩) (by assumption) ?_
    rotate_left
    · (intro w hSw; (try dsimp only at hSw); go_simp; try with_reducible rfl)
    try simp only [Act.put, List.getElem_toArray, List.getElem_cons_zero, List.getElem_cons_succ, List.setIfInBounds_toArray, List.set_cons_zero, List.set_cons_succ]
    refine wpAnyH_take (i := 2) (v := ?_) rfl (by kernel_rfl) (by kernel_rfl) (by kernel_rfl) (fun _ _ _ h => h) (Or.inl ⟨by rfl, ?_⟩) (by assumption) ?_
    rotate_left
    · (intro w hSw; (try dsimp only at hSw); go_simp; try with_reducible rfl)
    try simp only [Act.put, List.getElem_toArray, List.getElem_cons_zero, List.getElem_cons_succ, List.setIfInBounds_toArray, List.set_cons_zero, List.set_cons_succ]
    refine wpAnyH_take (i := 3) (v := ?_) rfl (by kernel_rfl) (by kernel_rfl) (by kernel_rfl) (fun _ _ _ h => h) (Or.inl ⟨by rfl, ?_⟩) (by assumption) ?_
    rotate_left
    · (intro w hSw; (try dsimp only at hSw); go_simp; try with_reducible rfl)
    try simp only [Act.put, List.getElem_toArray, List.getElem_cons_zero, List.getElem_cons_succ, List.setIfInBounds_toArray, List.set_cons_zero, List.set_cons_succ]
    refine wpAnyH_take (i := 4) (v := ?_) rfl (by kernel_rfl) (by kernel_rfl) (by kernel_rfl) (fun _ _ _ h => h) (Or.inl ⟨by rfl, ?_⟩) (by assumption) ?_
    rotate_left
    · (intro w hSw; (try dsimp only at hSw); go_simp; try with_reducible rfl)
    try simp only [Act.put, List.getElem_toArray, List.getElem_cons_zero, List.getElem_cons_succ, List.setIfInBounds_toArray, List.set_cons_zero, List.set_cons_succ]
    refine wpAnyH_take (i := 6) (v := ?_) rfl (by kernel_rfl) (by kernel_rfl) (by kernel_rfl) (fun _ _ _ h => h) (Or.inl ⟨by rfl, ?_⟩) (by assumption) ?_
    rotate_left
    · (intro w hSw; (try dsimp only at hSw); go_simp; try with_reducible rfl)
    try simp only [Act.put, List.getElem_toArray, List.getElem_cons_zero, List.getElem_cons_succ, List.setIfInBounds_toArray, List.set_cons_zero, List.set_cons_succ]
    refine wpAnyH_take (i := 7) (v := ?_) rfl (by kernel_rfl) (by kernel_rfl) (by kernel_rfl) (fun _ _ _ h => h) (Or.inl ⟨by rfl, ?_⟩) (by assumption) ?_
    rotate_left
    · (intro w hSw; (try dsimp only at hSw); go_simp; try with_reducible rfl)
    try simp only [Act.put, List.getElem_toArray, List.getElem_cons_zero, List.getElem_cons_succ, List.setIfInBounds_toArray, List.set_cons_zero, List.set_cons_succ]
    refine wpAnyH_take (i := 8) (v := ?_) rfl (by kernel_rfl) (by kernel_rfl) (by kernel_rfl) (fun _ _ _ h => h) (Or.inl ⟨by rfl, ?_⟩) (by assumption) ?_
    rotate_left
    · (intro w hSw; (try dsimp only at hSw); go_simp; try with_reducible rfl)
    try simp only [Act.put, List.getElem_toArray, List.getElem_cons_zero, List.getElem_cons_succ, List.setIfInBounds_toArray, List.set_cons_zero, List.set_cons_succ]
    refine wpAnyH_take (i := 9) (v := ?_) rfl (by kernel_rfl) (by kernel_rfl) (by kernel_rfl) (fun _ _ _ h => h) (Or.inl ⟨by rfl, ?_⟩) (by assumption) ?_
    rotate_left
    · (intro w hSw; (try dsimp only at hSw); go_simp; try with_reducible rfl)
    try simp only [Act.put, List.getElem_toArray, List.getElem_cons_zero, List.getElem_cons_succ, List.setIfInBounds_toArray, List.set_cons_zero, List.set_cons_succ]
    refine wpAnyH_take (i := 10) (v := ?_) rfl (by kernel_rfl) (by kernel_rfl) (by kernel_rfl) (fun _ _ _ h => h) (Or.inl ⟨by rfl, ?_⟩) (by assumption) ?_
    rotate_left
    · (intro w hSw; (try dsimp only at hSw); go_simp; try with_reducible rfl)
    try simp only [Act.put, List.getElem_toArray, List.getElem_cons_zero, List.getElem_cons_succ, List.setIfInBounds_toArray, List.set_cons_zero, List.set_cons_succ]
    have hdz := (below_drew (Below.refl wa.heap.size wa)).size
    have hwz := HB.out.size
    refine wpAnyH_ready (rs := [5]) (by kernel_rfl) (by simp) ?_
    refine AllReadyH.cons (o := ⟨some 64, _, _, _, _, _⟩) rfl (fun K hK => ?_) AllReadyH.nil
    go_simp
    refine (IHX.out b _ _ wa.drew p WX.out (HX.out.under (below_drew (Below.refl _ _))) (fun z hz => by have := HP.out z hz; omega) hmx (HPW.out.below (below_then HB.out (below_drew (Below.refl _ _))))).mono ?_
    rintro e w3 ⟨A3, c3, K3, k3, rfl, hv3, b3⟩
    have B3 := Lib.hid (below_then (below_drew (Below.refl wa.heap.size wa)) b3)
    have HV3 : Hid (RexP w3 (fun z => p z ∨ wa.heap.size ≤ z) (dv b x) (.int .i64 (dv b x).kind) (.slice A3 (dv b x).set.length c3) (.slice K3 (dv b x).kids.length k3)) := hv3.mono fun z hz => hz.imp id fun h => by omega
    clear hv3 b3
    (try go_wp2_with fail)
    refine hK.out _ _ (HC.out w3 (fun k hk _ => B3.out.block k hk)) (fun hHeld1 => ?_)
    clear hK K hHeld0
    try simp only [Act.put, List.getElem_toArray, List.getElem_cons_zero, List.getElem_cons_succ, List.setIfInBounds_toArray, List.set_cons_zero, List.set_cons_succ]
    have h3z := B3.out.size
    refine wpAnyH_ready (rs := [11]) (by kernel_rfl) (by simp) ?_
    refine AllReadyH.cons (o := ⟨some 70, _, _, _, _, _⟩) rfl (fun K hK => ?_) AllReadyH.nil
    go_simp
    refine (IHY.out b _ _ w3 p WY.out (HY.out.under B3.out) (fun z hz => by have := HP.out z hz; omega) hmy (HPW.out.below (below_then HB.out B3.out))).mono ?_
    rintro e w4 ⟨A4, c4, K4, k4, rfl, hv4, b4⟩
    have B4 := Lib.hid (below_then B3.out b4)
    have HV4 : Hid (RexP w4 (fun z => (p z ∨ wa.heap.size ≤ z) ∧ z < w4.heap.size) (dv b y) (.int .i64 (dv b y).kind) (.slice A4 (dv b y).set.length c4) (.slice K4 (dv b y).kids.length k4)) := hv4.lt.mono fun z hz => ⟨hz.1.imp id fun h => by omega, hz.2⟩
    have HV34 : Hid (RexP w4 (fun z => (p z ∨ wa.heap.size ≤ z) ∧ z < w4.heap.size) (dv b x) (.int .i64 (dv b x).kind) (.slice A3 (dv b x).set.length c3) (.slice K3 (dv b x).kids.length k3)) := (HV3.out.under b4).lt
    clear hv4 b4 HV3
    (try go_wp2_with fail)
    refine hK.out _ _ (HC.out w4 (fun k hk _ => B4.out.block k hk)) (fun hHeld2 => ?_)
    clear hK K hHeld1
    try simp only [Act.put, List.getElem_toArray, List.getElem_cons_zero, List.getElem_cons_succ, List.setIfInBounds_toArray, List.set_cons_zero, List.set_cons_succ]
    have h4z := B4.out.size
    refine wpAnyH_ready (rs := [12]) (by kernel_rfl) (by simp) ?_
    refine AllReadyH.cons (o := ⟨some 71, _, _, _, _, _⟩) rfl (fun K hK => ?_) AllReadyH.nil
    go_simp
    refine (iAnd_c (dv b x) (dv b y) _ _ _ _ w4 _ FX.out.wf FY.out.wf HV34.out HV4.out (fun z hz => hz.2) (size_many (m := 0) FX.out.wf (by omega)) (size_many (m := 0) FY.out.wf (by omega)) (by omega) (HPW.out.below (below_then HB.out B4.out))).mono ?_
    rintro e w5 ⟨A5, c5, K5, k5, rfl, hv5, b5⟩
    obtain ⟨T, hT⟩ : ∃ z, z = nAnd (dv b x) (dv b y) := ⟨_, rfl⟩
    rw [← hT] at hv5 E ⊢
    have B5 := Lib.hid (below_then B4.out b5)
    have HV5 : Hid (RexP w5 (fun z => z ≠ w.heap.size + 1 ∧ (p z ∨ w.heap.size ≤ z)) T (.int .i64 T.kind) (.slice A5 T.set.length c5) (.slice K5 T.kids.length k5)) := hv5.mono fun z hz => by
      have h0 := HZ.out
      rcases hz with ⟨h | h, _⟩ | h
      · exact ⟨fun e => by have := HP.out z h; omega, .inl h⟩
      · exact ⟨by omega, .inr (by omega)⟩
      · exact ⟨by omega, .inr (by omega)⟩
    have M5 := Lib.hid (M1.out.below B5.out)
    clear hv5 b5 HV34 HV4 hT
    (try go_wp2_with fail)
    refine hK.out _ _ (HC.out w5 (fun k hk _ => B5.out.block k hk)) (fun hHeld3 => ?_)
    clear hK K hHeld2
    try simp only [Act.put, List.getElem_toArray, List.getElem_cons_zero, List.getElem_cons_succ, List.setIfInBounds_toArray, List.set_cons_zero, List.set_cons_succ]
    have g0 : w5.cell? ⟨w.heap.size + 1, 0, none⟩ = some (.int .i64 0) := by rw [M5.out.cell]; rfl
    have g1 : w5.cell? ⟨w.heap.size + 1, 1, none⟩ = some nilS := by rw [M5.out.cell]; rfl
    have g2 : w5.cell? ⟨w.heap.size + 1, 2, none⟩ = some nilS := by rw [M5.out.cell]; rfl
    have f0 : w5.frozen? ⟨w.heap.size + 1, 0, none⟩ = false := M5.out.free 0
    have f1 : w5.frozen? ⟨w.heap.size + 1, 1, none⟩ = false := M5.out.free 1
    have f2 : w5.frozen? ⟨w.heap.size + 1, 2, none⟩ = false := M5.out.free 2
    refine wpAnyH_ready (rs := [13]) (by kernel_rfl) (by simp) ?_
    refine AllReadyH.cons (o := ⟨none, _, _, _, _, _⟩) rfl (fun K hK => ?_) AllReadyH.nil
    go_simp
    obtain ⟨w6, hw6⟩ : ∃ z : World, z = ((w5.setCell ⟨w.heap.size + 1, 0, none⟩ (.int .i64 T.kind)).setCell ⟨w.heap.size + 1, 1, none⟩ (.slice A5 T.set.length c5)).setCell ⟨w.heap.size + 1, 2, none⟩ (.slice K5 T.kids.length k5) := ⟨_, rfl⟩
    have HX5 : Hid (Blk w6 (w.heap.size + 1) #[.int .i64 T.kind, .slice A5 T.set.length c5, .slice K5 T.kids.length k5] TRx) := by rw [hw6]; exact Lib.hid (put3 rfl M5.out)
    have HG5 : Hid (w5.grownBy w6 (some (w.heap.size + 1))) := by rw [hw6]; exact grown_set (grown_set (grown_set (grown_refl _ _) _ _) _ _) _ _
    rw [← hw6]
    clear g0 g1 g2 f0 f1 f2 hw6
    refine hK.out _ _ (HC.out w6 (fun k hk hne => (HG5.out.block k (Nat.lt_of_lt_of_le hk B5.out.size) (fun e => hne (Option.some.inj e))).trans (B5.out.block k hk))) (fun hH => ?_)
    clear hK K
    try simp only [Act.put, List.getElem_toArray, List.getElem_cons_zero, List.getElem_cons_succ, List.setIfInBounds_toArray, List.set_cons_zero, List.set_cons_succ]
    refine wpAnyH_done (by kernel_rfl) ?_ _
    clear HC
    go_wp2_with fail
    refine bodyPost_ret (results_cell_row rfl _ _ (w.heap.size + 1) TRx _ (0, 0) _ rfl HX5.out.eq Tryz.underlying26 rfl (by rw [sizeRx]; rfl)) rfl ?_
    rw [E.out]
    exact rex_fin rfl rfl HP.out HV5.out (below_then HB.out B5.out) HG5.out (by omega)
  by_cases k5 : r.kind = 5
  · obtain ⟨x, ex, wx⟩ := wf_kids1 hwf (by omega)
    have ekids : r.kids = [x] := by rw [ex]; rfl
    have hm2 : r.many = x.many + 1 := by rw [ex]; simp [Rex.many, manyL]; omega
    obtain ⟨_, _, _, _, _, _, e2, _, hkk⟩ := HV.out.parts
    injection e2 with e3 e4 e5
    subst e3 e5
    rw [ekids] at hkk
    obtain ⟨ad, A1, c1, K1, dk1, rfl, hx, x0, x1, x2⟩ := hkk.one
    have HX := Lib.hid hx
    have IHX : Hid (DvOk 57 x) := IH.out x (by rw [ekids]; simp)
    have WX := Lib.hid wx
    have FX := Lib.hid (dv_fit b x wx)
    have hmx : x.many ≤ 120 := by omega
    have hdx : (dv b x).many ≤ 7380 := dv_120 b wx (Nat.le_refl _) hmx
    have hadp : p ad.block := hkk.ok ad rfl (by simp)
    have hadl : ad.block < w.heap.size := HP.out _ hadp
    rw [ekids] at n2 HV
    simp only [List.length_cons, List.length_nil, Nat.zero_add] at n2 HV
    have E : Hid (dv b r = nCat (dv b x) r) := by show _ = _; rw [ex, k5]; exact dv_star b [] x
    have d1 : (r.kind == 1) = false := by simp [k1]
    have d3 : (r.kind == 3) = false := by simp [k3]
    have d4 : (r.kind == 4) = false := by simp [k4]
    have d6 : (r.kind == 6) = false := by simp [k6]
    have d5 : (r.kind == 5) = true := by simp [k5]
    clear k1 k3 k4 k6 k5
    go_enter Tryz.func57, Tryz.ntmps57
    have WR := Lib.hid hwf
    have hmr : r.many ≤ 121 := by omega
    have HC : Hid (∀ w' : World, (∀ k, k < wa.heap.size → k ≠ w.heap.size + 1 → w'.heap[k]? = wa.heap[k]?) → w'.cell? ⟨w.heap.size, 0, none⟩ = some (.int .i64 r.kind) ∧ w'.cell? ⟨w.heap.size, 1, none⟩ = some (.slice A r.set.length c) ∧ w'.cell? ⟨w.heap.size, 2, none⟩ = some (.slice (some ad) 1 ck) ∧ w'.cell? ad = some (.int .i64 x.kind) ∧ w'.cell? ⟨ad.block, ad.off + 1, none⟩ = some (.slice A1 x.set.length c1) ∧ w'.cell? ⟨ad.block, ad.off + 2, none⟩ = some (.slice K1 x.kids.length dk1)) := fun w' hb =>
      have up : ∀ {q : Addr} {v : Value}, q.block ≠ w.heap.size + 1 → wa.cell? q = some v → w'.cell? q = some v := fun {q v} hne h => (World.cell?_of_block (w := wa) (hb _ (World.block_lt_of_cell? wa q h) hne)).trans h
      ⟨up (by show w.heap.size ≠ _; omega) n0, up (by show w.heap.size ≠ _; omega) n1, up (by show w.heap.size ≠ _; omega) n2, up (by omega) x0, up (by show ad.block ≠ _; omega) x1, up (by show ad.block ≠ _; omega) x2⟩
    clear ex ekids e4 hx wx IH hwf hm2 hkk
    go_wp2_with fail
    clear hwa n0 n1 n2 x0 x1 x2
    have bd := below_drew (Below.refl wa.heap.size wa)
    have hwz := HB.out.size
    have hdz := bd.size
    refine wp_region_held_drew (S := fun w' => w'.cell? ⟨w.heap.size, 0, none⟩ = some (.int .i64 r.kind) ∧ w'.cell? ⟨w.heap.size, 1, none⟩ = some (.slice A r.set.length c) ∧ w'.cell? ⟨w.heap.size, 2, none⟩ = some (.slice (some ad) 1 ck) ∧ w'.cell? ad = some (.int .i64 x.kind) ∧ w'.cell? ⟨ad.block, ad.off + 1, none⟩ = some (.slice A1 x.set.length c1) ∧ w'.cell? ⟨ad.block, ad.off + 2, none⟩ = some (.slice K1 x.kids.length dk1)) (by kernel_rfl) (HC.out _ fun k hk _ => bd.block k hk) (fun hHeld0 => ?_)
    refine wpAnyH_take (i := 0) (v := ?_) rfl (by kernel_rfl) (by kernel_rfl) (by kernel_rfl) (fun _ _ _ h => h) (Or.inl ⟨by rfl, ?_⟩) (by assumption) ?_
    rotate_left
    · (intro w hSw; (try dsimp only at hSw); go_simp; try with_reducible rfl)
    try simp only [Act.put, List.getElem_toArray, List.getElem_cons_zero, List.getElem_cons_succ, List.setIfInBounds_toArray, List.set_cons_zero, List.set_cons_succ]
    refine wpAnyH_take (i := 1) (v := ?_) rfl (by kernel_rfl) (by kernel_rfl) (by kernel_rfl) (fun _ _ _ h => h) (Or.inl ⟨by rfl, ?_⟩) (by assumption) ?_
    rotate_left
    · (intro w hSw; (try dsimp only at hSw); go_simp; try with_reducible rfl)
    try simp only [Act.put, List.getElem_toArray, List.getElem_cons_zero, List.getElem_cons_succ, List.setIfInBounds_toArray, List.set_cons_zero, List.set_cons_succ]
    refine wpAnyH_take (i := 2) (v := ?_) rfl (by kernel_rfl) (by kernel_rfl) (by kernel_rfl) (fun _ _ _ h => h) (Or.inl ⟨by rfl, ?_⟩) (by assumption) ?_
    rotate_left
    · (intro w hSw; (try dsimp only at hSw); go_simp; try with_reducible rfl)
    try simp only [Act.put, List.getElem_toArray, List.getElem_cons_zero, List.getElem_cons_succ, List.setIfInBounds_toArray, List.set_cons_zero, List.set_cons_succ]
    refine wpAnyH_take (i := 3) (v := ?_) rfl (by kernel_rfl) (by kernel_rfl) (by kernel_rfl) (fun _ _ _ h => h) (Or.inl ⟨by rfl, ?_⟩) (by assumption) ?_
    rotate_left
    · (intro w hSw; (try dsimp only at hSw); go_simp; try with_reducible rfl)
    try simp only [Act.put, List.getElem_toArray, List.getElem_cons_zero, List.getElem_cons_succ, List.setIfInBounds_toArray, List.set_cons_zero, List.set_cons_succ]
    refine wpAnyH_take (i := 4) (v := ?_) rfl (by kernel_rfl) (by kernel_rfl) (by kernel_rfl) (fun _ _ _ h => h) (Or.inl ⟨by rfl, ?_⟩) (by assumption) ?_
    rotate_left
    · (intro w hSw; (try dsimp only at hSw); go_simp; try with_reducible rfl)
    try simp only [Act.put, List.getElem_toArray, List.getElem_cons_zero, List.getElem_cons_succ, List.setIfInBounds_toArray, List.set_cons_zero, List.set_cons_succ]
    refine wpAnyH_take (i := 6) (v := ?_) rfl (by kernel_rfl) (by kernel_rfl) (by kernel_rfl) (fun _ _ _ h => h) (Or.inl ⟨by rfl, ?_⟩) (by assumption) ?_
    rotate_left
    · (intro w hSw; (try dsimp only at hSw); go_simp; try with_reducible rfl)
    try simp only [Act.put, List.getElem_toArray, List.getElem_cons_zero, List.getElem_cons_succ, List.setIfInBounds_toArray, List.set_cons_zero, List.set_cons_succ]
    refine wpAnyH_ready (rs := [5]) (by kernel_rfl) (by simp) ?_
    refine AllReadyH.cons (o := ⟨some 79, _, _, _, _, _⟩) rfl (fun K hK => ?_) AllReadyH.nil
    go_simp
    refine (IHX.out b _ _ wa.drew p WX.out (HX.out.under bd) (fun z hz => by have := HP.out z hz; omega) hmx (HPW.out.below (below_then HB.out bd))).mono ?_
    rintro e w3 ⟨A3, c3, K3, k3, rfl, hv3, b3⟩
    have B3 := Lib.hid (below_then bd b3)
    have HV3 : Hid (RexP w3 (fun z => (p z ∨ wa.heap.size ≤ z) ∧ z < w3.heap.size) (dv b x) (.int .i64 (dv b x).kind) (.slice A3 (dv b x).set.length c3) (.slice K3 (dv b x).kids.length k3)) := Lib.hid (hv3.lt.mono fun z hz => ⟨hz.1.imp id fun h => by omega, hz.2⟩)
    have h3z := b3.size
    clear hv3 b3
    (try go_wp2_with fail)
    refine hK.out _ _ (HC.out w3 (fun k hk _ => B3.out.block k hk)) (fun hHeld1 => ?_)
    clear hK K hHeld0
    try simp only [Act.put, List.getElem_toArray, List.getElem_cons_zero, List.getElem_cons_succ, List.setIfInBounds_toArray, List.set_cons_zero, List.set_cons_succ]
    refine wpAnyH_ready (rs := [7]) (by kernel_rfl) (by simp) ?_
    refine AllReadyH.cons (o := ⟨some 81, _, _, _, _, _⟩) rfl (fun K hK => ?_) AllReadyH.nil
    go_simp
    refine (iCat_r (dv b x) r _ _ _ _ w3 _ FX.out.wf WR.out HV3.out ((HV.out.under B3.out).mono fun z hz => ⟨.inl hz, by have := HP.out z hz; omega⟩) (fun z hz => hz.2) (size_many (m := 0) FX.out.wf (by omega)) (size_many (m := 0) WR.out (by omega)) (by omega) (HPW.out.below (below_then HB.out B3.out))).mono ?_
    rintro e w5 ⟨A5, c5, K5, k5, rfl, hv5, b5⟩
    obtain ⟨T, hT⟩ : ∃ z, z = nCat (dv b x) r := ⟨_, rfl⟩
    rw [← hT] at hv5 E ⊢
    have B5 := Lib.hid (below_then B3.out b5)
    have HV5 : Hid (RexP w5 (fun z => z ≠ w.heap.size + 1 ∧ (p z ∨ w.heap.size ≤ z)) T (.int .i64 T.kind) (.slice A5 T.set.length c5) (.slice K5 T.kids.length k5)) := hv5.mono fun z hz => by
      have h0 := HZ.out
      rcases hz with ⟨h | h, _⟩ | h
      · exact ⟨fun e => by have := HP.out z h; omega, .inl h⟩
      · exact ⟨by omega, .inr (by omega)⟩
      · exact ⟨by omega, .inr (by omega)⟩
    have M5 := Lib.hid (M1.out.below B5.out)
    clear hv5 b5 HV3 hT
    (try go_wp2_with fail)
    refine hK.out _ _ (HC.out w5 (fun k hk _ => B5.out.block k hk)) (fun hH => ?_)
    clear hK K
    try simp only [Act.put, List.getElem_toArray, List.getElem_cons_zero, List.getElem_cons_succ, List.setIfInBounds_toArray, List.set_cons_zero, List.set_cons_succ]
    have g0 : w5.cell? ⟨w.heap.size + 1, 0, none⟩ = some (.int .i64 0) := by rw [M5.out.cell]; rfl
    have g1 : w5.cell? ⟨w.heap.size + 1, 1, none⟩ = some nilS := by rw [M5.out.cell]; rfl
    have g2 : w5.cell? ⟨w.heap.size + 1, 2, none⟩ = some nilS := by rw [M5.out.cell]; rfl
    have f0 : w5.frozen? ⟨w.heap.size + 1, 0, none⟩ = false := M5.out.free 0
    have f1 : w5.frozen? ⟨w.heap.size + 1, 1, none⟩ = false := M5.out.free 1
    have f2 : w5.frozen? ⟨w.heap.size + 1, 2, none⟩ = false := M5.out.free 2
    refine wpAnyH_ready (rs := [8]) (by kernel_rfl) (by simp) ?_
    refine AllReadyH.cons (o := ⟨none, _, _, _, _, _⟩) rfl (fun K hK => ?_) AllReadyH.nil
    go_simp
    obtain ⟨w6, hw6⟩ : ∃ z : World, z = ((w5.setCell ⟨w.heap.size + 1, 0, none⟩ (.int .i64 T.kind)).setCell ⟨w.heap.size + 1, 1, none⟩ (.slice A5 T.set.length c5)).setCell ⟨w.heap.size + 1, 2, none⟩ (.slice K5 T.kids.length k5) := ⟨_, rfl⟩
    have HX5 : Hid (Blk w6 (w.heap.size + 1) #[.int .i64 T.kind, .slice A5 T.set.length c5, .slice K5 T.kids.length k5] TRx) := by rw [hw6]; exact Lib.hid (put3 rfl M5.out)
    have HG5 : Hid (w5.grownBy w6 (some (w.heap.size + 1))) := by rw [hw6]; exact grown_set (grown_set (grown_set (grown_refl _ _) _ _) _ _) _ _
    rw [← hw6]
    clear g0 g1 g2 f0 f1 f2 hw6
    refine hK.out _ _ (HC.out w6 (fun k hk hne => (HG5.out.block k (Nat.lt_of_lt_of_le hk B5.out.size) (fun e => hne (Option.some.inj e))).trans (B5.out.block k hk))) (fun hH => ?_)
    clear hK K
    try simp only [Act.put, List.getElem_toArray, List.getElem_cons_zero, List.getElem_cons_succ, List.setIfInBounds_toArray, List.set_cons_zero, List.set_cons_succ]
    refine wpAnyH_done (by kernel_rfl) ?_ _
    clear HC
    go_wp2_with fail
    refine bodyPost_ret (results_cell_row rfl _ _ (w.heap.size + 1) TRx _ (0, 0) _ rfl HX5.out.eq Tryz.underlying26 rfl (by rw [sizeRx]; rfl)) rfl ?_
    rw [E.out]
    exact rex_fin rfl rfl HP.out HV5.out (below_then HB.out B5.out) HG5.out (by omega)
  by_cases k7 : r.kind = 7
  · obtain ⟨x, ex, wx⟩ := wf_kids1 hwf (by omega)
    have ekids : r.kids = [x] := by rw [ex]; rfl
    have hm2 : r.many = x.many + 1 := by rw [ex]; simp [Rex.many, manyL]; omega
    obtain ⟨_, _, _, _, _, _, e2, _, hkk⟩ := HV.out.parts
    injection e2 with e3 e4 e5
    subst e3 e5
    rw [ekids] at hkk
    obtain ⟨ad, A1, c1, K1, dk1, rfl, hx, x0, x1, x2⟩ := hkk.one
    have HX := Lib.hid hx
    have IHX : Hid (DvOk 57 x) := IH.out x (by rw [ekids]; simp)
    have WX := Lib.hid wx
    have FX := Lib.hid (dv_fit b x wx)
    have hmx : x.many ≤ 120 := by omega
    have hdx : (dv b x).many ≤ 7380 := dv_120 b wx (Nat.le_refl _) hmx
    have hadp : p ad.block := hkk.ok ad rfl (by simp)
    have hadl : ad.block < w.heap.size := HP.out _ hadp
    rw [ekids] at n2 HV
    simp only [List.length_cons, List.length_nil, Nat.zero_add] at n2 HV
    have E : Hid (dv b r = nNot (dv b x)) := by show _ = _; rw [ex, k7]; exact dv_not b [] x
    have d1 : (r.kind == 1) = false := by simp [k1]
    have d3 : (r.kind == 3) = false := by simp [k3]
    have d4 : (r.kind == 4) = false := by simp [k4]
    have d6 : (r.kind == 6) = false := by simp [k6]
    have d5 : (r.kind == 5) = false := by simp [k5]
    have d7 : (r.kind == 7) = true := by simp [k7]
    clear k1 k3 k4 k6 k5 k7
    go_enter Tryz.func57, Tryz.ntmps57
    have hwz := HB.out.size
    obtain ⟨dn, hdn⟩ := FX.out.wf
    have HDN := Lib.hid hdn
    have IHC : Hid (Calls Tryz.prog 57 #[.agg #[.int .i64 x.kind, .slice A1 x.set.length c1, .slice K1 x.kids.length dk1], .int .i64 b] wa (RexPost p (dv b x) wa)) := IHX.out b _ _ wa p WX.out HX.out (fun z hz => by have := HP.out z hz; omega) hmx (HPW.out.below HB.out)
    clear ex ekids e4 hx wx IH hwf hm2 hkk hdn
    go_wp2_with (first
      | ((with_reducible refine IHC.out.mono ?_); rintro e w3 ⟨A3, c3, K3, k3, rfl, hv3, b3⟩; have B3 := Lib.hid b3; have HV3 : Hid (RexP w3 (fun z => (p z ∨ wa.heap.size ≤ z) ∧ z < w3.heap.size) (dv b x) (.int .i64 (dv b x).kind) (.slice A3 (dv b x).set.length c3) (.slice K3 (dv b x).kids.length k3)) := (Lib.hid hv3.lt); clear hv3 b3)
      | ((with_reducible refine (iNot_c (dv b x) dn _ _ w3 _ HDN.out HV3.out (fun z hz => hz.2)).mono ?_); rintro e w4 ⟨A4, c4, K4, k4, rfl, hv4, b4⟩; have B4 := Lib.hid (below_then B3.out b4); have HV4 := Lib.hid hv4; have M4 := Lib.hid (M1.out.below B4.out); have h43 := b4.size; clear hv4 b4)
      | ((with_reducible refine at_st 4 90 ?_); refine ev_store (o := ⟨none, .store _ (.tmp 4) _, _, _, _, _⟩) rfl rfl TRx (.tmp 4) (.tmp 90) rfl (w.heap.size + 1) 0 rfl [.int .i64 (nNot (dv b x)).kind, .slice A4 (nNot (dv b x)).set.length c4, .slice K4 (nNot (dv b x)).kids.length k4] rfl _ TRx M4.out (sizeRx' _ _ _) (by show 0 + 3 ≤ 3; omega) (three_one _ _ _ _ _ _ _) ?_; intro w5 hX5 hg5; have HX5 : Hid (Blk w5 (w.heap.size + 1) ([.int .i64 (nNot (dv b x)).kind, .slice A4 (nNot (dv b x)).set.length c4, .slice K4 (nNot (dv b x)).kids.length k4]).toArray TRx) := hX5; have HG5 := Lib.hid hg5; clear hX5 hg5)
      | fail)
    refine bodyPost_ret (results_cell_row rfl _ _ (w.heap.size + 1) TRx _ (0, 0) _ rfl HX5.out.eq Tryz.underlying26 rfl (by rw [sizeRx]; rfl)) rfl ?_
    rw [E.out]
    have h3z := B3.out.size
    exact rex_fin rfl rfl HP.out (HV4.out.mono fun z hz => by
      have h0 := HZ.out
      rcases hz with ⟨h | h, _⟩ | h
      · exact ⟨fun e => by have := HP.out z h; omega, .inl h⟩
      · exact ⟨by omega, .inr (by omega)⟩
      · exact ⟨by omega, .inr (by omega)⟩) (below_then HB.out B4.out) HG5.out (by omega)
  · have k2 : r.kind = 2 := by rcases wf_kind hwf with h | h | h | h | h | h | h <;> omega
    have E : Hid (dv b r = noT) := dv_emp' b k2
    have d1 : (r.kind == 1) = false := by simp [k1]
    have d3 : (r.kind == 3) = false := by simp [k3]
    have d4 : (r.kind == 4) = false := by simp [k4]
    have d6 : (r.kind == 6) = false := by simp [k6]
    have d5 : (r.kind == 5) = false := by simp [k5]
    have d7 : (r.kind == 7) = false := by simp [k7]
    clear k1 k3 k4 k6 k5 k7 k2 hwf IH
    go_enter Tryz.func57, Tryz.ntmps57
    go_wp2_with (first
      | ((with_reducible refine (iNothing_c wa).mono ?_); rintro e wn ⟨rfl, bn⟩; replace M1 := Lib.hid (M1.out.below bn); replace HB := Lib.hid (below_then HB.out bn); clear bn)
      | ((with_reducible refine at_st 4 91 ?_); refine ev_store (o := ⟨none, .store _ (.tmp 4) _, _, _, _, _⟩) rfl rfl TRx (.tmp 4) (.tmp 91) rfl (w.heap.size + 1) 0 rfl [.int .i64 1, nilS, nilS] rfl _ TRx M1.out (sizeRx' _ _ _) (by show 0 + 3 ≤ 3; omega) (three_one _ _ _ _ _ _ _) ?_; intro w5 hX5 hg5; have HX5 : Hid (Blk w5 (w.heap.size + 1) ([.int .i64 1, nilS, nilS]).toArray TRx) := hX5; have HG5 := Lib.hid hg5; clear hX5 hg5)
      | fail)
    refine bodyPost_ret (results_cell_row rfl _ _ (w.heap.size + 1) TRx _ (0, 0) _ rfl HX5.out.eq Tryz.underlying26 rfl (by rw [sizeRx]; rfl)) rfl ?_
    rw [E.out]
    exact rex_fin (t := noT) rfl rfl HP.out (RexP.leaf 1) HB.out HG5.out (by omega)
end Go.Proofs.YtfeidjjabjejiaaGreatDoor
