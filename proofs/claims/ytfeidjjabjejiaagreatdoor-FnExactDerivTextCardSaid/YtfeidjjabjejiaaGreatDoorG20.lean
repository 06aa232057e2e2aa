/- Texts joined for the claims: Yg. -/
import Derived.Test.YtfeidjjabjejiaaGreatDoorG18
import Derived.Test.YtfeidjjabjejiaaGreatDoorG15
import Derived.Test.YtfeidjjabjejiaaGreatDoorG5
import Derived.Test.YtfeidjjabjejiaaGreatDoorG19
/- Made simpler, all of it, by the reference: l4Norm. -/
namespace Go.Proofs.YtfeidjjabjejiaaGreatDoor
set_option linter.unusedSimpArgs false
set_option linter.unusedVariables false
set_option maxRecDepth 100000
open Go.RowKit

def NrmOk (f : FuncId) (r : Rex) : Prop := ∀ (v1 v2 : Value) (w : World) (p : Nat → Prop), wf r → RexP w p r (.int .i64 r.kind) v1 v2 → (∀ q, p q → q < w.heap.size) → r.many ≤ 8000 → Pow10 w →
  Calls Tryz.prog f #[.agg #[.int .i64 r.kind, v1, v2]] w (RexPost p (nrm r) w)
theorem size_many {r : Rex} (h : wf r) {m : Nat} (hm : r.many ≤ 8000) : r.size ≤ 1048576 := by have := wf_size h; omega
/-- the kinds of the reference's calls: one behind the other asks for no table -/
theorem iCat_r (a b : Rex) (u1 u2 v1 v2 : Value) (w : World) (p : Nat → Prop) (wx : wf a) (wy : wf b) (ha : RexP w p a (.int .i64 a.kind) u1 u2) (hb : RexP w p b (.int .i64 b.kind) v1 v2) (hp : ∀ q, p q → q < w.heap.size) (sa : a.size ≤ 1048576) (sb : b.size ≤ 1048576) (hm : a.many + b.many ≤ 2097152) (hpw : Pow10 w) :
    Calls Tryz.prog 68 #[.agg #[.int .i64 a.kind, u1, u2], .agg #[.int .i64 b.kind, v1, v2]] w (RexPost p (nCat a b) w) := iCat_c a b u1 u2 v1 v2 w p wx ha hb hp
theorem sCat_r (a b : Rex) (u1 u2 v1 v2 : Value) (w : World) (p : Nat → Prop) (wx : wf a) (wy : wf b) (ha : RexP w p a (.int .i64 a.kind) u1 u2) (hb : RexP w p b (.int .i64 b.kind) v1 v2) (hp : ∀ q, p q → q < w.heap.size) (sa : a.size ≤ 1048576) (sb : b.size ≤ 1048576) (hm : a.many + b.many ≤ 2097152) (hpw : Pow10 w) :
    Calls Tryz.prog 103 #[.agg #[.int .i64 a.kind, u1, u2], .agg #[.int .i64 b.kind, v1, v2]] w (RexPost p (nCat a b) w) := sCat_c a b u1 u2 v1 v2 w p wx ha hb hp
theorem sOr_r (a b : Rex) (u1 u2 v1 v2 : Value) (w : World) (p : Nat → Prop) (wx : wf a) (wy : wf b) (ha : RexP w p a (.int .i64 a.kind) u1 u2) (hb : RexP w p b (.int .i64 b.kind) v1 v2) (hp : ∀ q, p q → q < w.heap.size) (sa : a.size ≤ 1048576) (sb : b.size ≤ 1048576) (hm : a.many + b.many ≤ 2097152) (hpw : Pow10 w) :
    Calls Tryz.prog 96 #[.agg #[.int .i64 a.kind, u1, u2], .agg #[.int .i64 b.kind, v1, v2]] w (RexPost p (nOr a b) w) := sOr_c a b u1 u2 v1 v2 w p wx wy ha hb hp sa sb hm
theorem sAnd_r (a b : Rex) (u1 u2 v1 v2 : Value) (w : World) (p : Nat → Prop) (wx : wf a) (wy : wf b) (ha : RexP w p a (.int .i64 a.kind) u1 u2) (hb : RexP w p b (.int .i64 b.kind) v1 v2) (hp : ∀ q, p q → q < w.heap.size) (sa : a.size ≤ 1048576) (sb : b.size ≤ 1048576) (hm : a.many + b.many ≤ 2097152) (hpw : Pow10 w) :
    Calls Tryz.prog 97 #[.agg #[.int .i64 a.kind, u1, u2], .agg #[.int .i64 b.kind, v1, v2]] w (RexPost p (nAnd a b) w) := sAnd_c a b u1 u2 v1 v2 w p wx wy ha hb hp sa sb hm
/-- an answer of three cells, written whole -/
theorem put3 {w : World} {G : Nat} {v1 v2 : Value} {k : Int} {cs : Array Value} (hcs : cs.size = 3) (h : Blk w G cs TRx) : Blk (((w.setCell ⟨G, 0, none⟩ (.int .i64 k)).setCell ⟨G, 1, none⟩ v1).setCell ⟨G, 2, none⟩ v2) G #[.int .i64 k, v1, v2] TRx := by
  obtain ⟨l⟩ := cs
  match l, hcs with
  | [a, b, c], _ => exact ((h.set 0 (.int .i64 k)).set 1 v1).set 2 v2
set_option maxHeartbeats 4000000 in
theorem sNorm_c (r : Rex) : NrmOk 62 r := by
  refine Rex.ind (p := NrmOk 62) (fun k0 s0 ks0 ih => ?_) r
  obtain ⟨r, er⟩ : ∃ a, a = Rex.mk k0 s0 ks0 := ⟨_, rfl⟩
  have IH : Hid (∀ x ∈ r.kids, NrmOk 62 x) := by rw [er]; exact ih
  rw [← er]
  clear ih er
  intro v1 v2 w p hwf h hp hm hpw
  have HPW := Lib.hid hpw
  obtain ⟨A, c, K, ck, _, rfl, rfl, hs, hk⟩ := h.parts
  obtain ⟨wa, hwa⟩ : ∃ x, x = (w.alloc (.cells #[.int .i64 r.kind, .slice A r.set.length c, .slice K r.kids.length ck] TRx)).alloc (.cells #[.int .i64 0, nilS, nilS] TRx) := ⟨_, rfl⟩
  have hb : Below w.heap.size w wa := by rw [hwa]; exact below_alloc (below_alloc (Below.refl _ _) _) _
  have m0 : Blk wa w.heap.size #[.int .i64 r.kind, .slice A r.set.length c, .slice K r.kids.length ck] TRx := by rw [hwa]; exact (blk_new w _ _).alloc _
  have m1 : Blk wa (w.heap.size + 1) #[.int .i64 0, nilS, nilS] TRx := by
    rw [hwa]
    have := blk_new (w.alloc (.cells #[.int .i64 r.kind, .slice A r.set.length c, .slice K r.kids.length ck] TRx)) #[.int .i64 0, nilS, nilS] TRx
    simpa using this
  have hz1 : wa.heap.size = w.heap.size + 2 := by rw [hwa]; simp
  have HZ := Lib.hid hz1
  clear hz1
  replace hwa := hwa.symm
  have HV := Lib.hid (h.under hb)
  have HB := Lib.hid hb
  have M0 := Lib.hid m0
  have M1 := Lib.hid m1
  have HP := Lib.hid hp
  have n0 : wa.cell? ⟨w.heap.size, 0, none⟩ = some (.int .i64 r.kind) := by rw [m0.cell]; rfl
  have n1 : wa.cell? ⟨w.heap.size, 1, none⟩ = some (.slice A r.set.length c) := by rw [m0.cell]; rfl
  have n2 : wa.cell? ⟨w.heap.size, 2, none⟩ = some (.slice K r.kids.length ck) := by rw [m0.cell]; rfl
  clear hb m0 m1 hs hk h hp
  clear hpw
  have hz1 := HZ.out
  by_cases k3 : r.kind = 3
  · obtain ⟨x, y, ex, wx, wy⟩ := wf_kids2 hwf (by omega)
    have ekids : r.kids = [x, y] := by rw [ex]; rfl
    have hm2 : r.many = x.many + y.many + 1 := by rw [ex]; exact two_many _ x y
    have E : Hid (nrm r = nCat (nrm x) (nrm y)) := by show _ = _; rw [ex, k3]; exact nrm_cat [] x y
    obtain ⟨_, _, _, _, _, _, e2, _, hkk⟩ := HV.out.parts
    injection e2 with e3 e4 e5
    subst e3 e5
    rw [ekids] at hkk
    obtain ⟨ad, A1, c1, K1, dk1, A2, c2, K2, dk2, rfl, hx, x0, x1, x2, hy, y0, y1, y2⟩ := hkk.two
    have HX := Lib.hid hx
    have HY := Lib.hid hy
    have IHX : Hid (NrmOk 62 x) := IH.out x (by rw [ekids]; simp)
    have IHY : Hid (NrmOk 62 y) := IH.out y (by rw [ekids]; simp)
    have WX := Lib.hid wx
    have WY := Lib.hid wy
    have HM2 := Lib.hid hm2
    have FX := Lib.hid (nrm_fit x wx)
    have FY := Lib.hid (nrm_fit y wy)
    have hadp : p ad.block := hkk.ok ad rfl (by simp)
    have hadl : ad.block < w.heap.size := HP.out _ hadp
    rw [ekids] at n2
    simp only [List.length_cons, List.length_nil, Nat.zero_add] at n2
    have d3 : (r.kind == 3) = true := by simp [k3]
    clear k3
    go_enter Tryz.func62, Tryz.ntmps62
    have HC : Hid (∀ w' : World, (∀ k, k < wa.heap.size → k ≠ w.heap.size + 1 → w'.heap[k]? = wa.heap[k]?) → w'.cell? ⟨w.heap.size, 2, none⟩ = some (.slice (some ad) 2 ck) ∧ w'.cell? ad = some (.int .i64 x.kind) ∧ w'.cell? ⟨ad.block, ad.off + 1, none⟩ = some (.slice A1 x.set.length c1) ∧ w'.cell? ⟨ad.block, ad.off + 2, none⟩ = some (.slice K1 x.kids.length dk1) ∧
        w'.cell? ⟨ad.block, ad.off + 3, none⟩ = some (.int .i64 y.kind) ∧ w'.cell? ⟨ad.block, ad.off + 3 + 1, none⟩ = some (.slice A2 y.set.length c2) ∧ w'.cell? ⟨ad.block, ad.off + 3 + 2, none⟩ = some (.slice K2 y.kids.length dk2)) := fun w' hb =>
      have up : ∀ {q : Addr} {v : Value}, q.block ≠ w.heap.size + 1 → wa.cell? q = some v → w'.cell? q = some v := fun {q v} hne h => (World.cell?_of_block (w := wa) (hb _ (World.block_lt_of_cell? wa q h) hne)).trans h
      ⟨up (by show w.heap.size ≠ _; omega) n2, up (by omega) x0, up (by show ad.block ≠ _; omega) x1, up (by show ad.block ≠ _; omega) x2, up (by show ad.block ≠ _; omega) y0, up (by show ad.block ≠ _; omega) y1, up (by show ad.block ≠ _; omega) y2⟩
    clear ex ekids e4 hx hy wx wy IH hwf hm2 hkk
    go_wp2_with fail
    clear hwa n0 n1 n2 x0 x1 x2 y0 y1 y2
    refine wp_region_held_drew (S := fun w' => w'.cell? ⟨w.heap.size, 2, none⟩ = some (.slice (some ad) 2 ck) ∧ w'.cell? ad = some (.int .i64 x.kind) ∧ w'.cell? ⟨ad.block, ad.off + 1, none⟩ = some (.slice A1 x.set.length c1) ∧ w'.cell? ⟨ad.block, ad.off + 2, none⟩ = some (.slice K1 x.kids.length dk1) ∧
        w'.cell? ⟨ad.block, ad.off + 3, none⟩ = some (.int .i64 y.kind) ∧ w'.cell? ⟨ad.block, ad.off + 3 + 1, none⟩ = some (.slice A2 y.set.length c2) ∧ w'.cell? ⟨ad.block, ad.off + 3 + 2, none⟩ = some (.slice K2 y.kids.length dk2)) (by kernel_rfl) (HC.out _ fun k hk _ => (below_drew (Below.refl wa.heap.size wa)).block k hk) (fun hHeld0 => ?_)
    refine wpAnyH_take (i := 0) (v := ?_) rfl (by kernel_rfl) (by kernel_rfl) (by kernel_rfl) (fun _ _ _ h => h) (Or.inl ⟨by rfl, ?_⟩) (by assumption) ?_
    rotate_left
    · (intro w hSw; (try dsimp only at hSw); go_simp; try with_reducible rfl)
    try simp only [Act.put, List.getElem_toArray, List.getElem_cons_zero, List.getElem_cons_succ, List.setIfInBounds_toArray, List.set_cons_zero, List.set_cons_succ]
    refine wpAnyH_take (i := 1) (v := ?_) rfl (by kernel_rfl) (by kernel_rfl) (by kernel_rfl) (fun _ _ _ h => h) (Or.inl ⟨by rfl, ?_⟩) (by assumption) ?_
    rotate_left
    · (intro w hSw; (try dsimp only at hSw); go_simp; try with_reducible rfl)
    try simp only [Act.put, List.getElem_toArray, List.getElem_cons_zero, List.getElem_cons_succ, List.setIfInBounds_toArray, List.set_cons_zero, List.set_cons_succ]
    refine wpAnyH_take (i := 2) (v := ?_) rfl (by kernel_rfl) (by kernel_rfl) (by kernel_rfl) (fun _ _ _ h => h) (Or.inl ⟨by rfl, ?_⟩) (by assumption) ?_
    rotate_left
    · (intro w hSw; (try dsimp only at hSw); go_simp; try with_reducible rfl)
    try simp only [Act.put, List.getElem_toArray, List.getElem_cons_zero, List.getElem_cons_succ, List.setIfInBounds_toArray, List.set_cons_zero, List.set_cons_succ]
    refine wpAnyH_take (i := 3) (v := ?_) rfl (by kernel_rfl) (by kernel_rfl) (by kernel_rfl) (fun _ _ _ h => h) (Or.inl ⟨by rfl, ?_⟩) (by assumption) ?_
    rotate_left
    · (intro w hSw; (try dsimp only at hSw); go_simp; try with_reducible rfl)
    try simp only [Act.put, List.getElem_toArray, List.getElem_cons_zero, List.getElem_cons_succ, List.setIfInBounds_toArray, List.set_cons_zero, List.set_cons_succ]
    refine wpAnyH_take (i := 5) (v := ?_) rfl (by kernel_rfl) (by kernel_rfl) (by kernel_rfl) (fun _ _ _ h => h) (Or.inl ⟨by rfl, ?_⟩) (by assumption) ?_
    rotate_left
    · (intro w hSw; (try dsimp only at hSw); go_simp; try with_reducible rfl)
    try simp only [Act.put, List.getElem_toArray, List.getElem_cons_zero, List.getElem_cons_succ, List.setIfInBounds_toArray, List.set_cons_zero, List.set_cons_succ]
    refine wpAnyH_take (i := 6) (v := ?_) rfl (by kernel_rfl) (by kernel_rfl) (by kernel_rfl) (fun _ _ _ h => h) (Or.inl ⟨by rfl, ?_⟩) (by assumption) ?_
    rotate_left
    · (intro w hSw; (try dsimp only at hSw); go_simp; try with_reducible rfl)
    try simp only [Act.put, List.getElem_toArray, List.getElem_cons_zero, List.getElem_cons_succ, List.setIfInBounds_toArray, List.set_cons_zero, List.set_cons_succ]
    refine wpAnyH_take (i := 7) (v := ?_) rfl (by kernel_rfl) (by kernel_rfl) (by kernel_rfl) (fun _ _ _ h => h) (Or.inl ⟨by rfl, ?_⟩) (by assumption) ?_
    rotate_left
    · (intro w hSw; (try dsimp only at hSw); go_simp; try with_reducible rfl)
    try simp only [Act.put, List.getElem_toArray, List.getElem_cons_zero, List.getElem_cons_succ, List.setIfInBounds_toArray, List.set_cons_zero, List.set_cons_succ]
    refine wpAnyH_take (i := 8) (v := ?_) rfl (by kernel_rfl) (by kernel_rfl) (by kernel_rfl) (fun _ _ _ h => h) (Or.inl ⟨by rfl, ?_⟩) (by assumption) ?_
    rotate_left
    · (intro w hSw; (try dsimp only at hSw); go_simp; try with_reducible rfl)
    try simp only [Act.put, List.getElem_toArray, List.getElem_cons_zero, List.getElem_cons_succ, List.setIfInBounds_toArray, List.set_cons_zero, List.set_cons_succ]
    have hdz := (below_drew (Below.refl wa.heap.size wa)).size
    have hwz := HB.out.size
    refine wpAnyH_ready (rs := [4]) (by kernel_rfl) (by simp) ?_
    refine AllReadyH.cons (o := ⟨some 11, _, _, _, _, _⟩) rfl (fun K hK => ?_) AllReadyH.nil
    go_simp
    refine (IHX.out _ _ wa.drew p WX.out (HX.out.under (below_drew (Below.refl _ _))) (fun z hz => by have := HP.out z hz; omega) (by have := HM2.out; omega) (HPW.out.below (below_then HB.out (below_drew (Below.refl _ _))))).mono ?_
    rintro e w3 ⟨A3, c3, K3, k3, rfl, hv3, b3⟩
    have B3 := Lib.hid (below_then (below_drew (Below.refl wa.heap.size wa)) b3)
    have HV3 : Hid (RexP w3 (fun z => p z ∨ wa.heap.size ≤ z) (nrm x) (.int .i64 (nrm x).kind) (.slice A3 (nrm x).set.length c3) (.slice K3 (nrm x).kids.length k3)) := hv3.mono fun z hz => hz.imp id fun h => by omega
    clear hv3 b3
    (try go_wp2_with fail)
    refine hK.out _ _ (HC.out w3 (fun k hk _ => B3.out.block k hk)) (fun hHeld1 => ?_)
    clear hK K hHeld0
    try simp only [Act.put, List.getElem_toArray, List.getElem_cons_zero, List.getElem_cons_succ, List.setIfInBounds_toArray, List.set_cons_zero, List.set_cons_succ]
    have h3z := B3.out.size
    refine wpAnyH_ready (rs := [9]) (by kernel_rfl) (by simp) ?_
    refine AllReadyH.cons (o := ⟨some 16, _, _, _, _, _⟩) rfl (fun K hK => ?_) AllReadyH.nil
    go_simp
    refine (IHY.out _ _ w3 p WY.out (HY.out.under B3.out) (fun z hz => by have := HP.out z hz; omega) (by have := HM2.out; omega) (HPW.out.below (below_then HB.out B3.out))).mono ?_
    rintro e w4 ⟨A4, c4, K4, k4, rfl, hv4, b4⟩
    have B4 := Lib.hid (below_then B3.out b4)
    have HV4 : Hid (RexP w4 (fun z => (p z ∨ wa.heap.size ≤ z) ∧ z < w4.heap.size) (nrm y) (.int .i64 (nrm y).kind) (.slice A4 (nrm y).set.length c4) (.slice K4 (nrm y).kids.length k4)) := hv4.lt.mono fun z hz => ⟨hz.1.imp id fun h => by omega, hz.2⟩
    have HV34 : Hid (RexP w4 (fun z => (p z ∨ wa.heap.size ≤ z) ∧ z < w4.heap.size) (nrm x) (.int .i64 (nrm x).kind) (.slice A3 (nrm x).set.length c3) (.slice K3 (nrm x).kids.length k3)) := (HV3.out.under b4).lt
    clear hv4 b4 HV3
    (try go_wp2_with fail)
    refine hK.out _ _ (HC.out w4 (fun k hk _ => B4.out.block k hk)) (fun hHeld2 => ?_)
    clear hK K hHeld1
    try simp only [Act.put, List.getElem_toArray, List.getElem_cons_zero, List.getElem_cons_succ, List.setIfInBounds_toArray, List.set_cons_zero, List.set_cons_succ]
    have h4z := B4.out.size
    refine wpAnyH_ready (rs := [10]) (by kernel_rfl) (by simp) ?_
    refine AllReadyH.cons (o := ⟨some 17, _, _, _, _, _⟩) rfl (fun K hK => ?_) AllReadyH.nil
    go_simp
    refine (sCat_r (nrm x) (nrm y) _ _ _ _ w4 _ FX.out.wf FY.out.wf HV34.out HV4.out (fun z hz => hz.2) (size_many (m := 0) FX.out.wf (by have := FX.out.many; have := HM2.out; omega)) (size_many (m := 0) FY.out.wf (by have := FY.out.many; have := HM2.out; omega)) (by have := FX.out.many; have := FY.out.many; have := HM2.out; omega) (HPW.out.below (below_then HB.out B4.out))).mono ?_
    rintro e w5 ⟨A5, c5, K5, k5, rfl, hv5, b5⟩
    obtain ⟨T, hT⟩ : ∃ z, z = nCat (nrm x) (nrm y) := ⟨_, rfl⟩
    rw [← hT] at hv5 E ⊢
    have B5 := Lib.hid (below_then B4.out b5)
    have HV5 : Hid (RexP w5 (fun z => z ≠ w.heap.size + 1 ∧ (p z ∨ w.heap.size ≤ z)) T (.int .i64 T.kind) (.slice A5 T.set.length c5) (.slice K5 T.kids.length k5)) := hv5.mono fun z hz => by
      have h0 := HZ.out
      rcases hz with ⟨h | h, _⟩ | h
      · exact ⟨fun e => by have := HP.out z h; omega, .inl h⟩
      · exact ⟨by omega, .inr (by omega)⟩
      · exact ⟨by omega, .inr (by omega)⟩
    have M5 := Lib.hid (M1.out.below B5.out)
    clear hv5 b5 HV34 HV4 hT
    (try go_wp2_with fail)
    refine hK.out _ _ (HC.out w5 (fun k hk _ => B5.out.block k hk)) (fun hHeld3 => ?_)
    clear hK K hHeld2
    try simp only [Act.put, List.getElem_toArray, List.getElem_cons_zero, List.getElem_cons_succ, List.setIfInBounds_toArray, List.set_cons_zero, List.set_cons_succ]
    have g0 : w5.cell? ⟨w.heap.size + 1, 0, none⟩ = some (.int .i64 0) := by rw [M5.out.cell]; rfl
    have g1 : w5.cell? ⟨w.heap.size + 1, 1, none⟩ = some nilS := by rw [M5.out.cell]; rfl
    have g2 : w5.cell? ⟨w.heap.size + 1, 2, none⟩ = some nilS := by rw [M5.out.cell]; rfl
    have f0 : w5.frozen? ⟨w.heap.size + 1, 0, none⟩ = false := M5.out.free 0
    have f1 : w5.frozen? ⟨w.heap.size + 1, 1, none⟩ = false := M5.out.free 1
    have f2 : w5.frozen? ⟨w.heap.size + 1, 2, none⟩ = false := M5.out.free 2
    refine wpAnyH_ready (rs := [11]) (by kernel_rfl) (by simp) ?_
    refine AllReadyH.cons (o := ⟨none, _, _, _, _, _⟩) rfl (fun K hK => ?_) AllReadyH.nil
    go_simp
    obtain ⟨w6, hw6⟩ : ∃ z : World, z = ((w5.setCell ⟨w.heap.size + 1, 0, none⟩ (.int .i64 T.kind)).setCell ⟨w.heap.size + 1, 1, none⟩ (.slice A5 T.set.length c5)).setCell ⟨w.heap.size + 1, 2, none⟩ (.slice K5 T.kids.length k5) := ⟨_, rfl⟩
    have HX5 : Hid (Blk w6 (w.heap.size + 1) #[.int .i64 T.kind, .slice A5 T.set.length c5, .slice K5 T.kids.length k5] TRx) := by rw [hw6]; exact Lib.hid (put3 rfl M5.out)
    have HG5 : Hid (w5.grownBy w6 (some (w.heap.size + 1))) := by rw [hw6]; exact grown_set (grown_set (grown_set (grown_refl _ _) _ _) _ _) _ _
    rw [← hw6]
    clear g0 g1 g2 f0 f1 f2 hw6
    refine hK.out _ _ (HC.out w6 (fun k hk hne => (HG5.out.block k (Nat.lt_of_lt_of_le hk B5.out.size) (fun e => hne (Option.some.inj e))).trans (B5.out.block k hk))) (fun hHeld4 => ?_)
    clear hK K hHeld3
    try simp only [Act.put, List.getElem_toArray, List.getElem_cons_zero, List.getElem_cons_succ, List.setIfInBounds_toArray, List.set_cons_zero, List.set_cons_succ]
    refine wpAnyH_done (by kernel_rfl) ?_ _
    clear hHeld4 HC
    go_wp2_with fail
    refine bodyPost_ret (results_cell_row rfl _ _ (w.heap.size + 1) TRx _ (0, 0) _ rfl HX5.out.eq Tryz.underlying26 rfl (by rw [sizeRx]; rfl)) rfl ?_
    rw [E.out]
    exact rex_fin rfl rfl HP.out HV5.out (below_then HB.out B5.out) HG5.out (by omega)
  by_cases k4 : r.kind = 4
  · obtain ⟨x, y, ex, wx, wy⟩ := wf_kids2 hwf (by omega)
    have ekids : r.kids = [x, y] := by rw [ex]; rfl
    have hm2 : r.many = x.many + y.many + 1 := by rw [ex]; exact two_many _ x y
    have E : Hid (nrm r = nOr (nrm x) (nrm y)) := by show _ = _; rw [ex, k4]; exact nrm_or [] x y
    obtain ⟨_, _, _, _, _, _, e2, _, hkk⟩ := HV.out.parts
    injection e2 with e3 e4 e5
    subst e3 e5
    rw [ekids] at hkk
    obtain ⟨ad, A1, c1, K1, dk1, A2, c2, K2, dk2, rfl, hx, x0, x1, x2, hy, y0, y1, y2⟩ := hkk.two
    have HX := Lib.hid hx
    have HY := Lib.hid hy
    have IHX : Hid (NrmOk 62 x) := IH.out x (by rw [ekids]; simp)
    have IHY : Hid (NrmOk 62 y) := IH.out y (by rw [ekids]; simp)
    have WX := Lib.hid wx
    have WY := Lib.hid wy
    have HM2 := Lib.hid hm2
    have FX := Lib.hid (nrm_fit x wx)
    have FY := Lib.hid (nrm_fit y wy)
    have hadp : p ad.block := hkk.ok ad rfl (by simp)
    have hadl : ad.block < w.heap.size := HP.out _ hadp
    rw [ekids] at n2
    simp only [List.length_cons, List.length_nil, Nat.zero_add] at n2
    have d3 : (r.kind == 3) = false := by simp [k4]
    have d4 : (r.kind == 4) = true := by simp [k4]
    clear k3 k4
    go_enter Tryz.func62, Tryz.ntmps62
    have HC : Hid (∀ w' : World, (∀ k, k < wa.heap.size → k ≠ w.heap.size + 1 → w'.heap[k]? = wa.heap[k]?) → w'.cell? ⟨w.heap.size, 2, none⟩ = some (.slice (some ad) 2 ck) ∧ w'.cell? ad = some (.int .i64 x.kind) ∧ w'.cell? ⟨ad.block, ad.off + 1, none⟩ = some (.slice A1 x.set.length c1) ∧ w'.cell? ⟨ad.block, ad.off + 2, none⟩ = some (.slice K1 x.kids.length dk1) ∧
        w'.cell? ⟨ad.block, ad.off + 3, none⟩ = some (.int .i64 y.kind) ∧ w'.cell? ⟨ad.block, ad.off + 3 + 1, none⟩ = some (.slice A2 y.set.length c2) ∧ w'.cell? ⟨ad.block, ad.off + 3 + 2, none⟩ = some (.slice K2 y.kids.length dk2)) := fun w' hb =>
      have up : ∀ {q : Addr} {v : Value}, q.block ≠ w.heap.size + 1 → wa.cell? q = some v → w'.cell? q = some v := fun {q v} hne h => (World.cell?_of_block (w := wa) (hb _ (World.block_lt_of_cell? wa q h) hne)).trans h
      ⟨up (by show w.heap.size ≠ _; omega) n2, up (by omega) x0, up (by show ad.block ≠ _; omega) x1, up (by show ad.block ≠ _; omega) x2, up (by show ad.block ≠ _; omega) y0, up (by show ad.block ≠ _; omega) y1, up (by show ad.block ≠ _; omega) y2⟩
    clear ex ekids e4 hx hy wx wy IH hwf hm2 hkk
    go_wp2_with fail
    clear hwa n0 n1 n2 x0 x1 x2 y0 y1 y2
    refine wp_region_held_drew (S := fun w' => w'.cell? ⟨w.heap.size, 2, none⟩ = some (.slice (some ad) 2 ck) ∧ w'.cell? ad = some (.int .i64 x.kind) ∧ w'.cell? ⟨ad.block, ad.off + 1, none⟩ = some (.slice A1 x.set.length c1) ∧ w'.cell? ⟨ad.block, ad.off + 2, none⟩ = some (.slice K1 x.kids.length dk1) ∧
        w'.cell? ⟨ad.block, ad.off + 3, none⟩ = some (.int .i64 y.kind) ∧ w'.cell? ⟨ad.block, ad.off + 3 + 1, none⟩ = some (.slice A2 y.set.length c2) ∧ w'.cell? ⟨ad.block, ad.off + 3 + 2, none⟩ = some (.slice K2 y.kids.length dk2)) (by kernel_rfl) (HC.out _ fun k hk _ => (below_drew (Below.refl wa.heap.size wa)).block k hk) (fun hHeld0 => ?_)
    refine wpAnyH_take (i := 0) (v := ?_) rfl (by kernel_rfl) (by kernel_rfl) (by kernel_rfl) (fun _ _ _ h => h) (Or.inl ⟨by rfl, ?_⟩) (by assumption) ?_
    rotate_left
    · (intro w hSw; (try dsimp only at hSw); go_simp; try with_reducible rfl)
    try simp only [Act.put, List.getElem_toArray, List.getElem_cons_zero, List.getElem_cons_succ, List.setIfInBounds_toArray, List.set_cons_zero, List.set_cons_succ]
    refine wpAnyH_take (i := 1) (v := ?_) rfl (by kernel_rfl) (by kernel_rfl) (by kernel_rfl) (fun _ _ _ h => h) (Or.inl ⟨by rfl, ?_⟩) (by assumption) ?_
    rotate_left
    · (intro w hSw; (try dsimp only at hSw); go_simp; try with_reducible rfl)
    try simp only [Act.put, List.getElem_toArray, List.getElem_cons_zero, List.getElem_cons_succ, List.setIfInBounds_toArray, List.set_cons_zero, List.set_cons_succ]
    refine wpAnyH_take (i := 2) (v := ?_) rfl (by kernel_rfl) (by kernel_rfl) (by kernel_rfl) (fun _ _ _ h => h) (Or.inl ⟨by rfl, ?_⟩) (by assumption) ?_
    rotate_left
    · (intro w hSw; (try dsimp only at hSw); go_simp; try with_reducible rfl)
    try simp only [Act.put, List.getElem_toArray, List.getElem_cons_zero, List.getElem_cons_succ, List.setIfInBounds_toArray, List.set_cons_zero, List.set_cons_succ]
    refine wpAnyH_take (i := 3) (v := ?_) rfl (by kernel_rfl) (by kernel_rfl) (by kernel_rfl) (fun _ _ _ h => h) (Or.inl ⟨by rfl, ?_⟩) (by assumption) ?_
    rotate_left
    · (intro w hSw; (try dsimp only at hSw); go_simp; try with_reducible rfl)
    try simp only [Act.put, List.getElem_toArray, List.getElem_cons_zero, List.getElem_cons_succ, List.setIfInBounds_toArray, List.set_cons_zero, List.set_cons_succ]
    refine wpAnyH_take (i := 5) (v := ?_) rfl (by kernel_rfl) (by kernel_rfl) (by kernel_rfl) (fun _ _ _ h => h) (Or.inl ⟨by rfl, ?_⟩) (by assumption) ?_
    rotate_left
    · (intro w hSw; (try dsimp only at hSw); go_simp; try with_reducible rfl)
    try simp only [Act.put, List.getElem_toArray, List.getElem_cons_zero, List.getElem_cons_succ, List.setIfInBounds_toArray, List.set_cons_zero, List.set_cons_succ]
    refine wpAnyH_take (i := 6) (v := ?_) rfl (by kernel_rfl) (by kernel_rfl) (by kernel_rfl) (fun _ _ _ h => h) (Or.inl ⟨by rfl, ?_⟩) (by assumption) ?_
    rotate_left
    · (intro w hSw; (try dsimp only at hSw); go_simp; try with_reducible rfl)
    try simp only [Act.put, List.getElem_toArray, List.getElem_cons_zero, List.getElem_cons_succ, List.setIfInBounds_toArray, List.set_cons_zero, List.set_cons_succ]
    refine wpAnyH_take (i := 7) (v := ?_) rfl (by kernel_rfl) (by kernel_rfl) (by kernel_rfl) (fun _ _ _ h => h) (Or.inl ⟨by rfl, ?_⟩) (by assumption) ?_
    rotate_left
    · (intro w hSw; (try dsimp only at hSw); go_simp; try with_reducible rfl)
    try simp only [Act.put, List.getElem_toArray, List.getElem_cons_zero, List.getElem_cons_succ, List.setIfInBounds_toArray, List.set_cons_zero, List.set_cons_succ]
    refine wpAnyH_take (i := 8) (v := ?_) rfl (by kernel_rfl) (by kernel_rfl) (by kernel_rfl) (fun _ _ _ h => h) (Or.inl ⟨by rfl, ?_⟩) (by assumption) ?_
    rotate_left
    · (intro w hSw; (try dsimp only at hSw); go_simp; try with_reducible rfl)
    try simp only [Act.put, List.getElem_toArray, List.getElem_cons_zero, List.getElem_cons_succ, List.setIfInBounds_toArray, List.set_cons_zero, List.set_cons_succ]
    have hdz := (below_drew (Below.refl wa.heap.size wa)).size
    have hwz := HB.out.size
    refine wpAnyH_ready (rs := [4]) (by kernel_rfl) (by simp) ?_
    refine AllReadyH.cons (o := ⟨some 24, _, _, _, _, _⟩) rfl (fun K hK => ?_) AllReadyH.nil
    go_simp
    refine (IHX.out _ _ wa.drew p WX.out (HX.out.under (below_drew (Below.refl _ _))) (fun z hz => by have := HP.out z hz; omega) (by have := HM2.out; omega) (HPW.out.below (below_then HB.out (below_drew (Below.refl _ _))))).mono ?_
    rintro e w3 ⟨A3, c3, K3, k3, rfl, hv3, b3⟩
    have B3 := Lib.hid (below_then (below_drew (Below.refl wa.heap.size wa)) b3)
    have HV3 : Hid (RexP w3 (fun z => p z ∨ wa.heap.size ≤ z) (nrm x) (.int .i64 (nrm x).kind) (.slice A3 (nrm x).set.length c3) (.slice K3 (nrm x).kids.length k3)) := hv3.mono fun z hz => hz.imp id fun h => by omega
    clear hv3 b3
    (try go_wp2_with fail)
    refine hK.out _ _ (HC.out w3 (fun k hk _ => B3.out.block k hk)) (fun hHeld1 => ?_)
    clear hK K hHeld0
    try simp only [Act.put, List.getElem_toArray, List.getElem_cons_zero, List.getElem_cons_succ, List.setIfInBounds_toArray, List.set_cons_zero, List.set_cons_succ]
    have h3z := B3.out.size
    refine wpAnyH_ready (rs := [9]) (by kernel_rfl) (by simp) ?_
    refine AllReadyH.cons (o := ⟨some 29, _, _, _, _, _⟩) rfl (fun K hK => ?_) AllReadyH.nil
    go_simp
    refine (IHY.out _ _ w3 p WY.out (HY.out.under B3.out) (fun z hz => by have := HP.out z hz; omega) (by have := HM2.out; omega) (HPW.out.below (below_then HB.out B3.out))).mono ?_
    rintro e w4 ⟨A4, c4, K4, k4, rfl, hv4, b4⟩
    have B4 := Lib.hid (below_then B3.out b4)
    have HV4 : Hid (RexP w4 (fun z => (p z ∨ wa.heap.size ≤ z) ∧ z < w4.heap.size) (nrm y) (.int .i64 (nrm y).kind) (.slice A4 (nrm y).set.length c4) (.slice K4 (nrm y).kids.length k4)) := hv4.lt.mono fun z hz => ⟨hz.1.imp id fun h => by omega, hz.2⟩
    have HV34 : Hid (RexP w4 (fun z => (p z ∨ wa.heap.size ≤ z) ∧ z < w4.heap.size) (nrm x) (.int .i64 (nrm x).kind) (.slice A3 (nrm x).set.length c3) (.slice K3 (nrm x).kids.length k3)) := (HV3.out.under b4).lt
    clear hv4 b4 HV3
    (try go_wp2_with fail)
    refine hK.out _ _ (HC.out w4 (fun k hk _ => B4.out.block k hk)) (fun hHeld2 => ?_)
    clear hK K hHeld1
    try simp only [Act.put, List.getElem_toArray, List.getElem_cons_zero, List.getElem_cons_succ, List.setIfInBounds_toArray, List.set_cons_zero, List.set_cons_succ]
    have h4z := B4.out.size
    refine wpAnyH_ready (rs := [10]) (by kernel_rfl) (by simp) ?_
    refine AllReadyH.cons (o := ⟨some 30, _, _, _, _, _⟩) rfl (fun K hK => ?_) AllReadyH.nil
    go_simp
    refine (sOr_r (nrm x) (nrm y) _ _ _ _ w4 _ FX.out.wf FY.out.wf HV34.out HV4.out (fun z hz => hz.2) (size_many (m := 0) FX.out.wf (by have := FX.out.many; have := HM2.out; omega)) (size_many (m := 0) FY.out.wf (by have := FY.out.many; have := HM2.out; omega)) (by have := FX.out.many; have := FY.out.many; have := HM2.out; omega) (HPW.out.below (below_then HB.out B4.out))).mono ?_
    rintro e w5 ⟨A5, c5, K5, k5, rfl, hv5, b5⟩
    obtain ⟨T, hT⟩ : ∃ z, z = nOr (nrm x) (nrm y) := ⟨_, rfl⟩
    rw [← hT] at hv5 E ⊢
    have B5 := Lib.hid (below_then B4.out b5)
    have HV5 : Hid (RexP w5 (fun z => z ≠ w.heap.size + 1 ∧ (p z ∨ w.heap.size ≤ z)) T (.int .i64 T.kind) (.slice A5 T.set.length c5) (.slice K5 T.kids.length k5)) := hv5.mono fun z hz => by
      have h0 := HZ.out
      rcases hz with ⟨h | h, _⟩ | h
      · exact ⟨fun e => by have := HP.out z h; omega, .inl h⟩
      · exact ⟨by omega, .inr (by omega)⟩
      · exact ⟨by omega, .inr (by omega)⟩
    have M5 := Lib.hid (M1.out.below B5.out)
    clear hv5 b5 HV34 HV4 hT
    (try go_wp2_with fail)
    refine hK.out _ _ (HC.out w5 (fun k hk _ => B5.out.block k hk)) (fun hHeld3 => ?_)
    clear hK K hHeld2
    try simp only [Act.put, List.getElem_toArray, List.getElem_cons_zero, List.getElem_cons_succ, List.setIfInBounds_toArray, List.set_cons_zero, List.set_cons_succ]
    have g0 : w5.cell? ⟨w.heap.size + 1, 0, none⟩ = some (.int .i64 0) := by rw [M5.out.cell]; rfl
    have g1 : w5.cell? ⟨w.heap.size + 1, 1, none⟩ = some nilS := by rw [M5.out.cell]; rfl
    have g2 : w5.cell? ⟨w.heap.size + 1, 2, none⟩ = some nilS := by rw [M5.out.cell]; rfl
    have f0 : w5.frozen? ⟨w.heap.size + 1, 0, none⟩ = false := M5.out.free 0
    have f1 : w5.frozen? ⟨w.heap.size + 1, 1, none⟩ = false := M5.out.free 1
    have f2 : w5.frozen? ⟨w.heap.size + 1, 2, none⟩ = false := M5.out.free 2
    refine wpAnyH_ready (rs := [11]) (by kernel_rfl) (by simp) ?_
    refine AllReadyH.cons (o := ⟨none, _, _, _, _, _⟩) rfl (fun K hK => ?_) AllReadyH.nil
    go_simp
    obtain ⟨w6, hw6⟩ : ∃ z : World, z = ((w5.setCell ⟨w.heap.size + 1, 0, none⟩ (.int .i64 T.kind)).setCell ⟨w.heap.size + 1, 1, none⟩ (.slice A5 T.set.length c5)).setCell ⟨w.heap.size + 1, 2, none⟩ (.slice K5 T.kids.length k5) := ⟨_, rfl⟩
    have HX5 : Hid (Blk w6 (w.heap.size + 1) #[.int .i64 T.kind, .slice A5 T.set.length c5, .slice K5 T.kids.length k5] TRx) := by rw [hw6]; exact Lib.hid (put3 rfl M5.out)
    have HG5 : Hid (w5.grownBy w6 (some (w.heap.size + 1))) := by rw [hw6]; exact grown_set (grown_set (grown_set (grown_refl _ _) _ _) _ _) _ _
    rw [← hw6]
    clear g0 g1 g2 f0 f1 f2 hw6
    refine hK.out _ _ (HC.out w6 (fun k hk hne => (HG5.out.block k (Nat.lt_of_lt_of_le hk B5.out.size) (fun e => hne (Option.some.inj e))).trans (B5.out.block k hk))) (fun hHeld4 => ?_)
    clear hK K hHeld3
    try simp only [Act.put, List.getElem_toArray, List.getElem_cons_zero, List.getElem_cons_succ, List.setIfInBounds_toArray, List.set_cons_zero, List.set_cons_succ]
    refine wpAnyH_done (by kernel_rfl) ?_ _
    clear hHeld4 HC
    go_wp2_with fail
    refine bodyPost_ret (results_cell_row rfl _ _ (w.heap.size + 1) TRx _ (0, 0) _ rfl HX5.out.eq Tryz.underlying26 rfl (by rw [sizeRx]; rfl)) rfl ?_
    rw [E.out]
    exact rex_fin rfl rfl HP.out HV5.out (below_then HB.out B5.out) HG5.out (by omega)
  by_cases k6 : r.kind = 6
  · obtain ⟨x, y, ex, wx, wy⟩ := wf_kids2 hwf (by omega)
    have ekids : r.kids = [x, y] := by rw [ex]; rfl
    have hm2 : r.many = x.many + y.many + 1 := by rw [ex]; exact two_many _ x y
    have E : Hid (nrm r = nAnd (nrm x) (nrm y)) := by show _ = _; rw [ex, k6]; exact nrm_and [] x y
    obtain ⟨_, _, _, _, _, _, e2, _, hkk⟩ := HV.out.parts
    injection e2 with e3 e4 e5
    subst e3 e5
    rw [ekids] at hkk
    obtain ⟨ad, A1, c1, K1, dk1, A2, c2, K2, dk2, rfl, hx, x0, x1, x2, hy, y0, y1, y2⟩ := hkk.two
    have HX := Lib.hid hx
    have HY := Lib.hid hy
    have IHX : Hid (NrmOk 62 x) := IH.out x (by rw [ekids]; simp)
    have IHY : Hid (NrmOk 62 y) := IH.out y (by rw [ekids]; simp)
    have WX := Lib.hid wx
    have WY := Lib.hid wy
    have HM2 := Lib.hid hm2
    have FX := Lib.hid (nrm_fit x wx)
    have FY := Lib.hid (nrm_fit y wy)
    have hadp : p ad.block := hkk.ok ad rfl (by simp)
    have hadl : ad.block < w.heap.size := HP.out _ hadp
    rw [ekids] at n2
    simp only [List.length_cons, List.length_nil, Nat.zero_add] at n2
    have d3 : (r.kind == 3) = false := by simp [k6]
    have d4 : (r.kind == 4) = false := by simp [k6]
    have d6 : (r.kind == 6) = true := by simp [k6]
    clear k3 k4 k6
    go_enter Tryz.func62, Tryz.ntmps62
    have HC : Hid (∀ w' : World, (∀ k, k < wa.heap.size → k ≠ w.heap.size + 1 → w'.heap[k]? = wa.heap[k]?) → w'.cell? ⟨w.heap.size, 2, none⟩ = some (.slice (some ad) 2 ck) ∧ w'.cell? ad = some (.int .i64 x.kind) ∧ w'.cell? ⟨ad.block, ad.off + 1, none⟩ = some (.slice A1 x.set.length c1) ∧ w'.cell? ⟨ad.block, ad.off + 2, none⟩ = some (.slice K1 x.kids.length dk1) ∧
        w'.cell? ⟨ad.block, ad.off + 3, none⟩ = some (.int .i64 y.kind) ∧ w'.cell? ⟨ad.block, ad.off + 3 + 1, none⟩ = some (.slice A2 y.set.length c2) ∧ w'.cell? ⟨ad.block, ad.off + 3 + 2, none⟩ = some (.slice K2 y.kids.length dk2)) := fun w' hb =>
      have up : ∀ {q : Addr} {v : Value}, q.block ≠ w.heap.size + 1 → wa.cell? q = some v → w'.cell? q = some v := fun {q v} hne h => (World.cell?_of_block (w := wa) (hb _ (World.block_lt_of_cell? wa q h) hne)).trans h
      ⟨up (by show w.heap.size ≠ _; omega) n2, up (by omega) x0, up (by show ad.block ≠ _; omega) x1, up (by show ad.block ≠ _; omega) x2, up (by show ad.block ≠ _; omega) y0, up (by show ad.block ≠ _; omega) y1, up (by show ad.block ≠ _; omega) y2⟩
    clear ex ekids e4 hx hy wx wy IH hwf hm2 hkk
    go_wp2_with fail
    clear hwa n0 n1 n2 x0 x1 x2 y0 y1 y2
    refine wp_region_held_drew (S := fun w' => w'.cell? ⟨w.heap.size, 2, none⟩ = some (.slice (some ad) 2 ck) ∧ w'.cell? ad = some (.int .i64 x.kind) ∧ w'.cell? ⟨ad.block, ad.off + 1, none⟩ = some (.slice A1 x.set.length c1) ∧ w'.cell? ⟨ad.block, ad.off + 2, none⟩ = some (.slice K1 x.kids.length dk1) ∧
        w'.cell? ⟨ad.block, ad.off + 3, none⟩ = some (.int .i64 y.kind) ∧ w'.cell? ⟨ad.block, ad.off + 3 + 1, none⟩ = some (.slice A2 y.set.length c2) ∧ w'.cell? ⟨ad.block, ad.off + 3 + 2, none⟩ = some (.slice K2 y.kids.length dk2)) (by kernel_rfl) (HC.out _ fun k hk _ => (below_drew (Below.refl wa.heap.size wa)).block k hk) (fun hHeld0 => ?_)
    refine wpAnyH_take (i := 0) (v := ?_) rfl (by kernel_rfl) (by kernel_rfl) (by kernel_rfl) (fun _ _ _ h => h) (Or.inl ⟨by rfl, ?_⟩) (by assumption) ?_
    rotate_left
    · (intro w hSw; (try dsimp only at hSw); go_simp; try with_reducible rfl)
    try simp only [Act.put, List.getElem_toArray, List.getElem_cons_zero, List.getElem_cons_succ, List.setIfInBounds_toArray, List.set_cons_zero, List.set_cons_succ]
    refine wpAnyH_take (i := 1) (v := ?_) rfl (by kernel_rfl) (by kernel_rfl) (by kernel_rfl) (fun _ _ _ h => h) (Or.inl ⟨by rfl, ?_⟩) (by assumption) ?_
    rotate_left
    · (intro w hSw; (try dsimp only at hSw); go_simp; try with_reducible rfl)
    try simp only [Act.put, List.getElem_toArray, List.getElem_cons_zero, List.getElem_cons_succ, List.setIfInBounds_toArray, List.set_cons_zero, List.set_cons_succ]
    refine wpAnyH_take (i := 2) (v := ?_) rfl (by kernel_rfl) (by kernel_rfl) (by kernel_rfl) (fun _ _ _ h => h) (Or.inl ⟨by rfl, ?_⟩) (by assumption) ?_
    rotate_left
    · (intro w hSw; (try dsimp only at hSw); go_simp; try with_reducible rfl)
    try simp only [Act.put, List.getElem_toArray, List.getElem_cons_zero, List.getElem_cons_succ, List.setIfInBounds_toArray, List.set_cons_zero, List.set_cons_succ]
    refine wpAnyH_take (i := 3) (v := ?_) rfl (by kernel_rfl) (by kernel_rfl) (by kernel_rfl) (fun _ _ _ h => h) (Or.inl ⟨by rfl, ?_⟩) (by assumption) ?_
    rotate_left
    · (intro w hSw; (try dsimp only at hSw); go_simp; try with_reducible rfl)
    try simp only [Act.put, List.getElem_toArray, List.getElem_cons_zero, List.getElem_cons_succ, List.setIfInBounds_toArray, List.set_cons_zero, List.set_cons_succ]
    refine wpAnyH_take (i := 5) (v := ?_) rfl (by kernel_rfl) (by kernel_rfl) (by kernel_rfl) (fun _ _ _ h => h) (Or.inl ⟨by rfl, ?_⟩) (by assumption) ?_
    rotate_left
    · (intro w hSw; (try dsimp only at hSw); go_simp; try with_reducible rfl)
    try simp only [Act.put, List.getElem_toArray, List.getElem_cons_zero, List.getElem_cons_succ, List.setIfInBounds_toArray, List.set_cons_zero, List.set_cons_succ]
    refine wpAnyH_take (i := 6) (v := ?_) rfl (by kernel_rfl) (by kernel_rfl) (by kernel_rfl) (fun _ _ _ h => h) (Or.inl ⟨by rfl, ?_⟩) (by assumption) ?_
    rotate_left
    · (intro w hSw; (try dsimp only at hSw); go_simp; try with_reducible rfl)
    try simp only [Act.put, List.getElem_toArray, List.getElem_cons_zero, List.getElem_cons_succ, List.setIfInBounds_toArray, List.set_cons_zero, List.set_cons_succ]
    refine wpAnyH_take (i := 7) (v := ?_) rfl (by kernel_rfl) (by kernel_rfl) (by kernel_rfl) (fun _ _ _ h => h) (Or.inl ⟨by rfl, ?_⟩) (by assumption) ?_
    rotate_left
    · (intro w hSw; (try dsimp only at hSw); go_simp; try with_reducible rfl)
    try simp only [Act.put, List.getElem_toArray, List.getElem_cons_zero, List.getElem_cons_succ, List.setIfInBounds_toArray, List.set_cons_zero, List.set_cons_succ]
    refine wpAnyH_take (i := 8) (v := ?_) rfl (by kernel_rfl) (by kernel_rfl) (by kernel_rfl) (fun _ _ _ h => h) (Or.inl ⟨by rfl, ?_⟩) (by assumption) ?_
    rotate_left
    · (intro w hSw; (try dsimp only at hSw); go_simp; try with_reducible rfl)
    try simp only [Act.put, List.getElem_toArray, List.getElem_cons_zero, List.getElem_cons_succ, List.setIfInBounds_toArray, List.set_cons_zero, List.set_cons_succ]
    have hdz := (below_drew (Below.refl wa.heap.size wa)).size
    have hwz := HB.out.size
    refine wpAnyH_ready (rs := [4]) (by kernel_rfl) (by simp) ?_
    refine AllReadyH.cons (o := ⟨some 37, _, _, _, _, _⟩) rfl (fun K hK => ?_) AllReadyH.nil
    go_simp
    refine (IHX.out _ _ wa.drew p WX.out (HX.out.under (below_drew (Below.refl _ _))) (fun z hz => by have := HP.out z hz; omega) (by have := HM2.out; omega) (HPW.out.below (below_then HB.out (below_drew (Below.refl _ _))))).mono ?_
    rintro e w3 ⟨A3, c3, K3, k3, rfl, hv3, b3⟩
    have B3 := Lib.hid (below_then (below_drew (Below.refl wa.heap.size wa)) b3)
    have HV3 : Hid (RexP w3 (fun z => p z ∨ wa.heap.size ≤ z) (nrm x) (.int .i64 (nrm x).kind) (.slice A3 (nrm x).set.length c3) (.slice K3 (nrm x).kids.length k3)) := hv3.mono fun z hz => hz.imp id fun h => by omega
    clear hv3 b3
    (try go_wp2_with fail)
    refine hK.out _ _ (HC.out w3 (fun k hk _ => B3.out.block k hk)) (fun hHeld1 => ?_)
    clear hK K hHeld0
    try simp only [Act.put, List.getElem_toArray, List.getElem_cons_zero, List.getElem_cons_succ, List.setIfInBounds_toArray, List.set_cons_zero, List.set_cons_succ]
    have h3z := B3.out.size
    refine wpAnyH_ready (rs := [9]) (by kernel_rfl) (by simp) ?_
    refine AllReadyH.cons (o := ⟨some 42, _, _, _, _, _⟩) rfl (fun K hK => ?_) AllReadyH.nil
    go_simp
    refine (IHY.out _ _ w3 p WY.out (HY.out.under B3.out) (fun z hz => by have := HP.out z hz; omega) (by have := HM2.out; omega) (HPW.out.below (below_then HB.out B3.out))).mono ?_
    rintro e w4 ⟨A4, c4, K4, k4, rfl, hv4, b4⟩
    have B4 := Lib.hid (below_then B3.out b4)
    have HV4 : Hid (RexP w4 (fun z => (p z ∨ wa.heap.size ≤ z) ∧ z < w4.heap.size) (nrm y) (.int .i64 (nrm y).kind) (.slice A4 (nrm y).set.length c4) (.slice K4 (nrm y).kids.length k4)) := hv4.lt.mono fun z hz => ⟨hz.1.imp id fun h => by omega, hz.2⟩
    have HV34 : Hid (RexP w4 (fun z => (p z ∨ wa.heap.size ≤ z) ∧ z < w4.heap.size) (nrm x) (.int .i64 (nrm x).kind) (.slice A3 (nrm x).set.length c3) (.slice K3 (nrm x).kids.length k3)) := (HV3.out.under b4).lt
    clear hv4 b4 HV3
    (try go_wp2_with fail)
    refine hK.out _ _ (HC.out w4 (fun k hk _ => B4.out.block k hk)) (fun hHeld2 => ?_)
    clear hK K hHeld1
    try simp only [Act.put, List.getElem_toArray, List.getElem_cons_zero, List.getElem_cons_succ, List.setIfInBounds_toArray, List.set_cons_zero, List.set_cons_succ]
    have h4z := B4.out.size
    refine wpAnyH_ready (rs := [10]) (by kernel_rfl) (by simp) ?_
    refine AllReadyH.cons (o := ⟨some 43, _, _, _, _, _⟩) rfl (fun K hK => ?_) AllReadyH.nil
    go_simp
    refine (sAnd_r (nrm x) (nrm y) _ _ _ _ w4 _ FX.out.wf FY.out.wf HV34.out HV4.out (fun z hz => hz.2) (size_many (m := 0) FX.out.wf (by have := FX.out.many; have := HM2.out; omega)) (size_many (m := 0) FY.out.wf (by have := FY.out.many; have := HM2.out; omega)) (by have := FX.out.many; have := FY.out.many; have := HM2.out; omega) (HPW.out.below (below_then HB.out B4.out))).mono ?_
    rintro e w5 ⟨A5, c5, K5, k5, rfl, hv5, b5⟩
    obtain ⟨T, hT⟩ : ∃ z, z = nAnd (nrm x) (nrm y) := ⟨_, rfl⟩
    rw [← hT] at hv5 E ⊢
    have B5 := Lib.hid (below_then B4.out b5)
    have HV5 : Hid (RexP w5 (fun z => z ≠ w.heap.size + 1 ∧ (p z ∨ w.heap.size ≤ z)) T (.int .i64 T.kind) (.slice A5 T.set.length c5) (.slice K5 T.kids.length k5)) := hv5.mono fun z hz => by
      have h0 := HZ.out
      rcases hz with ⟨h | h, _⟩ | h
      · exact ⟨fun e => by have := HP.out z h; omega, .inl h⟩
      · exact ⟨by omega, .inr (by omega)⟩
      · exact ⟨by omega, .inr (by omega)⟩
    have M5 := Lib.hid (M1.out.below B5.out)
    clear hv5 b5 HV34 HV4 hT
    (try go_wp2_with fail)
    refine hK.out _ _ (HC.out w5 (fun k hk _ => B5.out.block k hk)) (fun hHeld3 => ?_)
    clear hK K hHeld2
    try simp only [Act.put, List.getElem_toArray, List.getElem_cons_zero, List.getElem_cons_succ, List.setIfInBounds_toArray, List.set_cons_zero, List.set_cons_succ]
    have g0 : w5.cell? ⟨w.heap.size + 1, 0, none⟩ = some (.int .i64 0) := by rw [M5.out.cell]; rfl
    have g1 : w5.cell? ⟨w.heap.size + 1, 1, none⟩ = some nilS := by rw [M5.out.cell]; rfl
    have g2 : w5.cell? ⟨w.heap.size + 1, 2, none⟩ = some nilS := by rw [M5.out.cell]; rfl
    have f0 : w5.frozen? ⟨w.heap.size + 1, 0, none⟩ = false := M5.out.free 0
    have f1 : w5.frozen? ⟨w.heap.size + 1, 1, none⟩ = false := M5.out.free 1
    have f2 : w5.frozen? ⟨w.heap.size + 1, 2, none⟩ = false := M5.out.free 2
    refine wpAnyH_ready (rs := [11]) (by kernel_rfl) (by simp) ?_
    refine AllReadyH.cons (o := ⟨none, _, _, _, _, _⟩) rfl (fun K hK => ?_) AllReadyH.nil
    go_simp
    obtain ⟨w6, hw6⟩ : ∃ z : World, z = ((w5.setCell ⟨w.heap.size + 1, 0, none⟩ (.int .i64 T.kind)).setCell ⟨w.heap.size + 1, 1, none⟩ (.slice A5 T.set.length c5)).setCell ⟨w.heap.size + 1, 2, none⟩ (.slice K5 T.kids.length k5) := ⟨_, rfl⟩
    have HX5 : Hid (Blk w6 (w.heap.size + 1) #[.int .i64 T.kind, .slice A5 T.set.length c5, .slice K5 T.kids.length k5] TRx) := by rw [hw6]; exact Lib.hid (put3 rfl M5.out)
    have HG5 : Hid (w5.grownBy w6 (some (w.heap.size + 1))) := by rw [hw6]; exact grown_set (grown_set (grown_set (grown_refl _ _) _ _) _ _) _ _
    rw [← hw6]
    clear g0 g1 g2 f0 f1 f2 hw6
    refine hK.out _ _ (HC.out w6 (fun k hk hne => (HG5.out.block k (Nat.lt_of_lt_of_le hk B5.out.size) (fun e => hne (Option.some.inj e))).trans (B5.out.block k hk))) (fun hHeld4 => ?_)
    clear hK K hHeld3
    try simp only [Act.put, List.getElem_toArray, List.getElem_cons_zero, List.getElem_cons_succ, List.setIfInBounds_toArray, List.set_cons_zero, List.set_cons_succ]
    refine wpAnyH_done (by kernel_rfl) ?_ _
    clear hHeld4 HC
    go_wp2_with fail
    refine bodyPost_ret (results_cell_row rfl _ _ (w.heap.size + 1) TRx _ (0, 0) _ rfl HX5.out.eq Tryz.underlying26 rfl (by rw [sizeRx]; rfl)) rfl ?_
    rw [E.out]
    exact rex_fin rfl rfl HP.out HV5.out (below_then HB.out B5.out) HG5.out (by omega)
  by_cases k5 : r.kind = 5
  · obtain ⟨x, ex, wx⟩ := wf_kids1 hwf (by omega)
    have ekids : r.kids = [x] := by rw [ex]; rfl
    have hm2 : r.many = x.many + 1 := by rw [ex]; simp [Rex.many, manyL]; omega
    have E : Hid (nrm r = nStar (nrm x)) := by show _ = _; rw [ex, k5]; exact nrm_star [] x
    obtain ⟨_, _, _, _, _, _, e2, _, hkk⟩ := HV.out.parts
    injection e2 with e3 e4 e5
    subst e3 e5
    rw [ekids] at hkk
    obtain ⟨ad, A1, c1, K1, dk1, rfl, hx, x0, x1, x2⟩ := hkk.one
    have HX := Lib.hid hx
    have IHX : Hid (NrmOk 62 x) := IH.out x (by rw [ekids]; simp)
    have WX := Lib.hid wx
    have HM2 := Lib.hid hm2
    have FX := Lib.hid (nrm_fit x wx)
    rw [ekids] at n2
    simp only [List.length_cons, List.length_nil, Nat.zero_add] at n2
    have d3 : (r.kind == 3) = false := by simp [k5]
    have d4 : (r.kind == 4) = false := by simp [k5]
    have d6 : (r.kind == 6) = false := by simp [k5]
    have d5 : (r.kind == 5) = true := by simp [k5]
    clear k3 k4 k6 k5
    go_enter Tryz.func62, Tryz.ntmps62
    have hwz := HB.out.size
    have IHC : Hid (Calls Tryz.prog 62 #[.agg #[.int .i64 x.kind, .slice A1 x.set.length c1, .slice K1 x.kids.length dk1]] wa (RexPost p (nrm x) wa)) := IHX.out _ _ wa p WX.out HX.out (fun z hz => by have := HP.out z hz; omega) (by have := HM2.out; omega) (HPW.out.below HB.out)
    clear ex ekids e4 hx wx IH hwf hm2 hkk
    go_wp2_with (first
      | ((with_reducible refine IHC.out.mono ?_); rintro e w3 ⟨A3, c3, K3, k3, rfl, hv3, b3⟩; have B3 := Lib.hid b3; have HV3 : Hid (RexP w3 (fun z => (p z ∨ wa.heap.size ≤ z) ∧ z < w3.heap.size) (nrm x) (.int .i64 (nrm x).kind) (.slice A3 (nrm x).set.length c3) (.slice K3 (nrm x).kids.length k3)) := (Lib.hid hv3.lt); clear hv3 b3)
      | ((with_reducible refine (sStar_c (nrm x) _ _ w3 _ HV3.out (fun z hz => hz.2)).mono ?_); rintro e w4 ⟨A4, c4, K4, k4, rfl, hv4, b4⟩; have B4 := Lib.hid (below_then B3.out b4); have HV4 := Lib.hid hv4; have M4 := Lib.hid (M1.out.below B4.out); have h43 := b4.size; clear hv4 b4)
      | ((with_reducible refine at_st 2 51 ?_); refine ev_store (o := ⟨none, .store _ (.tmp 2) _, _, _, _, _⟩) rfl rfl TRx (.tmp 2) (.tmp 51) rfl (w.heap.size + 1) 0 rfl [.int .i64 (nStar (nrm x)).kind, .slice A4 (nStar (nrm x)).set.length c4, .slice K4 (nStar (nrm x)).kids.length k4] rfl _ TRx M4.out (sizeRx' _ _ _) (by show 0 + 3 ≤ 3; omega) (three_one _ _ _ _ _ _ _) ?_; intro w5 hX5 hg5; have HX5 : Hid (Blk w5 (w.heap.size + 1) ([.int .i64 (nStar (nrm x)).kind, .slice A4 (nStar (nrm x)).set.length c4, .slice K4 (nStar (nrm x)).kids.length k4]).toArray TRx) := hX5; have HG5 := Lib.hid hg5; clear hX5 hg5)
      | fail)
    refine bodyPost_ret (results_cell_row rfl _ _ (w.heap.size + 1) TRx _ (0, 0) _ rfl HX5.out.eq Tryz.underlying26 rfl (by rw [sizeRx]; rfl)) rfl ?_
    rw [E.out]
    have h3z := B3.out.size
    exact rex_fin rfl rfl HP.out (HV4.out.mono fun z hz => by
      have h0 := HZ.out
      rcases hz with ⟨h | h, _⟩ | h
      · exact ⟨fun e => by have := HP.out z h; omega, .inl h⟩
      · exact ⟨by omega, .inr (by omega)⟩
      · exact ⟨by omega, .inr (by omega)⟩) (below_then HB.out B4.out) HG5.out (by omega)
  by_cases k7 : r.kind = 7
  · obtain ⟨x, ex, wx⟩ := wf_kids1 hwf (by omega)
    have ekids : r.kids = [x] := by rw [ex]; rfl
    have hm2 : r.many = x.many + 1 := by rw [ex]; simp [Rex.many, manyL]; omega
    have E : Hid (nrm r = nNot (nrm x)) := by show _ = _; rw [ex, k7]; exact nrm_not [] x
    obtain ⟨_, _, _, _, _, _, e2, _, hkk⟩ := HV.out.parts
    injection e2 with e3 e4 e5
    subst e3 e5
    rw [ekids] at hkk
    obtain ⟨ad, A1, c1, K1, dk1, rfl, hx, x0, x1, x2⟩ := hkk.one
    have HX := Lib.hid hx
    have IHX : Hid (NrmOk 62 x) := IH.out x (by rw [ekids]; simp)
    have WX := Lib.hid wx
    have HM2 := Lib.hid hm2
    have FX := Lib.hid (nrm_fit x wx)
    rw [ekids] at n2
    simp only [List.length_cons, List.length_nil, Nat.zero_add] at n2
    obtain ⟨dn, hdn⟩ := FX.out.wf
    have HDN := Lib.hid hdn
    have d3 : (r.kind == 3) = false := by simp [k7]
    have d4 : (r.kind == 4) = false := by simp [k7]
    have d6 : (r.kind == 6) = false := by simp [k7]
    have d5 : (r.kind == 5) = false := by simp [k7]
    have d7 : (r.kind == 7) = true := by simp [k7]
    clear k3 k4 k6 k5 k7 hdn
    go_enter Tryz.func62, Tryz.ntmps62
    have hwz := HB.out.size
    have IHC : Hid (Calls Tryz.prog 62 #[.agg #[.int .i64 x.kind, .slice A1 x.set.length c1, .slice K1 x.kids.length dk1]] wa (RexPost p (nrm x) wa)) := IHX.out _ _ wa p WX.out HX.out (fun z hz => by have := HP.out z hz; omega) (by have := HM2.out; omega) (HPW.out.below HB.out)
    clear ex ekids e4 hx wx IH hwf hm2 hkk
    go_wp2_with (first
      | ((with_reducible refine IHC.out.mono ?_); rintro e w3 ⟨A3, c3, K3, k3, rfl, hv3, b3⟩; have B3 := Lib.hid b3; have HV3 : Hid (RexP w3 (fun z => (p z ∨ wa.heap.size ≤ z) ∧ z < w3.heap.size) (nrm x) (.int .i64 (nrm x).kind) (.slice A3 (nrm x).set.length c3) (.slice K3 (nrm x).kids.length k3)) := (Lib.hid hv3.lt); clear hv3 b3)
      | ((with_reducible refine (sNot_c (nrm x) dn _ _ w3 _ HDN.out HV3.out (fun z hz => hz.2)).mono ?_); rintro e w4 ⟨A4, c4, K4, k4, rfl, hv4, b4⟩; have B4 := Lib.hid (below_then B3.out b4); have HV4 := Lib.hid hv4; have M4 := Lib.hid (M1.out.below B4.out); have h43 := b4.size; clear hv4 b4)
      | ((with_reducible refine at_st 2 59 ?_); refine ev_store (o := ⟨none, .store _ (.tmp 2) _, _, _, _, _⟩) rfl rfl TRx (.tmp 2) (.tmp 59) rfl (w.heap.size + 1) 0 rfl [.int .i64 (nNot (nrm x)).kind, .slice A4 (nNot (nrm x)).set.length c4, .slice K4 (nNot (nrm x)).kids.length k4] rfl _ TRx M4.out (sizeRx' _ _ _) (by show 0 + 3 ≤ 3; omega) (three_one _ _ _ _ _ _ _) ?_; intro w5 hX5 hg5; have HX5 : Hid (Blk w5 (w.heap.size + 1) ([.int .i64 (nNot (nrm x)).kind, .slice A4 (nNot (nrm x)).set.length c4, .slice K4 (nNot (nrm x)).kids.length k4]).toArray TRx) := hX5; have HG5 := Lib.hid hg5; clear hX5 hg5)
      | fail)
    refine bodyPost_ret (results_cell_row rfl _ _ (w.heap.size + 1) TRx _ (0, 0) _ rfl HX5.out.eq Tryz.underlying26 rfl (by rw [sizeRx]; rfl)) rfl ?_
    rw [E.out]
    have h3z := B3.out.size
    exact rex_fin rfl rfl HP.out (HV4.out.mono fun z hz => by
      have h0 := HZ.out
      rcases hz with ⟨h | h, _⟩ | h
      · exact ⟨fun e => by have := HP.out z h; omega, .inl h⟩
      · exact ⟨by omega, .inr (by omega)⟩
      · exact ⟨by omega, .inr (by omega)⟩) (below_then HB.out B4.out) HG5.out (by omega)
  · have hlf : r.kind = 1 ∨ r.kind = 2 := by rcases wf_kind hwf with h | h | h | h | h | h | h <;> omega
    have E : Hid (nrm r = r) := nrm_leaf hlf
    have d3 : (r.kind == 3) = false := by simp [k3]
    have d4 : (r.kind == 4) = false := by simp [k4]
    have d6 : (r.kind == 6) = false := by simp [k6]
    have d5 : (r.kind == 5) = false := by simp [k5]
    have d7 : (r.kind == 7) = false := by simp [k7]
    clear k3 k4 k6 k5 k7 IH hlf
    go_enter Tryz.func62, Tryz.ntmps62
    go_wp2_with ((with_reducible refine at_st 2 60 ?_); refine ev_store (o := ⟨none, .store _ (.tmp 2) _, _, _, _, _⟩) rfl rfl TRx (.tmp 2) (.tmp 60) rfl (w.heap.size + 1) 0 rfl [.int .i64 r.kind, .slice A r.set.length c, .slice K r.kids.length ck] rfl _ TRx M1.out (sizeRx' _ _ _) (by show 0 + 3 ≤ 3; omega) (three_one _ _ _ _ _ _ _) ?_; intro w5 hX5 hg5; have HX5 : Hid (Blk w5 (w.heap.size + 1) ([.int .i64 r.kind, .slice A r.set.length c, .slice K r.kids.length ck]).toArray TRx) := hX5; have HG5 := Lib.hid hg5; clear hX5 hg5)
    refine bodyPost_ret (results_cell_row rfl _ _ (w.heap.size + 1) TRx _ (0, 0) _ rfl HX5.out.eq Tryz.underlying26 rfl (by rw [sizeRx]; rfl)) rfl ?_
    rw [E.out]
    exact rex_fin rfl rfl HP.out (HV.out.mono fun z hz => ⟨fun e => by have := HP.out z hz; omega, .inl hz⟩) HB.out HG5.out (by omega)
end Go.Proofs.YtfeidjjabjejiaaGreatDoor
