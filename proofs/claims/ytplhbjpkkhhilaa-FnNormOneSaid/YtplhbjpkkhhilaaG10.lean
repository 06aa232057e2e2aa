/- Texts joined for the claims: Dt4 Ml Dt5 Dt6 Dt7. -/
import Derived.Test.YtplhbjpkkhhilaaG9
import Derived.Test.YtplhbjpkkhhilaaG1
import Derived.Test.YtplhbjpkkhhilaaG4
/- What draws a tree: l2Bent. -/
namespace Go.Proofs.Ytplhbjpkkhhilaa
set_option linter.unusedSimpArgs false
set_option linter.unusedVariables false
open Go.RowKit

/-- a tree was drawn: it is read -/
def DrawR (g p n m : Nat) (w : World) (e : Ending) (w' : World) : Prop :=
  ∃ r A c K ck q, e = .returned (.agg #[.int .i64 r.kind, .slice A r.set.length c, .slice K r.kids.length ck]) ∧ RexP w' (fun b => w.heap.size ≤ b) r (.int .i64 r.kind) (.slice A r.set.length c) (.slice K r.kids.length ck) ∧ r.size ≤ m ∧ Rd w' g q ∧ q ≤ p + n ∧ w.grownBy w' (some g)
theorem bent_fin {w wr w5 : World} {t : Rex} {A K : Option Addr} {k1 k2 c ck : Nat} {X g p q n m : Nat} (e1 : k1 = t.set.length) (e2 : k2 = t.kids.length) (HV : RexP wr (fun b => w.heap.size < b ∧ b ≠ X) t (.int .i64 t.kind) (.slice A k1 c) (.slice K k2 ck)) (HB : w.grownBy wr (some g)) (HR : Rd wr g q) (hg : g < w.heap.size)
    (hs : t.size ≤ m) (hq : q ≤ p + n) (HG : wr.grownBy w5 (some w.heap.size)) : DrawR g p n m w (.returned (.agg #[.int .i64 t.kind, .slice A k1 c, .slice K k2 ck])) w5 := by
  subst e1 e2
  refine ⟨t, A, c, K, ck, q, rfl, ?_, hs, HR.grown HG (fun k hk => by injection hk with hk; omega), hq, grown_row HB HG fun k hk => by injection hk with hk; omega⟩
  exact (HV.keep fun b hp hlt => HG.block b hlt fun e => by injection e with e; omega).mono fun b hb => by omega
theorem RexP.far {w : World} {n X : Nat} {t : Rex} {v0 v1 v2 : Value} (h : RexP w (fun b => n < b ∧ b ≠ X) t v0 v1 v2) (o : Nat) (u : Value) : RexP (w.setCell ⟨X, o, none⟩ u) (fun b => n < b ∧ b ≠ X) t v0 v1 v2 :=
  h.keep fun b hp _ => Below.heap_setCell _ _ _ _ hp.2
theorem RexP.far3 {w : World} {n X : Nat} {t : Rex} {v0 v1 v2 : Value} (h : RexP w (fun b => n < b ∧ b ≠ X) t v0 v1 v2) (u0 u1 u2 : Value) : RexP (((w.setCell ⟨X, 0, none⟩ u0).setCell ⟨X, 1, none⟩ u1).setCell ⟨X, 2, none⟩ u2) (fun b => n < b ∧ b ≠ X) t v0 v1 v2 :=
  ((h.far 0 u0).far 1 u1).far 2 u2
theorem RexP.grown {w w' : World} {p : Nat → Prop} {t : Rex} {v0 v1 v2 : Value} {g : Nat} (h : RexP w p t v0 v1 v2) (hg : w.grownBy w' (some g)) (hp : ∀ b, p b → b ≠ g) : RexP w' p t v0 v1 v2 :=
  h.keep fun b hb hlt => hg.block b hlt fun e => by injection e with e; exact hp b hb e
theorem RexP.kind' {w : World} {p : Nat → Prop} {k k' : Int} {s : List Sp} {ks : List Rex} {A K : Option Addr} {c ck : Nat} (h : RexP w p (.mk k s ks) (.int .i64 k) (.slice A s.length c) (.slice K ks.length ck)) : RexP w p (.mk k' s ks) (.int .i64 k') (.slice A s.length c) (.slice K ks.length ck) := by
  cases h with
  | mk _ _ _ _ _ _ _ V0 V1 V2 hs ps hn hl hc pk hr => exact .mk k' s ks A K c ck V0 V1 V2 hs ps hn hl hc pk hr
theorem RexP.set' {w : World} {p : Nat → Prop} {k : Int} {s s' : List Sp} {ks : List Rex} {A K A' : Option Addr} {c ck c' : Nat} (h : RexP w p (.mk k s ks) (.int .i64 k) (.slice A s.length c) (.slice K ks.length ck)) (hs' : SpsP w p A' c' s') : RexP w p (.mk k s' ks) (.int .i64 k) (.slice A' s'.length c') (.slice K ks.length ck) := by
  cases h with
  | mk _ _ _ _ _ _ _ V0 V1 V2 hs ps hn hl hc pk hr => exact .mk k s' ks A' K c' ck V0 V1 V2 hs'.sps hs'.ok hn hl hc pk hr
theorem sps_one {w w' : World} {p : Nat → Prop} {a b : Int} (h : OwnSp w' w.heap.size (.slice (some ⟨w.heap.size, 0, none⟩) 1 1) [⟨a, b⟩]) (hp : p w.heap.size) : SpsP w' p (some ⟨w.heap.size, 0, none⟩) 1 [⟨a, b⟩] := by
  obtain ⟨A, c, e, hs⟩ := h.sps
  injection e with e1 e2 e3
  subst e1 e3
  exact ⟨hs.lower (Nat.zero_le _), fun a e _ => by injection e with e; subst e; exact hp⟩
def L4 : List Int := [0, 8, 3, 5]
def FB : Nat → Nat
  | 0 => 7000
  | j + 1 => 2 * FB j
theorem nilSps {w : World} {p : Nat → Prop} : SpsP w p none 0 [] := ⟨⟨.inl rfl, Nat.le_refl _, by simp⟩, fun a e => by cases e⟩

set_option maxRecDepth 100000 in
set_option maxHeartbeats 8000000 in
theorem sBent_c (g p : Nat) (w : World) (h : Rd w g p) (hp : p ≤ 500000) :
    Calls Try.prog 52 #[.pointer (some ⟨g, 0, none⟩)] w (DrawR g p 800 230000 w) := by
  obtain ⟨wa, hwa⟩ : ∃ x, x = w.alloc (.cells #[.int .i64 0, nilS, nilS] TRx) := ⟨_, rfl⟩
  have N1a : Hid (Blk wa w.heap.size #[.int .i64 0, nilS, nilS] TRx) := by rw [hwa]; exact blk_new w _ _
  have GAa : Hid (w.grownBy wa (some g)) := by rw [hwa]; exact grown_below (below_alloc (Below.refl _ _) _)
  have RA : Hid (Rd wa g p) := by rw [hwa]; exact h.below (below_alloc (Below.refl _ _) _)
  have hza : wa.heap.size = w.heap.size + 1 := by rw [hwa]; simp
  have hg := h.lt
  replace hwa := hwa.symm
  go_enter Try.func52, Try.ntmps52
  go_wp2_with fail
  clear hwa h
  refine (sSome_c g p wa RA.out (by omega)).mono ?_
  rintro e w2 ⟨r, A, c, K, ck, fp, q, rfl, ho, hnd, hf, hs, HR2, hq, HG2⟩
  have N1b := Lib.hid (N1a.out.grown HG2 (fun k hk => by injection hk with hk; omega))
  have GAb := Lib.hid (grown_then GAa.out HG2)
  have Zb := HG2.size
  obtain ⟨k, s, ks⟩ := r
  dsimp only [Rex.kind, Rex.set, Rex.kids] at ho ⊢
  have HV := Lib.hid (((ho.rexp hf).lt).mono (p' := fun b => w.heap.size < b ∧ b ≠ w2.heap.size) fun b hb => ⟨by omega, by omega⟩)
  dsimp only [Rex.kind, Rex.set, Rex.kids] at HV
  clear HG2 ho hf hnd
  go_wp2_with fail
  obtain ⟨wc, hwc⟩ : ∃ x, x = w2.alloc (.cells #[.int .i64 k, .slice A s.length c, .slice K ks.length ck] TRx) := ⟨_, rfl⟩
  have hbc : Below w2.heap.size w2 wc := by rw [hwc]; exact below_alloc (Below.refl _ _) _
  have hgc := grown_below hbc (row := some g)
  have MO : Hid (Blk wc w2.heap.size #[.int .i64 k, .slice A s.length c, .slice K ks.length ck] TRx) := by rw [hwc]; exact blk_new w2 _ _
  have N1c := Lib.hid (N1b.out.grown hgc (fun k hk => by injection hk with hk; omega))
  have GAc := Lib.hid (grown_then GAb.out hgc)
  have Zc := hgc.size
  have RC := HR2.below hbc
  have HVc := Lib.hid (HV.out.under hbc)
  rw [← hwc]
  clear hgc hbc hwc HR2 HV
  refine (pick_c g q 48 _ RC (by omega) (by omega) (by omega)).mono ?_
  rintro e w3 ⟨z, rfl, z0, z1, HR3, HG3⟩
  have N1d := Lib.hid (N1c.out.grown HG3 (fun k hk => by injection hk with hk; omega))
  have GAd := Lib.hid (grown_then GAc.out HG3)
  have Zd := HG3.size
  have MO3 := Lib.hid (MO.out.grown HG3 (fun k hk => by injection hk with hk; omega))
  have HV3 := Lib.hid (HVc.out.grown HG3 (fun b hb => by omega))
  obtain ⟨X, hX⟩ : ∃ X, X = w2.heap.size := ⟨_, rfl⟩
  have hX3 : X < w3.heap.size := by have := MO3.out.lt; omega
  rw [← hX] at MO3 HV3 ⊢
  have hXw : w.heap.size < X := by omega
  clear HG3 HVc MO RC hX
  have hsz : (Rex.mk k s ks).size ≤ 6900 := hs
  have hs1 : s.length + (ks.length + sizeL ks) ≤ 6900 := by rw [Rex.size] at hs; exact hs
  by_cases c0 : z = 0
  · subst c0
    have hl4 : L4.length = 4 := rfl
    go_wp2_with fail
    refine (num_c g (q + 1) w3.heap.size 4 L4 0 8 _ (HR3.below (below_alloc (Below.refl _ _) _)) (ints_new w3 L4 _) (by have := HR3.lt; omega) (by simp) (by decide) (by decide) (by decide) (by omega)).mono ?_
    rintro e w4 ⟨y, rfl, y0, y1, HR4, HG4⟩
    have HG4' := grown_then (grown_below (below_alloc (Below.refl w3.heap.size w3) (.cells (L4.map fun z => Value.int .i64 z).toArray 3))) HG4
    have N1e := Lib.hid (N1d.out.grown HG4' (fun k hk => by injection hk with hk; omega))
    have GAe := Lib.hid (grown_then GAd.out HG4')
    have Ze := HG4'.size
    have MO4 := Lib.hid (MO3.out.grown HG4' (fun k hk => by injection hk with hk; omega))
    have HV4 := Lib.hid (HV3.out.grown HG4' (fun b hb => by omega))
    clear HG4 HG4' HV3 MO3 HR3
    have n0 := ((MO4.out).cell 0).trans rfl
    have n1 := ((MO4.out).cell 1).trans rfl
    have n2 := ((MO4.out).cell 2).trans rfl
    have f0 := MO4.out.free 0
    have N1f := Lib.hid (N1e.out.far (p := ⟨X, 0, none⟩) (show w.heap.size ≠ X by omega) (.int .i64 y))
    go_wp2_with (refine ev_store (o := ⟨none, .store _ (.tmp 2) _, _, _, _, _⟩) rfl rfl TRx (.tmp 2) (.tmp 41) rfl (w.heap.size) 0 rfl [.int .i64 y, .slice A s.length c, .slice K ks.length ck] rfl _ TRx N1f.out (sizeRx' _ _ _) (by show 0 + 3 ≤ 3; omega) (three_one _ _ _ _ _ _ _) ?_; intro w5 hX5 hg5; have HX5 : Hid (Blk w5 (w.heap.size) ([.int .i64 y, .slice A s.length c, .slice K ks.length ck]).toArray TRx) := hX5; have HG5 := Lib.hid hg5; clear hX5 hg5)
    refine bodyPost_ret (results_cell_row rfl _ _ (w.heap.size) TRx _ (0, 0) _ rfl HX5.out.eq Try.underlying34 rfl (by rw [sizeRx]; rfl)) rfl ?_
    exact bent_fin (t := .mk y s ks) rfl rfl ((HV4.out.far 0 _).kind') (grown_fresh GAe.out (by omega) _ _) (HR4.grown (grown_set (grown_refl _ _) _ _) (fun k hk => by injection hk with hk; omega)) hg (by rw [Rex.size]; omega) (by omega) HG5.out
  have d0 : (z == 0) = false := by simp [c0]
  by_cases c1 : z = 1
  · subst c1
    have n0 := ((MO3.out).cell 0).trans rfl
    have n1 := ((MO3.out).cell 1).trans rfl
    have n2 := ((MO3.out).cell 2).trans rfl
    have f1 := MO3.out.free 1
    obtain ⟨wb, hwb⟩ : ∃ x, x = w3.alloc (.cells #[.int .i64 5, .int .i64 4] TSp) := ⟨_, rfl⟩
    have HO : Hid (OwnSp wb w3.heap.size (.slice (some ⟨w3.heap.size, 0, none⟩) 1 1) [⟨5, 4⟩]) := by rw [hwb]; exact own_one w3 5 4
    have hbb : Below w3.heap.size w3 wb := by rw [hwb]; exact below_alloc (Below.refl _ _) _
    have hgb := grown_below hbb (row := some g)
    have N1e := Lib.hid (N1d.out.grown hgb (fun k hk => by injection hk with hk; omega))
    have GAe := Lib.hid (grown_then GAd.out hgb)
    have Ze := hgb.size
    have HVb := Lib.hid (HV3.out.under hbb)
    have HRb := Lib.hid (HR3.below hbb)
    have N1f := Lib.hid (N1e.out.far (p := ⟨X, 1, none⟩) (show w.heap.size ≠ X by omega) (.slice (some ⟨w3.heap.size, 0, none⟩) 1 1))
    have MOb := Lib.hid (MO3.out.below hbb)
    clear hgb hbb HR3 HV3 MO3 n0 n1 n2 f1
    have n0 := ((MOb.out).cell 0).trans rfl
    have n1 := ((MOb.out).cell 1).trans rfl
    have n2 := ((MOb.out).cell 2).trans rfl
    have f1 := MOb.out.free 1
    replace hwb := hwb.symm
    go_wp2_with (refine ev_store (o := ⟨none, .store _ (.tmp 2) _, _, _, _, _⟩) rfl rfl TRx (.tmp 2) (.tmp 41) rfl (w.heap.size) 0 rfl [.int .i64 k, .slice (some ⟨w3.heap.size, 0, none⟩) 1 1, .slice K ks.length ck] rfl _ TRx N1f.out (sizeRx' _ _ _) (by show 0 + 3 ≤ 3; omega) (three_one _ _ _ _ _ _ _) ?_; intro w5 hX5 hg5; have HX5 : Hid (Blk w5 (w.heap.size) ([.int .i64 k, .slice (some ⟨w3.heap.size, 0, none⟩) 1 1, .slice K ks.length ck]).toArray TRx) := hX5; have HG5 := Lib.hid hg5; clear hX5 hg5)
    refine bodyPost_ret (results_cell_row rfl _ _ (w.heap.size) TRx _ (0, 0) _ rfl HX5.out.eq Try.underlying34 rfl (by rw [sizeRx]; rfl)) rfl ?_
    have HS : SpsP wb (fun b => w.heap.size < b ∧ b ≠ X) (some ⟨w3.heap.size, 0, none⟩) 1 [⟨5, 4⟩] := sps_one HO.out ⟨by omega, by omega⟩
    exact bent_fin (t := .mk k [⟨5, 4⟩] ks) rfl rfl ((HVb.out.set' HS).far 1 _) (grown_fresh GAe.out (by omega) _ _) (HRb.out.grown (grown_set (grown_refl _ _) _ _) (fun k hk => by injection hk with hk; omega)) hg (by rw [Rex.size]; simp; omega) (by omega) HG5.out
  have d1 : (z == 1) = false := by simp [c1]
  by_cases c2 : z = 2
  · subst c2
    clear c0 d0 c1 d1
    go_wp2
    go_loopg [4] 9 (fun n i wr => ∃ j : Nat, j + n = 9 ∧ i = .int .i64 j ∧ ∃ (r : Rex) (A2 K2 : Option Addr) (c2 k2 : Nat), Hid (Blk wr X #[.int .i64 r.kind, .slice A2 r.set.length c2, .slice K2 r.kids.length k2] TRx) ∧ Hid (RexP wr (fun b => w.heap.size < b ∧ b ≠ X) r (.int .i64 r.kind) (.slice A2 r.set.length c2) (.slice K2 r.kids.length k2)) ∧ r.size ≤ 6900 + j ∧
      Hid (Rd wr g (q + 1)) ∧ Hid (w.grownBy wr (some g)) ∧ Hid (Blk wr w.heap.size #[.int .i64 0, nilS, nilS] TRx) ∧ X < wr.heap.size)
    case atStart => exact ⟨0, rfl, rfl, .mk k s ks, A, K, c, ck, MO3, HV3, by omega, HR3, GAd, N1d, hX3⟩
    case round =>
      clear MO3 HV3 HR3 GAd N1d hs hs1 hsz
      obtain ⟨j, hj, rfl, r, A2, K2, c2, k2, HX, HV, hs, HR, HG, HN, hXr⟩ := hrel
      by_cases hlt : j < 9
      · obtain ⟨wb, hwb⟩ : ∃ x, x = wr.alloc (.cells #[.int .i64 r.kind, .slice A2 r.set.length c2, .slice K2 r.kids.length k2] TRx) := ⟨_, rfl⟩
        have hbb : Below wr.heap.size wr wb := by rw [hwb]; exact below_alloc (Below.refl _ _) _
        have MB : Hid (Blk wb wr.heap.size #[.int .i64 r.kind, .slice A2 r.set.length c2, .slice K2 r.kids.length k2] TRx) := by rw [hwb]; exact blk_new _ _ _
        have HXb := Lib.hid (HX.out.below hbb)
        have HVb := Lib.hid (HV.out.under hbb)
        have HRb := Lib.hid (HR.out.below hbb)
        have HNb := Lib.hid (HN.out.below hbb)
        have HGb := Lib.hid (grown_then HG.out (grown_below hbb))
        have hzb := hbb.size
        have hgz := HG.out.size
        replace hwb := hwb.symm
        clear hbb HV HR HN HG
        have n0 := ((HX.out).cell 0).trans rfl
        have n1 := ((HX.out).cell 1).trans rfl
        have n2 := ((HX.out).cell 2).trans rfl
        have y0 := (HXb.out.cell 0).trans rfl
        have y1 := (HXb.out.cell 1).trans rfl
        have y2 := (HXb.out.cell 2).trans rfl
        have f0 := HXb.out.free 0
        have f1 := HXb.out.free 1
        have f2 := HXb.out.free 2
        go_wp2
        go_roundg (gk - 1)
        case rel =>
          refine ⟨j + 1, by omega, by go_num, .mk 5 [] [r], none, some ⟨wr.heap.size, 0, none⟩, 0, 1, (show Blk _ X #[.int .i64 5, nilS, .slice (some ⟨wr.heap.size, 0, none⟩) 1 1] TRx by simpa using ((HXb.out.set 0 (.int .i64 5)).set 1 nilS).set 2 (.slice (some ⟨wr.heap.size, 0, none⟩) 1 1)), ?_, by simp [Rex.size, sizeL]; omega, ?_, ?_, ?_, ?_⟩
          · exact (RexP.of (k := 5) (s := []) (ks := [r]) nilSps (KidsP.mk1 MB.out ⟨by omega, by omega⟩ HVb.out)).far3 _ _ _
          · exact ((HRb.out.grown (grown_set (grown_refl _ _) _ _) (fun k hk => by injection hk with hk; omega)).grown (grown_set (grown_refl _ _) _ _) (fun k hk => by injection hk with hk; omega)).grown (grown_set (grown_refl _ _) _ _) (fun k hk => by injection hk with hk; omega)
          · exact grown_fresh (grown_fresh (grown_fresh HGb.out (by omega) _ _) (by omega) _ _) (by omega) _ _
          · exact ((HNb.out.far (show w.heap.size ≠ X by omega) _).far (show w.heap.size ≠ X by omega) _).far (show w.heap.size ≠ X by omega) _
          · simp only [World.size_setCell]; omega
        case measure => omega
      · have hj' : j = 9 := by omega
        subst hj'
        have n0 := ((HX.out).cell 0).trans rfl
        have n1 := ((HX.out).cell 1).trans rfl
        have n2 := ((HX.out).cell 2).trans rfl
        go_wp2_with (refine ev_store (o := ⟨none, .store _ (.tmp 2) _, _, _, _, _⟩) rfl rfl TRx (.tmp 2) (.tmp 41) rfl (w.heap.size) 0 rfl [.int .i64 r.kind, .slice A2 r.set.length c2, .slice K2 r.kids.length k2] rfl _ TRx HN.out (sizeRx' _ _ _) (by show 0 + 3 ≤ 3; omega) (three_one _ _ _ _ _ _ _) ?_; intro w5 hX5 hg5; have HX5 : Hid (Blk w5 (w.heap.size) ([.int .i64 r.kind, .slice A2 r.set.length c2, .slice K2 r.kids.length k2]).toArray TRx) := hX5; have HG5 := Lib.hid hg5; clear hX5 hg5)
        refine bodyPost_ret (results_cell_row rfl _ _ (w.heap.size) TRx _ (0, 0) _ rfl HX5.out.eq Try.underlying34 rfl (by rw [sizeRx]; rfl)) rfl ?_
        exact bent_fin rfl rfl HV.out HG.out HR.out hg (by omega) (by omega) HG5.out
  have d2 : (z == 2) = false := by simp [c2]
  by_cases c3 : z = 3
  · subst c3
    clear c0 d0 c1 d1 c2 d2
    go_wp2
    go_loopg [5] 5 (fun n i wr => ∃ j : Nat, j + n = 5 ∧ i = .int .i64 j ∧ ∃ (r : Rex) (A2 K2 : Option Addr) (c2 k2 : Nat), Hid (Blk wr X #[.int .i64 r.kind, .slice A2 r.set.length c2, .slice K2 r.kids.length k2] TRx) ∧ Hid (RexP wr (fun b => w.heap.size < b ∧ b ≠ X) r (.int .i64 r.kind) (.slice A2 r.set.length c2) (.slice K2 r.kids.length k2)) ∧ r.size + 2 ≤ FB j ∧
      Hid (Rd wr g (q + 1)) ∧ Hid (w.grownBy wr (some g)) ∧ Hid (Blk wr w.heap.size #[.int .i64 0, nilS, nilS] TRx) ∧ X < wr.heap.size)
    case atStart => exact ⟨0, rfl, rfl, .mk k s ks, A, K, c, ck, MO3, HV3, by rw [FB]; omega, HR3, GAd, N1d, hX3⟩
    case round =>
      clear MO3 HV3 HR3 GAd N1d hs hs1 hsz
      obtain ⟨j, hj, rfl, r, A2, K2, c2, k2, HX, HV, hs, HR, HG, HN, hXr⟩ := hrel
      have hfb : FB j ≤ 224000 := by
        have : j = 0 ∨ j = 1 ∨ j = 2 ∨ j = 3 ∨ j = 4 ∨ j = 5 := by omega
        rcases this with e | e | e | e | e | e <;> rw [e] <;> decide
      by_cases hlt : j < 5
      · have CM : Hid (∀ w', Below wr.heap.size wr w' → w'.cell? ⟨X, 0, none⟩ = some (.int .i64 r.kind) ∧ w'.cell? ⟨X, 1, none⟩ = some (.slice A2 r.set.length c2) ∧ w'.cell? ⟨X, 2, none⟩ = some (.slice K2 r.kids.length k2)) := fun w' hb =>
          ⟨((HX.out.below hb).cell 0).trans rfl, ((HX.out.below hb).cell 1).trans rfl, ((HX.out.below hb).cell 2).trans rfl⟩
        have n0 := ((HX.out).cell 0).trans rfl
        have n1 := ((HX.out).cell 1).trans rfl
        have n2 := ((HX.out).cell 2).trans rfl
        have hcopy : Hid (Calls Try.prog 68 #[.agg #[.int .i64 r.kind, .slice A2 r.set.length c2, .slice K2 r.kids.length k2]] wr.drew fun e w' => ∃ v, e = .returned v ∧ ∃ A c K ck fp, v = .agg #[.int .i64 r.kind, .slice A r.set.length c, .slice K r.kids.length ck] ∧ OwnT w' fp (.mk r.kind r.set r.kids) (.slice A r.set.length c) (.slice K r.kids.length ck) ∧ fp.Nodup ∧ (∀ b, b ∈ fp → wr.heap.size ≤ b) ∧ Below wr.heap.size wr w') :=
          (sCopy_c r _ _ wr.drew 0 (HV.out.rexv.under (below_drew (Below.refl _ _))) (by omega)).mono fun e w' hc => by
            obtain ⟨A4, c4, K4, k4, fp4, rfl, ho4, hn4, hf4, b4⟩ := hc.own
            exact ⟨_, rfl, A4, c4, K4, k4, fp4, rfl, ho4, hn4, hf4, below_then (below_drew (Below.refl wr.heap.size wr)) b4⟩
        go_wp2
        go_region_law (refine step_call (by rfl) 68 _ _ (by rfl) _ Try.func68 (by kernel_rfl) (by kernel_rfl) #[.agg #[.int .i64 r.kind, .slice A2 r.set.length c2, .slice K2 r.kids.length k2]] (by rfl) hcopy.out ?_; rintro _ wD ⟨A4, c4, K4, k4, fp4, rfl, ho4, hn4, hf4, b4⟩; have BD := Lib.hid b4; have HO4 := Lib.hid ho4; have HF4 := Lib.hid hf4; clear ho4 hn4 hf4 b4; have z0 := (CM.out wD BD.out).1; have z1 := (CM.out wD BD.out).2.1; have z2 := (CM.out wD BD.out).2.2; have y0 := fun o => cell_alloc (CM.out wD BD.out).1 o; have y1 := fun o => cell_alloc (CM.out wD BD.out).2.1 o; have y2 := fun o => cell_alloc (CM.out wD BD.out).2.2 o; have f0 := fun o => ((HX.out.below BD.out).alloc o).free 0; have f1 := fun o => ((HX.out.below BD.out).alloc o).free 1; have f2 := fun o => ((HX.out.below BD.out).alloc o).free 2)
        all_goals
          have hbE : Below wD.heap.size wD (wD.alloc (.cells #[.int .i64 r.kind, .slice A2 r.set.length c2, .slice K2 r.kids.length k2, .int .i64 r.kind, .slice A4 r.set.length c4, .slice K4 r.kids.length k4] TRx)) := below_alloc (Below.refl _ _) _
          have MB := blk_new wD #[.int .i64 r.kind, .slice A2 r.set.length c2, .slice K2 r.kids.length k2, .int .i64 r.kind, .slice A4 r.set.length c4, .slice K4 r.kids.length k4] TRx
          have bE := below_then BD.out hbE
          have hzD := BD.out.size
          have hgz := HG.out.size
          have HK : Hid (KidsP _ (fun b => w.heap.size < b ∧ b ≠ X) (some ⟨wD.heap.size, 0, none⟩) 2 [r, r]) := KidsP.mk2 MB ⟨by omega, by omega⟩ (HV.out.under bE) (by
            have ho := HO4.out
            rw [← Rex.eta] at ho
            exact ((ho.rexp HF4.out).mono (p' := fun b => w.heap.size < b ∧ b ≠ X) fun b hb => ⟨by omega, by omega⟩).under hbE)
          have HXE := Lib.hid (HX.out.below bE)
          have HRE := Lib.hid (HR.out.below bE)
          have HNE := Lib.hid (HN.out.below bE)
          have HGE := Lib.hid (grown_then HG.out (grown_below bE))
          have hzE := Lib.hid bE.size
          clear hbE MB bE z0 z1 z2 y0 y1 y2 f0 f1 f2 n0 n1 n2
          go_wp2
          go_roundg (gk - 1)
          case rel =>
            refine ⟨j + 1, by omega, by go_num, .mk 3 [] [r, r], none, some ⟨wD.heap.size, 0, none⟩, 0, 2, (show Blk _ X #[.int .i64 3, nilS, .slice (some ⟨wD.heap.size, 0, none⟩) 2 2] TRx by simpa using ((HXE.out.set 0 (.int .i64 3)).set 1 nilS).set 2 (.slice (some ⟨wD.heap.size, 0, none⟩) 2 2)), ?_, by rw [FB]; simp [Rex.size, sizeL]; omega, ?_, ?_, ?_, ?_⟩
            · exact (RexP.of (k := 3) (s := []) (ks := [r, r]) nilSps HK.out).far3 _ _ _
            · exact ((HRE.out.grown (grown_set (grown_refl _ _) _ _) (fun k hk => by injection hk with hk; omega)).grown (grown_set (grown_refl _ _) _ _) (fun k hk => by injection hk with hk; omega)).grown (grown_set (grown_refl _ _) _ _) (fun k hk => by injection hk with hk; omega)
            · exact grown_fresh (grown_fresh (grown_fresh HGE.out (by omega) _ _) (by omega) _ _) (by omega) _ _
            · exact ((HNE.out.far (show w.heap.size ≠ X by omega) _).far (show w.heap.size ≠ X by omega) _).far (show w.heap.size ≠ X by omega) _
            · simp only [World.size_setCell]; exact Nat.lt_of_lt_of_le hXr hzE.out
          case measure => omega
      · have hj' : j = 5 := by omega
        subst hj'
        have n0 := ((HX.out).cell 0).trans rfl
        have n1 := ((HX.out).cell 1).trans rfl
        have n2 := ((HX.out).cell 2).trans rfl
        go_wp2_with (refine ev_store (o := ⟨none, .store _ (.tmp 2) _, _, _, _, _⟩) rfl rfl TRx (.tmp 2) (.tmp 41) rfl (w.heap.size) 0 rfl [.int .i64 r.kind, .slice A2 r.set.length c2, .slice K2 r.kids.length k2] rfl _ TRx HN.out (sizeRx' _ _ _) (by show 0 + 3 ≤ 3; omega) (three_one _ _ _ _ _ _ _) ?_; intro w5 hX5 hg5; have HX5 : Hid (Blk w5 (w.heap.size) ([.int .i64 r.kind, .slice A2 r.set.length c2, .slice K2 r.kids.length k2]).toArray TRx) := hX5; have HG5 := Lib.hid hg5; clear hX5 hg5)
        refine bodyPost_ret (results_cell_row rfl _ _ (w.heap.size) TRx _ (0, 0) _ rfl HX5.out.eq Try.underlying34 rfl (by rw [sizeRx]; rfl)) rfl ?_
        exact bent_fin rfl rfl HV.out HG.out HR.out hg (by omega) (by omega) HG5.out
  have d3 : (z == 3) = false := by simp [c3]
  have n0 := ((MO3.out).cell 0).trans rfl
  have n1 := ((MO3.out).cell 1).trans rfl
  have n2 := ((MO3.out).cell 2).trans rfl
  go_wp2_with (refine ev_store (o := ⟨none, .store _ (.tmp 2) _, _, _, _, _⟩) rfl rfl TRx (.tmp 2) (.tmp 41) rfl (w.heap.size) 0 rfl [.int .i64 k, .slice A s.length c, .slice K ks.length ck] rfl _ TRx N1d.out (sizeRx' _ _ _) (by show 0 + 3 ≤ 3; omega) (three_one _ _ _ _ _ _ _) ?_; intro w5 hX5 hg5; have HX5 : Hid (Blk w5 (w.heap.size) ([.int .i64 k, .slice A s.length c, .slice K ks.length ck]).toArray TRx) := hX5; have HG5 := Lib.hid hg5; clear hX5 hg5)
  refine bodyPost_ret (results_cell_row rfl _ _ (w.heap.size) TRx _ (0, 0) _ rfl HX5.out.eq Try.underlying34 rfl (by rw [sizeRx]; rfl)) rfl ?_
  exact bent_fin (t := .mk k s ks) rfl rfl HV3.out GAd.out HR3 hg (by rw [Rex.size]; omega) (by omega) HG5.out

end Go.Proofs.Ytplhbjpkkhhilaa

/- What the laws on texts say of plain trees. -/
namespace Go.Proofs.Ytplhbjpkkhhilaa
set_option linter.unusedSimpArgs false
set_option linter.unusedVariables false
open Go.RowKit

theorem many_mem {r : Rex} : ∀ {ks : List Rex}, r ∈ ks → r.many ≤ manyL ks
  | k :: ks, h => by
    rw [manyL]
    rcases List.mem_cons.1 h with rfl | h
    · omega
    · have := many_mem h; omega
theorem rexOk_kid {k : Int} {s : List Sp} {ks : List Rex} {x : Rex} (h : rexOk (.mk k s ks) = true) (hx : x ∈ ks) : rexOk x = true := by
  rw [rexOk, Bool.and_eq_true, decide_eq_true_eq] at h ⊢
  obtain ⟨_, _, _, _, h5⟩ := formed_node h.1
  have := many_mem hx
  have h2 := h.2
  rw [Rex.many] at h2
  exact ⟨formed_le (by omega) (h5 x hx), by omega⟩
theorem matchIs_not {r : Rex} {t : Txt} (h : rexOk (.mk 7 [] [r]) = true) (ht : t.length ≤ 12) : matchIs (.mk 7 [] [r]) t = !matchIs r t := by
  rw [matchIs_of h ht, matchIs_of (rexOk_kid h (by simp)) ht, lang7]
theorem Kids.lt1 {w : World} {lo : Nat} {r : Rex} {v0 v1 v2 : Value} (h : RexV w lo r v0 v1 v2) : RexV w 0 r v0 v1 v2 := h.lower (Nat.zero_le _)
/-- a tree of one part, of two, just made -/
theorem rexv_one {w : World} {lo : Nat} {r : Rex} {u1 u2 : Value} {g : Nat} (k : Int) (hb : Blk w g #[.int .i64 r.kind, u1, u2] TRx) (h : RexV w lo r (.int .i64 r.kind) u1 u2) : RexV w 0 (.mk k [] [r]) (.int .i64 k) nilS (.slice (some ⟨g, 0, none⟩) 1 1) :=
  (RexP.of (k := k) (s := []) (ks := [r]) nilSps (KidsP.mk1 hb hb.lt h.rexp)).rexv
theorem rexv_two {w : World} {lo lo' : Nat} {r s : Rex} {u1 u2 v1 v2 : Value} {g : Nat} (k : Int) (hb : Blk w g #[.int .i64 r.kind, u1, u2, .int .i64 s.kind, v1, v2] TRx) (h : RexV w lo r (.int .i64 r.kind) u1 u2) (h' : RexV w lo' s (.int .i64 s.kind) v1 v2) : RexV w 0 (.mk k [] [r, s]) (.int .i64 k) nilS (.slice (some ⟨g, 0, none⟩) 2 2) :=
  (RexP.of (k := k) (s := []) (ks := [r, s]) nilSps (KidsP.mk2 hb hb.lt h.rexp h'.rexp)).rexv
theorem box_one {w wx : World} {lo : Nat} {r : Rex} {u1 u2 : Value} (k : Int) (h : RexV w lo r (.int .i64 r.kind) u1 u2) (hwx : wx = (w.alloc (.cells #[.int .i64 r.kind, u1, u2] TRx)).alloc (.cells #[.int .i64 k, nilS, .slice (some ⟨w.heap.size, 0, none⟩) 1 1] TRx)) :
    RexV wx 0 (.mk k [] [r]) (.int .i64 k) nilS (.slice (some ⟨w.heap.size, 0, none⟩) 1 1) ∧ Blk wx (w.heap.size + 1) #[.int .i64 k, nilS, .slice (some ⟨w.heap.size, 0, none⟩) 1 1] TRx ∧ Below w.heap.size w wx := by
  have b1 := below_alloc (Below.refl w.heap.size w) (.cells #[.int .i64 r.kind, u1, u2] TRx)
  have b2 := below_alloc (Below.refl (w.alloc (.cells #[.int .i64 r.kind, u1, u2] TRx)).heap.size (w.alloc (.cells #[.int .i64 r.kind, u1, u2] TRx))) (.cells #[.int .i64 k, nilS, .slice (some ⟨w.heap.size, 0, none⟩) 1 1] TRx)
  subst hwx
  refine ⟨(rexv_one k (blk_new w #[.int .i64 r.kind, u1, u2] TRx) (h.under b1)).under b2, ?_, below_then b1 b2⟩
  have := blk_new (w.alloc (.cells #[.int .i64 r.kind, u1, u2] TRx)) #[.int .i64 k, nilS, .slice (some ⟨w.heap.size, 0, none⟩) 1 1] TRx
  rw [show (w.alloc (.cells #[.int .i64 r.kind, u1, u2] TRx)).heap.size = w.heap.size + 1 by simp] at this
  exact this
theorem box_two {w wx : World} {lo lo' : Nat} {r s : Rex} {u1 u2 v1 v2 : Value} (k : Int) (h : RexV w lo r (.int .i64 r.kind) u1 u2) (h' : RexV w lo' s (.int .i64 s.kind) v1 v2) (hwx : wx = (w.alloc (.cells #[.int .i64 r.kind, u1, u2, .int .i64 s.kind, v1, v2] TRx)).alloc (.cells #[.int .i64 k, nilS, .slice (some ⟨w.heap.size, 0, none⟩) 2 2] TRx)) :
    RexV wx 0 (.mk k [] [r, s]) (.int .i64 k) nilS (.slice (some ⟨w.heap.size, 0, none⟩) 2 2) ∧ Blk wx (w.heap.size + 1) #[.int .i64 k, nilS, .slice (some ⟨w.heap.size, 0, none⟩) 2 2] TRx ∧ Below w.heap.size w wx := by
  have b1 := below_alloc (Below.refl w.heap.size w) (.cells #[.int .i64 r.kind, u1, u2, .int .i64 s.kind, v1, v2] TRx)
  have b2 := below_alloc (Below.refl (w.alloc (.cells #[.int .i64 r.kind, u1, u2, .int .i64 s.kind, v1, v2] TRx)).heap.size (w.alloc (.cells #[.int .i64 r.kind, u1, u2, .int .i64 s.kind, v1, v2] TRx))) (.cells #[.int .i64 k, nilS, .slice (some ⟨w.heap.size, 0, none⟩) 2 2] TRx)
  subst hwx
  refine ⟨(rexv_two k (blk_new w #[.int .i64 r.kind, u1, u2, .int .i64 s.kind, v1, v2] TRx) (h.under b1) (h'.under b1)).under b2, ?_, below_then b1 b2⟩
  have := blk_new (w.alloc (.cells #[.int .i64 r.kind, u1, u2, .int .i64 s.kind, v1, v2] TRx)) #[.int .i64 k, nilS, .slice (some ⟨w.heap.size, 0, none⟩) 2 2] TRx
  rw [show (w.alloc (.cells #[.int .i64 r.kind, u1, u2, .int .i64 s.kind, v1, v2] TRx)).heap.size = w.heap.size + 1 by simp] at this
  exact this
theorem size_one (k : Int) (r : Rex) : (Rex.mk k [] [r]).size = r.size + 1 := by simp [Rex.size, sizeL]; omega
theorem size_two (k : Int) (r s : Rex) : (Rex.mk k [] [r, s]).size = r.size + s.size + 2 := by simp [Rex.size, sizeL]; omega

end Go.Proofs.Ytplhbjpkkhhilaa

/- What draws a text: of, l3Word, l15Many. -/
namespace Go.Proofs.Ytplhbjpkkhhilaa
set_option linter.unusedSimpArgs false
set_option linter.unusedVariables false
open Go.RowKit

theorem of_c (g p b c : Nat) (zs : List ByteArray) (w : World) (h : Rd w g p) (hc : CellsAt w ⟨b, 0, none⟩ (zs.map fun z => .string z)) (hbg : b ≠ g) (hb : b < w.heap.size) (hl : 0 < zs.length) (hl2 : zs.length ≤ 1000000) (hp : p ≤ 1000000) :
    Calls Try.prog 80 #[.pointer (some ⟨g, 0, none⟩), .slice (some ⟨b, 0, none⟩) zs.length c] w fun e w' => ∃ r : ByteArray, e = .returned (.string r) ∧ r ∈ zs ∧ Rd w' g (p + 1) ∧ w.grownBy w' (some g) := by
  go_enter Try.func80, Try.ntmps80
  go_wp2_with fail
  refine (pick_c g p _ _ h (by omega) (by omega) hp).mono ?_
  rintro e w1 ⟨r, rfl, r0, r1, HR, HG⟩
  obtain ⟨k, rfl⟩ := Int.eq_ofNat_of_zero_le r0
  have hk : k < zs.length := by omega
  have c1 : w1.cell? ⟨b, k, none⟩ = some (.string zs[k]) := by
    have e0 : (⟨b, 0, none⟩ : Addr).add k = ⟨b, k, none⟩ := by unfold Addr.add; split <;> simp_all
    rw [World.cell?_of_block (w := w) (HG.block b hb (by simpa using hbg)), ← e0]
    exact hc k _ (by simp [hk])
  have hz := Lib.hid (List.getElem_mem hk)
  have hR := Lib.hid HR
  have hG := Lib.hid HG
  obtain ⟨z, hz1⟩ : ∃ z, zs[k] = z := ⟨_, rfl⟩
  rw [hz1] at c1 hz
  clear HR HG hz1
  go_wp2
  go_ret
  exact ⟨z, rfl, hz.out, hR.out, hG.out⟩

set_option maxHeartbeats 1000000 in
theorem l15Many_c (n : Int) (hn : n ≤ 100) (w : World) :
    Calls Try.prog 57 #[.string ⟨#[97]⟩, .int .i64 n] w fun e w' => ∃ t : ByteArray, e = .returned (.string t) ∧ t.size ≤ 1000 ∧ w = w' := by
  go_enter Try.func57, Try.ntmps57
  go_wp2
  go_loopg [0, 1, 5] n.toNat (fun m v0 v1 v5 wr => ∃ s t : ByteArray, v0 = .string s ∧ v5 = .string t ∧ (∃ k : Int, v1 = .int .i64 k ∧ (k = m ∨ (k ≤ 0 ∧ m = 0))) ∧ Hid (t.size + m * s.size ≤ 100) ∧ Hid (s.size ≤ 200) ∧ m ≤ 100 ∧ wr = w)
  case atStart => exact ⟨_, _, rfl, rfl, ⟨n, rfl, by omega⟩, by show _ ≤ _; show 0 + n.toNat * 1 ≤ 100; omega, by show _ ≤ _; show 1 ≤ 200; omega, by omega, rfl⟩
  case round =>
    obtain ⟨s, t, rfl, rfl, ⟨k, rfl, hk⟩, HT, HS, hgm, rfl⟩ := hrel
    by_cases hpos : 0 < k
    · have hkm : k = gk := by omega
      subst hkm
      have hm0 : 0 < gk := by omega
      obtain ⟨m, hm⟩ : ∃ m, gk = 2 * m ∨ gk = 2 * m + 1 := ⟨gk / 2, by omega⟩
      have hh := HT.out
      have e0 : (gk : Int) / 2 = (m : Int) := by omega
      have hs1 : s.size ≤ gk * s.size := Nat.le_mul_of_pos_left _ hm0
      have W0 : IntKind.i64.wrap (m : Int) = m := IntWalk.i64_in _ (by omega)
      have W1 : IntKind.i64.wrap ((2 * (m : Int) + 1).tdiv 2) = m := by rw [Int.tdiv_eq_ediv_of_nonneg (by omega), show (2 * (m : Int) + 1) / 2 = m by omega, W0]
      replace W0 := Lib.hid W0
      replace W1 := Lib.hid W1
      rcases hm with hm | hm
      · have e1 : ((gk : Int) % 2) = 0 := by omega
        have e2 : gk * s.size = m * s.size + m * s.size := by rw [hm, Nat.two_mul, Nat.add_mul]
        go_wp2
        go_roundg m
        case rel => exact ⟨_, _, rfl, rfl, ⟨m, rfl, .inl rfl⟩, by show _ ≤ _; rw [ByteArray.size_append, Nat.mul_add]; omega, by show _ ≤ _; rw [ByteArray.size_append]; omega, by omega, rfl⟩
        case measure => omega
      · have e1 : ((gk : Int) % 2) = 1 := by omega
        have e2 : gk * s.size = m * s.size + m * s.size + s.size := by rw [hm, Nat.two_mul, Nat.add_mul, Nat.add_mul, Nat.one_mul]
        go_wp2
        go_roundg m
        case rel => exact ⟨_, _, rfl, rfl, ⟨m, congrArg _ (by omega), .inl rfl⟩, by show _ ≤ _; rw [ByteArray.size_append, ByteArray.size_append, Nat.mul_add]; omega, by show _ ≤ _; rw [ByteArray.size_append]; omega, by omega, rfl⟩
        case measure => omega
    · go_wp2
      go_ret
      exact ⟨t, rfl, by have := HT.out; omega, rfl⟩

def LW : List ByteArray := [⟨#[97]⟩, ⟨#[98]⟩, ⟨#[97]⟩, ⟨#[98]⟩, ⟨#[99]⟩, ⟨#[120]⟩, ⟨#[48]⟩, ⟨#[97]⟩, ⟨#[98]⟩, ⟨#[97]⟩, ⟨#[98]⟩, ⟨#[255]⟩, ⟨#[0]⟩]
theorem LW_size {s : ByteArray} (h : s ∈ LW) : s.size = 1 := by
  simp only [LW, List.mem_cons, List.mem_nil_iff, or_false] at h
  rcases h with h | h | h | h | h | h | h | h | h | h | h | h | h <;> rw [h] <;> rfl
theorem strs_new (w : World) (zs : List ByteArray) (t : TypeId) : CellsAt (w.alloc (.cells (zs.map fun z => Value.string z).toArray t)) ⟨w.heap.size, 0, none⟩ (zs.map fun z => .string z) := new_cells w _ t

set_option maxHeartbeats 1000000 in
theorem l3Word_c (g p n : Nat) (w : World) (h : Rd w g p) (hp : p ≤ 800000) (hn : n ≤ 10) :
    Calls Try.prog 59 #[.pointer (some ⟨g, 0, none⟩), .int .i64 n] w fun e w' => ∃ t q, e = .returned (.string t) ∧ t.size ≤ 10 ∧ Rd w' g q ∧ q ≤ p + 20 ∧ w.grownBy w' (some g) := by
  go_enter Try.func59, Try.ntmps59
  go_wp2_with fail
  refine (pick_c g p _ _ h (by omega) (by omega) (by omega)).mono ?_
  rintro e w1 ⟨r, rfl, r0, r1, HR, HG⟩
  obtain ⟨k, rfl⟩ := Int.eq_ofNat_of_zero_le r0
  replace HR := Lib.hid HR
  replace HG := Lib.hid HG
  clear h
  go_wp2
  go_loopg [5, 6] k (fun m v5 v6 wr => v6 = .int .i64 m ∧ m ≤ k ∧ ∃ (t : ByteArray) (q : Nat), v5 = .string t ∧ Hid (t.size + m = k) ∧ Hid (q + m = p + 1 + k) ∧ Hid (Rd wr g q) ∧ Hid (w.grownBy wr (some g)))
  case atStart => exact ⟨rfl, Nat.le_refl _, _, p + 1, rfl, by show _ = _; show 0 + k = k; omega, rfl, HR, HG⟩
  case round =>
    clear HR HG
    obtain ⟨rfl, hmk, t, q, rfl, HT, HQ, HR, HG⟩ := hrel
    have hq := HQ.out
    have ht := HT.out
    by_cases hpos : 0 < gk
    · have hl : LW.length = 13 := rfl
      go_wp2_with fail
      refine (of_c g q wr.heap.size 13 LW _ (HR.out.below (below_alloc (Below.refl _ _) _)) (strs_new wr LW _) (by have := HR.out.lt; omega) (by simp) (by decide) (by decide) (by omega)).mono ?_
      rintro e w3 ⟨s, rfl, hs, HR3, HG3⟩
      have HS := Lib.hid (LW_size hs)
      have HT3 := Lib.hid (grown_then HG.out (grown_then (grown_below (below_alloc (Below.refl _ _) _)) HG3))
      replace HR3 := Lib.hid HR3
      clear HR HG HG3 hs
      have hs1 : s.size = 1 := HS.out
      go_wp2
      go_roundg (gk - 1)
      case rel => exact ⟨by go_num, by omega, _, q + 1, rfl, by show _ = _; rw [ByteArray.size_append, HS.out]; omega, by show _ = _; omega, HR3, HT3⟩
      case measure => omega
    · go_wp2
      go_ret
      exact ⟨t, q, rfl, by omega, HR.out, by omega, HG.out⟩

end Go.Proofs.Ytplhbjpkkhhilaa

/- What draws trees and texts out of a code: DrawMatchIs, DrawMatchWord. -/
namespace Go.Proofs.Ytplhbjpkkhhilaa
set_option linter.unusedSimpArgs false
set_option linter.unusedVariables false
open Go.RowKit

theorem results_row_tmp {P : Program} {fn : Func} {p u : Tmp} {ty : TypeId} (h : fn.results = #[.cell p ty, .tmp u]) (tmps : Array Value) (w : World) (g : Nat) (t : TypeId) (cs : Array Value) (fr : Nat × Nat) (d : TypeDesc)
    (hp : tmps.getD p undef = .pointer (some ⟨g, 0, none⟩)) (hg : w.heap[g]? = some (.cells cs t fr))
    (hu : P.underlying ty = some d) (hd : (match d with | .struct _ | .array _ _ => true | _ => false) = true) (hi : (P.info? ty).map (·.size) = some cs.size) (x : Value) (hx : tmps.getD u undef = x) :
    (results fn tmps).run P w = .ok (.tuple #[.agg cs, x]) w := by
  have hp' : tmps[p]?.getD undef = .pointer (some ⟨g, 0, none⟩) := by simpa using hp
  have hx' : tmps[u]?.getD undef = x := by simpa using hx
  simp [results, h, hp', hx', asAddr, run_loadVar_row w g t ty cs fr d hg hu hd hi]
theorem results_row_tmp2 {P : Program} {fn : Func} {p u v : Tmp} {ty : TypeId} (h : fn.results = #[.cell p ty, .tmp u, .tmp v]) (tmps : Array Value) (w : World) (g : Nat) (t : TypeId) (cs : Array Value) (fr : Nat × Nat) (d : TypeDesc)
    (hp : tmps.getD p undef = .pointer (some ⟨g, 0, none⟩)) (hg : w.heap[g]? = some (.cells cs t fr))
    (hu : P.underlying ty = some d) (hd : (match d with | .struct _ | .array _ _ => true | _ => false) = true) (hi : (P.info? ty).map (·.size) = some cs.size) (x y : Value) (hx : tmps.getD u undef = x) (hy : tmps.getD v undef = y) :
    (results fn tmps).run P w = .ok (.tuple #[.agg cs, x, y]) w := by
  have hp' : tmps[p]?.getD undef = .pointer (some ⟨g, 0, none⟩) := by simpa using hp
  have hx' : tmps[u]?.getD undef = x := by simpa using hx
  have hy' : tmps[v]?.getD undef = y := by simpa using hy
  simp [results, h, hp', hx', hy', asAddr, run_loadVar_row w g t ty cs fr d hg hu hd hi]
theorem results_row_row {P : Program} {fn : Func} {p u : Tmp} {ty : TypeId} (h : fn.results = #[.cell p ty, .cell u ty]) (tmps : Array Value) (w : World) (g g' : Nat) (t t' : TypeId) (cs cs' : Array Value) (fr fr' : Nat × Nat) (d : TypeDesc)
    (hp : tmps.getD p undef = .pointer (some ⟨g, 0, none⟩)) (hg : w.heap[g]? = some (.cells cs t fr))
    (hu : P.underlying ty = some d) (hd : (match d with | .struct _ | .array _ _ => true | _ => false) = true) (hi : (P.info? ty).map (·.size) = some cs.size) (hq : tmps.getD u undef = .pointer (some ⟨g', 0, none⟩)) (hg' : w.heap[g']? = some (.cells cs' t' fr')) (hi' : (P.info? ty).map (·.size) = some cs'.size) :
    (results fn tmps).run P w = .ok (.tuple #[.agg cs, .agg cs']) w := by
  have hp' : tmps[p]?.getD undef = .pointer (some ⟨g, 0, none⟩) := by simpa using hp
  have hq' : tmps[u]?.getD undef = .pointer (some ⟨g', 0, none⟩) := by simpa using hq
  simp [results, h, hp', hq', asAddr, run_loadVar_row w g t ty cs fr d hg hu hd hi, run_loadVar_row w g' t' ty cs' fr' d hg' hu hd hi']

/-- a tree and a text were drawn -/
def DrawRT (w : World) (e : Ending) (w' : World) : Prop :=
  ∃ r A c K ck t, e = .returned (.tuple #[.agg #[.int .i64 r.kind, .slice A r.set.length c, .slice K r.kids.length ck], .string t]) ∧ RexP w' (fun b => w.heap.size ≤ b) r (.int .i64 r.kind) (.slice A r.set.length c) (.slice K r.kids.length ck) ∧ r.size ≤ 230000 ∧ t.size ≤ 1000 ∧ Below w.heap.size w w'
theorem set3_fin {w wr : World} {r : Rex} {A K : Option Addr} {c ck R : Nat} (hR : w.heap.size ≤ R) (HN : Blk wr R #[.int .i64 0, nilS, nilS] TRx) (HV : RexP wr (fun b => R < b) r (.int .i64 r.kind) (.slice A r.set.length c) (.slice K r.kids.length ck)) (HB : Below w.heap.size w wr) {w5 : World}
    (h5 : w5 = ((wr.setCell ⟨R, 0, none⟩ (.int .i64 r.kind)).setCell ⟨R, 1, none⟩ (.slice A r.set.length c)).setCell ⟨R, 2, none⟩ (.slice K r.kids.length ck)) :
    RexP w5 (fun b => R < b) r (.int .i64 r.kind) (.slice A r.set.length c) (.slice K r.kids.length ck) ∧ Below w.heap.size w w5 ∧ Blk w5 R #[.int .i64 r.kind, .slice A r.set.length c, .slice K r.kids.length ck] TRx := by
  subst h5
  refine ⟨HV.keep fun b hb _ => ?_, below_set (below_set (below_set HB hR _) hR _) hR _, by simpa using ((HN.set 0 (.int .i64 r.kind)).set 1 (.slice A r.set.length c)).set 2 (.slice K r.kids.length ck)⟩
  have hne : b ≠ R := by omega
  exact (Below.heap_setCell _ _ _ _ hne).trans ((Below.heap_setCell _ _ _ _ hne).trans (Below.heap_setCell _ _ _ _ hne))

def L12 : List Int := [12, 13]
theorem CellsAt.below' {w w' : World} {a : Addr} {cs : List Value} (h : CellsAt w a cs) (hb : Below w.heap.size w w') (ha : a.block < w.heap.size) : CellsAt w' a cs := h.moved (hb.block _ ha)
set_option maxRecDepth 100000 in
set_option maxHeartbeats 4000000 in
theorem drawIs_c (A0 : Option Addr) (c0 : Nat) (bs0 : List Int) (w : World) (h0 : Bys w 0 A0 c0 bs0) :
    Calls Try.prog 24 #[.slice A0 bs0.length c0] w (DrawRT w) := by
  obtain ⟨wa, hwa⟩ : ∃ x, x = w.alloc (.cells #[.int .i64 0, nilS, nilS] TRx) := ⟨_, rfl⟩
  have N1a : Hid (Blk wa w.heap.size #[.int .i64 0, nilS, nilS] TRx) := by rw [hwa]; exact blk_new w _ _
  have GAa : Hid (Below w.heap.size w wa) := by rw [hwa]; exact below_alloc (Below.refl _ _) _
  have RA : Hid (Bys wa 0 A0 c0 bs0) := by rw [hwa]; exact h0.below (lo := 0) (below_alloc (Below.refl _ _) _)
  have hza : wa.heap.size = w.heap.size + 1 := by rw [hwa]; simp
  replace hwa := hwa.symm
  go_enter Try.func24, Try.ntmps24
  go_wp2_with fail
  clear hwa h0
  refine (open_c _ _ _ _ RA.out).mono ?_
  rintro e w1 ⟨g, rfl, HR1, hga, b1⟩
  have GA1 := Lib.hid (below_then GAa.out b1)
  have N11 := Lib.hid (N1a.out.below b1)
  have hz1 := b1.size
  have hg1 := HR1.lt
  clear b1 RA
  go_wp2_with fail
  refine (sBent_c g 0 w1 HR1 (by omega)).mono ?_
  rintro e w2 ⟨r, A, c, K, ck, q, rfl, hv, hs, HR2, hq, HG2⟩
  have GA2 := Lib.hid (GA1.out.grown HG2 GA1.out.size (fun k hk => by injection hk with hk; omega))
  have N12 := Lib.hid (N11.out.grown HG2 (fun k hk => by injection hk with hk; omega))
  have hz2 := HG2.size
  clear HG2 HR1
  go_wp2_with fail
  obtain ⟨wc, hwc⟩ : ∃ x, x = w2.alloc (.cells #[.int .i64 r.kind, .slice A r.set.length c, .slice K r.kids.length ck] TRx) := ⟨_, rfl⟩
  have hbc : Below w2.heap.size w2 wc := by rw [hwc]; exact below_alloc (Below.refl _ _) _
  have MO : Hid (Blk wc w2.heap.size #[.int .i64 r.kind, .slice A r.set.length c, .slice K r.kids.length ck] TRx) := by rw [hwc]; exact blk_new w2 _ _
  have RC := HR2.below hbc
  have HVc := Lib.hid ((hv.under hbc).mono (p' := fun b => g < b) fun b hb => by omega)
  have GAc := Lib.hid (below_then GA2.out hbc)
  have N1c := Lib.hid (N12.out.below hbc)
  have hzc := hbc.size
  have hXc := MO.out.lt
  rw [← hwc]
  clear hbc hwc HR2 hv
  refine (pick_c g q 30 _ RC (by omega) (by omega) (by omega)).mono ?_
  rintro e w3 ⟨z, rfl, z0, z1, HR3, HG3⟩
  have MOc := MO
  have MOd := Lib.hid (MOc.out.grown HG3 (fun k hk => by injection hk with hk; omega))
  have HVd := Lib.hid (HVc.out.grown HG3 (fun b hb => by omega))
  have GAd := Lib.hid (GAc.out.grown HG3 GAc.out.size (fun k hk => by injection hk with hk; omega))
  have N1d := Lib.hid (N1c.out.grown HG3 (fun k hk => by injection hk with hk; omega))
  have hzd := HG3.size
  clear HG3 HVc MO MOc RC
  obtain ⟨X, hX⟩ : ∃ X, X = w2.heap.size := ⟨_, rfl⟩
  have hXg : g < X := by omega
  have hX3 : X < w3.heap.size := by omega
  rw [← hX] at MOd ⊢
  clear hX
  by_cases c0 : z = 0
  · subst c0
    have n0 := (MOd.out.cell 0).trans rfl
    have n1 := (MOd.out.cell 1).trans rfl
    have n2 := (MOd.out.cell 2).trans rfl
    obtain ⟨wi, hwi⟩ : ∃ x, x = w3.alloc (.cells #[.int .i64 12, .int .i64 13] 3) := ⟨_, rfl⟩
    have hbi : Below w3.heap.size w3 wi := by rw [hwi]; exact below_alloc (Below.refl _ _) _
    have hci : CellsAt wi ⟨w3.heap.size, 0, none⟩ (L12.map fun z => .int .i64 z) := by rw [hwi]; exact ints_new w3 L12 _
    have hil : w3.heap.size < wi.heap.size := by rw [hwi]; simp
    have hg3 := HR3.lt
    have hnum : ∀ w', Below wi.heap.size wi w' → Calls Try.prog 58 #[.pointer (some ⟨g, 0, none⟩), .slice (some ⟨w3.heap.size, 0, none⟩) 2 2] w' fun e wz => ∃ v, e = .returned v ∧ ∃ z : Int, v = .int .i64 z ∧ 12 ≤ z ∧ z ≤ 13 ∧ w3.grownBy wz (some g) := fun w' hb =>
      (num_c g (q + 1) w3.heap.size 2 L12 12 13 w' (HR3.below (below_then hbi hb)) (hci.below' hb hil) (by omega) (Nat.lt_of_lt_of_le hil hb.size) (by decide) (by decide) (by decide) (by omega)).mono fun e wz ⟨z, h1, h2, h3, _, h4⟩ => ⟨_, h1, z, rfl, h2, h3, grown_then (grown_below (below_then hbi hb)) h4⟩
    have HNUM := Lib.hid hnum
    have i0 := ((MOd.out.below hbi).cell 0).trans rfl
    have i1 := ((MOd.out.below hbi).cell 1).trans rfl
    have i2 := ((MOd.out.below hbi).cell 2).trans rfl
    clear hnum hci
    replace hwi := hwi.symm
    go_wp2
    go_region_law (first
      | (refine step_call (by rfl) 58 _ _ (by rfl) _ Try.func58 (by kernel_rfl) (by kernel_rfl) #[.pointer (some ⟨g, 0, none⟩), .slice (some ⟨w3.heap.size, 0, none⟩) 2 2] (by rfl) (HNUM.out _ (below_drew (Below.refl _ _))) ?_; rintro _ wN ⟨z, rfl, hz0, hz1, HGD⟩; have MOe := Lib.hid (MOd.out.grown HGD (fun k hk => by injection hk with hk; omega)); have HVe := Lib.hid (HVd.out.grown HGD (fun b hb => by omega)); have GAe := Lib.hid (GAd.out.grown HGD GAd.out.size (fun k hk => by injection hk with hk; omega)); have N1e := Lib.hid (N1d.out.grown HGD (fun k hk => by injection hk with hk; omega)); clear HGD; have x0 := (MOe.out.cell 0).trans rfl; have x1 := (MOe.out.cell 1).trans rfl; have x2 := (MOe.out.cell 2).trans rfl; have m0 := (N1e.out.cell 0).trans rfl; have m1 := (N1e.out.cell 1).trans rfl; have m2 := (N1e.out.cell 2).trans rfl; have f0 := N1e.out.free 0; have f1 := N1e.out.free 1; have f2 := N1e.out.free 2)
      | (refine step_call (by rfl) 57 _ _ (by rfl) _ Try.func57 (by kernel_rfl) (by kernel_rfl) #[.string ⟨#[97]⟩, .int .i64 z] (by rfl) ((l15Many_c z (by omega) _).mono (R' := fun e w' => ∃ v, e = .returned v ∧ ∃ t, v = .string t ∧ t.size ≤ 1000 ∧ wN = w') fun e w' ⟨t, h1, h2, h3⟩ => ⟨_, h1, t, rfl, h2, h3⟩) ?_; rintro _ _ ⟨t, rfl, ht, rfl⟩))
    all_goals
      clear n0 n1 n2 x0 x1 x2 m0 m1 m2 f0 f1 f2 i0 i1 i2
      go_wp2
      have fin := set3_fin (Nat.le_refl _) N1e.out (HVe.out.mono fun b hb => by omega) GAe.out rfl
      refine bodyPost_ret (results_row_tmp rfl _ _ w.heap.size TRx _ (0, 0) _ rfl fin.2.2.eq Try.underlying34 rfl (by rw [sizeRx]; rfl) (.string t) rfl) rfl ?_
      exact ⟨r, A, c, K, ck, t, rfl, fin.1.mono fun b hb => by omega, hs, by omega, fin.2.1⟩
  have d0 : (z == 0) = false := by simp [c0]
  have hcall : Hid (Calls Try.prog 59 #[.pointer (some ⟨g, 0, none⟩), .int .i64 6] w3.drew fun e w' => ∃ v, e = .returned v ∧ ∃ t, v = .string t ∧ t.size ≤ 10 ∧ w3.grownBy w' (some g)) :=
    (l3Word_c g (q + 1) 6 w3.drew (HR3.below (below_drew (Below.refl _ _))) (by omega) (by omega)).mono fun e w' ⟨t, q', h1, h2, _, _, h3⟩ => ⟨_, h1, t, rfl, h2, grown_then (grown_below (below_drew (Below.refl _ _))) h3⟩
  have n0 := (MOd.out.cell 0).trans rfl
  have n1 := (MOd.out.cell 1).trans rfl
  have n2 := (MOd.out.cell 2).trans rfl
  go_wp2
  go_region_law (refine step_call (by rfl) 59 _ _ (by rfl) _ Try.func59 (by kernel_rfl) (by kernel_rfl) #[.pointer (some ⟨g, 0, none⟩), .int .i64 6] (by rfl) hcall.out ?_; rintro _ wD ⟨t, rfl, ht, HGD⟩; have MOe := Lib.hid (MOd.out.grown HGD (fun k hk => by injection hk with hk; omega)); have HVe := Lib.hid (HVd.out.grown HGD (fun b hb => by omega)); have GAe := Lib.hid (GAd.out.grown HGD GAd.out.size (fun k hk => by injection hk with hk; omega)); have N1e := Lib.hid (N1d.out.grown HGD (fun k hk => by injection hk with hk; omega)); clear HGD; have x0 := (MOe.out.cell 0).trans rfl; have x1 := (MOe.out.cell 1).trans rfl; have x2 := (MOe.out.cell 2).trans rfl; have m0 := (N1e.out.cell 0).trans rfl; have m1 := (N1e.out.cell 1).trans rfl; have m2 := (N1e.out.cell 2).trans rfl; have f0 := N1e.out.free 0; have f1 := N1e.out.free 1; have f2 := N1e.out.free 2)
  all_goals
    clear n0 n1 n2 x0 x1 x2 m0 m1 m2 f0 f1 f2
    go_wp2
    have fin := set3_fin (Nat.le_refl _) N1e.out (HVe.out.mono fun b hb => by omega) GAe.out rfl
    refine bodyPost_ret (results_row_tmp rfl _ _ w.heap.size TRx _ (0, 0) _ rfl fin.2.2.eq Try.underlying34 rfl (by rw [sizeRx]; rfl) (.string t) rfl) rfl ?_
    exact ⟨r, A, c, K, ck, t, rfl, fin.1.mono fun b hb => by omega, hs, by omega, fin.2.1⟩

end Go.Proofs.Ytplhbjpkkhhilaa

/- What draws trees and texts out of a code: DrawMatchWord, DrawMatchLong, DrawNormStar, DrawRexSame. -/
namespace Go.Proofs.Ytplhbjpkkhhilaa
set_option linter.unusedSimpArgs false
set_option linter.unusedVariables false
open Go.RowKit



def L5 : List Int := [0, 1, 12, 13, 40]
set_option maxHeartbeats 1000000 in
theorem drawWord_c (A0 : Option Addr) (c0 : Nat) (bs0 : List Int) (w : World) (h0 : Bys w 0 A0 c0 bs0) :
    Calls Try.prog 25 #[.slice A0 bs0.length c0] w fun e w' => ∃ t, e = .returned (.string t) ∧ t.size ≤ 1000 ∧ Below w.heap.size w w' := by
  go_enter Try.func25, Try.ntmps25
  go_wp2_with fail
  refine (open_c _ _ _ _ h0).mono ?_
  rintro e w1 ⟨g, rfl, HR1, hga, b1⟩
  clear h0
  have hl : L5.length = 5 := rfl
  go_wp2_with fail
  refine (num_c g 0 w1.heap.size 5 L5 0 40 _ (HR1.below (below_alloc (Below.refl _ _) _)) (ints_new w1 L5 _) (by have := HR1.lt; omega) (by simp) (by decide) (by decide) (by decide) (by omega)).mono ?_
  rintro e w2 ⟨z, rfl, z0, z1, HR2, HG2⟩
  have B2 := Lib.hid ((below_then b1 (below_alloc (Below.refl _ _) (.cells (L5.map fun z => Value.int .i64 z).toArray 3))).grown HG2 (Nat.le_trans b1.size (by simp)) (fun k hk => by injection hk with hk; omega))
  clear b1 HG2 HR1 HR2
  go_wp2_with fail
  refine (l15Many_c z (by omega) _).mono ?_
  rintro e w3 ⟨t, rfl, ht, rfl⟩
  go_wp2
  go_ret
  exact ⟨t, rfl, ht, B2.out⟩

/-- a tree was drawn out of a code -/
def DrawX (w : World) (e : Ending) (w' : World) : Prop :=
  ∃ r A c K ck, e = .returned (.agg #[.int .i64 r.kind, .slice A r.set.length c, .slice K r.kids.length ck]) ∧ RexP w' (fun b => w.heap.size ≤ b) r (.int .i64 r.kind) (.slice A r.set.length c) (.slice K r.kids.length ck) ∧ r.size ≤ 230000 ∧ Below w.heap.size w w'
set_option maxHeartbeats 1000000 in
theorem drawStar_c (A0 : Option Addr) (c0 : Nat) (bs0 : List Int) (w : World) (h0 : Bys w 0 A0 c0 bs0) :
    Calls Try.prog 34 #[.slice A0 bs0.length c0] w (DrawX w) := by
  obtain ⟨wa, hwa⟩ : ∃ x, x = w.alloc (.cells #[.int .i64 0, nilS, nilS] TRx) := ⟨_, rfl⟩
  have N1a : Hid (Blk wa w.heap.size #[.int .i64 0, nilS, nilS] TRx) := by rw [hwa]; exact blk_new w _ _
  have GAa : Hid (Below w.heap.size w wa) := by rw [hwa]; exact below_alloc (Below.refl _ _) _
  have RA : Hid (Bys wa 0 A0 c0 bs0) := by rw [hwa]; exact h0.below (lo := 0) (below_alloc (Below.refl _ _) _)
  have hza : wa.heap.size = w.heap.size + 1 := by rw [hwa]; simp
  replace hwa := hwa.symm
  go_enter Try.func34, Try.ntmps34
  go_wp2_with fail
  clear hwa h0
  refine (open_c _ _ _ _ RA.out).mono ?_
  rintro e w1 ⟨g, rfl, HR1, hga, b1⟩
  have GA1 := Lib.hid (below_then GAa.out b1)
  have N11 := Lib.hid (N1a.out.below b1)
  have hz1 := b1.size
  have hg1 := HR1.lt
  clear b1 RA
  go_wp2_with fail
  refine (sBent_c g 0 w1 HR1 (by omega)).mono ?_
  rintro e w2 ⟨r, A, c, K, ck, q, rfl, hv, hs, HR2, hq, HG2⟩
  have GA2 := Lib.hid (GA1.out.grown HG2 GA1.out.size (fun k hk => by injection hk with hk; omega))
  have N12 := Lib.hid (N11.out.grown HG2 (fun k hk => by injection hk with hk; omega))
  have HV := Lib.hid hv
  clear HG2 HR1 HR2 hv
  go_wp2_with (refine ev_store (o := ⟨none, .store _ (.tmp 2) _, _, _, _, _⟩) rfl rfl TRx (.tmp 2) (.tmp 5) rfl (w.heap.size) 0 rfl [.int .i64 r.kind, .slice A r.set.length c, .slice K r.kids.length ck] rfl _ TRx N12.out (sizeRx' _ _ _) (by show 0 + 3 ≤ 3; omega) (three_one _ _ _ _ _ _ _) ?_; intro w5 hX5 hg5; have HX5 : Hid (Blk w5 (w.heap.size) ([.int .i64 r.kind, .slice A r.set.length c, .slice K r.kids.length ck]).toArray TRx) := hX5; have HG5 := Lib.hid hg5; clear hX5 hg5)
  refine bodyPost_ret (results_cell_row rfl _ _ (w.heap.size) TRx _ (0, 0) _ rfl HX5.out.eq Try.underlying34 rfl (by rw [sizeRx]; rfl)) rfl ?_
  exact ⟨r, A, c, K, ck, rfl, (HV.out.grown HG5.out fun b hb => by omega).mono fun b hb => by omega, hs, GA2.out.grown HG5.out GA2.out.size fun k hk => by injection hk with hk; omega⟩

/-- a tree, a text and a place were drawn -/
def DrawRTN (w : World) (e : Ending) (w' : World) : Prop :=
  ∃ r A c K ck t n, e = .returned (.tuple #[.agg #[.int .i64 r.kind, .slice A r.set.length c, .slice K r.kids.length ck], .string t, .int .i64 n]) ∧ RexP w' (fun b => w.heap.size ≤ b) r (.int .i64 r.kind) (.slice A r.set.length c) (.slice K r.kids.length ck) ∧ r.size ≤ 230000 ∧ t.size ≤ 10 ∧ -1 ≤ n ∧ n ≤ t.size + 1 ∧ Below w.heap.size w w'
set_option maxRecDepth 100000 in
set_option maxHeartbeats 4000000 in
theorem drawLong_c (A0 : Option Addr) (c0 : Nat) (bs0 : List Int) (w : World) (h0 : Bys w 0 A0 c0 bs0) :
    Calls Try.prog 31 #[.slice A0 bs0.length c0] w (DrawRTN w) := by
  obtain ⟨wa, hwa⟩ : ∃ x, x = w.alloc (.cells #[.int .i64 0, nilS, nilS] TRx) := ⟨_, rfl⟩
  have N1a : Hid (Blk wa w.heap.size #[.int .i64 0, nilS, nilS] TRx) := by rw [hwa]; exact blk_new w _ _
  have GAa : Hid (Below w.heap.size w wa) := by rw [hwa]; exact below_alloc (Below.refl _ _) _
  have RA : Hid (Bys wa 0 A0 c0 bs0) := by rw [hwa]; exact h0.below (lo := 0) (below_alloc (Below.refl _ _) _)
  have hza : wa.heap.size = w.heap.size + 1 := by rw [hwa]; simp
  replace hwa := hwa.symm
  go_enter Try.func31, Try.ntmps31
  go_wp2_with fail
  clear hwa h0
  refine (open_c _ _ _ _ RA.out).mono ?_
  rintro e w1 ⟨g, rfl, HR1, hga, b1⟩
  have GA1 := Lib.hid (below_then GAa.out b1)
  have N11 := Lib.hid (N1a.out.below b1)
  have hz1 := b1.size
  have hg1 := HR1.lt
  clear b1 RA
  go_wp2_with fail
  refine (sBent_c g 0 w1 HR1 (by omega)).mono ?_
  rintro e w2 ⟨r, A, c, K, ck, q, rfl, hv, hs, HR2, hq, HG2⟩
  have GA2 := Lib.hid (GA1.out.grown HG2 GA1.out.size (fun k hk => by injection hk with hk; omega))
  have N12 := Lib.hid (N11.out.grown HG2 (fun k hk => by injection hk with hk; omega))
  have hz2 := HG2.size
  clear HG2 HR1
  go_wp2_with fail
  obtain ⟨wc, hwc⟩ : ∃ x, x = w2.alloc (.cells #[.int .i64 r.kind, .slice A r.set.length c, .slice K r.kids.length ck] TRx) := ⟨_, rfl⟩
  have hbc : Below w2.heap.size w2 wc := by rw [hwc]; exact below_alloc (Below.refl _ _) _
  have MO : Hid (Blk wc w2.heap.size #[.int .i64 r.kind, .slice A r.set.length c, .slice K r.kids.length ck] TRx) := by rw [hwc]; exact blk_new w2 _ _
  have RC := HR2.below hbc
  have HVc := Lib.hid ((hv.under hbc).mono (p' := fun b => g < b) fun b hb => by omega)
  have GAc := Lib.hid (below_then GA2.out hbc)
  have N1c := Lib.hid (N12.out.below hbc)
  have hzc := hbc.size
  have hXc := MO.out.lt
  rw [← hwc]
  clear hbc hwc HR2 hv
  refine (l3Word_c g q 7 _ RC (by omega) (by omega)).mono ?_
  rintro e w3 ⟨t, q3, rfl, ht, HR3, hq3, HG3⟩
  have MOc := MO
  have MOd := Lib.hid (MOc.out.grown HG3 (fun k hk => by injection hk with hk; omega))
  have HVd := Lib.hid (HVc.out.grown HG3 (fun b hb => by omega))
  have GAd := Lib.hid (GAc.out.grown HG3 GAc.out.size (fun k hk => by injection hk with hk; omega))
  have N1d := Lib.hid (N1c.out.grown HG3 (fun k hk => by injection hk with hk; omega))
  have hzd := HG3.size
  clear HG3 HVc MO MOc RC
  obtain ⟨X, hX⟩ : ∃ X, X = w2.heap.size := ⟨_, rfl⟩
  have hXg : g < X := by omega
  have hX3 : X < w3.heap.size := by omega
  rw [← hX] at MOd ⊢
  clear hX
  have hcall : Hid (Calls Try.prog 41 #[.pointer (some ⟨g, 0, none⟩), .int .i64 ((t.size : Int) + 3)] w3.drew fun e w' => ∃ v, e = .returned v ∧ ∃ n, v = .int .i64 n ∧ 0 ≤ n ∧ n < (t.size : Int) + 3 ∧ w3.grownBy w' (some g)) :=
    (pick_c g q3 _ w3.drew (HR3.below (below_drew (Below.refl _ _))) (by omega) (by omega) (by omega)).mono fun e w' ⟨n, h1, h2, h4, _, h3⟩ => ⟨_, h1, n, rfl, h2, h4, grown_then (grown_below (below_drew (Below.refl _ _))) h3⟩
  have n0 := (MOd.out.cell 0).trans rfl
  have n1 := (MOd.out.cell 1).trans rfl
  have n2 := (MOd.out.cell 2).trans rfl
  have w0 : IntKind.i64.wrap ((t.size : Int) + 3) = (t.size : Int) + 3 := IntWalk.i64_in _ (by omega)
  go_wp2
  go_region_law (refine step_call (by rfl) 41 _ _ (by rfl) _ Try.func41 (by kernel_rfl) (by kernel_rfl) #[.pointer (some ⟨g, 0, none⟩), .int .i64 ((t.size : Int) + 3)] (by first | rfl | (simp [w0]; done)) hcall.out ?_; rintro _ wD ⟨n, rfl, hn0, hn1, HGD⟩; have MOe := Lib.hid (MOd.out.grown HGD (fun k hk => by injection hk with hk; omega)); have HVe := Lib.hid (HVd.out.grown HGD (fun b hb => by omega)); have GAe := Lib.hid (GAd.out.grown HGD GAd.out.size (fun k hk => by injection hk with hk; omega)); have N1e := Lib.hid (N1d.out.grown HGD (fun k hk => by injection hk with hk; omega)); clear HGD; have x0 := (MOe.out.cell 0).trans rfl; have x1 := (MOe.out.cell 1).trans rfl; have x2 := (MOe.out.cell 2).trans rfl; have m0 := (N1e.out.cell 0).trans rfl; have m1 := (N1e.out.cell 1).trans rfl; have m2 := (N1e.out.cell 2).trans rfl; have f0 := N1e.out.free 0; have f1 := N1e.out.free 1; have f2 := N1e.out.free 2)
  all_goals
    clear n0 n1 n2 x0 x1 x2 m0 m1 m2 f0 f1 f2
    go_wp2
    have fin := set3_fin (Nat.le_refl _) N1e.out (HVe.out.mono fun b hb => by omega) GAe.out rfl
    have w1 : IntKind.i64.wrap (n - 1) = n - 1 := IntWalk.i64_in _ (by omega)
    refine bodyPost_ret (results_row_tmp2 rfl _ _ w.heap.size TRx _ (0, 0) _ rfl fin.2.2.eq Try.underlying34 rfl (by rw [sizeRx]; rfl) (.string t) (.int .i64 (n - 1)) rfl (by first | rfl | (show Value.int .i64 (IntKind.i64.wrap (n - 1)) = _; rw [w1]))) rfl ?_
    exact ⟨r, A, c, K, ck, t, n - 1, rfl, fin.1.mono fun b hb => by omega, hs, by omega, by omega, by omega, fin.2.1⟩

end Go.Proofs.Ytplhbjpkkhhilaa
