/- Texts joined for the claims: Dt3 Dt4 Dt5 Dt6 Dt8 W4s. -/
import Derived.Test.YtlchipjckgaclaaDoorG7
import Derived.Deep.RegionHeld3
import Derived.Test.YtlchipjckgaclaaDoorG2
/- What draws a tree: l2Some, l2Bent. -/
namespace Go.Proofs.YtlchipjckgaclaaDoor
set_option linter.unusedSimpArgs false
set_option linter.unusedVariables false
set_option maxRecDepth 100000
open Go.RowKit


theorem OwnT.grown {w w' : World} {fp : List Nat} {r : Rex} {v1 v2 : Value} {g : Nat} (h : OwnT w fp r v1 v2) (hg : w.grownBy w' (some g)) (hf : ∀ b, b ∈ fp → g < b) : OwnT w' fp r v1 v2 :=
  h.stay fun b hb => hg.block b (h.lt b hb) fun e => by injection e with e; have := hf b hb; omega

set_option maxHeartbeats 4000000 in
theorem sSome_c (g p : Nat) (w : World) (h : Rd w g p) (hp : p ≤ 600000) :
    Calls Tryd.prog 83 #[.pointer (some ⟨g, 0, none⟩)] w (DrawT g p 700 6900 w) := by
  obtain ⟨wa, hwa⟩ : ∃ x, x = w.alloc (.cells #[.int .i64 0, nilS, nilS] TRx) := ⟨_, rfl⟩
  have N1a : Hid (Blk wa w.heap.size #[.int .i64 0, nilS, nilS] TRx) := by rw [hwa]; exact blk_new w _ _
  have GAa : Hid (w.grownBy wa (some g)) := by rw [hwa]; exact grown_below (below_alloc (Below.refl _ _) _)
  have RA : Hid (Rd wa g p) := by rw [hwa]; exact h.below (below_alloc (Below.refl _ _) _)
  have hza : wa.heap.size = w.heap.size + 1 := by rw [hwa]; simp
  have hg := h.lt
  replace hwa := hwa.symm
  go_enter Tryd.func83, Tryd.ntmps83
  go_wp2_with fail
  clear hwa h
  refine (pick_c g p 3 _ RA.out (by omega) (by omega) (by omega)).mono ?_
  rintro e w1 ⟨z, rfl, z0, z1, HR, HG⟩
  have N1b := Lib.hid (N1a.out.grown HG (fun k hk => by injection hk with hk; omega))
  have GAb := Lib.hid (grown_then GAa.out HG)
  have Zb := HG.size
  clear HG
  obtain ⟨y, rfl⟩ := Int.eq_ofNat_of_zero_le z0
  obtain ⟨d, hd⟩ : ∃ d : Nat, d = 2 + y := ⟨_, rfl⟩
  have ed : Hid ((2 : Int) + (y : Int) = (d : Int)) := by show _ = _; omega
  have hn : NB d ≤ 630 ∧ MB d ≤ 6550 := by
    have : d = 2 ∨ d = 3 ∨ d = 4 := by omega
    rcases this with e | e | e <;> rw [e] <;> decide
  obtain ⟨hn1, hn2⟩ := hn
  have hd2 : d ≤ 100 := by omega
  clear hd
  go_wp2_with fail
  rw [ed.out]
  refine (sDraw_c g d hd2 (p + 1) w1 HR (by omega)).mono ?_
  rintro e w2 ⟨r, A, c, K, ck, fp, q, rfl, ho, hnd, hf, hs, HR2, hq, HG2⟩
  have N1c := Lib.hid (N1b.out.grown HG2 (fun k hk => by injection hk with hk; omega))
  have GAc := Lib.hid (grown_then GAb.out HG2)
  have Zc := HG2.size
  have hgl : ∀ b, b ∈ fp → g < b := fun b hb => by have := hf b hb; omega
  have HO := Lib.hid ho
  have HF := Lib.hid hf
  clear HG2 ho hf hnd HR
  go_wp2_with fail
  obtain ⟨wc, hwc⟩ : ∃ x, x = w2.alloc (.cells #[.int .i64 r.kind, .slice A r.set.length c, .slice K r.kids.length ck] TRx) := ⟨_, rfl⟩
  have hbc : Below w2.heap.size w2 wc := by rw [hwc]; exact below_alloc (Below.refl _ _) _
  have hgc := grown_below hbc (row := some g)
  have MO : Hid (Blk wc w2.heap.size #[.int .i64 r.kind, .slice A r.set.length c, .slice K r.kids.length ck] TRx) := by rw [hwc]; exact blk_new w2 _ _
  have N1d := Lib.hid (N1c.out.grown hgc (fun k hk => by injection hk with hk; omega))
  have GAd := Lib.hid (grown_then GAc.out hgc)
  have Zd := hgc.size
  have RC := Lib.hid (HR2.below hbc)
  have HOc := Lib.hid (HO.out.under hbc)
  rw [← hwc]
  clear hgc hbc hwc HR2 HO
  have n0 : wc.cell? ⟨w2.heap.size, 0, none⟩ = some (.int .i64 r.kind) := by rw [MO.out.cell]; rfl
  have n1 : wc.cell? ⟨w2.heap.size, 1, none⟩ = some (.slice A r.set.length c) := by rw [MO.out.cell]; rfl
  have n2 : wc.cell? ⟨w2.heap.size, 2, none⟩ = some (.slice K r.kids.length ck) := by rw [MO.out.cell]; rfl
  go_wp2_with fail
  refine (sRexOk_c r _ _ wc 0 HOc.out.rex0 (by omega)).mono ?_
  rintro e w3 ⟨rfl, b3⟩
  have HG3 := grown_below b3 (row := some g)
  have N1e := Lib.hid (N1d.out.grown HG3 (fun k hk => by injection hk with hk; omega))
  have GAe := Lib.hid (grown_then GAd.out HG3)
  have Ze := HG3.size
  have RC3 := Lib.hid (RC.out.below b3)
  have HO3 := Lib.hid (HOc.out.under b3)
  have MO3 := Lib.hid (MO.out.below b3)
  clear HG3 b3 n0 n1 n2 RC HOc MO
  by_cases hok : rexOk r = true
  · rw [hok]
    have n0 : w3.cell? ⟨w2.heap.size, 0, none⟩ = some (.int .i64 r.kind) := by rw [MO3.out.cell]; rfl
    have n1 : w3.cell? ⟨w2.heap.size, 1, none⟩ = some (.slice A r.set.length c) := by rw [MO3.out.cell]; rfl
    have n2 : w3.cell? ⟨w2.heap.size, 2, none⟩ = some (.slice K r.kids.length ck) := by rw [MO3.out.cell]; rfl
    clear hok
    go_wp2_with (refine ev_store (o := ⟨none, .store _ (.tmp 2) _, _, _, _, _⟩) rfl rfl TRx (.tmp 2) (.tmp 14) rfl (w.heap.size) 0 rfl [.int .i64 r.kind, .slice A r.set.length c, .slice K r.kids.length ck] rfl _ TRx N1e.out (sizeRx' _ _ _) (by show 0 + 3 ≤ 3; omega) (three_one _ _ _ _ _ _ _) ?_; intro w5 hX5 hg5; have HX5 : Hid (Blk w5 (w.heap.size) ([.int .i64 r.kind, .slice A r.set.length c, .slice K r.kids.length ck]).toArray TRx) := hX5; have HG5 := Lib.hid hg5; clear hX5 hg5)
    refine bodyPost_ret (results_cell_row rfl _ _ (w.heap.size) TRx _ (0, 0) _ rfl HX5.out.eq Tryd.underlying36 rfl (by rw [sizeRx]; rfl)) rfl ?_
    exact draw_fin rfl rfl HO3.out HF.out (by omega) (Nat.le_refl _) GAe.out RC3.out hg (by omega) (by omega) HG5.out
  · rw [show rexOk r = false by simpa using hok]
    clear hok
    go_wp2_with fail
    refine (sLeaf_c g q _ RC3.out (by omega)).mono ?_
    rintro e w9 ⟨r9, A9, c9, K9, k9, fp9, q9, rfl, o9, n9, f9, s9, R9, hq9, G9⟩
    have N1z := Lib.hid (N1e.out.grown G9 (fun k hk => by injection hk with hk; omega))
    have GAz := Lib.hid (grown_then GAe.out G9)
    have Zz := G9.size
    have HO9 := Lib.hid o9
    have HF9 := Lib.hid f9
    have HR9 := Lib.hid R9
    clear o9 f9 R9 G9 n9
    go_wp2_with (refine ev_store (o := ⟨none, .store _ (.tmp 2) _, _, _, _, _⟩) rfl rfl TRx (.tmp 2) (.tmp 13) rfl (w.heap.size) 0 rfl [.int .i64 r9.kind, .slice A9 r9.set.length c9, .slice K9 r9.kids.length k9] rfl _ TRx N1z.out (sizeRx' _ _ _) (by show 0 + 3 ≤ 3; omega) (three_one _ _ _ _ _ _ _) ?_; intro w5 hX5 hg5; have HX5 : Hid (Blk w5 (w.heap.size) ([.int .i64 r9.kind, .slice A9 r9.set.length c9, .slice K9 r9.kids.length k9]).toArray TRx) := hX5; have HG5 := Lib.hid hg5; clear hX5 hg5)
    refine bodyPost_ret (results_cell_row rfl _ _ (w.heap.size) TRx _ (0, 0) _ rfl HX5.out.eq Tryd.underlying36 rfl (by rw [sizeRx]; rfl)) rfl ?_
    exact draw_fin rfl rfl HO9.out HF9.out (by omega) (Nat.le_refl _) GAz.out HR9.out hg (by omega) (by omega) HG5.out

end Go.Proofs.YtlchipjckgaclaaDoor

/- What draws a tree: l2Bent. -/
namespace Go.Proofs.YtlchipjckgaclaaDoor
set_option linter.unusedSimpArgs false
set_option linter.unusedVariables false
set_option maxRecDepth 100000
open Go.RowKit

/-- a tree was drawn: it is read -/
def DrawR (g p n m : Nat) (w : World) (e : Ending) (w' : World) : Prop :=
  ∃ r A c K ck q, e = .returned (.agg #[.int .i64 r.kind, .slice A r.set.length c, .slice K r.kids.length ck]) ∧ RexP w' (fun b => w.heap.size ≤ b) r (.int .i64 r.kind) (.slice A r.set.length c) (.slice K r.kids.length ck) ∧ r.size ≤ m ∧ Rd w' g q ∧ q ≤ p + n ∧ w.grownBy w' (some g)
theorem bent_fin {w wr w5 : World} {t : Rex} {A K : Option Addr} {k1 k2 c ck : Nat} {X g p q n m : Nat} (e1 : k1 = t.set.length) (e2 : k2 = t.kids.length) (HV : RexP wr (fun b => w.heap.size < b ∧ b ≠ X) t (.int .i64 t.kind) (.slice A k1 c) (.slice K k2 ck)) (HB : w.grownBy wr (some g)) (HR : Rd wr g q) (hg : g < w.heap.size)
    (hs : t.size ≤ m) (hq : q ≤ p + n) (HG : wr.grownBy w5 (some w.heap.size)) : DrawR g p n m w (.returned (.agg #[.int .i64 t.kind, .slice A k1 c, .slice K k2 ck])) w5 := by
  subst e1 e2
  refine ⟨t, A, c, K, ck, q, rfl, ?_, hs, HR.grown HG (fun k hk => by injection hk with hk; omega), hq, grown_row HB HG fun k hk => by injection hk with hk; omega⟩
  exact (HV.keep fun b hp hlt => HG.block b hlt fun e => by injection e with e; omega).mono fun b hb => by omega
theorem RexP.far {w : World} {n X : Nat} {t : Rex} {v0 v1 v2 : Value} (h : RexP w (fun b => n < b ∧ b ≠ X) t v0 v1 v2) (o : Nat) (u : Value) : RexP (w.setCell ⟨X, o, none⟩ u) (fun b => n < b ∧ b ≠ X) t v0 v1 v2 :=
  h.keep fun b hp _ => Below.heap_setCell _ _ _ _ hp.2
theorem RexP.far3 {w : World} {n X : Nat} {t : Rex} {v0 v1 v2 : Value} (h : RexP w (fun b => n < b ∧ b ≠ X) t v0 v1 v2) (u0 u1 u2 : Value) : RexP (((w.setCell ⟨X, 0, none⟩ u0).setCell ⟨X, 1, none⟩ u1).setCell ⟨X, 2, none⟩ u2) (fun b => n < b ∧ b ≠ X) t v0 v1 v2 :=
  ((h.far 0 u0).far 1 u1).far 2 u2
theorem RexP.grown {w w' : World} {p : Nat → Prop} {t : Rex} {v0 v1 v2 : Value} {g : Nat} (h : RexP w p t v0 v1 v2) (hg : w.grownBy w' (some g)) (hp : ∀ b, p b → b ≠ g) : RexP w' p t v0 v1 v2 :=
  h.keep fun b hb hlt => hg.block b hlt fun e => by injection e with e; exact hp b hb e
theorem RexP.kind' {w : World} {p : Nat → Prop} {k k' : Int} {s : List Sp} {ks : List Rex} {A K : Option Addr} {c ck : Nat} (h : RexP w p (.mk k s ks) (.int .i64 k) (.slice A s.length c) (.slice K ks.length ck)) : RexP w p (.mk k' s ks) (.int .i64 k') (.slice A s.length c) (.slice K ks.length ck) := by
  cases h with
  | mk _ _ _ _ _ _ _ V0 V1 V2 hs ps hn hl hc pk hr => exact .mk k' s ks A K c ck V0 V1 V2 hs ps hn hl hc pk hr
theorem RexP.set' {w : World} {p : Nat → Prop} {k : Int} {s s' : List Sp} {ks : List Rex} {A K A' : Option Addr} {c ck c' : Nat} (h : RexP w p (.mk k s ks) (.int .i64 k) (.slice A s.length c) (.slice K ks.length ck)) (hs' : SpsP w p A' c' s') : RexP w p (.mk k s' ks) (.int .i64 k) (.slice A' s'.length c') (.slice K ks.length ck) := by
  cases h with
  | mk _ _ _ _ _ _ _ V0 V1 V2 hs ps hn hl hc pk hr => exact .mk k s' ks A' K c' ck V0 V1 V2 hs'.sps hs'.ok hn hl hc pk hr
theorem sps_one {w w' : World} {p : Nat → Prop} {a b : Int} (h : OwnSp w' w.heap.size (.slice (some ⟨w.heap.size, 0, none⟩) 1 1) [⟨a, b⟩]) (hp : p w.heap.size) : SpsP w' p (some ⟨w.heap.size, 0, none⟩) 1 [⟨a, b⟩] := by
  obtain ⟨A, c, e, hs⟩ := h.sps
  injection e with e1 e2 e3
  subst e1 e3
  exact ⟨hs.lower (Nat.zero_le _), fun a e _ => by injection e with e; subst e; exact hp⟩
def L4 : List Int := [0, 8, 3, 5]
def FB : Nat → Nat
  | 0 => 7000
  | j + 1 => 2 * FB j
theorem nilSps {w : World} {p : Nat → Prop} : SpsP w p none 0 [] := ⟨⟨.inl rfl, Nat.le_refl _, by simp⟩, fun a e => by cases e⟩

set_option maxRecDepth 100000 in
set_option maxHeartbeats 8000000 in
theorem sBent_c (g p : Nat) (w : World) (h : Rd w g p) (hp : p ≤ 500000) :
    Calls Tryd.prog 51 #[.pointer (some ⟨g, 0, none⟩)] w (DrawR g p 800 230000 w) := by
  obtain ⟨wa, hwa⟩ : ∃ x, x = w.alloc (.cells #[.int .i64 0, nilS, nilS] TRx) := ⟨_, rfl⟩
  have N1a : Hid (Blk wa w.heap.size #[.int .i64 0, nilS, nilS] TRx) := by rw [hwa]; exact blk_new w _ _
  have GAa : Hid (w.grownBy wa (some g)) := by rw [hwa]; exact grown_below (below_alloc (Below.refl _ _) _)
  have RA : Hid (Rd wa g p) := by rw [hwa]; exact h.below (below_alloc (Below.refl _ _) _)
  have hza : wa.heap.size = w.heap.size + 1 := by rw [hwa]; simp
  have hg := h.lt
  replace hwa := hwa.symm
  go_enter Tryd.func51, Tryd.ntmps51
  go_wp2_with fail
  clear hwa h
  refine (sSome_c g p wa RA.out (by omega)).mono ?_
  rintro e w2 ⟨r, A, c, K, ck, fp, q, rfl, ho, hnd, hf, hs, HR2, hq, HG2⟩
  have N1b := Lib.hid (N1a.out.grown HG2 (fun k hk => by injection hk with hk; omega))
  have GAb := Lib.hid (grown_then GAa.out HG2)
  have Zb := HG2.size
  obtain ⟨k, s, ks⟩ := r
  dsimp only [Rex.kind, Rex.set, Rex.kids] at ho ⊢
  have HV := Lib.hid (((ho.rexp hf).lt).mono (p' := fun b => w.heap.size < b ∧ b ≠ w2.heap.size) fun b hb => ⟨by omega, by omega⟩)
  dsimp only [Rex.kind, Rex.set, Rex.kids] at HV
  clear HG2 ho hf hnd
  go_wp2_with fail
  obtain ⟨wc, hwc⟩ : ∃ x, x = w2.alloc (.cells #[.int .i64 k, .slice A s.length c, .slice K ks.length ck] TRx) := ⟨_, rfl⟩
  have hbc : Below w2.heap.size w2 wc := by rw [hwc]; exact below_alloc (Below.refl _ _) _
  have hgc := grown_below hbc (row := some g)
  have MO : Hid (Blk wc w2.heap.size #[.int .i64 k, .slice A s.length c, .slice K ks.length ck] TRx) := by rw [hwc]; exact blk_new w2 _ _
  have N1c := Lib.hid (N1b.out.grown hgc (fun k hk => by injection hk with hk; omega))
  have GAc := Lib.hid (grown_then GAb.out hgc)
  have Zc := hgc.size
  have RC := HR2.below hbc
  have HVc := Lib.hid (HV.out.under hbc)
  rw [← hwc]
  clear hgc hbc hwc HR2 HV
  refine (pick_c g q 48 _ RC (by omega) (by omega) (by omega)).mono ?_
  rintro e w3 ⟨z, rfl, z0, z1, HR3, HG3⟩
  have N1d := Lib.hid (N1c.out.grown HG3 (fun k hk => by injection hk with hk; omega))
  have GAd := Lib.hid (grown_then GAc.out HG3)
  have Zd := HG3.size
  have MO3 := Lib.hid (MO.out.grown HG3 (fun k hk => by injection hk with hk; omega))
  have HV3 := Lib.hid (HVc.out.grown HG3 (fun b hb => by omega))
  obtain ⟨X, hX⟩ : ∃ X, X = w2.heap.size := ⟨_, rfl⟩
  have hX3 : X < w3.heap.size := by have := MO3.out.lt; omega
  rw [← hX] at MO3 HV3 ⊢
  have hXw : w.heap.size < X := by omega
  clear HG3 HVc MO RC hX
  have hsz : (Rex.mk k s ks).size ≤ 6900 := hs
  have hs1 : s.length + (ks.length + sizeL ks) ≤ 6900 := by rw [Rex.size] at hs; exact hs
  by_cases c0 : z = 0
  · subst c0
    have hl4 : L4.length = 4 := rfl
    go_wp2_with fail
    refine (num_c g (q + 1) w3.heap.size 4 L4 0 8 _ (HR3.below (below_alloc (Below.refl _ _) _)) (ints_new w3 L4 _) (by have := HR3.lt; omega) (by simp) (by decide) (by decide) (by decide) (by omega)).mono ?_
    rintro e w4 ⟨y, rfl, y0, y1, HR4, HG4⟩
    have HG4' := grown_then (grown_below (below_alloc (Below.refl w3.heap.size w3) (.cells (L4.map fun z => Value.int .i64 z).toArray 3))) HG4
    have N1e := Lib.hid (N1d.out.grown HG4' (fun k hk => by injection hk with hk; omega))
    have GAe := Lib.hid (grown_then GAd.out HG4')
    have Ze := HG4'.size
    have MO4 := Lib.hid (MO3.out.grown HG4' (fun k hk => by injection hk with hk; omega))
    have HV4 := Lib.hid (HV3.out.grown HG4' (fun b hb => by omega))
    clear HG4 HG4' HV3 MO3 HR3
    have n0 := ((MO4.out).cell 0).trans rfl
    have n1 := ((MO4.out).cell 1).trans rfl
    have n2 := ((MO4.out).cell 2).trans rfl
    have f0 := MO4.out.free 0
    have N1f := Lib.hid (N1e.out.far (p := ⟨X, 0, none⟩) (show w.heap.size ≠ X by omega) (.int .i64 y))
    go_wp2_with (refine ev_store (o := ⟨none, .store _ (.tmp 2) _, _, _, _, _⟩) rfl rfl TRx (.tmp 2) (.tmp 41) rfl (w.heap.size) 0 rfl [.int .i64 y, .slice A s.length c, .slice K ks.length ck] rfl _ TRx N1f.out (sizeRx' _ _ _) (by show 0 + 3 ≤ 3; omega) (three_one _ _ _ _ _ _ _) ?_; intro w5 hX5 hg5; have HX5 : Hid (Blk w5 (w.heap.size) ([.int .i64 y, .slice A s.length c, .slice K ks.length ck]).toArray TRx) := hX5; have HG5 := Lib.hid hg5; clear hX5 hg5)
    refine bodyPost_ret (results_cell_row rfl _ _ (w.heap.size) TRx _ (0, 0) _ rfl HX5.out.eq Tryd.underlying36 rfl (by rw [sizeRx]; rfl)) rfl ?_
    exact bent_fin (t := .mk y s ks) rfl rfl ((HV4.out.far 0 _).kind') (grown_fresh GAe.out (by omega) _ _) (HR4.grown (grown_set (grown_refl _ _) _ _) (fun k hk => by injection hk with hk; omega)) hg (by rw [Rex.size]; omega) (by omega) HG5.out
  have d0 : (z == 0) = false := by simp [c0]
  by_cases c1 : z = 1
  · subst c1
    have n0 := ((MO3.out).cell 0).trans rfl
    have n1 := ((MO3.out).cell 1).trans rfl
    have n2 := ((MO3.out).cell 2).trans rfl
    have f1 := MO3.out.free 1
    obtain ⟨wb, hwb⟩ : ∃ x, x = w3.alloc (.cells #[.int .i64 5, .int .i64 4] TSp) := ⟨_, rfl⟩
    have HO : Hid (OwnSp wb w3.heap.size (.slice (some ⟨w3.heap.size, 0, none⟩) 1 1) [⟨5, 4⟩]) := by rw [hwb]; exact own_one w3 5 4
    have hbb : Below w3.heap.size w3 wb := by rw [hwb]; exact below_alloc (Below.refl _ _) _
    have hgb := grown_below hbb (row := some g)
    have N1e := Lib.hid (N1d.out.grown hgb (fun k hk => by injection hk with hk; omega))
    have GAe := Lib.hid (grown_then GAd.out hgb)
    have Ze := hgb.size
    have HVb := Lib.hid (HV3.out.under hbb)
    have HRb := Lib.hid (HR3.below hbb)
    have N1f := Lib.hid (N1e.out.far (p := ⟨X, 1, none⟩) (show w.heap.size ≠ X by omega) (.slice (some ⟨w3.heap.size, 0, none⟩) 1 1))
    have MOb := Lib.hid (MO3.out.below hbb)
    clear hgb hbb HR3 HV3 MO3 n0 n1 n2 f1
    have n0 := ((MOb.out).cell 0).trans rfl
    have n1 := ((MOb.out).cell 1).trans rfl
    have n2 := ((MOb.out).cell 2).trans rfl
    have f1 := MOb.out.free 1
    replace hwb := hwb.symm
    go_wp2_with (refine ev_store (o := ⟨none, .store _ (.tmp 2) _, _, _, _, _⟩) rfl rfl TRx (.tmp 2) (.tmp 41) rfl (w.heap.size) 0 rfl [.int .i64 k, .slice (some ⟨w3.heap.size, 0, none⟩) 1 1, .slice K ks.length ck] rfl _ TRx N1f.out (sizeRx' _ _ _) (by show 0 + 3 ≤ 3; omega) (three_one _ _ _ _ _ _ _) ?_; intro w5 hX5 hg5; have HX5 : Hid (Blk w5 (w.heap.size) ([.int .i64 k, .slice (some ⟨w3.heap.size, 0, none⟩) 1 1, .slice K ks.length ck]).toArray TRx) := hX5; have HG5 := Lib.hid hg5; clear hX5 hg5)
    refine bodyPost_ret (results_cell_row rfl _ _ (w.heap.size) TRx _ (0, 0) _ rfl HX5.out.eq Tryd.underlying36 rfl (by rw [sizeRx]; rfl)) rfl ?_
    have HS : SpsP wb (fun b => w.heap.size < b ∧ b ≠ X) (some ⟨w3.heap.size, 0, none⟩) 1 [⟨5, 4⟩] := sps_one HO.out ⟨by omega, by omega⟩
    exact bent_fin (t := .mk k [⟨5, 4⟩] ks) rfl rfl ((HVb.out.set' HS).far 1 _) (grown_fresh GAe.out (by omega) _ _) (HRb.out.grown (grown_set (grown_refl _ _) _ _) (fun k hk => by injection hk with hk; omega)) hg (by rw [Rex.size]; simp; omega) (by omega) HG5.out
  have d1 : (z == 1) = false := by simp [c1]
  by_cases c2 : z = 2
  · subst c2
    clear c0 d0 c1 d1
    go_wp2
    go_loopg [4] 9 (fun n i wr => ∃ j : Nat, j + n = 9 ∧ i = .int .i64 j ∧ ∃ (r : Rex) (A2 K2 : Option Addr) (c2 k2 : Nat), Hid (Blk wr X #[.int .i64 r.kind, .slice A2 r.set.length c2, .slice K2 r.kids.length k2] TRx) ∧ Hid (RexP wr (fun b => w.heap.size < b ∧ b ≠ X) r (.int .i64 r.kind) (.slice A2 r.set.length c2) (.slice K2 r.kids.length k2)) ∧ r.size ≤ 6900 + j ∧
      Hid (Rd wr g (q + 1)) ∧ Hid (w.grownBy wr (some g)) ∧ Hid (Blk wr w.heap.size #[.int .i64 0, nilS, nilS] TRx) ∧ X < wr.heap.size)
    case atStart => exact ⟨0, rfl, rfl, .mk k s ks, A, K, c, ck, MO3, HV3, by omega, HR3, GAd, N1d, hX3⟩
    case round =>
      clear MO3 HV3 HR3 GAd N1d hs hs1 hsz
      obtain ⟨j, hj, rfl, r, A2, K2, c2, k2, HX, HV, hs, HR, HG, HN, hXr⟩ := hrel
      by_cases hlt : j < 9
      · obtain ⟨wb, hwb⟩ : ∃ x, x = wr.alloc (.cells #[.int .i64 r.kind, .slice A2 r.set.length c2, .slice K2 r.kids.length k2] TRx) := ⟨_, rfl⟩
        have hbb : Below wr.heap.size wr wb := by rw [hwb]; exact below_alloc (Below.refl _ _) _
        have MB : Hid (Blk wb wr.heap.size #[.int .i64 r.kind, .slice A2 r.set.length c2, .slice K2 r.kids.length k2] TRx) := by rw [hwb]; exact blk_new _ _ _
        have HXb := Lib.hid (HX.out.below hbb)
        have HVb := Lib.hid (HV.out.under hbb)
        have HRb := Lib.hid (HR.out.below hbb)
        have HNb := Lib.hid (HN.out.below hbb)
        have HGb := Lib.hid (grown_then HG.out (grown_below hbb))
        have hzb := hbb.size
        have hgz := HG.out.size
        replace hwb := hwb.symm
        clear hbb HV HR HN HG
        have n0 := ((HX.out).cell 0).trans rfl
        have n1 := ((HX.out).cell 1).trans rfl
        have n2 := ((HX.out).cell 2).trans rfl
        have y0 := (HXb.out.cell 0).trans rfl
        have y1 := (HXb.out.cell 1).trans rfl
        have y2 := (HXb.out.cell 2).trans rfl
        have f0 := HXb.out.free 0
        have f1 := HXb.out.free 1
        have f2 := HXb.out.free 2
        go_wp2
        go_roundg (gk - 1)
        case rel =>
          refine ⟨j + 1, by omega, by go_num, .mk 5 [] [r], none, some ⟨wr.heap.size, 0, none⟩, 0, 1, (show Blk _ X #[.int .i64 5, nilS, .slice (some ⟨wr.heap.size, 0, none⟩) 1 1] TRx by simpa using ((HXb.out.set 0 (.int .i64 5)).set 1 nilS).set 2 (.slice (some ⟨wr.heap.size, 0, none⟩) 1 1)), ?_, by simp [Rex.size, sizeL]; omega, ?_, ?_, ?_, ?_⟩
          · exact (RexP.of (k := 5) (s := []) (ks := [r]) nilSps (KidsP.mk1 MB.out ⟨by omega, by omega⟩ HVb.out)).far3 _ _ _
          · exact ((HRb.out.grown (grown_set (grown_refl _ _) _ _) (fun k hk => by injection hk with hk; omega)).grown (grown_set (grown_refl _ _) _ _) (fun k hk => by injection hk with hk; omega)).grown (grown_set (grown_refl _ _) _ _) (fun k hk => by injection hk with hk; omega)
          · exact grown_fresh (grown_fresh (grown_fresh HGb.out (by omega) _ _) (by omega) _ _) (by omega) _ _
          · exact ((HNb.out.far (show w.heap.size ≠ X by omega) _).far (show w.heap.size ≠ X by omega) _).far (show w.heap.size ≠ X by omega) _
          · simp only [World.size_setCell]; omega
        case measure => omega
      · have hj' : j = 9 := by omega
        subst hj'
        have n0 := ((HX.out).cell 0).trans rfl
        have n1 := ((HX.out).cell 1).trans rfl
        have n2 := ((HX.out).cell 2).trans rfl
        go_wp2_with (refine ev_store (o := ⟨none, .store _ (.tmp 2) _, _, _, _, _⟩) rfl rfl TRx (.tmp 2) (.tmp 41) rfl (w.heap.size) 0 rfl [.int .i64 r.kind, .slice A2 r.set.length c2, .slice K2 r.kids.length k2] rfl _ TRx HN.out (sizeRx' _ _ _) (by show 0 + 3 ≤ 3; omega) (three_one _ _ _ _ _ _ _) ?_; intro w5 hX5 hg5; have HX5 : Hid (Blk w5 (w.heap.size) ([.int .i64 r.kind, .slice A2 r.set.length c2, .slice K2 r.kids.length k2]).toArray TRx) := hX5; have HG5 := Lib.hid hg5; clear hX5 hg5)
        refine bodyPost_ret (results_cell_row rfl _ _ (w.heap.size) TRx _ (0, 0) _ rfl HX5.out.eq Tryd.underlying36 rfl (by rw [sizeRx]; rfl)) rfl ?_
        exact bent_fin rfl rfl HV.out HG.out HR.out hg (by omega) (by omega) HG5.out
  have d2 : (z == 2) = false := by simp [c2]
  by_cases c3 : z = 3
  · subst c3
    clear c0 d0 c1 d1 c2 d2
    go_wp2
    go_loopg [5] 5 (fun n i wr => ∃ j : Nat, j + n = 5 ∧ i = .int .i64 j ∧ ∃ (r : Rex) (A2 K2 : Option Addr) (c2 k2 : Nat), Hid (Blk wr X #[.int .i64 r.kind, .slice A2 r.set.length c2, .slice K2 r.kids.length k2] TRx) ∧ Hid (RexP wr (fun b => w.heap.size < b ∧ b ≠ X) r (.int .i64 r.kind) (.slice A2 r.set.length c2) (.slice K2 r.kids.length k2)) ∧ r.size + 2 ≤ FB j ∧
      Hid (Rd wr g (q + 1)) ∧ Hid (w.grownBy wr (some g)) ∧ Hid (Blk wr w.heap.size #[.int .i64 0, nilS, nilS] TRx) ∧ X < wr.heap.size)
    case atStart => exact ⟨0, rfl, rfl, .mk k s ks, A, K, c, ck, MO3, HV3, by rw [FB]; omega, HR3, GAd, N1d, hX3⟩
    case round =>
      clear MO3 HV3 HR3 GAd N1d hs hs1 hsz
      obtain ⟨j, hj, rfl, r, A2, K2, c2, k2, HX, HV, hs, HR, HG, HN, hXr⟩ := hrel
      have hfb : FB j ≤ 224000 := by
        have : j = 0 ∨ j = 1 ∨ j = 2 ∨ j = 3 ∨ j = 4 ∨ j = 5 := by omega
        rcases this with e | e | e | e | e | e <;> rw [e] <;> decide
      by_cases hlt : j < 5
      · have CM : Hid (∀ w', Below wr.heap.size wr w' → w'.cell? ⟨X, 0, none⟩ = some (.int .i64 r.kind) ∧ w'.cell? ⟨X, 1, none⟩ = some (.slice A2 r.set.length c2) ∧ w'.cell? ⟨X, 2, none⟩ = some (.slice K2 r.kids.length k2)) := fun w' hb =>
          ⟨((HX.out.below hb).cell 0).trans rfl, ((HX.out.below hb).cell 1).trans rfl, ((HX.out.below hb).cell 2).trans rfl⟩
        have n0 := ((HX.out).cell 0).trans rfl
        have n1 := ((HX.out).cell 1).trans rfl
        have n2 := ((HX.out).cell 2).trans rfl
        have hcopy : Hid (Calls Tryd.prog 85 #[.agg #[.int .i64 r.kind, .slice A2 r.set.length c2, .slice K2 r.kids.length k2]] wr.drew fun e w' => ∃ v, e = .returned v ∧ ∃ A c K ck fp, v = .agg #[.int .i64 r.kind, .slice A r.set.length c, .slice K r.kids.length ck] ∧ OwnT w' fp (.mk r.kind r.set r.kids) (.slice A r.set.length c) (.slice K r.kids.length ck) ∧ fp.Nodup ∧ (∀ b, b ∈ fp → wr.heap.size ≤ b) ∧ Below wr.heap.size wr w') :=
          (sCopy_c r _ _ wr.drew 0 (HV.out.rexv.under (below_drew (Below.refl _ _))) (by omega)).mono fun e w' hc => by
            obtain ⟨A4, c4, K4, k4, fp4, rfl, ho4, hn4, hf4, b4⟩ := hc.own
            exact ⟨_, rfl, A4, c4, K4, k4, fp4, rfl, ho4, hn4, hf4, below_then (below_drew (Below.refl wr.heap.size wr)) b4⟩
        go_wp2
        go_region_law (refine step_call (by rfl) 85 _ _ (by rfl) _ Tryd.func85 (by kernel_rfl) (by kernel_rfl) #[.agg #[.int .i64 r.kind, .slice A2 r.set.length c2, .slice K2 r.kids.length k2]] (by rfl) hcopy.out ?_; rintro _ wD ⟨A4, c4, K4, k4, fp4, rfl, ho4, hn4, hf4, b4⟩; have BD := Lib.hid b4; have HO4 := Lib.hid ho4; have HF4 := Lib.hid hf4; clear ho4 hn4 hf4 b4; have z0 := (CM.out wD BD.out).1; have z1 := (CM.out wD BD.out).2.1; have z2 := (CM.out wD BD.out).2.2; have y0 := fun o => cell_alloc (CM.out wD BD.out).1 o; have y1 := fun o => cell_alloc (CM.out wD BD.out).2.1 o; have y2 := fun o => cell_alloc (CM.out wD BD.out).2.2 o; have f0 := fun o => ((HX.out.below BD.out).alloc o).free 0; have f1 := fun o => ((HX.out.below BD.out).alloc o).free 1; have f2 := fun o => ((HX.out.below BD.out).alloc o).free 2)
        all_goals
          have hbE : Below wD.heap.size wD (wD.alloc (.cells #[.int .i64 r.kind, .slice A2 r.set.length c2, .slice K2 r.kids.length k2, .int .i64 r.kind, .slice A4 r.set.length c4, .slice K4 r.kids.length k4] TRx)) := below_alloc (Below.refl _ _) _
          have MB := blk_new wD #[.int .i64 r.kind, .slice A2 r.set.length c2, .slice K2 r.kids.length k2, .int .i64 r.kind, .slice A4 r.set.length c4, .slice K4 r.kids.length k4] TRx
          have bE := below_then BD.out hbE
          have hzD := BD.out.size
          have hgz := HG.out.size
          have HK : Hid (KidsP _ (fun b => w.heap.size < b ∧ b ≠ X) (some ⟨wD.heap.size, 0, none⟩) 2 [r, r]) := KidsP.mk2 MB ⟨by omega, by omega⟩ (HV.out.under bE) (by
            have ho := HO4.out
            rw [← Rex.eta] at ho
            exact ((ho.rexp HF4.out).mono (p' := fun b => w.heap.size < b ∧ b ≠ X) fun b hb => ⟨by omega, by omega⟩).under hbE)
          have HXE := Lib.hid (HX.out.below bE)
          have HRE := Lib.hid (HR.out.below bE)
          have HNE := Lib.hid (HN.out.below bE)
          have HGE := Lib.hid (grown_then HG.out (grown_below bE))
          have hzE := Lib.hid bE.size
          clear hbE MB bE z0 z1 z2 y0 y1 y2 f0 f1 f2 n0 n1 n2
          go_wp2
          go_roundg (gk - 1)
          case rel =>
            refine ⟨j + 1, by omega, by go_num, .mk 3 [] [r, r], none, some ⟨wD.heap.size, 0, none⟩, 0, 2, (show Blk _ X #[.int .i64 3, nilS, .slice (some ⟨wD.heap.size, 0, none⟩) 2 2] TRx by simpa using ((HXE.out.set 0 (.int .i64 3)).set 1 nilS).set 2 (.slice (some ⟨wD.heap.size, 0, none⟩) 2 2)), ?_, by rw [FB]; simp [Rex.size, sizeL]; omega, ?_, ?_, ?_, ?_⟩
            · exact (RexP.of (k := 3) (s := []) (ks := [r, r]) nilSps HK.out).far3 _ _ _
            · exact ((HRE.out.grown (grown_set (grown_refl _ _) _ _) (fun k hk => by injection hk with hk; omega)).grown (grown_set (grown_refl _ _) _ _) (fun k hk => by injection hk with hk; omega)).grown (grown_set (grown_refl _ _) _ _) (fun k hk => by injection hk with hk; omega)
            · exact grown_fresh (grown_fresh (grown_fresh HGE.out (by omega) _ _) (by omega) _ _) (by omega) _ _
            · exact ((HNE.out.far (show w.heap.size ≠ X by omega) _).far (show w.heap.size ≠ X by omega) _).far (show w.heap.size ≠ X by omega) _
            · simp only [World.size_setCell]; exact Nat.lt_of_lt_of_le hXr hzE.out
          case measure => omega
      · have hj' : j = 5 := by omega
        subst hj'
        have n0 := ((HX.out).cell 0).trans rfl
        have n1 := ((HX.out).cell 1).trans rfl
        have n2 := ((HX.out).cell 2).trans rfl
        go_wp2_with (refine ev_store (o := ⟨none, .store _ (.tmp 2) _, _, _, _, _⟩) rfl rfl TRx (.tmp 2) (.tmp 41) rfl (w.heap.size) 0 rfl [.int .i64 r.kind, .slice A2 r.set.length c2, .slice K2 r.kids.length k2] rfl _ TRx HN.out (sizeRx' _ _ _) (by show 0 + 3 ≤ 3; omega) (three_one _ _ _ _ _ _ _) ?_; intro w5 hX5 hg5; have HX5 : Hid (Blk w5 (w.heap.size) ([.int .i64 r.kind, .slice A2 r.set.length c2, .slice K2 r.kids.length k2]).toArray TRx) := hX5; have HG5 := Lib.hid hg5; clear hX5 hg5)
        refine bodyPost_ret (results_cell_row rfl _ _ (w.heap.size) TRx _ (0, 0) _ rfl HX5.out.eq Tryd.underlying36 rfl (by rw [sizeRx]; rfl)) rfl ?_
        exact bent_fin rfl rfl HV.out HG.out HR.out hg (by omega) (by omega) HG5.out
  have d3 : (z == 3) = false := by simp [c3]
  have n0 := ((MO3.out).cell 0).trans rfl
  have n1 := ((MO3.out).cell 1).trans rfl
  have n2 := ((MO3.out).cell 2).trans rfl
  go_wp2_with (refine ev_store (o := ⟨none, .store _ (.tmp 2) _, _, _, _, _⟩) rfl rfl TRx (.tmp 2) (.tmp 41) rfl (w.heap.size) 0 rfl [.int .i64 k, .slice A s.length c, .slice K ks.length ck] rfl _ TRx N1d.out (sizeRx' _ _ _) (by show 0 + 3 ≤ 3; omega) (three_one _ _ _ _ _ _ _) ?_; intro w5 hX5 hg5; have HX5 : Hid (Blk w5 (w.heap.size) ([.int .i64 k, .slice A s.length c, .slice K ks.length ck]).toArray TRx) := hX5; have HG5 := Lib.hid hg5; clear hX5 hg5)
  refine bodyPost_ret (results_cell_row rfl _ _ (w.heap.size) TRx _ (0, 0) _ rfl HX5.out.eq Tryd.underlying36 rfl (by rw [sizeRx]; rfl)) rfl ?_
  exact bent_fin (t := .mk k s ks) rfl rfl HV3.out GAd.out HR3 hg (by rw [Rex.size]; omega) (by omega) HG5.out

end Go.Proofs.YtlchipjckgaclaaDoor

/- What draws a text: of, l3Word, l15Many. -/
namespace Go.Proofs.YtlchipjckgaclaaDoor
set_option linter.unusedSimpArgs false
set_option linter.unusedVariables false
set_option maxRecDepth 100000
open Go.RowKit

theorem of_c (g p b c : Nat) (zs : List ByteArray) (w : World) (h : Rd w g p) (hc : CellsAt w ⟨b, 0, none⟩ (zs.map fun z => .string z)) (hbg : b ≠ g) (hb : b < w.heap.size) (hl : 0 < zs.length) (hl2 : zs.length ≤ 1000000) (hp : p ≤ 1000000) :
    Calls Tryd.prog 70 #[.pointer (some ⟨g, 0, none⟩), .slice (some ⟨b, 0, none⟩) zs.length c] w fun e w' => ∃ r : ByteArray, e = .returned (.string r) ∧ r ∈ zs ∧ Rd w' g (p + 1) ∧ w.grownBy w' (some g) := by
  go_enter Tryd.func70, Tryd.ntmps70
  go_wp2_with fail
  refine (pick_c g p _ _ h (by omega) (by omega) hp).mono ?_
  rintro e w1 ⟨r, rfl, r0, r1, HR, HG⟩
  obtain ⟨k, rfl⟩ := Int.eq_ofNat_of_zero_le r0
  have hk : k < zs.length := by omega
  have c1 : w1.cell? ⟨b, k, none⟩ = some (.string zs[k]) := by
    have e0 : (⟨b, 0, none⟩ : Addr).add k = ⟨b, k, none⟩ := by unfold Addr.add; split <;> simp_all
    rw [World.cell?_of_block (w := w) (HG.block b hb (by simpa using hbg)), ← e0]
    exact hc k _ (by simp [hk])
  have hz := Lib.hid (List.getElem_mem hk)
  have hR := Lib.hid HR
  have hG := Lib.hid HG
  obtain ⟨z, hz1⟩ : ∃ z, zs[k] = z := ⟨_, rfl⟩
  rw [hz1] at c1 hz
  clear HR HG hz1
  go_wp2
  go_ret
  exact ⟨z, rfl, hz.out, hR.out, hG.out⟩

def LW : List ByteArray := [⟨#[97]⟩, ⟨#[98]⟩, ⟨#[97]⟩, ⟨#[98]⟩, ⟨#[99]⟩, ⟨#[120]⟩, ⟨#[48]⟩, ⟨#[97]⟩, ⟨#[98]⟩, ⟨#[97]⟩, ⟨#[98]⟩, ⟨#[255]⟩, ⟨#[0]⟩]
theorem LW_size {s : ByteArray} (h : s ∈ LW) : s.size = 1 := by
  simp only [LW, List.mem_cons, List.mem_nil_iff, or_false] at h
  rcases h with h | h | h | h | h | h | h | h | h | h | h | h | h <;> rw [h] <;> rfl
theorem strs_new (w : World) (zs : List ByteArray) (t : TypeId) : CellsAt (w.alloc (.cells (zs.map fun z => Value.string z).toArray t)) ⟨w.heap.size, 0, none⟩ (zs.map fun z => .string z) := new_cells w _ t

end Go.Proofs.YtlchipjckgaclaaDoor

/- What draws trees and texts out of a code: DrawMatchIs, DrawMatchWord. -/
namespace Go.Proofs.YtlchipjckgaclaaDoor
set_option linter.unusedSimpArgs false
set_option linter.unusedVariables false
set_option maxRecDepth 100000
open Go.RowKit

theorem results_row_tmp {P : Program} {fn : Func} {p u : Tmp} {ty : TypeId} (h : fn.results = #[.cell p ty, .tmp u]) (tmps : Array Value) (w : World) (g : Nat) (t : TypeId) (cs : Array Value) (fr : Nat × Nat) (d : TypeDesc)
    (hp : tmps.getD p undef = .pointer (some ⟨g, 0, none⟩)) (hg : w.heap[g]? = some (.cells cs t fr))
    (hu : P.underlying ty = some d) (hd : (match d with | .struct _ | .array _ _ => true | _ => false) = true) (hi : (P.info? ty).map (·.size) = some cs.size) (x : Value) (hx : tmps.getD u undef = x) :
    (results fn tmps).run P w = .ok (.tuple #[.agg cs, x]) w := by
  have hp' : tmps[p]?.getD undef = .pointer (some ⟨g, 0, none⟩) := by simpa using hp
  have hx' : tmps[u]?.getD undef = x := by simpa using hx
  simp [results, h, hp', hx', asAddr, run_loadVar_row w g t ty cs fr d hg hu hd hi]
theorem results_row_tmp2 {P : Program} {fn : Func} {p u v : Tmp} {ty : TypeId} (h : fn.results = #[.cell p ty, .tmp u, .tmp v]) (tmps : Array Value) (w : World) (g : Nat) (t : TypeId) (cs : Array Value) (fr : Nat × Nat) (d : TypeDesc)
    (hp : tmps.getD p undef = .pointer (some ⟨g, 0, none⟩)) (hg : w.heap[g]? = some (.cells cs t fr))
    (hu : P.underlying ty = some d) (hd : (match d with | .struct _ | .array _ _ => true | _ => false) = true) (hi : (P.info? ty).map (·.size) = some cs.size) (x y : Value) (hx : tmps.getD u undef = x) (hy : tmps.getD v undef = y) :
    (results fn tmps).run P w = .ok (.tuple #[.agg cs, x, y]) w := by
  have hp' : tmps[p]?.getD undef = .pointer (some ⟨g, 0, none⟩) := by simpa using hp
  have hx' : tmps[u]?.getD undef = x := by simpa using hx
  have hy' : tmps[v]?.getD undef = y := by simpa using hy
  simp [results, h, hp', hx', hy', asAddr, run_loadVar_row w g t ty cs fr d hg hu hd hi]
theorem results_row_row {P : Program} {fn : Func} {p u : Tmp} {ty : TypeId} (h : fn.results = #[.cell p ty, .cell u ty]) (tmps : Array Value) (w : World) (g g' : Nat) (t t' : TypeId) (cs cs' : Array Value) (fr fr' : Nat × Nat) (d : TypeDesc)
    (hp : tmps.getD p undef = .pointer (some ⟨g, 0, none⟩)) (hg : w.heap[g]? = some (.cells cs t fr))
    (hu : P.underlying ty = some d) (hd : (match d with | .struct _ | .array _ _ => true | _ => false) = true) (hi : (P.info? ty).map (·.size) = some cs.size) (hq : tmps.getD u undef = .pointer (some ⟨g', 0, none⟩)) (hg' : w.heap[g']? = some (.cells cs' t' fr')) (hi' : (P.info? ty).map (·.size) = some cs'.size) :
    (results fn tmps).run P w = .ok (.tuple #[.agg cs, .agg cs']) w := by
  have hp' : tmps[p]?.getD undef = .pointer (some ⟨g, 0, none⟩) := by simpa using hp
  have hq' : tmps[u]?.getD undef = .pointer (some ⟨g', 0, none⟩) := by simpa using hq
  simp [results, h, hp', hq', asAddr, run_loadVar_row w g t ty cs fr d hg hu hd hi, run_loadVar_row w g' t' ty cs' fr' d hg' hu hd hi']

/-- a tree and a text were drawn -/
def DrawRT (w : World) (e : Ending) (w' : World) : Prop :=
  ∃ r A c K ck t, e = .returned (.tuple #[.agg #[.int .i64 r.kind, .slice A r.set.length c, .slice K r.kids.length ck], .string t]) ∧ RexP w' (fun b => w.heap.size ≤ b) r (.int .i64 r.kind) (.slice A r.set.length c) (.slice K r.kids.length ck) ∧ r.size ≤ 230000 ∧ t.size ≤ 1000 ∧ Below w.heap.size w w'
theorem set3_fin {w wr : World} {r : Rex} {A K : Option Addr} {c ck R : Nat} (hR : w.heap.size ≤ R) (HN : Blk wr R #[.int .i64 0, nilS, nilS] TRx) (HV : RexP wr (fun b => R < b) r (.int .i64 r.kind) (.slice A r.set.length c) (.slice K r.kids.length ck)) (HB : Below w.heap.size w wr) {w5 : World}
    (h5 : w5 = ((wr.setCell ⟨R, 0, none⟩ (.int .i64 r.kind)).setCell ⟨R, 1, none⟩ (.slice A r.set.length c)).setCell ⟨R, 2, none⟩ (.slice K r.kids.length ck)) :
    RexP w5 (fun b => R < b) r (.int .i64 r.kind) (.slice A r.set.length c) (.slice K r.kids.length ck) ∧ Below w.heap.size w w5 ∧ Blk w5 R #[.int .i64 r.kind, .slice A r.set.length c, .slice K r.kids.length ck] TRx := by
  subst h5
  refine ⟨HV.keep fun b hb _ => ?_, below_set (below_set (below_set HB hR _) hR _) hR _, by simpa using ((HN.set 0 (.int .i64 r.kind)).set 1 (.slice A r.set.length c)).set 2 (.slice K r.kids.length ck)⟩
  have hne : b ≠ R := by omega
  exact (Below.heap_setCell _ _ _ _ hne).trans ((Below.heap_setCell _ _ _ _ hne).trans (Below.heap_setCell _ _ _ _ hne))

def L12 : List Int := [12, 13]
theorem CellsAt.below' {w w' : World} {a : Addr} {cs : List Value} (h : CellsAt w a cs) (hb : Below w.heap.size w w') (ha : a.block < w.heap.size) : CellsAt w' a cs := h.moved (hb.block _ ha)
end Go.Proofs.YtlchipjckgaclaaDoor

/- What draws two trees out of a code: DrawRexSame. -/
namespace Go.Proofs.YtlchipjckgaclaaDoor
set_option linter.unusedSimpArgs false
set_option linter.unusedVariables false
set_option maxRecDepth 100000
open Go.RowKit

def set3 (w : World) (R : Nat) (u0 u1 u2 : Value) : World := ((w.setCell ⟨R, 0, none⟩ u0).setCell ⟨R, 1, none⟩ u1).setCell ⟨R, 2, none⟩ u2
theorem set3_far (w : World) (R : Nat) (u0 u1 u2 : Value) {b : Nat} (hb : b ≠ R) : (set3 w R u0 u1 u2).heap[b]? = w.heap[b]? :=
  (Below.heap_setCell _ _ _ _ hb).trans ((Below.heap_setCell _ _ _ _ hb).trans (Below.heap_setCell _ _ _ _ hb))
theorem set3_blk {w : World} {R : Nat} {z0 z1 z2 : Value} (u0 u1 u2 : Value) (h : Blk w R #[z0, z1, z2] TRx) : Blk (set3 w R u0 u1 u2) R #[u0, u1, u2] TRx := by
  unfold set3
  simpa using ((h.set 0 u0).set 1 u1).set 2 u2
theorem set3_below {w w1 : World} {R : Nat} {u0 u1 u2 : Value} (h : Below w.heap.size w w1) (hR : w.heap.size ≤ R) : Below w.heap.size w (set3 w1 R u0 u1 u2) := below_set (below_set (below_set h hR _) hR _) hR _
/-- two trees were drawn -/
def DrawRR (w : World) (e : Ending) (w' : World) : Prop :=
  ∃ r A c K ck s B d M dm, e = .returned (.tuple #[.agg #[.int .i64 r.kind, .slice A r.set.length c, .slice K r.kids.length ck], .agg #[.int .i64 s.kind, .slice B s.set.length d, .slice M s.kids.length dm]]) ∧ RexP w' (fun b => w.heap.size ≤ b) r (.int .i64 r.kind) (.slice A r.set.length c) (.slice K r.kids.length ck) ∧
    RexP w' (fun b => w.heap.size ≤ b) s (.int .i64 s.kind) (.slice B s.set.length d) (.slice M s.kids.length dm) ∧ r.size ≤ 230000 ∧ s.size ≤ 230000 ∧ Below w.heap.size w w'
theorem rr_fin {w wr : World} {R R' : Nat} {u0 u1 u2 y0 y1 y2 z0 z1 z2 x0 x1 x2 : Value} (hne : R ≠ R') (h1 : w.heap.size ≤ R) (h2 : w.heap.size ≤ R') (hb : Below w.heap.size w wr) (hR : Blk wr R #[z0, z1, z2] TRx) (hR' : Blk wr R' #[x0, x1, x2] TRx) :
    Below w.heap.size w (set3 (set3 wr R u0 u1 u2) R' y0 y1 y2) ∧ Blk (set3 (set3 wr R u0 u1 u2) R' y0 y1 y2) R #[u0, u1, u2] TRx ∧ Blk (set3 (set3 wr R u0 u1 u2) R' y0 y1 y2) R' #[y0, y1, y2] TRx ∧ ∀ b, b ≠ R → b ≠ R' → (set3 (set3 wr R u0 u1 u2) R' y0 y1 y2).heap[b]? = wr.heap[b]? :=
  ⟨set3_below (set3_below hb h1) h2, ⟨(set3_far _ _ _ _ _ hne).trans (set3_blk _ _ _ hR).eq⟩, set3_blk _ _ _ ⟨(set3_far _ _ _ _ _ (Ne.symm hne)).trans hR'.eq⟩, fun b e e' => (set3_far _ _ _ _ _ e').trans (set3_far _ _ _ _ _ e)⟩

theorem rex_kind {w : World} {p : Nat → Prop} {s : Rex} {B M : Option Addr} {d dm : Nat} (k : Int) (h : RexP w p s (.int .i64 s.kind) (.slice B s.set.length d) (.slice M s.kids.length dm)) : RexP w p (.mk k s.set s.kids) (.int .i64 k) (.slice B s.set.length d) (.slice M s.kids.length dm) := by
  obtain ⟨k', ss, ks⟩ := s
  exact h.kind'
set_option maxRecDepth 100000 in
set_option maxHeartbeats 4000000 in
theorem drawRR_c (A0 : Option Addr) (c0 : Nat) (bs0 : List Int) (w : World) (h0 : Bys w 0 A0 c0 bs0) :
    Calls Tryd.prog 19 #[.slice A0 bs0.length c0] w (DrawRR w) := by
  obtain ⟨wa, hwa⟩ : ∃ x, x = (w.alloc (.cells #[.int .i64 0, nilS, nilS] TRx)).alloc (.cells #[.int .i64 0, nilS, nilS] TRx) := ⟨_, rfl⟩
  have N0a : Hid (Blk wa w.heap.size #[.int .i64 0, nilS, nilS] TRx) := by rw [hwa]; exact (blk_new w _ _).alloc _
  have N1a : Hid (Blk wa (w.heap.size + 1) #[.int .i64 0, nilS, nilS] TRx) := by
    rw [hwa]
    have := blk_new (w.alloc (.cells #[.int .i64 0, nilS, nilS] TRx)) #[.int .i64 0, nilS, nilS] TRx
    show Blk _ _ _ _
    simpa using this
  have GAa : Hid (Below w.heap.size w wa) := by rw [hwa]; exact below_alloc (below_alloc (Below.refl _ _) _) _
  have RA : Hid (Bys wa 0 A0 c0 bs0) := h0.below (lo := 0) GAa.out
  have hza : wa.heap.size = w.heap.size + 2 := by rw [hwa]; simp
  replace hwa := hwa.symm
  go_enter Tryd.func19, Tryd.ntmps19
  go_wp2_with fail
  clear hwa h0
  refine (open_c _ _ _ _ RA.out).mono ?_
  rintro e w1 ⟨g, rfl, HR1, hga, b1⟩
  have hz1 := b1.size
  have hg1 := HR1.lt
  go_wp2_with fail
  refine (sBent_c g 0 w1 HR1 (by omega)).mono ?_
  rintro e w2 ⟨r, A, c, K, ck, q, rfl, hv, hs, HR2, hq, HG2⟩
  have b2 := b1.grown HG2 b1.size (fun k hk => by injection hk with hk; omega)
  have hz2 := HG2.size
  clear HG2 HR1 HR2 b1
  go_wp2_with fail
  obtain ⟨wc, hwc⟩ : ∃ x, x = w2.alloc (.cells #[.int .i64 r.kind, .slice A r.set.length c, .slice K r.kids.length ck] TRx) := ⟨_, rfl⟩
  have hbc : Below w2.heap.size w2 wc := by rw [hwc]; exact below_alloc (Below.refl _ _) _
  have MXc : Hid (Blk wc w2.heap.size #[.int .i64 r.kind, .slice A r.set.length c, .slice K r.kids.length ck] TRx) := by rw [hwc]; exact blk_new w2 _ _
  have HXc := Lib.hid ((hv.lt.under hbc).mono (p' := fun b => w.heap.size + 1 < b ∧ b < w2.heap.size) fun b hb => by omega)
  have b3 := below_then b2 hbc
  have RAc := Lib.hid (RA.out.below (lo := 0) b3)
  have hXc := MXc.out.lt
  rw [← hwc]
  clear hbc hwc hv b2
  obtain ⟨X, hX⟩ : ∃ X, X = w2.heap.size := ⟨_, rfl⟩
  rw [← hX] at MXc HXc hXc
  refine (open_c _ _ _ _ RAc.out).mono ?_
  rintro e w4 ⟨g2, rfl, HR4, hga4, b4⟩
  have hz4 := b4.size
  have hg4 := HR4.lt
  have MX4 := Lib.hid (MXc.out.below b4)
  have HX4 := Lib.hid (HXc.out.under b4)
  have b5 := below_then b3 b4
  clear b4 MXc HXc b3
  go_wp2_with fail
  refine (sBent_c g2 0 w4 HR4 (by omega)).mono ?_
  rintro e w5 ⟨s, B, d, M, dm, q2, rfl, hv2, hs2, HR5, hq5, HG5⟩
  have b6 := b5.grown HG5 b5.size (fun k hk => by injection hk with hk; omega)
  have hz5 := HG5.size
  have MX5 := Lib.hid (MX4.out.grown HG5 (fun k hk => by injection hk with hk; omega))
  have HX5 := Lib.hid (HX4.out.grown HG5 (fun b hb => by omega))
  clear HG5 HR5 HR4 b5 MX4 HX4
  by_cases hl : 0 < bs0.length
  · obtain ⟨a, z, rfl, c0, z0, z1⟩ := (RA.out.below (lo := 0) b6).at_ 0 hl
    rw [show a.add 0 = a by simp [Addr.add]] at c0
    have ya := fun o => cell_alloc c0 o
    have hl2 : (0 : Int) < (bs0.length : Int) := by omega
    have t0 : z.tmod 2 = z % 2 := Int.tmod_eq_emod_of_nonneg z0
    by_cases hp : z % 2 = 1
    · go_wp2
      clear ya c0 t0
      obtain ⟨wf, hwf⟩ : ∃ x, x = w5.alloc (.cells #[.int .i64 (wrap64 (s.kind + 1)), .slice B s.set.length d, .slice M s.kids.length dm] TRx) := ⟨_, rfl⟩
      have hbf : Below w5.heap.size w5 wf := by rw [hwf]; exact below_alloc (Below.refl _ _) _
      have MYf : Hid (Blk wf w5.heap.size #[.int .i64 (wrap64 (s.kind + 1)), .slice B s.set.length d, .slice M s.kids.length dm] TRx) := by rw [hwf]; exact blk_new w5 _ _
      have MXf := Lib.hid (MX5.out.below hbf)
      have HXf := Lib.hid (HX5.out.under hbf)
      have HYf := Lib.hid (((rex_kind (wrap64 (s.kind + 1)) hv2).lt.under hbf).mono (p' := fun b => X < b ∧ b ≠ w5.heap.size) fun b hb => by omega)
      have b7 := below_then b6 hbf
      have GAf := Lib.hid (below_then GAa.out b7)
      have N0f := Lib.hid (N0a.out.below b7)
      have N1f := Lib.hid (N1a.out.below b7)
      have hYf := MYf.out.lt
      rw [← hwf]
      obtain ⟨Y, hY⟩ : ∃ Y, Y = w5.heap.size := ⟨_, rfl⟩
      have hXY : X < Y := by omega
      have hwX : w.heap.size + 1 < X := by omega
      rw [← hY] at MYf HYf hYf ⊢
      rw [← hX]
      have hs2' : s.set.length + (s.kids.length + sizeL s.kids) ≤ 230000 := by rw [Rex.eta s, Rex.size] at hs2; exact hs2
      clear hbf hwf hv2 b6 b7 MX5 HX5 RA N0a N1a GAa hY hX
      have x0 := (MXf.out.cell 0).trans rfl
      have x1 := (MXf.out.cell 1).trans rfl
      have x2 := (MXf.out.cell 2).trans rfl
      have y0 := (MYf.out.cell 0).trans rfl
      have y1 := (MYf.out.cell 1).trans rfl
      have y2 := (MYf.out.cell 2).trans rfl
      have m0 := (N0f.out.cell 0).trans rfl
      have m1 := (N0f.out.cell 1).trans rfl
      have m2 := (N0f.out.cell 2).trans rfl
      have k0 := (N1f.out.cell 0).trans rfl
      have k1 := (N1f.out.cell 1).trans rfl
      have k2 := (N1f.out.cell 2).trans rfl
      have f0 := N0f.out.free 0
      have f1 := N0f.out.free 1
      have f2 := N0f.out.free 2
      have e0 := N1f.out.free 0
      have e1 := N1f.out.free 1
      have e2 := N1f.out.free 2
      go_wp2
      go_region
      all_goals
        clear x0 x1 x2 y0 y1 y2 m0 m1 m2 k0 k1 k2 f0 f1 f2 e0 e1 e2
        go_wp2
        obtain ⟨f1, f2, f3, f4⟩ := rr_fin (w := w) (R := w.heap.size) (R' := w.heap.size + 1) (u0 := .int .i64 r.kind) (u1 := .slice A r.set.length c) (u2 := .slice K r.kids.length ck) (y0 := .int .i64 (wrap64 (s.kind + 1))) (y1 := .slice B s.set.length d) (y2 := .slice M s.kids.length dm) (by omega) (by omega) (by omega) GAf.out N0f.out N1f.out
        have g2 := f2.below (below_drew (Below.refl _ _))
        have g3 := f3.below (below_drew (Below.refl _ _))
        refine bodyPost_ret (results_row_row rfl _ _ w.heap.size (w.heap.size + 1) TRx TRx _ _ (0, 0) (0, 0) _ rfl g2.eq Tryd.underlying36 rfl (by rw [sizeRx]; rfl) rfl g3.eq (by rw [sizeRx]; rfl)) rfl ?_
        exact ⟨r, A, c, K, ck, .mk (wrap64 (s.kind + 1)) s.set s.kids, B, d, M, dm, rfl, ((HXf.out.keep fun b hb _ => f4 b (by omega) (by omega)).under (below_drew (Below.refl _ _))).mono fun b hb => by omega, ((HYf.out.keep fun b hb _ => f4 b (by omega) (by omega)).under (below_drew (Below.refl _ _))).mono fun b hb => by omega, hs, by rw [Rex.size]; exact hs2', below_drew f1⟩
    · have hp' : z % 2 = 0 := by omega
      go_wp2
      clear ya c0 t0
      obtain ⟨wf, hwf⟩ : ∃ x, x = w5.alloc (.cells #[.int .i64 (s.kind), .slice B s.set.length d, .slice M s.kids.length dm] TRx) := ⟨_, rfl⟩
      have hbf : Below w5.heap.size w5 wf := by rw [hwf]; exact below_alloc (Below.refl _ _) _
      have MYf : Hid (Blk wf w5.heap.size #[.int .i64 (s.kind), .slice B s.set.length d, .slice M s.kids.length dm] TRx) := by rw [hwf]; exact blk_new w5 _ _
      have MXf := Lib.hid (MX5.out.below hbf)
      have HXf := Lib.hid (HX5.out.under hbf)
      have HYf := Lib.hid (((rex_kind (s.kind) hv2).lt.under hbf).mono (p' := fun b => X < b ∧ b ≠ w5.heap.size) fun b hb => by omega)
      have b7 := below_then b6 hbf
      have GAf := Lib.hid (below_then GAa.out b7)
      have N0f := Lib.hid (N0a.out.below b7)
      have N1f := Lib.hid (N1a.out.below b7)
      have hYf := MYf.out.lt
      rw [← hwf]
      obtain ⟨Y, hY⟩ : ∃ Y, Y = w5.heap.size := ⟨_, rfl⟩
      have hXY : X < Y := by omega
      have hwX : w.heap.size + 1 < X := by omega
      rw [← hY] at MYf HYf hYf ⊢
      rw [← hX]
      have hs2' : s.set.length + (s.kids.length + sizeL s.kids) ≤ 230000 := by rw [Rex.eta s, Rex.size] at hs2; exact hs2
      clear hbf hwf hv2 b6 b7 MX5 HX5 RA N0a N1a GAa hY hX
      have x0 := (MXf.out.cell 0).trans rfl
      have x1 := (MXf.out.cell 1).trans rfl
      have x2 := (MXf.out.cell 2).trans rfl
      have y0 := (MYf.out.cell 0).trans rfl
      have y1 := (MYf.out.cell 1).trans rfl
      have y2 := (MYf.out.cell 2).trans rfl
      have m0 := (N0f.out.cell 0).trans rfl
      have m1 := (N0f.out.cell 1).trans rfl
      have m2 := (N0f.out.cell 2).trans rfl
      have k0 := (N1f.out.cell 0).trans rfl
      have k1 := (N1f.out.cell 1).trans rfl
      have k2 := (N1f.out.cell 2).trans rfl
      have f0 := N0f.out.free 0
      have f1 := N0f.out.free 1
      have f2 := N0f.out.free 2
      have e0 := N1f.out.free 0
      have e1 := N1f.out.free 1
      have e2 := N1f.out.free 2
      go_wp2
      go_region
      all_goals
        clear x0 x1 x2 y0 y1 y2 m0 m1 m2 k0 k1 k2 f0 f1 f2 e0 e1 e2
        go_wp2
        obtain ⟨f1, f2, f3, f4⟩ := rr_fin (w := w) (R := w.heap.size) (R' := w.heap.size + 1) (u0 := .int .i64 r.kind) (u1 := .slice A r.set.length c) (u2 := .slice K r.kids.length ck) (y0 := .int .i64 (s.kind)) (y1 := .slice B s.set.length d) (y2 := .slice M s.kids.length dm) (by omega) (by omega) (by omega) GAf.out N0f.out N1f.out
        have g2 := f2.below (below_drew (Below.refl _ _))
        have g3 := f3.below (below_drew (Below.refl _ _))
        refine bodyPost_ret (results_row_row rfl _ _ w.heap.size (w.heap.size + 1) TRx TRx _ _ (0, 0) (0, 0) _ rfl g2.eq Tryd.underlying36 rfl (by rw [sizeRx]; rfl) rfl g3.eq (by rw [sizeRx]; rfl)) rfl ?_
        exact ⟨r, A, c, K, ck, .mk (s.kind) s.set s.kids, B, d, M, dm, rfl, ((HXf.out.keep fun b hb _ => f4 b (by omega) (by omega)).under (below_drew (Below.refl _ _))).mono fun b hb => by omega, ((HYf.out.keep fun b hb _ => f4 b (by omega) (by omega)).under (below_drew (Below.refl _ _))).mono fun b hb => by omega, hs, by rw [Rex.size]; exact hs2', below_drew f1⟩
  · go_wp2
    obtain ⟨wf, hwf⟩ : ∃ x, x = w5.alloc (.cells #[.int .i64 (s.kind), .slice B s.set.length d, .slice M s.kids.length dm] TRx) := ⟨_, rfl⟩
    have hbf : Below w5.heap.size w5 wf := by rw [hwf]; exact below_alloc (Below.refl _ _) _
    have MYf : Hid (Blk wf w5.heap.size #[.int .i64 (s.kind), .slice B s.set.length d, .slice M s.kids.length dm] TRx) := by rw [hwf]; exact blk_new w5 _ _
    have MXf := Lib.hid (MX5.out.below hbf)
    have HXf := Lib.hid (HX5.out.under hbf)
    have HYf := Lib.hid (((rex_kind (s.kind) hv2).lt.under hbf).mono (p' := fun b => X < b ∧ b ≠ w5.heap.size) fun b hb => by omega)
    have b7 := below_then b6 hbf
    have GAf := Lib.hid (below_then GAa.out b7)
    have N0f := Lib.hid (N0a.out.below b7)
    have N1f := Lib.hid (N1a.out.below b7)
    have hYf := MYf.out.lt
    rw [← hwf]
    obtain ⟨Y, hY⟩ : ∃ Y, Y = w5.heap.size := ⟨_, rfl⟩
    have hXY : X < Y := by omega
    have hwX : w.heap.size + 1 < X := by omega
    rw [← hY] at MYf HYf hYf ⊢
    rw [← hX]
    have hs2' : s.set.length + (s.kids.length + sizeL s.kids) ≤ 230000 := by rw [Rex.eta s, Rex.size] at hs2; exact hs2
    clear hbf hwf hv2 b6 b7 MX5 HX5 RA N0a N1a GAa hY hX
    have x0 := (MXf.out.cell 0).trans rfl
    have x1 := (MXf.out.cell 1).trans rfl
    have x2 := (MXf.out.cell 2).trans rfl
    have y0 := (MYf.out.cell 0).trans rfl
    have y1 := (MYf.out.cell 1).trans rfl
    have y2 := (MYf.out.cell 2).trans rfl
    have m0 := (N0f.out.cell 0).trans rfl
    have m1 := (N0f.out.cell 1).trans rfl
    have m2 := (N0f.out.cell 2).trans rfl
    have k0 := (N1f.out.cell 0).trans rfl
    have k1 := (N1f.out.cell 1).trans rfl
    have k2 := (N1f.out.cell 2).trans rfl
    have f0 := N0f.out.free 0
    have f1 := N0f.out.free 1
    have f2 := N0f.out.free 2
    have e0 := N1f.out.free 0
    have e1 := N1f.out.free 1
    have e2 := N1f.out.free 2
    go_wp2
    go_region
    all_goals
      clear x0 x1 x2 y0 y1 y2 m0 m1 m2 k0 k1 k2 f0 f1 f2 e0 e1 e2
      go_wp2
      obtain ⟨f1, f2, f3, f4⟩ := rr_fin (w := w) (R := w.heap.size) (R' := w.heap.size + 1) (u0 := .int .i64 r.kind) (u1 := .slice A r.set.length c) (u2 := .slice K r.kids.length ck) (y0 := .int .i64 (s.kind)) (y1 := .slice B s.set.length d) (y2 := .slice M s.kids.length dm) (by omega) (by omega) (by omega) GAf.out N0f.out N1f.out
      have g2 := f2.below (below_drew (Below.refl _ _))
      have g3 := f3.below (below_drew (Below.refl _ _))
      refine bodyPost_ret (results_row_row rfl _ _ w.heap.size (w.heap.size + 1) TRx TRx _ _ (0, 0) (0, 0) _ rfl g2.eq Tryd.underlying36 rfl (by rw [sizeRx]; rfl) rfl g3.eq (by rw [sizeRx]; rfl)) rfl ?_
      exact ⟨r, A, c, K, ck, .mk (s.kind) s.set s.kids, B, d, M, dm, rfl, ((HXf.out.keep fun b hb _ => f4 b (by omega) (by omega)).under (below_drew (Below.refl _ _))).mono fun b hb => by omega, ((HYf.out.keep fun b hb _ => f4 b (by omega) (by omega)).under (below_drew (Below.refl _ _))).mono fun b hb => by omega, hs, by rw [Rex.size]; exact hs2', below_drew f1⟩

end Go.Proofs.YtlchipjckgaclaaDoor

/- SetSame of the reference. -/
namespace Go.Proofs.YtlchipjckgaclaaDoor
set_option linter.unusedSimpArgs false
set_option linter.unusedVariables false
set_option maxRecDepth 100000
open Go.RowKit

set_option maxHeartbeats 1000000 in
theorem sSetSame_c (A B : Option Addr) (c d : Nat) (xs ys : List Sp) (w : World) {lo lo' : Nat} (h : Sps w lo A c xs) (h' : Sps w lo' B d ys) :
    Calls Tryd.prog 33 #[.slice A xs.length c, .slice B ys.length d] w fun e w' => e = .returned (.bool (decide (xs = ys))) ∧ Drawn w w' := by
  have hlen := h.len
  have hlen' := h'.len
  unfold maxN at hlen hlen'
  by_cases he : xs.length = ys.length
  · have b1 : ((xs.length : Int) != (ys.length : Int)) = false := by simp [he]
    have HE : Hid (xs.length = ys.length) := he
    clear he
    go_enter Tryd.func33, Tryd.ntmps33
    go_wp2
    go_loopg [5] (xs.length) (fun n i wr => ∃ k : Nat, k + n = xs.length ∧ i = .int .i64 k ∧ Hid (decide (xs.drop k = ys.drop k) = decide (xs = ys)) ∧ Drawn w wr)
    case atStart => exact ⟨0, by omega, rfl, by rw [List.drop_zero, List.drop_zero]; rfl, Drawn.refl _⟩
    case round =>
      obtain ⟨k, hk, rfl, HS, m, rfl⟩ := hrel
      by_cases hlt : k < xs.length
      · have hlt' : k < ys.length := by have := HE.out; omega
        obtain ⟨a, x, rfl, _, HD, h0, h1⟩ := h.at_ k hlt
        obtain ⟨a', y, rfl, _, HD', h0', h1'⟩ := h'.at_ k hlt'
        have ST : Hid _ := drop_eq_step HD.out HD'.out HS.out
        have N0 := fun wx => neqSp x y wx
        have N1 := gSp
        go_wp2
        go_quiet (fail)
        go_wp2
        · go_ret
          exact ⟨ret_bool (ST.out.1 (by simpa using ‹(!decide (x = y)) = true›)).symm, drewN_drewN _ _ _⟩
        · go_roundg (gk - 1)
          case rel => exact ⟨k + 1, by omega, by go_num, ST.out.2 (by simpa using ‹(!decide (x = y)) = false›), ⟨_, rfl⟩⟩
          case measure => omega
      · go_wp2
        go_ret
        exact ⟨ret_bool (by rw [← HS.out, List.drop_of_length_le (by omega), List.drop_of_length_le (by have := HE.out; omega)]; rfl), _, rfl⟩
  · have b1 : ((xs.length : Int) != (ys.length : Int)) = true := by simp; omega
    have b2 : (xs.length == ys.length) = false := by simp [he]
    have C : Hid (decide (xs = ys) = false) := decide_eq_false (by rintro rfl; exact he rfl)
    clear he
    go_enter Tryd.func33, Tryd.ntmps33
    go_wp2
    go_ret
    exact ⟨ret_bool C.out.symm, Drawn.refl _⟩

end Go.Proofs.YtlchipjckgaclaaDoor
