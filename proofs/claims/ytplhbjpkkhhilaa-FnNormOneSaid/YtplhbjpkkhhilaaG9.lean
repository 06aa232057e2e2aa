/- Texts joined for the claims: Dt1 Dt2 Dt3. -/
import Derived.Test.YtplhbjpkkhhilaaG5
import Derived.Test.YtplhbjpkkhhilaaG8
import Derived.Deep.RegionHeld3
/- What draws a tree: l2Byte, l2Leaf. -/
namespace Go.Proofs.Ytplhbjpkkhhilaa
set_option linter.unusedSimpArgs false
set_option linter.unusedVariables false
open Go.RowKit

theorem own_one (w : World) (a b : Int) : OwnSp (w.alloc (.cells #[.int .i64 a, .int .i64 b] TSp)) w.heap.size (.slice (some ⟨w.heap.size, 0, none⟩) 1 1) [⟨a, b⟩] :=
  ⟨own_of_blk (cs := [.int .i64 a, .int .i64 b]) (n := 1) (blk_new w #[.int .i64 a, .int .i64 b] TSp) (by simp) (Nat.le_refl _) (by decide), by simp [maxN]⟩
theorem OwnT.setOnly {w : World} {base : Nat} {v : Value} {s : List Sp} (k : Int) (h : OwnSp w base v s) : OwnT w (vblk v) (.mk k s []) v nilS := by
  have := OwnT.of (fk := []) (k := k) (OwnSp.lower h (Nat.zero_le base)) OwnK.empty (by simpa using vblk_nodup v)
  simpa using this
/-- a tree was drawn -/
def DrawT (g p n m : Nat) (w : World) (e : Ending) (w' : World) : Prop :=
  ∃ r A c K ck fp q, e = .returned (.agg #[.int .i64 r.kind, .slice A r.set.length c, .slice K r.kids.length ck]) ∧ OwnT w' fp r (.slice A r.set.length c) (.slice K r.kids.length ck) ∧ fp.Nodup ∧ (∀ b, b ∈ fp → w.heap.size ≤ b) ∧ r.size ≤ m ∧ Rd w' g q ∧ q ≤ p + n ∧ w.grownBy w' (some g)
theorem draw_fin {w wr w5 : World} {fp : List Nat} {t : Rex} {A K : Option Addr} {k1 k2 c ck : Nat} {R g p q n m nn : Nat} (e1 : k1 = t.set.length) (e2 : k2 = t.kids.length) (HO : OwnT wr fp t (.slice A k1 c) (.slice K k2 ck)) (HF : ∀ b, b ∈ fp → nn ≤ b) (hn : R < nn) (hR : w.heap.size ≤ R) (HB : w.grownBy wr (some g)) (HR : Rd wr g q) (hg : g < w.heap.size)
    (hs : t.size ≤ m) (hq : q ≤ p + n) (HG : wr.grownBy w5 (some R)) : DrawT g p n m w (.returned (.agg #[.int .i64 t.kind, .slice A k1 c, .slice K k2 ck])) w5 := by
  subst e1 e2
  obtain ⟨_, _, _, hnd, _⟩ := HO.parts
  refine ⟨t, A, c, K, ck, fp, q, rfl, ?_, hnd, fun b hb => by have := HF b hb; omega, hs, HR.grown HG (fun k hk => by injection hk with hk; omega), hq, grown_row HB HG fun k hk => by injection hk with hk; omega⟩
  exact HO.stay fun b hb => HG.block b (HO.lt b hb) fun e => by injection e with e; have := HF b hb; omega

set_option maxHeartbeats 1000000 in
theorem sByte_c (b : Int) (w : World) :
    Calls Try.prog 89 #[.int .i64 b] w fun e w' => ∃ A c fp, e = .returned (.agg #[.int .i64 1, .slice A 1 c, nilS]) ∧ OwnT w' fp (.mk 1 [⟨b, b⟩] []) (.slice A 1 c) nilS ∧ (∀ x, x ∈ fp → w.heap.size < x) ∧ Below w.heap.size w w' := by
  obtain ⟨wa, hwa⟩ : ∃ x, x = (w.alloc (.cells #[.int .i64 0, nilS, nilS] TRx)).alloc (.cells #[.int .i64 b, .int .i64 b] TSp) := ⟨_, rfl⟩
  have M1 : Hid (Blk wa w.heap.size #[.int .i64 0, nilS, nilS] TRx) := by rw [hwa]; exact (blk_new w _ _).alloc _
  have HO : Hid (OwnSp wa (w.heap.size + 1) (.slice (some ⟨w.heap.size + 1, 0, none⟩) 1 1) [⟨b, b⟩]) := by
    have := own_one (w.alloc (.cells #[.int .i64 0, nilS, nilS] TRx)) b b
    rw [hwa]
    rw [show (w.alloc (.cells #[.int .i64 0, nilS, nilS] TRx)).heap.size = w.heap.size + 1 by simp] at this
    exact this
  have HB : Hid (Below w.heap.size w wa) := by rw [hwa]; exact below_alloc (below_alloc (Below.refl _ _) _) _
  replace hwa := hwa.symm
  go_enter Try.func89, Try.ntmps89
  go_wp2_with (refine ev_store (o := ⟨none, .store _ (.tmp 2) _, _, _, _, _⟩) rfl rfl TRx (.tmp 2) (.tmp 7) rfl (w.heap.size) 0 rfl [.int .i64 1, .slice (some ⟨w.heap.size + 1, 0, none⟩) 1 1, nilS] rfl _ TRx M1.out (sizeRx' _ _ _) (by show 0 + 3 ≤ 3; omega) (three_one _ _ _ _ _ _ _) ?_; intro w5 hX5 hg5; have HX5 : Hid (Blk w5 (w.heap.size) ([.int .i64 1, .slice (some ⟨w.heap.size + 1, 0, none⟩) 1 1, nilS]).toArray TRx) := hX5; have HG5 := Lib.hid hg5; clear hX5 hg5)
  refine bodyPost_ret (results_cell_row rfl _ _ (w.heap.size) TRx _ (0, 0) _ rfl HX5.out.eq Try.underlying34 rfl (by rw [sizeRx]; rfl)) rfl ?_
  refine ⟨some ⟨w.heap.size + 1, 0, none⟩, 1, [w.heap.size + 1], rfl, ?_, fun x hx => by simp at hx; omega, HB.out.grown HG5.out HB.out.size fun q hq => by injection hq with hq; omega⟩
  exact OwnT.stay (OwnT.setOnly 1 HO.out) fun b hb => HG5.out.block b ((OwnT.setOnly 1 HO.out).lt b hb) fun e => by injection e with e; simp [vblk_some] at hb; omega


set_option maxHeartbeats 2000000 in
theorem sLeaf_c (g p : Nat) (w : World) (h : Rd w g p) (hp : p ≤ 800000) :
    Calls Try.prog 88 #[.pointer (some ⟨g, 0, none⟩)] w (DrawT g p 15 300 w) := by
  obtain ⟨wa, hwa⟩ : ∃ x, x = w.alloc (.cells #[.int .i64 0, nilS, nilS] TRx) := ⟨_, rfl⟩
  have M1 : Hid (Blk wa w.heap.size #[.int .i64 0, nilS, nilS] TRx) := by rw [hwa]; exact blk_new w _ _
  have GA : Hid (w.grownBy wa (some g)) := by rw [hwa]; exact grown_below (below_alloc (Below.refl _ _) _)
  have RA : Hid (Rd wa g p) := by rw [hwa]; exact h.below (below_alloc (Below.refl _ _) _)
  have hza : wa.heap.size = w.heap.size + 1 := by rw [hwa]; simp
  have hg := h.lt
  replace hwa := hwa.symm
  go_enter Try.func88, Try.ntmps88
  go_wp2_with fail
  clear hwa h
  refine (pick_c g p 9 _ RA.out (by omega) (by omega) (by omega)).mono ?_
  rintro e w1 ⟨r, rfl, r0, r1, HR, HG⟩
  have M1a := Lib.hid (M1.out.grown HG (fun k hk => by injection hk with hk; omega))
  have GAa := Lib.hid (grown_then GA.out HG)
  have Za := HG.size
  clear HG
  by_cases c0 : r = 0
  · subst c0
    go_wp2_with (refine ev_store (o := ⟨none, .store _ (.tmp 2) _, _, _, _, _⟩) rfl rfl TRx (.tmp 2) (.tmp 7) rfl (w.heap.size) 0 rfl [.int .i64 2, nilS, nilS] rfl _ TRx M1a.out (sizeRx' _ _ _) (by show 0 + 3 ≤ 3; omega) (three_one _ _ _ _ _ _ _) ?_; intro w5 hX5 hg5; have HX5 : Hid (Blk w5 (w.heap.size) ([.int .i64 2, nilS, nilS]).toArray TRx) := hX5; have HG5 := Lib.hid hg5; clear hX5 hg5)
    refine bodyPost_ret (results_cell_row rfl _ _ (w.heap.size) TRx _ (0, 0) _ rfl HX5.out.eq Try.underlying34 rfl (by rw [sizeRx]; rfl)) rfl ?_
    exact draw_fin (t := .mk 2 [] []) rfl rfl (OwnT.leaf _ 2) (fun b hb => absurd hb (List.not_mem_nil)) (Nat.lt_succ_self _) (Nat.le_refl _) GAa.out HR hg (by simp [Rex.size, sizeL]) (by omega) HG5.out
  have d0 : (r == 0) = false := by simp [c0]
  by_cases c1 : r = 1
  · subst c1
    obtain ⟨wb, hwb⟩ : ∃ x, x = w1.alloc (.cells #[.int .i64 97, .int .i64 98] TSp) := ⟨_, rfl⟩
    have HO : Hid (OwnSp wb w1.heap.size (.slice (some ⟨w1.heap.size, 0, none⟩) 1 1) [⟨97, 98⟩]) := by rw [hwb]; exact own_one w1 97 98
    have hgb : w1.grownBy wb (some g) := by rw [hwb]; exact grown_below (below_alloc (Below.refl _ _) _)
    have M1b := Lib.hid (M1a.out.grown hgb (fun k hk => by injection hk with hk; omega))
    have GAb := Lib.hid (grown_then GAa.out hgb)
    have Zb := hgb.size
    have HRb := Lib.hid (HR.below (show Below w1.heap.size w1 wb by rw [hwb]; exact below_alloc (Below.refl _ _) _))
    clear hgb
    replace hwb := hwb.symm
    go_wp2_with (refine ev_store (o := ⟨none, .store _ (.tmp 2) _, _, _, _, _⟩) rfl rfl TRx (.tmp 2) (.tmp 12) rfl (w.heap.size) 0 rfl [.int .i64 1, .slice (some ⟨w1.heap.size, 0, none⟩) 1 1, nilS] rfl _ TRx M1b.out (sizeRx' _ _ _) (by show 0 + 3 ≤ 3; omega) (three_one _ _ _ _ _ _ _) ?_; intro w5 hX5 hg5; have HX5 : Hid (Blk w5 (w.heap.size) ([.int .i64 1, .slice (some ⟨w1.heap.size, 0, none⟩) 1 1, nilS]).toArray TRx) := hX5; have HG5 := Lib.hid hg5; clear hX5 hg5)
    refine bodyPost_ret (results_cell_row rfl _ _ (w.heap.size) TRx _ (0, 0) _ rfl HX5.out.eq Try.underlying34 rfl (by rw [sizeRx]; rfl)) rfl ?_
    exact draw_fin (t := .mk 1 [⟨97, 98⟩] []) rfl rfl (OwnT.setOnly 1 HO.out) (fun b hb => (HO.out.lt b hb).1) (by omega) (Nat.le_refl _) GAb.out HRb.out hg (by simp [Rex.size, sizeL]) (by omega) HG5.out
  have d1 : (r == 1) = false := by simp [c1]
  by_cases c2 : r = 2
  · subst c2
    go_wp2_with fail
    refine (l1Set_c g (p + 1) w1 HR (by omega)).mono ?_
    rintro e w2 ⟨f, v, q, rfl, o, _, HR2, hq, HG2⟩
    have M1b := Lib.hid (M1a.out.grown HG2 (fun k hk => by injection hk with hk; omega))
    have GAb := Lib.hid (grown_then GAa.out HG2)
    have Zb := HG2.size
    have hl := spansOf_len f
    have HO := Lib.hid o
    have H2 := Lib.hid HR2
    obtain ⟨A2, c2, rfl, _⟩ := o.sps
    clear o HR2 HG2 HR
    go_wp2_with (refine ev_store (o := ⟨none, .store _ (.tmp 2) _, _, _, _, _⟩) rfl rfl TRx (.tmp 2) (.tmp 17) rfl (w.heap.size) 0 rfl [.int .i64 1, .slice A2 (spansOf f).length c2, nilS] rfl _ TRx M1b.out (sizeRx' _ _ _) (by show 0 + 3 ≤ 3; omega) (three_one _ _ _ _ _ _ _) ?_; intro w5 hX5 hg5; have HX5 : Hid (Blk w5 (w.heap.size) ([.int .i64 1, .slice A2 (spansOf f).length c2, nilS]).toArray TRx) := hX5; have HG5 := Lib.hid hg5; clear hX5 hg5)
    refine bodyPost_ret (results_cell_row rfl _ _ (w.heap.size) TRx _ (0, 0) _ rfl HX5.out.eq Try.underlying34 rfl (by rw [sizeRx]; rfl)) rfl ?_
    exact draw_fin (t := .mk 1 (spansOf f) []) rfl rfl (OwnT.setOnly 1 HO.out) (fun b hb => (HO.out.lt b hb).1) (by omega) (Nat.le_refl _) GAb.out H2.out hg (by simp [Rex.size, sizeL]; omega) (by omega) HG5.out
  have d2 : (r == 2) = false := by simp [c2]
  by_cases c3 : r = 3
  · subst c3
    go_wp2_with fail
    refine (pick_c g (p + 1) 3 _ HR (by omega) (by omega) (by omega)).mono ?_
    rintro e w2 ⟨z, rfl, z0, z1, HR2, HG2⟩
    have M1b := Lib.hid (M1a.out.grown HG2 (fun k hk => by injection hk with hk; omega))
    have GAb := Lib.hid (grown_then GAa.out HG2)
    have Zb := HG2.size
    clear HG2 HR
    by_cases c4 : z = 0
    · subst c4
      go_wp2_with (refine ev_store (o := ⟨none, .store _ (.tmp 2) _, _, _, _, _⟩) rfl rfl TRx (.tmp 2) (.tmp 23) rfl (w.heap.size) 0 rfl [.int .i64 1, nilS, nilS] rfl _ TRx M1b.out (sizeRx' _ _ _) (by show 0 + 3 ≤ 3; omega) (three_one _ _ _ _ _ _ _) ?_; intro w5 hX5 hg5; have HX5 : Hid (Blk w5 (w.heap.size) ([.int .i64 1, nilS, nilS]).toArray TRx) := hX5; have HG5 := Lib.hid hg5; clear hX5 hg5)
      refine bodyPost_ret (results_cell_row rfl _ _ (w.heap.size) TRx _ (0, 0) _ rfl HX5.out.eq Try.underlying34 rfl (by rw [sizeRx]; rfl)) rfl ?_
      exact draw_fin (t := .mk 1 [] []) rfl rfl (OwnT.leaf _ 1) (fun b hb => absurd hb (List.not_mem_nil)) (Nat.lt_succ_self _) (Nat.le_refl _) GAb.out HR2 hg (by simp [Rex.size, sizeL]) (by omega) HG5.out
    have d4 : (z == 0) = false := by simp [c4]
    go_wp2_with fail
    refine (pick_c g (p + 1 + 1) 3 _ HR2 (by omega) (by omega) (by omega)).mono ?_
    rintro e w3 ⟨y, rfl, y0, y1, HR3, HG3⟩
    have M1c := Lib.hid (M1b.out.grown HG3 (fun k hk => by injection hk with hk; omega))
    have GAc := Lib.hid (grown_then GAb.out HG3)
    have Zc := HG3.size
    clear HG3 HR2
    go_wp2_with fail
    refine (sByte_c _ w3).mono ?_
    rintro e w4 ⟨A4, c4, fp, rfl, o, hf, b4⟩
    have hgb := grown_below b4 (row := some g)
    have M1d := Lib.hid (M1c.out.grown hgb (fun k hk => by injection hk with hk; omega))
    have GAd := Lib.hid (grown_then GAc.out hgb)
    have Zd := hgb.size
    have HRb := Lib.hid (HR3.below b4)
    have HO := Lib.hid o
    have HF := Lib.hid hf
    clear hgb HR3 b4 o hf
    go_wp2_with (refine ev_store (o := ⟨none, .store _ (.tmp 2) _, _, _, _, _⟩) rfl rfl TRx (.tmp 2) (.tmp 27) rfl (w.heap.size) 0 rfl [.int .i64 1, .slice A4 1 c4, nilS] rfl _ TRx M1d.out (sizeRx' _ _ _) (by show 0 + 3 ≤ 3; omega) (three_one _ _ _ _ _ _ _) ?_; intro w5 hX5 hg5; have HX5 : Hid (Blk w5 (w.heap.size) ([.int .i64 1, .slice A4 1 c4, nilS]).toArray TRx) := hX5; have HG5 := Lib.hid hg5; clear hX5 hg5)
    refine bodyPost_ret (results_cell_row rfl _ _ (w.heap.size) TRx _ (0, 0) _ rfl HX5.out.eq Try.underlying34 rfl (by rw [sizeRx]; rfl)) rfl ?_
    exact draw_fin (t := .mk 1 [_] []) rfl rfl HO.out (fun b hb => Nat.le_of_lt (HF.out b hb)) (by omega) (Nat.le_refl _) GAd.out HRb.out hg (by simp [Rex.size, sizeL]) (by omega) HG5.out
  have d3 : (r == 3) = false := by simp [c3]
  go_wp2_with fail
  refine (pick_c g (p + 1) 3 _ HR (by omega) (by omega) (by omega)).mono ?_
  rintro e w3 ⟨y, rfl, y0, y1, HR3, HG3⟩
  have M1c := Lib.hid (M1a.out.grown HG3 (fun k hk => by injection hk with hk; omega))
  have GAc := Lib.hid (grown_then GAa.out HG3)
  have Zc := HG3.size
  clear HG3 HR
  go_wp2_with fail
  refine (sByte_c _ w3).mono ?_
  rintro e w4 ⟨A4, c4, fp, rfl, o, hf, b4⟩
  have hgb := grown_below b4 (row := some g)
  have M1d := Lib.hid (M1c.out.grown hgb (fun k hk => by injection hk with hk; omega))
  have GAd := Lib.hid (grown_then GAc.out hgb)
  have Zd := hgb.size
  have HRb := Lib.hid (HR3.below b4)
  have HO := Lib.hid o
  have HF := Lib.hid hf
  clear hgb HR3 b4 o hf
  go_wp2_with (refine ev_store (o := ⟨none, .store _ (.tmp 2) _, _, _, _, _⟩) rfl rfl TRx (.tmp 2) (.tmp 27) rfl (w.heap.size) 0 rfl [.int .i64 1, .slice A4 1 c4, nilS] rfl _ TRx M1d.out (sizeRx' _ _ _) (by show 0 + 3 ≤ 3; omega) (three_one _ _ _ _ _ _ _) ?_; intro w5 hX5 hg5; have HX5 : Hid (Blk w5 (w.heap.size) ([.int .i64 1, .slice A4 1 c4, nilS]).toArray TRx) := hX5; have HG5 := Lib.hid hg5; clear hX5 hg5)
  refine bodyPost_ret (results_cell_row rfl _ _ (w.heap.size) TRx _ (0, 0) _ rfl HX5.out.eq Try.underlying34 rfl (by rw [sizeRx]; rfl)) rfl ?_
  exact draw_fin (t := .mk 1 [_] []) rfl rfl HO.out (fun b hb => Nat.le_of_lt (HF.out b hb)) (by omega) (Nat.le_refl _) GAd.out HRb.out hg (by simp [Rex.size, sizeL]) (by omega) HG5.out

end Go.Proofs.Ytplhbjpkkhhilaa

/- What draws a tree: l2Rex. -/
namespace Go.Proofs.Ytplhbjpkkhhilaa
set_option linter.unusedSimpArgs false
set_option linter.unusedVariables false
open Go.RowKit

theorem KApp.widen {w : World} {lo : Nat} {ks : List Rex} {v : Value} {L : List KInfo} (h : KApp w lo ks ks.length v L) (r : Rex) : KApp w lo (ks ++ [r]) ks.length v L := by
  refine ⟨?_, h.len, by simp, fun i r' x hi hx => ?_, h.nd, h.lo⟩
  · have := h.own
    rw [List.take_length] at this
    rw [List.take_left]
    exact this
  · have hl := (List.getElem?_eq_some_iff.1 hx).1
    have hlen := h.len
    rw [List.getElem?_append_left (by omega)] at hi
    exact h.hr i r' x hi hx
theorem KApp.snoc2 {wr wD wE : World} {lo : Nat} {ks : List Rex} {v v' : Value} {L : List KInfo} {r : Rex} {fp : List Nat} {v1 v2 : Value} {O : Obj} {g o gr : Nat} {u : Value} (h0 : KApp wr lo ks ks.length v L) (b2 : wr.grownBy wD (some gr)) (hgr : gr < lo)
    (ho : OwnT wD fp r v1 v2) (hf : ∀ b, b ∈ fp → wr.heap.size ≤ b) (hn : fp.Nodup) (he : wE.ownsRow lo TRx 3 v' (ks.length + 1) (kcells (ks.take ks.length) L ++ [.int .i64 r.kind, v1, v2])) (hg : (wD.alloc O).grownBy wE v.ownBlock)
    (hat : ∀ b, b ∈ vblk v' → b ∈ vblk v ∨ b = (wD.alloc O).heap.size) (hgl : g < lo) (hlo : lo ≤ wr.heap.size) : KApp (wE.setCell ⟨g, o, none⟩ u) lo (ks ++ [r]) (ks.length + 1) v' (L ++ [⟨fp, v1, v2⟩]) := by
  have h := h0.widen r
  have hr : (ks ++ [r])[ks.length]? = some r := by simp
  have hj := (List.getElem?_eq_some_iff.1 hr).1
  have hlen := h.len
  have hlt := h.lt
  obtain ⟨n1, n2, n3⟩ := List.nodup_append.1 h.nd
  have hz : (wD.alloc O).heap.size = wD.heap.size + 1 := by simp
  rw [hz] at hat
  have hzD := b2.size
  have stay : ∀ b, b < wD.heap.size → b ∉ vblk v → b ≠ g → (wE.setCell ⟨g, o, none⟩ u).heap[b]? = wD.heap[b]? := fun b hb hv hbg =>
    (Below.heap_setCell _ _ _ _ hbg).trans ((hg.block b (by rw [hz]; omega) fun e => hv (mem_vblk.2 e.symm)).trans ((below_alloc (Below.refl wD.heap.size wD) O).block b hb))
  refine ⟨?_, by simp [hlen], by simp, ?_, ?_, ?_⟩
  · have e : kcells ((ks ++ [r]).take (ks.length + 1)) (L ++ [⟨fp, v1, v2⟩]) = kcells (ks.take ks.length) L ++ [.int .i64 r.kind, v1, v2] := by
      rw [List.take_of_length_le (by simp), List.take_length]
      exact kcells_append _ _ _ ⟨fp, v1, v2⟩ (by omega)
    rw [e]
    exact own_move he fun b hb => Below.heap_setCell _ _ _ _ (fun e => by have := (own_vlt he b (mem_vblk.2 hb)).1; have e' : b = g := e; omega)
  · intro i r' x hi hx
    by_cases e : i < L.length
    · rw [List.getElem?_append_left e] at hx
      have hT := h.hr i r' x hi hx
      refine (hT.stay fun b hb => b2.block b (hT.lt b hb) fun e => ?_).stay fun b hb => stay b (Nat.lt_of_lt_of_le (hT.lt b hb) hzD) (fun hv => n3 b hv b (mem_fps.2 ⟨i, x, hx, hb⟩) rfl) fun eg => ?_
      · injection e with e
        have := h.lo b (by simp [mem_fps.2 ⟨i, x, hx, hb⟩])
        omega
      · have := h.lo b (by simp [mem_fps.2 ⟨i, x, hx, hb⟩])
        omega
    · have e2 : i = L.length := by
        have := (List.getElem?_eq_some_iff.1 hx).1
        simp at this
        omega
      subst e2
      rw [hlen, hr] at hi
      obtain rfl := Option.some.inj hi
      simp at hx
      subst hx
      refine ho.stay fun b hb => stay b (ho.lt b hb) (fun hv => ?_) fun eg => ?_
      · have := (own_vlt h.own b hv).2; have := hf b hb; omega
      · have := hf b hb; omega
  · have e : fps (L ++ [⟨fp, v1, v2⟩]) = fps L ++ fp := by rw [fps_append]; simp [fps]
    rw [e]
    refine List.nodup_append.2 ⟨vblk_nodup _, List.nodup_append.2 ⟨n2, hn, fun a ha b hb eq => ?_⟩, fun a ha b hb eq => ?_⟩
    · have := hlt a (by simp [ha]); have := hf b hb; omega
    · subst eq
      rcases hat a ha with hv | hv
      · rcases List.mem_append.1 hb with hb | hb
        · exact n3 a hv a hb rfl
        · have := (own_vlt h.own a hv).2; have := hf a hb; omega
      · rcases List.mem_append.1 hb with hb | hb
        · have := hlt a (by simp [hb]); omega
        · have := ho.lt a hb; omega
  · have e : fps (L ++ [⟨fp, v1, v2⟩]) = fps L ++ fp := by rw [fps_append]; simp [fps]
    rw [e]
    intro b hb
    rcases List.mem_append.1 hb with hb | hb
    · exact (own_vlt he b hb).1
    · rcases List.mem_append.1 hb with hb | hb
      · exact h.lo b (by simp [hb])
      · exact Nat.le_trans hlo (hf b hb)


def NB : Nat → Nat
  | 0 => 30
  | d + 1 => 2 * NB d + 10
def MB : Nat → Nat
  | 0 => 400
  | d + 1 => 2 * MB d + 10
theorem NB_ge : ∀ d, 30 ≤ NB d
  | 0 => Nat.le_refl _
  | d + 1 => by have := NB_ge d; rw [NB]; omega
theorem MB_ge : ∀ d, 400 ≤ MB d
  | 0 => Nat.le_refl _
  | d + 1 => by have := MB_ge d; rw [MB]; omega
def LK : List Int := [3, 3, 3, 4, 4, 5, 5, 6, 7]
theorem kids_nat {k : Int} (h3 : 3 ≤ k) (h7 : k ≤ 7) : ∃ n : Nat, kidsOf k = n ∧ n ≤ 2 := by
  have : k = 3 ∨ k = 4 ∨ k = 5 ∨ k = 6 ∨ k = 7 := by omega
  rcases this with rfl | rfl | rfl | rfl | rfl
  · exact ⟨2, rfl, by omega⟩
  · exact ⟨2, rfl, by omega⟩
  · exact ⟨1, rfl, by omega⟩
  · exact ⟨2, rfl, by omega⟩
  · exact ⟨1, rfl, by omega⟩
theorem sizeL_snoc (ks : List Rex) (r : Rex) : sizeL (ks ++ [r]) = sizeL ks + r.size := by
  induction ks with
  | nil => simp [sizeL]
  | cons a l ih => rw [List.cons_append, sizeL, sizeL, ih]; omega

def DrawV (g p n m : Nat) (w : World) (e : Ending) (w' : World) : Prop :=
  ∃ v, e = .returned v ∧ ∃ r A c K ck fp q, v = .agg #[.int .i64 r.kind, .slice A r.set.length c, .slice K r.kids.length ck] ∧ OwnT w' fp r (.slice A r.set.length c) (.slice K r.kids.length ck) ∧ fp.Nodup ∧ (∀ b, b ∈ fp → w.heap.size ≤ b) ∧ r.size ≤ m ∧ Rd w' g q ∧ q ≤ p + n ∧ w.grownBy w' (some g)
theorem DrawT.v {g p n m : Nat} {w : World} {e : Ending} {w' : World} (h : DrawT g p n m w e w') : DrawV g p n m w e w' := by
  obtain ⟨r, A, c, K, ck, fp, q, he, rest⟩ := h
  exact ⟨_, he, r, A, c, K, ck, fp, q, rfl, rest⟩

set_option maxHeartbeats 2000000 in
theorem sDrawLeaf_c (g p N M : Nat) (d : Int) (hd : d ≤ 1) (w : World) (h : Rd w g p) (hp : p + N ≤ 700000) (hN : 30 ≤ N) (hM : 400 ≤ M) :
    Calls Try.prog 87 #[.pointer (some ⟨g, 0, none⟩), .int .i64 d] w (DrawT g p N M w) := by
  obtain ⟨wa, hwa⟩ : ∃ x, x = w.alloc (.cells #[.int .i64 0, nilS, nilS] TRx) := ⟨_, rfl⟩
  have N1a : Hid (Blk wa w.heap.size #[.int .i64 0, nilS, nilS] TRx) := by rw [hwa]; exact blk_new w _ _
  have GAa : Hid (w.grownBy wa (some g)) := by rw [hwa]; exact grown_below (below_alloc (Below.refl _ _) _)
  have RA : Hid (Rd wa g p) := by rw [hwa]; exact h.below (below_alloc (Below.refl _ _) _)
  have hza : wa.heap.size = w.heap.size + 1 := by rw [hwa]; simp
  have hg := h.lt
  replace hwa := hwa.symm
  go_enter Try.func87, Try.ntmps87
  go_wp2_with fail
  clear hwa h
  refine (sLeaf_c g p _ RA.out (by omega)).mono ?_
  rintro e w9 ⟨r9, A9, c9, K9, k9, fp9, q9, rfl, o9, n9, f9, s9, R9, hq9, G9⟩
  have N1z := Lib.hid (N1a.out.grown G9 (fun k hk => by injection hk with hk; omega))
  have GAz := Lib.hid (grown_then GAa.out G9)
  have Zz := G9.size
  have HO9 := Lib.hid o9
  have HF9 := Lib.hid f9
  have HR9 := Lib.hid R9
  clear o9 f9 R9 G9 n9
  go_wp2_with (refine ev_store (o := ⟨none, .store _ (.tmp 4) _, _, _, _, _⟩) rfl rfl TRx (.tmp 4) (.tmp 16) rfl (w.heap.size) 0 rfl [.int .i64 r9.kind, .slice A9 r9.set.length c9, .slice K9 r9.kids.length k9] rfl _ TRx N1z.out (sizeRx' _ _ _) (by show 0 + 3 ≤ 3; omega) (three_one _ _ _ _ _ _ _) ?_; intro w5 hX5 hg5; have HX5 : Hid (Blk w5 (w.heap.size) ([.int .i64 r9.kind, .slice A9 r9.set.length c9, .slice K9 r9.kids.length k9]).toArray TRx) := hX5; have HG5 := Lib.hid hg5; clear hX5 hg5)
  refine bodyPost_ret (results_cell_row rfl _ _ (w.heap.size) TRx _ (0, 0) _ rfl HX5.out.eq Try.underlying34 rfl (by rw [sizeRx]; rfl)) rfl ?_
  exact draw_fin rfl rfl HO9.out HF9.out (by omega) (Nat.le_refl _) GAz.out HR9.out hg (by omega) (by omega) HG5.out

set_option maxRecDepth 100000 in
set_option maxHeartbeats 4000000 in
theorem sDrawNode_c (g p N M N1 M1 d : Nat) (hd : 2 ≤ d) (hd2 : d ≤ 100) (w : World) (h : Rd w g p) (hp : p + N ≤ 700000) (eN : N = 2 * N1 + 10) (eM : M = 2 * M1 + 10) (hN : 30 ≤ N1) (hM : 400 ≤ M1)
    (ih : ∀ (p : Nat) (w : World), Rd w g p → p + N1 ≤ 700000 → Calls Try.prog 87 #[.pointer (some ⟨g, 0, none⟩), .int .i64 ((d : Int) - 1)] w (DrawT g p N1 M1 w)) :
    Calls Try.prog 87 #[.pointer (some ⟨g, 0, none⟩), .int .i64 (d : Int)] w (DrawT g p N M w) := by
  have hd1 : ¬ ((d : Nat) : Int) ≤ 1 := by omega
  obtain ⟨wa, hwa⟩ : ∃ x, x = w.alloc (.cells #[.int .i64 0, nilS, nilS] TRx) := ⟨_, rfl⟩
  have N1a : Hid (Blk wa w.heap.size #[.int .i64 0, nilS, nilS] TRx) := by rw [hwa]; exact blk_new w _ _
  have GAa : Hid (w.grownBy wa (some g)) := by rw [hwa]; exact grown_below (below_alloc (Below.refl _ _) _)
  have RA : Hid (Rd wa g p) := by rw [hwa]; exact h.below (below_alloc (Below.refl _ _) _)
  have hza : wa.heap.size = w.heap.size + 1 := by rw [hwa]; simp
  have hg := h.lt
  replace hwa := hwa.symm
  go_enter Try.func87, Try.ntmps87
  go_wp2_with fail
  clear hwa h
  refine (pick_c g p 4 _ RA.out (by omega) (by omega) (by omega)).mono ?_
  rintro e w1 ⟨r, rfl, r0, r1, HR, HG⟩
  have N1b := Lib.hid (N1a.out.grown HG (fun k hk => by injection hk with hk; omega))
  have GAb := Lib.hid (grown_then GAa.out HG)
  have Zb := HG.size
  clear HG
  by_cases c0 : r = 0
  · subst c0
    go_wp2_with fail
    refine (sLeaf_c g (p + 1) _ HR (by omega)).mono ?_
    rintro e w9 ⟨r9, A9, c9, K9, k9, fp9, q9, rfl, o9, n9, f9, s9, R9, hq9, G9⟩
    have N1z := Lib.hid (N1b.out.grown G9 (fun k hk => by injection hk with hk; omega))
    have GAz := Lib.hid (grown_then GAb.out G9)
    have Zz := G9.size
    have HO9 := Lib.hid o9
    have HF9 := Lib.hid f9
    have HR9 := Lib.hid R9
    clear o9 f9 R9 G9 n9
    go_wp2_with (refine ev_store (o := ⟨none, .store _ (.tmp 4) _, _, _, _, _⟩) rfl rfl TRx (.tmp 4) (.tmp 16) rfl (w.heap.size) 0 rfl [.int .i64 r9.kind, .slice A9 r9.set.length c9, .slice K9 r9.kids.length k9] rfl _ TRx N1z.out (sizeRx' _ _ _) (by show 0 + 3 ≤ 3; omega) (three_one _ _ _ _ _ _ _) ?_; intro w5 hX5 hg5; have HX5 : Hid (Blk w5 (w.heap.size) ([.int .i64 r9.kind, .slice A9 r9.set.length c9, .slice K9 r9.kids.length k9]).toArray TRx) := hX5; have HG5 := Lib.hid hg5; clear hX5 hg5)
    refine bodyPost_ret (results_cell_row rfl _ _ (w.heap.size) TRx _ (0, 0) _ rfl HX5.out.eq Try.underlying34 rfl (by rw [sizeRx]; rfl)) rfl ?_
    exact draw_fin rfl rfl HO9.out HF9.out (by omega) (Nat.le_refl _) GAz.out HR9.out hg (by omega) (by omega) HG5.out
  have d0 : (r == 0) = false := by simp [c0]
  have hlk : LK.length = 9 := rfl
  go_wp2_with fail
  refine (num_c g (p + 1) w1.heap.size 9 LK 3 7 _ (HR.below (below_alloc (Below.refl _ _) _)) (ints_new w1 LK _) (by have := HR.lt; omega) (by simp) (by decide) (by decide) (by decide) (by omega)).mono ?_
  rintro e w2 ⟨k, rfl, k3, k7, HR2, HG2⟩
  have HG2' := grown_then (grown_below (below_alloc (Below.refl w1.heap.size w1) _)) HG2
  have N1c := Lib.hid (N1b.out.grown HG2' (fun k hk => by injection hk with hk; omega))
  have GAc := Lib.hid (grown_then GAb.out HG2')
  have Zc := HG2'.size
  clear HG2' HG2 HR
  go_wp2_with fail
  obtain ⟨wc, hwc⟩ : ∃ x, x = w2.alloc (.cells #[.int .i64 k, nilS, nilS] TRx) := ⟨_, rfl⟩
  have MO : Hid (Blk wc w2.heap.size #[.int .i64 k, nilS, nilS] TRx) := by rw [hwc]; exact blk_new w2 _ _
  have hgc : w2.grownBy wc (some g) := by rw [hwc]; exact grown_below (below_alloc (Below.refl _ _) _)
  have N1d := Lib.hid (N1c.out.grown hgc (fun k hk => by injection hk with hk; omega))
  have GAd := Lib.hid (grown_then GAc.out hgc)
  have Zd := hgc.size
  have RC : Hid (Rd wc g (p + 1 + 1)) := by rw [hwc]; exact HR2.below (below_alloc (Below.refl _ _) _)
  have hzc : wc.heap.size = w2.heap.size + 1 := by rw [hwc]; simp
  rw [← hwc]
  clear hgc HR2 hwc
  refine (sKids_c _ _).mono ?_
  rintro e wk ⟨rfl, rfl⟩
  obtain ⟨n0, hn0, hn2⟩ := kids_nat k3 k7
  rw [hn0]
  obtain ⟨i1, hi, hz0, hza', hz2⟩ := info_parts infoRx
  go_wp2_with fail
  go_loopg [7] n0 (fun n i wr => i = .int .i64 n ∧ ∃ (ks : List Rex) (A2 : Option Addr) (c2 : Nat) (L : List KInfo) (q : Nat), ks.length + n = n0 ∧ Hid (KApp wr wc.heap.size ks ks.length (.slice A2 ks.length c2) L) ∧
    Hid (Blk wr w2.heap.size #[.int .i64 k, nilS, .slice A2 ks.length c2] TRx) ∧ Hid (Rd wr g q) ∧ Hid (q ≤ p + 2 + ks.length * N1) ∧ Hid (sizeL ks ≤ ks.length * M1) ∧ Hid (w.grownBy wr (some g)) ∧ Hid (Blk wr w.heap.size #[.int .i64 0, nilS, nilS] TRx) ∧ Hid (wc.heap.size ≤ wr.heap.size))
  case atStart => exact ⟨by rfl, [], none, 0, [], p + 1 + 1, by simp, KApp.first _ _ _, MO, RC, by show _ ≤ _; simp, by show _ ≤ _; simp [sizeL], GAd, N1d, Nat.le_refl _⟩
  case round =>
    clear MO RC GAd N1d
    obtain ⟨rfl, ks, A2, c2, L, q, hkn, HX, HBG, HR, HQ, HS, HGA, HM1, HWZ⟩ := hrel
    have n2 : wr.cell? ⟨w2.heap.size, 2, none⟩ = some (.slice A2 ks.length c2) := by rw [HBG.out.cell]; rfl
    have hkl : ks.length ≤ 2 := by omega
    have hq1 : ks.length * N1 ≤ 2 * N1 := Nat.mul_le_mul_right _ hkl
    have hs1 : ks.length * M1 ≤ 2 * M1 := Nat.mul_le_mul_right _ hkl
    by_cases hpos : 0 < gk
    · have hk1 : ks.length ≤ 1 := by omega
      have hq2 : ks.length * N1 ≤ 1 * N1 := Nat.mul_le_mul_right _ hk1
      have hqv := HQ.out
      have HOW := Lib.hid HX.out.own
      have HVK : Hid (∀ b, b ∈ vblk (.slice A2 ks.length c2) → wc.heap.size ≤ b) := fun b hb => HX.out.lo b (by simp [hb])
      have HBB : Hid (∀ q', (Value.slice A2 ks.length c2).ownBlock = some q' → q' ≠ w2.heap.size) := fun q' hq e => by have := HVK.out q' (mem_vblk.2 hq); omega
      have HBR : Hid (∀ q', (Value.slice A2 ks.length c2).ownBlock = some q' → g < q') := fun q' hq => by have := HVK.out q' (mem_vblk.2 hq); omega
      have ihc : Hid (Calls Try.prog 87 #[.pointer (some ⟨g, 0, none⟩), .int .i64 (IntKind.i64.wrap ((d : Int) - 1))] wr.drew (DrawV g q N1 M1 wr.drew)) := by
        show Calls _ _ _ _ _
        rw [IntWalk.i64_in ((d : Int) - 1) (by omega)]
        exact (ih q wr.drew (HR.out.below (below_drew (Below.refl _ _))) (by omega)).mono fun _ _ h => h.v
      go_wp2
      go_region_law (first
        | (refine step_append_row (by rfl) (.tmp 29) (.tmp 34) 32 (by rfl) wc.heap.size TRx i1 (.agg #[.int .i64 0, nilS, nilS]) 3 56 Try.underlying32 hi hz0 hza' hz2 rfl (by decide) (.slice A2 ks.length c2) ks.length (kcells (ks.take ks.length) L) (by rfl) (own_below OWD.out (below_alloc (Below.refl _ _) _)) (some ⟨wD.heap.size, 0, none⟩) 1 1 [.int .i64 r4.kind, .slice A4 r4.set.length c4, .slice K4 r4.kids.length d4] (by rfl) (.inr ⟨⟨wD.heap.size, 0, none⟩, rfl, Nat.zero_le _, new_cells wD [.int .i64 r4.kind, .slice A4 r4.set.length c4, .slice K4 r4.kids.length d4] TRx⟩) rfl (three_one _ _ _ _ _ _ _) (by unfold maxLen; omega) (by omega) (by simp; omega) _ rfl (ks.length + 1) rfl ?_; intro A5 c5 wE hown hgrow hat; have HE := Lib.hid hown; have HG := Lib.hid hgrow; have HAT := Lib.hid hat; have ZB := ((HBD.out).alloc (.cells #[.int .i64 r4.kind, .slice A4 r4.set.length c4, .slice K4 r4.kids.length d4] TRx)).grown hgrow HBB.out; have q2 := (ZB.cell 2).trans rfl; have f2 := ZB.free 2; have HZB := Lib.hid ZB; clear ZB hown hgrow hat)
        | (refine step_call (by rfl) 87 _ _ (by rfl) _ Try.func87 (by kernel_rfl) (by kernel_rfl) #[.pointer (some ⟨g, 0, none⟩), .int .i64 (IntKind.i64.wrap ((d : Int) - 1))] (by rfl) ihc.out ?_; rintro _ wD ⟨r4, A4, c4, K4, d4, fp, q4, rfl, ho, hnd, hf, hs4, hR4, hq4, hG4⟩; have hG5 := grown_then (grown_below (below_drew (Below.refl wr.heap.size wr))) hG4; have HBD := Lib.hid (HBG.out.grown hG5 (fun k hk => by injection hk with hk; omega)); have OWD : Hid (wD.ownsRow wc.heap.size TRx 3 (.slice A2 ks.length c2) ks.length (kcells (ks.take ks.length) L)) := own_move HOW.out fun b hb => hG5.block b (own_vlt HOW.out b (mem_vblk.2 hb)).2 (fun e => by injection e with e; have := HBR.out b hb; omega); have BD := Lib.hid hG5; have HO := Lib.hid ho; have HND := Lib.hid hnd; have HF : Hid (∀ b, b ∈ fp → wr.heap.size ≤ b) := hf; have HRD := Lib.hid hR4; have hzD : wc.heap.size ≤ wD.heap.size := Nat.le_trans HWZ.out hG5.size; clear ho hnd hf hG4 hG5 hR4; have y2 := (((HBD.out).cell 2).trans rfl : wD.cell? ⟨w2.heap.size, 2, none⟩ = some (.slice A2 ks.length c2)); have ya := fun o => cell_alloc y2 o))
      all_goals
        clear y2 ya q2 f2 n2
        go_wp2
        go_roundg (gk - 1)
        case rel =>
          have eL : (ks ++ [r4]).length = ks.length + 1 := by simp
          have zA : (wD.alloc (.cells #[.int .i64 r4.kind, .slice A4 r4.set.length c4, .slice K4 r4.kids.length d4] TRx)).heap.size = wD.heap.size + 1 := by simp
          have zE := HG.out.size
          have keep : ∀ b, b < wc.heap.size → b ≠ w2.heap.size → (wE.setCell ⟨w2.heap.size, 2, none⟩ (.slice A5 (ks.length + 1) c5)).heap[b]? = wD.heap[b]? := fun b hb hne =>
            (Below.heap_setCell _ _ _ _ hne).trans ((HG.out.block b (by simp; omega) fun e => by have := HVK.out b (mem_vblk.2 e.symm); omega).trans ((below_alloc (Below.refl wD.heap.size wD) _).block b (by omega)))
          refine ⟨by go_num, ks ++ [r4], A5, c5, L ++ [⟨fp, .slice A4 r4.set.length c4, .slice K4 r4.kids.length d4⟩], q4, ?_⟩
          rw [eL]
          refine ⟨by omega, HX.out.snoc2 (g := w2.heap.size) (gr := g) BD.out (by omega) HO.out HF.out HND.out HE.out HG.out HAT.out (by omega) HWZ.out, Lib.hid (by simpa using HZB.out.set 2 (.slice A5 (ks.length + 1) c5)), HRD.out.keep fun b hb => keep b (by omega) (by omega), ?_, ?_, ?_, ⟨(keep _ (by omega) (by omega)).trans (HM1.out.grown BD.out fun k hk => by injection hk with hk; omega).eq⟩, ?_⟩
          · show q4 ≤ _; rw [Nat.succ_mul]; omega
          · show sizeL _ ≤ _; have := HS.out; rw [sizeL_snoc, Nat.succ_mul]; omega
          · exact grown_fresh (grown_row (grown_then (grown_then HGA.out BD.out) (grown_below (below_alloc (Below.refl _ _) _))) HG.out fun q' hq => by have := HVK.out q' (mem_vblk.2 hq); omega) (by omega) _ _
          · show _ ≤ _; simp only [World.size_setCell]; exact Nat.le_trans hzD (Nat.le_trans (by simp) HG.out.size)
        case measure => omega
    · have hj' : ks.length = n0 := by omega
      have HOK := HX.out.done rfl (by unfold maxN; omega)
      have HOT : Hid (OwnT wr (vblk (.slice A2 ks.length c2) ++ fps L) (.mk k [] ks) nilS (.slice A2 ks.length c2)) := by
        have := OwnT.of (k := k) (OwnSp.nil wr 0) HOK (by rw [vblk_nil]; exact HOK.nd)
        rw [vblk_nil] at this
        exact this
      have HFK : Hid (∀ b, b ∈ vblk (.slice A2 ks.length c2) ++ fps L → wc.heap.size ≤ b) := fun b hb => HX.out.lo b hb
      have hS := HS.out
      have hQ := HQ.out
      clear HX n2 HOK ih
      go_wp2_with (first
        | (refine ev_load (o := ⟨some 37, _, _, _, _, _⟩) rfl TRx _ rfl w2.heap.size rfl [.int .i64 k, nilS, .slice A2 ks.length c2] TRx HBG.out _ Try.underlying34 rfl (sizeRx' _ _ _) ?_)
        | (refine ev_store (o := ⟨none, .store _ (.tmp 4) _, _, _, _, _⟩) rfl rfl TRx (.tmp 4) (.tmp 37) rfl w.heap.size 0 rfl [.int .i64 k, nilS, .slice A2 ks.length c2] rfl _ TRx HM1.out (sizeRx' _ _ _) (by show 0 + 3 ≤ 3; omega) (three_one _ _ _ _ _ _ _) ?_; intro w5 hX5 hg5; have HX5 : Hid (Blk w5 w.heap.size #[.int .i64 k, nilS, .slice A2 ks.length c2] TRx) := hX5; have HG5 := Lib.hid hg5; clear hX5 hg5))
      refine bodyPost_ret (results_cell_row rfl _ _ (w.heap.size) TRx _ (0, 0) _ rfl HX5.out.eq Try.underlying34 rfl (by rw [sizeRx]; rfl)) rfl ?_
      exact draw_fin (t := .mk k [] ks) rfl rfl HOT.out HFK.out (by omega) (Nat.le_refl _) HGA.out HR.out hg (by simp [Rex.size]; omega) (by omega) HG5.out

def DeepP (g d : Nat) : Prop := ∀ (p : Nat) (w : World), Rd w g p → p + NB d ≤ 700000 → Calls Try.prog 87 #[.pointer (some ⟨g, 0, none⟩), .int .i64 (d : Int)] w (DrawT g p (NB d) (MB d) w)
theorem sDraw_c (g : Nat) : ∀ d : Nat, d ≤ 100 → DeepP g d
  | 0, _ => fun p w h hp => sDrawLeaf_c g p _ _ _ (by simp) w h hp (NB_ge 0) (MB_ge 0)
  | 1, _ => fun p w h hp => sDrawLeaf_c g p _ _ _ (by simp) w h hp (NB_ge 1) (MB_ge 1)
  | d + 2, hd => fun p w h hp => sDrawNode_c g p (NB (d + 2)) (MB (d + 2)) (NB (d + 1)) (MB (d + 1)) (d + 2) (by omega) hd w h hp rfl rfl (NB_ge _) (MB_ge _) fun p w h hp => by
    have := sDraw_c g (d + 1) (by omega) p w h hp
    rw [show (((d + 2 : Nat) : Int) - 1) = ((d + 1 : Nat) : Int) by omega]
    exact this

end Go.Proofs.Ytplhbjpkkhhilaa

/- What draws a tree: l2Some, l2Bent. -/
namespace Go.Proofs.Ytplhbjpkkhhilaa
set_option linter.unusedSimpArgs false
set_option linter.unusedVariables false
open Go.RowKit


theorem OwnT.grown {w w' : World} {fp : List Nat} {r : Rex} {v1 v2 : Value} {g : Nat} (h : OwnT w fp r v1 v2) (hg : w.grownBy w' (some g)) (hf : ∀ b, b ∈ fp → g < b) : OwnT w' fp r v1 v2 :=
  h.stay fun b hb => hg.block b (h.lt b hb) fun e => by injection e with e; have := hf b hb; omega

set_option maxHeartbeats 4000000 in
theorem sSome_c (g p : Nat) (w : World) (h : Rd w g p) (hp : p ≤ 600000) :
    Calls Try.prog 77 #[.pointer (some ⟨g, 0, none⟩)] w (DrawT g p 700 6900 w) := by
  obtain ⟨wa, hwa⟩ : ∃ x, x = w.alloc (.cells #[.int .i64 0, nilS, nilS] TRx) := ⟨_, rfl⟩
  have N1a : Hid (Blk wa w.heap.size #[.int .i64 0, nilS, nilS] TRx) := by rw [hwa]; exact blk_new w _ _
  have GAa : Hid (w.grownBy wa (some g)) := by rw [hwa]; exact grown_below (below_alloc (Below.refl _ _) _)
  have RA : Hid (Rd wa g p) := by rw [hwa]; exact h.below (below_alloc (Below.refl _ _) _)
  have hza : wa.heap.size = w.heap.size + 1 := by rw [hwa]; simp
  have hg := h.lt
  replace hwa := hwa.symm
  go_enter Try.func77, Try.ntmps77
  go_wp2_with fail
  clear hwa h
  refine (pick_c g p 3 _ RA.out (by omega) (by omega) (by omega)).mono ?_
  rintro e w1 ⟨z, rfl, z0, z1, HR, HG⟩
  have N1b := Lib.hid (N1a.out.grown HG (fun k hk => by injection hk with hk; omega))
  have GAb := Lib.hid (grown_then GAa.out HG)
  have Zb := HG.size
  clear HG
  obtain ⟨y, rfl⟩ := Int.eq_ofNat_of_zero_le z0
  obtain ⟨d, hd⟩ : ∃ d : Nat, d = 2 + y := ⟨_, rfl⟩
  have ed : Hid ((2 : Int) + (y : Int) = (d : Int)) := by show _ = _; omega
  have hn : NB d ≤ 630 ∧ MB d ≤ 6550 := by
    have : d = 2 ∨ d = 3 ∨ d = 4 := by omega
    rcases this with e | e | e <;> rw [e] <;> decide
  obtain ⟨hn1, hn2⟩ := hn
  have hd2 : d ≤ 100 := by omega
  clear hd
  go_wp2_with fail
  rw [ed.out]
  refine (sDraw_c g d hd2 (p + 1) w1 HR (by omega)).mono ?_
  rintro e w2 ⟨r, A, c, K, ck, fp, q, rfl, ho, hnd, hf, hs, HR2, hq, HG2⟩
  have N1c := Lib.hid (N1b.out.grown HG2 (fun k hk => by injection hk with hk; omega))
  have GAc := Lib.hid (grown_then GAb.out HG2)
  have Zc := HG2.size
  have hgl : ∀ b, b ∈ fp → g < b := fun b hb => by have := hf b hb; omega
  have HO := Lib.hid ho
  have HF := Lib.hid hf
  clear HG2 ho hf hnd HR
  go_wp2_with fail
  obtain ⟨wc, hwc⟩ : ∃ x, x = w2.alloc (.cells #[.int .i64 r.kind, .slice A r.set.length c, .slice K r.kids.length ck] TRx) := ⟨_, rfl⟩
  have hbc : Below w2.heap.size w2 wc := by rw [hwc]; exact below_alloc (Below.refl _ _) _
  have hgc := grown_below hbc (row := some g)
  have MO : Hid (Blk wc w2.heap.size #[.int .i64 r.kind, .slice A r.set.length c, .slice K r.kids.length ck] TRx) := by rw [hwc]; exact blk_new w2 _ _
  have N1d := Lib.hid (N1c.out.grown hgc (fun k hk => by injection hk with hk; omega))
  have GAd := Lib.hid (grown_then GAc.out hgc)
  have Zd := hgc.size
  have RC := Lib.hid (HR2.below hbc)
  have HOc := Lib.hid (HO.out.under hbc)
  rw [← hwc]
  clear hgc hbc hwc HR2 HO
  have n0 : wc.cell? ⟨w2.heap.size, 0, none⟩ = some (.int .i64 r.kind) := by rw [MO.out.cell]; rfl
  have n1 : wc.cell? ⟨w2.heap.size, 1, none⟩ = some (.slice A r.set.length c) := by rw [MO.out.cell]; rfl
  have n2 : wc.cell? ⟨w2.heap.size, 2, none⟩ = some (.slice K r.kids.length ck) := by rw [MO.out.cell]; rfl
  go_wp2_with fail
  refine (sRexOk_c r _ _ wc 0 HOc.out.rex0 (by omega)).mono ?_
  rintro e w3 ⟨rfl, b3⟩
  have HG3 := grown_below b3 (row := some g)
  have N1e := Lib.hid (N1d.out.grown HG3 (fun k hk => by injection hk with hk; omega))
  have GAe := Lib.hid (grown_then GAd.out HG3)
  have Ze := HG3.size
  have RC3 := Lib.hid (RC.out.below b3)
  have HO3 := Lib.hid (HOc.out.under b3)
  have MO3 := Lib.hid (MO.out.below b3)
  clear HG3 b3 n0 n1 n2 RC HOc MO
  by_cases hok : rexOk r = true
  · rw [hok]
    have n0 : w3.cell? ⟨w2.heap.size, 0, none⟩ = some (.int .i64 r.kind) := by rw [MO3.out.cell]; rfl
    have n1 : w3.cell? ⟨w2.heap.size, 1, none⟩ = some (.slice A r.set.length c) := by rw [MO3.out.cell]; rfl
    have n2 : w3.cell? ⟨w2.heap.size, 2, none⟩ = some (.slice K r.kids.length ck) := by rw [MO3.out.cell]; rfl
    clear hok
    go_wp2_with (refine ev_store (o := ⟨none, .store _ (.tmp 2) _, _, _, _, _⟩) rfl rfl TRx (.tmp 2) (.tmp 14) rfl (w.heap.size) 0 rfl [.int .i64 r.kind, .slice A r.set.length c, .slice K r.kids.length ck] rfl _ TRx N1e.out (sizeRx' _ _ _) (by show 0 + 3 ≤ 3; omega) (three_one _ _ _ _ _ _ _) ?_; intro w5 hX5 hg5; have HX5 : Hid (Blk w5 (w.heap.size) ([.int .i64 r.kind, .slice A r.set.length c, .slice K r.kids.length ck]).toArray TRx) := hX5; have HG5 := Lib.hid hg5; clear hX5 hg5)
    refine bodyPost_ret (results_cell_row rfl _ _ (w.heap.size) TRx _ (0, 0) _ rfl HX5.out.eq Try.underlying34 rfl (by rw [sizeRx]; rfl)) rfl ?_
    exact draw_fin rfl rfl HO3.out HF.out (by omega) (Nat.le_refl _) GAe.out RC3.out hg (by omega) (by omega) HG5.out
  · rw [show rexOk r = false by simpa using hok]
    clear hok
    go_wp2_with fail
    refine (sLeaf_c g q _ RC3.out (by omega)).mono ?_
    rintro e w9 ⟨r9, A9, c9, K9, k9, fp9, q9, rfl, o9, n9, f9, s9, R9, hq9, G9⟩
    have N1z := Lib.hid (N1e.out.grown G9 (fun k hk => by injection hk with hk; omega))
    have GAz := Lib.hid (grown_then GAe.out G9)
    have Zz := G9.size
    have HO9 := Lib.hid o9
    have HF9 := Lib.hid f9
    have HR9 := Lib.hid R9
    clear o9 f9 R9 G9 n9
    go_wp2_with (refine ev_store (o := ⟨none, .store _ (.tmp 2) _, _, _, _, _⟩) rfl rfl TRx (.tmp 2) (.tmp 13) rfl (w.heap.size) 0 rfl [.int .i64 r9.kind, .slice A9 r9.set.length c9, .slice K9 r9.kids.length k9] rfl _ TRx N1z.out (sizeRx' _ _ _) (by show 0 + 3 ≤ 3; omega) (three_one _ _ _ _ _ _ _) ?_; intro w5 hX5 hg5; have HX5 : Hid (Blk w5 (w.heap.size) ([.int .i64 r9.kind, .slice A9 r9.set.length c9, .slice K9 r9.kids.length k9]).toArray TRx) := hX5; have HG5 := Lib.hid hg5; clear hX5 hg5)
    refine bodyPost_ret (results_cell_row rfl _ _ (w.heap.size) TRx _ (0, 0) _ rfl HX5.out.eq Try.underlying34 rfl (by rw [sizeRx]; rfl)) rfl ?_
    exact draw_fin rfl rfl HO9.out HF9.out (by omega) (Nat.le_refl _) GAz.out HR9.out hg (by omega) (by omega) HG5.out

end Go.Proofs.Ytplhbjpkkhhilaa
