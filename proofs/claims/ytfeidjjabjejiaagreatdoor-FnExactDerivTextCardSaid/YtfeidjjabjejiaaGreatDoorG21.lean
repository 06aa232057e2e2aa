/- Texts joined for the claims: Yh C1. -/
import Derived.Test.YtfeidjjabjejiaaGreatDoorG20
import Derived.StillTailTactics
import Derived.Test.YtfeidjjabjejiaaGreatDoorG5
import Derived.Test.YtfeidjjabjejiaaGreatDoorG3
import Derived.Deep.RegionHeld3
import Derived.Deep.DeepCutAuto
/- Made simpler, all of it, by the program: norm. -/
namespace Go.Proofs.YtfeidjjabjejiaaGreatDoor
set_option linter.unusedSimpArgs false
set_option linter.unusedVariables false
set_option maxRecDepth 100000
open Go.RowKit

theorem wf_kid {r x : Rex} (h : wf r) (hx : x ∈ r.kids) : wf x := by
  obtain ⟨d, hd⟩ := h
  obtain ⟨k, s, ks⟩ := r
  obtain ⟨_, _, _, _, h5⟩ := formed_node hd
  exact ⟨_, h5 x hx⟩
theorem many_kid {r x : Rex} (hx : x ∈ r.kids) : x.many + 1 ≤ r.many := by
  obtain ⟨k, s, ks⟩ := r
  have : ∀ {ks : List Rex}, x ∈ ks → x.many ≤ manyL ks := fun {ks} => by
    induction ks with
    | nil => intro h; cases h
    | cons y l ih =>
      intro h
      rw [manyL]
      rcases List.mem_cons.1 h with rfl | h
      · omega
      · have := ih h; omega
  have h1 := this (ks := ks) hx
  rw [Rex.many]
  omega
theorem kids_two {r : Rex} (h : wf r) : r.kids.length ≤ 2 := by
  by_cases h1 : r.kind = 1 ∨ r.kind = 2
  · rw [(wf_leaf h h1).1]; simp
  · by_cases h2 : r.kind = 5 ∨ r.kind = 7
    · obtain ⟨a, er, _⟩ := wf_kids1 h h2
      have e : r.kids = [a] := by rw [er]; rfl
      rw [e]; simp
    · have h3 : r.kind = 3 ∨ r.kind = 4 ∨ r.kind = 6 := by rcases wf_kind h with e | e | e | e | e | e | e <;> omega
      obtain ⟨a, b, er, _, _⟩ := wf_kids2 h h3
      have e : r.kids = [a, b] := by rw [er]; rfl
      rw [e]; simp
set_option maxHeartbeats 4000000 in
theorem iNorm_c (r : Rex) : NrmOk 58 r := by
  refine Rex.ind (p := NrmOk 58) (fun k0 s0 ks0 ih => ?_) r
  obtain ⟨r, er⟩ : ∃ a, a = Rex.mk k0 s0 ks0 := ⟨_, rfl⟩
  have IH : Hid (∀ x ∈ r.kids, NrmOk 58 x) := by rw [er]; exact ih
  rw [← er]
  clear ih er
  intro v1 v2 w p hwf h hp hm hpw
  have HPW := Lib.hid hpw
  obtain ⟨A, c, K, ck, _, rfl, rfl, hs, hk⟩ := h.parts
  obtain ⟨wa, hwa⟩ : ∃ x, x = (w.alloc (.cells #[.int .i64 r.kind, .slice A r.set.length c, .slice K r.kids.length ck] TRx)).alloc (.cells #[.int .i64 0, nilS, nilS] TRx) := ⟨_, rfl⟩
  have hb : Below w.heap.size w wa := by rw [hwa]; exact below_alloc (below_alloc (Below.refl _ _) _) _
  have m0 : Blk wa w.heap.size #[.int .i64 r.kind, .slice A r.set.length c, .slice K r.kids.length ck] TRx := by rw [hwa]; exact (blk_new w _ _).alloc _
  have m1 : Blk wa (w.heap.size + 1) #[.int .i64 0, nilS, nilS] TRx := by
    rw [hwa]
    have := blk_new (w.alloc (.cells #[.int .i64 r.kind, .slice A r.set.length c, .slice K r.kids.length ck] TRx)) #[.int .i64 0, nilS, nilS] TRx
    simpa using this
  have hz1 : wa.heap.size = w.heap.size + 2 := by rw [hwa]; simp
  have HZ := Lib.hid hz1
  clear hz1
  replace hwa := hwa.symm
  have HV := Lib.hid (h.under hb)
  have HB := Lib.hid hb
  have M0 := Lib.hid m0
  have M1 := Lib.hid m1
  have HP := Lib.hid hp
  have n0 : wa.cell? ⟨w.heap.size, 0, none⟩ = some (.int .i64 r.kind) := by rw [m0.cell]; rfl
  have n1 : wa.cell? ⟨w.heap.size, 1, none⟩ = some (.slice A r.set.length c) := by rw [m0.cell]; rfl
  have n2 : wa.cell? ⟨w.heap.size, 2, none⟩ = some (.slice K r.kids.length ck) := by rw [m0.cell]; rfl
  clear hb m0 m1 hs hk h hp
  clear hpw
  have hz1 := HZ.out
  have hk2 := kids_two hwf
  have HWF := Lib.hid hwf
  have HK : Hid (KidsP wa p K ck r.kids) := by
    obtain ⟨_, _, _, _, _, _, e2, _, hkk⟩ := HV.out.parts
    injection e2 with e3 e4 e5
    subst e3 e5
    exact hkk
  obtain ⟨i1, hi, hz0, hza, hz2⟩ := info_parts infoRx
  clear hwf
  go_enter Tryz.func58, Tryz.ntmps58
  go_wp2_with fail
  clear hwa
  obtain ⟨n, hn⟩ : ∃ z, z = r.kids.length := ⟨_, rfl⟩
  rw [← hn] at hk2 ⊢
  have HN := Lib.hid hn
  clear hn
  go_loopg [3, 9] n (fun q v3 v9 wr => ∃ (j c3 : Nat) (A3 : Option Addr) (L3 : List KInfo), v9 = .int .i64 (j : Int) ∧ q + j = n ∧ v3 = .slice A3 j c3 ∧ Hid (OwnR wr wa.heap.size (fun z => p z ∨ wa.heap.size ≤ z) (.slice A3 j c3) ((r.kids.take j).map nrm) L3) ∧ Hid (Below wa.heap.size wa wr))
  case atStart => exact ⟨0, 0, none, [], rfl, by omega, rfl, OwnR.nil _ _ _, Below.refl _ _⟩
  case round =>
    obtain ⟨j, c3, A3, L3, rfl, hqj, rfl, HO, HW⟩ := hrel
    have h3r := HW.out.size
    by_cases hj : j < n
    · obtain ⟨a, x, x1, x2, rfl, EX, _, HX, e0, e1, e2⟩ := HK.out.at_ j (by have := HN.out; omega)
      obtain ⟨A2, q2, K2, d2, _, rfl, rfl, _⟩ := HX.out.parts
      have c0 := (HW.out.cell (World.block_lt_of_cell? wa _ e0)).trans e0
      have c1 := (HW.out.cell (World.block_lt_of_cell? wa _ e1)).trans e1
      have c2 := (HW.out.cell (World.block_lt_of_cell? wa _ e2)).trans e2
      have hxm := List.mem_of_getElem? EX.out
      have IHX := Lib.hid (IH.out x hxm)
      have hmk := many_kid hxm
      have WX := Lib.hid (wf_kid HWF.out hxm)
      obtain ⟨wb, hwb⟩ : ∃ y, y = wr.alloc (.cells #[.int .i64 x.kind, .slice A2 x.set.length q2, .slice K2 x.kids.length d2] TRx) := ⟨_, rfl⟩
      have HBB : Hid (Below wr.heap.size wr wb) := by rw [hwb]; exact below_alloc (Below.refl _ _) _
      have MX : Hid (Blk wb wr.heap.size #[.int .i64 x.kind, .slice A2 x.set.length q2, .slice K2 x.kids.length d2] TRx) := by rw [hwb]; exact blk_new wr _ _
      have hzb : wr.heap.size < wb.heap.size := by rw [hwb]; simp
      replace hwb := hwb.symm
      have y0 : wb.cell? ⟨wr.heap.size, 0, none⟩ = some (.int .i64 x.kind) := by rw [MX.out.cell]; rfl
      have y1 : wb.cell? ⟨wr.heap.size, 1, none⟩ = some (.slice A2 x.set.length q2) := by rw [MX.out.cell]; rfl
      have y2 : wb.cell? ⟨wr.heap.size, 2, none⟩ = some (.slice K2 x.kids.length d2) := by rw [MX.out.cell]; rfl
      have hwz := HB.out.size
      have WB : Hid (Below wa.heap.size wa wb) := Lib.hid (below_then HW.out HBB.out)
      have IHC : Hid (Calls Tryz.prog 58 #[.agg #[.int .i64 x.kind, .slice A2 x.set.length q2, .slice K2 x.kids.length d2]] wb (RexPost p (nrm x) wb)) := IHX.out _ _ wb p WX.out (HX.out.under WB.out) (fun z hz => by have := HP.out z hz; omega) (by omega) (HPW.out.below (below_then HB.out WB.out))
      have HOW : Hid (wr.ownsRow wa.heap.size TRx 3 (.slice A3 j c3) j (kcells ((r.kids.take j).map nrm) L3)) := by have := HO.out.own; rw [List.length_map, List.length_take, ← HN.out, Nat.min_eq_left (by omega)] at this; exact this
      have HL : Hid (((r.kids.take j).map nrm).length = j) := by show _ = _; rw [List.length_map, List.length_take, ← HN.out]; omega
      have i0 : (0 : Int) ≤ (j : Int) := by omega
      have i1' : (j : Int) < (n : Int) := by omega
      have hn1 : j + 1 ≤ maxLen := by unfold maxLen; omega
      have ET : Hid ((r.kids.take (j + 1)).map nrm = (r.kids.take j).map nrm ++ [nrm x]) := by show _ = _; rw [takeSnoc EX.out, List.map_append]; rfl
      obtain ⟨T, hT⟩ : ∃ z, z = nrm x := ⟨_, rfl⟩
      rw [← hT] at IHC ET
      clear e0 e1 e2 hxm hT
      go_wp2_with (first
        | ((with_reducible refine IHC.out.mono ?_); rintro e w5 ⟨A5, c5, K5, k5, rfl, hv5, b5⟩; have W5 := Lib.hid (below_then HBB.out b5); have HV5 := Lib.hid hv5; clear hv5 b5)
        | (at_builtin; refine wpList_append_row (by rfl) (.tmp 13) (.tmp 16) 24 (by rfl) wa.heap.size TRx i1 (.agg #[.int .i64 0, nilS, nilS]) 3 56 Tryz.underlying24 hi hz0 hza hz2 rfl (by decide) (.slice A3 j c3) j (kcells ((r.kids.take j).map nrm) L3) (by rfl) (own_below (own_below HOW.out W5.out) (below_alloc (Below.refl _ _) _)) (some ⟨w5.heap.size, 0, none⟩) 1 1 [.int .i64 T.kind, .slice A5 T.set.length c5, .slice K5 T.kids.length k5] (by rfl) (.inr ⟨⟨w5.heap.size, 0, none⟩, rfl, Nat.zero_le _, new_cells w5 [.int .i64 T.kind, .slice A5 T.set.length c5, .slice K5 T.kids.length k5] TRx⟩) rfl (three_one _ _ _ _ _ _ _) hn1 (by omega) (by have := W5.out.size; simp; omega) _ rfl (j + 1) rfl ?_; intro A6 c6 w6 hown hgrow hat; have HE := Lib.hid hown; have HGR := Lib.hid hgrow; have HAT := Lib.hid hat; clear hown hgrow hat)
        | fail)
      go_roundg (gk - 1)
      case measure => omega
      case rel =>
        have hba := below_alloc (Below.refl w5.heap.size w5) (.cells #[.int .i64 T.kind, .slice A5 T.set.length c5, .slice K5 T.kids.length k5] 26)
        have h5z := W5.out.size
        refine ⟨j + 1, c6, A6, L3 ++ [⟨[], .slice A5 T.set.length c5, .slice K5 T.kids.length k5⟩], by go_num, by omega, rfl, ?_, ?_⟩
        · rw [ET.out]
          exact (HO.out.under W5.out).snoc (w1 := w5.alloc (.cells #[.int .i64 T.kind, .slice A5 T.set.length c5, .slice K5 T.kids.length k5] TRx)) (w' := w6) (v' := .slice A6 (j + 1) c6) (HV5.out.mono fun z hz => by
            have hv : z ∈ vblk (.slice A3 j c3) → wa.heap.size ≤ z ∧ z < wr.heap.size := fun h => own_vlt HO.out.own z h
            rcases hz with h | h
            · exact ⟨.inl h, fun h' => by have := HP.out z h; have := (hv h').1; omega⟩
            · exact ⟨.inr (by omega), fun h' => by have := (hv h').2; omega⟩) hba (by rw [HL.out]; exact HE.out) HGR.out (fun b hb => HAT.out b hb) (by rw [HL.out]; unfold maxN; omega) []
        · exact HW.out.grown (grown_thn (grown_blw (below_then W5.out hba)) HGR.out) HW.out.size fun q hq => (own_base HOW.out q hq).1
    · obtain rfl : n = j := by omega
      have j1 : ¬ (n : Int) < (n : Int) := by omega
      have hwf := HWF.out
      have W0 : wr.cell? ⟨w.heap.size, 0, none⟩ = some (.int .i64 r.kind) := by rw [(M0.out.below HW.out).cell]; rfl
      clear IH
      by_cases q3 : r.kind = 3
      · obtain ⟨x, y, ex, wx, wy⟩ := wf_kids2 hwf (by omega)
        have ekids : r.kids = [x, y] := by rw [ex]; rfl
        have hm2 : r.many = x.many + y.many + 1 := by rw [ex]; exact two_many _ x y
        have E : Hid (nrm r = nCat (nrm x) (nrm y)) := by show _ = _; rw [ex, q3]; exact nrm_cat [] x y
        have FX := Lib.hid (nrm_fit x wx)
        have FY := Lib.hid (nrm_fit y wy)
        have HM2 := Lib.hid hm2
        obtain rfl : n = 2 := by rw [HN.out, ekids]; rfl
        have EK : (r.kids.take 2).map nrm = [nrm x, nrm y] := by rw [ekids]; rfl
        rw [EK] at HO
        obtain ⟨g', cap', X, A5, c5, K5, k5, ev, eX, _, hX, x0, x1, x2⟩ := HO.out.at_ 0 (by simp)
        obtain ⟨g2, cap2, Y, A6, c6, K6, k6, ev2, eY, _, hY, y0, y1, y2⟩ := HO.out.at_ 1 (by simp)
        obtain rfl : nrm x = X := by simpa using eX
        obtain rfl : nrm y = Y := by simpa using eY
        injection ev with ev1 ev4 ev5
        subst ev1
        injection ev2 with ev3 ev6 ev7
        clear ev4 ev5 ev6 ev7
        injection ev3 with ev3
        injection ev3 with ev3
        subst ev3
        simp only [Nat.zero_mul, Nat.zero_add, Nat.one_mul] at x0 x1 x2 y0 y1 y2
        have HXn := Lib.hid ((hX.mono (p' := fun z => p z ∨ wa.heap.size ≤ z) fun b hb => hb.1).lt)
        have HYn := Lib.hid ((hY.mono (p' := fun z => p z ∨ wa.heap.size ≤ z) fun b hb => hb.1).lt)
        have OC : Hid (Calls Tryz.prog 68 #[.agg #[.int .i64 (nrm x).kind, .slice A5 (nrm x).set.length c5, .slice K5 (nrm x).kids.length k5], .agg #[.int .i64 (nrm y).kind, .slice A6 (nrm y).set.length c6, .slice K6 (nrm y).kids.length k6]] wr.drew (RexPost (fun z => (p z ∨ wa.heap.size ≤ z) ∧ z < wr.heap.size) (nCat (nrm x) (nrm y)) wr.drew)) := Lib.hid (iCat_r (nrm x) (nrm y) _ _ _ _ wr.drew _ FX.out.wf FY.out.wf (HXn.out.under (below_drew (Below.refl _ _))) (HYn.out.under (below_drew (Below.refl _ _))) (fun z hz => Nat.lt_of_lt_of_le hz.2 (below_drew (Below.refl wr.heap.size wr)).size) (size_many (m := 0) FX.out.wf (by have := FX.out.many; have := HM2.out; omega)) (size_many (m := 0) FY.out.wf (by have := FY.out.many; have := HM2.out; omega)) (by have := FX.out.many; have := FY.out.many; have := HM2.out; omega) (HPW.out.below (below_then (below_then HB.out HW.out) (below_drew (Below.refl _ _)))))
        obtain ⟨T, hT⟩ : ∃ z, z = nCat (nrm x) (nrm y) := ⟨_, rfl⟩
        rw [← hT] at OC E
        have MR := Lib.hid (M1.out.below (below_then HW.out (below_drew (Below.refl _ _))))
        have hdz := (below_drew (Below.refl wr.heap.size wr)).size
        have hwz := HB.out.size
        have hwr := HW.out.size
        clear ex ekids hm2 wx wy hwf EK eX eY hX hY hT
        have d3 : (r.kind == 3) = true := by simp [q3]
        clear q3
        go_wp2_with fail
        go_still_tail 6, (by kernel_rfl)
        go_wp2_with (first
          | ((with_reducible refine OC.out.mono ?_); rintro e w6 ⟨A7, c7, K7, k7, rfl, hv7, b7⟩; have B7 := Lib.hid (below_then HW.out (below_then (below_drew (Below.refl wr.heap.size wr)) b7)); have HV7 := Lib.hid hv7; have M7 := Lib.hid (MR.out.below b7); clear hv7 b7)
          | ((with_reducible refine at_st 2 29 ?_); refine ev_store (o := ⟨none, .store _ (.tmp 2) _, _, _, _, _⟩) rfl rfl TRx (.tmp 2) (.tmp 29) rfl (w.heap.size + 1) 0 rfl [.int .i64 T.kind, .slice A7 T.set.length c7, .slice K7 T.kids.length k7] rfl _ TRx M7.out (sizeRx' _ _ _) (by show 0 + 3 ≤ 3; omega) (three_one _ _ _ _ _ _ _) ?_; intro w5 hX5 hg5; have HX5 : Hid (Blk w5 (w.heap.size + 1) ([.int .i64 T.kind, .slice A7 T.set.length c7, .slice K7 T.kids.length k7]).toArray TRx) := hX5; have HG5 := Lib.hid hg5; clear hX5 hg5)
          | fail)
        refine bodyPost_ret (results_cell_row rfl _ _ (w.heap.size + 1) TRx _ (0, 0) _ rfl HX5.out.eq Tryz.underlying26 rfl (by rw [sizeRx]; rfl)) rfl ?_
        rw [E.out]
        exact rex_fin rfl rfl HP.out (HV7.out.mono fun z hz => by
          have h0 := HZ.out
          rcases hz with ⟨h | h, _⟩ | h
          · exact ⟨fun e => by have := HP.out z h; omega, .inl h⟩
          · exact ⟨by omega, .inr (by omega)⟩
          · exact ⟨by omega, .inr (by omega)⟩) (below_then HB.out B7.out) HG5.out (by omega)
      by_cases q4 : r.kind = 4
      · obtain ⟨x, y, ex, wx, wy⟩ := wf_kids2 hwf (by omega)
        have ekids : r.kids = [x, y] := by rw [ex]; rfl
        have hm2 : r.many = x.many + y.many + 1 := by rw [ex]; exact two_many _ x y
        have E : Hid (nrm r = nOr (nrm x) (nrm y)) := by show _ = _; rw [ex, q4]; exact nrm_or [] x y
        have FX := Lib.hid (nrm_fit x wx)
        have FY := Lib.hid (nrm_fit y wy)
        have HM2 := Lib.hid hm2
        obtain rfl : n = 2 := by rw [HN.out, ekids]; rfl
        have EK : (r.kids.take 2).map nrm = [nrm x, nrm y] := by rw [ekids]; rfl
        rw [EK] at HO
        obtain ⟨g', cap', X, A5, c5, K5, k5, ev, eX, _, hX, x0, x1, x2⟩ := HO.out.at_ 0 (by simp)
        obtain ⟨g2, cap2, Y, A6, c6, K6, k6, ev2, eY, _, hY, y0, y1, y2⟩ := HO.out.at_ 1 (by simp)
        obtain rfl : nrm x = X := by simpa using eX
        obtain rfl : nrm y = Y := by simpa using eY
        injection ev with ev1 ev4 ev5
        subst ev1
        injection ev2 with ev3 ev6 ev7
        clear ev4 ev5 ev6 ev7
        injection ev3 with ev3
        injection ev3 with ev3
        subst ev3
        simp only [Nat.zero_mul, Nat.zero_add, Nat.one_mul] at x0 x1 x2 y0 y1 y2
        have HXn := Lib.hid ((hX.mono (p' := fun z => p z ∨ wa.heap.size ≤ z) fun b hb => hb.1).lt)
        have HYn := Lib.hid ((hY.mono (p' := fun z => p z ∨ wa.heap.size ≤ z) fun b hb => hb.1).lt)
        have OC : Hid (Calls Tryz.prog 67 #[.agg #[.int .i64 (nrm x).kind, .slice A5 (nrm x).set.length c5, .slice K5 (nrm x).kids.length k5], .agg #[.int .i64 (nrm y).kind, .slice A6 (nrm y).set.length c6, .slice K6 (nrm y).kids.length k6]] wr.drew (RexPost (fun z => (p z ∨ wa.heap.size ≤ z) ∧ z < wr.heap.size) (nOr (nrm x) (nrm y)) wr.drew)) := Lib.hid (iOr_c (nrm x) (nrm y) _ _ _ _ wr.drew _ FX.out.wf FY.out.wf (HXn.out.under (below_drew (Below.refl _ _))) (HYn.out.under (below_drew (Below.refl _ _))) (fun z hz => Nat.lt_of_lt_of_le hz.2 (below_drew (Below.refl wr.heap.size wr)).size) (size_many (m := 0) FX.out.wf (by have := FX.out.many; have := HM2.out; omega)) (size_many (m := 0) FY.out.wf (by have := FY.out.many; have := HM2.out; omega)) (by have := FX.out.many; have := FY.out.many; have := HM2.out; omega) (HPW.out.below (below_then (below_then HB.out HW.out) (below_drew (Below.refl _ _)))))
        obtain ⟨T, hT⟩ : ∃ z, z = nOr (nrm x) (nrm y) := ⟨_, rfl⟩
        rw [← hT] at OC E
        have MR := Lib.hid (M1.out.below (below_then HW.out (below_drew (Below.refl _ _))))
        have hdz := (below_drew (Below.refl wr.heap.size wr)).size
        have hwz := HB.out.size
        have hwr := HW.out.size
        clear ex ekids hm2 wx wy hwf EK eX eY hX hY hT
        have d3 : (r.kind == 3) = false := by simp [q4]
        have d4 : (r.kind == 4) = true := by simp [q4]
        clear q3 q4
        go_wp2_with fail
        go_still_tail 6, (by kernel_rfl)
        go_wp2_with (first
          | ((with_reducible refine OC.out.mono ?_); rintro e w6 ⟨A7, c7, K7, k7, rfl, hv7, b7⟩; have B7 := Lib.hid (below_then HW.out (below_then (below_drew (Below.refl wr.heap.size wr)) b7)); have HV7 := Lib.hid hv7; have M7 := Lib.hid (MR.out.below b7); clear hv7 b7)
          | ((with_reducible refine at_st 2 38 ?_); refine ev_store (o := ⟨none, .store _ (.tmp 2) _, _, _, _, _⟩) rfl rfl TRx (.tmp 2) (.tmp 38) rfl (w.heap.size + 1) 0 rfl [.int .i64 T.kind, .slice A7 T.set.length c7, .slice K7 T.kids.length k7] rfl _ TRx M7.out (sizeRx' _ _ _) (by show 0 + 3 ≤ 3; omega) (three_one _ _ _ _ _ _ _) ?_; intro w5 hX5 hg5; have HX5 : Hid (Blk w5 (w.heap.size + 1) ([.int .i64 T.kind, .slice A7 T.set.length c7, .slice K7 T.kids.length k7]).toArray TRx) := hX5; have HG5 := Lib.hid hg5; clear hX5 hg5)
          | fail)
        refine bodyPost_ret (results_cell_row rfl _ _ (w.heap.size + 1) TRx _ (0, 0) _ rfl HX5.out.eq Tryz.underlying26 rfl (by rw [sizeRx]; rfl)) rfl ?_
        rw [E.out]
        exact rex_fin rfl rfl HP.out (HV7.out.mono fun z hz => by
          have h0 := HZ.out
          rcases hz with ⟨h | h, _⟩ | h
          · exact ⟨fun e => by have := HP.out z h; omega, .inl h⟩
          · exact ⟨by omega, .inr (by omega)⟩
          · exact ⟨by omega, .inr (by omega)⟩) (below_then HB.out B7.out) HG5.out (by omega)
      by_cases q6 : r.kind = 6
      · obtain ⟨x, y, ex, wx, wy⟩ := wf_kids2 hwf (by omega)
        have ekids : r.kids = [x, y] := by rw [ex]; rfl
        have hm2 : r.many = x.many + y.many + 1 := by rw [ex]; exact two_many _ x y
        have E : Hid (nrm r = nAnd (nrm x) (nrm y)) := by show _ = _; rw [ex, q6]; exact nrm_and [] x y
        have FX := Lib.hid (nrm_fit x wx)
        have FY := Lib.hid (nrm_fit y wy)
        have HM2 := Lib.hid hm2
        obtain rfl : n = 2 := by rw [HN.out, ekids]; rfl
        have EK : (r.kids.take 2).map nrm = [nrm x, nrm y] := by rw [ekids]; rfl
        rw [EK] at HO
        obtain ⟨g', cap', X, A5, c5, K5, k5, ev, eX, _, hX, x0, x1, x2⟩ := HO.out.at_ 0 (by simp)
        obtain ⟨g2, cap2, Y, A6, c6, K6, k6, ev2, eY, _, hY, y0, y1, y2⟩ := HO.out.at_ 1 (by simp)
        obtain rfl : nrm x = X := by simpa using eX
        obtain rfl : nrm y = Y := by simpa using eY
        injection ev with ev1 ev4 ev5
        subst ev1
        injection ev2 with ev3 ev6 ev7
        clear ev4 ev5 ev6 ev7
        injection ev3 with ev3
        injection ev3 with ev3
        subst ev3
        simp only [Nat.zero_mul, Nat.zero_add, Nat.one_mul] at x0 x1 x2 y0 y1 y2
        have HXn := Lib.hid ((hX.mono (p' := fun z => p z ∨ wa.heap.size ≤ z) fun b hb => hb.1).lt)
        have HYn := Lib.hid ((hY.mono (p' := fun z => p z ∨ wa.heap.size ≤ z) fun b hb => hb.1).lt)
        have OC : Hid (Calls Tryz.prog 98 #[.agg #[.int .i64 (nrm x).kind, .slice A5 (nrm x).set.length c5, .slice K5 (nrm x).kids.length k5], .agg #[.int .i64 (nrm y).kind, .slice A6 (nrm y).set.length c6, .slice K6 (nrm y).kids.length k6]] wr.drew (RexPost (fun z => (p z ∨ wa.heap.size ≤ z) ∧ z < wr.heap.size) (nAnd (nrm x) (nrm y)) wr.drew)) := Lib.hid (iAnd_c (nrm x) (nrm y) _ _ _ _ wr.drew _ FX.out.wf FY.out.wf (HXn.out.under (below_drew (Below.refl _ _))) (HYn.out.under (below_drew (Below.refl _ _))) (fun z hz => Nat.lt_of_lt_of_le hz.2 (below_drew (Below.refl wr.heap.size wr)).size) (size_many (m := 0) FX.out.wf (by have := FX.out.many; have := HM2.out; omega)) (size_many (m := 0) FY.out.wf (by have := FY.out.many; have := HM2.out; omega)) (by have := FX.out.many; have := FY.out.many; have := HM2.out; omega) (HPW.out.below (below_then (below_then HB.out HW.out) (below_drew (Below.refl _ _)))))
        obtain ⟨T, hT⟩ : ∃ z, z = nAnd (nrm x) (nrm y) := ⟨_, rfl⟩
        rw [← hT] at OC E
        have MR := Lib.hid (M1.out.below (below_then HW.out (below_drew (Below.refl _ _))))
        have hdz := (below_drew (Below.refl wr.heap.size wr)).size
        have hwz := HB.out.size
        have hwr := HW.out.size
        clear ex ekids hm2 wx wy hwf EK eX eY hX hY hT
        have d3 : (r.kind == 3) = false := by simp [q6]
        have d4 : (r.kind == 4) = false := by simp [q6]
        have d6 : (r.kind == 6) = true := by simp [q6]
        clear q3 q4 q6
        go_wp2_with fail
        go_still_tail 6, (by kernel_rfl)
        go_wp2_with (first
          | ((with_reducible refine OC.out.mono ?_); rintro e w6 ⟨A7, c7, K7, k7, rfl, hv7, b7⟩; have B7 := Lib.hid (below_then HW.out (below_then (below_drew (Below.refl wr.heap.size wr)) b7)); have HV7 := Lib.hid hv7; have M7 := Lib.hid (MR.out.below b7); clear hv7 b7)
          | ((with_reducible refine at_st 2 47 ?_); refine ev_store (o := ⟨none, .store _ (.tmp 2) _, _, _, _, _⟩) rfl rfl TRx (.tmp 2) (.tmp 47) rfl (w.heap.size + 1) 0 rfl [.int .i64 T.kind, .slice A7 T.set.length c7, .slice K7 T.kids.length k7] rfl _ TRx M7.out (sizeRx' _ _ _) (by show 0 + 3 ≤ 3; omega) (three_one _ _ _ _ _ _ _) ?_; intro w5 hX5 hg5; have HX5 : Hid (Blk w5 (w.heap.size + 1) ([.int .i64 T.kind, .slice A7 T.set.length c7, .slice K7 T.kids.length k7]).toArray TRx) := hX5; have HG5 := Lib.hid hg5; clear hX5 hg5)
          | fail)
        refine bodyPost_ret (results_cell_row rfl _ _ (w.heap.size + 1) TRx _ (0, 0) _ rfl HX5.out.eq Tryz.underlying26 rfl (by rw [sizeRx]; rfl)) rfl ?_
        rw [E.out]
        exact rex_fin rfl rfl HP.out (HV7.out.mono fun z hz => by
          have h0 := HZ.out
          rcases hz with ⟨h | h, _⟩ | h
          · exact ⟨fun e => by have := HP.out z h; omega, .inl h⟩
          · exact ⟨by omega, .inr (by omega)⟩
          · exact ⟨by omega, .inr (by omega)⟩) (below_then HB.out B7.out) HG5.out (by omega)
      by_cases q5 : r.kind = 5
      · obtain ⟨x, ex, wx⟩ := wf_kids1 hwf (by omega)
        have ekids : r.kids = [x] := by rw [ex]; rfl
        have E : Hid (nrm r = nStar (nrm x)) := by show _ = _; rw [ex, q5]; exact nrm_star [] x
        have FX := Lib.hid (nrm_fit x wx)
        obtain rfl : n = 1 := by rw [HN.out, ekids]; rfl
        have EK : (r.kids.take 1).map nrm = [nrm x] := by rw [ekids]; rfl
        rw [EK] at HO
        obtain ⟨g', cap', X, A5, c5, K5, k5, ev, eX, _, hX, x0, x1, x2⟩ := HO.out.at_ 0 (by simp)
        obtain rfl : nrm x = X := by simpa using eX
        injection ev with ev1 ev2 ev3
        subst ev1
        clear ev2 ev3
        simp only [Nat.zero_mul, Nat.zero_add] at x0 x1 x2
        have HXn := Lib.hid ((hX.mono (p' := fun z => p z ∨ wa.heap.size ≤ z) fun b hb => hb.1).lt)
        have MR := Lib.hid (M1.out.below HW.out)
        have hwz := HB.out.size
        have hwr := HW.out.size
        clear ex ekids wx hwf EK eX hX hqj hk2
        have d3 : (r.kind == 3) = false := by simp [q5]
        have d4 : (r.kind == 4) = false := by simp [q5]
        have d6 : (r.kind == 6) = false := by simp [q5]
        have d5 : (r.kind == 5) = true := by simp [q5]
        clear q3 q4 q6 q5
        have OC : Hid (Calls Tryz.prog 99 #[.agg #[.int .i64 (nrm x).kind, .slice A5 (nrm x).set.length c5, .slice K5 (nrm x).kids.length k5]] wr (RexPost (fun z => (p z ∨ wa.heap.size ≤ z) ∧ z < wr.heap.size) (nStar (nrm x)) wr)) := Lib.hid (iStar_c (nrm x) _ _ wr _ HXn.out (fun z hz => hz.2))
        obtain ⟨T, hT⟩ : ∃ z, z = nStar (nrm x) := ⟨_, rfl⟩
        rw [← hT] at OC E
        clear hT hj hwr hwz
        go_wp2_with (first
          | ((with_reducible refine OC.out.mono ?_); rintro e w6 ⟨A7, c7, K7, k7, rfl, hv7, b7⟩; have B7 := Lib.hid (below_then HW.out b7); have HV7 := Lib.hid hv7; have M7 := Lib.hid (MR.out.below b7); clear hv7 b7)
          | ((with_reducible refine at_st 2 53 ?_); refine ev_store (o := ⟨none, .store _ (.tmp 2) _, _, _, _, _⟩) rfl rfl TRx (.tmp 2) (.tmp 53) rfl (w.heap.size + 1) 0 rfl [.int .i64 T.kind, .slice A7 T.set.length c7, .slice K7 T.kids.length k7] rfl _ TRx M7.out (sizeRx' _ _ _) (by show 0 + 3 ≤ 3; omega) (three_one _ _ _ _ _ _ _) ?_; intro w5 hX5 hg5; have HX5 : Hid (Blk w5 (w.heap.size + 1) ([.int .i64 T.kind, .slice A7 T.set.length c7, .slice K7 T.kids.length k7]).toArray TRx) := hX5; have HG5 := Lib.hid hg5; clear hX5 hg5)
          | fail)
        refine bodyPost_ret (results_cell_row rfl _ _ (w.heap.size + 1) TRx _ (0, 0) _ rfl HX5.out.eq Tryz.underlying26 rfl (by rw [sizeRx]; rfl)) rfl ?_
        rw [E.out]
        exact rex_fin rfl rfl HP.out (HV7.out.mono fun z hz => by
          have h0 := HZ.out
          rcases hz with ⟨h | h, _⟩ | h
          · exact ⟨fun e => by have := HP.out z h; omega, .inl h⟩
          · exact ⟨by omega, .inr (by omega)⟩
          · exact ⟨by omega, .inr (by omega)⟩) (below_then HB.out B7.out) HG5.out (by omega)
      by_cases q7 : r.kind = 7
      · obtain ⟨x, ex, wx⟩ := wf_kids1 hwf (by omega)
        have ekids : r.kids = [x] := by rw [ex]; rfl
        have E : Hid (nrm r = nNot (nrm x)) := by show _ = _; rw [ex, q7]; exact nrm_not [] x
        have FX := Lib.hid (nrm_fit x wx)
        obtain rfl : n = 1 := by rw [HN.out, ekids]; rfl
        have EK : (r.kids.take 1).map nrm = [nrm x] := by rw [ekids]; rfl
        rw [EK] at HO
        obtain ⟨g', cap', X, A5, c5, K5, k5, ev, eX, _, hX, x0, x1, x2⟩ := HO.out.at_ 0 (by simp)
        obtain rfl : nrm x = X := by simpa using eX
        injection ev with ev1 ev2 ev3
        subst ev1
        clear ev2 ev3
        simp only [Nat.zero_mul, Nat.zero_add] at x0 x1 x2
        have HXn := Lib.hid ((hX.mono (p' := fun z => p z ∨ wa.heap.size ≤ z) fun b hb => hb.1).lt)
        have MR := Lib.hid (M1.out.below HW.out)
        have hwz := HB.out.size
        have hwr := HW.out.size
        clear ex ekids wx hwf EK eX hX hqj hk2
        obtain ⟨dn, hdn⟩ := FX.out.wf
        have HDN := Lib.hid hdn
        have d3 : (r.kind == 3) = false := by simp [q7]
        have d4 : (r.kind == 4) = false := by simp [q7]
        have d6 : (r.kind == 6) = false := by simp [q7]
        have d5 : (r.kind == 5) = false := by simp [q7]
        have d7 : (r.kind == 7) = true := by simp [q7]
        clear q3 q4 q6 q5 q7 hdn
        have OC : Hid (Calls Tryz.prog 66 #[.agg #[.int .i64 (nrm x).kind, .slice A5 (nrm x).set.length c5, .slice K5 (nrm x).kids.length k5]] wr (RexPost (fun z => (p z ∨ wa.heap.size ≤ z) ∧ z < wr.heap.size) (nNot (nrm x)) wr)) := Lib.hid (iNot_c (nrm x) dn _ _ wr _ HDN.out HXn.out (fun z hz => hz.2))
        obtain ⟨T, hT⟩ : ∃ z, z = nNot (nrm x) := ⟨_, rfl⟩
        rw [← hT] at OC E
        clear hT hj hwr hwz
        go_wp2_with (first
          | ((with_reducible refine OC.out.mono ?_); rintro e w6 ⟨A7, c7, K7, k7, rfl, hv7, b7⟩; have B7 := Lib.hid (below_then HW.out b7); have HV7 := Lib.hid hv7; have M7 := Lib.hid (MR.out.below b7); clear hv7 b7)
          | ((with_reducible refine at_st 2 59 ?_); refine ev_store (o := ⟨none, .store _ (.tmp 2) _, _, _, _, _⟩) rfl rfl TRx (.tmp 2) (.tmp 59) rfl (w.heap.size + 1) 0 rfl [.int .i64 T.kind, .slice A7 T.set.length c7, .slice K7 T.kids.length k7] rfl _ TRx M7.out (sizeRx' _ _ _) (by show 0 + 3 ≤ 3; omega) (three_one _ _ _ _ _ _ _) ?_; intro w5 hX5 hg5; have HX5 : Hid (Blk w5 (w.heap.size + 1) ([.int .i64 T.kind, .slice A7 T.set.length c7, .slice K7 T.kids.length k7]).toArray TRx) := hX5; have HG5 := Lib.hid hg5; clear hX5 hg5)
          | fail)
        refine bodyPost_ret (results_cell_row rfl _ _ (w.heap.size + 1) TRx _ (0, 0) _ rfl HX5.out.eq Tryz.underlying26 rfl (by rw [sizeRx]; rfl)) rfl ?_
        rw [E.out]
        exact rex_fin rfl rfl HP.out (HV7.out.mono fun z hz => by
          have h0 := HZ.out
          rcases hz with ⟨h | h, _⟩ | h
          · exact ⟨fun e => by have := HP.out z h; omega, .inl h⟩
          · exact ⟨by omega, .inr (by omega)⟩
          · exact ⟨by omega, .inr (by omega)⟩) (below_then HB.out B7.out) HG5.out (by omega)
      · have hlf : r.kind = 1 ∨ r.kind = 2 := by rcases wf_kind hwf with h | h | h | h | h | h | h <;> omega
        have E : Hid (nrm r = r) := nrm_leaf hlf
        have d3 : (r.kind == 3) = false := by simp [q3]
        have d4 : (r.kind == 4) = false := by simp [q4]
        have d6 : (r.kind == 6) = false := by simp [q6]
        have d5 : (r.kind == 5) = false := by simp [q5]
        have d7 : (r.kind == 7) = false := by simp [q7]
        have W1 : wr.cell? ⟨w.heap.size, 1, none⟩ = some (.slice A r.set.length c) := by rw [(M0.out.below HW.out).cell]; rfl
        have W2 : wr.cell? ⟨w.heap.size, 2, none⟩ = some (.slice K r.kids.length ck) := by rw [(M0.out.below HW.out).cell]; rfl
        have MR := Lib.hid (M1.out.below HW.out)
        clear q3 q4 q6 q5 q7 hlf
        go_wp2_with ((with_reducible refine at_st 2 60 ?_); refine ev_store (o := ⟨none, .store _ (.tmp 2) _, _, _, _, _⟩) rfl rfl TRx (.tmp 2) (.tmp 60) rfl (w.heap.size + 1) 0 rfl [.int .i64 r.kind, .slice A r.set.length c, .slice K r.kids.length ck] rfl _ TRx MR.out (sizeRx' _ _ _) (by show 0 + 3 ≤ 3; omega) (three_one _ _ _ _ _ _ _) ?_; intro w5 hX5 hg5; have HX5 : Hid (Blk w5 (w.heap.size + 1) ([.int .i64 r.kind, .slice A r.set.length c, .slice K r.kids.length ck]).toArray TRx) := hX5; have HG5 := Lib.hid hg5; clear hX5 hg5)
        refine bodyPost_ret (results_cell_row rfl _ _ (w.heap.size + 1) TRx _ (0, 0) _ rfl HX5.out.eq Tryz.underlying26 rfl (by rw [sizeRx]; rfl)) rfl ?_
        rw [E.out]
        exact rex_fin rfl rfl HP.out ((HV.out.under HW.out).mono fun z hz => ⟨fun e => by have := HP.out z hz; omega, .inl hz⟩) (below_then HB.out HW.out) HG5.out (by omega)
end Go.Proofs.YtfeidjjabjejiaaGreatDoor

/- rexCopy: a tree in new memory. -/
namespace Go.Proofs.YtfeidjjabjejiaaGreatDoor
set_option linter.unusedSimpArgs false
set_option linter.unusedVariables false
set_option maxRecDepth 100000
open Go.RowKit

set_option maxHeartbeats 4000000 in
theorem rexCopy_c (r : Rex) : CopyOk r := by
  refine Rex.ind (p := CopyOk) (fun k s ks ih => ?_) r
  intro v1 v2 w lo h hsz
  obtain ⟨A, c, K, ck, _, rfl, rfl, hs, hk⟩ := h.parts
  dsimp only [Rex.kind, Rex.set, Rex.kids] at hs hk ⊢
  rw [Rex.size] at hsz
  clear h
  obtain ⟨wa, hwa⟩ : ∃ x, x = (w.alloc (.cells #[.int .i64 k, .slice A s.length c, .slice K ks.length ck] TRx)).alloc (.cells #[.int .i64 0, nilS, nilS] TRx) := ⟨_, rfl⟩
  have hb : Below w.heap.size w wa := by rw [hwa]; exact below_alloc (below_alloc (Below.refl _ _) _) _
  have m0 : Blk wa w.heap.size #[.int .i64 k, .slice A s.length c, .slice K ks.length ck] TRx := by rw [hwa]; exact (blk_new w _ _).alloc _
  have m1 : Blk wa (w.heap.size + 1) #[.int .i64 0, nilS, nilS] TRx := by
    rw [hwa]
    have := blk_new (w.alloc (.cells #[.int .i64 k, .slice A s.length c, .slice K ks.length ck] TRx)) #[.int .i64 0, nilS, nilS] TRx
    simpa using this
  have hz1 : w.heap.size + 1 < wa.heap.size := m1.lt
  replace hwa := hwa.symm
  obtain ⟨cs, hcs⟩ := (hk.below hb).krow
  have HB := Lib.hid hb
  have M0 := Lib.hid m0
  have M1 := Lib.hid m1
  have HS := Lib.hid (hs.below hb)
  have HC := Lib.hid hcs
  clear hb m0 m1 hs hk hcs
  have HM : Hid (∀ w', Below wa.heap.size wa w' → w'.cell? ⟨w.heap.size, 0, none⟩ = some (.int .i64 k) ∧ w'.cell? ⟨w.heap.size, 1, none⟩ = some (.slice A s.length c) ∧ w'.cell? ⟨w.heap.size, 2, none⟩ = some (.slice K ks.length ck)) := fun w' hb =>
    ⟨by rw [(M0.out.below hb).cell]; rfl, by rw [(M0.out.below hb).cell]; rfl, by rw [(M0.out.below hb).cell]; rfl⟩
  go_enter Tryz.func56, Tryz.ntmps56
  go_upto_region 1 with fail
  clear hwa
  go_cut [3] (fun s3 wx => CopyMidP wa k s ks.length cs s3 wx)
  case first =>
    go_region_held3 (fun w' => Below wa.heap.size wa w' ∧ w'.cell? ⟨w.heap.size, 0, none⟩ = some (.int .i64 k) ∧ w'.cell? ⟨w.heap.size, 1, none⟩ = some (.slice A s.length c) ∧ w'.cell? ⟨w.heap.size, 2, none⟩ = some (.slice K ks.length ck))
      ((refine (fun h => ⟨h, HM.out _ h⟩ : Below wa.heap.size wa _ → _) ?_; (repeat (first | exact BB.out | exact BA.out | exact Below.refl _ _ | exact below_drew (Below.refl _ _) | refine below_alloc ?_ _ | refine below_drew ?_ | refine below_set ?_ (by first | exact Nat.le_refl _ | exact BA.out.size | exact BB.out.size) _))))
      (first
        | (go_at_call 107; refine (copiedSpan_c A c s.length (spcs s) _ (HS.out.below (by first | exact below_drew (Below.refl _ _) | exact below_alloc (below_drew (Below.refl _ _)) _)).row (spcs_length _) (spcs_one _) (by omega)).mono ?_; rintro e wA ⟨vS, rfl, oS, bS⟩; obtain ⟨A1, c1, rfl, _, _⟩ := own_row oS; have BA : Hid (Below wa.heap.size wa wA) := below_then (by first | exact below_drew (Below.refl _ _) | exact below_alloc (below_drew (Below.refl _ _)) _) bS; have OS := Lib.hid oS; have BS := Lib.hid bS; (first | have ZA := Lib.hid ((show Blk (wa.drew.alloc (.cells #[.int .i64 0, nilS, nilS] TRx)) wa.heap.size #[.int .i64 0, nilS, nilS] TRx from blk_new wa.drew _ _).below bS) | skip); clear oS bS)
        | (go_at_call 108; refine (copiedRex_c K ck ks.length cs _ (HC.out.row.below (by first | exact BA.out | exact below_alloc BA.out _)) HC.out.len HC.out.one (by omega)).mono ?_; rintro e wB ⟨vK, rfl, oK, bK⟩; obtain ⟨K1, k1, rfl, _, _⟩ := own_row oK; have BB : Hid (Below wa.heap.size wa wB) := below_then (by first | exact BA.out | exact below_alloc BA.out _) bK; have OK := Lib.hid oK; have BK := Lib.hid bK; (first | have Z := ZA.out.below bK | have Z := (blk_new wA #[.int .i64 0, nilS, nilS] TRx).below bK | skip); (first | (have z0 := (Z.cell 0).trans rfl; have z1 := (Z.cell 1).trans rfl; have z2 := (Z.cell 2).trans rfl; have f0 := Z.free 0; have f1 := Z.free 1; have f2 := Z.free 2; have HZ := Lib.hid Z; clear Z) | skip); clear oK bK))
    all_goals
      go_wp2_with fail
      go_meet
      first | exact mid1 HS.out.len OS.out BS.out OK.out BK.out | exact mid2 HS.out.len OS.out BS.out OK.out BK.out | exact mid3 HS.out.len OS.out BS.out OK.out BK.out
  case rest =>
    obtain ⟨g, vS, vK, rfl, hm⟩ := hcut
    have hgl := hm.gl
    have HM1 := Lib.hid (M1.out.below hm.bel)
    have CM := Lib.hid hm
    obtain ⟨A1, c1, eS, _⟩ := hm.set.sps
    obtain ⟨K1, k1, eK, _, _⟩ := own_row hm.row
    subst eS eK
    have n2 : wc.cell? ⟨g, 2, none⟩ = some (.slice K1 ks.length k1) := by rw [hm.blk.cell]; rfl
    have hlen : ks.length ≤ 1073741824 := by omega
    clear hm M0 HM HS
    by_cases h0 : ks = []
    · subst h0
      have hrow := CM.out.row
      have ecs : cs = [] := by have := HC.out.len; simpa using this
      rw [ecs] at hrow
      have HOK : Hid (OwnK wc (vblk (.slice K1 ([] : List Rex).length k1)) [] (.slice K1 ([] : List Rex).length k1) []) := ⟨rfl, own_lower hrow (Nat.zero_le _), by simp, fun i r x h => by simp at h, by simp [fps], by unfold vblk; split <;> simp⟩
      have HFK : Hid (∀ b, b ∈ vblk (.slice K1 ([] : List Rex).length k1) → wa.heap.size ≤ b ∧ b ∉ vblk (.slice A1 s.length c1)) := fun b hb => ⟨(own_vlt hrow b hb).1, fun h => CM.out.dj b h hb⟩
      have HBG := Lib.hid CM.out.blk
      have HOS := Lib.hid CM.out.set
      have HBE := Lib.hid CM.out.bel
      clear hrow CM ecs
      simp only [List.length_nil] at n2 HBG HOK HFK ⊢
      go_wp2_with fail
      go_loopg [17] 0 (fun n i wr => n = 0 ∧ i = .int .i64 0 ∧ wr = wc)
      case atStart => exact ⟨rfl, rfl, rfl⟩
      case round =>
        obtain ⟨_, rfl, rfl⟩ := hrel
        go_wp2_with (first
          | ((with_reducible refine at_ld 31 ?_); refine ev_load (o := ⟨some 31, _, _, _, _, _⟩) rfl TRx _ rfl g rfl [.int .i64 k, .slice A1 s.length c1, (.slice K1 0 k1)] TRx HBG.out _ Tryz.underlying26 rfl (sizeRx' _ _ _) ?_)
          | ((with_reducible refine at_st 2 31 ?_); refine ev_store (o := ⟨none, .store _ (.tmp 2) _, _, _, _, _⟩) rfl rfl TRx (.tmp 2) (.tmp 31) rfl (w.heap.size + 1) 0 rfl [.int .i64 k, .slice A1 s.length c1, (.slice K1 0 k1)] rfl _ TRx HM1.out (sizeRx' _ _ _) (by show 0 + 3 ≤ 3; omega) (three_one _ _ _ _ _ _ _) ?_; intro w5 hX5 hg5; have HX5 : Hid (Blk w5 (w.heap.size + 1) #[.int .i64 k, .slice A1 s.length c1, (.slice K1 0 k1)] TRx) := hX5; have HG5 := Lib.hid hg5; clear hX5 hg5))
        have hz : w.heap.size + 1 < wa.heap.size := hz1
        refine bodyPost_ret (results_cell_row rfl _ _ (w.heap.size + 1) TRx _ (0, 0) _ rfl HX5.out.eq Tryz.underlying26 rfl (by rw [sizeRx]; rfl)) rfl ?_
        exact copy_fin hz HB.out HOS.out HOK.out HBE.out HFK.out HG5.out
    · have hpos : 0 < ks.length := List.length_pos_iff.2 h0
      clear h0
      obtain ⟨gK, capK, eK2, hgK, _⟩ := own_form CM.out.row hpos
      injection eK2 with e1 e2 e3
      subst e1 e3
      obtain ⟨cur, hBK, hcsz, hcap, _, hcm, htk⟩ := own_blk CM.out.row
      have hgKc : gK < wc.heap.size := hBK.lt
      have hgc : g < wc.heap.size := CM.out.blk.lt
      have HX := Lib.hid (KPart.first (ks := ks) hBK hcsz hcap hcm hgK)
      have HT : Hid (∀ t, 0 * 3 ≤ t → t < ks.length * 3 → cur[t]? = cs[t]?) := fun t _ ht => by
        rw [← htk, List.getElem?_take, if_pos ht, Array.getElem?_toList]
      have HBG := Lib.hid CM.out.blk
      have HOS := Lib.hid CM.out.set
      have HBE := Lib.hid CM.out.bel
      have HVS : Hid (∀ b, b ∈ vblk (.slice A1 s.length c1) → b < wc.heap.size) := fun b hb => (CM.out.set.lt b hb).2
      have HDJ := Lib.hid CM.out.dj
      have HGK : Hid (gK ≠ g) := fun e => CM.out.gK (by rw [e]; simp [vblk_some])
      have HGV : Hid (gK ∉ vblk (.slice A1 s.length c1)) := fun h => CM.out.dj gK h (by simp [vblk_some])
      have HGS := Lib.hid CM.out.gS
      clear CM hBK hcsz hcap hcm htk
      go_wp2_with fail
      go_loopg [17] (ks.length) (fun n i wr => ∃ j : Nat, j + n = ks.length ∧ i = .int .i64 j ∧ ∃ (cur : Array Value) (L : List KInfo), Hid (KPart wr gK wa.heap.size k1 cur ks j L) ∧ Hid (∀ t, j * 3 ≤ t → t < ks.length * 3 → cur[t]? = cs[t]?) ∧
        Hid (Blk wr g #[.int .i64 k, .slice A1 s.length c1, .slice (some ⟨gK, 0, none⟩) ks.length k1] TRx) ∧ Hid (OwnSp wr wa.heap.size (.slice A1 s.length c1) s) ∧ Hid (Below wa.heap.size wa wr) ∧ Hid (Blk wr (w.heap.size + 1) #[.int .i64 0, nilS, nilS] TRx) ∧ Hid (∀ b, b ∈ fps L → wc.heap.size ≤ b) ∧ Hid (wc.heap.size ≤ wr.heap.size))
      case atStart => exact ⟨0, by omega, rfl, cur, [], HX, HT, HBG, HOS, HBE, HM1, fun b hb => by simp [fps] at hb, Nat.le_refl _⟩
      case round =>
        clear HX HT HBG HOS HBE HM1 n2
        obtain ⟨j, hj, rfl, cur, L, HX, HT, HBG, HOS, HBE, HM1, HFL, HWZ⟩ := hrel
        have n2 : wr.cell? ⟨g, 2, none⟩ = some (.slice (some ⟨gK, 0, none⟩) ks.length k1) := by rw [HBG.out.cell]; rfl
        by_cases hlt : j < ks.length
        · obtain ⟨r, hr⟩ : ∃ r, ks[j]? = some r := ⟨ks[j], List.getElem?_eq_getElem hlt⟩
          obtain ⟨x1, x2, g0, g1, g2, hv⟩ := HC.out.each j r hr
          obtain ⟨A2, c2, K2, d2, _, rfl, rfl, _⟩ := hv.parts
          have hmem := List.mem_of_getElem? hr
          have hks := size_kid hmem
          rw [← HT.out (j * 3) (Nat.le_refl _) (by omega)] at g0
          rw [← HT.out (j * 3 + 1) (by omega) (by omega)] at g1
          rw [← HT.out (j * 3 + 2) (by omega) (by omega)] at g2
          have HR := Lib.hid hr
          have HV := Lib.hid (hv.under HBE.out)
          have HME : Hid (∀ w', Below wr.heap.size wr w' → w'.cell? ⟨g, 2, none⟩ = some (.slice (some ⟨gK, 0, none⟩) ks.length k1) ∧ w'.cell? ⟨gK, j * 3, none⟩ = some (.int .i64 r.kind) ∧ w'.cell? ⟨gK, j * 3 + 1, none⟩ = some (.slice A2 r.set.length c2) ∧ w'.cell? ⟨gK, j * 3 + 2, none⟩ = some (.slice K2 r.kids.length d2)) := fun w' hb =>
            ⟨by rw [(HBG.out.below hb).cell]; rfl, by rw [(HX.out.blk.below hb).cell]; exact g0, by rw [(HX.out.blk.below hb).cell]; exact g1, by rw [(HX.out.blk.below hb).cell]; exact g2⟩
          have i0 : (0 : Int) ≤ (j : Int) := by omega
          have i1 : (j : Int) < (ks.length : Int) := by omega
          clear hr hv g0 g1 g2
          go_wp2
          have z0 := (HME.out _ (Below.refl _ _)).2.1
          have z1 := (HME.out _ (Below.refl _ _)).2.2.1
          have z2 := (HME.out _ (Below.refl _ _)).2.2.2
          go_region_with (first
              | (go_at_call 56; refine (ih r hmem _ _ _ _ (HV.out.under (below_drew (Below.refl _ _))) (by omega)).mono ?_; rintro e wD ⟨u1, u2, fp, rfl, ho, hnd, hf, b3⟩; rw [← Rex.eta r] at ho; obtain ⟨L3, fk3, _, _, hos3, hok3⟩ := ho.parts; obtain ⟨A3, c3, rfl, _⟩ := hos3.sps; obtain ⟨K3, d3, rfl, _, _⟩ := own_row hok3.hk; clear hos3 hok3; have BD : Hid (Below wr.heap.size wr wD) := below_then (below_drew (Below.refl _ _)) b3; have HO := Lib.hid ho; have HND := Lib.hid hnd; have HF : Hid (∀ b, b ∈ fp → wr.heap.size ≤ b) := hf; clear ho hnd hf b3; have y2 := (HME.out _ BD.out).1; have y0 := (HME.out _ BD.out).2.1; have y1 := (HME.out _ BD.out).2.2.1; have y3 := (HME.out _ BD.out).2.2.2; have f0 := (HX.out.blk.below BD.out).free (j * 3); have f1 := (HX.out.blk.below BD.out).free (j * 3 + 1); have f2 := (HX.out.blk.below BD.out).free (j * 3 + 2)))
          all_goals
            clear y0 y1 y2 y3 f0 f1 f2 z0 z1 z2 n2 i0 i1
            go_wp2
            go_roundg (gk - 1)
            case rel =>
              have hs0 : wa.heap.size ≤ wr.heap.size := HBE.out.size
              obtain ⟨cur', hX', hT'⟩ := copy_round (n := 0) HX.out HR.out BD.out HO.out HF.out HND.out hs0 HT.out
              have hne : g ≠ gK := fun e => HGK.out e.symm
              refine ⟨j + 1, by omega, by go_num, cur', _, hX', hT', (((HBG.out.below BD.out).far hne _).far hne _).far hne _, (HOS.out.below BD.out).stay fun b hb => ?_, below_set (below_set (below_set (below_then HBE.out BD.out) hgK _) hgK _) hgK _, (((HM1.out.below BD.out).far (by show w.heap.size + 1 ≠ gK; omega) _).far (by show w.heap.size + 1 ≠ gK; omega) _).far (by show w.heap.size + 1 ≠ gK; omega) _, fun b hb => ?_, by show _ ≤ _; simp only [World.size_setCell]; exact Nat.le_trans HWZ.out BD.out.size⟩
              · have hb' : b ≠ gK := fun e => HGV.out (e ▸ hb)
                exact (Below.heap_setCell _ _ _ _ hb').trans ((Below.heap_setCell _ _ _ _ hb').trans (Below.heap_setCell _ _ _ _ hb'))
              · rw [fps_append] at hb
                rcases List.mem_append.1 hb with hb | hb
                · exact HFL.out b hb
                · exact Nat.le_trans HWZ.out (HF.out b (by simpa [fps] using hb))
            case measure => omega
        · have hj' : j = ks.length := by omega
          have HOK := Lib.hid (HX.out.done hj')
          have HFK : Hid (∀ b, b ∈ gK :: fps L → wa.heap.size ≤ b ∧ b ∉ vblk (.slice A1 s.length c1)) := fun b hb => by
            refine ⟨HX.out.lo b hb, fun h => ?_⟩
            rcases List.mem_cons.1 hb with e | hb
            · exact HGV.out (e ▸ h)
            · have h1 := HFL.out b hb
              have h2 := HVS.out b h
              omega
          clear hj' HT HX n2
          go_wp2_with (first
            | ((with_reducible refine at_ld 31 ?_); refine ev_load (o := ⟨some 31, _, _, _, _, _⟩) rfl TRx _ rfl g rfl [.int .i64 k, .slice A1 s.length c1, (.slice (some ⟨gK, 0, none⟩) ks.length k1)] TRx HBG.out _ Tryz.underlying26 rfl (sizeRx' _ _ _) ?_)
            | ((with_reducible refine at_st 2 31 ?_); refine ev_store (o := ⟨none, .store _ (.tmp 2) _, _, _, _, _⟩) rfl rfl TRx (.tmp 2) (.tmp 31) rfl (w.heap.size + 1) 0 rfl [.int .i64 k, .slice A1 s.length c1, (.slice (some ⟨gK, 0, none⟩) ks.length k1)] rfl _ TRx HM1.out (sizeRx' _ _ _) (by show 0 + 3 ≤ 3; omega) (three_one _ _ _ _ _ _ _) ?_; intro w5 hX5 hg5; have HX5 : Hid (Blk w5 (w.heap.size + 1) #[.int .i64 k, .slice A1 s.length c1, (.slice (some ⟨gK, 0, none⟩) ks.length k1)] TRx) := hX5; have HG5 := Lib.hid hg5; clear hX5 hg5))
          have hz : w.heap.size + 1 < wa.heap.size := hz1
          refine bodyPost_ret (results_cell_row rfl _ _ (w.heap.size + 1) TRx _ (0, 0) _ rfl HX5.out.eq Tryz.underlying26 rfl (by rw [sizeRx]; rfl)) rfl ?_
          exact copy_fin hz HB.out HOS.out HOK.out HBE.out HFK.out HG5.out

end Go.Proofs.YtfeidjjabjejiaaGreatDoor
