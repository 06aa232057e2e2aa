/- Texts joined for the claims: Yf. -/
import Derived.Test.YtfeidjjabjejiaaGreatDoorG17
import Derived.Test.YtfeidjjabjejiaaGreatDoorG8
/- Both, made simpler: normAnd of the program, l4And of the reference. -/
namespace Go.Proofs.YtfeidjjabjejiaaGreatDoor
set_option linter.unusedSimpArgs false
set_option linter.unusedVariables false
set_option maxRecDepth 100000
open Go.RowKit

def kept (l : List Rex) : List Rex := l.filter fun r => !isAll r
theorem kept_yes (l : List Rex) {x : Rex} (h : isAll x = true) : kept (l ++ [x]) = kept l := by simp [kept, h]
theorem kept_no (l : List Rex) {x : Rex} (h : isAll x = false) : kept (l ++ [x]) = kept l ++ [x] := by simp [kept, h]
theorem kept_len (l : List Rex) : (kept l).length ≤ l.length := List.length_filter_le _ _
theorem and_no {a b : Rex} {bl : List Rex} (h : bl = bag 6 a b) {x : Rex} (hx : x ∈ bl) (hn : isNo x = true) : nAnd a b = noT := by
  unfold nAnd
  rw [← h, if_pos (List.any_eq_true.2 ⟨x, hx, hn⟩)]
theorem and_any {bl : List Rex} (h : ∀ y ∈ bl, isNo y = false) : bl.any isNo = false := List.any_eq_false.2 fun y hy => by rw [h y hy]; decide
theorem and_head {a b x : Rex} {bl : List Rex} (h : bl = bag 6 a b) (hn : ∀ y ∈ bl, isNo y = false) (hk : kept bl = []) (hx : bl[0]? = some x) : nAnd a b = x := by
  unfold nAnd
  rw [← h, and_any hn, if_neg (by decide)]
  have hk' : bl.filter (fun r => !isAll r) = [] := hk
  rw [if_pos hk']
  cases bl with
  | nil => simp at hx
  | cons y l => simpa using hx
theorem and_chain {a b : Rex} {bl : List Rex} (h : bl = bag 6 a b) (hn : ∀ y ∈ bl, isNo y = false) (hk : kept bl ≠ []) : nAnd a b = chain 6 (kept bl) := by
  unfold nAnd
  rw [← h, and_any hn, if_neg (by decide)]
  have hk' : bl.filter (fun r => !isAll r) ≠ [] := hk
  rw [if_neg hk']
  rfl
set_option maxHeartbeats 1000000 in
theorem iAnd_c (a b : Rex) (u1 u2 v1 v2 : Value) (w : World) (p : Nat → Prop) (wx : wf a) (wy : wf b) (ha : RexP w p a (.int .i64 a.kind) u1 u2) (hb : RexP w p b (.int .i64 b.kind) v1 v2) (hp : ∀ q, p q → q < w.heap.size) (sa : a.size ≤ 1048576) (sb : b.size ≤ 1048576) (hm : a.many + b.many ≤ 2097152) (hpw : Pow10 w) :
    Calls Tryz.prog 98 #[.agg #[.int .i64 a.kind, u1, u2], .agg #[.int .i64 b.kind, v1, v2]] w (RexPost p (nAnd a b) w) := by
  obtain ⟨A, c, K, ck, _, rfl, rfl, _, _⟩ := ha.parts
  obtain ⟨B, d, K', dk, _, rfl, rfl, _, _⟩ := hb.parts
  obtain ⟨wa, hwa⟩ : ∃ x, x = ((w.alloc (.cells #[.int .i64 a.kind, .slice A a.set.length c, .slice K a.kids.length ck] TRx)).alloc (.cells #[.int .i64 b.kind, .slice B b.set.length d, .slice K' b.kids.length dk] TRx)).alloc (.cells #[.int .i64 0, nilS, nilS] TRx) := ⟨_, rfl⟩
  have hbw : Below w.heap.size w wa := by rw [hwa]; exact below_alloc (below_alloc (below_alloc (Below.refl _ _) _) _) _
  have hz1 : wa.heap.size = w.heap.size + 3 := by rw [hwa]; simp
  have MA : Hid (Blk wa w.heap.size #[.int .i64 a.kind, .slice A a.set.length c, .slice K a.kids.length ck] TRx) := by rw [hwa]; exact ((blk_new w _ _).alloc _).alloc _
  have MB : Hid (Blk wa (w.heap.size + 1) #[.int .i64 b.kind, .slice B b.set.length d, .slice K' b.kids.length dk] TRx) := by
    rw [hwa]
    have := (blk_new (w.alloc (.cells #[.int .i64 a.kind, .slice A a.set.length c, .slice K a.kids.length ck] TRx)) #[.int .i64 b.kind, .slice B b.set.length d, .slice K' b.kids.length dk] TRx).alloc (.cells #[.int .i64 0, nilS, nilS] TRx)
    rw [show (w.alloc (.cells #[.int .i64 a.kind, .slice A a.set.length c, .slice K a.kids.length ck] TRx)).heap.size = w.heap.size + 1 by simp] at this
    exact this
  have MR : Hid (Blk wa (w.heap.size + 2) #[.int .i64 0, nilS, nilS] TRx) := by
    rw [hwa]
    have := blk_new ((w.alloc (.cells #[.int .i64 a.kind, .slice A a.set.length c, .slice K a.kids.length ck] TRx)).alloc (.cells #[.int .i64 b.kind, .slice B b.set.length d, .slice K' b.kids.length dk] TRx)) #[.int .i64 0, nilS, nilS] TRx
    rw [show ((w.alloc (.cells #[.int .i64 a.kind, .slice A a.set.length c, .slice K a.kids.length ck] TRx)).alloc (.cells #[.int .i64 b.kind, .slice B b.set.length d, .slice K' b.kids.length dk] TRx)).heap.size = w.heap.size + 2 by simp] at this
    exact this
  have HZ := Lib.hid hz1
  replace hwa := hwa.symm
  have HA := Lib.hid (ha.under hbw)
  have HB := Lib.hid (hb.under hbw)
  have BW := Lib.hid hbw
  have HP := Lib.hid hp
  clear hbw hz1 ha hb hp
  have n0 : wa.cell? ⟨w.heap.size, 0, none⟩ = some (.int .i64 a.kind) := by rw [MA.out.cell]; rfl
  have n1 : wa.cell? ⟨w.heap.size, 1, none⟩ = some (.slice A a.set.length c) := by rw [MA.out.cell]; rfl
  have n2 : wa.cell? ⟨w.heap.size, 2, none⟩ = some (.slice K a.kids.length ck) := by rw [MA.out.cell]; rfl
  have m0 : wa.cell? ⟨w.heap.size + 1, 0, none⟩ = some (.int .i64 b.kind) := by rw [MB.out.cell]; rfl
  have m1 : wa.cell? ⟨w.heap.size + 1, 1, none⟩ = some (.slice B b.set.length d) := by rw [MB.out.cell]; rfl
  have m2 : wa.cell? ⟨w.heap.size + 1, 2, none⟩ = some (.slice K' b.kids.length dk) := by rw [MB.out.cell]; rfl
  have hwz0 := BW.out.size
  have BG : Hid (Calls Tryz.prog 117 #[.int .i64 6, .agg #[.int .i64 a.kind, .slice A a.set.length c, .slice K a.kids.length ck], .agg #[.int .i64 b.kind, .slice B b.set.length d, .slice K' b.kids.length dk]] wa (ListPost wa.heap.size (fun q => p q ∨ wa.heap.size ≤ q) (bag 6 a b) wa)) := Lib.hid (iBag_c a b 6 _ _ _ _ wa p (.inr rfl) wx wy HA.out HB.out (fun q hq => by have := HP.out q hq; omega) hm (bagT (.inr rfl) wx wy sa sb) (bagS (.inr rfl) wx wy) (hpw.below BW.out))
  obtain ⟨bl, hbl⟩ : ∃ z, z = bag 6 a b := ⟨_, rfl⟩
  have HBL := Lib.hid hbl
  have hbm := bag_mem (k := 6) (by decide) wx wy
  have hbn := bag_len (k := 6) (by decide) wx wy
  rw [← hbl] at hbm BG hbn
  have HNE : Hid (bl ≠ []) := hbm.1
  have HWF : Hid (∀ x ∈ bl, wf x) := hbm.2
  have hR : w.heap.size + 2 < wa.heap.size := by have := HZ.out; omega
  clear hbm hbl HA HB MA MB
  obtain ⟨i1, hi, hz0, hza, hz2⟩ := info_parts infoRx
  go_enter Tryz.func98, Tryz.ntmps98
  go_wp2_with ((with_reducible refine BG.out.mono ?_); rintro e w3 ⟨A3, n, c3, L, rfl, hn, ho, hb3⟩; replace hn := Lib.hid hn; replace ho := Lib.hid ho; replace hb3 := Lib.hid hb3)
  clear hwa n0 n1 n2 m0 m1 m2 BG
  have HN : Hid (n = bl.length) := hn
  have HO : Hid (OwnR w3 wa.heap.size (fun q => (p q ∨ wa.heap.size ≤ q) ∧ q < w3.heap.size) (.slice A3 n c3) bl L) := Lib.hid ho.out.lt
  have B3 : Hid (Below wa.heap.size wa w3) := hb3
  have hnm : n ≤ 2097153 := by have := HN.out; omega
  have MR3 := Lib.hid (MR.out.below B3.out)
  have HNP : 0 < n := by rw [HN.out]; exact List.length_pos_iff.2 HNE.out
  have h3z := B3.out.size
  clear hn ho hb3 MR
  go_loopg [6, 14] n (fun q v6 v14 wr => ∃ (i m c6 : Nat) (A6 : Option Addr) (L6 : List KInfo), v14 = .int .i64 (i : Int) ∧ q + i = n ∧ v6 = .slice A6 m c6 ∧ Hid (m = (kept (bl.take i)).length) ∧ Hid (OwnR wr w3.heap.size (fun q => (p q ∨ wa.heap.size ≤ q) ∧ q < w3.heap.size) (.slice A6 m c6) (kept (bl.take i)) L6) ∧ Hid (∀ x ∈ bl.take i, isNo x = false) ∧ Hid (Below w3.heap.size w3 wr))
  case atStart => exact ⟨0, 0, 0, none, [], rfl, by omega, rfl, rfl, OwnR.nil _ _ _, fun x hx => by simp at hx, Below.refl _ _⟩
  case round =>
    obtain ⟨i, m, c6, A6, L6, rfl, hqi, rfl, HM, HK, HF, HW⟩ := hrel
    have h3r := HW.out.size
    have hmi : m ≤ n := by have h1 := kept_len (bl.take i); rw [List.length_take] at h1; have := HM.out; have := HN.out; omega
    by_cases hin : i < n
    · obtain ⟨g', cap', x, A2, c2, K2, k2, ev, ex, eL, hx, x0, x1, x2⟩ := HO.out.at_ i (by have := HN.out; omega)
      injection ev with ev1 ev2 ev3
      subst ev1
      have up : ∀ {q : Addr} {u : Value}, w3.cell? q = some u → wr.cell? q = some u := fun {q u} h => (HW.out.cell (World.block_lt_of_cell? w3 q h)).trans h
      replace x0 := up x0
      replace x1 := up x1
      replace x2 := up x2
      have HX : Hid (RexP wr (fun q => (p q ∨ wa.heap.size ≤ q) ∧ q < w3.heap.size) x (.int .i64 x.kind) (.slice A2 x.set.length c2) (.slice K2 x.kids.length k2)) := Lib.hid ((hx.mono (p' := fun q => (p q ∨ wa.heap.size ≤ q) ∧ q < w3.heap.size) fun b hb => hb.1).under HW.out)
      have EX : Hid (bl[i]? = some x) := ex
      have HXW : Hid (wf x) := HWF.out x (List.mem_of_getElem? ex)
      clear ev2 ev3 ex eL hx up
      obtain ⟨wb, hwb⟩ : ∃ y, y = wr.alloc (.cells #[.int .i64 x.kind, .slice A2 x.set.length c2, .slice K2 x.kids.length k2] TRx) := ⟨_, rfl⟩
      have HBB : Hid (Below wr.heap.size wr wb) := by rw [hwb]; exact below_alloc (Below.refl _ _) _
      have MX : Hid (Blk wb wr.heap.size #[.int .i64 x.kind, .slice A2 x.set.length c2, .slice K2 x.kids.length k2] TRx) := by rw [hwb]; exact blk_new wr _ _
      have hzb : wr.heap.size < wb.heap.size := by rw [hwb]; simp
      replace hwb := hwb.symm
      have y0 : wb.cell? ⟨wr.heap.size, 0, none⟩ = some (.int .i64 x.kind) := by rw [MX.out.cell]; rfl
      have y1 : wb.cell? ⟨wr.heap.size, 1, none⟩ = some (.slice A2 x.set.length c2) := by rw [MX.out.cell]; rfl
      have y2 : wb.cell? ⟨wr.heap.size, 2, none⟩ = some (.slice K2 x.kids.length k2) := by rw [MX.out.cell]; rfl
      have j0 : (0 : Int) ≤ (i : Int) := by omega
      have j1 : (i : Int) < (n : Int) := by omega
      have IN := Lib.hid (iNo_c x _ _ wb 0 (HX.out.under HBB.out).rexv)
      have IC : Hid (∀ w', Below wb.heap.size wb w' → Calls Tryz.prog 118 #[.agg #[.int .i64 x.kind, .slice A2 x.set.length c2, .slice K2 x.kids.length k2]] w' fun e w'' => e = .returned (.bool (isAll x)) ∧ Below w'.heap.size w' w'') := fun w' h => iAll_c x _ _ w' _ HXW.out ((HX.out.under HBB.out).under h)
      have MRb := Lib.hid (MR3.out.below (below_then HW.out HBB.out))
      have hn1 : m + 1 ≤ maxLen := by unfold maxLen; omega
      have HOW : Hid (wr.ownsRow w3.heap.size TRx 3 (.slice A6 m c6) m (kcells (kept (bl.take i)) L6)) := by have := HK.out.own; rw [← HM.out] at this; exact this
      cases hno : isNo x
      · rw [hno] at IN
        cases hall : isAll x
        · rw [hall] at IC
          go_wp2_with (first
            | ((with_reducible refine IN.out.mono ?_); rintro e w6 ⟨rfl, hb6⟩; have z0 : w6.cell? ⟨wr.heap.size, 0, none⟩ = some (.int .i64 x.kind) := (by rw [(MX.out.below hb6).cell]; rfl); have z1 : w6.cell? ⟨wr.heap.size, 1, none⟩ = some (.slice A2 x.set.length c2) := (by rw [(MX.out.below hb6).cell]; rfl); have z2 : w6.cell? ⟨wr.heap.size, 2, none⟩ = some (.slice K2 x.kids.length k2) := (by rw [(MX.out.below hb6).cell]; rfl); have B6 := Lib.hid hb6; clear hb6)
            | ((with_reducible refine (IC.out w6 B6.out).mono ?_); rintro e w7 ⟨rfl, hb7⟩; have B7 := Lib.hid (below_then B6.out hb7); have t0 : w7.cell? ⟨wr.heap.size, 0, none⟩ = some (.int .i64 x.kind) := (by rw [(MX.out.below B7.out).cell]; rfl); have t1 : w7.cell? ⟨wr.heap.size, 1, none⟩ = some (.slice A2 x.set.length c2) := (by rw [(MX.out.below B7.out).cell]; rfl); have t2 : w7.cell? ⟨wr.heap.size, 2, none⟩ = some (.slice K2 x.kids.length k2) := (by rw [(MX.out.below B7.out).cell]; rfl); have W7 := Lib.hid (below_then HBB.out B7.out); clear hb7)
            | ((at_builtin; refine wpList_append_row (by rfl) (.tmp 24) (.tmp 26) 24 (by rfl) w3.heap.size TRx i1 (.agg #[.int .i64 0, nilS, nilS]) 3 56 Tryz.underlying24 hi hz0 hza hz2 rfl (by decide) (.slice A6 m c6) m (kcells (kept (bl.take i)) L6) (by rfl) (own_below (own_below HOW.out W7.out) (below_alloc (Below.refl _ _) _)) (some ⟨w7.heap.size, 0, none⟩) 1 1 [.int .i64 x.kind, .slice A2 x.set.length c2, .slice K2 x.kids.length k2] (by rfl) (.inr ⟨⟨w7.heap.size, 0, none⟩, rfl, Nat.zero_le _, new_cells w7 [.int .i64 x.kind, .slice A2 x.set.length c2, .slice K2 x.kids.length k2] TRx⟩) rfl (three_one _ _ _ _ _ _ _) hn1 (by omega) (by have := W7.out.size; simp; omega) _ rfl (m + 1) rfl ?_; intro A5 c5 w5 hown hgrow hat; have HE := Lib.hid hown; have HGR := Lib.hid hgrow; have HAT := Lib.hid hat; clear hown hgrow hat))
            | fail)
          go_roundg (gk - 1)
          case measure => omega
          case rel =>
            have hba := below_then W7.out (below_alloc (Below.refl w7.heap.size w7) (.cells #[.int .i64 x.kind, .slice A2 x.set.length c2, .slice K2 x.kids.length k2] 26))
            refine ⟨i + 1, m + 1, c5, A5, L6 ++ [⟨[], .slice A2 x.set.length c2, .slice K2 x.kids.length k2⟩], by go_num, by omega, rfl, by show _ = _; rw [takeSnoc EX.out, kept_no _ hall, List.length_append, ← HM.out]; rfl, ?_, take_all EX.out HF.out hno, ?_⟩
            · rw [takeSnoc EX.out, kept_no _ hall]
              exact HK.out.snoc (w1 := w7.alloc (.cells #[.int .i64 x.kind, .slice A2 x.set.length c2, .slice K2 x.kids.length k2] TRx)) (w' := w5) (v' := .slice A5 (m + 1) c5) (HX.out.mono fun b hb => ⟨hb, fun hv => by have := (own_vlt HK.out.own b hv).1; have := hb.2; omega⟩) hba (by rw [← HM.out]; exact HE.out) HGR.out (fun b hb => HAT.out b hb) (by rw [← HM.out]; unfold maxN; omega) []
            · exact HW.out.grown (grown_thn (grown_blw hba) HGR.out) HW.out.size fun q hq => (own_base HOW.out q hq).1
        · rw [hall] at IC
          go_wp2_with (first
            | ((with_reducible refine IN.out.mono ?_); rintro e w6 ⟨rfl, hb6⟩; have z0 : w6.cell? ⟨wr.heap.size, 0, none⟩ = some (.int .i64 x.kind) := (by rw [(MX.out.below hb6).cell]; rfl); have z1 : w6.cell? ⟨wr.heap.size, 1, none⟩ = some (.slice A2 x.set.length c2) := (by rw [(MX.out.below hb6).cell]; rfl); have z2 : w6.cell? ⟨wr.heap.size, 2, none⟩ = some (.slice K2 x.kids.length k2) := (by rw [(MX.out.below hb6).cell]; rfl); have B6 := Lib.hid hb6; clear hb6)
            | ((with_reducible refine (IC.out w6 B6.out).mono ?_); rintro e w7 ⟨rfl, hb7⟩; have W7 := Lib.hid (below_then HBB.out (below_then B6.out hb7)); clear hb7)
            | fail)
          go_roundg (gk - 1)
          case measure => omega
          case rel => exact ⟨i + 1, m, c6, A6, L6, by go_num, by omega, rfl, by rw [takeSnoc EX.out, kept_yes _ hall]; exact HM, by rw [takeSnoc EX.out, kept_yes _ hall]; exact HK.out.under W7.out, take_all EX.out HF.out hno, below_then HW.out W7.out⟩
      · rw [hno] at IN
        have E : Hid (nAnd a b = noT) := and_no HBL.out (List.mem_of_getElem? EX.out) hno
        go_wp2_with (first
          | ((with_reducible refine IN.out.mono ?_); rintro e w6 ⟨rfl, hb6⟩; have MRc := Lib.hid (MRb.out.below hb6); have B6 := Lib.hid (below_then HBB.out hb6); clear hb6)
          | ((with_reducible refine (iNothing_c w6).mono ?_); rintro e w7 ⟨rfl, hb7⟩; have MRd := Lib.hid (MRc.out.below hb7); have B7 := Lib.hid (below_then HW.out (below_then B6.out hb7)); clear hb7)
          | ((with_reducible refine at_st 4 20 ?_); refine ev_store (o := ⟨none, .store _ (.tmp 4) _, _, _, _, _⟩) rfl rfl TRx (.tmp 4) (.tmp 20) rfl (w.heap.size + 2) 0 rfl [.int .i64 1, nilS, nilS] rfl _ TRx MRd.out (sizeRx' _ _ _) (by show 0 + 3 ≤ 3; omega) (three_one _ _ _ _ _ _ _) ?_; intro w5 hX5 hg5; have HX5 : Hid (Blk w5 (w.heap.size + 2) ([.int .i64 1, nilS, nilS]).toArray TRx) := hX5; have HG5 := Lib.hid hg5; clear hX5 hg5)
          | fail)
        refine bodyPost_ret (results_cell_row rfl _ _ (w.heap.size + 2) TRx _ (0, 0) _ rfl HX5.out.eq Tryz.underlying26 rfl (by rw [sizeRx]; rfl)) rfl ?_
        rw [E.out]
        exact rex_fin (t := noT) rfl rfl HP.out (RexP.leaf 1) (below_then (below_then BW.out B3.out) B7.out) HG5.out (by omega)
    · have et : bl.take i = bl := List.take_of_length_le (by have := HN.out; omega)
      rw [et] at HM HK HF
      obtain rfl : n = i := by omega
      have j1 : ¬ (n : Int) < (n : Int) := by omega
      have MRb := Lib.hid (MR3.out.below HW.out)
      clear et
      by_cases hm0 : m = 0
      · subst hm0
        have hk0 : kept bl = [] := List.length_eq_zero_iff.1 HM.out.symm
        obtain ⟨g', cap', x, A2, c2, K2, k2, ev, ex, eL, hx, x0, x1, x2⟩ := HO.out.at_ 0 (by have := HN.out; omega)
        injection ev with ev1 ev2 ev3
        subst ev1
        have up : ∀ {q : Addr} {u : Value}, w3.cell? q = some u → wr.cell? q = some u := fun {q u} h => (HW.out.cell (World.block_lt_of_cell? w3 q h)).trans h
        replace x0 := up x0
        replace x1 := up x1
        replace x2 := up x2
        have HX : Hid (RexP wr (fun q => (p q ∨ wa.heap.size ≤ q) ∧ q < w3.heap.size) x (.int .i64 x.kind) (.slice A2 x.set.length c2) (.slice K2 x.kids.length k2)) := Lib.hid ((hx.mono (p' := fun q => (p q ∨ wa.heap.size ≤ q) ∧ q < w3.heap.size) fun b hb => hb.1).under HW.out)
        have EX : Hid (bl[0]? = some x) := ex
        have HXW : Hid (wf x) := HWF.out x (List.mem_of_getElem? ex)
        clear ev2 ev3 ex eL hx up
        have E : Hid (nAnd a b = x) := and_head HBL.out HF.out hk0 EX.out
        have j2 : (0 : Int) < (n : Int) := by omega
        have B6 := HW
        have HX6 := HX
        simp only [Nat.zero_mul, Nat.zero_add] at x0 x1 x2
        clear hk0
        go_wp2_with (first
          | ((with_reducible refine at_st 4 34 ?_); refine ev_store (o := ⟨none, .store _ (.tmp 4) _, _, _, _, _⟩) rfl rfl TRx (.tmp 4) (.tmp 34) rfl (w.heap.size + 2) 0 rfl [.int .i64 x.kind, .slice A2 x.set.length c2, .slice K2 x.kids.length k2] rfl _ TRx MRb.out (sizeRx' _ _ _) (by show 0 + 3 ≤ 3; omega) (three_one _ _ _ _ _ _ _) ?_; intro w5 hX5 hg5; have HX5 : Hid (Blk w5 (w.heap.size + 2) ([.int .i64 x.kind, .slice A2 x.set.length c2, .slice K2 x.kids.length k2]).toArray TRx) := hX5; have HG5 := Lib.hid hg5; clear hX5 hg5)
          | fail)
        refine bodyPost_ret (results_cell_row rfl _ _ (w.heap.size + 2) TRx _ (0, 0) _ rfl HX5.out.eq Tryz.underlying26 rfl (by rw [sizeRx]; rfl)) rfl ?_
        rw [E.out]
        exact rex_fin rfl rfl HP.out (HX6.out.mono fun q hq => ⟨fun e => by rcases hq.1 with h | h; have := HP.out q h; omega; omega, hq.1.imp id fun h => by omega⟩) (below_then (below_then BW.out B3.out) B6.out) HG5.out (by omega)
      · have hk0 : kept bl ≠ [] := fun e => hm0 (by rw [HM.out, e]; rfl)
        have E : Hid (nAnd a b = chain 6 (kept bl)) := and_chain HBL.out HF.out hk0
        have d1 : ((m : Int) == 0) = false := by simp [hm0]
        have d2 : ¬ (m : Int) = 0 := by omega
        have CC : Hid (Calls Tryz.prog 119 #[.int .i64 6, .slice A6 m c6] wr (RexPost (fun q => (p q ∨ wa.heap.size ≤ q) ∧ q < w3.heap.size) (chain 6 (kept bl)) wr)) := Lib.hid (iChain_c 6 (kept bl) A6 m c6 L6 wr w3.heap.size _ HK.out HM.out hk0 (fun q hq => by have := hq.2; omega))
        obtain ⟨T, hT⟩ : ∃ z, z = chain 6 (kept bl) := ⟨_, rfl⟩
        rw [← hT] at CC E
        clear hT hm0 hk0
        go_wp2_with (first
          | ((with_reducible refine CC.out.mono ?_); rintro e w6 ⟨A7, c7, K7, k7, rfl, hx6, hb6⟩; have MRc := Lib.hid (MRb.out.below hb6); have B6 := Lib.hid (below_then HW.out hb6); have HX6 := Lib.hid hx6; clear hb6 hx6)
          | ((with_reducible refine at_st 4 36 ?_); refine ev_store (o := ⟨none, .store _ (.tmp 4) _, _, _, _, _⟩) rfl rfl TRx (.tmp 4) (.tmp 36) rfl (w.heap.size + 2) 0 rfl [.int .i64 T.kind, .slice A7 T.set.length c7, .slice K7 T.kids.length k7] rfl _ TRx MRc.out (sizeRx' _ _ _) (by show 0 + 3 ≤ 3; omega) (three_one _ _ _ _ _ _ _) ?_; intro w5 hX5 hg5; have HX5 : Hid (Blk w5 (w.heap.size + 2) ([.int .i64 T.kind, .slice A7 T.set.length c7, .slice K7 T.kids.length k7]).toArray TRx) := hX5; have HG5 := Lib.hid hg5; clear hX5 hg5)
          | fail)
        refine bodyPost_ret (results_cell_row rfl _ _ (w.heap.size + 2) TRx _ (0, 0) _ rfl HX5.out.eq Tryz.underlying26 rfl (by rw [sizeRx]; rfl)) rfl ?_
        rw [E.out]
        exact rex_fin rfl rfl HP.out (HX6.out.mono fun q hq => by
          rcases hq with hq | hq
          · exact ⟨fun e => by rcases hq.1 with h | h; have := HP.out q h; omega; omega, hq.1.imp id fun h => by omega⟩
          · exact ⟨fun e => by omega, .inr (by omega)⟩) (below_then (below_then BW.out B3.out) B6.out) HG5.out (by omega)
set_option maxHeartbeats 1000000 in
theorem sAnd_c (a b : Rex) (u1 u2 v1 v2 : Value) (w : World) (p : Nat → Prop) (wx : wf a) (wy : wf b) (ha : RexP w p a (.int .i64 a.kind) u1 u2) (hb : RexP w p b (.int .i64 b.kind) v1 v2) (hp : ∀ q, p q → q < w.heap.size) (sa : a.size ≤ 1048576) (sb : b.size ≤ 1048576) (hm : a.many + b.many ≤ 2097152) :
    Calls Tryz.prog 97 #[.agg #[.int .i64 a.kind, u1, u2], .agg #[.int .i64 b.kind, v1, v2]] w (RexPost p (nAnd a b) w) := by
  obtain ⟨A, c, K, ck, _, rfl, rfl, _, _⟩ := ha.parts
  obtain ⟨B, d, K', dk, _, rfl, rfl, _, _⟩ := hb.parts
  obtain ⟨wa, hwa⟩ : ∃ x, x = ((w.alloc (.cells #[.int .i64 a.kind, .slice A a.set.length c, .slice K a.kids.length ck] TRx)).alloc (.cells #[.int .i64 b.kind, .slice B b.set.length d, .slice K' b.kids.length dk] TRx)).alloc (.cells #[.int .i64 0, nilS, nilS] TRx) := ⟨_, rfl⟩
  have hbw : Below w.heap.size w wa := by rw [hwa]; exact below_alloc (below_alloc (below_alloc (Below.refl _ _) _) _) _
  have hz1 : wa.heap.size = w.heap.size + 3 := by rw [hwa]; simp
  have MA : Hid (Blk wa w.heap.size #[.int .i64 a.kind, .slice A a.set.length c, .slice K a.kids.length ck] TRx) := by rw [hwa]; exact ((blk_new w _ _).alloc _).alloc _
  have MB : Hid (Blk wa (w.heap.size + 1) #[.int .i64 b.kind, .slice B b.set.length d, .slice K' b.kids.length dk] TRx) := by
    rw [hwa]
    have := (blk_new (w.alloc (.cells #[.int .i64 a.kind, .slice A a.set.length c, .slice K a.kids.length ck] TRx)) #[.int .i64 b.kind, .slice B b.set.length d, .slice K' b.kids.length dk] TRx).alloc (.cells #[.int .i64 0, nilS, nilS] TRx)
    rw [show (w.alloc (.cells #[.int .i64 a.kind, .slice A a.set.length c, .slice K a.kids.length ck] TRx)).heap.size = w.heap.size + 1 by simp] at this
    exact this
  have MR : Hid (Blk wa (w.heap.size + 2) #[.int .i64 0, nilS, nilS] TRx) := by
    rw [hwa]
    have := blk_new ((w.alloc (.cells #[.int .i64 a.kind, .slice A a.set.length c, .slice K a.kids.length ck] TRx)).alloc (.cells #[.int .i64 b.kind, .slice B b.set.length d, .slice K' b.kids.length dk] TRx)) #[.int .i64 0, nilS, nilS] TRx
    rw [show ((w.alloc (.cells #[.int .i64 a.kind, .slice A a.set.length c, .slice K a.kids.length ck] TRx)).alloc (.cells #[.int .i64 b.kind, .slice B b.set.length d, .slice K' b.kids.length dk] TRx)).heap.size = w.heap.size + 2 by simp] at this
    exact this
  have HZ := Lib.hid hz1
  replace hwa := hwa.symm
  have HA := Lib.hid (ha.under hbw)
  have HB := Lib.hid (hb.under hbw)
  have BW := Lib.hid hbw
  have HP := Lib.hid hp
  clear hbw hz1 ha hb hp
  have n0 : wa.cell? ⟨w.heap.size, 0, none⟩ = some (.int .i64 a.kind) := by rw [MA.out.cell]; rfl
  have n1 : wa.cell? ⟨w.heap.size, 1, none⟩ = some (.slice A a.set.length c) := by rw [MA.out.cell]; rfl
  have n2 : wa.cell? ⟨w.heap.size, 2, none⟩ = some (.slice K a.kids.length ck) := by rw [MA.out.cell]; rfl
  have m0 : wa.cell? ⟨w.heap.size + 1, 0, none⟩ = some (.int .i64 b.kind) := by rw [MB.out.cell]; rfl
  have m1 : wa.cell? ⟨w.heap.size + 1, 1, none⟩ = some (.slice B b.set.length d) := by rw [MB.out.cell]; rfl
  have m2 : wa.cell? ⟨w.heap.size + 1, 2, none⟩ = some (.slice K' b.kids.length dk) := by rw [MB.out.cell]; rfl
  have hwz0 := BW.out.size
  have BG : Hid (Calls Tryz.prog 134 #[.agg #[.int .i64 a.kind, .slice A a.set.length c, .slice K a.kids.length ck], .agg #[.int .i64 b.kind, .slice B b.set.length d, .slice K' b.kids.length dk], .int .i64 6] wa (ListPost wa.heap.size (fun q => p q ∨ wa.heap.size ≤ q) (bag 6 a b) wa)) := Lib.hid (sBag_c a b 6 _ _ _ _ wa p (.inr rfl) wx wy HA.out HB.out (fun q hq => by have := HP.out q hq; omega) hm (bagT (.inr rfl) wx wy sa sb) (bagS (.inr rfl) wx wy))
  obtain ⟨bl, hbl⟩ : ∃ z, z = bag 6 a b := ⟨_, rfl⟩
  have HBL := Lib.hid hbl
  have hbm := bag_mem (k := 6) (by decide) wx wy
  have hbn := bag_len (k := 6) (by decide) wx wy
  rw [← hbl] at hbm BG hbn
  have HNE : Hid (bl ≠ []) := hbm.1
  have HWF : Hid (∀ x ∈ bl, wf x) := hbm.2
  have hR : w.heap.size + 2 < wa.heap.size := by have := HZ.out; omega
  clear hbm hbl HA HB MA MB
  obtain ⟨i1, hi, hz0, hza, hz2⟩ := info_parts infoRx
  go_enter Tryz.func97, Tryz.ntmps97
  go_wp2_with ((with_reducible refine BG.out.mono ?_); rintro e w3 ⟨A3, n, c3, L, rfl, hn, ho, hb3⟩; replace hn := Lib.hid hn; replace ho := Lib.hid ho; replace hb3 := Lib.hid hb3)
  clear hwa n0 n1 n2 m0 m1 m2 BG
  have HN : Hid (n = bl.length) := hn
  have HO : Hid (OwnR w3 wa.heap.size (fun q => (p q ∨ wa.heap.size ≤ q) ∧ q < w3.heap.size) (.slice A3 n c3) bl L) := Lib.hid ho.out.lt
  have B3 : Hid (Below wa.heap.size wa w3) := hb3
  have hnm : n ≤ 2097153 := by have := HN.out; omega
  have MR3 := Lib.hid (MR.out.below B3.out)
  have HNP : 0 < n := by rw [HN.out]; exact List.length_pos_iff.2 HNE.out
  have h3z := B3.out.size
  clear hn ho hb3 MR
  go_loopg [6, 7] n (fun q v6 v14 wr => ∃ (i m c6 : Nat) (A6 : Option Addr) (L6 : List KInfo), v14 = .int .i64 (i : Int) ∧ q + i = n ∧ v6 = .slice A6 m c6 ∧ Hid (m = (kept (bl.take i)).length) ∧ Hid (OwnR wr w3.heap.size (fun q => (p q ∨ wa.heap.size ≤ q) ∧ q < w3.heap.size) (.slice A6 m c6) (kept (bl.take i)) L6) ∧ Hid (∀ x ∈ bl.take i, isNo x = false) ∧ Hid (Below w3.heap.size w3 wr))
  case atStart => exact ⟨0, 0, 0, some ⟨w3.heap.size, 0, none⟩, [], rfl, by omega, rfl, rfl, ⟨World.ownsRow_made w3 #[] 0 (Nat.le_refl _) (by decide) rfl, rfl, by simp [kept], fun i r' x' a b => by simp [kept] at a⟩, fun x hx => by simp at hx, below_alloc (Below.refl _ _) _⟩
  case round =>
    obtain ⟨i, m, c6, A6, L6, rfl, hqi, rfl, HM, HK, HF, HW⟩ := hrel
    have h3r := HW.out.size
    have hmi : m ≤ n := by have h1 := kept_len (bl.take i); rw [List.length_take] at h1; have := HM.out; have := HN.out; omega
    by_cases hin : i < n
    · obtain ⟨g', cap', x, A2, c2, K2, k2, ev, ex, eL, hx, x0, x1, x2⟩ := HO.out.at_ i (by have := HN.out; omega)
      injection ev with ev1 ev2 ev3
      subst ev1
      have up : ∀ {q : Addr} {u : Value}, w3.cell? q = some u → wr.cell? q = some u := fun {q u} h => (HW.out.cell (World.block_lt_of_cell? w3 q h)).trans h
      replace x0 := up x0
      replace x1 := up x1
      replace x2 := up x2
      have HX : Hid (RexP wr (fun q => (p q ∨ wa.heap.size ≤ q) ∧ q < w3.heap.size) x (.int .i64 x.kind) (.slice A2 x.set.length c2) (.slice K2 x.kids.length k2)) := Lib.hid ((hx.mono (p' := fun q => (p q ∨ wa.heap.size ≤ q) ∧ q < w3.heap.size) fun b hb => hb.1).under HW.out)
      have EX : Hid (bl[i]? = some x) := ex
      have HXW : Hid (wf x) := HWF.out x (List.mem_of_getElem? ex)
      clear ev2 ev3 ex eL hx up
      have X0 := Lib.hid x0
      have X1 := Lib.hid x1
      have X2 := Lib.hid x2
      have UP : Hid (∀ w' : World, Below wr.heap.size wr w' → w'.cell? ⟨g', i * 3, none⟩ = some (.int .i64 x.kind) ∧ w'.cell? ⟨g', i * 3 + 1, none⟩ = some (.slice A2 x.set.length c2) ∧ w'.cell? ⟨g', i * 3 + 2, none⟩ = some (.slice K2 x.kids.length k2)) := fun w' h => ⟨(h.cell (World.block_lt_of_cell? wr _ X0.out)).trans X0.out, (h.cell (World.block_lt_of_cell? wr _ X1.out)).trans X1.out, (h.cell (World.block_lt_of_cell? wr _ X2.out)).trans X2.out⟩
      have j0 : (0 : Int) ≤ (i : Int) := by omega
      have j1 : (i : Int) < (n : Int) := by omega
      have IN := Lib.hid (sNo_c x _ _ wr 0 HX.out.rexv)
      have IC : Hid (∀ w', Below wr.heap.size wr w' → Calls Tryz.prog 135 #[.agg #[.int .i64 x.kind, .slice A2 x.set.length c2, .slice K2 x.kids.length k2]] w' fun e w'' => e = .returned (.bool (isAll x)) ∧ Below w'.heap.size w' w'') := fun w' h => sAll_c x _ _ w' _ HXW.out (HX.out.under h)
      have MRb := Lib.hid (MR3.out.below HW.out)
      have hn1 : m + 1 ≤ maxLen := by unfold maxLen; omega
      have HOW : Hid (wr.ownsRow w3.heap.size TRx 3 (.slice A6 m c6) m (kcells (kept (bl.take i)) L6)) := by have := HK.out.own; rw [← HM.out] at this; exact this
      cases hno : isNo x
      · rw [hno] at IN
        cases hall : isAll x
        · rw [hall] at IC
          go_wp2_with (first
            | ((with_reducible refine IN.out.mono ?_); rintro e w6 ⟨rfl, hb6⟩; obtain ⟨z0, z1, z2⟩ := UP.out w6 hb6; have B6 := Lib.hid hb6; clear hb6)
            | ((with_reducible refine (IC.out w6 B6.out).mono ?_); rintro e w7 ⟨rfl, hb7⟩; have W7 := Lib.hid (below_then B6.out hb7); obtain ⟨t0, t1, t2⟩ := UP.out w7 W7.out; clear hb7)
            | ((at_builtin; refine wpList_append_row (by rfl) (.tmp 30) (.tmp 35) 24 (by rfl) w3.heap.size TRx i1 (.agg #[.int .i64 0, nilS, nilS]) 3 56 Tryz.underlying24 hi hz0 hza hz2 rfl (by decide) (.slice A6 m c6) m (kcells (kept (bl.take i)) L6) (by rfl) (own_below (own_below HOW.out W7.out) (below_alloc (Below.refl _ _) _)) (some ⟨w7.heap.size, 0, none⟩) 1 1 [.int .i64 x.kind, .slice A2 x.set.length c2, .slice K2 x.kids.length k2] (by rfl) (.inr ⟨⟨w7.heap.size, 0, none⟩, rfl, Nat.zero_le _, new_cells w7 [.int .i64 x.kind, .slice A2 x.set.length c2, .slice K2 x.kids.length k2] TRx⟩) rfl (three_one _ _ _ _ _ _ _) hn1 (by omega) (by have := W7.out.size; simp; omega) _ rfl (m + 1) rfl ?_; intro A5 c5 w5 hown hgrow hat; have HE := Lib.hid hown; have HGR := Lib.hid hgrow; have HAT := Lib.hid hat; clear hown hgrow hat))
            | fail)
          go_roundg (gk - 1)
          case measure => omega
          case rel =>
            have hba := below_then W7.out (below_alloc (Below.refl w7.heap.size w7) (.cells #[.int .i64 x.kind, .slice A2 x.set.length c2, .slice K2 x.kids.length k2] 26))
            refine ⟨i + 1, m + 1, c5, A5, L6 ++ [⟨[], .slice A2 x.set.length c2, .slice K2 x.kids.length k2⟩], by go_num, by omega, rfl, by show _ = _; rw [takeSnoc EX.out, kept_no _ hall, List.length_append, ← HM.out]; rfl, ?_, take_all EX.out HF.out hno, ?_⟩
            · rw [takeSnoc EX.out, kept_no _ hall]
              exact HK.out.snoc (w1 := w7.alloc (.cells #[.int .i64 x.kind, .slice A2 x.set.length c2, .slice K2 x.kids.length k2] TRx)) (w' := w5) (v' := .slice A5 (m + 1) c5) (HX.out.mono fun b hb => ⟨hb, fun hv => by have := (own_vlt HK.out.own b hv).1; have := hb.2; omega⟩) hba (by rw [← HM.out]; exact HE.out) HGR.out (fun b hb => HAT.out b hb) (by rw [← HM.out]; unfold maxN; omega) []
            · exact HW.out.grown (grown_thn (grown_blw hba) HGR.out) HW.out.size fun q hq => (own_base HOW.out q hq).1
        · rw [hall] at IC
          go_wp2_with (first
            | ((with_reducible refine IN.out.mono ?_); rintro e w6 ⟨rfl, hb6⟩; obtain ⟨z0, z1, z2⟩ := UP.out w6 hb6; have B6 := Lib.hid hb6; clear hb6)
            | ((with_reducible refine (IC.out w6 B6.out).mono ?_); rintro e w7 ⟨rfl, hb7⟩; have W7 := Lib.hid (below_then B6.out hb7); clear hb7)
            | fail)
          go_roundg (gk - 1)
          case measure => omega
          case rel => exact ⟨i + 1, m, c6, A6, L6, by go_num, by omega, rfl, by rw [takeSnoc EX.out, kept_yes _ hall]; exact HM, by rw [takeSnoc EX.out, kept_yes _ hall]; exact HK.out.under W7.out, take_all EX.out HF.out hno, below_then HW.out W7.out⟩
      · rw [hno] at IN
        have E : Hid (nAnd a b = noT) := and_no HBL.out (List.mem_of_getElem? EX.out) hno
        go_wp2_with (first
          | ((with_reducible refine IN.out.mono ?_); rintro e w6 ⟨rfl, hb6⟩; have MRc := Lib.hid (MRb.out.below hb6); have B6 := Lib.hid (below_then HW.out hb6); clear hb6)
          | ((with_reducible refine at_st 4 23 ?_); refine ev_store (o := ⟨none, .store _ (.tmp 4) _, _, _, _, _⟩) rfl rfl TRx (.tmp 4) (.tmp 23) rfl (w.heap.size + 2) 0 rfl [.int .i64 1, nilS, nilS] rfl _ TRx MRc.out (sizeRx' _ _ _) (by show 0 + 3 ≤ 3; omega) (three_one _ _ _ _ _ _ _) ?_; intro w5 hX5 hg5; have HX5 : Hid (Blk w5 (w.heap.size + 2) ([.int .i64 1, nilS, nilS]).toArray TRx) := hX5; have HG5 := Lib.hid hg5; clear hX5 hg5)
          | fail)
        refine bodyPost_ret (results_cell_row rfl _ _ (w.heap.size + 2) TRx _ (0, 0) _ rfl HX5.out.eq Tryz.underlying26 rfl (by rw [sizeRx]; rfl)) rfl ?_
        rw [E.out]
        exact rex_fin (t := noT) rfl rfl HP.out (RexP.leaf 1) (below_then (below_then BW.out B3.out) B6.out) HG5.out (by omega)
    · have et : bl.take i = bl := List.take_of_length_le (by have := HN.out; omega)
      rw [et] at HM HK HF
      obtain rfl : n = i := by omega
      have j1 : ¬ (n : Int) < (n : Int) := by omega
      have MRb := Lib.hid (MR3.out.below HW.out)
      clear et
      by_cases hm0 : m = 0
      · subst hm0
        have hk0 : kept bl = [] := List.length_eq_zero_iff.1 HM.out.symm
        obtain ⟨g', cap', x, A2, c2, K2, k2, ev, ex, eL, hx, x0, x1, x2⟩ := HO.out.at_ 0 (by have := HN.out; omega)
        injection ev with ev1 ev2 ev3
        subst ev1
        have up : ∀ {q : Addr} {u : Value}, w3.cell? q = some u → wr.cell? q = some u := fun {q u} h => (HW.out.cell (World.block_lt_of_cell? w3 q h)).trans h
        replace x0 := up x0
        replace x1 := up x1
        replace x2 := up x2
        have HX : Hid (RexP wr (fun q => (p q ∨ wa.heap.size ≤ q) ∧ q < w3.heap.size) x (.int .i64 x.kind) (.slice A2 x.set.length c2) (.slice K2 x.kids.length k2)) := Lib.hid ((hx.mono (p' := fun q => (p q ∨ wa.heap.size ≤ q) ∧ q < w3.heap.size) fun b hb => hb.1).under HW.out)
        have EX : Hid (bl[0]? = some x) := ex
        have HXW : Hid (wf x) := HWF.out x (List.mem_of_getElem? ex)
        clear ev2 ev3 ex eL hx up
        have E : Hid (nAnd a b = x) := and_head HBL.out HF.out hk0 EX.out
        have j2 : (0 : Int) < (n : Int) := by omega
        have B6 := HW
        have HX6 := HX
        simp only [Nat.zero_mul, Nat.zero_add] at x0 x1 x2
        clear hk0
        go_wp2_with (first
          | ((with_reducible refine at_st 4 42 ?_); refine ev_store (o := ⟨none, .store _ (.tmp 4) _, _, _, _, _⟩) rfl rfl TRx (.tmp 4) (.tmp 42) rfl (w.heap.size + 2) 0 rfl [.int .i64 x.kind, .slice A2 x.set.length c2, .slice K2 x.kids.length k2] rfl _ TRx MRb.out (sizeRx' _ _ _) (by show 0 + 3 ≤ 3; omega) (three_one _ _ _ _ _ _ _) ?_; intro w5 hX5 hg5; have HX5 : Hid (Blk w5 (w.heap.size + 2) ([.int .i64 x.kind, .slice A2 x.set.length c2, .slice K2 x.kids.length k2]).toArray TRx) := hX5; have HG5 := Lib.hid hg5; clear hX5 hg5)
          | fail)
        refine bodyPost_ret (results_cell_row rfl _ _ (w.heap.size + 2) TRx _ (0, 0) _ rfl HX5.out.eq Tryz.underlying26 rfl (by rw [sizeRx]; rfl)) rfl ?_
        rw [E.out]
        exact rex_fin rfl rfl HP.out (HX6.out.mono fun q hq => ⟨fun e => by rcases hq.1 with h | h; have := HP.out q h; omega; omega, hq.1.imp id fun h => by omega⟩) (below_then (below_then BW.out B3.out) B6.out) HG5.out (by omega)
      · have hk0 : kept bl ≠ [] := fun e => hm0 (by rw [HM.out, e]; rfl)
        have E : Hid (nAnd a b = chain 6 (kept bl)) := and_chain HBL.out HF.out hk0
        have d1 : ((m : Int) == 0) = false := by simp [hm0]
        have d2 : ¬ (m : Int) = 0 := by omega
        have CC : Hid (Calls Tryz.prog 136 #[.slice A6 m c6, .int .i64 6] wr (RexPost (fun q => (p q ∨ wa.heap.size ≤ q) ∧ q < w3.heap.size) (chain 6 (kept bl)) wr)) := Lib.hid (sChain_c 6 (kept bl) A6 m c6 L6 wr w3.heap.size _ HK.out HM.out hk0 (fun q hq => by have := hq.2; omega))
        obtain ⟨T, hT⟩ : ∃ z, z = chain 6 (kept bl) := ⟨_, rfl⟩
        rw [← hT] at CC E
        clear hT hm0 hk0
        go_wp2_with (first
          | ((with_reducible refine CC.out.mono ?_); rintro e w6 ⟨A7, c7, K7, k7, rfl, hx6, hb6⟩; have MRc := Lib.hid (MRb.out.below hb6); have B6 := Lib.hid (below_then HW.out hb6); have HX6 := Lib.hid hx6; clear hb6 hx6)
          | ((with_reducible refine at_st 4 44 ?_); refine ev_store (o := ⟨none, .store _ (.tmp 4) _, _, _, _, _⟩) rfl rfl TRx (.tmp 4) (.tmp 44) rfl (w.heap.size + 2) 0 rfl [.int .i64 T.kind, .slice A7 T.set.length c7, .slice K7 T.kids.length k7] rfl _ TRx MRc.out (sizeRx' _ _ _) (by show 0 + 3 ≤ 3; omega) (three_one _ _ _ _ _ _ _) ?_; intro w5 hX5 hg5; have HX5 : Hid (Blk w5 (w.heap.size + 2) ([.int .i64 T.kind, .slice A7 T.set.length c7, .slice K7 T.kids.length k7]).toArray TRx) := hX5; have HG5 := Lib.hid hg5; clear hX5 hg5)
          | fail)
        refine bodyPost_ret (results_cell_row rfl _ _ (w.heap.size + 2) TRx _ (0, 0) _ rfl HX5.out.eq Tryz.underlying26 rfl (by rw [sizeRx]; rfl)) rfl ?_
        rw [E.out]
        exact rex_fin rfl rfl HP.out (HX6.out.mono fun q hq => by
          rcases hq with hq | hq
          · exact ⟨fun e => by rcases hq.1 with h | h; have := HP.out q h; omega; omega, hq.1.imp id fun h => by omega⟩
          · exact ⟨fun e => by omega, .inr (by omega)⟩) (below_then (below_then BW.out B3.out) B6.out) HG5.out (by omega)
end Go.Proofs.YtfeidjjabjejiaaGreatDoor
