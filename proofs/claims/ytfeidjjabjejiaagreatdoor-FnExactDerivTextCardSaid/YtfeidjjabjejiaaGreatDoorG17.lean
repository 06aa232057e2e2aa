/- Texts joined for the claims: Y3 Ye. -/
import Derived.Test.YtfeidjjabjejiaaGreatDoorG8
import Derived.Test.YtfeidjjabjejiaaGreatDoorG16
/- Is it all, by the program and by the reference; all that a chain joins, by the program. -/
namespace Go.Proofs.YtfeidjjabjejiaaGreatDoor
set_option linter.unusedSimpArgs false
set_option linter.unusedVariables false
set_option maxRecDepth 100000
open Go.RowKit

theorem isAll_of {r x : Rex} (hk : r.kind = 7) (he : r.kids = [x]) : isAll r = isNo x := by
  unfold isAll kid0
  rw [decide_eq_true hk, he]
  rfl
theorem isAll_no {r : Rex} (hk : r.kind ≠ 7) : isAll r = false := by
  unfold isAll
  rw [decide_eq_false hk]
  rfl
set_option maxHeartbeats 1000000 in
theorem iAll_c (r : Rex) (v1 v2 : Value) (w : World) (p : Nat → Prop) (hwf : wf r) (h : RexP w p r (.int .i64 r.kind) v1 v2) :
    Calls Tryz.prog 118 #[.agg #[.int .i64 r.kind, v1, v2]] w fun e w' => e = .returned (.bool (isAll r)) ∧ Below w.heap.size w w' := by
  obtain ⟨A, c, K, ck, _, rfl, rfl, hs, hk⟩ := h.parts
  obtain ⟨wa, hwa⟩ : ∃ x, x = w.alloc (.cells #[.int .i64 r.kind, .slice A r.set.length c, .slice K r.kids.length ck] TRx) := ⟨_, rfl⟩
  have hb : Below w.heap.size w wa := by rw [hwa]; exact below_alloc (Below.refl _ _) _
  have m0 : Blk wa w.heap.size #[.int .i64 r.kind, .slice A r.set.length c, .slice K r.kids.length ck] TRx := by rw [hwa]; exact blk_new w _ _
  replace hwa := hwa.symm
  have HB := Lib.hid hb
  have n0 : wa.cell? ⟨w.heap.size, 0, none⟩ = some (.int .i64 r.kind) := by rw [m0.cell]; rfl
  have n2 : wa.cell? ⟨w.heap.size, 2, none⟩ = some (.slice K r.kids.length ck) := by rw [m0.cell]; rfl
  by_cases k7 : r.kind = 7
  · obtain ⟨x, er, wx⟩ := wf_kids1 hwf (.inr k7)
    have ek : r.kids = [x] := by rw [er]; rfl
    have E : Hid (isAll r = isNo x) := isAll_of k7 ek
    rw [ek] at hk n2 hwa
    obtain ⟨ad, A1, c1, K1, d1, rfl, hx, x0, x1, x2⟩ := hk.one
    have HX := Lib.hid (hx.under hb)
    have y0 := (hb.cell (World.block_lt_of_cell? w _ x0)).trans x0
    have y1 := (hb.cell (World.block_lt_of_cell? w _ x1)).trans x1
    have y2 := (hb.cell (World.block_lt_of_cell? w _ x2)).trans x2
    have d7 : (r.kind == 7) = true := by simp [k7]
    rw [ek]
    simp only [List.length_cons, List.length_nil, Nat.zero_add] at hwa n2 ⊢
    clear er k7 hk hs hx x0 x1 x2 hb m0 h wx hwf ek
    go_enter Tryz.func118, Tryz.ntmps118
    go_wp2_with fail
    refine (iNo_c x _ _ wa 0 HX.out.rexv).mono ?_
    rintro e w1 ⟨rfl, b1⟩
    go_wp2_with fail
    go_ret
    exact ⟨ret_bool E.out.symm, below_then HB.out b1⟩
  · have E : Hid (isAll r = false) := isAll_no k7
    have d7 : (r.kind == 7) = false := by simp [k7]
    clear k7 hk hs hb m0 h hwf
    go_enter Tryz.func118, Tryz.ntmps118
    go_wp2_with fail
    go_ret
    exact ⟨ret_bool E.out.symm, HB.out⟩
set_option maxHeartbeats 1000000 in
theorem sAll_c (r : Rex) (v1 v2 : Value) (w : World) (p : Nat → Prop) (hwf : wf r) (h : RexP w p r (.int .i64 r.kind) v1 v2) :
    Calls Tryz.prog 135 #[.agg #[.int .i64 r.kind, v1, v2]] w fun e w' => e = .returned (.bool (isAll r)) ∧ Below w.heap.size w w' := by
  obtain ⟨A, c, K, ck, _, rfl, rfl, hs, hk⟩ := h.parts
  obtain ⟨wa, hwa⟩ : ∃ x, x = w.alloc (.cells #[.int .i64 r.kind, .slice A r.set.length c, .slice K r.kids.length ck] TRx) := ⟨_, rfl⟩
  have hb : Below w.heap.size w wa := by rw [hwa]; exact below_alloc (Below.refl _ _) _
  have m0 : Blk wa w.heap.size #[.int .i64 r.kind, .slice A r.set.length c, .slice K r.kids.length ck] TRx := by rw [hwa]; exact blk_new w _ _
  replace hwa := hwa.symm
  have HB := Lib.hid hb
  have n0 : wa.cell? ⟨w.heap.size, 0, none⟩ = some (.int .i64 r.kind) := by rw [m0.cell]; rfl
  have n2 : wa.cell? ⟨w.heap.size, 2, none⟩ = some (.slice K r.kids.length ck) := by rw [m0.cell]; rfl
  by_cases k7 : r.kind = 7
  · obtain ⟨x, er, wx⟩ := wf_kids1 hwf (.inr k7)
    have ek : r.kids = [x] := by rw [er]; rfl
    have E : Hid (isAll r = isNo x) := isAll_of k7 ek
    rw [ek] at hk n2 hwa
    obtain ⟨ad, A1, c1, K1, d1, rfl, hx, x0, x1, x2⟩ := hk.one
    have HX := Lib.hid (hx.under hb)
    have y0 := (hb.cell (World.block_lt_of_cell? w _ x0)).trans x0
    have y1 := (hb.cell (World.block_lt_of_cell? w _ x1)).trans x1
    have y2 := (hb.cell (World.block_lt_of_cell? w _ x2)).trans x2
    have d7 : (r.kind == 7) = true := by simp [k7]
    rw [ek]
    simp only [List.length_cons, List.length_nil, Nat.zero_add] at hwa n2 ⊢
    clear er k7 hk hs hx x0 x1 x2 hb m0 h wx hwf ek
    go_enter Tryz.func135, Tryz.ntmps135
    go_wp2_with fail
    refine (sNo_c x _ _ wa 0 HX.out.rexv).mono ?_
    rintro e w1 ⟨rfl, b1⟩
    go_wp2_with fail
    go_ret
    exact ⟨ret_bool E.out.symm, below_then HB.out b1⟩
  · have E : Hid (isAll r = false) := isAll_no k7
    have d7 : (r.kind == 7) = false := by simp [k7]
    clear k7 hk hs hb m0 h hwf
    go_enter Tryz.func135, Tryz.ntmps135
    go_wp2_with fail
    go_ret
    exact ⟨ret_bool E.out.symm, HB.out⟩

end Go.Proofs.YtfeidjjabjejiaaGreatDoor

/- One of two, made simpler: normOr of the program, l4Or of the reference. -/
namespace Go.Proofs.YtfeidjjabjejiaaGreatDoor
set_option linter.unusedSimpArgs false
set_option linter.unusedVariables false
set_option maxRecDepth 100000
open Go.RowKit

theorem bagT {k : Int} (hk : k = 4 ∨ k = 6) {a b : Rex} (wx : wf a) (wy : wf b) (sa : a.size ≤ 1048576) (sb : b.size ≤ 1048576) : ∀ x, x ∈ lst k a ++ lst k b → ∃ d, formed d x = true ∧ x.size ≤ 1048576 := fun x hx => by
  have la := lst_mem (k := k) a wx (by omega)
  have lb := lst_mem (k := k) b wy (by omega)
  rcases List.mem_append.1 hx with hx | hx
  · obtain ⟨⟨d, hd⟩, _, hs⟩ := la.2 x hx
    exact ⟨d, hd, by omega⟩
  · obtain ⟨⟨d, hd⟩, _, hs⟩ := lb.2 x hx
    exact ⟨d, hd, by omega⟩
theorem bagS {k : Int} (hk : k = 4 ∨ k = 6) {a b : Rex} (wx : wf a) (wy : wf b) : ∀ s, bagSet k (lst k a ++ lst k b) = some s → ∃ d, formed d (.mk 1 s []) = true ∧ (Rex.mk 1 s []).size ≤ 1048576 := fun s hs => by
  have la := lst_mem (k := k) a wx (by omega)
  have lb := lst_mem (k := k) b wy (by omega)
  have ok := bagSet_ok (fun y hy => by
    rcases List.mem_append.1 hy with hy | hy
    · exact (la.2 y hy).1
    · exact (lb.2 y hy).1) s hs
  obtain ⟨d, hd⟩ := wf_set ok
  exact ⟨d, hd, by have := ok_len128 ok; simp [Rex.size, sizeL]; omega⟩
theorem bag_len {k : Int} (hk : k = 4 ∨ k = 6) {a b : Rex} (wx : wf a) (wy : wf b) : (bag k a b).length ≤ a.many + b.many + 1 := by
  have h1 := sortU_len (bagItems k (lst k a ++ lst k b))
  have h2 := items_len k (lst k a ++ lst k b)
  have h3 := lst_len hk wx
  have h4 := lst_len hk wy
  rw [List.length_append] at h2
  unfold bag
  omega
theorem find_at {q : Rex → Bool} : ∀ {l : List Rex} {i : Nat} {x : Rex}, l[i]? = some x → (∀ y ∈ l.take i, q y = false) → q x = true → l.find? q = some x
  | [], i, x, h, _, _ => by simp at h
  | y :: l, 0, x, h, _, hq => by
    obtain rfl : y = x := by simpa using h
    rw [List.find?_cons, hq]
  | y :: l, i + 1, x, h, hn, hq => by
    rw [List.find?_cons, hn y (by simp)]
    exact find_at (l := l) (i := i) (by simpa using h) (fun z hz => hn z (by simp [hz])) hq
theorem find_none {q : Rex → Bool} {l : List Rex} (h : ∀ y ∈ l, q y = false) : l.find? q = none := List.find?_eq_none.2 fun y hy => by rw [h y hy]; decide
theorem take_all {p : Rex → Prop} {l : List Rex} {i : Nat} {x : Rex} (h : l[i]? = some x) (hp : ∀ y ∈ l.take i, p y) (hx : p x) : ∀ y ∈ l.take (i + 1), p y := fun y hy => by
  rw [takeSnoc h] at hy
  rcases List.mem_append.1 hy with hy | hy
  · exact hp y hy
  · rw [List.mem_singleton.1 hy]; exact hx
set_option maxHeartbeats 1000000 in
theorem iOr_c (a b : Rex) (u1 u2 v1 v2 : Value) (w : World) (p : Nat → Prop) (wx : wf a) (wy : wf b) (ha : RexP w p a (.int .i64 a.kind) u1 u2) (hb : RexP w p b (.int .i64 b.kind) v1 v2) (hp : ∀ q, p q → q < w.heap.size) (sa : a.size ≤ 1048576) (sb : b.size ≤ 1048576) (hm : a.many + b.many ≤ 2097152) (hpw : Pow10 w) :
    Calls Tryz.prog 67 #[.agg #[.int .i64 a.kind, u1, u2], .agg #[.int .i64 b.kind, v1, v2]] w (RexPost p (nOr a b) w) := by
  obtain ⟨A, c, K, ck, _, rfl, rfl, _, _⟩ := ha.parts
  obtain ⟨B, d, K', dk, _, rfl, rfl, _, _⟩ := hb.parts
  obtain ⟨wa, hwa⟩ : ∃ x, x = ((w.alloc (.cells #[.int .i64 a.kind, .slice A a.set.length c, .slice K a.kids.length ck] TRx)).alloc (.cells #[.int .i64 b.kind, .slice B b.set.length d, .slice K' b.kids.length dk] TRx)).alloc (.cells #[.int .i64 0, nilS, nilS] TRx) := ⟨_, rfl⟩
  have hbw : Below w.heap.size w wa := by rw [hwa]; exact below_alloc (below_alloc (below_alloc (Below.refl _ _) _) _) _
  have hz1 : wa.heap.size = w.heap.size + 3 := by rw [hwa]; simp
  have MA : Hid (Blk wa w.heap.size #[.int .i64 a.kind, .slice A a.set.length c, .slice K a.kids.length ck] TRx) := by rw [hwa]; exact ((blk_new w _ _).alloc _).alloc _
  have MB : Hid (Blk wa (w.heap.size + 1) #[.int .i64 b.kind, .slice B b.set.length d, .slice K' b.kids.length dk] TRx) := by
    rw [hwa]
    have := (blk_new (w.alloc (.cells #[.int .i64 a.kind, .slice A a.set.length c, .slice K a.kids.length ck] TRx)) #[.int .i64 b.kind, .slice B b.set.length d, .slice K' b.kids.length dk] TRx).alloc (.cells #[.int .i64 0, nilS, nilS] TRx)
    rw [show (w.alloc (.cells #[.int .i64 a.kind, .slice A a.set.length c, .slice K a.kids.length ck] TRx)).heap.size = w.heap.size + 1 by simp] at this
    exact this
  have MR : Hid (Blk wa (w.heap.size + 2) #[.int .i64 0, nilS, nilS] TRx) := by
    rw [hwa]
    have := blk_new ((w.alloc (.cells #[.int .i64 a.kind, .slice A a.set.length c, .slice K a.kids.length ck] TRx)).alloc (.cells #[.int .i64 b.kind, .slice B b.set.length d, .slice K' b.kids.length dk] TRx)) #[.int .i64 0, nilS, nilS] TRx
    rw [show ((w.alloc (.cells #[.int .i64 a.kind, .slice A a.set.length c, .slice K a.kids.length ck] TRx)).alloc (.cells #[.int .i64 b.kind, .slice B b.set.length d, .slice K' b.kids.length dk] TRx)).heap.size = w.heap.size + 2 by simp] at this
    exact this
  have HZ := Lib.hid hz1
  replace hwa := hwa.symm
  have HA := Lib.hid (ha.under hbw)
  have HB := Lib.hid (hb.under hbw)
  have BW := Lib.hid hbw
  have HP := Lib.hid hp
  clear hbw hz1 ha hb hp
  have n0 : wa.cell? ⟨w.heap.size, 0, none⟩ = some (.int .i64 a.kind) := by rw [MA.out.cell]; rfl
  have n1 : wa.cell? ⟨w.heap.size, 1, none⟩ = some (.slice A a.set.length c) := by rw [MA.out.cell]; rfl
  have n2 : wa.cell? ⟨w.heap.size, 2, none⟩ = some (.slice K a.kids.length ck) := by rw [MA.out.cell]; rfl
  have m0 : wa.cell? ⟨w.heap.size + 1, 0, none⟩ = some (.int .i64 b.kind) := by rw [MB.out.cell]; rfl
  have m1 : wa.cell? ⟨w.heap.size + 1, 1, none⟩ = some (.slice B b.set.length d) := by rw [MB.out.cell]; rfl
  have m2 : wa.cell? ⟨w.heap.size + 1, 2, none⟩ = some (.slice K' b.kids.length dk) := by rw [MB.out.cell]; rfl
  have hwz0 := BW.out.size
  have BG : Hid (Calls Tryz.prog 117 #[.int .i64 4, .agg #[.int .i64 a.kind, .slice A a.set.length c, .slice K a.kids.length ck], .agg #[.int .i64 b.kind, .slice B b.set.length d, .slice K' b.kids.length dk]] wa (ListPost wa.heap.size (fun q => p q ∨ wa.heap.size ≤ q) (bag 4 a b) wa)) := Lib.hid (iBag_c a b 4 _ _ _ _ wa p (.inl rfl) wx wy HA.out HB.out (fun q hq => by have := HP.out q hq; omega) hm (bagT (.inl rfl) wx wy sa sb) (bagS (.inl rfl) wx wy) (hpw.below BW.out))
  obtain ⟨bl, hbl⟩ : ∃ z, z = bag 4 a b := ⟨_, rfl⟩
  have HBL := Lib.hid hbl
  have hbm := bag_mem (k := 4) (by decide) wx wy
  have hbn := bag_len (k := 4) (by decide) wx wy
  rw [← hbl] at hbm BG hbn
  have HNE : Hid (bl ≠ []) := hbm.1
  have HWF : Hid (∀ x ∈ bl, wf x) := hbm.2
  have hR : w.heap.size + 2 < wa.heap.size := by have := HZ.out; omega
  clear hbm hbl HA HB MA MB
  go_enter Tryz.func67, Tryz.ntmps67
  go_wp2_with ((with_reducible refine BG.out.mono ?_); rintro e w3 ⟨A3, n, c3, L, rfl, hn, ho, hb3⟩; replace hn := Lib.hid hn; replace ho := Lib.hid ho; replace hb3 := Lib.hid hb3)
  clear hwa n0 n1 n2 m0 m1 m2 BG
  have HN : Hid (n = bl.length) := hn
  have HO : Hid (OwnR w3 wa.heap.size (fun q => (p q ∨ wa.heap.size ≤ q) ∧ q < w3.heap.size) (.slice A3 n c3) bl L) := Lib.hid ho.out.lt
  have B3 : Hid (Below wa.heap.size wa w3) := hb3
  have hnm : n ≤ 2097153 := by have := HN.out; omega
  have MR3 := Lib.hid (MR.out.below B3.out)
  have HNP : 0 < n := by rw [HN.out]; exact List.length_pos_iff.2 HNE.out
  have h3z := B3.out.size
  clear hn ho hb3 MR
  go_loopg [13] n (fun q v13 wr => ∃ i : Nat, v13 = .int .i64 (i : Int) ∧ q + i = n ∧ Hid (∀ x ∈ bl.take i, isAll x = false) ∧ Hid (Below w3.heap.size w3 wr))
  case atStart => exact ⟨0, rfl, by omega, fun x hx => by simp at hx, Below.refl _ _⟩
  case round =>
    obtain ⟨i, rfl, hqi, HF, HW⟩ := hrel
    have h3r := HW.out.size
    by_cases hin : i < n
    · obtain ⟨g', cap', x, A2, c2, K2, k2, ev, ex, eL, hx, x0, x1, x2⟩ := HO.out.at_ i (by have := HN.out; omega)
      injection ev with ev1 ev2 ev3
      subst ev1
      have up : ∀ {q : Addr} {u : Value}, w3.cell? q = some u → wr.cell? q = some u := fun {q u} h => (HW.out.cell (World.block_lt_of_cell? w3 q h)).trans h
      replace x0 := up x0
      replace x1 := up x1
      replace x2 := up x2
      have HX : Hid (RexP wr (fun q => (p q ∨ wa.heap.size ≤ q) ∧ q < w3.heap.size) x (.int .i64 x.kind) (.slice A2 x.set.length c2) (.slice K2 x.kids.length k2)) := Lib.hid ((hx.mono (p' := fun q => (p q ∨ wa.heap.size ≤ q) ∧ q < w3.heap.size) fun b hb => hb.1).under HW.out)
      have EX : Hid (bl[i]? = some x) := ex
      have HXW : Hid (wf x) := HWF.out x (List.mem_of_getElem? ex)
      clear ev2 ev3 ex eL hx up
      obtain ⟨wb, hwb⟩ : ∃ y, y = wr.alloc (.cells #[.int .i64 x.kind, .slice A2 x.set.length c2, .slice K2 x.kids.length k2] TRx) := ⟨_, rfl⟩
      have HBB : Hid (Below wr.heap.size wr wb) := by rw [hwb]; exact below_alloc (Below.refl _ _) _
      have MX : Hid (Blk wb wr.heap.size #[.int .i64 x.kind, .slice A2 x.set.length c2, .slice K2 x.kids.length k2] TRx) := by rw [hwb]; exact blk_new wr _ _
      have hzb : wr.heap.size < wb.heap.size := by rw [hwb]; simp
      replace hwb := hwb.symm
      have y0 : wb.cell? ⟨wr.heap.size, 0, none⟩ = some (.int .i64 x.kind) := by rw [MX.out.cell]; rfl
      have y1 : wb.cell? ⟨wr.heap.size, 1, none⟩ = some (.slice A2 x.set.length c2) := by rw [MX.out.cell]; rfl
      have y2 : wb.cell? ⟨wr.heap.size, 2, none⟩ = some (.slice K2 x.kids.length k2) := by rw [MX.out.cell]; rfl
      have j0 : (0 : Int) ≤ (i : Int) := by omega
      have j1 : (i : Int) < (n : Int) := by omega
      have IC := Lib.hid (iAll_c x _ _ wb _ HXW.out (HX.out.under HBB.out))
      have MRb := Lib.hid (MR3.out.below (below_then HW.out HBB.out))
      cases hall : isAll x
      · rw [hall] at IC
        go_wp2_with ((with_reducible refine IC.out.mono ?_); rintro e w5 ⟨rfl, hb5⟩; replace hb5 := Lib.hid hb5)
        go_roundg (gk - 1)
        case measure => omega
        case rel => exact ⟨i + 1, by go_num, by omega, take_all EX.out HF.out hall, below_then (below_then HW.out HBB.out) hb5.out⟩
      · rw [hall] at IC
        have E : Hid (nOr a b = x) := by
          show _ = _
          unfold nOr
          rw [← HBL.out, find_at EX.out HF.out hall]
        go_wp2_with (first
          | ((with_reducible refine IC.out.mono ?_); rintro e w6 ⟨rfl, hb6⟩; have z0 : w6.cell? ⟨wr.heap.size, 0, none⟩ = some (.int .i64 x.kind) := (by rw [(MX.out.below hb6).cell]; rfl); have z1 : w6.cell? ⟨wr.heap.size, 1, none⟩ = some (.slice A2 x.set.length c2) := (by rw [(MX.out.below hb6).cell]; rfl); have z2 : w6.cell? ⟨wr.heap.size, 2, none⟩ = some (.slice K2 x.kids.length k2) := (by rw [(MX.out.below hb6).cell]; rfl); have MRc := Lib.hid (MRb.out.below hb6); have B6 := Lib.hid (below_then (below_then HW.out HBB.out) hb6); have HX6 := Lib.hid ((HX.out.under HBB.out).under hb6); clear hb6)
          | ((with_reducible refine at_st 4 19 ?_); refine ev_store (o := ⟨none, .store _ (.tmp 4) _, _, _, _, _⟩) rfl rfl TRx (.tmp 4) (.tmp 19) rfl (w.heap.size + 2) 0 rfl [.int .i64 x.kind, .slice A2 x.set.length c2, .slice K2 x.kids.length k2] rfl _ TRx MRc.out (sizeRx' _ _ _) (by show 0 + 3 ≤ 3; omega) (three_one _ _ _ _ _ _ _) ?_; intro w5 hX5 hg5; have HX5 : Hid (Blk w5 (w.heap.size + 2) ([.int .i64 x.kind, .slice A2 x.set.length c2, .slice K2 x.kids.length k2]).toArray TRx) := hX5; have HG5 := Lib.hid hg5; clear hX5 hg5)
          | fail)
        refine bodyPost_ret (results_cell_row rfl _ _ (w.heap.size + 2) TRx _ (0, 0) _ rfl HX5.out.eq Tryz.underlying26 rfl (by rw [sizeRx]; rfl)) rfl ?_
        rw [E.out]
        exact rex_fin rfl rfl HP.out (HX6.out.mono fun q hq => ⟨fun e => by rcases hq.1 with h | h; have := HP.out q h; omega; omega, hq.1.imp id fun h => by omega⟩) (below_then (below_then BW.out B3.out) B6.out) HG5.out (by omega)
    · have et : bl.take i = bl := List.take_of_length_le (by have := HN.out; omega)
      rw [et] at HF
      obtain rfl : n = i := by omega
      have j1 : ¬ (n : Int) < (n : Int) := by omega
      have E : Hid (nOr a b = chain 4 bl) := by
        show _ = _
        unfold nOr
        rw [← HBL.out, find_none HF.out]
      have CC : Hid (Calls Tryz.prog 119 #[.int .i64 4, .slice A3 n c3] wr (RexPost (fun q => (p q ∨ wa.heap.size ≤ q) ∧ q < w3.heap.size) (chain 4 bl) wr)) := Lib.hid (iChain_c 4 bl A3 n c3 L wr wa.heap.size _ (HO.out.under HW.out) HN.out HNE.out (fun q hq => by have := hq.2; omega))
      obtain ⟨T, hT⟩ : ∃ z, z = chain 4 bl := ⟨_, rfl⟩
      rw [← hT] at CC E
      have MRb := Lib.hid (MR3.out.below HW.out)
      clear et hT
      go_wp2_with (first
        | ((with_reducible refine CC.out.mono ?_); rintro e w6 ⟨A6, c6, K6, k6, rfl, hx6, hb6⟩; have MRc := Lib.hid (MRb.out.below hb6); have B6 := Lib.hid (below_then HW.out hb6); have HX6 := Lib.hid hx6; clear hb6 hx6)
        | ((with_reducible refine at_st 4 22 ?_); refine ev_store (o := ⟨none, .store _ (.tmp 4) _, _, _, _, _⟩) rfl rfl TRx (.tmp 4) (.tmp 22) rfl (w.heap.size + 2) 0 rfl [.int .i64 T.kind, .slice A6 T.set.length c6, .slice K6 T.kids.length k6] rfl _ TRx MRc.out (sizeRx' _ _ _) (by show 0 + 3 ≤ 3; omega) (three_one _ _ _ _ _ _ _) ?_; intro w5 hX5 hg5; have HX5 : Hid (Blk w5 (w.heap.size + 2) ([.int .i64 T.kind, .slice A6 T.set.length c6, .slice K6 T.kids.length k6]).toArray TRx) := hX5; have HG5 := Lib.hid hg5; clear hX5 hg5)
        | fail)
      refine bodyPost_ret (results_cell_row rfl _ _ (w.heap.size + 2) TRx _ (0, 0) _ rfl HX5.out.eq Tryz.underlying26 rfl (by rw [sizeRx]; rfl)) rfl ?_
      rw [E.out]
      exact rex_fin rfl rfl HP.out (HX6.out.mono fun q hq => by
        rcases hq with hq | hq
        · exact ⟨fun e => by rcases hq.1 with h | h; have := HP.out q h; omega; omega, hq.1.imp id fun h => by omega⟩
        · exact ⟨fun e => by omega, .inr (by omega)⟩) (below_then (below_then BW.out B3.out) B6.out) HG5.out (by omega)
set_option maxHeartbeats 1000000 in
theorem sOr_c (a b : Rex) (u1 u2 v1 v2 : Value) (w : World) (p : Nat → Prop) (wx : wf a) (wy : wf b) (ha : RexP w p a (.int .i64 a.kind) u1 u2) (hb : RexP w p b (.int .i64 b.kind) v1 v2) (hp : ∀ q, p q → q < w.heap.size) (sa : a.size ≤ 1048576) (sb : b.size ≤ 1048576) (hm : a.many + b.many ≤ 2097152) :
    Calls Tryz.prog 96 #[.agg #[.int .i64 a.kind, u1, u2], .agg #[.int .i64 b.kind, v1, v2]] w (RexPost p (nOr a b) w) := by
  obtain ⟨A, c, K, ck, _, rfl, rfl, _, _⟩ := ha.parts
  obtain ⟨B, d, K', dk, _, rfl, rfl, _, _⟩ := hb.parts
  obtain ⟨wa, hwa⟩ : ∃ x, x = ((w.alloc (.cells #[.int .i64 a.kind, .slice A a.set.length c, .slice K a.kids.length ck] TRx)).alloc (.cells #[.int .i64 b.kind, .slice B b.set.length d, .slice K' b.kids.length dk] TRx)).alloc (.cells #[.int .i64 0, nilS, nilS] TRx) := ⟨_, rfl⟩
  have hbw : Below w.heap.size w wa := by rw [hwa]; exact below_alloc (below_alloc (below_alloc (Below.refl _ _) _) _) _
  have hz1 : wa.heap.size = w.heap.size + 3 := by rw [hwa]; simp
  have MA : Hid (Blk wa w.heap.size #[.int .i64 a.kind, .slice A a.set.length c, .slice K a.kids.length ck] TRx) := by rw [hwa]; exact ((blk_new w _ _).alloc _).alloc _
  have MB : Hid (Blk wa (w.heap.size + 1) #[.int .i64 b.kind, .slice B b.set.length d, .slice K' b.kids.length dk] TRx) := by
    rw [hwa]
    have := (blk_new (w.alloc (.cells #[.int .i64 a.kind, .slice A a.set.length c, .slice K a.kids.length ck] TRx)) #[.int .i64 b.kind, .slice B b.set.length d, .slice K' b.kids.length dk] TRx).alloc (.cells #[.int .i64 0, nilS, nilS] TRx)
    rw [show (w.alloc (.cells #[.int .i64 a.kind, .slice A a.set.length c, .slice K a.kids.length ck] TRx)).heap.size = w.heap.size + 1 by simp] at this
    exact this
  have MR : Hid (Blk wa (w.heap.size + 2) #[.int .i64 0, nilS, nilS] TRx) := by
    rw [hwa]
    have := blk_new ((w.alloc (.cells #[.int .i64 a.kind, .slice A a.set.length c, .slice K a.kids.length ck] TRx)).alloc (.cells #[.int .i64 b.kind, .slice B b.set.length d, .slice K' b.kids.length dk] TRx)) #[.int .i64 0, nilS, nilS] TRx
    rw [show ((w.alloc (.cells #[.int .i64 a.kind, .slice A a.set.length c, .slice K a.kids.length ck] TRx)).alloc (.cells #[.int .i64 b.kind, .slice B b.set.length d, .slice K' b.kids.length dk] TRx)).heap.size = w.heap.size + 2 by simp] at this
    exact this
  have HZ := Lib.hid hz1
  replace hwa := hwa.symm
  have HA := Lib.hid (ha.under hbw)
  have HB := Lib.hid (hb.under hbw)
  have BW := Lib.hid hbw
  have HP := Lib.hid hp
  clear hbw hz1 ha hb hp
  have n0 : wa.cell? ⟨w.heap.size, 0, none⟩ = some (.int .i64 a.kind) := by rw [MA.out.cell]; rfl
  have n1 : wa.cell? ⟨w.heap.size, 1, none⟩ = some (.slice A a.set.length c) := by rw [MA.out.cell]; rfl
  have n2 : wa.cell? ⟨w.heap.size, 2, none⟩ = some (.slice K a.kids.length ck) := by rw [MA.out.cell]; rfl
  have m0 : wa.cell? ⟨w.heap.size + 1, 0, none⟩ = some (.int .i64 b.kind) := by rw [MB.out.cell]; rfl
  have m1 : wa.cell? ⟨w.heap.size + 1, 1, none⟩ = some (.slice B b.set.length d) := by rw [MB.out.cell]; rfl
  have m2 : wa.cell? ⟨w.heap.size + 1, 2, none⟩ = some (.slice K' b.kids.length dk) := by rw [MB.out.cell]; rfl
  have hwz0 := BW.out.size
  have BG : Hid (Calls Tryz.prog 134 #[.agg #[.int .i64 a.kind, .slice A a.set.length c, .slice K a.kids.length ck], .agg #[.int .i64 b.kind, .slice B b.set.length d, .slice K' b.kids.length dk], .int .i64 4] wa (ListPost wa.heap.size (fun q => p q ∨ wa.heap.size ≤ q) (bag 4 a b) wa)) := Lib.hid (sBag_c a b 4 _ _ _ _ wa p (.inl rfl) wx wy HA.out HB.out (fun q hq => by have := HP.out q hq; omega) hm (bagT (.inl rfl) wx wy sa sb) (bagS (.inl rfl) wx wy))
  obtain ⟨bl, hbl⟩ : ∃ z, z = bag 4 a b := ⟨_, rfl⟩
  have HBL := Lib.hid hbl
  have hbm := bag_mem (k := 4) (by decide) wx wy
  have hbn := bag_len (k := 4) (by decide) wx wy
  rw [← hbl] at hbm BG hbn
  have HNE : Hid (bl ≠ []) := hbm.1
  have HWF : Hid (∀ x ∈ bl, wf x) := hbm.2
  have hR : w.heap.size + 2 < wa.heap.size := by have := HZ.out; omega
  clear hbm hbl HA HB MA MB
  go_enter Tryz.func96, Tryz.ntmps96
  go_wp2_with ((with_reducible refine BG.out.mono ?_); rintro e w3 ⟨A3, n, c3, L, rfl, hn, ho, hb3⟩; replace hn := Lib.hid hn; replace ho := Lib.hid ho; replace hb3 := Lib.hid hb3)
  clear hwa n0 n1 n2 m0 m1 m2 BG
  have HN : Hid (n = bl.length) := hn
  have HO : Hid (OwnR w3 wa.heap.size (fun q => (p q ∨ wa.heap.size ≤ q) ∧ q < w3.heap.size) (.slice A3 n c3) bl L) := Lib.hid ho.out.lt
  have B3 : Hid (Below wa.heap.size wa w3) := hb3
  have hnm : n ≤ 2097153 := by have := HN.out; omega
  have MR3 := Lib.hid (MR.out.below B3.out)
  have HNP : 0 < n := by rw [HN.out]; exact List.length_pos_iff.2 HNE.out
  have h3z := B3.out.size
  clear hn ho hb3 MR
  go_loopg [6] n (fun q v6 wr => ∃ i : Nat, v6 = .int .i64 (i : Int) ∧ q + i = n ∧ Hid (∀ x ∈ bl.take i, isAll x = false) ∧ Hid (Below w3.heap.size w3 wr))
  case atStart => exact ⟨0, rfl, by omega, fun x hx => by simp at hx, Below.refl _ _⟩
  case round =>
    obtain ⟨i, rfl, hqi, HF, HW⟩ := hrel
    have h3r := HW.out.size
    by_cases hin : i < n
    · obtain ⟨g', cap', x, A2, c2, K2, k2, ev, ex, eL, hx, x0, x1, x2⟩ := HO.out.at_ i (by have := HN.out; omega)
      injection ev with ev1 ev2 ev3
      subst ev1
      have up : ∀ {q : Addr} {u : Value}, w3.cell? q = some u → wr.cell? q = some u := fun {q u} h => (HW.out.cell (World.block_lt_of_cell? w3 q h)).trans h
      replace x0 := up x0
      replace x1 := up x1
      replace x2 := up x2
      have HX : Hid (RexP wr (fun q => (p q ∨ wa.heap.size ≤ q) ∧ q < w3.heap.size) x (.int .i64 x.kind) (.slice A2 x.set.length c2) (.slice K2 x.kids.length k2)) := Lib.hid ((hx.mono (p' := fun q => (p q ∨ wa.heap.size ≤ q) ∧ q < w3.heap.size) fun b hb => hb.1).under HW.out)
      have EX : Hid (bl[i]? = some x) := ex
      have HXW : Hid (wf x) := HWF.out x (List.mem_of_getElem? ex)
      clear ev2 ev3 ex eL hx up
      have j0 : (0 : Int) ≤ (i : Int) := by omega
      have j1 : (i : Int) < (n : Int) := by omega
      have IC := Lib.hid (sAll_c x _ _ wr _ HXW.out HX.out)
      cases hall : isAll x
      · rw [hall] at IC
        go_wp2_with ((with_reducible refine IC.out.mono ?_); rintro e w5 ⟨rfl, hb5⟩; replace hb5 := Lib.hid hb5)
        go_roundg (gk - 1)
        case measure => omega
        case rel => exact ⟨i + 1, by go_num, by omega, take_all EX.out HF.out hall, below_then HW.out hb5.out⟩
      · rw [hall] at IC
        have E : Hid (nOr a b = x) := by
          show _ = _
          unfold nOr
          rw [← HBL.out, find_at EX.out HF.out hall]
        have X0 := Lib.hid x0
        have X1 := Lib.hid x1
        have X2 := Lib.hid x2
        go_wp2_with (first
          | ((with_reducible refine IC.out.mono ?_); rintro e w6 ⟨rfl, hb6⟩; have up : ∀ {q : Addr} {u : Value}, wr.cell? q = some u → w6.cell? q = some u := (fun {q u} h => (hb6.cell (World.block_lt_of_cell? wr q h)).trans h); have z0 := up X0.out; have z1 := up X1.out; have z2 := up X2.out; clear up; have MRc := Lib.hid ((MR3.out.below HW.out).below hb6); have B6 := Lib.hid (below_then HW.out hb6); have HX6 := Lib.hid (HX.out.under hb6); clear hb6)
          | ((with_reducible refine at_st 4 24 ?_); refine ev_store (o := ⟨none, .store _ (.tmp 4) _, _, _, _, _⟩) rfl rfl TRx (.tmp 4) (.tmp 24) rfl (w.heap.size + 2) 0 rfl [.int .i64 x.kind, .slice A2 x.set.length c2, .slice K2 x.kids.length k2] rfl _ TRx MRc.out (sizeRx' _ _ _) (by show 0 + 3 ≤ 3; omega) (three_one _ _ _ _ _ _ _) ?_; intro w5 hX5 hg5; have HX5 : Hid (Blk w5 (w.heap.size + 2) ([.int .i64 x.kind, .slice A2 x.set.length c2, .slice K2 x.kids.length k2]).toArray TRx) := hX5; have HG5 := Lib.hid hg5; clear hX5 hg5)
          | fail)
        refine bodyPost_ret (results_cell_row rfl _ _ (w.heap.size + 2) TRx _ (0, 0) _ rfl HX5.out.eq Tryz.underlying26 rfl (by rw [sizeRx]; rfl)) rfl ?_
        rw [E.out]
        exact rex_fin rfl rfl HP.out (HX6.out.mono fun q hq => ⟨fun e => by rcases hq.1 with h | h; have := HP.out q h; omega; omega, hq.1.imp id fun h => by omega⟩) (below_then (below_then BW.out B3.out) B6.out) HG5.out (by omega)
    · have et : bl.take i = bl := List.take_of_length_le (by have := HN.out; omega)
      rw [et] at HF
      obtain rfl : n = i := by omega
      have j1 : ¬ (n : Int) < (n : Int) := by omega
      have E : Hid (nOr a b = chain 4 bl) := by
        show _ = _
        unfold nOr
        rw [← HBL.out, find_none HF.out]
      have CC : Hid (Calls Tryz.prog 136 #[.slice A3 n c3, .int .i64 4] wr (RexPost (fun q => (p q ∨ wa.heap.size ≤ q) ∧ q < w3.heap.size) (chain 4 bl) wr)) := Lib.hid (sChain_c 4 bl A3 n c3 L wr wa.heap.size _ (HO.out.under HW.out) HN.out HNE.out (fun q hq => by have := hq.2; omega))
      obtain ⟨T, hT⟩ : ∃ z, z = chain 4 bl := ⟨_, rfl⟩
      rw [← hT] at CC E
      have MRb := Lib.hid (MR3.out.below HW.out)
      clear et hT
      go_wp2_with (first
        | ((with_reducible refine CC.out.mono ?_); rintro e w6 ⟨A6, c6, K6, k6, rfl, hx6, hb6⟩; have MRc := Lib.hid (MRb.out.below hb6); have B6 := Lib.hid (below_then HW.out hb6); have HX6 := Lib.hid hx6; clear hb6 hx6)
        | ((with_reducible refine at_st 4 26 ?_); refine ev_store (o := ⟨none, .store _ (.tmp 4) _, _, _, _, _⟩) rfl rfl TRx (.tmp 4) (.tmp 26) rfl (w.heap.size + 2) 0 rfl [.int .i64 T.kind, .slice A6 T.set.length c6, .slice K6 T.kids.length k6] rfl _ TRx MRc.out (sizeRx' _ _ _) (by show 0 + 3 ≤ 3; omega) (three_one _ _ _ _ _ _ _) ?_; intro w5 hX5 hg5; have HX5 : Hid (Blk w5 (w.heap.size + 2) ([.int .i64 T.kind, .slice A6 T.set.length c6, .slice K6 T.kids.length k6]).toArray TRx) := hX5; have HG5 := Lib.hid hg5; clear hX5 hg5)
        | fail)
      refine bodyPost_ret (results_cell_row rfl _ _ (w.heap.size + 2) TRx _ (0, 0) _ rfl HX5.out.eq Tryz.underlying26 rfl (by rw [sizeRx]; rfl)) rfl ?_
      rw [E.out]
      exact rex_fin rfl rfl HP.out (HX6.out.mono fun q hq => by
        rcases hq with hq | hq
        · exact ⟨fun e => by rcases hq.1 with h | h; have := HP.out q h; omega; omega, hq.1.imp id fun h => by omega⟩
        · exact ⟨fun e => by omega, .inr (by omega)⟩) (below_then (below_then BW.out B3.out) B6.out) HG5.out (by omega)
end Go.Proofs.YtfeidjjabjejiaaGreatDoor
