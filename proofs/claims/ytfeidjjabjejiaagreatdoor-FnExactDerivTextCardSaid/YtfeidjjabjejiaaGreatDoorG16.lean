/- Texts joined for the claims: Yd. -/
import Derived.Test.YtfeidjjabjejiaaGreatDoorG14
import Derived.Test.YtfeidjjabjejiaaGreatDoorG15
import Derived.Deep.CutBlock
import Derived.Deep.DeepCutAuto
/- All that two join, by the program: the walk of 'bag'. -/
namespace Go.Proofs.YtfeidjjabjejiaaGreatDoor
set_option linter.unusedSimpArgs false
set_option linter.unusedVariables false
set_option maxRecDepth 100000
open Go.RowKit

theorem touch_grown {g : Nat} {w w' : World} (h : Touch [g] w w') : w.grownBy w' (some g) := ⟨h.os, h.tape, h.output, h.size, fun i hi hne => h.block i hi fun hm => hne (by rw [List.mem_singleton.1 hm])⟩
/-- is the set that is left kept? -/
def keepS (k : Int) (o : Option (List Sp)) (n : Nat) : Bool := match o with
  | none => false
  | some s => decide (s ≠ [] ∨ k = 6 ∨ n = 0)
theorem keep_no {k : Int} {o : Option (List Sp)} {n : Nat} (h : keepS k o n = false) : bagLast k o n = [] := by
  cases o with
  | none => rfl
  | some s => exact if_neg (of_decide_eq_false h)
theorem keep_yes {k : Int} {s : List Sp} {n : Nat} (h : keepS k (some s) n = true) : bagLast k (some s) n = [.mk 1 s []] := if_pos (of_decide_eq_true h)
theorem items_len (k : Int) (l : List Rex) : (bagItems k l).length ≤ l.length + 1 := by
  have h1 := others_len l
  have h2 : (bagLast k (bagSet k l) (bagOthers l).length).length ≤ 1 := by
    unfold bagLast
    split
    · simp
    · split <;> simp
  unfold bagItems
  rw [List.length_append]
  omega
theorem zip_at {l : List Rex} {L : List KInfo} {i : Nat} {x : Rex} {y : KInfo} (h : l[i]? = some x) (h' : L[i]? = some y) : (l.zip L)[i]? = some (x, y) := by
  rw [List.getElem?_zip_eq_some]
  exact ⟨h, h'⟩
theorem zip_fst {l : List Rex} {L : List KInfo} (h : L.length = l.length) (i : Nat) : (((l.zip L).take i).map fun p => rexTxt p.1) = (l.take i).map rexTxt := by
  have e : (l.zip L).map Prod.fst = l := List.map_fst_zip (by omega)
  have e2 : ((l.zip L).take i).map Prod.fst = l.take i := by rw [List.map_take, e]
  rw [← e2, List.map_map]
  rfl
theorem below_both {n : Nat} {w w1 w2 : World} (h : Below n w w1) (k : Below n w1 w2) : Below n w w2 :=
  ⟨k.os.trans h.os, k.tape.trans h.tape, k.output.trans h.output, Nat.le_trans h.size k.size, fun i hi => (k.block i hi).trans (h.block i hi)⟩
set_option maxHeartbeats 2000000 in
theorem iBag_c (a b : Rex) (k : Int) (u1 u2 v1 v2 : Value) (w : World) (p : Nat → Prop) (hk : k = 4 ∨ k = 6) (wx : wf a) (wy : wf b) (ha : RexP w p a (.int .i64 a.kind) u1 u2) (hb : RexP w p b (.int .i64 b.kind) v1 v2) (hp : ∀ q, p q → q < w.heap.size) (hm : a.many + b.many ≤ 2097152)
    (hT : ∀ x, x ∈ lst k a ++ lst k b → ∃ d, formed d x = true ∧ x.size ≤ 1048576) (hS : ∀ s, bagSet k (lst k a ++ lst k b) = some s → ∃ d, formed d (.mk 1 s []) = true ∧ (Rex.mk 1 s []).size ≤ 1048576) (hpw : Pow10 w) :
    Calls Tryz.prog 117 #[.int .i64 k, .agg #[.int .i64 a.kind, u1, u2], .agg #[.int .i64 b.kind, v1, v2]] w (ListPost w.heap.size (fun q => p q ∨ w.heap.size ≤ q) (bag k a b) w) := by
  obtain ⟨A, c, KA, ck, _, rfl, rfl, _, _⟩ := ha.parts
  obtain ⟨B, d, KB, dk, _, rfl, rfl, _, _⟩ := hb.parts
  obtain ⟨wa, hwa⟩ : ∃ x, x = ((w.alloc (.cells #[.int .i64 a.kind, .slice A a.set.length c, .slice KA a.kids.length ck] TRx)).alloc (.cells #[.int .i64 b.kind, .slice B b.set.length d, .slice KB b.kids.length dk] TRx)).alloc (.cells #[.int .i64 1, nilS, nilS] TRx) := ⟨_, rfl⟩
  have hbw : Below w.heap.size w wa := by rw [hwa]; exact below_alloc (below_alloc (below_alloc (Below.refl _ _) _) _) _
  have hz1 : wa.heap.size = w.heap.size + 3 := by rw [hwa]; simp
  have MA : Hid (Blk wa w.heap.size #[.int .i64 a.kind, .slice A a.set.length c, .slice KA a.kids.length ck] TRx) := by rw [hwa]; exact ((blk_new w _ _).alloc _).alloc _
  have MB : Hid (Blk wa (w.heap.size + 1) #[.int .i64 b.kind, .slice B b.set.length d, .slice KB b.kids.length dk] TRx) := by
    rw [hwa]
    have := (blk_new (w.alloc (.cells #[.int .i64 a.kind, .slice A a.set.length c, .slice KA a.kids.length ck] TRx)) #[.int .i64 b.kind, .slice B b.set.length d, .slice KB b.kids.length dk] TRx).alloc (.cells #[.int .i64 1, nilS, nilS] TRx)
    rw [show (w.alloc (.cells #[.int .i64 a.kind, .slice A a.set.length c, .slice KA a.kids.length ck] TRx)).heap.size = w.heap.size + 1 by simp] at this
    exact this
  have MR : Hid (Blk wa (w.heap.size + 2) #[.int .i64 1, nilS, nilS] TRx) := by
    rw [hwa]
    have := blk_new ((w.alloc (.cells #[.int .i64 a.kind, .slice A a.set.length c, .slice KA a.kids.length ck] TRx)).alloc (.cells #[.int .i64 b.kind, .slice B b.set.length d, .slice KB b.kids.length dk] TRx)) #[.int .i64 1, nilS, nilS] TRx
    rw [show ((w.alloc (.cells #[.int .i64 a.kind, .slice A a.set.length c, .slice KA a.kids.length ck] TRx)).alloc (.cells #[.int .i64 b.kind, .slice B b.set.length d, .slice KB b.kids.length dk] TRx)).heap.size = w.heap.size + 2 by simp] at this
    exact this
  have HZ : Hid (w.heap.size + 3 = wa.heap.size) := hz1.symm
  replace hwa := hwa.symm
  have HA := Lib.hid (ha.under hbw)
  have HB := Lib.hid (hb.under hbw)
  have BW := Lib.hid hbw
  have HP := Lib.hid hp
  have HTT := Lib.hid hT
  have HSS := Lib.hid hS
  have HPW := Lib.hid hpw
  have WX := Lib.hid wx
  have WY := Lib.hid wy
  have hlx := lst_len hk wx
  have hly := lst_len hk wy
  have HC : Hid (∀ w' : World, Below wa.heap.size wa w' → w'.cell? ⟨w.heap.size, 0, none⟩ = some (.int .i64 a.kind) ∧ w'.cell? ⟨w.heap.size, 1, none⟩ = some (.slice A a.set.length c) ∧ w'.cell? ⟨w.heap.size, 2, none⟩ = some (.slice KA a.kids.length ck) ∧
      w'.cell? ⟨w.heap.size + 1, 0, none⟩ = some (.int .i64 b.kind) ∧ w'.cell? ⟨w.heap.size + 1, 1, none⟩ = some (.slice B b.set.length d) ∧ w'.cell? ⟨w.heap.size + 1, 2, none⟩ = some (.slice KB b.kids.length dk)) := fun w' h => by
    have M := MA.out.below h
    have N := MB.out.below h
    exact ⟨by rw [M.cell]; rfl, by rw [M.cell]; rfl, by rw [M.cell]; rfl, by rw [N.cell]; rfl, by rw [N.cell]; rfl, by rw [N.cell]; rfl⟩
  obtain ⟨i1, hi, hz0, hza, hz2⟩ := info_parts infoRx
  obtain ⟨iS, hiS, hzS0, hzS1, hzS2⟩ := info_parts infoStr
  clear ha hb hbw hz1 hp hT hS wx wy hpw
  have hmm := @run_makeMap Tryz.prog
  go_enter Tryz.func117, Tryz.ntmps117
  replace hwa := Lib.hid hwa
  go_upto_region 3 with fail
  rw [hwa.out]
  clear hwa
  go_upto_region 4 with fail
  refine wp_region_held_drew (S := fun w' => w'.cell? ⟨w.heap.size, 0, none⟩ = some (.int .i64 a.kind) ∧ w'.cell? ⟨w.heap.size, 1, none⟩ = some (.slice A a.set.length c) ∧ w'.cell? ⟨w.heap.size, 2, none⟩ = some (.slice KA a.kids.length ck) ∧
      w'.cell? ⟨w.heap.size + 1, 0, none⟩ = some (.int .i64 b.kind) ∧ w'.cell? ⟨w.heap.size + 1, 1, none⟩ = some (.slice B b.set.length d) ∧ w'.cell? ⟨w.heap.size + 1, 2, none⟩ = some (.slice KB b.kids.length dk)) (by kernel_rfl) (HC.out _ (below_drew (Below.refl _ _))) (fun hHeld0 => ?_)
  refine wpAnyH_take (i := 0) (v := ?_) rfl (by kernel_rfl) (by kernel_rfl) (by kernel_rfl) (fun _ _ _ h => h) (Or.inl ⟨by rfl, ?_⟩) (by assumption) ?_
  rotate_left
  · (intro w hSw; (try dsimp only at hSw); go_simp; try with_reducible rfl)
  try simp only [Act.put, List.getElem_toArray, List.getElem_cons_zero, List.getElem_cons_succ, List.setIfInBounds_toArray, List.set_cons_zero, List.set_cons_succ]
  refine wpAnyH_take (i := 1) (v := ?_) rfl (by kernel_rfl) (by kernel_rfl) (by kernel_rfl) (fun _ _ _ h => h) (Or.inl ⟨by rfl, ?_⟩) (by assumption) ?_
  rotate_left
  · (intro w hSw; (try dsimp only at hSw); go_simp; try with_reducible rfl)
  try simp only [Act.put, List.getElem_toArray, List.getElem_cons_zero, List.getElem_cons_succ, List.setIfInBounds_toArray, List.set_cons_zero, List.set_cons_succ]
  refine wpAnyH_take (i := 2) (v := ?_) rfl (by kernel_rfl) (by kernel_rfl) (by kernel_rfl) (fun _ _ _ h => h) (Or.inl ⟨by rfl, ?_⟩) (by assumption) ?_
  rotate_left
  · (intro w hSw; (try dsimp only at hSw); go_simp; try with_reducible rfl)
  try simp only [Act.put, List.getElem_toArray, List.getElem_cons_zero, List.getElem_cons_succ, List.setIfInBounds_toArray, List.set_cons_zero, List.set_cons_succ]
  refine wpAnyH_take (i := 3) (v := ?_) rfl (by kernel_rfl) (by kernel_rfl) (by kernel_rfl) (fun _ _ _ h => h) (Or.inl ⟨by rfl, ?_⟩) (by assumption) ?_
  rotate_left
  · (intro w hSw; (try dsimp only at hSw); go_simp; try with_reducible rfl)
  try simp only [Act.put, List.getElem_toArray, List.getElem_cons_zero, List.getElem_cons_succ, List.setIfInBounds_toArray, List.set_cons_zero, List.set_cons_succ]
  refine wpAnyH_take (i := 7) (v := ?_) rfl (by kernel_rfl) (by kernel_rfl) (by kernel_rfl) (fun _ _ _ h => h) (Or.inl ⟨by rfl, ?_⟩) (by assumption) ?_
  rotate_left
  · (intro w hSw; (try dsimp only at hSw); go_simp; try with_reducible rfl)
  try simp only [Act.put, List.getElem_toArray, List.getElem_cons_zero, List.getElem_cons_succ, List.setIfInBounds_toArray, List.set_cons_zero, List.set_cons_succ]
  have hdz := (below_drew (Below.refl wa.heap.size wa)).size
  have hwz := BW.out.size
  refine wpAnyH_ready (rs := [4]) (by kernel_rfl) (by simp) ?_
  refine AllReadyH.cons (o := ⟨some 27, _, _, _, _, _⟩) rfl (fun K hK => ?_) AllReadyH.nil
  go_simp
  refine (iJoined_c a k _ _ wa.drew wa.heap.size p none 0 0 [] [] hk WX.out (HA.out.under (below_drew (Below.refl _ _))) (OwnR.nil _ _ _) rfl hdz (fun z hz => ⟨by have := HP.out z hz; omega, by simp [vblk_nil]⟩) (by omega)).mono ?_
  rintro e w3 ⟨A3, n3, c3, L3, rfl, hn3, ho3, hv3, ht3⟩
  have B3 := Lib.hid (below_then (below_drew (Below.refl wa.heap.size wa)) (ht3.below (n := wa.drew.heap.size) (fun b hb => by simp [vblk_nil] at hb) (Nat.le_refl _)))
  have h3z0 := ht3.size
  have O3 := Lib.hid ho3
  have N3 : Hid (n3 = (lst k a).length) := by show _ = _; simpa using hn3
  clear hn3 ho3 hv3 ht3
  (try go_wp2_with fail)
  refine hK.out _ _ (HC.out w3 B3.out) (fun hHeld1 => ?_)
  clear hK K hHeld0
  try simp only [Act.put, List.getElem_toArray, List.getElem_cons_zero, List.getElem_cons_succ, List.setIfInBounds_toArray, List.set_cons_zero, List.set_cons_succ]
  refine wpAnyH_ready (rs := [5]) (by kernel_rfl) (by simp) ?_
  refine AllReadyH.cons (o := ⟨some 28, _, _, _, _, _⟩) rfl (fun K hK => ?_) AllReadyH.nil
  go_simp
  have h3z := B3.out.size
  have V3 : Hid (∀ b, b ∈ vblk (.slice A3 n3 c3) → wa.heap.size ≤ b) := fun b hb => (own_vlt O3.out.own b hb).1
  refine (iJoined_c b k _ _ w3 wa.heap.size p A3 n3 c3 ([] ++ lst k a) L3 hk WY.out (HB.out.under B3.out) O3.out N3.out h3z (fun z hz => ⟨by have := HP.out z hz; omega, fun hv => by have := HP.out z hz; have := V3.out z hv; omega⟩) (by have := N3.out; omega)).mono ?_
  rintro e w4 ⟨A4, n4, c4, L4, rfl, hn4, ho4, hv4, ht4⟩
  have B4 := Lib.hid (below_both B3.out (ht4.below (n := wa.heap.size) V3.out h3z))
  obtain ⟨all, hall⟩ : ∃ all, all = lst k a ++ lst k b := ⟨_, rfl⟩
  have HALL := Lib.hid hall
  obtain ⟨n, hn⟩ : ∃ n, n = n4 := ⟨_, rfl⟩
  have NA : Hid (n = all.length) := by rw [hn, hn4, hall]; exact Lib.hid (by simp)
  have OA : Hid (OwnR w4 wa.heap.size p (.slice A4 n c4) all L4) := by rw [hn, hall]; exact Lib.hid (by simpa using ho4)
  have hnm : n ≤ 2097152 := by have := NA.out; rw [hall, List.length_append] at this; omega
  rw [← hn]
  clear hn4 ho4 hv4 ht4 hall hn
  (try go_wp2_with fail)
  refine hK.out _ _ (HC.out w4 B4.out) (fun hHeld2 => ?_)
  clear hK K hHeld1
  try simp only [Act.put, List.getElem_toArray, List.getElem_cons_zero, List.getElem_cons_succ, List.setIfInBounds_toArray, List.set_cons_zero, List.set_cons_succ]
  refine wpAnyH_take (i := 6) (v := ?_) rfl (by kernel_rfl) (by kernel_rfl) (by kernel_rfl) (fun _ _ _ h => h) (Or.inl ⟨by rfl, ?_⟩) (by assumption) ?_
  rotate_left
  · (intro w hSw; (try dsimp only at hSw); go_simp; try with_reducible rfl)
  try simp only [Act.put, List.getElem_toArray, List.getElem_cons_zero, List.getElem_cons_succ, List.setIfInBounds_toArray, List.set_cons_zero, List.set_cons_succ]
  refine wpAnyH_done (by kernel_rfl) ?_ _
  have M8 : Hid (Blk w4 (w.heap.size + 2) #[.int .i64 1, nilS, nilS] TRx) := Lib.hid (MR.out.below B4.out)
  have h4z : wa.heap.size ≤ w4.heap.size := B4.out.size
  clear hHeld2 HC O3 N3 V3 B3 hlx hly MA MB MR HA HB h3z0 h3z hdz
  go_wp2_with fail
  obtain ⟨S8, hS8⟩ : ∃ z : Nat, z = w.heap.size + 1 + 1 := ⟨_, rfl⟩
  rw [← hS8]
  have HS8 : Hid (S8 = w.heap.size + 2) := hS8
  have hS84 : S8 < w4.heap.size := by have := HZ.out; omega
  rw [← HS8.out] at M8
  clear hS8
  go_loopg [7, 9, 30] n (fun q v7 v9 v30 wr => ∃ (i m cm : Nat) (LO : List KInfo) (A7 sA : Option Addr) (sc : Nat), v30 = .int .i64 (i : Int) ∧ q + i = n ∧ v7 = .slice A7 m cm ∧ v9 = .bool (bagSet k (all.take i)).isSome ∧
    Hid (m = (bagOthers (all.take i)).length) ∧ Hid (OwnR wr w4.heap.size p (.slice A7 m cm) (bagOthers (all.take i)) LO) ∧
    Hid (Blk wr S8 #[.int .i64 1, .slice sA ((bagSet k (all.take i)).getD []).length sc, nilS] TRx) ∧
    Hid (SpsP wr (fun q => (p q ∨ w4.heap.size ≤ q) ∧ q < wr.heap.size ∧ q ∉ vblk (.slice A7 m cm)) sA sc ((bagSet k (all.take i)).getD [])) ∧ Hid (w4.grownBy wr (some S8)))
  case atStart => exact ⟨0, 0, 0, [], none, none, 0, rfl, by omega, rfl, rfl, rfl, OwnR.nil _ _ _, M8, ⟨⟨.inl rfl, Nat.le_refl _, by simp [bagSet]⟩, fun a e h => absurd rfl h⟩, ⟨rfl, rfl, rfl, Nat.le_refl _, fun _ _ _ => rfl⟩⟩
  case round =>
    clear M8
    obtain ⟨i, m, cm, LO, A7, sA, sc, rfl, hqi, rfl, rfl, HM, HO, M8, HS, HG⟩ := hrel
    by_cases hin : i < n
    · obtain ⟨g', cap', x, A2, c2, K2, k2, ev, ex, eL, hx, x0, x1, x2⟩ := OA.out.at_ i (by have := NA.out; omega)
      injection ev with ev1 ev2 ev3
      subst ev1
      have hgA := (own_vlt OA.out.own g' (by simp [vblk_some])).1
      have hgn : g' ≠ S8 := by have := HZ.out; have := HS8.out; omega
      have up : ∀ {q : Addr} {u : Value}, q.block ≠ S8 → w4.cell? q = some u → wr.cell? q = some u := fun {q u} hne h => (World.cell?_of_block (HG.out.block q.block (World.block_lt_of_cell? w4 q h) fun e => hne (Option.some.inj e))).trans h
      replace x0 := up hgn x0
      replace x1 := up hgn x1
      replace x2 := up hgn x2
      have HX : Hid (RexP wr p x (.int .i64 x.kind) (.slice A2 x.set.length c2) (.slice K2 x.kids.length k2)) := (hx.mono (p' := p) fun b hb => hb.1).keep fun b hb hl => HG.out.block b hl fun e => by have := HP.out b hb; have := Option.some.inj e; have := HS8.out; omega
      have EX : Hid (all[i]? = some x) := ex
      have j0 : (0 : Int) ≤ (i : Int) := by omega
      have j1 : (i : Int) < (n : Int) := by omega
      have hm1 : m ≤ i := by
        have h2 := others_len (all.take i)
        rw [List.length_take] at h2
        have := HM.out
        omega
      have e0 := Lib.hid (takeSnoc EX.out)
      obtain ⟨wb, hwb⟩ : ∃ y, y = wr.alloc (.cells #[.int .i64 x.kind, .slice A2 x.set.length c2, .slice K2 x.kids.length k2] TRx) := ⟨_, rfl⟩
      have HBB : Hid (Below wr.heap.size wr wb) := by rw [hwb]; exact below_alloc (Below.refl _ _) _
      have MX : Hid (Blk wb wr.heap.size #[.int .i64 x.kind, .slice A2 x.set.length c2, .slice K2 x.kids.length k2] TRx) := by rw [hwb]; exact blk_new wr _ _
      have hzb : wr.heap.size < wb.heap.size := by rw [hwb]; simp
      replace hwb := hwb.symm
      have M8b := Lib.hid (M8.out.below HBB.out)
      have y0 : wb.cell? ⟨wr.heap.size, 0, none⟩ = some (.int .i64 x.kind) := by rw [MX.out.cell]; rfl
      have y1 : wb.cell? ⟨wr.heap.size, 1, none⟩ = some (.slice A2 x.set.length c2) := by rw [MX.out.cell]; rfl
      have y2 : wb.cell? ⟨wr.heap.size, 2, none⟩ = some (.slice K2 x.kids.length k2) := by rw [MX.out.cell]; rfl
      clear ev2 ev3 ex eL hx up
      by_cases hk1 : x.kind = 1
      · have d1 : (x.kind == 1) = true := by simp [hk1]
        have hsx : Hid (SpsP wr p A2 c2 x.set) := by
          obtain ⟨A', c', K', ck', _, f1, _, hs, _⟩ := HX.out.parts
          injection f1 with f1 f2 f3
          subst f1 f3
          exact hs
        have e1 : Hid (bagOthers (all.take (i + 1)) = bagOthers (all.take i)) := by show _ = _; rw [e0.out, others_snoc, if_pos hk1]
        have s1 : wb.frozen? ⟨S8, 1, none⟩ = false := M8b.out.free 1
        rcases ho : bagSet k (all.take i) with _ | s
        · have e2 : Hid (bagSet k (all.take (i + 1)) = some x.set) := by show _ = _; rw [e0.out, bagSet_snoc, if_pos hk1, ho]; rfl
          rw [ho] at M8b
          have s0 : wb.cell? ⟨S8, 1, none⟩ = some (.slice sA ((none : Option (List Sp)).getD []).length sc) := by rw [M8b.out.cell]; rfl
          clear hk1 ho
          go_wp2_with fail
          go_roundg (gk - 1)
          case measure => omega
          case rel =>
            have TG : Hid (wr.grownBy (wb.setCell ⟨S8, 1, none⟩ (.slice A2 x.set.length c2)) (some S8)) := Lib.hid (touch_grown ((Touch.of_below HBB.out).set (by simp) _))
            have hg4 := HG.out.size
            refine ⟨i + 1, m, cm, LO, A7, A2, c2, by go_num, by omega, rfl, by rw [e2.out]; rfl, by rw [e1.out]; exact HM, ?_, ?_, ?_, grown_thn HG.out TG.out⟩
            · rw [e1.out]
              exact HO.out.keep (fun b hv => TG.out.block b (own_vlt HO.out.own b hv).2 fun e => by have := (own_vlt HO.out.own b hv).1; have := Option.some.inj e; omega) fun b hb hl => TG.out.block b hl fun e => by have := HP.out b hb; have := Option.some.inj e; have := HS8.out; omega
            · rw [e2.out]; exact M8b.out.set 1 _
            · rw [e2.out]
              refine spsP_mono (spsP_keep hsx.out fun b hb hl => TG.out.block b hl fun e => by have := HP.out b hb; have := Option.some.inj e; have := HS8.out; omega) fun q hq => ⟨.inl hq, ?_, fun hv => ?_⟩
              · have := HP.out q hq; have := TG.out.size; have := HS8.out; omega
              · have := HP.out q hq; have := (own_vlt HO.out.own q hv).1; have := HS8.out; omega
        · rw [ho] at M8b HS
          have e2 : Hid (bagSet k (all.take (i + 1)) = some (if k = 4 then setJoin s x.set else setMeet s x.set)) := by show _ = _; rw [e0.out, bagSet_snoc, if_pos hk1, ho]; rfl
          have s0 : wb.cell? ⟨S8, 1, none⟩ = some (.slice sA s.length sc) := by rw [M8b.out.cell]; rfl
          have HSb : Hid (SpsP wb (fun q => (p q ∨ w4.heap.size ≤ q) ∧ q < wr.heap.size ∧ q ∉ vblk (.slice A7 m cm)) sA sc s) := spsP_keep HS.out fun b hb hl => HBB.out.block b hl
          have hsb : Hid (SpsP wb p A2 c2 x.set) := spsP_keep hsx.out fun b hb hl => HBB.out.block b hl
          have hg4 := HG.out.size
          clear hk1 ho
          rcases hk with rfl | rfl
          · have SC := Lib.hid (iSetJoin_c sA A2 sc c2 s x.set wb (HSb.out).sps hsb.out.sps)
            go_wp2_with ((with_reducible refine SC.out.mono ?_); rintro e w8 ⟨v8, rfl, ho8, hb8⟩; obtain ⟨A8, c8, rfl, hs8⟩ := ho8.sps; have s1 : w8.frozen? ⟨S8, 1, none⟩ = false := (M8b.out.below hb8).free 1; have s0 : w8.cell? ⟨S8, 1, none⟩ = some (.slice sA s.length sc) := (by rw [(M8b.out.below hb8).cell]; rfl); replace hs8 := Lib.hid hs8; replace hb8 := Lib.hid hb8; clear ho8)
            go_roundg (gk - 1)
            case measure => omega
            case rel =>
              have hB8 := Lib.hid (below_then HBB.out hb8.out)
              have TG : Hid (wr.grownBy (w8.setCell ⟨S8, 1, none⟩ (.slice A8 (setJoin s x.set).length c8)) (some S8)) := Lib.hid (touch_grown ((Touch.of_below hB8.out).set (by simp) _))
              have hg4 := HG.out.size
              refine ⟨i + 1, m, cm, LO, A7, A8, c8, by go_num, by omega, rfl, by rw [e2.out]; rfl, by rw [e1.out]; exact HM, ?_, ?_, ?_, grown_thn HG.out TG.out⟩
              · rw [e1.out]
                exact HO.out.keep (fun b hv => TG.out.block b (own_vlt HO.out.own b hv).2 fun e => by have := (own_vlt HO.out.own b hv).1; have := Option.some.inj e; omega) fun b hb hl => TG.out.block b hl fun e => by have := HP.out b hb; have := Option.some.inj e; have := HS8.out; omega
              · rw [e2.out]; exact (M8b.out.below hb8.out).set 1 _
              · rw [e2.out]
                refine spsP_mono (spsP_keep (spsP_new hs8.out) fun b hb hl => Below.heap_setCell _ _ _ _ (fun e => by have e' : b = S8 := e; have := hb.1; omega)) fun q hq => ⟨.inr (by have := hq.1; omega), ?_, fun hv => ?_⟩
                · rw [World.size_setCell]; exact hq.2
                · have := (own_vlt HO.out.own q hv).2; have := hq.1; omega
          · have SC := Lib.hid (iSetMeet_c sA A2 sc c2 s x.set wb (HSb.out).sps hsb.out.sps)
            go_wp2_with ((with_reducible refine SC.out.mono ?_); rintro e w8 ⟨v8, rfl, ho8, hb8⟩; obtain ⟨A8, c8, rfl, hs8⟩ := ho8.sps; have s1 : w8.frozen? ⟨S8, 1, none⟩ = false := (M8b.out.below hb8).free 1; have s0 : w8.cell? ⟨S8, 1, none⟩ = some (.slice sA s.length sc) := (by rw [(M8b.out.below hb8).cell]; rfl); replace hs8 := Lib.hid hs8; replace hb8 := Lib.hid hb8; clear ho8)
            go_roundg (gk - 1)
            case measure => omega
            case rel =>
              have hB8 := Lib.hid (below_then HBB.out hb8.out)
              have TG : Hid (wr.grownBy (w8.setCell ⟨S8, 1, none⟩ (.slice A8 (setMeet s x.set).length c8)) (some S8)) := Lib.hid (touch_grown ((Touch.of_below hB8.out).set (by simp) _))
              have hg4 := HG.out.size
              refine ⟨i + 1, m, cm, LO, A7, A8, c8, by go_num, by omega, rfl, by rw [e2.out]; rfl, by rw [e1.out]; exact HM, ?_, ?_, ?_, grown_thn HG.out TG.out⟩
              · rw [e1.out]
                exact HO.out.keep (fun b hv => TG.out.block b (own_vlt HO.out.own b hv).2 fun e => by have := (own_vlt HO.out.own b hv).1; have := Option.some.inj e; omega) fun b hb hl => TG.out.block b hl fun e => by have := HP.out b hb; have := Option.some.inj e; have := HS8.out; omega
              · rw [e2.out]; exact (M8b.out.below hb8.out).set 1 _
              · rw [e2.out]
                refine spsP_mono (spsP_keep (spsP_new hs8.out) fun b hb hl => Below.heap_setCell _ _ _ _ (fun e => by have e' : b = S8 := e; have := hb.1; omega)) fun q hq => ⟨.inr (by have := hq.1; omega), ?_, fun hv => ?_⟩
                · rw [World.size_setCell]; exact hq.2
                · have := (own_vlt HO.out.own q hv).2; have := hq.1; omega
      · have d1 : (x.kind == 1) = false := by simp [hk1]
        have e1 : Hid (bagOthers (all.take (i + 1)) = bagOthers (all.take i) ++ [x]) := by show _ = _; rw [e0.out, others_snoc, if_neg hk1]
        have e2 : Hid (bagSet k (all.take (i + 1)) = bagSet k (all.take i)) := by show _ = _; rw [e0.out, bagSet_snoc, if_neg hk1]
        have hn1 : m + 1 ≤ maxLen := by unfold maxLen; omega
        have hg4 := HG.out.size
        have HOW : Hid (wb.ownsRow w4.heap.size TRx 3 (.slice A7 m cm) m (kcells (bagOthers (all.take i)) LO)) := by have := own_below HO.out.own HBB.out; rw [← HM.out] at this; exact this
        clear hk1
        go_wp2_with (at_builtin; refine wpList_append_row (by rfl) (.tmp 44) (.tmp 46) 24 (by rfl) w4.heap.size TRx i1 (.agg #[.int .i64 0, nilS, nilS]) 3 56 Tryz.underlying24 hi hz0 hza hz2 rfl (by decide) (.slice A7 m cm) m (kcells (bagOthers (all.take i)) LO) (by rfl) (own_below HOW.out (below_alloc (Below.refl _ _) _)) (some ⟨wb.heap.size, 0, none⟩) 1 1 [.int .i64 x.kind, .slice A2 x.set.length c2, .slice K2 x.kids.length k2] (by rfl) (.inr ⟨⟨wb.heap.size, 0, none⟩, rfl, Nat.zero_le _, new_cells wb [.int .i64 x.kind, .slice A2 x.set.length c2, .slice K2 x.kids.length k2] TRx⟩) rfl (three_one _ _ _ _ _ _ _) hn1 (by omega) (by simp; omega) _ rfl (m + 1) rfl ?_; intro A5 c5 w5 hown hgrow hat; have HE := Lib.hid hown; have HGR := Lib.hid hgrow; have HAT := Lib.hid hat; clear hown hgrow hat)
        go_roundg (gk - 1)
        case measure => omega
        case rel =>
          have hba := below_then HBB.out (below_alloc (Below.refl wb.heap.size wb) (.cells #[.int .i64 x.kind, .slice A2 x.set.length c2, .slice K2 x.kids.length k2] TRx))
          have hgr : wr.grownBy w5 (Value.slice A7 m cm).ownBlock := grown_thn (grown_blw hba) HGR.out
          have hzz := hba.size
          have TG : Hid (∀ q, q < wr.heap.size → q ∉ vblk (.slice A7 m cm) → w5.heap[q]? = wr.heap[q]?) := fun q hq hn => hgr.block q hq fun e => hn (mem_vblk.2 e.symm)
          have HV7 : Hid (∀ q, q ∈ vblk (.slice A7 m cm) → w4.heap.size ≤ q ∧ q < wr.heap.size) := fun q hq => own_vlt HO.out.own q hq
          refine ⟨i + 1, m + 1, c5, LO ++ [⟨[], .slice A2 x.set.length c2, .slice K2 x.kids.length k2⟩], A5, sA, sc, by go_num, by omega, rfl, by rw [e2.out], by show _ = _; rw [e1.out, List.length_append, ← HM.out]; rfl, ?_, ?_, ?_, ?_⟩
          · rw [e1.out]
            exact HO.out.snoc (w1 := wb.alloc (.cells #[.int .i64 x.kind, .slice A2 x.set.length c2, .slice K2 x.kids.length k2] TRx)) (w' := w5) (v' := .slice A5 (m + 1) c5) (HX.out.mono fun b hb => ⟨hb, fun hv => by have := HP.out b hb; have := (HV7.out b hv).1; have := HS8.out; omega⟩) hba (by rw [← HM.out]; exact HE.out) HGR.out (fun b hb => HAT.out b hb) (by rw [← HM.out]; unfold maxN; omega) []
          · rw [e2.out]
            exact ⟨(TG.out S8 M8.out.lt fun hv => by have := (HV7.out S8 hv).1; omega).trans M8.out.eq⟩
          · rw [e2.out]
            refine spsP_mono (spsP_keep HS.out fun b hb hl => TG.out b hl hb.2.2) fun q hq => ⟨hq.1, by have := hq.2.1; have := hgr.size; omega, fun hv => ?_⟩
            rcases HAT.out q hv with h | h
            · exact hq.2.2 h
            · have h2 : q = wb.heap.size + 1 := by simpa using h
              have := hq.2.1; omega
          · exact ⟨hgr.os.trans HG.out.os, hgr.tape.trans HG.out.tape, hgr.output.trans HG.out.output, Nat.le_trans hg4 hgr.size, fun q hq hne => by
              rw [TG.out q (by omega) fun hv => by have := (HV7.out q hv).1; omega, HG.out.block q hq hne]⟩
    · have et : all.take i = all := List.take_of_length_le (by have := NA.out; omega)
      rw [et] at HM HO M8 HS ⊢
      have j1 : ¬ (i : Int) < (n : Int) := by omega
      have hg4 := HG.out.size
      have hml : m ≤ 2097152 := by have h2 := others_len all; have := HM.out; have := NA.out; omega
      have h8 : S8 < wr.heap.size := by omega
      have BBr : Hid (Below w.heap.size w wr) := ⟨HG.out.os.trans (B4.out.os.trans BW.out.os), HG.out.tape.trans (B4.out.tape.trans BW.out.tape), HG.out.output.trans (B4.out.output.trans BW.out.output), by omega, fun q hq => by
        rw [HG.out.block q (by omega) fun e => by have := Option.some.inj e; have := HS8.out; omega, B4.out.block q (by omega), BW.out.block q hq]⟩
      have BE : Hid (bag k a b = sortU (bagItems k all)) := by rw [HALL.out]; exact Lib.hid rfl
      clear et OA HG
      obtain ⟨b9, hb9⟩ : ∃ z, z = (bagSet k all).isSome := ⟨_, rfl⟩
      rw [← hb9]
      have HB9 := Lib.hid hb9
      clear hb9
      go_upto_region 16 with fail
      go_cut [78] from 64 to 77 (fun c wx => c = .bool (keepS k (bagSet k all) m) ∧ Hid (Below wr.heap.size wr wx))
      case first =>
        rcases ho : bagSet k all with _ | s
        · obtain rfl : b9 = false := by rw [HB9.out, ho]; rfl
          have HO1 := Lib.hid ho
          clear ho
          go_wp2_with fail
          go_meet
          exact ⟨by rw [HO1.out]; rfl, Below.refl _ _⟩
        · obtain rfl : b9 = true := by rw [HB9.out, ho]; rfl
          rw [ho] at HS M8
          have s0 : wr.cell? ⟨S8, 0, none⟩ = some (.int .i64 1) := by rw [M8.out.cell]; rfl
          have s1 : wr.cell? ⟨S8, 1, none⟩ = some (.slice sA s.length sc) := by rw [M8.out.cell]; rfl
          have s2 : wr.cell? ⟨S8, 2, none⟩ = some nilS := by rw [M8.out.cell]; rfl
          have HR : Hid (RexP wr (fun q => (p q ∨ w4.heap.size ≤ q) ∧ q < wr.heap.size ∧ q ∉ vblk (.slice A7 m cm)) (.mk 1 s []) (.int .i64 1) (.slice sA s.length sc) nilS) := by
            obtain ⟨_, _, _, _, _, _, f2, _, hkk⟩ := (RexP.leaf (w := wr) (p := fun q => (p q ∨ w4.heap.size ≤ q) ∧ q < wr.heap.size ∧ q ∉ vblk (.slice A7 m cm)) 1).parts
            injection f2 with f2 f3 f4
            subst f2 f4
            exact RexP.of HS.out hkk
          have IC : Hid (Calls Tryz.prog 120 #[.agg #[.int .i64 1, .slice sA s.length sc, .slice none 0 0]] wr fun e w' => e = .returned (.bool (isNo (.mk 1 s []))) ∧ Below wr.heap.size wr w') := Lib.hid (iNo_c (.mk 1 s []) _ _ wr 0 HR.out.rexv)
          have HO1 := Lib.hid ho
          clear ho M8 HS
          by_cases hs0 : s = []
          · subst hs0
            have IC0 : Hid (Calls Tryz.prog 120 #[.agg #[.int .i64 1, .slice sA 0 sc, .slice none 0 0]] wr fun e w' => e = .returned (.bool true) ∧ Below wr.heap.size wr w') := IC
            rcases hk with rfl | rfl
            · by_cases hm0 : m = 0
              · subst hm0
                have KE : Hid (keepS 4 (some ([] : List Sp)) 0 = true) := by
                  show decide (([] : List Sp) ≠ [] ∨ (4 : Int) = 6 ∨ 0 = 0) = true
                  exact decide_eq_true (.inr (.inr rfl))
                go_wp2_with ((with_reducible refine IC0.out.mono ?_); rintro e w5 ⟨rfl, hb5⟩; replace hb5 := Lib.hid hb5)
                go_meet
                exact ⟨by rw [HO1.out, KE.out], hb5⟩
              · have d1 : (0 : Int) < (m : Int) := by omega
                have d2 : decide ((0 : Int) < (m : Int)) = true := decide_eq_true d1
                have d3 : 0 < m := by omega
                have d4 : decide (0 < m) = true := decide_eq_true d3
                have KE : Hid (keepS 4 (some ([] : List Sp)) m = false) := decide_eq_false fun h => by
                  rcases h with h | h | h
                  · exact h rfl
                  · exact absurd h (by decide)
                  · exact hm0 h
                go_wp2_with ((with_reducible refine IC0.out.mono ?_); rintro e w5 ⟨rfl, hb5⟩; replace hb5 := Lib.hid hb5)
                go_meet
                exact ⟨by rw [HO1.out, KE.out], hb5⟩
            · have KE : Hid (keepS 6 (some ([] : List Sp)) m = true) := by
                show decide (([] : List Sp) ≠ [] ∨ (6 : Int) = 6 ∨ m = 0) = true
                exact decide_eq_true (.inr (.inl rfl))
              go_wp2_with ((with_reducible refine IC0.out.mono ?_); rintro e w5 ⟨rfl, hb5⟩; replace hb5 := Lib.hid hb5)
              go_meet
              exact ⟨by rw [HO1.out, KE.out], hb5⟩
          · have KE : Hid (keepS k (some s) m = true) := decide_eq_true (.inl hs0)
            have hno : isNo (.mk 1 s []) = false := by
              cases s with
              | nil => exact absurd rfl hs0
              | cons y s => rfl
            rw [hno] at IC
            go_wp2_with ((with_reducible refine IC.out.mono ?_); rintro e w5 ⟨rfl, hb5⟩; replace hb5 := Lib.hid hb5)
            go_meet
            exact ⟨by rw [HO1.out, KE.out], hb5⟩
      case rest =>
        obtain ⟨rfl, HB16⟩ := hcut
        obtain ⟨kb, hkb⟩ : ∃ z, z = keepS k (bagSet k all) m := ⟨_, rfl⟩
        rw [← hkb]
        have HKB := Lib.hid hkb
        clear hkb
        have BBc : Hid (Below w.heap.size w wc) := Lib.hid (below_then BBr.out HB16.out)
        replace HO := Lib.hid (HO.out.under HB16.out)
        replace M8 := Lib.hid (M8.out.below HB16.out)
        have HVc : Hid (∀ q, q ∈ vblk (.slice A7 m cm) → w4.heap.size ≤ q ∧ q < wc.heap.size) := fun q hq => own_vlt HO.out.own q hq
        have hzc := HB16.out.size
        replace HS : Hid (SpsP wc (fun q => (p q ∨ w4.heap.size ≤ q) ∧ q < wr.heap.size ∧ q ∉ vblk (.slice A7 m cm)) sA sc ((bagSet k all).getD [])) := Lib.hid (spsP_keep HS.out fun b hb hl => HB16.out.block b hl)
        clear HB16 HB9
        go_upto_if 78 with fail
        go_cut [7] from 79 to 82 (fun v7 wx => ∃ (Ai : Option Addr) (ni ci : Nat) (Li : List KInfo), v7 = .slice Ai ni ci ∧ Hid (ni = (bagItems k all).length) ∧ Hid (OwnR wx w4.heap.size (fun q => p q ∨ w4.heap.size ≤ q) (.slice Ai ni ci) (bagItems k all) Li) ∧ Hid (Below w.heap.size w wx) ∧ Hid (w4.heap.size ≤ wx.heap.size))
        case first =>
          rcases kb with _ | _
          · have EI : Hid (bagItems k all = bagOthers all) := by
              show _ = _
              unfold bagItems
              rw [← HM.out, keep_no HKB.out.symm, List.append_nil]
            go_wp2_with fail
            go_meet
            exact ⟨A7, m, cm, LO, rfl, by rw [EI.out]; exact HM, by rw [EI.out]; exact HO.out.mono fun q hq => .inl hq, BBc, by show _ ≤ _; omega⟩
          · rcases ho : bagSet k all with _ | s
            · have := HKB.out
              rw [ho] at this
              cases this
            · have EI : Hid (bagItems k all = bagOthers all ++ [.mk 1 s []]) := by
                show _ = _
                unfold bagItems
                have h1 := HKB.out.symm
                rw [ho] at h1
                rw [← HM.out, ho, keep_yes h1]
              rw [ho] at HS M8
              have s0 : wc.cell? ⟨S8, 0, none⟩ = some (.int .i64 1) := by rw [M8.out.cell]; rfl
              have s1 : wc.cell? ⟨S8, 1, none⟩ = some (.slice sA s.length sc) := by rw [M8.out.cell]; rfl
              have s2 : wc.cell? ⟨S8, 2, none⟩ = some nilS := by rw [M8.out.cell]; rfl
              have HR : Hid (RexP wc (fun q => (p q ∨ w4.heap.size ≤ q) ∧ q < wr.heap.size ∧ q ∉ vblk (.slice A7 m cm)) (.mk 1 s []) (.int .i64 1) (.slice sA s.length sc) nilS) := by
                obtain ⟨_, _, _, _, _, _, f2, _, hkk⟩ := (RexP.leaf (w := wc) (p := fun q => (p q ∨ w4.heap.size ≤ q) ∧ q < wr.heap.size ∧ q ∉ vblk (.slice A7 m cm)) 1).parts
                injection f2 with f2 f3 f4
                subst f2 f4
                exact RexP.of HS.out hkk
              have hn1 : m + 1 ≤ maxLen := by unfold maxLen; omega
              have HOW : Hid (wc.ownsRow w4.heap.size TRx 3 (.slice A7 m cm) m (kcells (bagOthers all) LO)) := by have := HO.out.own; rw [← HM.out] at this; exact this
              clear ho
              go_wp2_with (at_builtin; refine wpList_append_row (by rfl) (.tmp 79) (.tmp 81) 24 (by rfl) w4.heap.size TRx i1 (.agg #[.int .i64 0, nilS, nilS]) 3 56 Tryz.underlying24 hi hz0 hza hz2 rfl (by decide) (.slice A7 m cm) m (kcells (bagOthers all) LO) (by rfl) (own_below HOW.out (below_alloc (Below.refl _ _) _)) (some ⟨wc.heap.size, 0, none⟩) 1 1 [.int .i64 1, .slice sA s.length sc, nilS] (by rfl) (.inr ⟨⟨wc.heap.size, 0, none⟩, rfl, Nat.zero_le _, new_cells wc [.int .i64 1, .slice sA s.length sc, nilS] TRx⟩) rfl (three_one _ _ _ _ _ _ _) hn1 (by omega) (by simp; omega) _ rfl (m + 1) rfl ?_; intro A5 c5 w5 hown hgrow hat; have HE := Lib.hid hown; have HGR := Lib.hid hgrow; have HAT := Lib.hid hat; clear hown hgrow hat)
              go_meet
              have hba := below_alloc (Below.refl wc.heap.size wc) (.cells #[.int .i64 1, .slice sA s.length sc, nilS] TRx)
              have hgr : wc.grownBy w5 (Value.slice A7 m cm).ownBlock := grown_thn (grown_blw hba) HGR.out
              refine ⟨A5, m + 1, c5, LO ++ [⟨[], .slice sA s.length sc, nilS⟩], rfl, by show _ = _; rw [EI.out, List.length_append, ← HM.out]; rfl, ?_, ?_, ?_⟩
              · rw [EI.out]
                exact (HO.out.mono (p' := fun q => p q ∨ w4.heap.size ≤ q) fun q hq => .inl hq).snoc (r := .mk 1 s []) (w1 := wc.alloc (.cells #[.int .i64 1, .slice sA s.length sc, nilS] TRx)) (w' := w5) (v' := .slice A5 (m + 1) c5) (HR.out.mono fun b hb => ⟨hb.1, hb.2.2⟩) hba (by rw [← HM.out]; exact HE.out) HGR.out (fun b hb => HAT.out b hb) (by rw [← HM.out]; unfold maxN; omega) []
              · exact BBc.out.grown hgr BBc.out.size fun q hq => by have := (HVc.out q (mem_vblk.2 hq)).1; omega
              · show _ ≤ _
                have := hgr.size
                omega
        case rest =>
          obtain ⟨Ai, N, ci, Li, rfl, HN, HI, HBI, HZI⟩ := hcut
          obtain ⟨items, hitems⟩ : ∃ z, z = bagItems k all := ⟨_, rfl⟩
          have hN0 := items_len k all
          rw [← hitems] at HN HI BE hN0
          have hN : N ≤ 2097153 := by have := HN.out; have := NA.out; omega
          have HTI : Hid (∀ x, x ∈ items → ∃ d, formed d x = true ∧ x.size ≤ 1048576) := fun x hx => by
            rw [hitems] at hx
            unfold bagItems at hx
            rcases List.mem_append.1 hx with hx | hx
            · exact HTT.out x (by rw [← HALL.out]; exact others_mem hx)
            · obtain ⟨s, hs, rfl, _⟩ := last_set hx
              exact HSS.out s (by rw [← HALL.out]; exact hs)
          have HNE : Hid (items ≠ []) := by
            rw [hitems]
            refine bagItems_ne ?_
            rw [HALL.out]
            have := (lst_mem (k := k) a WX.out (by omega)).1
            simp [this]
          have hLI := HI.out.len
          clear hitems hN0 HTT HSS HALL NA HKB HM HO M8 HS HVc BBc BBr hzc hml h8 hg4 j1 WX WY
          go_wp2_with fail
          obtain ⟨B0, hB0⟩ : ∃ z : Nat, z = wc.heap.size := ⟨_, rfl⟩
          rw [← hB0]
          have HB0 := Lib.hid hB0
          clear hB0
          go_loopg [13, 86] N (fun q v13 v86 wr => ∃ (i nk ck : Nat) (Ak : Option Addr), v86 = .int .i64 (i : Int) ∧ q + i = N ∧ v13 = .slice Ak nk ck ∧ Hid (nk = (keysOf (items.take i)).length) ∧ Hid (wr.ownsRow (B0 + 1) TStr 1 (.slice Ak nk ck) nk (wcells (keysOf (items.take i)))) ∧
            Hid (wr.ownsMap Tryz.prog TStr rdV B0 i (dOf ((items.zip Li).take i))) ∧ Hid (Below B0 wc wr) ∧ Hid (B0 + 1 ≤ wr.heap.size))
          case atStart =>
            exact ⟨0, 0, 0, none, rfl, by omega, rfl, rfl, World.ownsRow_nil _ _ _ _, by rw [HB0.out]; exact World.ownsMap_made _ _ _ _, by rw [HB0.out]; exact below_alloc (Below.refl _ _) _, by show _ ≤ _; rw [HB0.out]; simp⟩
          case round =>
            obtain ⟨i, nk, ck, Ak, rfl, hqi, rfl, HK, HR, HM, HW, HZ⟩ := hrel
            by_cases hin : i < N
            · obtain ⟨g', cap', x, A2, c2, K2, k2, ev, ex, eL, hx, x0, x1, x2⟩ := HI.out.at_ i (by have := HN.out; omega)
              injection ev with ev1 ev2 ev3
              subst ev1
              have up : ∀ {q : Addr} {u : Value}, wc.cell? q = some u → wr.cell? q = some u := fun {q u} h => (World.cell?_of_block (HW.out.block q.block (by rw [HB0.out]; exact World.block_lt_of_cell? wc q h))).trans h
              replace x0 := up x0
              replace x1 := up x1
              replace x2 := up x2
              have HX : Hid (RexP wr (fun q => p q ∨ w4.heap.size ≤ q) x (.int .i64 x.kind) (.slice A2 x.set.length c2) (.slice K2 x.kids.length k2)) := (hx.mono (p' := fun q => p q ∨ w4.heap.size ≤ q) fun b hb => hb.1).keep fun b hb hl => HW.out.block b (by rw [HB0.out]; exact hl)
              have EX : Hid (items[i]? = some x) := ex
              obtain ⟨kinfo, hki⟩ : ∃ z : KInfo, z = ⟨(Li.getD i ⟨[], undef, undef⟩).fp, .slice A2 x.set.length c2, .slice K2 x.kids.length k2⟩ := ⟨_, rfl⟩
              rw [← hki] at eL
              have EZ : Hid ((items.zip Li)[i]? = some (x, kinfo)) := zip_at ex eL
              have j0 : (0 : Int) ≤ (i : Int) := by omega
              have j1 : (i : Int) < (N : Int) := by omega
              have HKI := Lib.hid hki
              have hxm : x ∈ items := List.mem_of_getElem? ex
              obtain ⟨dx, hdx, hsx⟩ := HTI.out x hxm
              have hnk : nk ≤ i := by have h1 := keys_len (items.take i); rw [List.length_take] at h1; have := HK.out; omega
              obtain ⟨wb, hwb⟩ : ∃ y, y = wr.alloc (.cells #[.int .i64 x.kind, .slice A2 x.set.length c2, .slice K2 x.kids.length k2] TRx) := ⟨_, rfl⟩
              have HBB : Hid (Below wr.heap.size wr wb) := by rw [hwb]; exact below_alloc (Below.refl _ _) _
              have MX : Hid (Blk wb wr.heap.size #[.int .i64 x.kind, .slice A2 x.set.length c2, .slice K2 x.kids.length k2] TRx) := by rw [hwb]; exact blk_new wr _ _
              have hzb : wr.heap.size < wb.heap.size := by rw [hwb]; simp
              replace hwb := hwb.symm
              have y0 : wb.cell? ⟨wr.heap.size, 0, none⟩ = some (.int .i64 x.kind) := by rw [MX.out.cell]; rfl
              have y1 : wb.cell? ⟨wr.heap.size, 1, none⟩ = some (.slice A2 x.set.length c2) := by rw [MX.out.cell]; rfl
              have y2 : wb.cell? ⟨wr.heap.size, 2, none⟩ = some (.slice K2 x.kids.length k2) := by rw [MX.out.cell]; rfl
              obtain ⟨tx, htx⟩ : ∃ z, z = rexTxt x := ⟨_, rfl⟩
              have HTX := Lib.hid htx
              have htl : tx.length ≤ maxLen := by have h1 := txt_len x dx hdx; unfold maxLen; rw [htx]; omega
              have BWb : Hid (Below w.heap.size w wb) := below_both HBI.out (below_both (by
                have h1 := HW.out
                exact ⟨h1.os, h1.tape, h1.output, h1.size, fun q hq => h1.block q (by have := HBI.out.size; have := HB0.out; omega)⟩) ⟨HBB.out.os, HBB.out.tape, HBB.out.output, HBB.out.size, fun q hq => HBB.out.block q (by have := HBI.out.size; have := HW.out.size; omega)⟩)
              have TC : Hid (Calls Tryz.prog 82 #[.agg #[.int .i64 x.kind, .slice A2 x.set.length c2, .slice K2 x.kids.length k2]] wb fun e w' => e = .returned (.string (str tx)) ∧ Below wb.heap.size wb w') := by
                rw [htx]
                exact Lib.hid (iTextOf_c x _ _ wb 0 (HX.out.under HBB.out).rexv hsx dx hdx (HPW.out.below BWb.out))
              have DK : Hid (decide (tx ∈ ((items.zip Li).take i).map fun p => rexTxt p.1) = decide (tx ∈ keysOf (items.take i))) := by
                show _ = _
                rw [zip_fst hLI i]
                exact decide_eq_decide.2 keys_mem.symm
              have eI : Hid (keysOf (items.take (i + 1)) = keysStep (keysOf (items.take i)) x) := by
                show _ = _
                rw [takeSnoc ex, keys_app]
              have eZ : Hid ((items.zip Li).take (i + 1) = (items.zip Li).take i ++ [(x, kinfo)]) := by
                show _ = _
                rw [List.take_add_one, EZ.out]
                rfl
              have HSL : Hid (∀ q, q ∈ (items.zip Li).take i → ∃ A n c K m d, q.2.v1 = .slice A n c ∧ q.2.v2 = .slice K m d) := fun q hq => by
                obtain ⟨z, hz⟩ := List.getElem?_of_mem (List.mem_of_mem_take hq)
                rw [List.getElem?_zip_eq_some] at hz
                obtain ⟨_, _, _, _, _, e1, e2, _⟩ := (HI.out.hr z q.1 q.2 hz.1 hz.2).parts
                exact ⟨_, _, _, _, _, _, e1, e2⟩
              clear ev2 ev3 ex eL hx up hki hdx hsx hxm htx BWb
              by_cases hin : tx ∈ keysOf (items.take i)
              · have DC : Hid (decide (tx ∈ ((items.zip Li).take i).map fun p => rexTxt p.1) = true) := by show _ = _; rw [DK.out]; exact decide_eq_true hin
                have eI2 : Hid (keysOf (items.take (i + 1)) = keysOf (items.take i)) := by show _ = _; rw [eI.out, keysStep, ← HTX.out, if_pos hin]
                clear hin
                go_wp2_with (first
                  | (((with_reducible refine TC.out.mono ?_); rintro e w5 ⟨rfl, hb5⟩; have MX5 := Lib.hid (MX.out.below hb5); have HM5 : Hid (w5.ownsMap Tryz.prog TStr rdV B0 i (dOf ((items.zip Li).take i))) := (HM.out.kept (row := none) (grown_blw (below_then HBB.out hb5)) (by simp)); have W5 := Lib.hid (below_then HBB.out hb5); clear hb5))
                  | ((at_lookup; refine lookOk _ (by rfl) _ _ (by rfl) B0 i _ (by rfl) HM5.out tx htl (by rfl) true DC.out HSL.out ?_; intro κ za zb zn zc zm zd; obtain ⟨w6, hw6⟩ : ∃ z, z = w5.alloc (.cells #[.int .i64 κ, .slice za zn zc, .slice zb zm zd] TRx) := ⟨_, rfl⟩; have B6 : Hid (Below w5.heap.size w5 w6) := (by rw [hw6]; exact below_alloc (Below.refl _ _) _); replace hw6 := hw6.symm; have W6 := Lib.hid (below_then W5.out B6.out); have HM6 : Hid (w6.ownsMap Tryz.prog TStr rdV B0 i (dOf ((items.zip Li).take i))) := (HM5.out.kept (row := none) (grown_blw B6.out) (by simp)); have MX6 := Lib.hid (MX5.out.below B6.out); have HR6 := Lib.hid (own_below HR.out W6.out); have hz6 := W6.out.size; have q0 : w6.cell? ⟨wr.heap.size, 0, none⟩ = some (.int .i64 x.kind) := (by rw [MX6.out.cell]; rfl); have q1 : w6.cell? ⟨wr.heap.size, 1, none⟩ = some (.slice A2 x.set.length c2) := (by rw [MX6.out.cell]; rfl); have q2 : w6.cell? ⟨wr.heap.size, 2, none⟩ = some (.slice K2 x.kids.length k2) := (by rw [MX6.out.cell]; rfl); clear MX5 HM5 W5 B6))
                  | ((at_mapUpdate; refine putAt _ (by rfl) _ _ _ (by rfl) B0 i _ (by rfl) HM6.out (by unfold maxLen; omega) (x, kinfo) tx HTX.out htl (by rfl) (by rw [HKI.out]; rfl) ?_; intro w8 hown8 hgrow8; replace hown8 := Lib.hid hown8; replace hgrow8 := Lib.hid hgrow8))
                  | fail)
                go_roundg (gk - 1)
                case measure => omega
                case rel =>
                  have hz8 := hgrow8.out.size
                  have hHZ := HZ.out
                  refine ⟨i + 1, nk, ck, Ak, by go_num, by omega, rfl, by rw [eI2.out]; exact HK, ?_, by rw [eZ.out]; exact hown8, ?_, by show _ ≤ _; omega⟩
                  · rw [eI2.out]
                    exact own_move HR6.out fun q hq => hgrow8.out.block q (own_base HR6.out q hq).2 fun e => by have := (own_base HR6.out q hq).1; have := Option.some.inj e; omega
                  · exact ⟨hgrow8.out.os.trans (W6.out.os.trans HW.out.os), hgrow8.out.tape.trans (W6.out.tape.trans HW.out.tape), hgrow8.out.output.trans (W6.out.output.trans HW.out.output), Nat.le_trans HW.out.size (Nat.le_trans hz6 hz8), fun q hq => by
                      rw [hgrow8.out.block q (by omega) fun e => by have := Option.some.inj e; omega, W6.out.block q (by omega), HW.out.block q hq]⟩
              · have DC : Hid (decide (tx ∈ ((items.zip Li).take i).map fun p => rexTxt p.1) = false) := by show _ = _; rw [DK.out]; exact decide_eq_false hin
                have eI2 : Hid (keysOf (items.take (i + 1)) = keysOf (items.take i) ++ [tx]) := by show _ = _; rw [eI.out, keysStep, ← HTX.out, if_neg hin]
                have hnk1 : nk + 1 ≤ maxLen := by unfold maxLen; omega
                have hnk2 : (nk + 1) * 16 ≤ 140737488355328 := by omega
                have HNE7 : Hid (∀ q, (Value.slice Ak nk ck).ownBlock = some q → q ≠ wr.heap.size) := fun q hq e => by have := (own_base HR.out q hq).2; omega
                have HNB : Hid (some B0 ≠ (Value.slice Ak nk ck).ownBlock) := fun e => by have := (own_base HR.out B0 e.symm).1; omega
                clear hin
                go_wp2_with (first
                  | (((with_reducible refine TC.out.mono ?_); rintro e w5 ⟨rfl, hb5⟩; have MX5 := Lib.hid (MX.out.below hb5); have HM5 : Hid (w5.ownsMap Tryz.prog TStr rdV B0 i (dOf ((items.zip Li).take i))) := (HM.out.kept (row := none) (grown_blw (below_then HBB.out hb5)) (by simp)); have W5 := Lib.hid (below_then HBB.out hb5); clear hb5))
                  | ((at_lookup; refine lookOk _ (by rfl) _ _ (by rfl) B0 i _ (by rfl) HM5.out tx htl (by rfl) false DC.out HSL.out ?_; intro κ za zb zn zc zm zd; obtain ⟨w6, hw6⟩ : ∃ z, z = w5.alloc (.cells #[.int .i64 κ, .slice za zn zc, .slice zb zm zd] TRx) := ⟨_, rfl⟩; have B6 : Hid (Below w5.heap.size w5 w6) := (by rw [hw6]; exact below_alloc (Below.refl _ _) _); replace hw6 := hw6.symm; have W6 := Lib.hid (below_then W5.out B6.out); have HM6 : Hid (w6.ownsMap Tryz.prog TStr rdV B0 i (dOf ((items.zip Li).take i))) := (HM5.out.kept (row := none) (grown_blw B6.out) (by simp)); have MX6 := Lib.hid (MX5.out.below B6.out); have HR6 := Lib.hid (own_below HR.out W6.out); have hz6 := W6.out.size; have q0 : w6.cell? ⟨wr.heap.size, 0, none⟩ = some (.int .i64 x.kind) := (by rw [MX6.out.cell]; rfl); have q1 : w6.cell? ⟨wr.heap.size, 1, none⟩ = some (.slice A2 x.set.length c2) := (by rw [MX6.out.cell]; rfl); have q2 : w6.cell? ⟨wr.heap.size, 2, none⟩ = some (.slice K2 x.kids.length k2) := (by rw [MX6.out.cell]; rfl); clear MX5 HM5 W5 B6))
                  | ((at_builtin; refine wpList_append_row (by rfl) (.tmp 100) (.tmp 102) 80 (by rfl) (B0 + 1) TStr iS (.string ⟨#[]⟩) 1 16 Tryz.underlying80 hiS hzS0 hzS1 hzS2 rfl (by decide) (.slice Ak nk ck) nk (wcells (keysOf (items.take i))) (by rfl) (own_below HR6.out (below_alloc (Below.refl _ _) _)) (some ⟨w6.heap.size, 0, none⟩) 1 1 [.string (str tx)] (by rfl) (.inr ⟨⟨w6.heap.size, 0, none⟩, rfl, Nat.zero_le _, new_cells w6 [.string (str tx)] TStr⟩) rfl (fun u hu => by rw [List.mem_singleton.1 hu]; rfl) hnk1 hnk2 (by have := HZ.out; simp; omega) _ rfl (nk + 1) rfl ?_; intro A7 c7 w7 hown7 hgrow7 hat7; have MX7 := Lib.hid ((MX6.out.alloc (.cells #[.string (str tx)] TStr)).grown hgrow7 HNE7.out); have HM7 : Hid (w7.ownsMap Tryz.prog TStr rdV B0 i (dOf ((items.zip Li).take i))) := ((HM6.out.alloc _).kept hgrow7 HNB.out); have q3 : w7.cell? ⟨wr.heap.size, 0, none⟩ = some (.int .i64 x.kind) := (by rw [MX7.out.cell]; rfl); have q4 : w7.cell? ⟨wr.heap.size, 1, none⟩ = some (.slice A2 x.set.length c2) := (by rw [MX7.out.cell]; rfl); have q5 : w7.cell? ⟨wr.heap.size, 2, none⟩ = some (.slice K2 x.kids.length k2) := (by rw [MX7.out.cell]; rfl); have HE7 := Lib.hid hown7; have HG7 := Lib.hid hgrow7; clear hown7 hgrow7 hat7))
                  | ((at_mapUpdate; refine putAt _ (by rfl) _ _ _ (by rfl) B0 i _ (by rfl) HM7.out (by unfold maxLen; omega) (x, kinfo) tx HTX.out htl (by rfl) (by rw [HKI.out]; rfl) ?_; intro w8 hown8 hgrow8; replace hown8 := Lib.hid hown8; replace hgrow8 := Lib.hid hgrow8))
                  | fail)
                go_roundg (gk - 1)
                case measure => omega
                case rel =>
                  have hz8 := hgrow8.out.size
                  have hz7 := HG7.out.size
                  have hHZ := HZ.out
                  have hza7 : (w6.alloc (.cells #[.string (str tx)] 9)).heap.size = w6.heap.size + 1 := by simp
                  have ba := below_alloc (Below.refl w6.heap.size w6) (.cells #[.string (str tx)] 9)
                  refine ⟨i + 1, nk + 1, c7, A7, by go_num, by omega, rfl, by show _ = _; rw [eI2.out, List.length_append, ← HK.out]; rfl, ?_, by rw [eZ.out]; exact hown8, ?_, by show _ ≤ _; omega⟩
                  · rw [eI2.out, wcells_snoc]
                    exact own_move HE7.out fun q hq => hgrow8.out.block q (own_base HE7.out q hq).2 fun e => by have := (own_base HE7.out q hq).1; have := Option.some.inj e; omega
                  · exact ⟨hgrow8.out.os.trans (HG7.out.os.trans (ba.os.trans (W6.out.os.trans HW.out.os))), hgrow8.out.tape.trans (HG7.out.tape.trans (ba.tape.trans (W6.out.tape.trans HW.out.tape))), hgrow8.out.output.trans (HG7.out.output.trans (ba.output.trans (W6.out.output.trans HW.out.output))), Nat.le_trans HW.out.size (by omega), fun q hq => by
                      rw [hgrow8.out.block q (by omega) fun e => by have := Option.some.inj e; omega, HG7.out.block q (by omega) fun e => by have := (own_base HR.out q e.symm).1; omega, ba.block q (by omega), W6.out.block q (by omega), HW.out.block q hq]⟩
            · have et : items.take N = items := List.take_of_length_le (by have := HN.out; omega)
              have ez : (items.zip Li).take N = items.zip Li := List.take_of_length_le (by rw [List.length_zip, hLI]; have := HN.out; omega)
              obtain rfl : i = N := by omega
              have j1 : ¬ (i : Int) < (i : Int) := by omega
              rw [et] at HK HR
              rw [ez] at HM
              have hkp : 0 < nk := by
                have h1 : keysOf items ≠ [] := fun e => by
                  obtain ⟨y, hy⟩ := List.exists_mem_of_ne_nil items HNE.out
                  have h2 : rexTxt y ∈ keysOf items := keys_mem.2 (List.mem_map.2 ⟨y, hy, rfl⟩)
                  rw [e] at h2
                  cases h2
                rw [HK.out]
                exact List.length_pos_iff.2 h1
              have hnk : nk ≤ 2097153 := by have h1 := keys_len items; have := HK.out; have := HN.out; omega
              obtain ⟨gK, cK, eK, hgK, _⟩ := own_form HR.out hkp
              injection eK with e1 e2 e3
              subst e1 e3
              have SC : Hid (Calls Tryz.prog 143 #[.slice (some ⟨gK, 0, none⟩) nk ck] wr fun e w' => e = .returned (.tuple #[]) ∧ (∀ (j : Nat) (s : List UInt8), (sortK (keysOf items))[j]? = some s → w'.cell? ⟨gK, j, none⟩ = some (.string (str s))) ∧ wr.grownBy w' (some gK)) := by
                have h1 := HR.out
                have h2 := HK.out
                have h3 : (keysOf items).length ≤ 4194304 := by omega
                rw [h2] at h1 ⊢
                exact Lib.hid (iSort_c gK ck (keysOf items) wr h1 h3)
              have HWF : Hid (∀ x ∈ items, wf x) := fun x hx => by obtain ⟨d, hd, _⟩ := HTI.out x hx; exact ⟨d, hd⟩
              have HSL : Hid (∀ x ∈ items, (rexTxt x).length ≤ maxLen) := fun x hx => by obtain ⟨d, hd, hs⟩ := HTI.out x hx; have h1 := txt_len x d hd; unfold maxLen; omega
              clear et ez
              go_wp2_with ((with_reducible refine SC.out.mono ?_); rintro e w9 ⟨rfl, hc9, hg9⟩; replace hc9 := Lib.hid hc9; replace hg9 := Lib.hid hg9)
              have HM9 : Hid (w9.ownsMap Tryz.prog TStr rdV B0 i (dOf (items.zip Li))) := HM.out.kept hg9.out fun e => by have := Option.some.inj e; omega
              have B9 : Hid (Below B0 wc w9) := ⟨hg9.out.os.trans HW.out.os, hg9.out.tape.trans HW.out.tape, hg9.out.output.trans HW.out.output, Nat.le_trans HW.out.size hg9.out.size, fun q hq => by
                have := HZ.out
                rw [hg9.out.block q (by omega) fun e => by have := Option.some.inj e; omega, HW.out.block q hq]⟩
              have hz9 : B0 + 1 ≤ w9.heap.size := by have := HZ.out; have := hg9.out.size; omega
              have HI9 : Hid (∀ q, q ∈ items.zip Li → RexP w9 (fun z => (p z ∨ w4.heap.size ≤ z) ∧ z < B0) q.1 (.int .i64 q.1.kind) q.2.v1 q.2.v2) := fun q hq => by
                obtain ⟨z, hz⟩ := List.getElem?_of_mem hq
                rw [List.getElem?_zip_eq_some] at hz
                have h1 := ((HI.out.hr z q.1 q.2 hz.1 hz.2).mono (p' := fun q => p q ∨ w4.heap.size ≤ q) fun b hb => hb.1).lt
                rw [← HB0.out] at h1
                exact h1.keep fun b hb hl => B9.out.block b hb.2
              obtain ⟨outs, houts⟩ : ∃ z, z = (sortK (keysOf items)).map (pick items) := ⟨_, rfl⟩
              have HOUTS := Lib.hid houts
              have HBAG : Hid (bag k a b = outs) := by show _ = _; rw [BE.out, houts, sorted_picks HWF.out]
              have hol : outs.length = nk := by
                rw [houts, List.length_map]
                unfold sortK
                rw [List.length_mergeSort]
                exact HK.out.symm
              have HOL := Lib.hid hol
              clear houts hol SC HM HR HW HZ hg9 HK HTI
              go_loopg [19, 112] nk (fun q v19 v112 wx => ∃ (j c3 : Nat) (A3 : Option Addr) (L3 : List KInfo), v112 = .int .i64 (j : Int) ∧ q + j = nk ∧ v19 = .slice A3 j c3 ∧
                Hid (OwnR wx w9.heap.size (fun z => (p z ∨ w4.heap.size ≤ z) ∧ z < B0) (.slice A3 j c3) (outs.take j) L3) ∧ Hid (Below w9.heap.size w9 wx))
              case atStart => exact ⟨0, 0, none, [], rfl, by omega, rfl, OwnR.nil _ _ _, Below.refl _ _⟩
              case round =>
                obtain ⟨j, c3, A3, L3, rfl, hqj, rfl, HO, HX⟩ := hrel
                by_cases hj : j < nk
                · obtain ⟨s, hs⟩ : ∃ s, (sortK (keysOf items))[j]? = some s := by
                    have h1 : j < (sortK (keysOf items)).length := by have := HOL.out; rw [HOUTS.out, List.length_map] at this; omega
                    exact ⟨_, List.getElem?_eq_getElem h1⟩
                  have x0 : wr.cell? ⟨gK, j, none⟩ = some (.string (str s)) := (HX.out.cell (World.block_lt_of_cell? w9 _ (hc9.out j s hs))).trans (hc9.out j s hs)
                  have hsk : s ∈ keysOf items := by
                    have h1 := List.mem_of_getElem? hs
                    unfold sortK at h1
                    exact List.mem_mergeSort.1 h1
                  have hsm : s ∈ items.map rexTxt := keys_mem.1 hsk
                  have hsl : s.length ≤ maxLen := by
                    obtain ⟨y, hy, rfl⟩ := List.mem_map.1 hsm
                    exact HSL.out y hy
                  have hsz : Hid (s ∈ (items.zip Li).map fun p => rexTxt p.1) := by
                    have h1 := zip_fst hLI items.length
                    rw [List.take_of_length_le (Nat.le_refl _), List.take_of_length_le (by rw [List.length_zip, hLI]; omega)] at h1
                    rw [h1]
                    exact Lib.hid hsm
                  have HMx : Hid (wr.ownsMap Tryz.prog TStr rdV B0 i (dOf (items.zip Li))) := HM9.out.kept (row := none) (grown_blw HX.out) (by simp)
                  have HIx : Hid (∀ q, q ∈ items.zip Li → RexP wr (fun z => (p z ∨ w4.heap.size ≤ z) ∧ z < B0) q.1 (.int .i64 q.1.kind) q.2.v1 q.2.v2) := fun q hq => (HI9.out q hq).under HX.out
                  have hol2 : (outs.take j).length = j := by rw [List.length_take, HOL.out]; omega
                  have HOW : Hid (wr.ownsRow w9.heap.size TRx 3 (.slice A3 j c3) j (kcells (outs.take j) L3)) := by have := HO.out.own; rw [hol2] at this; exact this
                  have HOL2 := Lib.hid hol2
                  have hn1 : j + 1 ≤ maxLen := by unfold maxLen; omega
                  have j0 : (0 : Int) ≤ (j : Int) := by omega
                  have j1 : (j : Int) < (nk : Int) := by omega
                  have hzx := HX.out.size
                  have HSJ := Lib.hid hs
                  clear hs hsk hsm hol2
                  go_wp2_with (first
                    | (at_lookup; refine lookAt _ (by rfl) _ _ (by rfl) B0 i _ (by rfl) HMx.out s hsl (by rfl) hsz.out wr _ HIx.out ?_; intro r Ar Kr cr dr hr1 hr2 hr3; replace hr1 := Lib.hid hr1; replace hr2 := Lib.hid hr2; replace hr3 := Lib.hid hr3)
                    | (at_builtin; refine wpList_append_row (by rfl) (.tmp 116) (.tmp 120) 24 (by rfl) w9.heap.size TRx i1 (.agg #[.int .i64 0, nilS, nilS]) 3 56 Tryz.underlying24 hi hz0 hza hz2 rfl (by decide) (.slice A3 j c3) j (kcells (outs.take j) L3) (by rfl) (own_below HOW.out (below_alloc (Below.refl _ _) _)) (some ⟨wr.heap.size, 0, none⟩) 1 1 [.int .i64 r.kind, .slice Ar r.set.length cr, .slice Kr r.kids.length dr] (by rfl) (.inr ⟨⟨wr.heap.size, 0, none⟩, rfl, Nat.zero_le _, new_cells wr [.int .i64 r.kind, .slice Ar r.set.length cr, .slice Kr r.kids.length dr] TRx⟩) rfl (three_one _ _ _ _ _ _ _) hn1 (by omega) (by simp; omega) _ rfl (j + 1) rfl ?_; intro A5 c5 w5 hown hgrow hat; have HE := Lib.hid hown; have HGR := Lib.hid hgrow; have HAT := Lib.hid hat; clear hown hgrow hat)
                    | fail)
                  go_roundg (gk - 1)
                  case measure => omega
                  case rel =>
                    have ba := below_alloc (Below.refl wr.heap.size wr) (.cells #[.int .i64 r.kind, .slice Ar r.set.length cr, .slice Kr r.kids.length dr] 26)
                    have hrm : r ∈ items := by
                      have h1 := hr1.out
                      rw [List.map_fst_zip (by omega)] at h1
                      exact h1
                    have EO : outs.take (j + 1) = outs.take j ++ [r] := by
                      refine takeSnoc ?_
                      rw [HOUTS.out, List.getElem?_map, HSJ.out]
                      show some (pick items s) = some r
                      rw [← hr2.out, pick_is HWF.out hrm]
                    refine ⟨j + 1, c5, A5, L3 ++ [⟨[], .slice Ar r.set.length cr, .slice Kr r.kids.length dr⟩], by go_num, by omega, rfl, ?_, ?_⟩
                    · rw [EO]
                      exact HO.out.snoc (w1 := wr.alloc (.cells #[.int .i64 r.kind, .slice Ar r.set.length cr, .slice Kr r.kids.length dr] TRx)) (w' := w5) (v' := .slice A5 (j + 1) c5) (hr3.out.mono fun b hb => ⟨hb, fun hv => by have := (own_vlt HO.out.own b hv).1; have := hb.2; omega⟩) ba (by rw [HOL2.out]; exact HE.out) HGR.out (fun b hb => HAT.out b hb) (by rw [HOL2.out]; unfold maxN; omega) []
                    · exact HX.out.grown (grown_thn (grown_blw ba) HGR.out) HX.out.size fun q hq => (own_base HOW.out q hq).1
                · obtain rfl : j = nk := by omega
                  have j1 : ¬ (j : Int) < (j : Int) := by omega
                  have et : outs.take j = outs := List.take_of_length_le (by have := HOL.out; omega)
                  rw [et] at HO
                  clear et
                  go_wp2_with fail
                  go_ret
                  have hB := HB0.out
                  have hsI := HBI.out.size
                  have hs9 := B9.out.size
                  refine ⟨A3, j, c3, L3, rfl, by rw [HBAG.out]; exact HOL.out.symm, ?_, below_both HBI.out (below_both (w1 := w9) ?_ ?_)⟩
                  · rw [HBAG.out]
                    exact (HO.out.lower (by omega)).mono fun q hq => hq.1.imp id fun h => by omega
                  · exact ⟨B9.out.os, B9.out.tape, B9.out.output, B9.out.size, fun q hq => B9.out.block q (by omega)⟩
                  · exact ⟨HX.out.os, HX.out.tape, HX.out.output, HX.out.size, fun q hq => HX.out.block q (by omega)⟩
end Go.Proofs.YtfeidjjabjejiaaGreatDoor
