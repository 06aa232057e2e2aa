/- Texts joined for the claims: Yb Nd Shelf6 Yc. -/
import Derived.Test.YtfeidjjabjejiaaGreatDoorG12
import Derived.Test.YtfeidjjabjejiaaGreatDoorG13
import Derived.Test.YtfeidjjabjejiaaGreatDoorG8
import Derived.Shelf.Sort.Plain
import Derived.Test.YtfeidjjabjejiaaGreatDoorProg
import Derived.Maps.OwnSet
/- All that two join, by the reference: the walk. -/
namespace Go.Proofs.YtfeidjjabjejiaaGreatDoor
set_option linter.unusedSimpArgs false
set_option linter.unusedVariables false
set_option maxRecDepth 100000
open Go.RowKit

theorem spsP_keep {w w' : World} {p : Nat → Prop} {A : Option Addr} {c : Nat} {s : List Sp} (h : SpsP w p A c s) (hk : ∀ b, p b → b < w.heap.size → w'.heap[b]? = w.heap[b]?) : SpsP w' p A c s :=
  ⟨h.sps.keepAt fun a e hs => hk _ (h.ok a e hs) (h.sps.blk a e hs), h.ok⟩
theorem spsP_mono {w : World} {p p' : Nat → Prop} {A : Option Addr} {c : Nat} {s : List Sp} (h : SpsP w p A c s) (hp : ∀ b, p b → p' b) : SpsP w p' A c s := ⟨h.sps, fun a e hs => hp _ (h.ok a e hs)⟩
theorem spsP_new {w' : World} {lo : Nat} {A : Option Addr} {c : Nat} {s : List Sp} (h : Sps w' lo A c s) : SpsP w' (fun q => lo ≤ q ∧ q < w'.heap.size) A c s := by
  refine ⟨h.lower (Nat.zero_le _), fun a e hs => ⟨?_, h.blk a e hs⟩⟩
  rcases h.row with h1 | ⟨a', e', hl, _⟩
  · cases s with
    | nil => exact absurd rfl hs
    | cons y s =>
      have h2 := spcs_length (y :: s)
      rw [h1] at h2
      simp at h2
  · rw [e] at e'
    injection e' with e'
    rw [e']
    exact hl
set_option maxHeartbeats 1000000 in
theorem sBag_c (a b : Rex) (k : Int) (u1 u2 v1 v2 : Value) (w : World) (p : Nat → Prop) (hk : k = 4 ∨ k = 6) (wx : wf a) (wy : wf b) (ha : RexP w p a (.int .i64 a.kind) u1 u2) (hb : RexP w p b (.int .i64 b.kind) v1 v2) (hp : ∀ q, p q → q < w.heap.size) (hm : a.many + b.many ≤ 2097152)
    (hT : ∀ x, x ∈ lst k a ++ lst k b → ∃ d, formed d x = true ∧ x.size ≤ 1048576) (hS : ∀ s, bagSet k (lst k a ++ lst k b) = some s → ∃ d, formed d (.mk 1 s []) = true ∧ (Rex.mk 1 s []).size ≤ 1048576) :
    Calls Tryz.prog 134 #[.agg #[.int .i64 a.kind, u1, u2], .agg #[.int .i64 b.kind, v1, v2], .int .i64 k] w (ListPost w.heap.size (fun q => p q ∨ w.heap.size ≤ q) (bag k a b) w) := by
  obtain ⟨A, c, KA, ck, _, rfl, rfl, _, _⟩ := ha.parts
  obtain ⟨B, d, KB, dk, _, rfl, rfl, _, _⟩ := hb.parts
  obtain ⟨wa, hwa⟩ : ∃ x, x = (w.alloc (.cells #[.int .i64 a.kind, .slice A a.set.length c, .slice KA a.kids.length ck] TRx)).alloc (.cells #[.int .i64 b.kind, .slice B b.set.length d, .slice KB b.kids.length dk] TRx) := ⟨_, rfl⟩
  have hbw : Below w.heap.size w wa := by rw [hwa]; exact below_alloc (below_alloc (Below.refl _ _) _) _
  have hz1 : wa.heap.size = w.heap.size + 2 := by rw [hwa]; simp
  have MA : Hid (Blk wa w.heap.size #[.int .i64 a.kind, .slice A a.set.length c, .slice KA a.kids.length ck] TRx) := by rw [hwa]; exact (blk_new w _ _).alloc _
  have MB : Hid (Blk wa (w.heap.size + 1) #[.int .i64 b.kind, .slice B b.set.length d, .slice KB b.kids.length dk] TRx) := by
    rw [hwa]
    have := blk_new (w.alloc (.cells #[.int .i64 a.kind, .slice A a.set.length c, .slice KA a.kids.length ck] TRx)) #[.int .i64 b.kind, .slice B b.set.length d, .slice KB b.kids.length dk] TRx
    rw [show (w.alloc (.cells #[.int .i64 a.kind, .slice A a.set.length c, .slice KA a.kids.length ck] TRx)).heap.size = w.heap.size + 1 by simp] at this
    exact this
  have HZ : Hid (w.heap.size + 2 ≤ wa.heap.size) := Nat.le_of_eq hz1.symm
  replace hwa := hwa.symm
  have HA := Lib.hid (ha.under hbw)
  have HB := Lib.hid (hb.under hbw)
  have BW := Lib.hid hbw
  have HP := Lib.hid hp
  have HTT := Lib.hid hT
  have HSS := Lib.hid hS
  have WX := Lib.hid wx
  have WY := Lib.hid wy
  have hlx := lst_len hk wx
  have hly := lst_len hk wy
  have HC : Hid (∀ w' : World, Below wa.heap.size wa w' → w'.cell? ⟨w.heap.size, 0, none⟩ = some (.int .i64 a.kind) ∧ w'.cell? ⟨w.heap.size, 1, none⟩ = some (.slice A a.set.length c) ∧ w'.cell? ⟨w.heap.size, 2, none⟩ = some (.slice KA a.kids.length ck) ∧
      w'.cell? ⟨w.heap.size + 1, 0, none⟩ = some (.int .i64 b.kind) ∧ w'.cell? ⟨w.heap.size + 1, 1, none⟩ = some (.slice B b.set.length d) ∧ w'.cell? ⟨w.heap.size + 1, 2, none⟩ = some (.slice KB b.kids.length dk)) := fun w' h => by
    have M := MA.out.below h
    have N := MB.out.below h
    exact ⟨by rw [M.cell]; rfl, by rw [M.cell]; rfl, by rw [M.cell]; rfl, by rw [N.cell]; rfl, by rw [N.cell]; rfl, by rw [N.cell]; rfl⟩
  obtain ⟨i1, hi, hz0, hza, hz2⟩ := info_parts infoRx
  clear ha hb hbw hz1 hp hT hS wx wy
  go_enter Tryz.func134, Tryz.ntmps134
  go_wp2_with fail
  clear hwa
  refine wp_region_held_drew (S := fun w' => w'.cell? ⟨w.heap.size, 0, none⟩ = some (.int .i64 a.kind) ∧ w'.cell? ⟨w.heap.size, 1, none⟩ = some (.slice A a.set.length c) ∧ w'.cell? ⟨w.heap.size, 2, none⟩ = some (.slice KA a.kids.length ck) ∧
      w'.cell? ⟨w.heap.size + 1, 0, none⟩ = some (.int .i64 b.kind) ∧ w'.cell? ⟨w.heap.size + 1, 1, none⟩ = some (.slice B b.set.length d) ∧ w'.cell? ⟨w.heap.size + 1, 2, none⟩ = some (.slice KB b.kids.length dk)) (by kernel_rfl) (HC.out _ (below_drew (Below.refl _ _))) (fun hHeld0 => ?_)
  refine wpAnyH_take (i := 0) (v := ?_) rfl (by kernel_rfl) (by kernel_rfl) (by kernel_rfl) (fun _ _ _ h => h) (Or.inl ⟨by rfl, ?_⟩) (by assumption) ?_
  rotate_left
  · (intro w hSw; (try dsimp only at hSw); go_simp; try with_reducible rfl)
  try simp only [Act.put, List.getElem_toArray, List.getElem_cons_zero, List.getElem_cons_succ, List.setIfInBounds_toArray, List.set_cons_zero, List.set_cons_succ]
  refine wpAnyH_take (i := 1) (v := ?_) rfl (by kernel_rfl) (by kernel_rfl) (by kernel_rfl) (fun _ _ _ h => h) (Or.inl ⟨by rfl, ?_⟩) (by assumption) ?_
  rotate_left
  · (intro w hSw; (try dsimp only at hSw); go_simp; try with_reducible rfl)
  try simp only [Act.put, List.getElem_toArray, List.getElem_cons_zero, List.getElem_cons_succ, List.setIfInBounds_toArray, List.set_cons_zero, List.set_cons_succ]
  refine wpAnyH_take (i := 3) (v := ?_) rfl (by kernel_rfl) (by kernel_rfl) (by kernel_rfl) (fun _ _ _ h => h) (Or.inl ⟨by rfl, ?_⟩) (by assumption) ?_
  rotate_left
  · (intro w hSw; (try dsimp only at hSw); go_simp; try with_reducible rfl)
  try simp only [Act.put, List.getElem_toArray, List.getElem_cons_zero, List.getElem_cons_succ, List.setIfInBounds_toArray, List.set_cons_zero, List.set_cons_succ]
  refine wpAnyH_take (i := 4) (v := ?_) rfl (by kernel_rfl) (by kernel_rfl) (by kernel_rfl) (fun _ _ _ h => h) (Or.inl ⟨by rfl, ?_⟩) (by assumption) ?_
  rotate_left
  · (intro w hSw; (try dsimp only at hSw); go_simp; try with_reducible rfl)
  try simp only [Act.put, List.getElem_toArray, List.getElem_cons_zero, List.getElem_cons_succ, List.setIfInBounds_toArray, List.set_cons_zero, List.set_cons_succ]
  have hdz := (below_drew (Below.refl wa.heap.size wa)).size
  have hwz := BW.out.size
  refine wpAnyH_ready (rs := [2]) (by kernel_rfl) (by simp) ?_
  refine AllReadyH.cons (o := ⟨some 14, _, _, _, _, _⟩) rfl (fun K hK => ?_) AllReadyH.nil
  go_simp
  refine (sList_c a k _ _ wa.drew p hk WX.out (HA.out.under (below_drew (Below.refl _ _))) (fun z hz => by have := HP.out z hz; omega) (by omega)).mono ?_
  rintro e w3 ⟨A3, n3, c3, L3, rfl, hn3, ho3, b3⟩
  have B3 := Lib.hid (below_then (below_drew (Below.refl wa.heap.size wa)) b3)
  have h3z0 := b3.size
  have V3 : Hid (∀ b, b ∈ vblk (.slice A3 n3 c3) → wa.heap.size ≤ b) := fun b hb => Nat.le_trans hdz (own_vlt ho3.own b hb).1
  have O3 := Lib.hid (ho3.lower (Nat.le_trans hwz hdz))
  have N3 := Lib.hid hn3
  clear hn3 ho3 b3
  (try go_wp2_with fail)
  refine hK.out _ _ (HC.out w3 B3.out) (fun hHeld1 => ?_)
  clear hK K hHeld0
  try simp only [Act.put, List.getElem_toArray, List.getElem_cons_zero, List.getElem_cons_succ, List.setIfInBounds_toArray, List.set_cons_zero, List.set_cons_succ]
  refine wpAnyH_ready (rs := [5]) (by kernel_rfl) (by simp) ?_
  refine AllReadyH.cons (o := ⟨some 17, _, _, _, _, _⟩) rfl (fun K hK => ?_) AllReadyH.nil
  go_simp
  have h3z := B3.out.size
  refine (sList_c b k _ _ w3 p hk WY.out (HB.out.under B3.out) (fun z hz => by have := HP.out z hz; omega) (by omega)).mono ?_
  rintro e w4 ⟨A4, n4, c4, L4, rfl, hn4, ho4, b4⟩
  have B4 := Lib.hid (below_then B3.out b4)
  have h3z' : wa.drew.heap.size ≤ w3.heap.size := h3z0
  have O34 := Lib.hid (O3.out.under b4)
  have O4 := Lib.hid (ho4.lower (Nat.le_trans hwz (Nat.le_trans hdz h3z')))
  have N4 := Lib.hid hn4
  clear hn4 ho4 b4 O3
  (try go_wp2_with fail)
  refine hK.out _ _ (HC.out w4 B4.out) (fun hHeld2 => ?_)
  clear hK K hHeld1
  try simp only [Act.put, List.getElem_toArray, List.getElem_cons_zero, List.getElem_cons_succ, List.setIfInBounds_toArray, List.set_cons_zero, List.set_cons_succ]
  refine wpAnyH_ready (rs := [6]) (by kernel_rfl) (by simp) ?_
  refine AllReadyH.cons (o := ⟨some 18, _, _, _, _, _⟩) rfl (fun K hK => ?_) AllReadyH.nil
  have hnn : n3 + n4 ≤ 2097152 := by have := N3.out; have := N4.out; omega
  have OW3 : Hid (w4.ownsRow w.heap.size TRx 3 (.slice A3 n3 c3) n3 (kcells (lst k a) L3)) := by have := O34.out.own; rw [← N3.out] at this; exact this
  have h4z : w.heap.size ≤ w4.heap.size := Nat.le_trans hwz B4.out.size
  have hle : (kcells (lst k b) L4).length = n4 * 3 := by rw [kcells_length _ _ O4.out.len.symm, ← N4.out]
  refine step_append_row (by rfl) (.tmp 14) (.tmp 17) 24 (by rfl) w.heap.size TRx i1 (.agg #[.int .i64 0, nilS, nilS]) 3 56 Tryz.underlying24 hi hz0 hza hz2 rfl (by decide) (.slice A3 n3 c3) n3 (kcells (lst k a) L3) (by rfl) OW3.out A4 n4 c4 (kcells (lst k b) L4) (by rfl) O4.out.rowOf hle O4.out.ones (by unfold maxLen; omega) (by omega) h4z _ rfl (n3 + n4) rfl ?_
  intro A5 c5 w5 hown hgrow hat
  have h3v : Hid (∀ b, b ∈ vblk (.slice A3 n3 c3) → w.heap.size ≤ b) := fun b hb => (own_vlt OW3.out b hb).1
  have T5 : Hid (∀ q, q < w.heap.size → w5.heap[q]? = w4.heap[q]?) := fun q hq => hgrow.block q (by omega) fun e => by have := h3v.out q (mem_vblk.2 e.symm); omega
  obtain ⟨all, hall⟩ : ∃ all, all = lst k a ++ lst k b := ⟨_, rfl⟩
  have OA : Hid (OwnR w5 w.heap.size p (.slice A5 (n3 + n4) c5) all (L3 ++ L4)) := by
    rw [hall]
    exact O34.out.app O4.out (fun b hb => HP.out b hb) (by rw [← N3.out, ← N4.out]; exact hown) (fun b hb _ => T5.out b (HP.out b hb)) (by rw [← N3.out, ← N4.out]; unfold maxN; omega)
  have NA : Hid (n3 + n4 = all.length) := by rw [hall, List.length_append, ← N3.out, ← N4.out]; exact Lib.hid rfl
  have B5 : Hid (Below wa.heap.size wa w5) := B4.out.grown hgrow B4.out.size (fun q hq => V3.out q (mem_vblk.2 hq))
  have HALL := Lib.hid hall
  clear hown hgrow hat T5 h3v OW3 O34 O4 B4 B3 V3 hle hall
  refine hK.out _ _ (HC.out w5 B5.out) (fun hHeld3 => ?_)
  clear hK K hHeld2
  try simp only [Act.put, List.getElem_toArray, List.getElem_cons_zero, List.getElem_cons_succ, List.setIfInBounds_toArray, List.set_cons_zero, List.set_cons_succ]
  refine wpAnyH_take (i := 7) (v := ?_) rfl (by kernel_rfl) (by kernel_rfl) (by kernel_rfl) (fun _ _ _ h => h) (Or.inl ⟨by rfl, ?_⟩) (by assumption) ?_
  rotate_left
  · (intro w hSw; (try dsimp only at hSw); go_simp; try with_reducible rfl)
  try simp only [Act.put, List.getElem_toArray, List.getElem_cons_zero, List.getElem_cons_succ, List.setIfInBounds_toArray, List.set_cons_zero, List.set_cons_succ]
  refine wpAnyH_done (by kernel_rfl) ?_ _
  clear hHeld3 HC
  obtain ⟨n, hn⟩ : ∃ n, n = n3 + n4 := ⟨_, rfl⟩
  have hnm : n ≤ 2097152 := by omega
  rw [← hn] at OA NA ⊢
  clear hn N3 N4 hnn hlx hly h3z h3z' h3z0
  obtain ⟨w7, hw7⟩ : ∃ x, x = (w5.alloc (.cells #[] TRx)).alloc (.cells #[] TSp) := ⟨_, rfl⟩
  have B7 : Hid (Below w5.heap.size w5 w7) := by rw [hw7]; exact below_alloc (below_alloc (Below.refl _ _) _) _
  have HZ7 : Hid (w5.heap.size + 2 = w7.heap.size) := by rw [hw7]; show _ = _; simp
  have O7 : Hid (OwnR w7 w5.heap.size p (.slice (some ⟨w5.heap.size, 0, none⟩) 0 0) [] []) := by
    rw [hw7]
    exact Lib.hid ⟨(World.ownsRow_made w5 #[] 0 (Nat.le_refl _) (by decide) rfl).alloc _, rfl, by simp, fun i r' x' a b => by simp at a⟩
  replace hw7 := hw7.symm
  go_wp2_with fail
  clear hw7
  go_loopg [8, 9, 10, 11] n (fun q v8 v9 v10 v11 wr => ∃ (i G m cm : Nat) (LO : List KInfo) (sA : Option Addr) (sc : Nat), v11 = .int .i64 (i : Int) ∧ q + i = n ∧ v8 = .slice (some ⟨G, 0, none⟩) m cm ∧ v9 = .bool (bagSet k (all.take i)).isSome ∧ v10 = .slice sA ((bagSet k (all.take i)).getD []).length sc ∧
    Hid (m = (sortU (bagOthers (all.take i))).length) ∧ Hid (OwnR wr w5.heap.size p (.slice (some ⟨G, 0, none⟩) m cm) (sortU (bagOthers (all.take i))) LO) ∧
    Hid (SpsP wr (fun q => (p q ∨ w5.heap.size ≤ q) ∧ q ≠ G ∧ q < wr.heap.size) sA sc ((bagSet k (all.take i)).getD [])) ∧ Hid (Below w5.heap.size w5 wr) ∧ Hid (w5.heap.size + 2 ≤ wr.heap.size))
  case atStart => exact ⟨0, w5.heap.size, 0, 0, [], some ⟨w5.heap.size + 1, 0, none⟩, 0, rfl, by omega, rfl, rfl, rfl, rfl, O7, ⟨⟨.inl rfl, Nat.le_refl _, by simp [bagSet]⟩, fun a e h => absurd rfl h⟩, B7, Nat.le_of_eq HZ7.out⟩
  case round =>
    clear O7 B7 HZ7
    obtain ⟨i, G, m, cm, LO, sA, sc, rfl, hqi, rfl, rfl, rfl, HM, HO, HS, HW, HZW⟩ := hrel
    by_cases hin : i < n
    · obtain ⟨g', cap', x, A2, c2, K2, k2, ev, ex, eL, hx, x0, x1, x2⟩ := OA.out.at_ i (by have := NA.out; omega)
      injection ev with ev1 ev2 ev3
      subst ev1
      have up : ∀ {q : Addr} {u : Value}, w5.cell? q = some u → wr.cell? q = some u := fun {q u} h => (HW.out.cell (World.block_lt_of_cell? w5 q h)).trans h
      replace x0 := up x0
      replace x1 := up x1
      replace x2 := up x2
      have HX := Lib.hid ((hx.mono (p' := p) fun b hb => hb.1).under HW.out)
      have EX : Hid (all[i]? = some x) := ex
      have j0 : (0 : Int) ≤ (i : Int) := by omega
      have j1 : (i : Int) < (n : Int) := by omega
      have hm1 : m ≤ i := by
        have h1 := sortU_len (bagOthers (all.take i))
        have h2 := others_len (all.take i)
        rw [List.length_take] at h2
        have := HM.out
        omega
      have HMEM : Hid (∀ y, y ∈ sortU (bagOthers (all.take i)) → y ∈ all) := fun y hy => List.mem_of_mem_take (others_mem (sortU_mem _ _ hy))
      have HXA : Hid (x ∈ all) := List.mem_of_getElem? ex
      clear ev2 ev3 ex eL hx up
      by_cases hk1 : x.kind = 1
      · have d1 : (x.kind == 1) = true := by simp [hk1]
        have hsx : Hid (SpsP wr p A2 c2 x.set) := by
          obtain ⟨A', c', K', ck', _, f1, _, hs, _⟩ := HX.out.parts
          injection f1 with f1 f2 f3
          subst f1 f3
          exact hs
        have e0 := Lib.hid (takeSnoc EX.out)
        have e1 : Hid (bagOthers (all.take (i + 1)) = bagOthers (all.take i)) := by show _ = _; rw [e0.out, others_snoc, if_pos hk1]
        have hGG := Lib.hid (own_vlt HO.out.own G (by simp [vblk_some])).1
        rcases ho : bagSet k (all.take i) with _ | s
        · have e2 : Hid (bagSet k (all.take (i + 1)) = some x.set) := by show _ = _; rw [e0.out, bagSet_snoc, if_pos hk1, ho]; rfl
          clear hk1 ho
          go_wp2_with fail
          go_roundg (gk - 1)
          case measure => omega
          case rel =>
            refine ⟨i + 1, G, m, cm, LO, A2, c2, by go_num, by omega, rfl, by rw [e2.out]; rfl, by rw [e2.out]; rfl, by rw [e1.out]; exact HM, by rw [e1.out]; exact HO, ?_, HW, HZW⟩
            rw [e2.out]
            exact spsP_mono hsx.out fun q hq => ⟨.inl hq, by have := HP.out q hq; have := B5.out.size; have := hGG.out; omega, by have := HP.out q hq; have := B5.out.size; have := HW.out.size; omega⟩
        · rw [ho] at HS
          have e2 : Hid (bagSet k (all.take (i + 1)) = some (if k = 4 then setJoin s x.set else setMeet s x.set)) := by show _ = _; rw [e0.out, bagSet_snoc, if_pos hk1, ho]; rfl
          clear hk1 ho
          rcases hk with rfl | rfl
          · have SC := Lib.hid (sSetJoin_c sA A2 sc c2 s x.set wr HS.out.sps hsx.out.sps)
            go_wp2_with ((with_reducible refine SC.out.mono ?_); rintro e w8 ⟨v8, rfl, ho8, hb8⟩; replace ho8 := Lib.hid ho8; replace hb8 := Lib.hid hb8)
            go_roundg (gk - 1)
            case measure => omega
            case rel =>
              obtain ⟨A8, c8, rfl, hs8⟩ := ho8.out.sps
              have hG3 := (own_vlt HO.out.own G (by simp [vblk_some])).2
              have h8s := hb8.out.size
              have h5s := HW.out.size
              have hG4 := hGG.out
              refine ⟨i + 1, G, m, cm, LO, A8, c8, by go_num, by omega, rfl, by rw [e2.out]; rfl, by rw [e2.out]; rfl, by rw [e1.out]; exact HM, by rw [e1.out]; exact HO.out.under hb8.out, ?_, below_then HW.out hb8.out, Nat.le_trans HZW.out h8s⟩
              rw [e2.out]
              exact spsP_mono (spsP_new hs8) fun q hq => ⟨.inr (by have := hq.1; omega), by have := hq.1; omega, hq.2⟩
          · have SC := Lib.hid (sSetMeet_c sA A2 sc c2 s x.set wr HS.out.sps hsx.out.sps)
            go_wp2_with ((with_reducible refine SC.out.mono ?_); rintro e w8 ⟨v8, rfl, ho8, hb8⟩; replace ho8 := Lib.hid ho8; replace hb8 := Lib.hid hb8)
            go_roundg (gk - 1)
            case measure => omega
            case rel =>
              obtain ⟨A8, c8, rfl, hs8⟩ := ho8.out.sps
              have hG3 := (own_vlt HO.out.own G (by simp [vblk_some])).2
              have h8s := hb8.out.size
              have h5s := HW.out.size
              have hG4 := hGG.out
              refine ⟨i + 1, G, m, cm, LO, A8, c8, by go_num, by omega, rfl, by rw [e2.out]; rfl, by rw [e2.out]; rfl, by rw [e1.out]; exact HM, by rw [e1.out]; exact HO.out.under hb8.out, ?_, below_then HW.out hb8.out, Nat.le_trans HZW.out h8s⟩
              rw [e2.out]
              exact spsP_mono (spsP_new hs8) fun q hq => ⟨.inr (by have := hq.1; omega), by have := hq.1; omega, hq.2⟩
      · have d1 : (x.kind == 1) = false := by simp [hk1]
        have PC := sPut_c (sortU (bagOthers (all.take i))) x G m cm LO wr w5.heap.size p _ _ HO.out HM.out (by omega) HW.out.size (fun q hq => ⟨by have := HP.out q hq; have := B5.out.size; have := (own_vlt HO.out.own G (by simp [vblk_some])).1; omega, by have := HP.out q hq; have := B5.out.size; have := HW.out.size; omega⟩) HX.out (fun y hy => HTT.out y (by rw [← HALL.out]; rcases hy with rfl | hy; exact HXA.out; exact HMEM.out y hy))
        replace PC := Lib.hid PC
        go_wp2_with ((with_reducible refine PC.out.mono ?_); rintro e w8 ⟨G8, m8, c8, L8, rfl, hm8, ho8, hg8, hG8⟩; replace hm8 := Lib.hid hm8; replace ho8 := Lib.hid ho8; replace hg8 := Lib.hid hg8; replace hG8 := Lib.hid hG8)
        go_roundg (gk - 1)
        case measure => omega
        case rel =>
          have e0 := takeSnoc EX.out
          have e1 : bagOthers (all.take (i + 1)) = bagOthers (all.take i) ++ [x] := by rw [e0, others_snoc, if_neg hk1]
          have e2 : bagSet k (all.take (i + 1)) = bagSet k (all.take i) := by rw [e0, bagSet_snoc, if_neg hk1]
          have e3 : sortU (bagOthers (all.take (i + 1))) = put (sortU (bagOthers (all.take i))) x := by rw [e1, sortU_snoc]
          have hw8 := hg8.out.size
          have hGG := (own_vlt HO.out.own G (by simp [vblk_some])).1
          refine ⟨i + 1, G8, m8, c8, L8, sA, sc, by go_num, by omega, rfl, by rw [e2], by rw [e2], by rw [e3]; exact hm8, by rw [e3]; exact ho8, ?_, ?_, ?_⟩
          · rw [e2]
            exact spsP_mono (spsP_keep HS.out (fun q hq hl => hg8.out.block q hl fun e => hq.2.1 (Option.some.inj e))) fun q hq => ⟨hq.1, fun e => by
              rcases hG8.out with h | h
              · exact hq.2.1 (e.trans (Option.some.inj h))
              · have := hq.2.2; omega, by have := hq.2.2; omega⟩
          · exact HW.out.grown hg8.out HW.out.size (fun q hq => by have := Option.some.inj hq; omega)
          · exact Nat.le_trans HZW.out hw8
    · have j1 : ¬ (i : Int) < (n : Int) := by omega
      have et : all.take i = all := List.take_of_length_le (by have := NA.out; omega)
      rw [et] at HM HO HS ⊢
      have BB : Hid (Below w.heap.size w wr) := Lib.hid (below_then (below_then BW.out B5.out) HW.out)
      have BE : Hid (bag k a b = sortU (bagItems k all)) := by rw [HALL.out]; exact Lib.hid rfl
      have h5z : w.heap.size ≤ w5.heap.size := Nat.le_trans hwz B5.out.size
      clear et OA B5 HW
      rcases ho : bagSet k all with _ | s
      · have E : Hid (bag k a b = sortU (bagOthers all)) := by show _ = _; rw [BE.out, bag_end, ho]
        clear ho
        go_wp2_with fail
        go_ret
        exact ⟨_, m, cm, LO, rfl, by rw [E.out]; exact HM.out, by rw [E.out]; exact (HO.out.lower h5z).mono fun q hq => .inl hq, BB.out⟩
      · rw [ho] at HS
        have HOS : Hid (∃ d, formed d (.mk 1 s []) = true ∧ (Rex.mk 1 s []).size ≤ 1048576) := HSS.out s (by rw [← HALL.out]; exact ho)
        have hG3 := own_vlt HO.out.own G (by simp [vblk_some])
        have HOP : Hid (OwnR wr w5.heap.size (fun q => (p q ∨ w5.heap.size ≤ q) ∧ q ≠ G ∧ q < wr.heap.size) (.slice (some ⟨G, 0, none⟩) m cm) (sortU (bagOthers all)) LO) := HO.out.mono fun q hq => ⟨.inl hq, by have := HP.out q hq; omega, by have := HP.out q hq; omega⟩
        have HR : Hid (RexP wr (fun q => (p q ∨ w5.heap.size ≤ q) ∧ q ≠ G ∧ q < wr.heap.size) (.mk 1 s []) (.int .i64 1) (.slice sA s.length sc) nilS) := by
          obtain ⟨_, _, _, _, _, _, f2, _, hkk⟩ := (RexP.leaf (w := wr) (p := fun q => (p q ∨ w5.heap.size ≤ q) ∧ q ≠ G ∧ q < wr.heap.size) 1).parts
          injection f2 with f2 f3 f4
          subst f2 f4
          exact RexP.of HS.out hkk
        have hml : m ≤ 2097152 := by have h1 := sortU_len (bagOthers all); have h2 := others_len all; have := HM.out; have := NA.out; omega
        have h5r : w5.heap.size ≤ wr.heap.size := by have := HZW.out; omega
        have hmz : m = 0 ↔ (bagOthers all).length = 0 := by rw [HM.out]; exact sortU_zero _
        by_cases hs0 : s = []
        · subst hs0
          rcases hk with rfl | rfl
          · by_cases hm0 : m = 0
            · have hc : Hid (([] : List Sp) ≠ [] ∨ (4 : Int) = 6 ∨ (bagOthers all).length = 0) := .inr (.inr (hmz.1 hm0))
              clear hmz
              subst hm0
              have E : Hid (bag 4 a b = put (sortU (bagOthers all)) (.mk 1 [] [])) := by show _ = _; rw [BE.out, bag_end, ho]; exact if_pos hc.out
              have PC : Hid (Calls Tryz.prog 157 #[.slice (some ⟨G, 0, none⟩) 0 cm, .agg #[.int .i64 1, .slice sA 0 sc, .slice none 0 0]] wr (PutPost w5.heap.size (fun q => (p q ∨ w5.heap.size ≤ q) ∧ q ≠ G ∧ q < wr.heap.size) (sortU (bagOthers all)) (.mk 1 [] []) (some G) wr)) := Lib.hid (sPut_c (sortU (bagOthers all)) (.mk 1 [] []) G 0 cm LO wr w5.heap.size (fun q => (p q ∨ w5.heap.size ≤ q) ∧ q ≠ G ∧ q < wr.heap.size) _ _ HOP.out HM.out (by omega) h5r (fun q hq => ⟨hq.2.1, hq.2.2⟩) HR.out (fun y hy => by
                rcases hy with rfl | hy
                · exact HOS.out
                · exact HTT.out y (by rw [← HALL.out]; exact others_mem (sortU_mem _ _ hy))))
              clear ho hc
              go_wp2_with ((with_reducible refine PC.out.mono ?_); rintro e w8 ⟨G8, m8, c8, L8, rfl, hm8, ho8, hg8, hG8⟩; replace hm8 := Lib.hid hm8; replace ho8 := Lib.hid ho8; replace hg8 := Lib.hid hg8; replace hG8 := Lib.hid hG8)
              go_ret
              exact ⟨_, m8, c8, L8, rfl, by rw [E.out]; exact hm8.out, by rw [E.out]; exact (ho8.out.lower h5z).mono fun q hq => hq.1.imp id (fun h => Nat.le_trans h5z h), BB.out.grown hg8.out BB.out.size (fun q hq => by have := Option.some.inj hq; have := hG3.1; omega)⟩
            · have E : Hid (bag 4 a b = sortU (bagOthers all)) := by
                show _ = _
                rw [BE.out, bag_end, ho]
                exact if_neg (fun h => by
                  rcases h with h | h | h
                  · exact h rfl
                  · exact absurd h (by decide)
                  · exact hm0 (hmz.2 h))
              have d1 : ((m : Int) == 0) = false := by simp [hm0]
              have d2 : ¬ (m : Int) = 0 := by omega
              clear hmz ho
              go_wp2_with fail
              go_ret
              exact ⟨_, m, cm, LO, rfl, by rw [E.out]; exact HM.out, by rw [E.out]; exact (HO.out.lower h5z).mono fun q hq => .inl hq, BB.out⟩
          · have hc : Hid (([] : List Sp) ≠ [] ∨ (6 : Int) = 6 ∨ (bagOthers all).length = 0) := .inr (.inl rfl)
            clear hmz
            have E : Hid (bag 6 a b = put (sortU (bagOthers all)) (.mk 1 [] [])) := by show _ = _; rw [BE.out, bag_end, ho]; exact if_pos hc.out
            have PC : Hid (Calls Tryz.prog 157 #[.slice (some ⟨G, 0, none⟩) m cm, .agg #[.int .i64 1, .slice sA 0 sc, .slice none 0 0]] wr (PutPost w5.heap.size (fun q => (p q ∨ w5.heap.size ≤ q) ∧ q ≠ G ∧ q < wr.heap.size) (sortU (bagOthers all)) (.mk 1 [] []) (some G) wr)) := Lib.hid (sPut_c (sortU (bagOthers all)) (.mk 1 [] []) G m cm LO wr w5.heap.size (fun q => (p q ∨ w5.heap.size ≤ q) ∧ q ≠ G ∧ q < wr.heap.size) _ _ HOP.out HM.out (by omega) h5r (fun q hq => ⟨hq.2.1, hq.2.2⟩) HR.out (fun y hy => by
              rcases hy with rfl | hy
              · exact HOS.out
              · exact HTT.out y (by rw [← HALL.out]; exact others_mem (sortU_mem _ _ hy))))
            clear ho hc
            go_wp2_with ((with_reducible refine PC.out.mono ?_); rintro e w8 ⟨G8, m8, c8, L8, rfl, hm8, ho8, hg8, hG8⟩; replace hm8 := Lib.hid hm8; replace ho8 := Lib.hid ho8; replace hg8 := Lib.hid hg8; replace hG8 := Lib.hid hG8)
            go_ret
            exact ⟨_, m8, c8, L8, rfl, by rw [E.out]; exact hm8.out, by rw [E.out]; exact (ho8.out.lower h5z).mono fun q hq => hq.1.imp id (fun h => Nat.le_trans h5z h), BB.out.grown hg8.out BB.out.size (fun q hq => by have := Option.some.inj hq; have := hG3.1; omega)⟩
        · have hl : 0 < s.length := List.length_pos_iff.2 hs0
          have hc : Hid (s ≠ [] ∨ k = 6 ∨ (bagOthers all).length = 0) := .inl hs0
          have d1 : (0 : Int) < (s.length : Int) := by omega
          have d2 : decide ((0 : Int) < (s.length : Int)) = true := decide_eq_true d1
          have d3 : decide (0 < s.length) = true := decide_eq_true hl
          clear hmz
          have E : Hid (bag k a b = put (sortU (bagOthers all)) (.mk 1 s [])) := by show _ = _; rw [BE.out, bag_end, ho]; exact if_pos hc.out
          have PC : Hid (Calls Tryz.prog 157 #[.slice (some ⟨G, 0, none⟩) m cm, .agg #[.int .i64 1, .slice sA s.length sc, .slice none 0 0]] wr (PutPost w5.heap.size (fun q => (p q ∨ w5.heap.size ≤ q) ∧ q ≠ G ∧ q < wr.heap.size) (sortU (bagOthers all)) (.mk 1 s []) (some G) wr)) := Lib.hid (sPut_c (sortU (bagOthers all)) (.mk 1 s []) G m cm LO wr w5.heap.size (fun q => (p q ∨ w5.heap.size ≤ q) ∧ q ≠ G ∧ q < wr.heap.size) _ _ HOP.out HM.out (by omega) h5r (fun q hq => ⟨hq.2.1, hq.2.2⟩) HR.out (fun y hy => by
            rcases hy with rfl | hy
            · exact HOS.out
            · exact HTT.out y (by rw [← HALL.out]; exact others_mem (sortU_mem _ _ hy))))
          clear ho hc
          go_wp2_with ((with_reducible refine PC.out.mono ?_); rintro e w8 ⟨G8, m8, c8, L8, rfl, hm8, ho8, hg8, hG8⟩; replace hm8 := Lib.hid hm8; replace ho8 := Lib.hid ho8; replace hg8 := Lib.hid hg8; replace hG8 := Lib.hid hG8)
          go_ret
          exact ⟨_, m8, c8, L8, rfl, by rw [E.out]; exact hm8.out, by rw [E.out]; exact (ho8.out.lower h5z).mono fun q hq => hq.1.imp id (fun h => Nat.le_trans h5z h), BB.out.grown hg8.out BB.out.size (fun q hq => by have := Option.some.inj hq; have := hG3.1; omega)⟩
end Go.Proofs.YtfeidjjabjejiaaGreatDoor

/- Lists in the order of their texts: the two ways to make them are one. Plain. -/
namespace Go.Proofs.YtfeidjjabjejiaaGreatDoor
set_option linter.unusedSimpArgs false
set_option linter.unusedVariables false
set_option maxRecDepth 100000

theorem bytes_tri (a b : List UInt8) : a < b ∨ a = b ∨ b < a := by
  by_cases h : a < b
  · exact .inl h
  · by_cases h2 : b < a
    · exact .inr (.inr h2)
    · exact .inr (.inl (List.le_antisymm (List.not_lt.1 h2) (List.not_lt.1 h)))
def Asc (l : List Rex) : Prop := l.Pairwise fun x y => rexTxt x < rexTxt y
theorem put_asc {l : List Rex} (r : Rex) (h : Asc l) : Asc (put l r) := by
  induction l with
  | nil => rw [put]; exact List.pairwise_singleton _ _
  | cons x l ih =>
    obtain ⟨h1, h2⟩ := List.pairwise_cons.1 h
    rw [put]
    split
    · rename_i hlt
      refine List.pairwise_cons.2 ⟨fun y hy => ?_, ih h2⟩
      rcases put_mem hy with hy | rfl
      · exact h1 y hy
      · exact hlt
    · rename_i hlt
      split
      · exact h
      · rename_i hne
        have hr : rexTxt r < rexTxt x := by
          rcases bytes_tri (rexTxt x) (rexTxt r) with h3 | h3 | h3
          · exact absurd h3 hlt
          · exact absurd h3 hne
          · exact h3
        refine List.pairwise_cons.2 ⟨fun y hy => ?_, h⟩
        rcases List.mem_cons.1 hy with rfl | hy
        · exact hr
        · exact List.lt_trans hr (h1 y hy)
theorem put_txt {l : List Rex} {r : Rex} {s : List UInt8} : s ∈ (put l r).map rexTxt ↔ s ∈ l.map rexTxt ∨ s = rexTxt r := by
  induction l with
  | nil => simp [put]
  | cons x l ih =>
    rw [put]
    split
    · rw [List.map_cons, List.mem_cons, ih, List.map_cons, List.mem_cons]
      constructor
      · rintro (h | h | h)
        · exact .inl (.inl h)
        · exact .inl (.inr h)
        · exact .inr h
      · rintro ((h | h) | h)
        · exact .inl h
        · exact .inr (.inl h)
        · exact .inr (.inr h)
    · split
      · rename_i e
        constructor
        · exact .inl
        · rintro (h | h)
          · exact h
          · rw [h, ← e]; simp
      · simp only [List.map_cons, List.mem_cons]
        constructor
        · rintro (h | h | h)
          · exact .inr h
          · exact .inl (.inl h)
          · exact .inl (.inr h)
        · rintro ((h | h) | h)
          · exact .inr (.inl h)
          · exact .inr (.inr h)
          · exact .inl h
theorem fold_asc : ∀ (l acc : List Rex), Asc acc → Asc (l.foldl put acc)
  | [], _, h => h
  | x :: l, acc, h => fold_asc l _ (put_asc x h)
theorem fold_txt : ∀ (l acc : List Rex) {s : List UInt8}, s ∈ (l.foldl put acc).map rexTxt ↔ s ∈ acc.map rexTxt ∨ s ∈ l.map rexTxt
  | [], acc, s => by simp
  | x :: l, acc, s => by
    rw [List.foldl_cons, fold_txt l (put acc x), put_txt, List.map_cons, List.mem_cons, or_assoc]
theorem sort_asc (l : List Rex) : Asc (sortU l) := fold_asc l [] List.Pairwise.nil
theorem sort_txt {l : List Rex} {s : List UInt8} : s ∈ (sortU l).map rexTxt ↔ s ∈ l.map rexTxt := by
  unfold sortU
  rw [fold_txt]
  simp
/-- the texts, each once, as they come -/
def keysStep (ks : List (List UInt8)) (x : Rex) : List (List UInt8) := if rexTxt x ∈ ks then ks else ks ++ [rexTxt x]
def keysOf (l : List Rex) : List (List UInt8) := l.foldl keysStep []
theorem keys_app (l : List Rex) (x : Rex) : keysOf (l ++ [x]) = keysStep (keysOf l) x := by unfold keysOf; rw [List.foldl_append]; rfl
theorem keys_fold : ∀ (l : List Rex) (ks : List (List UInt8)), ks.Nodup → (l.foldl keysStep ks).Nodup ∧ ∀ s, s ∈ l.foldl keysStep ks ↔ s ∈ ks ∨ s ∈ l.map rexTxt
  | [], ks, h => ⟨h, fun s => by simp⟩
  | x :: l, ks, h => by
    have h1 : (keysStep ks x).Nodup := by
      unfold keysStep
      split
      · exact h
      · rename_i hn
        exact List.nodup_append.2 ⟨h, List.pairwise_singleton _ _, fun a ha b hb e => by rw [List.mem_singleton.1 hb] at e; rw [e] at ha; exact hn ha⟩
    have h2 : ∀ s, s ∈ keysStep ks x ↔ s ∈ ks ∨ s = rexTxt x := fun s => by
      unfold keysStep
      split
      · rename_i hy
        constructor
        · exact .inl
        · rintro (h | h)
          · exact h
          · rw [h]; exact hy
      · simp
    obtain ⟨h3, h4⟩ := keys_fold l _ h1
    refine ⟨h3, fun s => ?_⟩
    rw [List.foldl_cons, h4, h2, List.map_cons, List.mem_cons, or_assoc]
theorem keys_nodup (l : List Rex) : (keysOf l).Nodup := (keys_fold l [] List.nodup_nil).1
theorem keys_mem {l : List Rex} {s : List UInt8} : s ∈ keysOf l ↔ s ∈ l.map rexTxt := by
  have := (keys_fold l [] List.nodup_nil).2 s
  simpa [keysOf] using this
theorem keys_len (l : List Rex) : (keysOf l).length ≤ l.length := by
  have : ∀ (l : List Rex) (ks : List (List UInt8)), (l.foldl keysStep ks).length ≤ ks.length + l.length := by
    intro l
    induction l with
    | nil => intro ks; simp
    | cons x l ih =>
      intro ks
      have h1 := ih (keysStep ks x)
      have h2 : (keysStep ks x).length ≤ ks.length + 1 := by unfold keysStep; split <;> simp
      rw [List.foldl_cons, List.length_cons]
      omega
  have := this l []
  simpa [keysOf] using this
/-- the last one with a text -/
def pick (l : List Rex) (s : List UInt8) : Rex := ((l.filter fun x => decide (rexTxt x = s)).getLast?).getD default
theorem pick_is {l : List Rex} (h : ∀ x ∈ l, wf x) {x : Rex} (hx : x ∈ l) : pick l (rexTxt x) = x := by
  unfold pick
  have hm : x ∈ l.filter fun y => decide (rexTxt y = rexTxt x) := List.mem_filter.2 ⟨hx, by simp⟩
  have hne : (l.filter fun y => decide (rexTxt y = rexTxt x)) ≠ [] := fun e => by rw [e] at hm; cases hm
  rw [List.getLast?_eq_some_getLast hne]
  have h2 := List.mem_filter.1 (List.getLast_mem hne)
  have h3 : rexTxt ((l.filter fun y => decide (rexTxt y = rexTxt x)).getLast hne) = rexTxt x := by simpa using h2.2
  obtain ⟨d, hd⟩ := h x hx
  obtain ⟨e, he⟩ := h _ h2.1
  exact txt_inj he hd h3
def sortK (ks : List (List UInt8)) : List (List UInt8) := ks.mergeSort fun x y => decide (x ≤ y)
theorem sortK_eq (l : List Rex) : sortK (keysOf l) = (sortU l).map rexTxt := by
  have tr : ∀ a b c : List UInt8, decide (a ≤ b) = true → decide (b ≤ c) = true → decide (a ≤ c) = true := fun a b c h1 h2 => by simp only [decide_eq_true_eq] at *; exact List.le_trans h1 h2
  have tt : ∀ a b : List UInt8, (decide (a ≤ b) || decide (b ≤ a)) = true := fun a b => by simp only [Bool.or_eq_true, decide_eq_true_eq]; exact List.le_total a b
  have hs : ((sortU l).map rexTxt).Pairwise fun a b => a < b := List.pairwise_map.2 (sort_asc l)
  have hp : ((sortU l).map rexTxt).Perm (keysOf l) := by
    refine (List.perm_ext_iff_of_nodup (hs.imp fun {a b} h e => ?_) (keys_nodup l)).2 fun s => ?_
    · rw [e] at h; exact List.lt_irrefl _ h
    · rw [sort_txt, keys_mem]
  unfold sortK
  refine List.Perm.eq_of_pairwise (le := fun a b => decide (a ≤ b) = true) (fun a b _ _ h1 h2 => ?_) (List.pairwise_mergeSort tr tt _) (hs.imp fun {a b} h => ?_) ((List.mergeSort_perm _ _).trans hp.symm)
  · simp only [decide_eq_true_eq] at h1 h2
    exact List.le_antisymm h1 h2
  · simp only [decide_eq_true_eq]
    exact List.le_of_lt h
theorem sorted_picks {l : List Rex} (h : ∀ x ∈ l, wf x) : (sortK (keysOf l)).map (pick l) = sortU l := by
  rw [sortK_eq, List.map_map]
  conv => rhs; rw [← List.map_id (sortU l)]
  exact List.map_congr_left fun x hx => pick_is h (sort_mem hx)

end Go.Proofs.YtfeidjjabjejiaaGreatDoor

/-
  DERIVED: THE SHELF's CONTRACTS AT THIS DUMP, IN PLAIN WORDS (tools/lay-plain.mjs out of 'TryzShelf.lean', which tools/lay-shelf.mjs wrote): THE SAME DECLARATIONS UNDER THE SAME NAMES: 'import', 'namespace', 'open', 'def', 'theorem' AND NOTHING ELSE: no command of the shelf's: FOR A HAND-IN. Each laying: the table of numbers ('.._ren') and one theorem, a field a fact of the dump's own or the kernel's comparison; each contract: ONE APPLICATION.
-/
namespace Go.Proofs
open Go.Shelf
def Tryz.lays192_ren : Go.Shelf.Ren := ⟨fun | 192 => 143 | 190 => 164 | 125 => 176 | 258 => 175 | 128 => 194 | 129 => 195 | 302 => 185 | 303 => 186 | 304 => 187 | 305 => 188 | 306 => 189 | 307 => 190 | 308 => 191 | 309 => 192 | 310 => 193 | 333 => 199 | 329 => 200 | 330 => 201 | 334 => 202 | 335 => 203 | 336 => 204 | 344 => 209 | n => n, fun | 31 => 80 | 0 => 0 | 9 => 9 | 3 => 3 | 46 => 158 | 51 => 171 | 53 => 173 | 4 => 4 | 183 => 164 | 182 => 163 | 131 => 136 | 5 => 5 | 218 => 181 | 222 => 185 | 228 => 191 | 229 => 192 | n => n, fun | n => n⟩
theorem Tryz.lays192 : Go.Proofs.Lays.n192 Tryz.prog Tryz.lays192_ren := {
  mixed := by kernel_rfl
  f125 := Tryz.func176.trans (congrArg some (by kernel_rfl))
  f128 := Tryz.func194.trans (congrArg some (by kernel_rfl))
  f129 := Tryz.func195.trans (congrArg some (by kernel_rfl))
  f190 := Tryz.func164.trans (congrArg some (by kernel_rfl))
  f192 := Tryz.func143.trans (congrArg some (by kernel_rfl))
  f258 := Tryz.func175.trans (congrArg some (by kernel_rfl))
  f302 := Tryz.func185.trans (congrArg some (by kernel_rfl))
  f303 := Tryz.func186.trans (congrArg some (by kernel_rfl))
  f304 := Tryz.func187.trans (congrArg some (by kernel_rfl))
  f305 := Tryz.func188.trans (congrArg some (by kernel_rfl))
  f306 := Tryz.func189.trans (congrArg some (by kernel_rfl))
  f307 := Tryz.func190.trans (congrArg some (by kernel_rfl))
  f308 := Tryz.func191.trans (congrArg some (by kernel_rfl))
  f309 := Tryz.func192.trans (congrArg some (by kernel_rfl))
  f310 := Tryz.func193.trans (congrArg some (by kernel_rfl))
  f329 := Tryz.func200.trans (congrArg some (by kernel_rfl))
  f330 := Tryz.func201.trans (congrArg some (by kernel_rfl))
  f333 := Tryz.func199.trans (congrArg some (by kernel_rfl))
  f334 := Tryz.func202.trans (congrArg some (by kernel_rfl))
  f335 := Tryz.func203.trans (congrArg some (by kernel_rfl))
  f336 := Tryz.func204.trans (congrArg some (by kernel_rfl))
  f344 := Tryz.func209.trans (congrArg some (by kernel_rfl))
  t0 := Tryz.underlying0
  a0 := Tryz.isAgg0
  z0 := Tryz.sizeOf0
  v0 := Tryz.zeroValue0
  t3 := Tryz.underlying3
  a3 := Tryz.isAgg3
  z3 := Tryz.sizeOf3
  v3 := Tryz.zeroValue3
  t4 := Tryz.underlying4
  a4 := Tryz.isAgg4
  z4 := Tryz.sizeOf4
  v4 := Tryz.zeroValue4
  t5 := Tryz.underlying5
  a5 := Tryz.isAgg5
  z5 := Tryz.sizeOf5
  v5 := Tryz.zeroValue5
  t9 := Tryz.underlying9
  a9 := Tryz.isAgg9
  z9 := Tryz.sizeOf9
  v9 := Tryz.zeroValue9
  t31 := Tryz.underlying80
  a31 := Tryz.isAgg80
  z31 := Tryz.sizeOf80
  v31 := Tryz.zeroValue80
  t46 := Tryz.underlying158
  a46 := Tryz.isAgg158
  z46 := Tryz.sizeOf158
  v46 := Tryz.zeroValue158
  t51 := Tryz.underlying171
  a51 := Tryz.isAgg171
  z51 := Tryz.sizeOf171
  v51 := Tryz.zeroValue171
  t53 := Tryz.underlying173
  a53 := Tryz.isAgg173
  z53 := Tryz.sizeOf173
  v53 := Tryz.zeroValue173
  t131 := Tryz.underlying136
  a131 := Tryz.isAgg136
  z131 := Tryz.sizeOf136
  v131 := Tryz.zeroValue136
  t182 := Tryz.underlying163
  a182 := Tryz.isAgg163
  z182 := Tryz.sizeOf163
  v182 := Tryz.zeroValue163
  t183 := Tryz.underlying164
  a183 := Tryz.isAgg164
  z183 := Tryz.sizeOf164
  v183 := Tryz.zeroValue164
  t218 := Tryz.underlying181
  a218 := Tryz.isAgg181
  z218 := Tryz.sizeOf181
  v218 := Tryz.zeroValue181
  t222 := Tryz.underlying185
  a222 := Tryz.isAgg185
  z222 := Tryz.sizeOf185
  v222 := Tryz.zeroValue185
  t228 := Tryz.underlying191
  a228 := Tryz.isAgg191
  z228 := Tryz.sizeOf191
  v228 := Tryz.zeroValue191
  t229 := Tryz.underlying192
  a229 := Tryz.isAgg192
  z229 := Tryz.sizeOf192
  v229 := Tryz.zeroValue192 }
open Go.Sort Go.RowKit in
theorem Tryz.sort_Strings (blk off cap : Nat) (ss : List (List UInt8)) (w : World) (hH : Holds encStr w blk off ss.toArray) (hblk : blk < w.heap.size) (hsz : ss.length < 4611686018427387904) :
    Calls Tryz.prog 143 #[.slice (some ⟨blk, off, none⟩) ss.length cap] w fun e w' =>
      e = .returned (.tuple #[]) ∧ ∃ n os, w' = grow (putRow encStr (Sort.ahead w n) blk off (ss.mergeSort fun x y => decide (x ≤ y)).toArray) os := Any.sort_Strings Tryz.lays192 blk off cap ss w hH hblk hsz
end Go.Proofs

/- The map from texts to trees that 'bag' makes, and the sorting of its keys: laws at the operations. -/
namespace Go.Proofs.YtfeidjjabjejiaaGreatDoor
set_option linter.unusedSimpArgs false
set_option linter.unusedVariables false
set_option maxRecDepth 100000
open Go.RowKit Go.Maps Go.WideMaps Go.ChangeMaps

abbrev TMap : Nat := 123
/-- an element of the map is held as it is -/
def rdV (v : Value) : Option (DataW Value × List MemPlace) := some (.held v, [])
def kval (p : Rex × KInfo) : Value := .agg #[.int .i64 p.1.kind, p.2.v1, p.2.v2]
def dRev : List (Rex × KInfo) → DataW Value
  | [] => .map []
  | p :: ps => (dRev ps).put (.string (rexTxt p.1)) (.held (kval p))
def dOf (ps : List (Rex × KInfo)) : DataW Value := dRev ps.reverse
theorem dOf_nil : dOf [] = .map [] := rfl
theorem dOf_snoc (ps : List (Rex × KInfo)) (p : Rex × KInfo) : dOf (ps ++ [p]) = (dOf ps).put (.string (rexTxt p.1)) (.held (kval p)) := by
  unfold dOf
  rw [List.reverse_append]
  rfl
theorem dRev_map : ∀ ps : List (Rex × KInfo), IsMap (dRev ps)
  | [] => isMap_empty
  | p :: ps => (dRev_map ps).put _ _
theorem has_dRev (s : List UInt8) : ∀ ps : List (Rex × KInfo), Maps.has (dRev ps) (.string s) = decide (s ∈ ps.map fun p => rexTxt p.1)
  | [] => by simp [dRev, Maps.has]
  | p :: ps => by
    rw [dRev]
    by_cases e : s = rexTxt p.1
    · subst e
      rw [has_put_same (dRev_map ps) (by simp [WideAt.IsKeyLit])]
      simp
    · rw [has_put_other (fun h => e (by injection h)), has_dRev s ps]
      simp [e]
theorem has_dOf (ps : List (Rex × KInfo)) (s : List UInt8) : Maps.has (dOf ps) (.string s) = decide (s ∈ ps.map fun p => rexTxt p.1) := by
  unfold dOf
  rw [has_dRev]
  simp
theorem at_dRev (s : List UInt8) (z : DataW Value) : ∀ ps : List (Rex × KInfo), s ∈ ps.map (fun p => rexTxt p.1) → ∃ p, p ∈ ps ∧ rexTxt p.1 = s ∧ (dRev ps).atKey (.string s) z = .held (kval p)
  | [], h => by simp at h
  | p :: ps, h => by
    rw [dRev]
    by_cases e : s = rexTxt p.1
    · subst e
      exact ⟨p, by simp, rfl, atKey_put_same (dRev_map ps) (by simp [WideAt.IsKeyLit]) _ _⟩
    · rw [List.map_cons, List.mem_cons] at h
      obtain ⟨q, h1, h2, h3⟩ := at_dRev s z ps (h.resolve_left e)
      exact ⟨q, by simp [h1], h2, by rw [atKey_put_other (fun h => e (by injection h))]; exact h3⟩
theorem at_dOf {ps : List (Rex × KInfo)} {s : List UInt8} (z : DataW Value) (h : s ∈ ps.map fun p => rexTxt p.1) : ∃ p, p ∈ ps ∧ rexTxt p.1 = s ∧ (dOf ps).atKey (.string s) z = .held (kval p) := by
  obtain ⟨p, h1, h2, h3⟩ := at_dRev s z ps.reverse (by simpa using h)
  exact ⟨p, by simpa using h1, h2, h3⟩
theorem lawStr : Keyed Tryz.prog TStr := string_keyed Tryz.underlying9
theorem zeroRxM (w : World) : (zeroValue TRx).run Tryz.prog w = .ok (.agg #[.int .i64 0, nilS, nilS]) w := by kernel_rfl
theorem keyStr {s : List UInt8} (h : s.length ≤ maxLen) : keyOf Tryz.prog TStr (.string (str s)) = some (.string s) := by
  rw [keyOf_string_mk Tryz.underlying9 (by rw [str_size]; exact h)]
  simp [str]
section
variable {ops : Array Oper} {rest : List Oper} {o : Oper} {a : Act} {Q : Exit → Act → World → Prop} (w : World)
/-- 'v, ok := m[k]' -/
theorem lookOk (hg : o.guard = none) (m x : Operand) (hop : o.op = Op.lookup TMap m x true) (b n : Nat) (ps : List (Rex × KInfo)) (hm : a.eval m = .map (some b)) (hown : w.ownsMap Tryz.prog TStr rdV b n (dOf ps)) (s : List UInt8) (hs : s.length ≤ maxLen) (hx : a.eval x = .string (str s))
    (c : Bool) (hc : decide (s ∈ ps.map fun p => rexTxt p.1) = c)
    (hsl : ∀ p, p ∈ ps → ∃ A n c K m d, p.2.v1 = .slice A n c ∧ p.2.v2 = .slice K m d)
    (hK : ∀ (κ : Int) (A K : Option Addr) (n1 c1 n2 c2 : Nat), wpList Tryz.prog ops Q rest (a.put o.dst (.tuple #[.agg #[.int .i64 κ, .slice A n1 c1, .slice K n2 c2], .bool c])) w) :
    wpList Tryz.prog ops Q (o :: rest) a w := by
  refine wpList_lookup_own_ok w hg m x TMap hop TStr TRx lawStr Tryz.underlying123 rdV (zeroRxM w) (.held (.agg #[.int .i64 0, nilS, nilS])) [] rfl b n (dOf ps) hm hown _ _ hx (keyStr hs) (fun v ps' hv => ?_)
  have hv' : DataW.held v = (dOf ps).atKey (.string s) (.held (.agg #[.int .i64 0, nilS, nilS])) := by
    have h1 := Option.some.inj hv
    exact congrArg Prod.fst h1
  rw [has_dOf, hc]
  by_cases h : s ∈ ps.map fun p => rexTxt p.1
  · obtain ⟨p, hp, _, e⟩ := at_dOf (.held (.agg #[.int .i64 0, nilS, nilS])) h
    rw [e] at hv'
    injection hv' with hv'
    obtain ⟨A, n, c, K, m, d, e1, e2⟩ := hsl p hp
    rw [hv', kval, e1, e2]
    exact hK _ _ _ _ _ _ _
  · rw [atKey_of_not_has (by rw [has_dOf]; exact decide_eq_false h)] at hv'
    injection hv' with hv'
    rw [hv']
    exact hK _ _ _ _ _ _ _
/-- 'm[k]': a tree that lies there -/
theorem lookAt (hg : o.guard = none) (m x : Operand) (hop : o.op = Op.lookup TMap m x false) (b n : Nat) (ps : List (Rex × KInfo)) (hm : a.eval m = .map (some b)) (hown : w.ownsMap Tryz.prog TStr rdV b n (dOf ps)) (s : List UInt8) (hs : s.length ≤ maxLen) (hx : a.eval x = .string (str s))
    (h : s ∈ ps.map fun p => rexTxt p.1) (W : World) (P : Nat → Prop) (hR : ∀ p, p ∈ ps → RexP W P p.1 (.int .i64 p.1.kind) p.2.v1 p.2.v2)
    (hK : ∀ (r : Rex) (A K : Option Addr) (c ck : Nat), r ∈ ps.map Prod.fst → rexTxt r = s → RexP W P r (.int .i64 r.kind) (.slice A r.set.length c) (.slice K r.kids.length ck) → wpList Tryz.prog ops Q rest (a.put o.dst (.agg #[.int .i64 r.kind, .slice A r.set.length c, .slice K r.kids.length ck])) w) :
    wpList Tryz.prog ops Q (o :: rest) a w := by
  refine wpList_plain hg fun K' hK' => ?_
  obtain ⟨v, ps', hrun, hv⟩ := hown.lookup lawStr Tryz.underlying123 (zeroRxM w) (zd := .held (.agg #[.int .i64 0, nilS, nilS])) (zp := []) rfl (keyStr hs)
  obtain ⟨p, h1, h2, e⟩ := at_dOf (.held (.agg #[.int .i64 0, nilS, nilS])) h
  have hv' : DataW.held v = .held (kval p) := by rw [← e]; exact congrArg Prod.fst (Option.some.inj hv)
  injection hv' with hv'
  subst hv'
  have hr := hR p h1
  obtain ⟨A, c, K, ck, _, e1, e2, _⟩ := hr.parts
  have ek : kval p = .agg #[.int .i64 p.1.kind, .slice A p.1.set.length c, .slice K p.1.kids.length ck] := by unfold kval; rw [e1, e2]
  rw [ek] at hrun
  rw [e1, e2] at hr
  unfold Oper.wp
  simp [execOp, hop, hm, hx, hrun, Result.andThen]
  exact hK' _ _ (hK p.1 A K c ck (List.mem_map.2 ⟨p, h1, rfl⟩) h2 hr)
/-- 'm[k] = v' -/
theorem putAt (hg : o.guard = none) (m x v : Operand) (hop : o.op = Op.mapUpdate TMap m x v) (b n : Nat) (ps : List (Rex × KInfo)) (hm : a.eval m = .map (some b)) (hown : w.ownsMap Tryz.prog TStr rdV b n (dOf ps)) (hn : n < maxLen) (p : Rex × KInfo) (tx : List UInt8) (ht : tx = rexTxt p.1) (hs : tx.length ≤ maxLen)
    (hx : a.eval x = .string (str tx)) (hv : a.eval v = .agg #[.int .i64 p.1.kind, p.2.v1, p.2.v2])
    (hK : ∀ w', w'.ownsMap Tryz.prog TStr rdV b (n + 1) (dOf (ps ++ [p])) → w.grownBy w' (some b) → wpList Tryz.prog ops Q rest (a.put o.dst undef) w') :
    wpList Tryz.prog ops Q (o :: rest) a w := by
  subst ht
  refine wpList_mapUpdate_own w hg m x v TMap hop TStr TRx lawStr Tryz.underlying123 rdV b n (dOf ps) hm hown hn _ _ _ hx hv (keyStr hs) (.held (kval p)) [] rfl (fun w' h1 h2 => hK w' ?_ h2)
  rw [dOf_snoc]
  exact h1
end

/-! ### the keys, sorted -/
theorem iSort_c (g c : Nat) (ws : List (List UInt8)) (w : World) {base : Nat} (h : w.ownsRow base TStr 1 (.slice (some ⟨g, 0, none⟩) ws.length c) ws.length (wcells ws)) (hn : ws.length ≤ 4194304) :
    Calls Tryz.prog 143 #[.slice (some ⟨g, 0, none⟩) ws.length c] w fun e w' => e = .returned (.tuple #[]) ∧ (∀ (j : Nat) (s : List UInt8), (sortK ws)[j]? = some s → w'.cell? ⟨g, j, none⟩ = some (.string (str s))) ∧ w.grownBy w' (some g) := by
  have hlt : g < w.heap.size := (own_vlt h g (by simp [vblk_some])).2
  have hH : Go.Sort.Holds encStr w g 0 ws.toArray := fun j hj => by
    have hj' : j < ws.length := by simpa using hj
    rw [Nat.zero_add]
    refine ⟨?_, h.frozenAt j⟩
    rw [h.cellAt j (by simpa [wcells] using hj')]
    have e : (ws.toArray)[j]! = ws[j] := by rw [getElem!_pos ws.toArray j hj]; simp
    rw [e]
    show (ws.map fun l => Value.string (str l))[j]? = some (.string ⟨ws[j].toArray⟩)
    rw [List.getElem?_map, List.getElem?_eq_getElem hj']
    rfl
  refine (Tryz.sort_Strings g 0 c ws w hH hlt (by omega)).mono ?_
  rintro e w' ⟨rfl, n, os, rfl⟩
  have hz : (Go.Sort.grow (Go.Sort.putRow encStr (Go.Sort.ahead w n) g 0 (ws.mergeSort fun x y => decide (x ≤ y)).toArray) os).heap = (Go.Sort.putRow encStr (Go.Sort.ahead w n) g 0 (ws.mergeSort fun x y => decide (x ≤ y)).toArray).heap ++ os := rfl
  have hs0 : (Go.Sort.putRow encStr (Go.Sort.ahead w n) g 0 (ws.mergeSort fun x y => decide (x ≤ y)).toArray).heap.size = w.heap.size := by simp
  have hold : ∀ k, k < w.heap.size → (Go.Sort.grow (Go.Sort.putRow encStr (Go.Sort.ahead w n) g 0 (ws.mergeSort fun x y => decide (x ≤ y)).toArray) os).heap[k]? = (Go.Sort.putRow encStr (Go.Sort.ahead w n) g 0 (ws.mergeSort fun x y => decide (x ≤ y)).toArray).heap[k]? := fun k hk => by
    rw [hz, Array.getElem?_append_left (by rw [hs0]; exact hk)]
  have hsz : (ws.mergeSort fun x y => decide (x ≤ y)).toArray.size = ws.toArray.size := by simp
  refine ⟨rfl, fun j s hj => ?_, ⟨rfl, rfl, rfl, ?_, fun k hk hne => ?_⟩⟩
  · have hjl := (List.getElem?_eq_some_iff.1 hj).1
    unfold sortK at hj hjl
    have h1 := Go.Sort.cell?_putRow encStr (Go.Sort.ahead w n) g 0 ws.toArray (ws.mergeSort fun x y => decide (x ≤ y)).toArray (Go.Sort.holds_ahead encStr w n g 0 _ hH) hsz j (by simpa using hjl)
    rw [World.cell?_of_block (w := Go.Sort.putRow encStr (Go.Sort.ahead w n) g 0 (ws.mergeSort fun x y => decide (x ≤ y)).toArray) (hold g hlt)]
    rw [Nat.zero_add] at h1
    rw [h1, getElem!_pos _ j (by simpa using hjl)]
    have h2 : (ws.mergeSort fun x y => decide (x ≤ y))[j] = s := (List.getElem?_eq_some_iff.1 hj).2
    simp [h2, str]
  · rw [hz, Array.size_append, hs0]; omega
  · rw [hold k hk]
    show (w.heap.modify g _)[k]? = w.heap[k]?
    rw [Array.getElem?_modify, if_neg (fun e => hne (by rw [e]))]
end Go.Proofs.YtfeidjjabjejiaaGreatDoor
