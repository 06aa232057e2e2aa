/- Texts joined for the claims: Y6 Shelf4 Tz Tw Tu. -/
import Derived.Test.YtfeidjjabjejiaaGreatDoorG9
import Derived.Shelf.Strings.OnBuilder
import Derived.Shelf.LaysM
import Derived.Shelf.Strconv.Itoa3
import Derived.Test.YtfeidjjabjejiaaGreatDoorProg
import Derived.Test.YtfeidjjabjejiaaGreatDoorG6
import Derived.Test.YtfeidjjabjejiaaGreatDoorG8
import Derived.Test.YtfeidjjabjejiaaGreatDoorG3
/- A chain of a kind, by the program and by the reference. -/
namespace Go.Proofs.YtfeidjjabjejiaaGreatDoor
set_option linter.unusedSimpArgs false
set_option linter.unusedVariables false
set_option maxRecDepth 100000
open Go.RowKit

theorem grown_thn {w w1 w2 : World} {row : Option Nat} (h : w.grownBy w1 row) (k : w1.grownBy w2 row) : w.grownBy w2 row :=
  ⟨k.os.trans h.os, k.tape.trans h.tape, k.output.trans h.output, Nat.le_trans h.size k.size, fun i hi hne => (k.block i (Nat.lt_of_lt_of_le hi h.size) hne).trans (h.block i hi hne)⟩
theorem grown_blw {w w1 : World} {row : Option Nat} (h : Below w.heap.size w w1) : w.grownBy w1 row :=
  ⟨h.os, h.tape, h.output, h.size, fun i hi _ => h.block i hi⟩
theorem chain_cons (k : Int) (x : Rex) {l : List Rex} (h : l ≠ []) : chain k (x :: l) = two k x (chain k l) := by
  cases l with
  | nil => exact absurd rfl h
  | cons y l => rfl
set_option maxHeartbeats 4000000 in
theorem iChain_c (k : Int) (rs : List Rex) (A : Option Addr) (n c : Nat) (L : List KInfo) (w : World) (base : Nat) (p : Nat → Prop) (hO : OwnR w base p (.slice A n c) rs L) (hn : n = rs.length) (hne : rs ≠ []) (hp : ∀ b, p b → b < w.heap.size) :
    Calls Tryz.prog 119 #[.int .i64 k, .slice A n c] w (RexPost p (chain k rs) w) := by
  have hl : 0 < rs.length := List.length_pos_iff.2 hne
  have hn1 : 0 < n := by omega
  have hnm : n ≤ maxN := by rw [hn]; exact hO.le
  unfold maxN at hnm
  obtain ⟨wa, hwa⟩ : ∃ z : World, z = w.alloc (.cells #[.int .i64 0, nilS, nilS] TRx) := ⟨_, rfl⟩
  have hb : Below w.heap.size w wa := by rw [hwa]; exact below_alloc (Below.refl _ _) _
  have MR : Hid (Blk wa w.heap.size #[.int .i64 0, nilS, nilS] TRx) := by rw [hwa]; exact blk_new w _ _
  have hz : wa.heap.size = w.heap.size + 1 := by rw [hwa]; simp
  replace hwa := hwa.symm
  have HO := Lib.hid (hO.under hb)
  have HZ := Lib.hid hz
  have HN := Lib.hid hn
  have HP := Lib.hid hp
  obtain ⟨g, cap, r, B, d, K, dk, ev, er, eL, hv, c0, c1, c2⟩ := HO.out.at_ (n - 1) (by omega)
  injection ev with ev1 ev2 ev3
  subst ev1
  have HGL : Hid (g < w.heap.size) := (own_vlt hO.own g (by simp [vblk_some])).2
  have HV := Lib.hid hv
  have HR : Hid (rs[n - 1]? = some r) := er
  have e0 : (((n - 1 : Nat)) : Int) = (n : Int) - 1 := by omega
  have i0 : (0 : Int) ≤ (n : Int) - 1 := by omega
  have i1 : (n : Int) - 1 < (n : Int) := by omega
  have i2 : ((n : Int) - 1).toNat = n - 1 := by omega
  obtain ⟨wb, hwb⟩ : ∃ z : World, z = wa.alloc (.cells #[.int .i64 r.kind, .slice B r.set.length d, .slice K r.kids.length dk] TRx) := ⟨_, rfl⟩
  have hbb : Below wa.heap.size wa wb := by rw [hwb]; exact below_alloc (Below.refl _ _) _
  obtain ⟨G, hG⟩ : ∃ G, G = wa.heap.size := ⟨_, rfl⟩
  have MG : Hid (Blk wb G #[.int .i64 r.kind, .slice B r.set.length d, .slice K r.kids.length dk] TRx) := by rw [hwb, hG]; exact blk_new wa #[.int .i64 r.kind, .slice B r.set.length d, .slice K r.kids.length dk] TRx
  have HGZ : Hid (G = w.heap.size + 1) := hG.trans hz
  have hzb : wb.heap.size = w.heap.size + 2 := by rw [hwb]; simp; exact hz
  replace hwb := hwb.symm
  replace MR := Lib.hid (MR.out.below hbb)
  have HB := Lib.hid (below_then hb hbb)
  have HOb := Lib.hid (HO.out.under hbb)
  have HZB : Hid (w.heap.size + 2 ≤ wb.heap.size) := Nat.le_of_eq hzb.symm
  have HT : Hid (RexP wb (fun b => b ≠ w.heap.size ∧ b ≠ G ∧ (p b ∨ w.heap.size ≤ b)) r (.int .i64 r.kind) (.slice B r.set.length d) (.slice K r.kids.length dk)) := (HV.out.under hbb).mono fun b hb => ⟨fun e => by have := HP.out b hb.1; omega, fun e => by have := HP.out b hb.1; have := HGZ.out; omega, .inl hb.1⟩
  have HE : Hid (r = chain k (rs.drop (n - 1))) := by
    show _ = _
    have h1 : rs.drop (n - 1) = [r] := by
      have h2 := (List.getElem?_eq_some_iff.1 er)
      obtain ⟨h2, h3⟩ := h2
      rw [List.drop_eq_getElem_cons h2, h3, List.drop_eq_nil_of_le (by omega)]
    rw [h1]
    rfl
  replace hG := hG.symm
  clear hb hz hO hn hp hv er eL ev2 ev3 hbb hzb
  go_enter Tryz.func119, Tryz.ntmps119
  go_wp2_with fail
  clear hwa hwb hG c0 c1 c2
  go_loopg [6] (n - 1) (fun q v wr => ∃ (T : Rex) (A1 : Option Addr) (c1 : Nat) (K1 : Option Addr) (k1 : Nat), v = .int .i64 ((q : Int) - 1) ∧ q < n ∧ Hid (T = chain k (rs.drop q)) ∧ Hid (RexP wr (fun b => b ≠ w.heap.size ∧ b ≠ G ∧ (p b ∨ w.heap.size ≤ b)) T (.int .i64 T.kind) (.slice A1 T.set.length c1) (.slice K1 T.kids.length k1)) ∧
    Hid (Blk wr G #[.int .i64 T.kind, .slice A1 T.set.length c1, .slice K1 T.kids.length k1] TRx) ∧ Hid (Blk wr w.heap.size #[.int .i64 0, nilS, nilS] TRx) ∧ Hid (OwnR wr base p (.slice (some ⟨g, 0, none⟩) n c) rs L) ∧ Hid (Below w.heap.size w wr) ∧ Hid (w.heap.size + 2 ≤ wr.heap.size))
  case atStart => exact ⟨r, B, d, K, dk, by rw [show (n : Int) - 2 = (((n - 1 : Nat) : Int)) - 1 by omega], by omega, HE, HT, MG, MR, HOb, HB, HZB⟩
  case round =>
    clear HE HT MG MR HOb HB HZB HV HO
    obtain ⟨T, A1, c1, K1, k1, rfl, hqn, HE, HT, MG, MR, HO, HB, HZB⟩ := hrel
    have g0 : wr.cell? ⟨G, 0, none⟩ = some (.int .i64 T.kind) := by rw [MG.out.cell]; rfl
    have g1 : wr.cell? ⟨G, 1, none⟩ = some (.slice A1 T.set.length c1) := by rw [MG.out.cell]; rfl
    have g2 : wr.cell? ⟨G, 2, none⟩ = some (.slice K1 T.kids.length k1) := by rw [MG.out.cell]; rfl
    have f0 : wr.frozen? ⟨G, 0, none⟩ = false := MG.out.free 0
    have f1 : wr.frozen? ⟨G, 1, none⟩ = false := MG.out.free 1
    have f2 : wr.frozen? ⟨G, 2, none⟩ = false := MG.out.free 2
    by_cases hpos : 0 < gk
    · obtain ⟨m, rfl⟩ : ∃ m, gk = m + 1 := ⟨gk - 1, by omega⟩
      rw [show (((m + 1 : Nat)) : Int) - 1 = (m : Int) by omega]
      obtain ⟨g', cap', x, A2, c2, K2, k2, ev, ex, eL, hx, x0, x1, x2⟩ := HO.out.at_ m (by have := HN.out; omega)
      injection ev with ev1 ev2 ev3
      injection ev1 with ev1
      injection ev1 with ev1
      subst ev1
      have HX := Lib.hid hx
      have HE2 : Hid (two k x T = chain k (rs.drop m)) := by
        show _ = _
        obtain ⟨h2, h3⟩ := List.getElem?_eq_some_iff.1 ex
        rw [List.drop_eq_getElem_cons h2, h3, chain_cons k x (by intro e; have := congrArg List.length e; rw [List.length_drop, List.length_nil] at this; have := HN.out; omega), HE.out]
      have j0 : (0 : Int) ≤ (m : Int) := by omega
      have j1 : (m : Int) < (n : Int) := by omega
      clear ev2 ev3 ex eL hx HE
      have HC : Hid (∀ w' : World, (∀ q, q < wr.heap.size → q ≠ G → w'.heap[q]? = wr.heap[q]?) → w'.cell? ⟨g, m * 3, none⟩ = some (.int .i64 x.kind) ∧ w'.cell? ⟨g, m * 3 + 1, none⟩ = some (.slice A2 x.set.length c2) ∧ w'.cell? ⟨g, m * 3 + 2, none⟩ = some (.slice K2 x.kids.length k2)) := fun w' hk => by
        have up : ∀ {o : Nat} {u : Value}, wr.cell? ⟨g, o, none⟩ = some u → w'.cell? ⟨g, o, none⟩ = some u := fun {o u} h => (World.cell?_of_block (w := wr) (hk g (World.block_lt_of_cell? wr _ h) (by have := HGL.out; have := HGZ.out; omega))).trans h
        exact ⟨up x0, up x1, up x2⟩
      go_wp2_with fail
      clear x0 x1 x2
      refine wp_region_held_drew (S := fun w' => w'.cell? ⟨g, m * 3, none⟩ = some (.int .i64 x.kind) ∧ w'.cell? ⟨g, m * 3 + 1, none⟩ = some (.slice A2 x.set.length c2) ∧ w'.cell? ⟨g, m * 3 + 2, none⟩ = some (.slice K2 x.kids.length k2)) (by kernel_rfl) (HC.out _ fun q hq _ => (below_drew (Below.refl wr.heap.size wr)).block q hq) (fun hHeld0 => ?_)
      refine wpAnyH_take (i := 0) (v := ?_) rfl (by kernel_rfl) (by kernel_rfl) (by kernel_rfl) (fun _ _ _ h => h) (Or.inl ⟨by rfl, ?_⟩) (by assumption) ?_
      rotate_left
      · (intro w hSw; (try dsimp only at hSw); go_simp; try with_reducible rfl)
      try simp only [Act.put, List.getElem_toArray, List.getElem_cons_zero, List.getElem_cons_succ, List.setIfInBounds_toArray, List.set_cons_zero, List.set_cons_succ]
      refine wpAnyH_take (i := 1) (v := ?_) rfl (by kernel_rfl) (by kernel_rfl) (by kernel_rfl) (fun _ _ _ h => h) (Or.inl ⟨by rfl, ?_⟩) (by assumption) ?_
      rotate_left
      · (intro w hSw; (try dsimp only at hSw); go_simp; try with_reducible rfl)
      try simp only [Act.put, List.getElem_toArray, List.getElem_cons_zero, List.getElem_cons_succ, List.setIfInBounds_toArray, List.set_cons_zero, List.set_cons_succ]
      refine wpAnyH_take (i := 2) (v := ?_) rfl (by kernel_rfl) (by kernel_rfl) (by kernel_rfl) (fun _ _ _ h => h) (Or.inl ⟨by rfl, ?_⟩) (by assumption) ?_
      rotate_left
      · (intro w hSw; (try dsimp only at hSw); go_simp; try with_reducible rfl)
      try simp only [Act.put, List.getElem_toArray, List.getElem_cons_zero, List.getElem_cons_succ, List.setIfInBounds_toArray, List.set_cons_zero, List.set_cons_succ]
      refine wpAnyH_take (i := 3) (v := ?_) rfl (by kernel_rfl) (by kernel_rfl) (by kernel_rfl) (fun _ _ _ h => h) (Or.inl ⟨by rfl, ?_⟩) (by assumption) ?_
      rotate_left
      · (intro w hSw; (try dsimp only at hSw); go_simp; try with_reducible rfl)
      try simp only [Act.put, List.getElem_toArray, List.getElem_cons_zero, List.getElem_cons_succ, List.setIfInBounds_toArray, List.set_cons_zero, List.set_cons_succ]
      refine wpAnyH_take (i := 4) (v := ?_) rfl (by kernel_rfl) (by kernel_rfl) (by kernel_rfl) (fun _ _ _ h => h) (Or.inl ⟨by rfl, ?_⟩) (by assumption) ?_
      rotate_left
      · (intro w hSw; (try dsimp only at hSw); go_simp; try with_reducible rfl)
      try simp only [Act.put, List.getElem_toArray, List.getElem_cons_zero, List.getElem_cons_succ, List.setIfInBounds_toArray, List.set_cons_zero, List.set_cons_succ]
      refine wpAnyH_ready (rs := [5]) (by kernel_rfl) (by simp) ?_
      refine AllReadyH.cons (o := ⟨some 25, _, _, _, _, _⟩) rfl (fun K hK => ?_) AllReadyH.nil
      go_simp
      refine hK.out _ _ (HC.out wr.drew (fun q hq _ => (below_drew (Below.refl wr.heap.size wr)).block q hq)) (fun hHeld1 => ?_)
      clear hK K hHeld0
      try simp only [Act.put, List.getElem_toArray, List.getElem_cons_zero, List.getElem_cons_succ, List.setIfInBounds_toArray, List.set_cons_zero, List.set_cons_succ]
      refine wpAnyH_ready (rs := [6]) (by kernel_rfl) (by simp) ?_
      refine AllReadyH.cons (o := ⟨some 26, _, _, _, _, _⟩) rfl (fun K hK => ?_) AllReadyH.nil
      go_simp
      have hdz := (below_drew (Below.refl wr.heap.size wr)).size
      have hGz := MG.out.lt
      have hgz1 : w.heap.size < G := by have := HGZ.out; omega
      have hgz2 : G < w.heap.size + 2 := by have := HGZ.out; omega
      refine (iTwo_c k x T _ _ _ _ wr.drew (fun b => (b ≠ w.heap.size ∧ b ≠ G ∧ (p b ∨ w.heap.size ≤ b)) ∧ b < wr.heap.size) ((HX.out.lt.mono fun b hb => ⟨⟨fun e => by have := HP.out b hb.1.1; omega, fun e => by have := HP.out b hb.1.1; omega, .inl hb.1.1⟩, hb.2⟩).under (below_drew (Below.refl _ _))) ((HT.out.lt.mono fun b hb => hb).under (below_drew (Below.refl _ _))) (fun z hz => by have := hz.2; omega)).mono ?_
      rintro e w3 ⟨A3, c3, K3, ck3, rfl, hv3, b3⟩
      have B3 := Lib.hid (below_then (below_drew (Below.refl wr.heap.size wr)) b3)
      have HV3 : Hid (RexP w3 (fun b => b ≠ w.heap.size ∧ b ≠ G ∧ (p b ∨ w.heap.size ≤ b)) (two k x T) (.int .i64 (two k x T).kind) (.slice A3 (two k x T).set.length c3) (.slice K3 (two k x T).kids.length ck3)) := hv3.mono fun z hz => by
        rcases hz with h | h
        · exact h.1
        · exact ⟨by omega, by omega, .inr (by omega)⟩
      have MG3 := Lib.hid (MG.out.below B3.out)
      clear hv3 b3 g0 g1 g2 f0 f1 f2
      (try go_wp2_with fail)
      refine hK.out _ _ (HC.out w3 (fun q hq _ => B3.out.block q hq)) (fun hHeld2 => ?_)
      clear hK K hHeld1
      try simp only [Act.put, List.getElem_toArray, List.getElem_cons_zero, List.getElem_cons_succ, List.setIfInBounds_toArray, List.set_cons_zero, List.set_cons_succ]
      have g0 : w3.cell? ⟨G, 0, none⟩ = some (.int .i64 T.kind) := by rw [MG3.out.cell]; rfl
      have g1 : w3.cell? ⟨G, 1, none⟩ = some (.slice A1 T.set.length c1) := by rw [MG3.out.cell]; rfl
      have g2 : w3.cell? ⟨G, 2, none⟩ = some (.slice K1 T.kids.length k1) := by rw [MG3.out.cell]; rfl
      have f0 : w3.frozen? ⟨G, 0, none⟩ = false := MG3.out.free 0
      have f1 : w3.frozen? ⟨G, 1, none⟩ = false := MG3.out.free 1
      have f2 : w3.frozen? ⟨G, 2, none⟩ = false := MG3.out.free 2
      refine wpAnyH_ready (rs := [7]) (by kernel_rfl) (by simp) ?_
      refine AllReadyH.cons (o := ⟨none, _, _, _, _, _⟩) rfl (fun K hK => ?_) AllReadyH.nil
      go_simp
      obtain ⟨w5, hw5⟩ : ∃ z : World, z = ((w3.setCell ⟨G, 0, none⟩ (.int .i64 (two k x T).kind)).setCell ⟨G, 1, none⟩ (.slice A3 (two k x T).set.length c3)).setCell ⟨G, 2, none⟩ (.slice K3 (two k x T).kids.length ck3) := ⟨_, rfl⟩
      have MG5 : Hid (Blk w5 G #[.int .i64 (two k x T).kind, .slice A3 (two k x T).set.length c3, .slice K3 (two k x T).kids.length ck3] TRx) := by rw [hw5]; exact Lib.hid (by simpa using ((MG3.out.set 0 (.int .i64 (two k x T).kind)).set 1 (.slice A3 (two k x T).set.length c3)).set 2 (.slice K3 (two k x T).kids.length ck3))
      have HG5 : Hid (w3.grownBy w5 (some G)) := by rw [hw5]; exact grown_set (grown_set (grown_set (grown_refl _ _) _ _) _ _) _ _
      rw [← hw5]
      clear g0 g1 g2 f0 f1 f2 hw5
      have FAR : Hid (∀ q, q < wr.heap.size → q ≠ G → w5.heap[q]? = wr.heap[q]?) := fun q hq hne => (HG5.out.block q (Nat.lt_of_lt_of_le hq B3.out.size) (fun e => hne (Option.some.inj e))).trans (B3.out.block q hq)
      refine hK.out _ _ (HC.out w5 FAR.out) (fun hHeld3 => ?_)
      clear hK K hHeld2
      try simp only [Act.put, List.getElem_toArray, List.getElem_cons_zero, List.getElem_cons_succ, List.setIfInBounds_toArray, List.set_cons_zero, List.set_cons_succ]
      refine wpAnyH_done (by kernel_rfl) ?_ _
      clear hHeld3 HC
      go_wp2_with fail
      go_roundg m
      case measure => omega
      case rel =>
        have hh := HZB.out
        refine ⟨two k x T, A3, c3, K3, ck3, by go_num, by omega, HE2, ?_, MG5, ?_, ?_, ?_, ?_⟩
        · exact HV3.out.keep fun b hb hl => HG5.out.block b hl (fun e => hb.2.1 (Option.some.inj e))
        · exact ⟨(FAR.out _ (by omega) (by omega)).trans MR.out.eq⟩
        · exact HO.out.keep (fun b hb => FAR.out b (own_vlt HO.out.own b hb).2 (by rw [vblk_some] at hb; have h1 := List.mem_singleton.1 hb; have := HGL.out; omega)) (fun b hb hl => FAR.out b hl (by have := HP.out b hb; omega))
        · exact (below_then HB.out B3.out).grown HG5.out (below_then HB.out B3.out).size (fun q hq => by injection hq with hq; omega)
        · show _ ≤ _; exact Nat.le_trans hh (Nat.le_trans B3.out.size HG5.out.size)
    · obtain rfl : gk = 0 := by omega
      have E : Hid (T = chain k rs) := HE.out
      have j0 : ¬ (0 : Int) ≤ ((0 : Nat) : Int) - 1 := by omega
      clear HE
      go_wp2_with ((with_reducible refine at_st 4 27 ?_); refine ev_store (o := ⟨none, .store _ (.tmp 4) _, _, _, _, _⟩) rfl rfl TRx (.tmp 4) (.tmp 27) rfl (w.heap.size) 0 rfl [.int .i64 T.kind, .slice A1 T.set.length c1, .slice K1 T.kids.length k1] rfl _ TRx MR.out (sizeRx' _ _ _) (by show 0 + 3 ≤ 3; omega) (three_one _ _ _ _ _ _ _) ?_; intro w5 hX5 hg5; have HX5 : Hid (Blk w5 (w.heap.size) ([.int .i64 T.kind, .slice A1 T.set.length c1, .slice K1 T.kids.length k1]).toArray TRx) := hX5; have HG5 := Lib.hid hg5; clear hX5 hg5)
      refine bodyPost_ret (results_cell_row rfl _ _ (w.heap.size) TRx _ (0, 0) _ rfl HX5.out.eq Tryz.underlying26 rfl (by rw [sizeRx]; rfl)) rfl ?_
      have hT := HT.out
      rw [← E.out]
      exact rex_fin rfl rfl HP.out (hT.mono fun b hb => ⟨hb.1, hb.2.2⟩) HB.out HG5.out (Nat.le_refl _)
set_option maxHeartbeats 4000000 in
theorem sChain_c (k : Int) (rs : List Rex) (A : Option Addr) (n c : Nat) (L : List KInfo) (w : World) (base : Nat) (p : Nat → Prop) (hO : OwnR w base p (.slice A n c) rs L) (hn : n = rs.length) (hne : rs ≠ []) (hp : ∀ b, p b → b < w.heap.size) :
    Calls Tryz.prog 136 #[.slice A n c, .int .i64 k] w (RexPost p (chain k rs) w) := by
  have hl : 0 < rs.length := List.length_pos_iff.2 hne
  have hn1 : 0 < n := by omega
  have hnm : n ≤ maxN := by rw [hn]; exact hO.le
  unfold maxN at hnm
  obtain ⟨wa, hwa⟩ : ∃ z : World, z = w.alloc (.cells #[.int .i64 0, nilS, nilS] TRx) := ⟨_, rfl⟩
  have hb : Below w.heap.size w wa := by rw [hwa]; exact below_alloc (Below.refl _ _) _
  have MR : Hid (Blk wa w.heap.size #[.int .i64 0, nilS, nilS] TRx) := by rw [hwa]; exact blk_new w _ _
  have hz : wa.heap.size = w.heap.size + 1 := by rw [hwa]; simp
  replace hwa := hwa.symm
  have HO := Lib.hid (hO.under hb)
  have HZ := Lib.hid hz
  have HN := Lib.hid hn
  have HP := Lib.hid hp
  obtain ⟨g, cap, r, B, d, K, dk, ev, er, eL, hv, c0, c1, c2⟩ := HO.out.at_ (n - 1) (by omega)
  injection ev with ev1 ev2 ev3
  subst ev1
  have HGL : Hid (g < w.heap.size) := (own_vlt hO.own g (by simp [vblk_some])).2
  have HV := Lib.hid hv
  have HR : Hid (rs[n - 1]? = some r) := er
  have e0 : (((n - 1 : Nat)) : Int) = (n : Int) - 1 := by omega
  have i0 : (0 : Int) ≤ (n : Int) - 1 := by omega
  have i1 : (n : Int) - 1 < (n : Int) := by omega
  have i2 : ((n : Int) - 1).toNat = n - 1 := by omega
  obtain ⟨wb, hwb⟩ : ∃ z : World, z = wa.alloc (.cells #[.int .i64 r.kind, .slice B r.set.length d, .slice K r.kids.length dk] TRx) := ⟨_, rfl⟩
  have hbb : Below wa.heap.size wa wb := by rw [hwb]; exact below_alloc (Below.refl _ _) _
  obtain ⟨G, hG⟩ : ∃ G, G = wa.heap.size := ⟨_, rfl⟩
  have MG : Hid (Blk wb G #[.int .i64 r.kind, .slice B r.set.length d, .slice K r.kids.length dk] TRx) := by rw [hwb, hG]; exact blk_new wa #[.int .i64 r.kind, .slice B r.set.length d, .slice K r.kids.length dk] TRx
  have HGZ : Hid (G = w.heap.size + 1) := hG.trans hz
  have hzb : wb.heap.size = w.heap.size + 2 := by rw [hwb]; simp; exact hz
  replace hwb := hwb.symm
  replace MR := Lib.hid (MR.out.below hbb)
  have HB := Lib.hid (below_then hb hbb)
  have HOb := Lib.hid (HO.out.under hbb)
  have HZB : Hid (w.heap.size + 2 ≤ wb.heap.size) := Nat.le_of_eq hzb.symm
  have HT : Hid (RexP wb (fun b => b ≠ w.heap.size ∧ b ≠ G ∧ (p b ∨ w.heap.size ≤ b)) r (.int .i64 r.kind) (.slice B r.set.length d) (.slice K r.kids.length dk)) := (HV.out.under hbb).mono fun b hb => ⟨fun e => by have := HP.out b hb.1; omega, fun e => by have := HP.out b hb.1; have := HGZ.out; omega, .inl hb.1⟩
  have HE : Hid (r = chain k (rs.drop (n - 1))) := by
    show _ = _
    have h1 : rs.drop (n - 1) = [r] := by
      have h2 := (List.getElem?_eq_some_iff.1 er)
      obtain ⟨h2, h3⟩ := h2
      rw [List.drop_eq_getElem_cons h2, h3, List.drop_eq_nil_of_le (by omega)]
    rw [h1]
    rfl
  replace hG := hG.symm
  clear hb hz hO hn hp hv er eL ev2 ev3 hbb hzb
  go_enter Tryz.func136, Tryz.ntmps136
  go_wp2_with fail
  clear hwa hwb hG c0 c1 c2
  go_loopg [6] (n - 1) (fun q v wr => ∃ (T : Rex) (A1 : Option Addr) (c1 : Nat) (K1 : Option Addr) (k1 : Nat), v = .int .i64 ((q : Int) - 1) ∧ q < n ∧ Hid (T = chain k (rs.drop q)) ∧ Hid (RexP wr (fun b => b ≠ w.heap.size ∧ b ≠ G ∧ (p b ∨ w.heap.size ≤ b)) T (.int .i64 T.kind) (.slice A1 T.set.length c1) (.slice K1 T.kids.length k1)) ∧
    Hid (Blk wr G #[.int .i64 T.kind, .slice A1 T.set.length c1, .slice K1 T.kids.length k1] TRx) ∧ Hid (Blk wr w.heap.size #[.int .i64 0, nilS, nilS] TRx) ∧ Hid (OwnR wr base p (.slice (some ⟨g, 0, none⟩) n c) rs L) ∧ Hid (Below w.heap.size w wr) ∧ Hid (w.heap.size + 2 ≤ wr.heap.size))
  case atStart => exact ⟨r, B, d, K, dk, by rw [show (n : Int) - 2 = (((n - 1 : Nat) : Int)) - 1 by omega], by omega, HE, HT, MG, MR, HOb, HB, HZB⟩
  case round =>
    clear HE HT MG MR HOb HB HZB HV HO
    obtain ⟨T, A1, c1, K1, k1, rfl, hqn, HE, HT, MG, MR, HO, HB, HZB⟩ := hrel
    have g0 : wr.cell? ⟨G, 0, none⟩ = some (.int .i64 T.kind) := by rw [MG.out.cell]; rfl
    have g1 : wr.cell? ⟨G, 1, none⟩ = some (.slice A1 T.set.length c1) := by rw [MG.out.cell]; rfl
    have g2 : wr.cell? ⟨G, 2, none⟩ = some (.slice K1 T.kids.length k1) := by rw [MG.out.cell]; rfl
    have f0 : wr.frozen? ⟨G, 0, none⟩ = false := MG.out.free 0
    have f1 : wr.frozen? ⟨G, 1, none⟩ = false := MG.out.free 1
    have f2 : wr.frozen? ⟨G, 2, none⟩ = false := MG.out.free 2
    by_cases hpos : 0 < gk
    · obtain ⟨m, rfl⟩ : ∃ m, gk = m + 1 := ⟨gk - 1, by omega⟩
      rw [show (((m + 1 : Nat)) : Int) - 1 = (m : Int) by omega]
      obtain ⟨g', cap', x, A2, c2, K2, k2, ev, ex, eL, hx, x0, x1, x2⟩ := HO.out.at_ m (by have := HN.out; omega)
      injection ev with ev1 ev2 ev3
      injection ev1 with ev1
      injection ev1 with ev1
      subst ev1
      have HX := Lib.hid hx
      have HE2 : Hid (two k x T = chain k (rs.drop m)) := by
        show _ = _
        obtain ⟨h2, h3⟩ := List.getElem?_eq_some_iff.1 ex
        rw [List.drop_eq_getElem_cons h2, h3, chain_cons k x (by intro e; have := congrArg List.length e; rw [List.length_drop, List.length_nil] at this; have := HN.out; omega), HE.out]
      have j0 : (0 : Int) ≤ (m : Int) := by omega
      have j1 : (m : Int) < (n : Int) := by omega
      clear ev2 ev3 ex eL hx HE
      obtain ⟨wB, hwB⟩ : ∃ z : World, z = wr.alloc (.cells #[.int .i64 x.kind, .slice A2 x.set.length c2, .slice K2 x.kids.length k2, .int .i64 T.kind, .slice A1 T.set.length c1, .slice K1 T.kids.length k1] TRx) := ⟨_, rfl⟩
      have bB : Below wr.heap.size wr wB := by rw [hwB]; exact below_alloc (Below.refl _ _) _
      have MX : Hid (Blk wB wr.heap.size #[.int .i64 x.kind, .slice A2 x.set.length c2, .slice K2 x.kids.length k2, .int .i64 T.kind, .slice A1 T.set.length c1, .slice K1 T.kids.length k1] TRx) := by rw [hwB]; exact blk_new _ _ _
      have MG3 := Lib.hid (MG.out.below bB)
      have B3 := Lib.hid bB
      have b0 : wB.cell? ⟨G, 0, none⟩ = some (.int .i64 T.kind) := by rw [MG3.out.cell]; rfl
      have b1 : wB.cell? ⟨G, 1, none⟩ = some (.slice A1 T.set.length c1) := by rw [MG3.out.cell]; rfl
      have b2 : wB.cell? ⟨G, 2, none⟩ = some (.slice K1 T.kids.length k1) := by rw [MG3.out.cell]; rfl
      have q0 : wB.frozen? ⟨G, 0, none⟩ = false := MG3.out.free 0
      have q1 : wB.frozen? ⟨G, 1, none⟩ = false := MG3.out.free 1
      have q2 : wB.frozen? ⟨G, 2, none⟩ = false := MG3.out.free 2
      obtain ⟨gB, hgB⟩ : ∃ z : Nat, z = wr.heap.size := ⟨_, rfl⟩
      have HGB := Lib.hid hgB
      rw [← hgB] at MX
      replace hwB := hwB.symm
      replace hgB := hgB.symm
      clear bB
      go_wp2_with fail
      go_region
      clear g0 g1 g2 f0 f1 f2 b0 b1 b2 q0 q1 q2 x0 x1 x2 hwB hgB
      obtain ⟨w5, hw5⟩ : ∃ z : World, z = (((wB.setCell ⟨G, 0, none⟩ (.int .i64 k)).setCell ⟨G, 1, none⟩ nilS).setCell ⟨G, 2, none⟩ (.slice (some ⟨gB, 0, none⟩) 2 2)).drew := ⟨_, rfl⟩
      have MG5 : Hid (Blk w5 G #[.int .i64 (two k x T).kind, .slice none (two k x T).set.length 0, .slice (some ⟨gB, 0, none⟩) (two k x T).kids.length 2] TRx) := by rw [hw5]; exact Lib.hid (by have := (((MG3.out.set 0 (.int .i64 k)).set 1 nilS).set 2 (.slice (some ⟨gB, 0, none⟩) 2 2)).below (below_drew (Below.refl _ _)); show Blk _ G #[.int .i64 k, .slice none 0 0, .slice (some ⟨gB, 0, none⟩) 2 2] TRx; simpa using this)
      have HG5 : Hid (wB.grownBy w5 (some G)) := by rw [hw5]; exact grown_thn (grown_set (grown_set (grown_set (grown_refl _ _) _ _) _ _) _ _) (grown_blw (below_drew (Below.refl _ _)))
      rw [← hw5]
      clear hw5
      have FAR : Hid (∀ q, q < wr.heap.size → q ≠ G → w5.heap[q]? = wr.heap[q]?) := fun q hq hne => (HG5.out.block q (Nat.lt_of_lt_of_le hq B3.out.size) (fun e => hne (Option.some.inj e))).trans (B3.out.block q hq)
      have hGz := MG.out.lt
      have hgz1 : w.heap.size < G := by have := HGZ.out; omega
      have hgz2 : G < w.heap.size + 2 := by have := HGZ.out; omega
      have HV3 : Hid (RexP wB (fun b => b ≠ w.heap.size ∧ b ≠ G ∧ (p b ∨ w.heap.size ≤ b)) (two k x T) (.int .i64 k) (.slice none 0 0) (.slice (some ⟨gB, 0, none⟩) 2 2)) := by
        have hgb := HGB.out
        refine RexP.of (k := k) (s := []) (ks := [x, T]) ⟨⟨.inl rfl, Nat.le_refl _, by simp⟩, fun a e => by cases e⟩ (KidsP.mk2 MX.out ⟨by omega, by omega, .inr (by omega)⟩ ((HX.out.under B3.out).mono fun b hb => ⟨fun e => by have := HP.out b hb.1; omega, fun e => by have := HP.out b hb.1; omega, .inl hb.1⟩) (HT.out.under B3.out))
      go_wp2_with fail
      go_roundg m
      case measure => omega
      case rel =>
        have hh := HZB.out
        refine ⟨two k x T, none, 0, some ⟨gB, 0, none⟩, 2, by go_num, by omega, HE2, ?_, MG5, ?_, ?_, ?_, ?_⟩
        · exact HV3.out.keep fun b hb hl => HG5.out.block b hl (fun e => hb.2.1 (Option.some.inj e))
        · exact ⟨(FAR.out _ (by omega) (by omega)).trans MR.out.eq⟩
        · exact HO.out.keep (fun b hb => FAR.out b (own_vlt HO.out.own b hb).2 (by rw [vblk_some] at hb; have h1 := List.mem_singleton.1 hb; have := HGL.out; omega)) (fun b hb hl => FAR.out b hl (by have := HP.out b hb; omega))
        · exact (below_then HB.out B3.out).grown HG5.out (below_then HB.out B3.out).size (fun q hq => by injection hq with hq; omega)
        · show _ ≤ _; exact Nat.le_trans hh (Nat.le_trans B3.out.size HG5.out.size)
    · obtain rfl : gk = 0 := by omega
      have E : Hid (T = chain k rs) := HE.out
      have j0 : ¬ (0 : Int) ≤ ((0 : Nat) : Int) - 1 := by omega
      clear HE
      go_wp2_with ((with_reducible refine at_st 4 28 ?_); refine ev_store (o := ⟨none, .store _ (.tmp 4) _, _, _, _, _⟩) rfl rfl TRx (.tmp 4) (.tmp 28) rfl (w.heap.size) 0 rfl [.int .i64 T.kind, .slice A1 T.set.length c1, .slice K1 T.kids.length k1] rfl _ TRx MR.out (sizeRx' _ _ _) (by show 0 + 3 ≤ 3; omega) (three_one _ _ _ _ _ _ _) ?_; intro w5 hX5 hg5; have HX5 : Hid (Blk w5 (w.heap.size) ([.int .i64 T.kind, .slice A1 T.set.length c1, .slice K1 T.kids.length k1]).toArray TRx) := hX5; have HG5 := Lib.hid hg5; clear hX5 hg5)
      refine bodyPost_ret (results_cell_row rfl _ _ (w.heap.size) TRx _ (0, 0) _ rfl HX5.out.eq Tryz.underlying26 rfl (by rw [sizeRx]; rfl)) rfl ?_
      have hT := HT.out
      rw [← E.out]
      exact rex_fin rfl rfl HP.out (hT.mono fun b hb => ⟨hb.1, hb.2.2⟩) HB.out HG5.out (Nat.le_refl _)

end Go.Proofs.YtfeidjjabjejiaaGreatDoor

/-
  DERIVED: THE SHELF's CONTRACTS AT THIS DUMP, IN PLAIN WORDS (tools/lay-plain.mjs out of 'TryzShelf.lean', which tools/lay-shelf.mjs wrote): THE SAME DECLARATIONS UNDER THE SAME NAMES: 'import', 'namespace', 'open', 'def', 'theorem' AND NOTHING ELSE: no command of the shelf's: FOR A HAND-IN. Each laying: the table of numbers ('.._ren') and one theorem, a field a fact of the dump's own or the kernel's comparison; each contract: ONE APPLICATION.
-/
namespace Go.Proofs
open Go.Shelf
def Tryz.lays156_ren : Go.Shelf.Ren := ⟨fun | 156 => 124 | 165 => 144 | 166 => 145 | 169 => 146 | 240 => 165 | 241 => 166 | 276 => 177 | 277 => 178 | n => n, fun | 31 => 80 | 9 => 9 | 3 => 3 | 4 => 4 | 0 => 0 | 20 => 20 | 72 => 127 | 76 => 131 | 70 => 125 | 37 => 22 | 75 => 130 | 127 => 149 | 164 => 159 | 5 => 5 | 80 => 133 | n => n, fun | n => n⟩
theorem Tryz.lays156 : Go.Proofs.Lays.n156 Tryz.prog Tryz.lays156_ren := {
  mixed := by kernel_rfl
  f156 := Tryz.func124.trans (congrArg some (by kernel_rfl))
  f165 := Tryz.func144.trans (congrArg some (by kernel_rfl))
  f166 := Tryz.func145.trans (congrArg some (by kernel_rfl))
  f169 := Tryz.func146.trans (congrArg some (by kernel_rfl))
  f240 := Tryz.func165.trans (congrArg some (by kernel_rfl))
  f241 := Tryz.func166.trans (congrArg some (by kernel_rfl))
  f276 := Tryz.func177.trans (congrArg some (by kernel_rfl))
  f277 := Tryz.func178.trans (congrArg some (by kernel_rfl))
  t0 := Tryz.underlying0
  a0 := Tryz.isAgg0
  z0 := Tryz.sizeOf0
  v0 := Tryz.zeroValue0
  t3 := Tryz.underlying3
  a3 := Tryz.isAgg3
  z3 := Tryz.sizeOf3
  v3 := Tryz.zeroValue3
  t4 := Tryz.underlying4
  a4 := Tryz.isAgg4
  z4 := Tryz.sizeOf4
  v4 := Tryz.zeroValue4
  t9 := Tryz.underlying9
  a9 := Tryz.isAgg9
  z9 := Tryz.sizeOf9
  v9 := Tryz.zeroValue9
  t20 := Tryz.underlying20
  a20 := Tryz.isAgg20
  z20 := Tryz.sizeOf20
  v20 := Tryz.zeroValue20
  t31 := Tryz.underlying80
  a31 := Tryz.isAgg80
  z31 := Tryz.sizeOf80
  v31 := Tryz.zeroValue80
  t37 := Tryz.underlying22
  a37 := Tryz.isAgg22
  z37 := Tryz.sizeOf22
  v37 := Tryz.zeroValue22
  t70 := Tryz.underlying125
  a70 := Tryz.isAgg125
  z70 := Tryz.sizeOf125
  v70 := Tryz.zeroValue125
  t72 := Tryz.underlying127
  a72 := Tryz.isAgg127
  z72 := Tryz.sizeOf127
  v72 := Tryz.zeroValue127
  t75 := Tryz.underlying130
  a75 := Tryz.isAgg130
  z75 := Tryz.sizeOf130
  v75 := Tryz.zeroValue130
  t76 := Tryz.underlying131
  a76 := Tryz.isAgg131
  z76 := Tryz.sizeOf131
  v76 := Tryz.zeroValue131
  t127 := Tryz.underlying149
  a127 := Tryz.isAgg149
  z127 := Tryz.sizeOf149
  v127 := Tryz.zeroValue149
  t164 := Tryz.underlying159
  a164 := Tryz.isAgg159
  z164 := Tryz.sizeOf159
  v164 := Tryz.zeroValue159 }
theorem Tryz.Builder_Extra_156 : Builder.Extra Tryz.prog Tryz.lays156_ren := {
  sizeBuilder := by kernel_rfl
  liesBuilder := by kernel_rfl
  t5 := Tryz.underlying5
  a5 := Tryz.isAgg5
  z5 := Tryz.sizeOf5
  v5 := Tryz.zeroValue5
  infoByte := by kernel_rfl
  cellsByte := by kernel_rfl
  sizeByte := by kernel_rfl
  neB5 := by decide }
open Go.RowKit in
/-- No element: the empty string; the world is as it was. (Whatever the slice's address and capacity: a nil slice too.) (LAID: no walk: one application.) -/
theorem Tryz.strings_Join_none (a : Option Addr) (c : Nat) (sep : ByteArray) (w : World) :
    Calls Tryz.prog 124 #[.slice a 0 c, .string sep] w fun e w' => e = .returned (.string ⟨#[]⟩) ∧ w' = w := Any.strings_Join_none Tryz.lays156 Tryz.Builder_Extra_156 a c sep w
open Go.RowKit in
/-- strings.Join: "Join concatenates the elements of its first argument to create a single string. The separator string sep is placed between elements in the resulting string.": HOWEVER MANY ELEMENTS. Below the heap's end the world is as it was. (LAID: no walk: one application.) -/
theorem Tryz.strings_Join (bk o c : Nat) (xs : List ByteArray) (sep : ByteArray) (w : World) (hcells : ∀ (j : Nat) x, xs[j]? = some x → w.cell? ⟨bk, o + j, none⟩ = some (.string x)) (hbk : bk < w.heap.size) (hN : xs.length ≤ 140737488355328) (hcap : xs.length ≤ c) (hlen : (Lib.join (xs.map (·.data.toList)) sep.data.toList).length ≤ 140737488355328) :
    Calls Tryz.prog 124 #[.slice (some ⟨bk, o, none⟩) xs.length c, .string sep] w fun e w' => e = .returned (.string ⟨(Lib.join (xs.map (·.data.toList)) sep.data.toList).toArray⟩) ∧ Below w.heap.size w w' := Any.strings_Join Tryz.lays156 Tryz.Builder_Extra_156 bk o c xs sep w hcells hbk hN hcap hlen
def Tryz.laysM171_ren : Go.Shelf.Ren := ⟨fun | 171 => 167 | 243 => 179 | 246 => 196 | 283 => 205 | 284 => 206 | 285 => 207 | 286 => 208 | 129 => 195 | 317 => 210 | 318 => 211 | 319 => 212 | 320 => 213 | 337 => 214 | 338 => 215 | n => n, fun | 3 => 3 | 9 => 9 | 2 => 2 | 4 => 4 | 171 => 187 | 0 => 0 | 53 => 173 | 37 => 22 | 5 => 5 | 173 => 189 | 212 => 195 | 51 => 171 | 20 => 20 | 213 => 196 | 46 => 158 | 232 => 198 | 233 => 199 | n => n, fun | 17 => 3 | 18 => 4 | 19 => 5 | n => n⟩
theorem Tryz.laysM171 : Go.Proofs.LaysM.n171 Tryz.prog Tryz.laysM171_ren := {
  mixed := by kernel_rfl
  f129 := Tryz.func195.trans (congrArg some (by kernel_rfl))
  f171 := Tryz.func167.trans (congrArg some (by kernel_rfl))
  f243 := Tryz.func179.trans (congrArg some (by kernel_rfl))
  f246 := Tryz.func196.trans (congrArg some (by kernel_rfl))
  f283 := Tryz.func205.trans (congrArg some (by kernel_rfl))
  f284 := Tryz.func206.trans (congrArg some (by kernel_rfl))
  f285 := Tryz.func207.trans (congrArg some (by kernel_rfl))
  f286 := Tryz.func208.trans (congrArg some (by kernel_rfl))
  f317 := Tryz.func210.trans (congrArg some (by kernel_rfl))
  f318 := Tryz.func211.trans (congrArg some (by kernel_rfl))
  f319 := Tryz.func212.trans (congrArg some (by kernel_rfl))
  f320 := Tryz.func213.trans (congrArg some (by kernel_rfl))
  f337 := Tryz.func214.trans (congrArg some (by kernel_rfl))
  f338 := Tryz.func215.trans (congrArg some (by kernel_rfl))
  t0 := Tryz.underlying0
  a0 := Tryz.isAgg0
  z0 := Tryz.sizeOf0
  v0 := Tryz.zeroValue0
  t2 := Tryz.underlying2
  a2 := Tryz.isAgg2
  z2 := Tryz.sizeOf2
  v2 := Tryz.zeroValue2
  t3 := Tryz.underlying3
  a3 := Tryz.isAgg3
  z3 := Tryz.sizeOf3
  v3 := Tryz.zeroValue3
  t4 := Tryz.underlying4
  a4 := Tryz.isAgg4
  z4 := Tryz.sizeOf4
  v4 := Tryz.zeroValue4
  t5 := Tryz.underlying5
  a5 := Tryz.isAgg5
  z5 := Tryz.sizeOf5
  v5 := Tryz.zeroValue5
  t9 := Tryz.underlying9
  a9 := Tryz.isAgg9
  z9 := Tryz.sizeOf9
  v9 := Tryz.zeroValue9
  t20 := Tryz.underlying20
  a20 := Tryz.isAgg20
  z20 := Tryz.sizeOf20
  v20 := Tryz.zeroValue20
  t37 := Tryz.underlying22
  a37 := Tryz.isAgg22
  z37 := Tryz.sizeOf22
  v37 := Tryz.zeroValue22
  t46 := Tryz.underlying158
  a46 := Tryz.isAgg158
  z46 := Tryz.sizeOf158
  v46 := Tryz.zeroValue158
  t51 := Tryz.underlying171
  a51 := Tryz.isAgg171
  z51 := Tryz.sizeOf171
  v51 := Tryz.zeroValue171
  t53 := Tryz.underlying173
  a53 := Tryz.isAgg173
  z53 := Tryz.sizeOf173
  v53 := Tryz.zeroValue173
  t171 := Tryz.underlying187
  a171 := Tryz.isAgg187
  z171 := Tryz.sizeOf187
  v171 := Tryz.zeroValue187
  t173 := Tryz.underlying189
  a173 := Tryz.isAgg189
  z173 := Tryz.sizeOf189
  v173 := Tryz.zeroValue189
  t212 := Tryz.underlying195
  a212 := Tryz.isAgg195
  z212 := Tryz.sizeOf195
  v212 := Tryz.zeroValue195
  t213 := Tryz.underlying196
  a213 := Tryz.isAgg196
  z213 := Tryz.sizeOf196
  t232 := Tryz.underlying198
  a232 := Tryz.isAgg198
  z232 := Tryz.sizeOf198
  v232 := Tryz.zeroValue198
  t233 := Tryz.underlying199
  a233 := Tryz.isAgg199
  z233 := Tryz.sizeOf199
  v233 := Tryz.zeroValue199
  g17 := by kernel_rfl
  g18 := by kernel_rfl
  g19 := by kernel_rfl
  i0 := by kernel_rfl
  i2 := by kernel_rfl
  i3 := by kernel_rfl
  i4 := by kernel_rfl
  i5 := by kernel_rfl
  i9 := by kernel_rfl
  i20 := by kernel_rfl
  i37 := by kernel_rfl
  i46 := by kernel_rfl
  i51 := by kernel_rfl
  i53 := by kernel_rfl
  i171 := by kernel_rfl
  i173 := by kernel_rfl
  i212 := by kernel_rfl
  i232 := by kernel_rfl
  i233 := by kernel_rfl
  m17 := by kernel_rfl
  m18 := by kernel_rfl
  m19 := by kernel_rfl }
open Go.RowKit Go.Sort Go.Lib in
/-- strconv.Itoa: "Itoa is equivalent to FormatInt(int64(i), 10).": i's DECIMAL NUMERAL ('Lib.itoa': a '-' where i is negative, then the digits), FOR EVERY int. The world behind the call: the world before it, new blocks behind the heap (the library's 'var a [24]byte'), draws. (LAID: no walk: one application.) -/
theorem Tryz.strconv_Itoa (n : Int) (h0 : -9223372036854775808 ≤ n) (h1 : n ≤ 9223372036854775807) (w : World) (htab : Lib.TabIs Tryz.prog w "internal/strconv.uint64pow10" .u64 Lib.pow10Tab) :
    Calls Tryz.prog 167 #[.int .i64 n] w fun e w' => e = .returned (.string ⟨(Lib.itoa n).toArray⟩) ∧ ∃ k os, w' = grow (w.drewN k) os := Any.strconv_Itoa Tryz.laysM171 n h0 h1 w htab
end Go.Proofs

/- SetText of the program: strconv.Itoa and strings.Join by the shelf's contracts. -/
namespace Go.Proofs.YtfeidjjabjejiaaGreatDoor
set_option linter.unusedSimpArgs false
set_option linter.unusedVariables false
set_option maxRecDepth 100000
open Go.RowKit

abbrev TStr : Nat := 9
theorem infoStr : (Tryz.prog.info? TStr).map (fun i => (i.zero, i.size, i.bytes)) = some (some (.string ⟨#[]⟩), 1, 16) := by kernel_rfl
abbrev Pow10 (w : World) : Prop := Lib.TabIs Tryz.prog w "internal/strconv.uint64pow10" .u64 Lib.pow10Tab
theorem Pow10.below {w w' : World} (h : Pow10 w) (hb : Below w.heap.size w w') : Pow10 w' := by
  unfold Pow10 Lib.TabIs at h ⊢
  unfold World.var? at h ⊢
  cases hg : Tryz.prog.globalNamed "internal/strconv.uint64pow10" with
  | none => rw [hg] at h; cases h
  | some g =>
    rw [hg] at h
    simp only [Option.bind_some] at h ⊢
    have hlt : g < w.heap.size := by
      rcases Nat.lt_or_ge g w.heap.size with h1 | h1
      · exact h1
      · rw [Array.getElem?_eq_none h1] at h; cases h
    rw [hb.block g hlt]
    exact h
theorem iItoa_c (n : Int) (w : World) (h : in64 n) (ht : Pow10 w) :
    Calls Tryz.prog 167 #[.int .i64 n] w fun e w' => e = .returned (.string (str (Lib.itoa n))) ∧ Below w.heap.size w w' :=
  (Tryz.strconv_Itoa n h.1 h.2 w ht).mono fun e w' ⟨h1, k, os, h2⟩ => ⟨h1, by rw [h2]; exact below_grow w k os⟩
def txts (xs : List Sp) : List Value := xs.map fun x => .string (str (spanTxt x))
theorem txts_snoc {xs : List Sp} {k : Nat} {x : Sp} (h : xs[k]? = some x) : txts (xs.take (k + 1)) = txts (xs.take k) ++ [.string (str (spanTxt x))] := by rw [take_snoc h]; simp [txts]
theorem iJoin_c (xs : List Sp) (g c : Nat) (w : World) {base : Nat} (h : w.ownsRow base TStr 1 (.slice (some ⟨g, 0, none⟩) xs.length c) xs.length (txts xs)) (h64 : sp64 xs) (hn : xs.length ≤ 1048576) (hc : xs.length ≤ c) :
    Calls Tryz.prog 124 #[.slice (some ⟨g, 0, none⟩) xs.length c, .string ⟨#[44]⟩] w fun e w' => e = .returned (.string (str (accTxt xs))) ∧ Below w.heap.size w w' := by
  have hl : (xs.map fun x => str (spanTxt x)).length = xs.length := List.length_map _
  have e : ((xs.map fun x => str (spanTxt x)).map (·.data.toList)) = xs.map spanTxt := by
    rw [List.map_map]
    exact List.map_congr_left fun x _ => rfl
  have hlen : (accTxt xs).length ≤ 44 * xs.length := by
    have := acc_len xs h64 xs.length (Nat.le_refl _)
    rw [List.take_length] at this
    exact this
  have hj := Tryz.strings_Join g 0 c (xs.map fun x => str (spanTxt x)) ⟨#[44]⟩ w (fun j x hj => by
    rw [Nat.zero_add, h.cellAt j (by have := (List.getElem?_eq_some_iff.1 hj).1; rw [hl] at this; omega)]
    rw [List.getElem?_map, Option.map_eq_some_iff] at hj
    obtain ⟨y, hy, rfl⟩ := hj
    unfold txts
    rw [List.getElem?_map, hy]
    rfl) (own_base h g rfl).2 (by rw [hl]; omega) (by rw [hl]; exact hc) (by rw [e]; show (accTxt xs).length ≤ _; omega)
  rw [hl, e] at hj
  exact hj

end Go.Proofs.YtfeidjjabjejiaaGreatDoor

/- SetText of the program, walked. -/
namespace Go.Proofs.YtfeidjjabjejiaaGreatDoor
set_option linter.unusedSimpArgs false
set_option linter.unusedVariables false
set_option maxRecDepth 100000
open Go.RowKit

theorem str_dash (l : List UInt8) : (⟨#[45]⟩ : ByteArray) ++ str l = str (45 :: l) := str_append [45] l
set_option maxHeartbeats 2000000 in
theorem iSetText_c (A : Option Addr) (c : Nat) (xs : List Sp) (w : World) {lo : Nat} (h : Sps w lo A c xs) (h64 : sp64 xs) (hn : xs.length ≤ 1048576) (ht : Pow10 w) :
    Calls Tryz.prog 147 #[.slice A xs.length c] w fun e w' => e = .returned (.string (str (setTxt xs))) ∧ Below w.heap.size w w' := by
  have H := Lib.hid h
  have H64 := Lib.hid h64
  have HT := Lib.hid ht
  have HO0 : Hid (w.ownsRow w.heap.size TStr 1 (.slice none 0 0) 0 (txts (xs.take 0))) := World.ownsRow_nil _ _ _ _
  obtain ⟨iS, hiS, hzS0, hzS1, hzS2⟩ := info_parts infoStr
  clear h h64 ht
  go_enter Tryz.func147, Tryz.ntmps147
  by_cases hx0 : xs.length = 0
  · have d0 : ((xs.length : Int) == 0) = true := by simp [hx0]
    have E : Hid (setTxt xs = [110, 111]) := by show _ = _; rw [setTxt, if_pos hx0]
    clear hx0
    go_wp2_with fail
    go_ret
    exact ⟨by rw [E.out]; rfl, Below.refl _ _⟩
  have d0 : ((xs.length : Int) == 0) = false := by simp [hx0]
  have HX0 := Lib.hid hx0
  clear hx0
  go_wp2_with fail
  clear d0
  go_loopg [3, 12] xs.length (fun n v3 v12 wr => ∃ k : Nat, k + n = xs.length ∧ v12 = .int .i64 k ∧ ∃ (A2 : Option Addr) (c2 : Nat), v3 = .slice A2 k c2 ∧ Hid (wr.ownsRow w.heap.size TStr 1 (.slice A2 k c2) k (txts (xs.take k))) ∧ Hid (Below w.heap.size w wr))
  case atStart => exact ⟨0, by omega, rfl, none, 0, rfl, HO0, Below.refl _ _⟩
  case round =>
    clear HO0
    obtain ⟨k, hk, rfl, A2, c2, rfl, HO, HB⟩ := hrel
    by_cases hlt : k < xs.length
    · obtain ⟨a, x, rfl, HX, HD, h0, h1⟩ := (H.out.below HB.out).at_ k hlt
      have i0 : (0 : Int) ≤ (k : Int) := by omega
      have i1 : (k : Int) < (xs.length : Int) := by omega
      have hx := H64.out x (List.mem_of_getElem? HX.out)
      have hi0 := Lib.itoa_length_le x.lo hx.1.1 hx.1.2
      have hi1 := Lib.itoa_length_le x.hi hx.2.1 hx.2.2
      have hz0 := str_size (Lib.itoa x.lo)
      have hz1 := str_size (Lib.itoa x.hi)
      have HTS := Lib.hid (txts_snoc HX.out)
      go_wp2_with fail
      obtain ⟨wv, hwv⟩ : ∃ v, v = wr.alloc (.cells #[.int .i64 x.lo, .int .i64 x.hi] 69) := ⟨_, rfl⟩
      have bv' : Below wr.heap.size wr wv := by rw [hwv]; exact below_alloc (Below.refl _ _) _
      have M : Blk wv wr.heap.size #[.int .i64 x.lo, .int .i64 x.hi] 69 := by rw [hwv]; exact blk_new wr _ _
      rw [← hwv]
      clear hwv h0 h1
      refine (iItoa_c x.lo wv hx.1 (HT.out.below (below_then HB.out bv'))).mono ?_
      rintro e w1 ⟨rfl, b1⟩
      have M1 := Lib.hid (M.below b1)
      have B1 := Lib.hid (below_then bv' b1)
      have n0 : w1.cell? ⟨wr.heap.size, 0, none⟩ = some (.int .i64 x.lo) := by rw [M1.out.cell]; rfl
      have n1 : w1.cell? ⟨wr.heap.size, 1, none⟩ = some (.int .i64 x.hi) := by rw [M1.out.cell]; rfl
      clear bv' M b1
      by_cases hne : x.hi = x.lo
      · have HE : Hid (str (Lib.itoa x.lo) = str (spanTxt x)) := by show _ = _; unfold spanTxt; rw [if_pos hne, List.append_nil]
        have d1 : (x.hi != x.lo) = false := by simp [hne]
        have d2 : decide (¬ x.hi = x.lo) = false := by simp [hne]
        obtain ⟨w3, hw3⟩ : ∃ v, v = w1 := ⟨_, rfl⟩
        have B3 : Hid (Below w.heap.size w w3) := by rw [hw3]; exact below_then HB.out B1.out
        have B4 : Hid (Below wr.heap.size wr w3) := by rw [hw3]; exact B1.out
        rw [← hw3] at n0 n1 ⊢
        clear hw3 hne
        go_upto_region 10 with fail
        rw [HE.out]
        obtain ⟨tx, htx⟩ : ∃ t, t = str (spanTxt x) := ⟨_, rfl⟩
        rw [← htx]
        have HTX := Lib.hid htx
        clear htx
        have hn1 : k + 1 ≤ maxLen := by unfold maxLen; omega
        have hn2 : (k + 1) * 16 ≤ 140737488355328 := by omega
        have hn3 := B3.out.size
        have OW := Lib.hid (own_below HO.out (B4.out))
        go_wp2_with (at_builtin; refine wpList_append_row (by rfl) (.tmp 30) (.tmp 32) 80 (by rfl) w.heap.size TStr iS (.string ⟨#[]⟩) 1 16 Tryz.underlying80 hiS hzS0 hzS1 hzS2 rfl (by decide) (.slice A2 k c2) k (txts (xs.take k)) (by rfl) (own_below OW.out (below_alloc (Below.refl _ _) _)) (some ⟨w3.heap.size, 0, none⟩) 1 1 [.string tx] (by rfl) (.inr ⟨⟨w3.heap.size, 0, none⟩, rfl, Nat.zero_le _, new_cells w3 [.string tx] TStr⟩) rfl (fun u hu => by rw [List.mem_singleton.1 hu]; rfl) hn1 hn2 (by simp; omega) _ rfl (k + 1) rfl ?_; intro A5 c5 wE hown hgrow hat; have HE := Lib.hid hown; have BE := Lib.hid ((below_alloc B3.out _).grown hgrow (by simp; omega) (fun q hq => (own_base OW.out q hq).1)); clear hown hgrow hat)
        go_roundg (gk - 1)
        case measure => omega
        case rel =>
          refine ⟨k + 1, by omega, by go_num, A5, c5, rfl, ?_, BE⟩
          show World.ownsRow _ _ _ _ _ _ _
          rw [HTS.out, ← HTX.out]
          exact HE.out
      · have HE : Hid (str (Lib.itoa x.lo) ++ ((⟨#[45]⟩ : ByteArray) ++ str (Lib.itoa x.hi)) = str (spanTxt x)) := by show _ = _; unfold spanTxt; rw [if_neg hne, str_dash, str_append]
        have d1 : (x.hi != x.lo) = true := by simp [hne]
        have d2 : decide (¬ x.hi = x.lo) = true := by simp [hne]
        clear hne
        go_wp2_with fail
        refine (iItoa_c x.hi w1 hx.2 (HT.out.below (below_then HB.out B1.out))).mono ?_
        rintro e w3 ⟨rfl, b3⟩
        have B3 := Lib.hid (below_then HB.out (below_then B1.out b3))
        have B4 := Lib.hid (below_then B1.out b3)
        clear n0 n1 b3
        go_upto_region 10 with fail
        rw [HE.out]
        obtain ⟨tx, htx⟩ : ∃ t, t = str (spanTxt x) := ⟨_, rfl⟩
        rw [← htx]
        have HTX := Lib.hid htx
        clear htx
        have hn1 : k + 1 ≤ maxLen := by unfold maxLen; omega
        have hn2 : (k + 1) * 16 ≤ 140737488355328 := by omega
        have hn3 := B3.out.size
        have OW := Lib.hid (own_below HO.out (B4.out))
        go_wp2_with (at_builtin; refine wpList_append_row (by rfl) (.tmp 30) (.tmp 32) 80 (by rfl) w.heap.size TStr iS (.string ⟨#[]⟩) 1 16 Tryz.underlying80 hiS hzS0 hzS1 hzS2 rfl (by decide) (.slice A2 k c2) k (txts (xs.take k)) (by rfl) (own_below OW.out (below_alloc (Below.refl _ _) _)) (some ⟨w3.heap.size, 0, none⟩) 1 1 [.string tx] (by rfl) (.inr ⟨⟨w3.heap.size, 0, none⟩, rfl, Nat.zero_le _, new_cells w3 [.string tx] TStr⟩) rfl (fun u hu => by rw [List.mem_singleton.1 hu]; rfl) hn1 hn2 (by simp; omega) _ rfl (k + 1) rfl ?_; intro A5 c5 wE hown hgrow hat; have HE := Lib.hid hown; have BE := Lib.hid ((below_alloc B3.out _).grown hgrow (by simp; omega) (fun q hq => (own_base OW.out q hq).1)); clear hown hgrow hat)
        go_roundg (gk - 1)
        case measure => omega
        case rel =>
          refine ⟨k + 1, by omega, by go_num, A5, c5, rfl, ?_, BE⟩
          show World.ownsRow _ _ _ _ _ _ _
          rw [HTS.out, ← HTX.out]
          exact HE.out
    · have hkl : k = xs.length := by omega
      subst hkl
      rw [List.take_length] at HO
      obtain ⟨g, cc, e3, hg3, hc3⟩ := own_form HO.out (by have := HX0.out; omega)
      injection e3 with e31 e32 e33
      subst e31 e33
      have E : Hid (setTxt xs = accTxt xs) := by show _ = _; rw [setTxt, if_neg HX0.out]
      go_wp2_with fail
      refine (iJoin_c xs g c2 wr HO.out H64.out hn hc3).mono ?_
      rintro e w2 ⟨rfl, b2⟩
      go_wp2_with fail
      go_ret
      exact ⟨by rw [E.out]; rfl, below_then HB.out b2⟩

end Go.Proofs.YtfeidjjabjejiaaGreatDoor

/- Patterns as texts: rexWord, writeRex, textOf, RexText of the program. -/
namespace Go.Proofs.YtfeidjjabjejiaaGreatDoor
set_option linter.unusedSimpArgs false
set_option linter.unusedVariables false
set_option maxRecDepth 100000
open Go.RowKit

mutual
theorem words_many : ∀ r : Rex, (wordsOf r).length ≤ 2 * r.many
  | .mk k s ks => by
    have := wordsL_many ks
    rw [wordsOf, Rex.many, List.length_cons, List.length_append]
    split <;> simp <;> omega
theorem wordsL_many : ∀ ks : List Rex, (wordsL ks).length ≤ 2 * manyL ks
  | [] => by simp [wordsL, manyL]
  | r :: ks => by
    have h1 := words_many r
    have h2 := wordsL_many ks
    rw [wordsL, manyL, List.length_append]
    omega
end
def wcells (ws : List (List UInt8)) : List Value := ws.map fun l => Value.string (str l)
theorem wcells_snoc (ws : List (List UInt8)) (l : List UInt8) : wcells (ws ++ [l]) = wcells ws ++ [.string (str l)] := by simp [wcells]

set_option maxHeartbeats 1000000 in
theorem iRexWord_c (k : Int) (w : World) (h : k = 1 ∨ k = 2 ∨ k = 3 ∨ k = 4 ∨ k = 5 ∨ k = 6 ∨ k = 7) :
    Calls Tryz.prog 126 #[.int .i64 k] w fun e w' => e = .returned (.string (str (kw k))) ∧ Below w.heap.size w w' := by
  rcases h with rfl | rfl | rfl | rfl | rfl | rfl | rfl
  all_goals
    go_enter Tryz.func126, Tryz.ntmps126
    go_wp2_with fail
    go_ret
    exact ⟨rfl, below_alloc (Below.refl _ _) _⟩

end Go.Proofs.YtfeidjjabjejiaaGreatDoor
