/- DerivText, of the program and of the reference. -/
import Derived.Test.YtfeidjjabjejiaaGreatDoorYl
import Derived.Test.YtfeidjjabjejiaaGreatDoorG3
namespace Go.Proofs.YtfeidjjabjejiaaGreatDoor
set_option linter.unusedSimpArgs false
set_option linter.unusedVariables false
set_option maxRecDepth 100000
open Go.RowKit

def bytesI (t : ByteArray) : List Int := t.data.toList.map fun b => (b.toNat : Int)
theorem bytesI_drop {t : ByteArray} {j : Nat} (h : j < t.size) : (bytesI t).drop j = ((t[j].toNat : Nat) : Int) :: (bytesI t).drop (j + 1) := by
  have e : t.data.toList[j]? = some t[j] := by rw [Array.getElem?_toList, Array.getElem?_eq_getElem h]; rfl
  have hl : j < (bytesI t).length := by unfold bytesI; rw [List.length_map]; exact h
  rw [List.drop_eq_getElem_cons hl]
  congr 1
  have : (bytesI t)[j]? = some ((t[j].toNat : Nat) : Int) := by unfold bytesI; rw [List.getElem?_map, e]; rfl
  rw [List.getElem?_eq_getElem hl] at this
  exact Option.some.inj this
theorem bytesI_end (t : ByteArray) : (bytesI t).drop t.size = [] := List.drop_of_length_le (by unfold bytesI; rw [List.length_map]; exact Nat.le_refl _)
def dvLoop : Rex → List Int → Rex
  | n, [] => n
  | n, b :: bs => if 120 < (dv b n).many then noRex else dvLoop (dv b n) bs
def derivText (t : ByteArray) (r : Rex) : Rex := if rexOk r = true ∧ t.size ≤ 12 then dvLoop (nrm r) (bytesI t) else noRex
theorem iWord_d (s : ByteArray) (w : World) :
    Calls Tryz.prog 81 #[.string s] w fun e w' => e = .returned (.bool (decide ((s.size : Int) ≤ 12))) ∧ w = w' := by
  go_enter Tryz.func81, Tryz.ntmps81
  go_wp2
  go_ret
  exact ⟨rfl, rfl⟩
theorem sWord_d (s : ByteArray) (w : World) :
    Calls Tryz.prog 79 #[.string s] w fun e w' => e = .returned (.bool (decide ((s.size : Int) ≤ 12))) ∧ w = w' := by
  go_enter Tryz.func79, Tryz.ntmps79
  go_wp2
  go_ret
  exact ⟨rfl, rfl⟩
theorem noRex_size : noRex.size ≤ 4000 := by show (Rex.mk 0 [] []).size ≤ _; simp [Rex.size, sizeL]
theorem dvLoop_size : ∀ (bs : List Int) (n : Rex), wf n → n.many ≤ 120 → (dvLoop n bs).size ≤ 1048576
  | [], n, h, hm => size_many (m := 0) h (Nat.le_trans hm (by omega))
  | b :: bs, n, h, hm => by
    rw [dvLoop]
    split
    · have := noRex_size; omega
    · exact dvLoop_size bs _ (dv_fit b n h).wf (by omega)
theorem derivText_size (t : ByteArray) (r : Rex) : (derivText t r).size ≤ 268435456 := by
  unfold derivText
  split
  · rename_i h
    obtain ⟨h1, h2⟩ := nrm_120 h.1
    have := dvLoop_size (bytesI t) _ h1 h2
    omega
  · have := noRex_size; omega
theorem manyTo_ge (r : Rex) : ∀ d, d ≤ r.manyTo d ∨ r.many ≤ r.manyTo d := by
  refine Rex.rec (motive_1 := fun r => ∀ d, d ≤ r.manyTo d ∨ r.many ≤ r.manyTo d) (motive_2 := fun l => ∀ d, d ≤ manyToL l d ∨ manyL l ≤ manyToL l d) ?_ ?_ ?_ r
  · intro k s ks ih d
    cases d with
    | zero => exact .inl (Nat.zero_le _)
    | succ d => have := ih d; rw [Rex.manyTo, Rex.many]; omega
  · intro d; exact .inr (by simp [manyToL, manyL])
  · intro x xs h1 h2 d
    have := h1 d
    have := h2 d
    rw [manyToL, manyL]
    omega
theorem many_big (r : Rex) : (decide ((120 : Int) < (r.manyTo 1000 : Nat))) = decide ((120 : Int) < (r.many : Nat)) := by
  have h1 := manyTo_le r 1000
  have h2 := manyTo_ge r 1000
  congr 1
  apply propext
  constructor <;> intro h <;> omega
set_option maxHeartbeats 1000000 in
theorem sBig_c (r : Rex) (v1 v2 : Value) (w : World) (h : RexV w 0 r (.int .i64 r.kind) v1 v2) (hsz : r.size ≤ 1048576) :
    Calls Tryz.prog 80 #[.agg #[.int .i64 r.kind, v1, v2]] w fun e w' => e = .returned (.bool (decide ((120 : Int) < (r.many : Nat)))) ∧ Below w.heap.size w w' := by
  obtain ⟨A, c, K, ck, _, rfl, rfl, _, _⟩ := h.parts
  obtain ⟨wa, hwa⟩ : ∃ x, x = w.alloc (.cells #[.int .i64 r.kind, .slice A r.set.length c, .slice K r.kids.length ck] TRx) := ⟨_, rfl⟩
  have hb : Below w.heap.size w wa := by rw [hwa]; exact below_alloc (Below.refl _ _) _
  have m0 : Blk wa w.heap.size #[.int .i64 r.kind, .slice A r.set.length c, .slice K r.kids.length ck] TRx := by rw [hwa]; exact blk_new w _ _
  replace hwa := hwa.symm
  have HV := Lib.hid (h.under hb)
  have HB := Lib.hid hb
  have n0 : wa.cell? ⟨w.heap.size, 0, none⟩ = some (.int .i64 r.kind) := by rw [m0.cell]; rfl
  have n1 : wa.cell? ⟨w.heap.size, 1, none⟩ = some (.slice A r.set.length c) := by rw [m0.cell]; rfl
  have n2 : wa.cell? ⟨w.heap.size, 2, none⟩ = some (.slice K r.kids.length ck) := by rw [m0.cell]; rfl
  clear hb m0 h
  go_enter Tryz.func80, Tryz.ntmps80
  go_wp2_with fail
  clear hwa
  refine (sMany_c r 1000 _ _ _ _ (Nat.le_refl _) HV.out hsz).mono ?_
  rintro e w1 ⟨rfl, b1⟩
  have B1 := Lib.hid (below_then HB.out b1)
  clear n0 n1 n2 b1
  have hm := many_big r
  have HM := Lib.hid hm
  clear hm
  go_wp2
  all_goals go_ret
  exact ⟨ret_bool HM.out, B1.out⟩
set_option maxHeartbeats 4000000 in
theorem iDerivText_c (r : Rex) (v1 v2 : Value) (t : ByteArray) (w : World) (lo : Nat) (h : RexV w lo r (.int .i64 r.kind) v1 v2) (hsz : r.size ≤ 1048576) (hpw : Pow10 w) :
    Calls Tryz.prog 29 #[.agg #[.int .i64 r.kind, v1, v2], .string t] w (CopyPost (derivText t r).kind (derivText t r).set (derivText t r).kids w) := by
  obtain ⟨A, c, K, ck, _, rfl, rfl, _, _⟩ := h.parts
  obtain ⟨wa, hwa⟩ : ∃ x, x = (w.alloc (.cells #[.int .i64 r.kind, .slice A r.set.length c, .slice K r.kids.length ck] TRx)).alloc (.cells #[.int .i64 0, nilS, nilS] TRx) := ⟨_, rfl⟩
  have hb : Below w.heap.size w wa := by rw [hwa]; exact below_alloc (below_alloc (Below.refl _ _) _) _
  have m0 : Blk wa w.heap.size #[.int .i64 r.kind, .slice A r.set.length c, .slice K r.kids.length ck] TRx := by rw [hwa]; exact (blk_new w _ _).alloc _
  have m1 : Blk wa (w.heap.size + 1) #[.int .i64 0, nilS, nilS] TRx := by
    rw [hwa]
    have := blk_new (w.alloc (.cells #[.int .i64 r.kind, .slice A r.set.length c, .slice K r.kids.length ck] TRx)) #[.int .i64 0, nilS, nilS] TRx
    simpa using this
  have hz1 : wa.heap.size = w.heap.size + 2 := by rw [hwa]; simp
  have HZ := Lib.hid hz1
  clear hz1
  replace hwa := hwa.symm
  have HV := Lib.hid (h.under hb)
  have HB := Lib.hid hb
  have M0 := Lib.hid m0
  have M1 := Lib.hid m1
  have n0 : wa.cell? ⟨w.heap.size, 0, none⟩ = some (.int .i64 r.kind) := by rw [m0.cell]; rfl
  have n1 : wa.cell? ⟨w.heap.size, 1, none⟩ = some (.slice A r.set.length c) := by rw [m0.cell]; rfl
  have n2 : wa.cell? ⟨w.heap.size, 2, none⟩ = some (.slice K r.kids.length ck) := by rw [m0.cell]; rfl
  clear hb m0 m1 h
  have HPW := Lib.hid hpw
  clear hpw
  go_enter Tryz.func29, Tryz.ntmps29
  go_wp2_with fail
  clear hwa
  refine (iRexOk_c _ _ _ _ _ HV.out hsz).mono ?_
  rintro e w1 ⟨rfl, b1⟩
  have M1a := Lib.hid (M1.out.below b1)
  have M0a := Lib.hid (M0.out.below b1)
  have HBa := Lib.hid (below_then HB.out b1)
  clear n0 n1 n2
  have n0 : w1.cell? ⟨w.heap.size, 0, none⟩ = some (.int .i64 r.kind) := by rw [M0a.out.cell]; rfl
  have n1 : w1.cell? ⟨w.heap.size, 1, none⟩ = some (.slice A r.set.length c) := by rw [M0a.out.cell]; rfl
  have n2 : w1.cell? ⟨w.heap.size, 2, none⟩ = some (.slice K r.kids.length ck) := by rw [M0a.out.cell]; rfl
  have HVa := Lib.hid (HV.out.under b1)
  have HZa := Lib.hid b1.size
  clear b1
  by_cases hf : rexOk r = true
  · rw [hf]
    by_cases ht : t.size ≤ 12
    · have hx : decide ((t.size : Int) ≤ 12) = true := decide_eq_true (by omega)
      have IN : Hid (∀ W : World, Calls Tryz.prog 81 #[.string t] W fun e w' => e = .returned (.bool true) ∧ W = w') := fun W => by have := iWord_d t W; rw [hx] at this; exact this
      have E0 : Hid (derivText t r = dvLoop (nrm r) ((bytesI t).drop 0)) := by show _ = _; unfold derivText; rw [if_pos ⟨hf, ht⟩]; rfl
      have hdo : rexOk r = true := hf
      obtain ⟨hwf, hmn⟩ := rexOk_wf hf
      obtain ⟨hwn, hmn2⟩ := nrm_120 hf
      have HMN : r.many ≤ 8000 := by omega
      have HWF := Lib.hid hwf
      have IC : Hid (Calls Tryz.prog 58 #[.agg #[.int .i64 r.kind, .slice A r.set.length c, .slice K r.kids.length ck]] w1 (RexPost (fun b => b < w1.heap.size) (nrm r) w1)) := iNorm_c r _ _ w1 _ hwf HVa.out.rexp (fun b h => h) HMN (HPW.out.below HBa.out)
      obtain ⟨N, hN⟩ : ∃ z, z = nrm r := ⟨_, rfl⟩
      rw [← hN] at hwn hmn2 IC E0
      have E := E0
      have WMN : Hid (wf N ∧ N.many ≤ 120) := ⟨hwn, hmn2⟩
      clear hf hN hwf hmn hwn hmn2 hdo E0 hx
      go_wp2_with (first
        | ((with_reducible refine (IN.out _).mono ?_); rintro e wi ⟨rfl, rfl⟩)
        | (((with_reducible refine (IC.out).mono ?_); rintro e wn ⟨An, cn, Kn, kn, rfl, hvn, bn⟩; have HVN := Lib.hid hvn.rexv; have M1n := Lib.hid (M1a.out.below bn); have HBn := Lib.hid (below_then HBa.out bn); have HZn := Lib.hid (Nat.le_trans HZa.out bn.size); clear hvn bn))
        | fail)
      have M1g0 := Lib.hid M1n.out
      obtain ⟨wb, hwb⟩ : ∃ z, z = wn.alloc (.cells #[.int .i64 N.kind, .slice An N.set.length cn, .slice Kn N.kids.length kn] TRx) := ⟨_, rfl⟩
      have bb : Below wn.heap.size wn wb := by rw [hwb]; exact below_alloc (Below.refl _ _) _
      have xg : Blk wb wn.heap.size #[.int .i64 N.kind, .slice An N.set.length cn, .slice Kn N.kids.length kn] TRx := by rw [hwb]; exact blk_new _ _ _
      obtain ⟨g, hg⟩ : ∃ z, z = wn.heap.size := ⟨_, rfl⟩
      have hvg : RexP wb (fun z => z ≠ g) N (.int .i64 N.kind) (.slice An N.set.length cn) (.slice Kn N.kids.length kn) := (HVN.out.rexp.under bb).mono fun z hz => by omega
      have HG : Hid (w.heap.size + 2 ≤ g) := by have h1 := HZ.out; have h2 := HZn.out; show _ ≤ _; omega
      rw [← hg] at xg
      have XG := Lib.hid xg
      have HVG := Lib.hid hvg
      have M1g := Lib.hid (M1n.out.below bb)
      have HBg := Lib.hid (below_then HBn.out bb)
      replace hwb := hwb.symm
      replace hg := hg.symm
      clear xg hvg bb M1g0 HVN HBn M1n HZn
      rw [hwb, hg]
      clear hwb hg
      go_loopg [6] t.size (fun q v6 wr => ∃ (j : Nat) (N : Rex) (A : Option Addr) (c : Nat) (K : Option Addr) (k : Nat), v6 = .int .i64 (j : Int) ∧ q + j = t.size ∧ Hid (Blk wr g #[.int .i64 N.kind, .slice A N.set.length c, .slice K N.kids.length k] TRx) ∧ Hid (RexP wr (fun z => z ≠ g) N (.int .i64 N.kind) (.slice A N.set.length c) (.slice K N.kids.length k)) ∧ Hid (wf N ∧ N.many ≤ 120) ∧ Hid (derivText t r = dvLoop N ((bytesI t).drop j)) ∧ Hid (Blk wr (w.heap.size + 1) #[.int .i64 0, nilS, nilS] TRx) ∧ Hid (Below w.heap.size w wr))
      case atStart => exact ⟨0, N, An, cn, Kn, kn, rfl, by omega, XG, HVG, WMN, E, M1g, HBg⟩
      case round =>
        clear E XG HVG WMN M1g HBg
        obtain ⟨j, N, A5, c5, K5, k5, rfl, hqj, XG, HVN, WN, E, M1r, HBr⟩ := hrel
        have hgr := XG.out.lt
        have hr1 := M1r.out.lt
        by_cases hlt : j < t.size
        · have i0 : (0 : Int) ≤ (j : Int) := by omega
          have i1 : (j : Int) < (t.size : Int) := by omega
          obtain ⟨u, hu⟩ : ∃ u, u = t[j] := ⟨_, rfl⟩
          have e2 : IntKind.i64.wrap (t[j].toNat : Int) = (t[j].toNat : Int) := IntWalk.i64_in _ (by have := t[j].toNat_lt; omega)
          have E1 : Hid (derivText t r = if 120 < (dv (t[j].toNat : Nat) N).many then noRex else dvLoop (dv (t[j].toNat : Nat) N) ((bytesI t).drop (j + 1))) := by
            show _ = _
            rw [E.out, bytesI_drop hlt, dvLoop]
          have hts := dv_size (t[j].toNat : Nat) WN.out.1 WN.out.2
          have DC := fun (u1 u2 : Value) (W : World) h1 h2 => iDeriv_c N (t[j].toNat : Nat) u1 u2 W (fun z => z ≠ g ∧ z < W.heap.size) WN.out.1 h1 (fun b h => h.2) WN.out.2 h2
          have hwt := (dv_fit (t[j].toNat : Nat) N WN.out.1).wf
          obtain ⟨T, hT⟩ : ∃ z, z = dv (t[j].toNat : Nat) N := ⟨_, rfl⟩
          rw [← hT] at hts E1 DC hwt
          replace DC := Lib.hid DC
          have WT := Lib.hid hwt
          have bd := below_drew (Below.refl wr.heap.size wr)
          have hdz := bd.size
          have HTS := Lib.hid hts
          have MD := Lib.hid (M1r.out.below bd)
          have XD := Lib.hid (XG.out.below bd)
          have VD := Lib.hid (HVN.out.under bd)
          have BD := Lib.hid (below_then HBr.out bd)
          clear hT hwt hu hts E M1r XG HVN HBr WN
          go_wp2_with fail
          refine wp_region_held_drew (S := fun _ => True) (by kernel_rfl) trivial (fun hH => ?_)
          refine wpAnyH_take (i := 1) (v := ?_) rfl (by kernel_rfl) (by kernel_rfl) (by kernel_rfl) (fun _ _ _ h => h) (Or.inl ⟨by rfl, ?_⟩) (by assumption) ?_
          rotate_left
          · (intro w hSw; (try dsimp only at hSw); go_simp; try with_reducible rfl)
          try simp only [Act.put, List.getElem_toArray, List.getElem_cons_zero, List.getElem_cons_succ, List.setIfInBounds_toArray, List.set_cons_zero, List.set_cons_succ]
          refine wpAnyH_take (i := 2) (v := ?_) rfl (by kernel_rfl) (by kernel_rfl) (by kernel_rfl) (fun _ _ _ h => h) (Or.inl ⟨by rfl, ?_⟩) (by assumption) ?_
          rotate_left
          · (intro w hSw; (try dsimp only at hSw); go_simp; try with_reducible rfl)
          try simp only [Act.put, List.getElem_toArray, List.getElem_cons_zero, List.getElem_cons_succ, List.setIfInBounds_toArray, List.set_cons_zero, List.set_cons_succ]
          refine wpAnyH_take (i := 3) (v := ?_) rfl (by kernel_rfl) (by kernel_rfl) (by kernel_rfl) (fun _ _ _ h => h) (Or.inl ⟨by rfl, ?_⟩) (by assumption) ?_
          rotate_left
          · (intro w hSw; (try dsimp only at hSw); go_simp; try with_reducible rfl)
          try simp only [Act.put, List.getElem_toArray, List.getElem_cons_zero, List.getElem_cons_succ, List.setIfInBounds_toArray, List.set_cons_zero, List.set_cons_succ]
          refine wpAnyH_take (i := 4) (v := ?_) rfl (by kernel_rfl) (by kernel_rfl) (by kernel_rfl) (fun _ _ _ h => h) (Or.inl ⟨by rfl, ?_⟩) (by assumption) ?_
          rotate_left
          · (intro w hSw; (try dsimp only at hSw); go_simp; try with_reducible rfl)
          try simp only [Act.put, List.getElem_toArray, List.getElem_cons_zero, List.getElem_cons_succ, List.setIfInBounds_toArray, List.set_cons_zero, List.set_cons_succ]
          refine wpAnyH_ready (rs := [0]) (by kernel_rfl) (by simp) ?_
          refine AllReadyH.cons (o := ⟨some 24, _, _, _, _, _⟩) rfl (fun K hK => ?_) AllReadyH.nil
          have g0 : wr.drew.cell? ⟨g, 0, none⟩ = some (.int .i64 N.kind) := by rw [XD.out.cell]; rfl
          have g1 : wr.drew.cell? ⟨g, 1, none⟩ = some (.slice A5 N.set.length c5) := by rw [XD.out.cell]; rfl
          have g2 : wr.drew.cell? ⟨g, 2, none⟩ = some (.slice K5 N.kids.length k5) := by rw [XD.out.cell]; rfl
          go_simp
          clear g0 g1 g2
          refine hK.out _ _ (trivial) (fun hH => ?_)
          clear hK K
          try simp only [Act.put, List.getElem_toArray, List.getElem_cons_zero, List.getElem_cons_succ, List.setIfInBounds_toArray, List.set_cons_zero, List.set_cons_succ]
          refine wpAnyH_ready (rs := [5]) (by kernel_rfl) (by simp) ?_
          refine AllReadyH.cons (o := ⟨some 29, _, _, _, _, _⟩) rfl (fun K hK => ?_) AllReadyH.nil
          go_simp
          refine (DC.out _ _ wr.drew VD.out.lt (HPW.out.below BD.out)).mono ?_
          rintro e w3 ⟨A3, c3, K3, k3, rfl, hv3, b3⟩
          have HV3 : Hid (RexP w3 (fun z => z ≠ g) T (.int .i64 T.kind) (.slice A3 T.set.length c3) (.slice K3 T.kids.length k3)) := Lib.hid (hv3.mono fun z hz => by
            rcases hz with h | h
            · exact h.1
            · omega)
          replace MD := Lib.hid (MD.out.below b3)
          replace XD := Lib.hid (XD.out.below b3)
          replace BD := Lib.hid (below_then BD.out b3)
          clear hv3 VD
          (try go_wp2_with fail)
          refine hK.out _ _ (trivial) (fun hH => ?_)
          clear hK K
          try simp only [Act.put, List.getElem_toArray, List.getElem_cons_zero, List.getElem_cons_succ, List.setIfInBounds_toArray, List.set_cons_zero, List.set_cons_succ]
          have g0 : w3.cell? ⟨g, 0, none⟩ = some (.int .i64 N.kind) := by rw [XD.out.cell]; rfl
          have g1 : w3.cell? ⟨g, 1, none⟩ = some (.slice A5 N.set.length c5) := by rw [XD.out.cell]; rfl
          have g2 : w3.cell? ⟨g, 2, none⟩ = some (.slice K5 N.kids.length k5) := by rw [XD.out.cell]; rfl
          have f0 : w3.frozen? ⟨g, 0, none⟩ = false := XD.out.free 0
          have f1 : w3.frozen? ⟨g, 1, none⟩ = false := XD.out.free 1
          have f2 : w3.frozen? ⟨g, 2, none⟩ = false := XD.out.free 2
          refine wpAnyH_ready (rs := [6]) (by kernel_rfl) (by simp) ?_
          refine AllReadyH.cons (o := ⟨none, _, _, _, _, _⟩) rfl (fun K hK => ?_) AllReadyH.nil
          go_simp
          obtain ⟨wQ, hwQ⟩ : ∃ z : World, z = ((w3.setCell ⟨g, 0, none⟩ (.int .i64 T.kind)).setCell ⟨g, 1, none⟩ (.slice A3 T.set.length c3)).setCell ⟨g, 2, none⟩ (.slice K3 T.kids.length k3) := ⟨_, rfl⟩
          have XQ : Hid (Blk wQ g #[.int .i64 T.kind, .slice A3 T.set.length c3, .slice K3 T.kids.length k3] TRx) := by rw [hwQ]; exact Lib.hid (put3 rfl XD.out)
          have GQ : Hid (w3.grownBy wQ (some g)) := by rw [hwQ]; exact grown_set (grown_set (grown_set (grown_refl _ _) _ _) _ _) _ _
          rw [← hwQ]
          clear g0 g1 g2 f0 f1 f2 hwQ
          have HVQ : Hid (RexP wQ (fun z => z ≠ g) T (.int .i64 T.kind) (.slice A3 T.set.length c3) (.slice K3 T.kids.length k3)) := Lib.hid (HV3.out.keep fun z hz hl => GQ.out.block z hl fun e => hz (Option.some.inj e))
          have MQ : Hid (Blk wQ (w.heap.size + 1) #[.int .i64 0, nilS, nilS] TRx) := Lib.hid (MD.out.grown GQ.out fun k hk => by have h1 := Option.some.inj hk; have h2 := HG.out; omega)
          have BQ : Hid (Below w.heap.size w wQ) := Lib.hid (BD.out.grown GQ.out BD.out.size fun q hq => by have h1 := Option.some.inj hq; have h2 := HG.out; omega)
          refine hK.out _ _ (trivial) (fun hH => ?_)
          clear hK K
          try simp only [Act.put, List.getElem_toArray, List.getElem_cons_zero, List.getElem_cons_succ, List.setIfInBounds_toArray, List.set_cons_zero, List.set_cons_succ]
          refine wpAnyH_done (by kernel_rfl) ?_ _
          clear MD XD BD HV3 GQ DC hH
          have q0 : wQ.cell? ⟨g, 0, none⟩ = some (.int .i64 T.kind) := by rw [XQ.out.cell]; rfl
          have q1 : wQ.cell? ⟨g, 1, none⟩ = some (.slice A3 T.set.length c3) := by rw [XQ.out.cell]; rfl
          have q2 : wQ.cell? ⟨g, 2, none⟩ = some (.slice K3 T.kids.length k3) := by rw [XQ.out.cell]; rfl
          go_wp2_with fail
          refine (iMany_c T _ _ wQ 0 HVQ.out.rexv HTS.out).mono ?_
          rintro e w8 ⟨rfl, b8⟩
          clear q0 q1 q2
          have M8 := Lib.hid (MQ.out.below b8)
          have B8 := Lib.hid (below_then BQ.out b8)
          have X8 := Lib.hid (XQ.out.below b8)
          have V8 := Lib.hid (HVQ.out.under b8)
          clear b8 MQ BQ XQ HVQ
          by_cases hbig : 120 < T.many
          · have hq : (120 : Int) < (T.many : Int) := by omega
            have E : Hid (derivText t r = noRex) := Lib.hid (E1.out.trans (if_pos hbig))
            (try rw [decide_eq_true hq])
            clear hbig
            go_wp2_with ((with_reducible refine at_st 4 33 ?_); refine ev_store (o := ⟨none, .store _ (.tmp 4) _, _, _, _, _⟩) rfl rfl TRx (.tmp 4) (.tmp 33) rfl (w.heap.size + 1) 0 rfl [.int .i64 0, nilS, nilS] rfl _ TRx M8.out (sizeRx' _ _ _) (by show 0 + 3 ≤ 3; omega) (three_one _ _ _ _ _ _ _) ?_; intro w5 hX5 hg5; have HX5 : Hid (Blk w5 (w.heap.size + 1) ([.int .i64 0, nilS, nilS]).toArray TRx) := hX5; have HG5 := Lib.hid hg5; clear hX5 hg5)
            refine bodyPost_ret (results_cell_row rfl _ _ (w.heap.size + 1) TRx _ (0, 0) _ rfl HX5.out.eq Tryz.underlying26 rfl (by rw [sizeRx]; rfl)) rfl ?_
            rw [E.out]
            exact own_fin (t := noRex) (OwnT.leaf _ 0) List.nodup_nil (fun b hb => absurd hb (List.not_mem_nil)) (Nat.lt_succ_self _) (Nat.le_succ _) B8.out HG5.out
          · have hq : ¬ (120 : Int) < (T.many : Int) := by omega
            have E : Hid (derivText t r = dvLoop T ((bytesI t).drop (j + 1))) := Lib.hid (E1.out.trans (if_neg hbig))
            (try rw [decide_eq_false hq])
            clear E1
            go_wp2_with fail
            go_roundg (gk - 1)
            case measure => omega
            case rel => exact ⟨j + 1, T, A3, c3, K3, k3, by go_num, by omega, X8, V8, ⟨WT.out, by omega⟩, E, M8, B8⟩
        · have hje : j = t.size := by omega
          have E1 : Hid (derivText t r = N) := by show _ = _; rw [E.out, hje, bytesI_end]; rfl
          have i1 : ¬ (j : Int) < (t.size : Int) := by omega
          have q0 : wr.cell? ⟨g, 0, none⟩ = some (.int .i64 N.kind) := by rw [XG.out.cell]; rfl
          have q1 : wr.cell? ⟨g, 1, none⟩ = some (.slice A5 N.set.length c5) := by rw [XG.out.cell]; rfl
          have q2 : wr.cell? ⟨g, 2, none⟩ = some (.slice K5 N.kids.length k5) := by rw [XG.out.cell]; rfl
          have HTS : Hid (N.size ≤ 1073741824) := Lib.hid (Nat.le_trans (size_many (m := 0) WN.out.1 (Nat.le_trans WN.out.2 (by omega))) (by omega))
          have HVr := Lib.hid HVN.out.rexv
          have HZd : Hid (wa.heap.size ≤ wr.heap.size) := by have h1 := HZ.out; show _ ≤ _; omega
          clear hje E
          go_wp2_with (first
            | ((with_reducible refine (iCopy_b N _ _ wr _ HVr.out HTS.out).mono ?_); rintro e w4 hc; obtain ⟨A4, c4, K4, k4, fp4, rfl, ho4, hn4, hf4, b4⟩ := hc.own; rw [← Rex.eta] at ho4; have HO4 := Lib.hid ho4; have HN4 := Lib.hid hn4; have HF4 := Lib.hid hf4; have M1e := Lib.hid (M1r.out.below b4); have HBe := Lib.hid (below_then HBr.out b4); clear ho4 hn4 hf4 b4 hc)
            | ((with_reducible refine at_st 4 35 ?_); refine ev_store (o := ⟨none, .store _ (.tmp 4) _, _, _, _, _⟩) rfl rfl TRx (.tmp 4) (.tmp 35) rfl (w.heap.size + 1) 0 rfl [.int .i64 N.kind, .slice A4 N.set.length c4, .slice K4 N.kids.length k4] rfl _ TRx M1e.out (sizeRx' _ _ _) (by show 0 + 3 ≤ 3; omega) (three_one _ _ _ _ _ _ _) ?_; intro w5 hX5 hg5; have HX5 : Hid (Blk w5 (w.heap.size + 1) ([.int .i64 N.kind, .slice A4 N.set.length c4, .slice K4 N.kids.length k4]).toArray TRx) := hX5; have HG5 := Lib.hid hg5; clear hX5 hg5)
            | fail)
          refine bodyPost_ret (results_cell_row rfl _ _ (w.heap.size + 1) TRx _ (0, 0) _ rfl HX5.out.eq Tryz.underlying26 rfl (by rw [sizeRx]; rfl)) rfl ?_
          rw [E1.out]
          exact own_fin HO4.out HN4.out HF4.out (by have h1 := HZ.out; have h2 := HZd.out; omega) (Nat.le_succ _) HBe.out HG5.out
    · have hx : decide ((t.size : Int) ≤ 12) = false := decide_eq_false (by omega)
      have IN : Hid (∀ W : World, Calls Tryz.prog 81 #[.string t] W fun e w' => e = .returned (.bool false) ∧ W = w') := fun W => by have := iWord_d t W; rw [hx] at this; exact this
      have E : Hid (derivText t r = noRex) := by show _ = _; unfold derivText; rw [if_neg (fun h => ht h.2)]
      clear hf n0 n1 n2 hx
      go_wp2_with (first
        | ((with_reducible refine (IN.out _).mono ?_); rintro e wi ⟨rfl, rfl⟩)
        | ((with_reducible refine at_st 4 15 ?_); refine ev_store (o := ⟨none, .store _ (.tmp 4) _, _, _, _, _⟩) rfl rfl TRx (.tmp 4) (.tmp 15) rfl (w.heap.size + 1) 0 rfl [.int .i64 0, nilS, nilS] rfl _ TRx M1a.out (sizeRx' _ _ _) (by show 0 + 3 ≤ 3; omega) (three_one _ _ _ _ _ _ _) ?_; intro w5 hX5 hg5; have HX5 : Hid (Blk w5 (w.heap.size + 1) ([.int .i64 0, nilS, nilS]).toArray TRx) := hX5; have HG5 := Lib.hid hg5; clear hX5 hg5)
        | fail)
      refine bodyPost_ret (results_cell_row rfl _ _ (w.heap.size + 1) TRx _ (0, 0) _ rfl HX5.out.eq Tryz.underlying26 rfl (by rw [sizeRx]; rfl)) rfl ?_
      rw [E.out]
      exact own_fin (t := noRex) (OwnT.leaf _ 0) List.nodup_nil (fun b hb => absurd hb (List.not_mem_nil)) (Nat.lt_succ_self _) (Nat.le_succ _) HBa.out HG5.out
  · have E : Hid (derivText t r = noRex) := by show _ = _; unfold derivText; rw [if_neg (fun h => hf h.1)]
    have HFO : Hid (rexOk r = false) := by show _ = _; simpa using hf
    rw [HFO.out]
    clear hf n0 n1 n2
    go_wp2_with ((with_reducible refine at_st 4 15 ?_); refine ev_store (o := ⟨none, .store _ (.tmp 4) _, _, _, _, _⟩) rfl rfl TRx (.tmp 4) (.tmp 15) rfl (w.heap.size + 1) 0 rfl [.int .i64 0, nilS, nilS] rfl _ TRx M1a.out (sizeRx' _ _ _) (by show 0 + 3 ≤ 3; omega) (three_one _ _ _ _ _ _ _) ?_; intro w5 hX5 hg5; have HX5 : Hid (Blk w5 (w.heap.size + 1) ([.int .i64 0, nilS, nilS]).toArray TRx) := hX5; have HG5 := Lib.hid hg5; clear hX5 hg5)
    refine bodyPost_ret (results_cell_row rfl _ _ (w.heap.size + 1) TRx _ (0, 0) _ rfl HX5.out.eq Tryz.underlying26 rfl (by rw [sizeRx]; rfl)) rfl ?_
    rw [E.out]
    exact own_fin (t := noRex) (OwnT.leaf _ 0) List.nodup_nil (fun b hb => absurd hb (List.not_mem_nil)) (Nat.lt_succ_self _) (Nat.le_succ _) HBa.out HG5.out
set_option maxHeartbeats 4000000 in
theorem sDerivText_c (r : Rex) (v1 v2 : Value) (t : ByteArray) (w : World) (lo : Nat) (h : RexV w lo r (.int .i64 r.kind) v1 v2) (hsz : r.size ≤ 1048576) (hpw : Pow10 w) :
    Calls Tryz.prog 28 #[.agg #[.int .i64 r.kind, v1, v2], .string t] w (CopyPost (derivText t r).kind (derivText t r).set (derivText t r).kids w) := by
  obtain ⟨A, c, K, ck, _, rfl, rfl, _, _⟩ := h.parts
  obtain ⟨wa, hwa⟩ : ∃ x, x = (w.alloc (.cells #[.int .i64 r.kind, .slice A r.set.length c, .slice K r.kids.length ck] TRx)).alloc (.cells #[.int .i64 0, nilS, nilS] TRx) := ⟨_, rfl⟩
  have hb : Below w.heap.size w wa := by rw [hwa]; exact below_alloc (below_alloc (Below.refl _ _) _) _
  have m0 : Blk wa w.heap.size #[.int .i64 r.kind, .slice A r.set.length c, .slice K r.kids.length ck] TRx := by rw [hwa]; exact (blk_new w _ _).alloc _
  have m1 : Blk wa (w.heap.size + 1) #[.int .i64 0, nilS, nilS] TRx := by
    rw [hwa]
    have := blk_new (w.alloc (.cells #[.int .i64 r.kind, .slice A r.set.length c, .slice K r.kids.length ck] TRx)) #[.int .i64 0, nilS, nilS] TRx
    simpa using this
  have hz1 : wa.heap.size = w.heap.size + 2 := by rw [hwa]; simp
  have HZ := Lib.hid hz1
  clear hz1
  replace hwa := hwa.symm
  have HV := Lib.hid (h.under hb)
  have HB := Lib.hid hb
  have M0 := Lib.hid m0
  have M1 := Lib.hid m1
  have n0 : wa.cell? ⟨w.heap.size, 0, none⟩ = some (.int .i64 r.kind) := by rw [m0.cell]; rfl
  have n1 : wa.cell? ⟨w.heap.size, 1, none⟩ = some (.slice A r.set.length c) := by rw [m0.cell]; rfl
  have n2 : wa.cell? ⟨w.heap.size, 2, none⟩ = some (.slice K r.kids.length ck) := by rw [m0.cell]; rfl
  clear hb m0 m1 h
  have HPW := Lib.hid hpw
  clear hpw
  go_enter Tryz.func28, Tryz.ntmps28
  go_wp2_with fail
  clear hwa
  refine (sRexOk_c _ _ _ _ _ HV.out hsz).mono ?_
  rintro e w1 ⟨rfl, b1⟩
  have M1a := Lib.hid (M1.out.below b1)
  have M0a := Lib.hid (M0.out.below b1)
  have HBa := Lib.hid (below_then HB.out b1)
  clear n0 n1 n2
  have n0 : w1.cell? ⟨w.heap.size, 0, none⟩ = some (.int .i64 r.kind) := by rw [M0a.out.cell]; rfl
  have n1 : w1.cell? ⟨w.heap.size, 1, none⟩ = some (.slice A r.set.length c) := by rw [M0a.out.cell]; rfl
  have n2 : w1.cell? ⟨w.heap.size, 2, none⟩ = some (.slice K r.kids.length ck) := by rw [M0a.out.cell]; rfl
  have HVa := Lib.hid (HV.out.under b1)
  have HZa := Lib.hid b1.size
  clear b1
  by_cases hf : rexOk r = true
  · rw [hf]
    by_cases ht : t.size ≤ 12
    · have hx : decide ((t.size : Int) ≤ 12) = true := decide_eq_true (by omega)
      have IN : Hid (∀ W : World, Calls Tryz.prog 79 #[.string t] W fun e w' => e = .returned (.bool true) ∧ W = w') := fun W => by have := sWord_d t W; rw [hx] at this; exact this
      have E0 : Hid (derivText t r = dvLoop (nrm r) ((bytesI t).drop 0)) := by show _ = _; unfold derivText; rw [if_pos ⟨hf, ht⟩]; rfl
      have hdo : rexOk r = true := hf
      obtain ⟨hwf, hmn⟩ := rexOk_wf hf
      obtain ⟨hwn, hmn2⟩ := nrm_120 hf
      have HMN : r.many ≤ 8000 := by omega
      have HWF := Lib.hid hwf
      have IC : Hid (∀ (w' : World) (a1 a2 : Value), RexV w' 0 r (.int .i64 r.kind) a1 a2 → Below w.heap.size w w' → Calls Tryz.prog 62 #[.agg #[.int .i64 r.kind, a1, a2]] w' (RexPost (fun b => b < w'.heap.size) (nrm r) w')) := fun w' a1 a2 hv hb => sNorm_c r _ _ w' _ HWF.out hv.rexp (fun b h => h) HMN (HPW.out.below hb)
      obtain ⟨N, hN⟩ : ∃ z, z = nrm r := ⟨_, rfl⟩
      rw [← hN] at hwn hmn2 IC E0
      have E := E0
      have WMN : Hid (wf N ∧ N.many ≤ 120) := ⟨hwn, hmn2⟩
      clear hf hN hwf hmn hwn hmn2 hdo E0 hx
      go_wp2_with (first
        | ((with_reducible refine (IN.out _).mono ?_); rintro e wi ⟨rfl, rfl⟩)
        | fail)
      refine (sCopy_c r _ _ _ _ HVa.out (by omega)).mono ?_
      rintro e w2 hc
      obtain ⟨A2, c2, K2, k2, fp2, rfl, ho2, _, hf2, b2⟩ := hc.own
      rw [← Rex.eta] at ho2
      have HO2 := Lib.hid ho2.rex0
      have M1c := Lib.hid (M1a.out.below b2)
      have HBc := Lib.hid (below_then HBa.out b2)
      have HZc := Lib.hid (Nat.le_trans HZa.out b2.size)
      clear ho2 hf2 b2 hc n0 n1 n2
      go_wp2_with (first
        | (((with_reducible refine (IC.out w2 _ _ HO2.out HBc.out).mono ?_); rintro e wn ⟨An, cn, Kn, kn, rfl, hvn, bn⟩; have HVN := Lib.hid hvn.rexv; have M1n := Lib.hid (M1c.out.below bn); have HBn := Lib.hid (below_then HBc.out bn); have HZn := Lib.hid (Nat.le_trans HZc.out bn.size); clear hvn bn))
        | fail)
      have M1g0 := Lib.hid M1n.out
      obtain ⟨wb, hwb⟩ : ∃ z, z = wn.alloc (.cells #[.int .i64 N.kind, .slice An N.set.length cn, .slice Kn N.kids.length kn] TRx) := ⟨_, rfl⟩
      have bb : Below wn.heap.size wn wb := by rw [hwb]; exact below_alloc (Below.refl _ _) _
      have xg : Blk wb wn.heap.size #[.int .i64 N.kind, .slice An N.set.length cn, .slice Kn N.kids.length kn] TRx := by rw [hwb]; exact blk_new _ _ _
      obtain ⟨g, hg⟩ : ∃ z, z = wn.heap.size := ⟨_, rfl⟩
      have hvg : RexP wb (fun z => z ≠ g) N (.int .i64 N.kind) (.slice An N.set.length cn) (.slice Kn N.kids.length kn) := (HVN.out.rexp.under bb).mono fun z hz => by omega
      have HG : Hid (w.heap.size + 2 ≤ g) := by have h1 := HZ.out; have h2 := HZn.out; show _ ≤ _; omega
      rw [← hg] at xg
      have XG := Lib.hid xg
      have HVG := Lib.hid hvg
      have M1g := Lib.hid (M1n.out.below bb)
      have HBg := Lib.hid (below_then HBn.out bb)
      replace hwb := hwb.symm
      replace hg := hg.symm
      clear xg hvg bb M1g0 HVN HBn M1n HZn
      rw [hwb, hg]
      clear hwb hg
      go_loopg [6] t.size (fun q v6 wr => ∃ (j : Nat) (N : Rex) (A : Option Addr) (c : Nat) (K : Option Addr) (k : Nat), v6 = .int .i64 (j : Int) ∧ q + j = t.size ∧ Hid (Blk wr g #[.int .i64 N.kind, .slice A N.set.length c, .slice K N.kids.length k] TRx) ∧ Hid (RexP wr (fun z => z ≠ g) N (.int .i64 N.kind) (.slice A N.set.length c) (.slice K N.kids.length k)) ∧ Hid (wf N ∧ N.many ≤ 120) ∧ Hid (derivText t r = dvLoop N ((bytesI t).drop j)) ∧ Hid (Blk wr (w.heap.size + 1) #[.int .i64 0, nilS, nilS] TRx) ∧ Hid (Below w.heap.size w wr))
      case atStart => exact ⟨0, N, An, cn, Kn, kn, rfl, by omega, XG, HVG, WMN, E, M1g, HBg⟩
      case round =>
        clear E XG HVG WMN M1g HBg
        obtain ⟨j, N, A5, c5, K5, k5, rfl, hqj, XG, HVN, WN, E, M1r, HBr⟩ := hrel
        have hgr := XG.out.lt
        have hr1 := M1r.out.lt
        by_cases hlt : j < t.size
        · have i0 : (0 : Int) ≤ (j : Int) := by omega
          have i1 : (j : Int) < (t.size : Int) := by omega
          obtain ⟨u, hu⟩ : ∃ u, u = t[j] := ⟨_, rfl⟩
          have e2 : IntKind.i64.wrap (t[j].toNat : Int) = (t[j].toNat : Int) := IntWalk.i64_in _ (by have := t[j].toNat_lt; omega)
          have E1 : Hid (derivText t r = if 120 < (dv (t[j].toNat : Nat) N).many then noRex else dvLoop (dv (t[j].toNat : Nat) N) ((bytesI t).drop (j + 1))) := by
            show _ = _
            rw [E.out, bytesI_drop hlt, dvLoop]
          have hts := dv_size (t[j].toNat : Nat) WN.out.1 WN.out.2
          have DC := fun (u1 u2 : Value) (W : World) h1 h2 => sDeriv_c N (t[j].toNat : Nat) u1 u2 W (fun z => z ≠ g ∧ z < W.heap.size) WN.out.1 h1 (fun b h => h.2) WN.out.2 h2
          have hwt := (dv_fit (t[j].toNat : Nat) N WN.out.1).wf
          obtain ⟨T, hT⟩ : ∃ z, z = dv (t[j].toNat : Nat) N := ⟨_, rfl⟩
          rw [← hT] at hts E1 DC hwt
          replace DC := Lib.hid DC
          have WT := Lib.hid hwt
          have bd := below_drew (Below.refl wr.heap.size wr)
          have hdz := bd.size
          have HTS := Lib.hid hts
          have MD := Lib.hid (M1r.out.below bd)
          have XD := Lib.hid (XG.out.below bd)
          have VD := Lib.hid (HVN.out.under bd)
          have BD := Lib.hid (below_then HBr.out bd)
          clear hT hwt hu hts E M1r XG HVN HBr WN
          go_wp2_with fail
          refine wp_region_held_drew (S := fun _ => True) (by kernel_rfl) trivial (fun hH => ?_)
          refine wpAnyH_take (i := 1) (v := ?_) rfl (by kernel_rfl) (by kernel_rfl) (by kernel_rfl) (fun _ _ _ h => h) (Or.inl ⟨by rfl, ?_⟩) (by assumption) ?_
          rotate_left
          · (intro w hSw; (try dsimp only at hSw); go_simp; try with_reducible rfl)
          try simp only [Act.put, List.getElem_toArray, List.getElem_cons_zero, List.getElem_cons_succ, List.setIfInBounds_toArray, List.set_cons_zero, List.set_cons_succ]
          refine wpAnyH_take (i := 2) (v := ?_) rfl (by kernel_rfl) (by kernel_rfl) (by kernel_rfl) (fun _ _ _ h => h) (Or.inl ⟨by rfl, ?_⟩) (by assumption) ?_
          rotate_left
          · (intro w hSw; (try dsimp only at hSw); go_simp; try with_reducible rfl)
          try simp only [Act.put, List.getElem_toArray, List.getElem_cons_zero, List.getElem_cons_succ, List.setIfInBounds_toArray, List.set_cons_zero, List.set_cons_succ]
          refine wpAnyH_take (i := 3) (v := ?_) rfl (by kernel_rfl) (by kernel_rfl) (by kernel_rfl) (fun _ _ _ h => h) (Or.inl ⟨by rfl, ?_⟩) (by assumption) ?_
          rotate_left
          · (intro w hSw; (try dsimp only at hSw); go_simp; try with_reducible rfl)
          try simp only [Act.put, List.getElem_toArray, List.getElem_cons_zero, List.getElem_cons_succ, List.setIfInBounds_toArray, List.set_cons_zero, List.set_cons_succ]
          refine wpAnyH_take (i := 4) (v := ?_) rfl (by kernel_rfl) (by kernel_rfl) (by kernel_rfl) (fun _ _ _ h => h) (Or.inl ⟨by rfl, ?_⟩) (by assumption) ?_
          rotate_left
          · (intro w hSw; (try dsimp only at hSw); go_simp; try with_reducible rfl)
          try simp only [Act.put, List.getElem_toArray, List.getElem_cons_zero, List.getElem_cons_succ, List.setIfInBounds_toArray, List.set_cons_zero, List.set_cons_succ]
          refine wpAnyH_ready (rs := [0]) (by kernel_rfl) (by simp) ?_
          refine AllReadyH.cons (o := ⟨some 25, _, _, _, _, _⟩) rfl (fun K hK => ?_) AllReadyH.nil
          have g0 : wr.drew.cell? ⟨g, 0, none⟩ = some (.int .i64 N.kind) := by rw [XD.out.cell]; rfl
          have g1 : wr.drew.cell? ⟨g, 1, none⟩ = some (.slice A5 N.set.length c5) := by rw [XD.out.cell]; rfl
          have g2 : wr.drew.cell? ⟨g, 2, none⟩ = some (.slice K5 N.kids.length k5) := by rw [XD.out.cell]; rfl
          go_simp
          clear g0 g1 g2
          refine hK.out _ _ (trivial) (fun hH => ?_)
          clear hK K
          try simp only [Act.put, List.getElem_toArray, List.getElem_cons_zero, List.getElem_cons_succ, List.setIfInBounds_toArray, List.set_cons_zero, List.set_cons_succ]
          refine wpAnyH_ready (rs := [5]) (by kernel_rfl) (by simp) ?_
          refine AllReadyH.cons (o := ⟨some 30, _, _, _, _, _⟩) rfl (fun K hK => ?_) AllReadyH.nil
          go_simp
          refine (DC.out _ _ wr.drew VD.out.lt (HPW.out.below BD.out)).mono ?_
          rintro e w3 ⟨A3, c3, K3, k3, rfl, hv3, b3⟩
          have HV3 : Hid (RexP w3 (fun z => z ≠ g) T (.int .i64 T.kind) (.slice A3 T.set.length c3) (.slice K3 T.kids.length k3)) := Lib.hid (hv3.mono fun z hz => by
            rcases hz with h | h
            · exact h.1
            · omega)
          replace MD := Lib.hid (MD.out.below b3)
          replace XD := Lib.hid (XD.out.below b3)
          replace BD := Lib.hid (below_then BD.out b3)
          clear hv3 VD
          (try go_wp2_with fail)
          refine hK.out _ _ (trivial) (fun hH => ?_)
          clear hK K
          try simp only [Act.put, List.getElem_toArray, List.getElem_cons_zero, List.getElem_cons_succ, List.setIfInBounds_toArray, List.set_cons_zero, List.set_cons_succ]
          have g0 : w3.cell? ⟨g, 0, none⟩ = some (.int .i64 N.kind) := by rw [XD.out.cell]; rfl
          have g1 : w3.cell? ⟨g, 1, none⟩ = some (.slice A5 N.set.length c5) := by rw [XD.out.cell]; rfl
          have g2 : w3.cell? ⟨g, 2, none⟩ = some (.slice K5 N.kids.length k5) := by rw [XD.out.cell]; rfl
          have f0 : w3.frozen? ⟨g, 0, none⟩ = false := XD.out.free 0
          have f1 : w3.frozen? ⟨g, 1, none⟩ = false := XD.out.free 1
          have f2 : w3.frozen? ⟨g, 2, none⟩ = false := XD.out.free 2
          refine wpAnyH_ready (rs := [6]) (by kernel_rfl) (by simp) ?_
          refine AllReadyH.cons (o := ⟨none, _, _, _, _, _⟩) rfl (fun K hK => ?_) AllReadyH.nil
          go_simp
          obtain ⟨wQ, hwQ⟩ : ∃ z : World, z = ((w3.setCell ⟨g, 0, none⟩ (.int .i64 T.kind)).setCell ⟨g, 1, none⟩ (.slice A3 T.set.length c3)).setCell ⟨g, 2, none⟩ (.slice K3 T.kids.length k3) := ⟨_, rfl⟩
          have XQ : Hid (Blk wQ g #[.int .i64 T.kind, .slice A3 T.set.length c3, .slice K3 T.kids.length k3] TRx) := by rw [hwQ]; exact Lib.hid (put3 rfl XD.out)
          have GQ : Hid (w3.grownBy wQ (some g)) := by rw [hwQ]; exact grown_set (grown_set (grown_set (grown_refl _ _) _ _) _ _) _ _
          rw [← hwQ]
          clear g0 g1 g2 f0 f1 f2 hwQ
          have HVQ : Hid (RexP wQ (fun z => z ≠ g) T (.int .i64 T.kind) (.slice A3 T.set.length c3) (.slice K3 T.kids.length k3)) := Lib.hid (HV3.out.keep fun z hz hl => GQ.out.block z hl fun e => hz (Option.some.inj e))
          have MQ : Hid (Blk wQ (w.heap.size + 1) #[.int .i64 0, nilS, nilS] TRx) := Lib.hid (MD.out.grown GQ.out fun k hk => by have h1 := Option.some.inj hk; have h2 := HG.out; omega)
          have BQ : Hid (Below w.heap.size w wQ) := Lib.hid (BD.out.grown GQ.out BD.out.size fun q hq => by have h1 := Option.some.inj hq; have h2 := HG.out; omega)
          refine hK.out _ _ (trivial) (fun hH => ?_)
          clear hK K
          try simp only [Act.put, List.getElem_toArray, List.getElem_cons_zero, List.getElem_cons_succ, List.setIfInBounds_toArray, List.set_cons_zero, List.set_cons_succ]
          refine wpAnyH_done (by kernel_rfl) ?_ _
          clear MD XD BD HV3 GQ DC hH
          have q0 : wQ.cell? ⟨g, 0, none⟩ = some (.int .i64 T.kind) := by rw [XQ.out.cell]; rfl
          have q1 : wQ.cell? ⟨g, 1, none⟩ = some (.slice A3 T.set.length c3) := by rw [XQ.out.cell]; rfl
          have q2 : wQ.cell? ⟨g, 2, none⟩ = some (.slice K3 T.kids.length k3) := by rw [XQ.out.cell]; rfl
          go_wp2_with fail
          refine (sBig_c T _ _ wQ  HVQ.out.rexv HTS.out).mono ?_
          rintro e w8 ⟨rfl, b8⟩
          clear q0 q1 q2
          have M8 := Lib.hid (MQ.out.below b8)
          have B8 := Lib.hid (below_then BQ.out b8)
          have X8 := Lib.hid (XQ.out.below b8)
          have V8 := Lib.hid (HVQ.out.under b8)
          clear b8 MQ BQ XQ HVQ
          by_cases hbig : 120 < T.many
          · have hq : (120 : Int) < (T.many : Int) := by omega
            have E : Hid (derivText t r = noRex) := Lib.hid (E1.out.trans (if_pos hbig))
            (try rw [decide_eq_true hq])
            clear hbig
            go_wp2_with ((with_reducible refine at_st 4 33 ?_); refine ev_store (o := ⟨none, .store _ (.tmp 4) _, _, _, _, _⟩) rfl rfl TRx (.tmp 4) (.tmp 33) rfl (w.heap.size + 1) 0 rfl [.int .i64 0, nilS, nilS] rfl _ TRx M8.out (sizeRx' _ _ _) (by show 0 + 3 ≤ 3; omega) (three_one _ _ _ _ _ _ _) ?_; intro w5 hX5 hg5; have HX5 : Hid (Blk w5 (w.heap.size + 1) ([.int .i64 0, nilS, nilS]).toArray TRx) := hX5; have HG5 := Lib.hid hg5; clear hX5 hg5)
            refine bodyPost_ret (results_cell_row rfl _ _ (w.heap.size + 1) TRx _ (0, 0) _ rfl HX5.out.eq Tryz.underlying26 rfl (by rw [sizeRx]; rfl)) rfl ?_
            rw [E.out]
            exact own_fin (t := noRex) (OwnT.leaf _ 0) List.nodup_nil (fun b hb => absurd hb (List.not_mem_nil)) (Nat.lt_succ_self _) (Nat.le_succ _) B8.out HG5.out
          · have hq : ¬ (120 : Int) < (T.many : Int) := by omega
            have E : Hid (derivText t r = dvLoop T ((bytesI t).drop (j + 1))) := Lib.hid (E1.out.trans (if_neg hbig))
            (try rw [decide_eq_false hq])
            clear E1
            go_wp2_with fail
            go_roundg (gk - 1)
            case measure => omega
            case rel => exact ⟨j + 1, T, A3, c3, K3, k3, by go_num, by omega, X8, V8, ⟨WT.out, by omega⟩, E, M8, B8⟩
        · have hje : j = t.size := by omega
          have E1 : Hid (derivText t r = N) := by show _ = _; rw [E.out, hje, bytesI_end]; rfl
          have i1 : ¬ (j : Int) < (t.size : Int) := by omega
          have q0 : wr.cell? ⟨g, 0, none⟩ = some (.int .i64 N.kind) := by rw [XG.out.cell]; rfl
          have q1 : wr.cell? ⟨g, 1, none⟩ = some (.slice A5 N.set.length c5) := by rw [XG.out.cell]; rfl
          have q2 : wr.cell? ⟨g, 2, none⟩ = some (.slice K5 N.kids.length k5) := by rw [XG.out.cell]; rfl
          have HTS : Hid (N.size ≤ 1073741824) := Lib.hid (Nat.le_trans (size_many (m := 0) WN.out.1 (Nat.le_trans WN.out.2 (by omega))) (by omega))
          have HVr := Lib.hid HVN.out.rexv
          have HZd : Hid (wa.heap.size ≤ wr.heap.size) := by have h1 := HZ.out; show _ ≤ _; omega
          clear hje E
          go_wp2_with (first
            | ((with_reducible refine (sCopy_b N _ _ wr _ HVr.out HTS.out).mono ?_); rintro e w4 hc; obtain ⟨A4, c4, K4, k4, fp4, rfl, ho4, hn4, hf4, b4⟩ := hc.own; rw [← Rex.eta] at ho4; have HO4 := Lib.hid ho4; have HN4 := Lib.hid hn4; have HF4 := Lib.hid hf4; have M1e := Lib.hid (M1r.out.below b4); have HBe := Lib.hid (below_then HBr.out b4); clear ho4 hn4 hf4 b4 hc)
            | ((with_reducible refine at_st 4 35 ?_); refine ev_store (o := ⟨none, .store _ (.tmp 4) _, _, _, _, _⟩) rfl rfl TRx (.tmp 4) (.tmp 35) rfl (w.heap.size + 1) 0 rfl [.int .i64 N.kind, .slice A4 N.set.length c4, .slice K4 N.kids.length k4] rfl _ TRx M1e.out (sizeRx' _ _ _) (by show 0 + 3 ≤ 3; omega) (three_one _ _ _ _ _ _ _) ?_; intro w5 hX5 hg5; have HX5 : Hid (Blk w5 (w.heap.size + 1) ([.int .i64 N.kind, .slice A4 N.set.length c4, .slice K4 N.kids.length k4]).toArray TRx) := hX5; have HG5 := Lib.hid hg5; clear hX5 hg5)
            | fail)
          refine bodyPost_ret (results_cell_row rfl _ _ (w.heap.size + 1) TRx _ (0, 0) _ rfl HX5.out.eq Tryz.underlying26 rfl (by rw [sizeRx]; rfl)) rfl ?_
          rw [E1.out]
          exact own_fin HO4.out HN4.out HF4.out (by have h1 := HZ.out; have h2 := HZd.out; omega) (Nat.le_succ _) HBe.out HG5.out
    · have hx : decide ((t.size : Int) ≤ 12) = false := decide_eq_false (by omega)
      have IN : Hid (∀ W : World, Calls Tryz.prog 79 #[.string t] W fun e w' => e = .returned (.bool false) ∧ W = w') := fun W => by have := sWord_d t W; rw [hx] at this; exact this
      have E : Hid (derivText t r = noRex) := by show _ = _; unfold derivText; rw [if_neg (fun h => ht h.2)]
      clear hf n0 n1 n2 hx
      go_wp2_with (first
        | ((with_reducible refine (IN.out _).mono ?_); rintro e wi ⟨rfl, rfl⟩)
        | ((with_reducible refine at_st 4 15 ?_); refine ev_store (o := ⟨none, .store _ (.tmp 4) _, _, _, _, _⟩) rfl rfl TRx (.tmp 4) (.tmp 15) rfl (w.heap.size + 1) 0 rfl [.int .i64 0, nilS, nilS] rfl _ TRx M1a.out (sizeRx' _ _ _) (by show 0 + 3 ≤ 3; omega) (three_one _ _ _ _ _ _ _) ?_; intro w5 hX5 hg5; have HX5 : Hid (Blk w5 (w.heap.size + 1) ([.int .i64 0, nilS, nilS]).toArray TRx) := hX5; have HG5 := Lib.hid hg5; clear hX5 hg5)
        | fail)
      refine bodyPost_ret (results_cell_row rfl _ _ (w.heap.size + 1) TRx _ (0, 0) _ rfl HX5.out.eq Tryz.underlying26 rfl (by rw [sizeRx]; rfl)) rfl ?_
      rw [E.out]
      exact own_fin (t := noRex) (OwnT.leaf _ 0) List.nodup_nil (fun b hb => absurd hb (List.not_mem_nil)) (Nat.lt_succ_self _) (Nat.le_succ _) HBa.out HG5.out
  · have E : Hid (derivText t r = noRex) := by show _ = _; unfold derivText; rw [if_neg (fun h => hf h.1)]
    have HFO : Hid (rexOk r = false) := by show _ = _; simpa using hf
    rw [HFO.out]
    clear hf n0 n1 n2
    go_wp2_with ((with_reducible refine at_st 4 15 ?_); refine ev_store (o := ⟨none, .store _ (.tmp 4) _, _, _, _, _⟩) rfl rfl TRx (.tmp 4) (.tmp 15) rfl (w.heap.size + 1) 0 rfl [.int .i64 0, nilS, nilS] rfl _ TRx M1a.out (sizeRx' _ _ _) (by show 0 + 3 ≤ 3; omega) (three_one _ _ _ _ _ _ _) ?_; intro w5 hX5 hg5; have HX5 : Hid (Blk w5 (w.heap.size + 1) ([.int .i64 0, nilS, nilS]).toArray TRx) := hX5; have HG5 := Lib.hid hg5; clear hX5 hg5)
    refine bodyPost_ret (results_cell_row rfl _ _ (w.heap.size + 1) TRx _ (0, 0) _ rfl HX5.out.eq Tryz.underlying26 rfl (by rw [sizeRx]; rfl)) rfl ?_
    rw [E.out]
    exact own_fin (t := noRex) (OwnT.leaf _ 0) List.nodup_nil (fun b hb => absurd hb (List.not_mem_nil)) (Nat.lt_succ_self _) (Nat.le_succ _) HBa.out HG5.out
end Go.Proofs.YtfeidjjabjejiaaGreatDoor
