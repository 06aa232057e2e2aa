/- Copies of the laws' trees: toRex, toRexS. -/
import Derived.Test.YtbpinokbpdjmhaaT1
import Derived.Test.YtbpinokbpdjmhaaW3
import Derived.Test.YtbpinokbpdjmhaaBlk
namespace Go.Proofs.Ytbpinokbpdjmhaa
set_option linter.unusedSimpArgs false
set_option linter.unusedVariables false
open Go.RowKit

abbrev TRx : Nat := 31
abbrev nilS : Value := .slice none 0 0
theorem infoRx : (Try.prog.info? TRx).map (fun i => (i.zero, i.size, i.bytes)) = some (some (.agg #[.int .i64 0, nilS, nilS]), 3, 56) := by kernel_rfl
theorem add0 (g j : Nat) : (⟨g, 0, none⟩ : Addr).add j = ⟨g, j, none⟩ := by unfold Addr.add; split <;> simp_all
theorem size_kid {ks : List Rex} {r : Rex} (h : r ∈ ks) : r.size ≤ sizeL ks := by
  induction ks with
  | nil => cases h
  | cons x xs ih =>
    rw [sizeL]
    rcases List.mem_cons.1 h with rfl | h
    · omega
    · have := ih h; omega

theorem sizeRx : (Try.prog.info? TRx).map (·.size) = some 3 := by kernel_rfl
theorem sizeRx' (a b c : Value) : (Try.prog.info? TRx).map (·.size) = some [a, b, c].length := sizeRx
theorem RexV.one {w : World} {lo : Nat} {r : Rex} {v0 v1 v2 : Value} (h : RexV w lo r v0 v1 v2) : ∀ u ∈ [v0, v1, v2], u.oneCell' = true := by
  obtain ⟨A, c, K, ck, rfl, rfl, rfl, _⟩ := h.parts
  intro u hu
  simp at hu
  rcases hu with rfl | rfl | rfl <;> rfl
theorem splice3 (l : List Value) (a b c : Value) (k : Nat) (h : k * 3 + 2 < l.length) :
    (l.take (k * 3) ++ [a, b, c] ++ l.drop (k * 3 + 3))[k * 3]? = some a ∧ (l.take (k * 3) ++ [a, b, c] ++ l.drop (k * 3 + 3))[k * 3 + 1]? = some b ∧ (l.take (k * 3) ++ [a, b, c] ++ l.drop (k * 3 + 3))[k * 3 + 2]? = some c ∧
      (∀ i, i < k * 3 → (l.take (k * 3) ++ [a, b, c] ++ l.drop (k * 3 + 3))[i]? = l[i]?) ∧ (l.take (k * 3) ++ [a, b, c] ++ l.drop (k * 3 + 3)).length = l.length := by
  have e : (l.take (k * 3)).length = k * 3 := by rw [List.length_take]; omega
  refine ⟨?_, ?_, ?_, fun i hi => ?_, ?_⟩
  · rw [List.append_assoc, List.getElem?_append_right (by omega), e]; simp
  · rw [List.append_assoc, List.getElem?_append_right (by omega), e, show k * 3 + 1 - k * 3 = 1 by omega]; simp
  · rw [List.append_assoc, List.getElem?_append_right (by omega), e, show k * 3 + 2 - k * 3 = 2 by omega]; simp
  · rw [List.append_assoc, List.getElem?_append_left (by omega), List.getElem?_take, if_pos hi]
  · simp only [List.length_append, e, List.length_drop, List.length_cons, List.length_nil]; omega

def ToOk (r : Rex) : Prop := ∀ (v1 v2 : Value) (w : World) (lo : Nat), RexV w lo r (.int .i64 r.kind) v1 v2 → r.size ≤ 1048576 →
  Calls Try.prog 12 #[.agg #[.int .i64 r.kind, v1, v2]] w fun e w' => ∃ u1 u2, e = .returned (.agg #[.int .i64 r.kind, u1, u2]) ∧ RexV w' w.heap.size r (.int .i64 r.kind) u1 u2 ∧ Below w.heap.size w w'

set_option maxHeartbeats 2000000 in
theorem toRexS_of (ks : List Rex) (ih : ∀ r, r ∈ ks → ToOk r) (K : Option Addr) (ck : Nat) (w : World) (lo : Nat) (h : Kids w lo K ck ks) (hsz : ks.length + sizeL ks ≤ 1048576) :
    Calls Try.prog 36 #[.slice K ks.length ck] w fun e w' => ∃ K' ck', e = .returned (.slice K' ks.length ck') ∧ Kids w' w.heap.size K' ck' ks ∧ Below w.heap.size w w' := by
  obtain ⟨i0, hi, hz0, hz1, hz2⟩ := info_parts infoRx
  have hlen : ks.length ≤ 1048576 := by omega
  go_enter Try.func36, Try.ntmps36
  go_wp2_with (at_make; refine wpList_make_full _ rfl (.tmp 6) (.tmp 6) 29 rfl w.heap.size TRx i0 (.agg #[.int .i64 0, nilS, nilS]) 3 Try.underlying29 hi hz0 hz1 .i64 .i64 _ _ ks.length rfl rfl rfl rfl (by rw [hz2]; omega) (by unfold maxLen; omega) (Nat.le_refl _) ?_; intro w1 hown hgrow)
  obtain ⟨cur, hB, hcs, _⟩ := own_blk hown
  have HX := Lib.hid hB
  have HC := Lib.hid hcs
  have HB := Lib.hid ((Below.refl _ w).grown hgrow (Nat.le_refl _) (fun k hk => by cases hk))
  clear hown hgrow hi hz0 hz1 hz2 hB hcs
  go_loopg [4] (ks.length) (fun n i wr => ∃ k : Nat, k + n = ks.length ∧ i = .int .i64 k ∧ ∃ (cur : Array Value) (V0 V1 V2 : Nat → Value), Hid (Blk wr w.heap.size cur TRx) ∧ Hid (cur.size = ks.length * 3) ∧
    Hid (∀ j, j < k → cur[j * 3]? = some (V0 j) ∧ cur[j * 3 + 1]? = some (V1 j) ∧ cur[j * 3 + 2]? = some (V2 j)) ∧ Hid (∀ j r, j < k → ks[j]? = some r → RexV wr (w.heap.size + 1) r (V0 j) (V1 j) (V2 j)) ∧ Hid (Below w.heap.size w wr))
  case atStart => exact ⟨0, by omega, rfl, cur, fun _ => undef, fun _ => undef, fun _ => undef, HX, HC, fun j hj => absurd hj (Nat.not_lt_zero _), fun j r hj => absurd hj (Nat.not_lt_zero _), HB⟩
  case round =>
    clear HX HC HB
    obtain ⟨k, hk, rfl, cur, V0, V1, V2, HX, HC, HV, HR, HB⟩ := hrel
    by_cases hlt : k < ks.length
    · obtain ⟨a, r, v1, v2, rfl, HK, HD, HT, c0, c1, c2⟩ := (h.below HB.out).at_ k hlt
      have hmem := List.mem_of_getElem? HK.out
      have hrs := size_kid hmem
      go_wp2_with fail
      refine (ih r hmem v1 v2 _ _ HT.out (by omega)).mono ?_
      rintro e w2 ⟨u1, u2, rfl, hv, b2⟩
      clear c0 c1 c2
      have hX := HX.out.below b2
      have hg := HX.out.lt
      have HV2 := Lib.hid (hv.lower (show w.heap.size + 1 ≤ _ from hg))
      have HR2 : Hid (∀ j r, j < k → ks[j]? = some r → RexV w2 (w.heap.size + 1) r (V0 j) (V1 j) (V2 j)) := fun j r hj e => (HR.out j r hj e).under b2
      have HB2 := Lib.hid (below_then HB.out b2)
      have hcs := HC.out
      have k0 : k * 3 + 2 < cur.toList.length := by rw [Array.length_toList]; omega
      have HX2 := Lib.hid hX
      have K0 := Lib.hid k0
      have H1 := Lib.hid hv.one
      clear hX HX HR hv b2 k0
      go_wp2_with (refine ev_store (o := ⟨none, .store _ (.tmp 21) _, _, _, _, _⟩) rfl rfl TRx (.tmp 21) (.tmp 20) rfl w.heap.size (k * 3) rfl [.int .i64 r.kind, u1, u2] rfl cur TRx HX2.out (sizeRx' _ _ _) (by show k * 3 + 3 ≤ _; omega) H1.out ?_; intro w5 hX5 hg5; have HX5 : Hid (Blk w5 w.heap.size (cur.toList.take (k * 3) ++ [.int .i64 r.kind, u1, u2] ++ cur.toList.drop (k * 3 + 3)).toArray TRx) := hX5; have HG5 := Lib.hid hg5; clear hX5 hg5)
      clear hcs
      go_roundg (gk - 1)
      case rel =>
        obtain ⟨s0, s1, s2, s3, s4⟩ := splice3 cur.toList (.int .i64 r.kind) u1 u2 k K0.out
        refine ⟨k + 1, by omega, by go_num, _, fun j => if j = k then .int .i64 r.kind else V0 j, fun j => if j = k then u1 else V1 j, fun j => if j = k then u2 else V2 j, HX5.out, by show _ = _; rw [List.size_toArray, s4, Array.length_toList]; exact HC.out, ?_, ?_, HB2.out.grown HG5.out HB2.out.size (fun q hq => by injection hq with hq; omega)⟩
        · intro j hj
          rw [List.getElem?_toArray, List.getElem?_toArray, List.getElem?_toArray]
          by_cases e : j = k
          · subst e
            simp only [if_true]
            exact ⟨s0, s1, s2⟩
          · have := HV.out j (by omega)
            simp only [if_neg e]
            refine ⟨?_, ?_, ?_⟩
            · exact (s3 _ (by omega)).trans (by rw [Array.getElem?_toList]; exact this.1)
            · exact (s3 _ (by omega)).trans (by rw [Array.getElem?_toList]; exact this.2.1)
            · exact (s3 _ (by omega)).trans (by rw [Array.getElem?_toList]; exact this.2.2)
        · intro j r' hj e'
          have hkeep : ∀ q, w.heap.size + 1 ≤ q → q < w2.heap.size → w5.heap[q]? = w2.heap[q]? := fun q hq hq2 => HG5.out.block q hq2 (fun e => by injection e with e; omega)
          by_cases e : j = k
          · subst e
            rw [HK.out] at e'
            obtain rfl := Option.some.inj e'
            simp only [if_true]
            exact HV2.out.keep hkeep
          · simp only [if_neg e]
            exact (HR2.out j r' (by omega) e').keep hkeep
      case measure => omega
    · go_wp2
      go_ret
      have hk' : k = ks.length := by omega
      refine ⟨some ⟨w.heap.size, 0, none⟩, ks.length, rfl, ⟨⟨V0, V1, V2, fun i hi => ?_, fun i r e => (HR.out i r (by rw [hk']; exact (List.getElem?_eq_some_iff.1 e).1) e).lower (Nat.le_succ _)⟩, Nat.le_refl _, by unfold maxN; omega⟩, HB.out⟩
      have := HV.out i (by omega)
      refine ⟨⟨w.heap.size, 0, none⟩, rfl, Nat.le_refl _, ?_, ?_, ?_⟩
      · rw [add0, HX.out.cell]; exact this.1
      · rw [add0, HX.out.cell]; exact this.2.1
      · rw [add0, HX.out.cell]; exact this.2.2

set_option maxHeartbeats 2000000 in
theorem toRex_c (r : Rex) : ToOk r := by
  refine Rex.ind (p := ToOk) (fun k s ks ih => ?_) r
  intro v1 v2 w lo h hsz
  obtain ⟨A, c, K, ck, _, rfl, rfl, hs, hk⟩ := h.parts
  dsimp only [Rex.kind, Rex.set, Rex.kids] at hs hk ⊢
  rw [Rex.size] at hsz
  clear h
  have hs1 : s.length ≤ 1048576 := by omega
  have hs2 : ks.length + sizeL ks ≤ 1048576 := by omega
  obtain ⟨wa, hwa⟩ : ∃ x, x = (((w.alloc (.cells #[.int .i64 k, .slice A s.length c, .slice K ks.length ck] 25)).alloc (.cells #[.int .i64 0, nilS, nilS] TRx)).alloc (.cells #[.int .i64 k, nilS, nilS] TRx)) := ⟨_, rfl⟩
  have hb : Below w.heap.size w wa := by rw [hwa]; exact below_alloc (below_alloc (below_alloc (Below.refl _ _) _) _) _
  have m0 : Blk wa w.heap.size #[.int .i64 k, .slice A s.length c, .slice K ks.length ck] 25 := by
    rw [hwa]
    exact ((blk_new w _ _).alloc _).alloc _
  have m1 : Blk wa (w.heap.size + 1) #[.int .i64 0, nilS, nilS] TRx := by
    rw [hwa]
    have := (blk_new (w.alloc (.cells #[.int .i64 k, .slice A s.length c, .slice K ks.length ck] 25)) #[.int .i64 0, nilS, nilS] TRx).alloc (.cells #[.int .i64 k, nilS, nilS] TRx)
    simpa using this
  have m2 : Blk wa (w.heap.size + 1 + 1) #[.int .i64 k, nilS, nilS] TRx := by
    rw [hwa]
    have := blk_new ((w.alloc (.cells #[.int .i64 k, .slice A s.length c, .slice K ks.length ck] 25)).alloc (.cells #[.int .i64 0, nilS, nilS] TRx)) #[.int .i64 k, nilS, nilS] TRx
    simpa using this
  have hz := m2.lt
  have HB := Lib.hid hb
  have M0 := Lib.hid m0
  have M1 := Lib.hid m1
  have M2 := Lib.hid m2
  have HS := Lib.hid (hs.below hb)
  have HK := Lib.hid hk
  clear hb m0 m1 m2 hs hk
  go_enter Try.func12, Try.ntmps12
  go_wp2_with fail
  rw [← hwa]
  refine (toSpanS_c _ _ _ _ HS.out hs1).mono ?_
  rintro e w3 ⟨v3, rfl, o3, b3⟩
  obtain ⟨A3, c3, rfl, s3⟩ := o3.sps
  have M03 := Lib.hid (M0.out.below b3)
  have M13 := Lib.hid (M1.out.below b3)
  have N2 := M2.out.below b3
  have n0 : w3.cell? ⟨w.heap.size, 2, none⟩ = some (.slice K ks.length ck) := by rw [M03.out.cell]; rfl
  have p1 : w3.cell? ⟨w.heap.size + 1 + 1, 1, none⟩ = some nilS := by rw [N2.cell]; rfl
  have q1 := N2.free 1
  have HS3 := Lib.hid s3
  have HB3 := Lib.hid (below_then HB.out b3)
  have M23 := Lib.hid N2
  have hz3 := b3.size
  clear b3 o3 s3 N2 hwa M0 M1 M2 HS HB
  go_wp2_with fail
  have HB4 := Lib.hid (below_set HB3.out (show w.heap.size ≤ w.heap.size + 1 + 1 by omega) (p := ⟨w.heap.size + 1 + 1, 1, none⟩) (.slice A3 s.length c3))
  refine (toRexS_of ks ih _ _ _ _ (HK.out.below HB4.out) hs2).mono ?_
  rintro e w4 ⟨K4, ck4, rfl, k4, b4⟩
  have hw3 : wa.heap.size ≤ w3.heap.size := hz3
  have M14 := Lib.hid ((M13.out.far (by show w.heap.size + 1 ≠ w.heap.size + 1 + 1; omega) _).below b4)
  have N2 := (M23.out.set 1 (.slice A3 s.length c3)).below b4
  simp only [List.setIfInBounds_toArray, List.set_cons_succ, List.set_cons_zero] at N2
  have p2 : w4.cell? ⟨w.heap.size + 1 + 1, 2, none⟩ = some nilS := by rw [N2.cell]; rfl
  have q2 := N2.free 2
  have HS4 : Hid (Sps w4 wa.heap.size A3 c3 s) := (HS3.out.keep fun q hq _ => Below.heap_setCell _ _ _ _ (by show q ≠ w.heap.size + 1 + 1; omega)).below b4
  have HK4 : Hid (Kids w4 wa.heap.size K4 ck4 ks) := k4.lower (by simpa using hz3)
  have HB5 := Lib.hid (below_then HB4.out b4)
  have M24 := Lib.hid N2
  clear n0 p1 q1 N2 b4 k4
  have M25 := Lib.hid (show Blk (w4.setCell ⟨w.heap.size + 1 + 1, 2, none⟩ (.slice K4 ks.length ck4)) (w.heap.size + 1 + 1) [.int .i64 k, .slice A3 s.length c3, .slice K4 ks.length ck4].toArray TRx by simpa using M24.out.set 2 (.slice K4 ks.length ck4))
  have M15 := Lib.hid (M14.out.far (p := ⟨w.heap.size + 1 + 1, 2, none⟩) (by show w.heap.size + 1 ≠ w.heap.size + 1 + 1; omega) (.slice K4 ks.length ck4))
  have HB6 := Lib.hid (below_set HB5.out (show w.heap.size ≤ w.heap.size + 1 + 1 by omega) (p := ⟨w.heap.size + 1 + 1, 2, none⟩) (.slice K4 ks.length ck4))
  have hkeep : ∀ q, wa.heap.size ≤ q → q < w4.heap.size → (w4.setCell ⟨w.heap.size + 1 + 1, 2, none⟩ (.slice K4 ks.length ck4)).heap[q]? = w4.heap[q]? := fun q hq _ => Below.heap_setCell _ _ _ _ (by show q ≠ w.heap.size + 1 + 1; omega)
  have HV := Lib.hid (RexV.of (k := k) (HS4.out.keep hkeep) (HK4.out.keep hkeep))
  have H1 := Lib.hid HV.out.one
  clear hkeep
  go_wp2_with (first
    | (refine ev_load (o := ⟨some 15, _, _, _, _, _⟩) rfl TRx _ rfl (w.heap.size + 1 + 1) rfl [.int .i64 k, .slice A3 s.length c3, .slice K4 ks.length ck4] TRx M25.out _ Try.underlying31 rfl (sizeRx' _ _ _) ?_)
    | (refine ev_store (o := ⟨none, .store _ (.tmp 2) _, _, _, _, _⟩) rfl rfl TRx (.tmp 2) (.tmp 15) rfl (w.heap.size + 1) 0 rfl [.int .i64 k, .slice A3 s.length c3, .slice K4 ks.length ck4] rfl _ TRx M15.out (sizeRx' _ _ _) (by show 0 + 3 ≤ 3; omega) H1.out ?_; intro w5 hX5 hg5; have HX5 : Hid (Blk w5 (w.heap.size + 1) #[.int .i64 k, .slice A3 s.length c3, .slice K4 ks.length ck4] TRx) := hX5; have HG5 := Lib.hid hg5; clear hX5 hg5))
  refine bodyPost_ret (results_cell_row rfl _ _ (w.heap.size + 1) TRx _ (0, 0) _ rfl HX5.out.eq Try.underlying31 rfl (by rw [sizeRx]; rfl)) rfl ⟨_, _, rfl, ?_, HB6.out.grown HG5.out HB6.out.size (fun q hq => by injection hq with hq; omega)⟩
  exact (HV.out.keep fun q hq hq2 => HG5.out.block q hq2 (fun e => by injection e with e; omega)).lower (by omega)

end Go.Proofs.Ytbpinokbpdjmhaa
