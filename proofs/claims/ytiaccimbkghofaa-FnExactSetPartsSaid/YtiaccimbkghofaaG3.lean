/- Texts joined for the claims: T2 Cp Bw Mem SS1 M1 M2. -/
import Derived.Test.YtiaccimbkghofaaG2
import Derived.Test.YtiaccimbkghofaaG1
/- Copies of the laws' trees: toRex, toRexS. -/
namespace Go.Proofs.Ytiaccimbkghofaa
set_option linter.unusedSimpArgs false
set_option linter.unusedVariables false
open Go.RowKit

theorem infoRx : (Try.prog.info? TRx).map (fun i => (i.zero, i.size, i.bytes)) = some (some (.agg #[.int .i64 0, nilS, nilS]), 3, 56) := by kernel_rfl
theorem add0 (g j : Nat) : (⟨g, 0, none⟩ : Addr).add j = ⟨g, j, none⟩ := by unfold Addr.add; split <;> simp_all
theorem size_kid {ks : List Rex} {r : Rex} (h : r ∈ ks) : r.size ≤ sizeL ks := by
  induction ks with
  | nil => cases h
  | cons x xs ih =>
    rw [sizeL]
    rcases List.mem_cons.1 h with rfl | h
    · omega
    · have := ih h; omega

theorem sizeRx : (Try.prog.info? TRx).map (·.size) = some 3 := by kernel_rfl
theorem sizeRx' (a b c : Value) : (Try.prog.info? TRx).map (·.size) = some [a, b, c].length := sizeRx
theorem RexV.one {w : World} {lo : Nat} {r : Rex} {v0 v1 v2 : Value} (h : RexV w lo r v0 v1 v2) : ∀ u ∈ [v0, v1, v2], u.oneCell' = true := by
  obtain ⟨A, c, K, ck, rfl, rfl, rfl, _⟩ := h.parts
  intro u hu
  simp at hu
  rcases hu with rfl | rfl | rfl <;> rfl
theorem splice3 (l : List Value) (a b c : Value) (k : Nat) (h : k * 3 + 2 < l.length) :
    (l.take (k * 3) ++ [a, b, c] ++ l.drop (k * 3 + 3))[k * 3]? = some a ∧ (l.take (k * 3) ++ [a, b, c] ++ l.drop (k * 3 + 3))[k * 3 + 1]? = some b ∧ (l.take (k * 3) ++ [a, b, c] ++ l.drop (k * 3 + 3))[k * 3 + 2]? = some c ∧
      (∀ i, i < k * 3 → (l.take (k * 3) ++ [a, b, c] ++ l.drop (k * 3 + 3))[i]? = l[i]?) ∧ (l.take (k * 3) ++ [a, b, c] ++ l.drop (k * 3 + 3)).length = l.length := by
  have e : (l.take (k * 3)).length = k * 3 := by rw [List.length_take]; omega
  refine ⟨?_, ?_, ?_, fun i hi => ?_, ?_⟩
  · rw [List.append_assoc, List.getElem?_append_right (by omega), e]; simp
  · rw [List.append_assoc, List.getElem?_append_right (by omega), e, show k * 3 + 1 - k * 3 = 1 by omega]; simp
  · rw [List.append_assoc, List.getElem?_append_right (by omega), e, show k * 3 + 2 - k * 3 = 2 by omega]; simp
  · rw [List.append_assoc, List.getElem?_append_left (by omega), List.getElem?_take, if_pos hi]
  · simp only [List.length_append, e, List.length_drop, List.length_cons, List.length_nil]; omega

/-- a row that is being filled with trees -/
structure KPart (w : World) (g lo cap : Nat) (cur : Array Value) (ks : List Rex) (k : Nat) (L : List KInfo) : Prop where
  blk : Blk w g cur TRx
  size : cur.size = cap * 3
  capn : ks.length ≤ cap
  capm : cap ≤ maxLen
  len : L.length = k
  le : k ≤ ks.length
  cells : cur.toList.take (k * 3) = kcells (ks.take k) L
  hr : ∀ (i : Nat) (r : Rex) (x : KInfo), ks[i]? = some r → L[i]? = some x → OwnT w x.fp r x.v1 x.v2
  nd : (g :: fps L).Nodup
  lo : ∀ b, b ∈ g :: fps L → lo ≤ b
theorem KPart.lt {w : World} {g lo cap : Nat} {cur : Array Value} {ks : List Rex} {k : Nat} {L : List KInfo} (h : KPart w g lo cap cur ks k L) : ∀ b, b ∈ g :: fps L → b < w.heap.size := by
  intro b hb
  rcases List.mem_cons.1 hb with rfl | hb
  · exact h.blk.lt
  · obtain ⟨i, x, hx, hb⟩ := mem_fps.1 hb
    have hi := (List.getElem?_eq_some_iff.1 hx).1
    have hl := h.len
    have hle := h.le
    exact (h.hr i (ks[i]'(by omega)) x (List.getElem?_eq_getElem _) hx).lt b hb
theorem splice_take (l : List Value) (a b c : Value) (k : Nat) (h : k * 3 + 2 < l.length) : (l.take (k * 3) ++ [a, b, c] ++ l.drop (k * 3 + 3)).take ((k + 1) * 3) = l.take (k * 3) ++ [a, b, c] := by
  have e : (l.take (k * 3) ++ [a, b, c]).length = (k + 1) * 3 := by simp only [List.length_append, List.length_take, List.length_cons, List.length_nil]; omega
  rw [List.take_append_of_le_length (by omega), List.take_of_length_le (by omega)]
theorem KPart.snoc {w w2 w5 : World} {g lo cap : Nat} {cur : Array Value} {ks : List Rex} {k : Nat} {L : List KInfo} (h : KPart w g lo cap cur ks k L) {r : Rex} (hk : ks[k]? = some r) (b2 : Below w.heap.size w w2) {fp : List Nat} {u1 u2 : Value}
    (ho : OwnT w2 fp r u1 u2) (hf : ∀ b, b ∈ fp → w.heap.size ≤ b) (nd : fp.Nodup) (hX : Blk w5 g (cur.toList.take (k * 3) ++ [.int .i64 r.kind, u1, u2] ++ cur.toList.drop (k * 3 + 3)).toArray TRx) (hg : w2.grownBy w5 (some g)) (hlo : lo ≤ w.heap.size) :
    KPart w5 g lo cap (cur.toList.take (k * 3) ++ [.int .i64 r.kind, u1, u2] ++ cur.toList.drop (k * 3 + 3)).toArray ks (k + 1) (L ++ [⟨fp, u1, u2⟩]) := by
  have hklt := (List.getElem?_eq_some_iff.1 hk).1
  have hsz := h.size
  have hcapn := h.capn
  have hlen := h.len
  have k0 : k * 3 + 2 < cur.toList.length := by rw [Array.length_toList]; omega
  obtain ⟨_, _, _, _, s4⟩ := splice3 cur.toList (.int .i64 r.kind) u1 u2 k k0
  have hglt : g < w.heap.size := h.blk.lt
  have stay : ∀ b, b < w2.heap.size → b ≠ g → w5.heap[b]? = w2.heap[b]? := fun b hb hne => hg.block b hb fun e => by injection e with e; exact hne e
  refine ⟨hX, by rw [List.size_toArray, s4, Array.length_toList]; exact hsz, h.capn, h.capm, by simp [hlen], hklt, ?_, ?_, ?_, ?_⟩
  · show List.take ((k + 1) * 3) _ = _
    rw [splice_take _ _ _ _ _ k0, h.cells, List.take_add_one, hk]
    exact (kcells_append _ _ _ ⟨fp, u1, u2⟩ (by simp [hlen]; omega)).symm
  · intro i r' x hi hx
    by_cases e : i < L.length
    · rw [List.getElem?_append_left e] at hx
      have hT := h.hr i r' x hi hx
      refine (hT.under b2).stay fun b hb => stay b (Nat.lt_of_lt_of_le (hT.lt b hb) b2.size) fun e => ?_
      have := List.nodup_cons.1 h.nd
      exact this.1 (e ▸ mem_fps.2 ⟨i, x, hx, hb⟩)
    · have e2 : i = L.length := by
        have := (List.getElem?_eq_some_iff.1 hx).1
        simp at this
        omega
      subst e2
      rw [hlen, hk] at hi
      obtain rfl := Option.some.inj hi
      simp at hx
      subst hx
      exact ho.stay fun b hb => stay b (ho.lt b hb) fun e => by have := hf b hb; omega
  · have hn : (fps (L ++ [⟨fp, u1, u2⟩])) = fps L ++ fp := by rw [fps_append]; simp [fps]
    rw [hn, ← List.cons_append]
    refine List.nodup_append.2 ⟨h.nd, nd, fun a ha b hb e => ?_⟩
    have h1 := h.lt a ha
    have h2 := hf b hb
    omega
  · have hn : (fps (L ++ [⟨fp, u1, u2⟩])) = fps L ++ fp := by rw [fps_append]; simp [fps]
    rw [hn, ← List.cons_append]
    intro b hb
    rcases List.mem_append.1 hb with hb | hb
    · exact h.lo b hb
    · exact Nat.le_trans hlo (hf b hb)
theorem KPart.done {w : World} {g lo cap : Nat} {cur : Array Value} {ks : List Rex} {k : Nat} {L : List KInfo} (h : KPart w g lo cap cur ks k L) (hk : k = ks.length) :
    OwnK w (g :: fps L) ks (.slice (some ⟨g, 0, none⟩) ks.length cap) L := by
  subst hk
  obtain ⟨hb, hs, hn, hm, hl, _, hc, hr, nd, _⟩ := h
  rw [List.take_length] at hc
  exact ⟨hl.symm, ⟨kcells_length _ _ hl.symm, .inr ⟨g, cap, cur, rfl, Nat.zero_le _, hb.eq, hn, hm, hs, hc⟩⟩, by unfold maxLen at hm; unfold maxN; omega, hr, rfl, nd⟩
theorem KPart.first {w : World} {g lo cap : Nat} {cur : Array Value} {ks : List Rex} (hb : Blk w g cur TRx) (hs : cur.size = cap * 3) (hn : ks.length ≤ cap) (hm : cap ≤ maxLen) (hl : lo ≤ g) : KPart w g lo cap cur ks 0 [] :=
  ⟨hb, hs, hn, hm, rfl, Nat.zero_le _, by simp [kcells], fun i r x _ h => by simp at h, by simp [fps], fun b hb => by simp [fps] at hb; omega⟩

def ToOk (r : Rex) : Prop := ∀ (v1 v2 : Value) (w : World) (lo : Nat), RexV w lo r (.int .i64 r.kind) v1 v2 → r.size ≤ 1048576 →
  Calls Try.prog 16 #[.agg #[.int .i64 r.kind, v1, v2]] w fun e w' => ∃ u1 u2 fp, e = .returned (.agg #[.int .i64 r.kind, u1, u2]) ∧ OwnT w' fp r u1 u2 ∧ fp.Nodup ∧ (∀ b, b ∈ fp → w.heap.size ≤ b) ∧ Below w.heap.size w w'

set_option maxHeartbeats 2000000 in
theorem toRexS_of (ks : List Rex) (ih : ∀ r, r ∈ ks → ToOk r) (K : Option Addr) (ck : Nat) (w : World) (lo : Nat) (h : Kids w lo K ck ks) (hsz : ks.length + sizeL ks ≤ 1048576) :
    Calls Try.prog 50 #[.slice K ks.length ck] w fun e w' => ∃ K' ck' L fk, e = .returned (.slice K' ks.length ck') ∧ OwnK w' fk ks (.slice K' ks.length ck') L ∧ (∀ b, b ∈ fk → w.heap.size ≤ b) ∧ Below w.heap.size w w' := by
  obtain ⟨i0, hi, hz0, hz1, hz2⟩ := info_parts infoRx
  have hlen : ks.length ≤ 1048576 := by omega
  go_enter Try.func50, Try.ntmps50
  go_wp2_with (at_make; refine wpList_make_full _ rfl (.tmp 6) (.tmp 6) 29 rfl w.heap.size TRx i0 (.agg #[.int .i64 0, nilS, nilS]) 3 Try.underlying29 hi hz0 hz1 .i64 .i64 _ _ ks.length rfl rfl rfl rfl (by rw [hz2]; omega) (by unfold maxLen; omega) (Nat.le_refl _) ?_; intro w1 hown hgrow)
  obtain ⟨cur, hB, hcs, _⟩ := own_blk hown
  have HX := Lib.hid (KPart.first (lo := w.heap.size) (ks := ks) hB hcs (Nat.le_refl _) (by unfold maxLen; omega) (Nat.le_refl _))
  have HB := Lib.hid ((Below.refl _ w).grown hgrow (Nat.le_refl _) (fun k hk => by cases hk))
  clear hown hgrow hi hz0 hz1 hz2 hB hcs
  go_loopg [4] (ks.length) (fun n i wr => ∃ k : Nat, k + n = ks.length ∧ i = .int .i64 k ∧ ∃ (cur : Array Value) (L : List KInfo), Hid (KPart wr w.heap.size w.heap.size ks.length cur ks k L) ∧ Hid (Below w.heap.size w wr))
  case atStart => exact ⟨0, by omega, rfl, cur, [], HX, HB⟩
  case round =>
    clear HX HB
    obtain ⟨k, hk, rfl, cur, L, HX, HB⟩ := hrel
    by_cases hlt : k < ks.length
    · obtain ⟨a, r, v1, v2, rfl, HK, HD, HT, c0, c1, c2⟩ := (h.below HB.out).at_ k hlt
      have hmem := List.mem_of_getElem? HK.out
      have hrs := size_kid hmem
      go_wp2_with fail
      refine (ih r hmem v1 v2 _ _ HT.out (by omega)).mono ?_
      rintro e w2 ⟨u1, u2, fp, rfl, hv, hnd, hf, b2⟩
      clear c0 c1 c2
      have HV := Lib.hid hv
      have HN := Lib.hid hnd
      have HF := Lib.hid hf
      have B2 := Lib.hid b2
      have HX2 := Lib.hid (HX.out.blk.below b2)
      have hcs := HX.out.size
      have H1 := Lib.hid hv.rex0.one
      have hcs2 : k * 3 + 3 ≤ cur.size := by omega
      clear hv hnd hf b2 hcs
      go_wp2_with (refine ev_store (o := ⟨none, .store _ (.tmp 21) _, _, _, _, _⟩) rfl rfl TRx (.tmp 21) (.tmp 20) rfl w.heap.size (k * 3) rfl [.int .i64 r.kind, u1, u2] rfl cur TRx HX2.out (sizeRx' _ _ _) (by show k * 3 + 3 ≤ _; omega) H1.out ?_; intro w5 hX5 hg5; have HX5 : Hid (Blk w5 w.heap.size (cur.toList.take (k * 3) ++ [.int .i64 r.kind, u1, u2] ++ cur.toList.drop (k * 3 + 3)).toArray TRx) := hX5; have HG5 := Lib.hid hg5; clear hX5 hg5)
      clear hcs2
      go_roundg (gk - 1)
      case rel =>
        have hs1 := HB.out.size
        exact ⟨k + 1, by omega, by go_num, _, _, HX.out.snoc HK.out B2.out HV.out HF.out HN.out HX5.out HG5.out hs1, (below_then HB.out B2.out).grown HG5.out (Nat.le_trans hs1 B2.out.size) (fun q hq => by injection hq with hq; omega)⟩
      case measure => omega
    · go_wp2
      go_ret
      have hk' : k = ks.length := by omega
      exact ⟨_, _, L, _, rfl, HX.out.done hk', fun b hb => HX.out.lo b hb, HB.out⟩

set_option maxHeartbeats 2000000 in
theorem toRex_c (r : Rex) : ToOk r := by
  refine Rex.ind (p := ToOk) (fun k s ks ih => ?_) r
  intro v1 v2 w lo h hsz
  obtain ⟨A, c, K, ck, _, rfl, rfl, hs, hk⟩ := h.parts
  dsimp only [Rex.kind, Rex.set, Rex.kids] at hs hk ⊢
  rw [Rex.size] at hsz
  clear h
  have hs1 : s.length ≤ 1048576 := by omega
  have hs2 : ks.length + sizeL ks ≤ 1048576 := by omega
  obtain ⟨wa, hwa⟩ : ∃ x, x = (((w.alloc (.cells #[.int .i64 k, .slice A s.length c, .slice K ks.length ck] 25)).alloc (.cells #[.int .i64 0, nilS, nilS] TRx)).alloc (.cells #[.int .i64 k, nilS, nilS] TRx)) := ⟨_, rfl⟩
  have hb : Below w.heap.size w wa := by rw [hwa]; exact below_alloc (below_alloc (below_alloc (Below.refl _ _) _) _) _
  have m0 : Blk wa w.heap.size #[.int .i64 k, .slice A s.length c, .slice K ks.length ck] 25 := by
    rw [hwa]
    exact ((blk_new w _ _).alloc _).alloc _
  have m1 : Blk wa (w.heap.size + 1) #[.int .i64 0, nilS, nilS] TRx := by
    rw [hwa]
    have := (blk_new (w.alloc (.cells #[.int .i64 k, .slice A s.length c, .slice K ks.length ck] 25)) #[.int .i64 0, nilS, nilS] TRx).alloc (.cells #[.int .i64 k, nilS, nilS] TRx)
    simpa using this
  have m2 : Blk wa (w.heap.size + 1 + 1) #[.int .i64 k, nilS, nilS] TRx := by
    rw [hwa]
    have := blk_new ((w.alloc (.cells #[.int .i64 k, .slice A s.length c, .slice K ks.length ck] 25)).alloc (.cells #[.int .i64 0, nilS, nilS] TRx)) #[.int .i64 k, nilS, nilS] TRx
    simpa using this
  have hz := m2.lt
  have HB := Lib.hid hb
  have M0 := Lib.hid m0
  have M1 := Lib.hid m1
  have M2 := Lib.hid m2
  have HS := Lib.hid (hs.below hb)
  have HK := Lib.hid hk
  clear hb m0 m1 m2 hs hk
  go_enter Try.func16, Try.ntmps16
  go_wp2_with fail
  rw [← hwa]
  refine (toSpanS_c _ _ _ _ HS.out hs1).mono ?_
  rintro e w3 ⟨v3, rfl, o3, b3⟩
  obtain ⟨A3, c3, rfl, _⟩ := o3.sps
  have M03 := Lib.hid (M0.out.below b3)
  have M13 := Lib.hid (M1.out.below b3)
  have N2 := M2.out.below b3
  have n0 : w3.cell? ⟨w.heap.size, 2, none⟩ = some (.slice K ks.length ck) := by rw [M03.out.cell]; rfl
  have p1 : w3.cell? ⟨w.heap.size + 1 + 1, 1, none⟩ = some nilS := by rw [N2.cell]; rfl
  have q1 := N2.free 1
  have HS3 := Lib.hid o3
  have HB3 := Lib.hid (below_then HB.out b3)
  have M23 := Lib.hid N2
  have hz3 := b3.size
  clear b3 o3 N2 hwa M0 M1 M2 HS HB
  go_wp2_with fail
  have HB4 := Lib.hid (below_set HB3.out (show w.heap.size ≤ w.heap.size + 1 + 1 by omega) (p := ⟨w.heap.size + 1 + 1, 1, none⟩) (.slice A3 s.length c3))
  refine (toRexS_of ks ih _ _ _ _ (HK.out.below HB4.out) hs2).mono ?_
  rintro e w4 ⟨K4, ck4, L4, fk4, rfl, k4, f4, b4⟩
  have hw3 : wa.heap.size ≤ w3.heap.size := hz3
  have M14 := Lib.hid ((M13.out.far (by show w.heap.size + 1 ≠ w.heap.size + 1 + 1; omega) _).below b4)
  have N2 := (M23.out.set 1 (.slice A3 s.length c3)).below b4
  simp only [List.setIfInBounds_toArray, List.set_cons_succ, List.set_cons_zero] at N2
  have p2 : w4.cell? ⟨w.heap.size + 1 + 1, 2, none⟩ = some nilS := by rw [N2.cell]; rfl
  have q2 := N2.free 2
  have HS4 : Hid (OwnSp w4 wa.heap.size (.slice A3 s.length c3) s) := (HS3.out.stay fun q hq => Below.heap_setCell _ _ _ _ (by show q ≠ w.heap.size + 1 + 1; have := (HS3.out.lt q hq).1; omega)).below b4
  have HK4 := Lib.hid k4
  have HF4 : Hid (∀ b, b ∈ fk4 → w3.heap.size ≤ b) := fun b hb => by simpa using f4 b hb
  have HS3l : Hid (∀ b, b ∈ vblk (.slice A3 s.length c3) → wa.heap.size ≤ b ∧ b < w3.heap.size) := HS3.out.lt
  have HB5 := Lib.hid (below_then HB4.out b4)
  have M24 := Lib.hid N2
  clear n0 p1 q1 N2 b4 k4 f4
  have M25 := Lib.hid (show Blk (w4.setCell ⟨w.heap.size + 1 + 1, 2, none⟩ (.slice K4 ks.length ck4)) (w.heap.size + 1 + 1) [.int .i64 k, .slice A3 s.length c3, .slice K4 ks.length ck4].toArray TRx by simpa using M24.out.set 2 (.slice K4 ks.length ck4))
  have M15 := Lib.hid (M14.out.far (p := ⟨w.heap.size + 1 + 1, 2, none⟩) (by show w.heap.size + 1 ≠ w.heap.size + 1 + 1; omega) (.slice K4 ks.length ck4))
  have HB6 := Lib.hid (below_set HB5.out (show w.heap.size ≤ w.heap.size + 1 + 1 by omega) (p := ⟨w.heap.size + 1 + 1, 2, none⟩) (.slice K4 ks.length ck4))
  have hkeep : ∀ q, wa.heap.size ≤ q → (w4.setCell ⟨w.heap.size + 1 + 1, 2, none⟩ (.slice K4 ks.length ck4)).heap[q]? = w4.heap[q]? := fun q hq => Below.heap_setCell _ _ _ _ (by show q ≠ w.heap.size + 1 + 1; omega)
  have HND : Hid ((vblk (.slice A3 s.length c3) ++ fk4).Nodup) := by
    refine List.nodup_append.2 ⟨?_, HK4.out.nd, fun a ha b hb e => ?_⟩
    · unfold vblk; split <;> simp
    · have h1 := (HS3l.out a ha).2
      have h2 := HF4.out b hb
      omega
  have HV := Lib.hid (OwnT.of (k := k) ((HS4.out.stay fun q hq => hkeep q (HS4.out.lt q hq).1).lower (Nat.zero_le _)) (HK4.out.stay fun q hq => hkeep q (Nat.le_trans hw3 (HF4.out q hq))) HND.out)
  have H1 := Lib.hid HV.out.rex0.one
  have HFF : Hid (∀ b, b ∈ vblk (.slice A3 s.length c3) ++ fk4 → wa.heap.size ≤ b) := fun b hb => by
    rcases List.mem_append.1 hb with hb | hb
    · exact (HS3l.out b hb).1
    · exact Nat.le_trans hw3 (HF4.out b hb)
  clear hkeep
  go_wp2_with (first
    | (refine ev_load (o := ⟨some 15, _, _, _, _, _⟩) rfl TRx _ rfl (w.heap.size + 1 + 1) rfl [.int .i64 k, .slice A3 s.length c3, .slice K4 ks.length ck4] TRx M25.out _ Try.underlying31 rfl (sizeRx' _ _ _) ?_)
    | (refine ev_store (o := ⟨none, .store _ (.tmp 2) _, _, _, _, _⟩) rfl rfl TRx (.tmp 2) (.tmp 15) rfl (w.heap.size + 1) 0 rfl [.int .i64 k, .slice A3 s.length c3, .slice K4 ks.length ck4] rfl _ TRx M15.out (sizeRx' _ _ _) (by show 0 + 3 ≤ 3; omega) H1.out ?_; intro w5 hX5 hg5; have HX5 : Hid (Blk w5 (w.heap.size + 1) #[.int .i64 k, .slice A3 s.length c3, .slice K4 ks.length ck4] TRx) := hX5; have HG5 := Lib.hid hg5; clear hX5 hg5))
  refine bodyPost_ret (results_cell_row rfl _ _ (w.heap.size + 1) TRx _ (0, 0) _ rfl HX5.out.eq Try.underlying31 rfl (by rw [sizeRx]; rfl)) rfl ⟨_, _, _, rfl, HV.out.stay fun q hq => HG5.out.block q (HV.out.lt q hq) fun e => ?_, HND.out, fun b hb => by have := HFF.out b hb; omega, HB6.out.grown HG5.out HB6.out.size (fun q hq => by injection hq with hq; omega)⟩
  injection e with e
  have := HFF.out q hq
  omega

theorem toRex_v (r : Rex) (v1 v2 : Value) (w : World) (lo : Nat) (h : RexV w lo r (.int .i64 r.kind) v1 v2) (hx : r.size ≤ 1048576) :
    Calls Try.prog 16 #[.agg #[.int .i64 r.kind, v1, v2]] w fun e w' => ∃ u1 u2, e = .returned (.agg #[.int .i64 r.kind, u1, u2]) ∧ RexV w' w.heap.size r (.int .i64 r.kind) u1 u2 ∧ Below w.heap.size w w' :=
  (toRex_c r v1 v2 w lo h hx).mono fun e w' ⟨u1, u2, fp, he, ho, _, hf, hb⟩ => ⟨u1, u2, he, ho.rexv _ hf, hb⟩

end Go.Proofs.Ytiaccimbkghofaa

/- copied, at trees and at lists of spans: the same cells in new memory. -/
namespace Go.Proofs.Ytiaccimbkghofaa
set_option linter.unusedSimpArgs false
set_option linter.unusedVariables false
open Go.RowKit

abbrev TSS : Nat := 28
theorem infoSS : (Try.prog.info? TSS).map (fun i => (i.zero, i.size, i.bytes)) = some (some nilS, 1, 24) := by kernel_rfl
theorem sizeSS : (Try.prog.info? TSS).map (·.size) = some 1 := by kernel_rfl

set_option maxHeartbeats 1000000 in
theorem copiedRex_c (A : Option Addr) (c n : Nat) (cs : List Value) (w : World) {lo : Nat} (h : Row w lo A cs) (hn : cs.length = n * 3) (h1 : ∀ u ∈ cs, u.oneCell' = true) (hx : n ≤ 1073741824) :
    Calls Try.prog 91 #[.slice A n c] w fun e w' => ∃ v, e = .returned v ∧ w'.ownsRow w.heap.size TRx 3 v n cs ∧ Below w.heap.size w w' := by
  by_cases h0 : n = 0
  · subst h0
    go_enter Try.func91, Try.ntmps91
    go_wp2
    go_ret
    have : cs = [] := by simpa using hn
    subst this
    exact ⟨_, rfl, World.ownsRow_nil _ _ _ _, Below.refl _ _⟩
  · obtain ⟨i0, hi, hz0, hz1, hz2⟩ := info_parts infoRx
    have b0 : ((n : Int) == 0) = false := by simp [h0]
    have h0' : 0 < n := by omega
    clear h0
    rcases h with rfl | ⟨ad, rfl, _, hc⟩
    · simp at hn; omega
    have HN : Hid (cs.length = n * 3) := hn
    clear hn
    go_enter Try.func91, Try.ntmps91
    go_wp2_with (first
      | (at_make; refine wpList_make_full _ rfl (.tmp 8) (.tmp 8) 29 rfl w.heap.size TRx i0 (.agg #[.int .i64 0, nilS, nilS]) 3 Try.underlying29 hi hz0 hz1 .i64 .i64 _ _ n rfl rfl rfl rfl (by rw [hz2]; omega) (by unfold maxLen; omega) (Nat.le_refl _) ?_; intro w1 hown hgrow; obtain ⟨cur, hB, hsz, _⟩ := own_blk hown; have hb1 := (Below.refl _ w).grown hgrow (Nat.le_refl _) (fun k hk => by cases hk); have hc1 := hc.below hb1; clear hown hgrow; have HS : Hid (cur.size = n * 3) := hsz; clear hsz)
      | (with_reducible refine ev_copy (o := ⟨some 12, _, _, _, _, _⟩) rfl (.tmp 10) (.tmp 11) _ _ rfl TRx Try.underlying29 3 sizeRx w.heap.size n n _ ad rfl rfl cur TRx hB cs HN.out hc1 (by rw [HN.out, HS.out]; exact Nat.le_refl _) h1 ?_; intro w2 hB2 hg2))
    go_ret
    have e : cur.toList.drop cs.length = [] := List.drop_of_length_le (by rw [Array.length_toList, HN.out, HS.out]; exact Nat.le_refl _)
    rw [e, List.append_nil] at hB2
    exact ⟨_, rfl, own_of_blk hB2 HN.out (Nat.le_refl _) (by unfold maxLen; omega), hb1.grown hg2 hb1.size (fun k hk => by injection hk with hk; omega)⟩
set_option maxHeartbeats 1000000 in
theorem copiedSS_c (A : Option Addr) (c n : Nat) (cs : List Value) (w : World) {lo : Nat} (h : Row w lo A cs) (hn : cs.length = n * 1) (h1 : ∀ u ∈ cs, u.oneCell' = true) (hx : n ≤ 1073741824) :
    Calls Try.prog 61 #[.slice A n c] w fun e w' => ∃ v, e = .returned v ∧ w'.ownsRow w.heap.size TSS 1 v n cs ∧ Below w.heap.size w w' := by
  by_cases h0 : n = 0
  · subst h0
    go_enter Try.func61, Try.ntmps61
    go_wp2
    go_ret
    have : cs = [] := by simpa using hn
    subst this
    exact ⟨_, rfl, World.ownsRow_nil _ _ _ _, Below.refl _ _⟩
  · obtain ⟨i0, hi, hz0, hz1, hz2⟩ := info_parts infoSS
    have b0 : ((n : Int) == 0) = false := by simp [h0]
    have h0' : 0 < n := by omega
    clear h0
    rcases h with rfl | ⟨ad, rfl, _, hc⟩
    · simp at hn; omega
    have HN : Hid (cs.length = n * 1) := hn
    clear hn
    go_enter Try.func61, Try.ntmps61
    go_wp2_with (first
      | (at_make; refine wpList_make_full _ rfl (.tmp 8) (.tmp 8) 37 rfl w.heap.size TSS i0 nilS 1 Try.underlying37 hi hz0 hz1 .i64 .i64 _ _ n rfl rfl rfl rfl (by rw [hz2]; omega) (by unfold maxLen; omega) (Nat.le_refl _) ?_; intro w1 hown hgrow; obtain ⟨cur, hB, hsz, _⟩ := own_blk hown; have hb1 := (Below.refl _ w).grown hgrow (Nat.le_refl _) (fun k hk => by cases hk); have hc1 := hc.below hb1; clear hown hgrow; have HS : Hid (cur.size = n * 1) := hsz; clear hsz)
      | (with_reducible refine ev_copy (o := ⟨some 12, _, _, _, _, _⟩) rfl (.tmp 10) (.tmp 11) _ _ rfl TSS Try.underlying37 1 sizeSS w.heap.size n n _ ad rfl rfl cur TSS hB cs HN.out hc1 (by rw [HN.out, HS.out]; exact Nat.le_refl _) h1 ?_; intro w2 hB2 hg2))
    go_ret
    have e : cur.toList.drop cs.length = [] := List.drop_of_length_le (by rw [Array.length_toList, HN.out, HS.out]; exact Nat.le_refl _)
    rw [e, List.append_nil] at hB2
    exact ⟨_, rfl, own_of_blk hB2 HN.out (Nat.le_refl _) (by unfold maxLen; omega), hb1.grown hg2 hb1.size (fun k hk => by injection hk with hk; omega)⟩

end Go.Proofs.Ytiaccimbkghofaa

/- A region that draws its order, reads, and calls what makes memory but answers alike in every world above: walked once. -/
namespace Go.Proofs.Ytiaccimbkghofaa
set_option linter.unusedSimpArgs false
set_option linter.unusedVariables false
open Go.RowKit

/-- the worlds that keep what is below -/
structure BW (w : World) : Type where
  w1 : World
  up : Below w.heap.size w w1
instance (w : World) : Nonempty (BW w) := ⟨⟨w, Below.refl _ _⟩⟩
theorem wp_region_bw {P : Program} {id : Nat} {Q : Exit → Act → World → Prop} {a : Act} {w : World} {l : List Oper} (hm : P.follows .mixedOrders = true) (hB : Region.lexB .any l.toArray = true)
    (h : wpQuiet P l.toArray (fun w' => ∃ x : BW w, w' = x.w1) (fun a' => ∀ w', (∃ x : BW w, w' = x.w1) → Q .normal a' w') l a) : (Code.region id l.toArray true).wp P Q a w :=
  wp_region_quiet (C := fun w' => ∃ x : BW w, w' = x.w1) hm hB ⟨⟨w.drew, below_drew (Below.refl _ _)⟩, rfl⟩ (by simpa using h)
theorem Calls.bw {P : Program} {f : FuncId} {args : Array Value} {W : World} {x : BW W} {v v' : Value} (hv : v = v') (h : Calls P f args x.w1 fun e w' => e = .returned v ∧ Below x.w1.heap.size x.w1 w') :
    Calls P f args x.w1 fun e w'' => e = .returned v' ∧ ∃ y : BW W, w'' = y.w1 :=
  h.mono fun _ w' ⟨he, hb⟩ => ⟨by rw [he, hv], ⟨w', below_then x.up hb⟩, rfl⟩
theorem Calls.bw_d {P : Program} {f : FuncId} {args : Array Value} {W : World} {x : BW W} {v v' : Value} (hv : v = v') (h : Calls P f args x.w1 fun e w' => e = .returned v ∧ Drawn x.w1 w') :
    Calls P f args x.w1 fun e w'' => e = .returned v' ∧ ∃ y : BW W, w'' = y.w1 :=
  h.mono fun _ w' ⟨he, hb⟩ => ⟨by rw [he, hv], ⟨w', below_then x.up hb.below⟩, rfl⟩
theorem Calls.bw_e {P : Program} {f : FuncId} {args : Array Value} {W : World} {x : BW W} {v v' : Value} (hv : v = v') (h : Calls P f args x.w1 fun e w' => e = .returned v ∧ x.w1 = w') :
    Calls P f args x.w1 fun e w'' => e = .returned v' ∧ ∃ y : BW W, w'' = y.w1 :=
  h.mono fun _ w' ⟨he, hb⟩ => ⟨by rw [he, hv], x, hb.symm⟩
theorem BW.cell {w : World} (x : BW w) {a : Addr} {u : Value} (h : w.cell? a = some u) : x.w1.cell? a = some u := (x.up.cell (World.block_lt_of_cell? w _ h)).trans h
theorem bv {a b : Bool} (h : a = b) : Value.bool a = Value.bool b := congrArg _ h
theorem iv {a b : Int} (h : a = b) : Value.int .i64 a = Value.int .i64 b := congrArg _ h

end Go.Proofs.Ytiaccimbkghofaa

/- Marks and holds of results in memory. -/
namespace Go.Proofs.Ytiaccimbkghofaa
set_option linter.unusedSimpArgs false
set_option linter.unusedVariables false
open Go.RowKit

theorem OwnSp.row {w : World} {base c : Nat} {A : Option Addr} {xs ys : List Sp} (h : OwnSp w base (.slice A xs.length c) ys) : Sps w base A c ys := by
  obtain ⟨A', c', e, s⟩ := h.sps
  injection e with e1 e2 e3
  subst e1 e3
  exact s
theorem OwnSp.moved {w w1 : World} {base : Nat} {v : Value} {xs : List Sp} (h : OwnSp w base v xs) (hm : ∀ k, v.ownBlock = some k → w1.heap[k]? = w.heap[k]?) : OwnSp w1 base v xs := ⟨own_move h.own hm, h.len⟩
theorem held2_c (A : Option Addr) (c : Nat) (xs : List Sp) (q : Int) (w : World) {base : Nat} (h : OwnSp w base (.slice A xs.length c) (markSps q xs)) (h0 : 0 ≤ q) (h1 : q ≤ 1073741824) (hx : xs.length ≤ 1073741824) :
    Calls Try.prog 65 #[.slice A xs.length c, .int .i64 q] w fun e w' => e = .returned (.int .i64 (q + 2 * (xs.length : Int))) ∧ Drawn w w' := by
  have := heldSpanS_c A c (markSps q xs) xs q w rfl h.row h0 h1 (by rw [markSps_length]; exact hx)
  rw [markSps_length] at this
  exact this
theorem spansOf_len (f : Nat → Bool) : (spansOf f).length ≤ 256 := spansTo_length f 256
theorem setJoin_len (xs ys : List Sp) : (setJoin xs ys).length ≤ 256 := by
  unfold setJoin; split
  · exact spansOf_len _
  · simp
theorem setMeet_len (xs ys : List Sp) : (setMeet xs ys).length ≤ 256 := by
  unfold setMeet; split
  · exact spansOf_len _
  · simp
theorem setNot_len (xs : List Sp) : (setNot xs).length ≤ 256 := by
  unfold setNot; split
  · exact spansOf_len _
  · simp

end Go.Proofs.Ytiaccimbkghofaa

/- Lists of sets in memory, to read: eqSpanSS, heldSpanSS. -/
namespace Go.Proofs.Ytiaccimbkghofaa
set_option linter.unusedSimpArgs false
set_option linter.unusedVariables false
open Go.RowKit

/-- a row of sets -/
structure SSV (w : World) (lo : Nat) (K : Option Addr) (ck : Nat) (xss : List (List Sp)) : Prop where
  ex : ∀ (i : Nat) (xs : List Sp), xss[i]? = some xs → ∃ a A c, K = some a ∧ lo ≤ a.block ∧ w.cell? (a.add i) = some (.slice A xs.length c) ∧ Sps w lo A c xs
  cap : xss.length ≤ ck
  len : xss.length ≤ maxN
theorem SSV.keep {w w' : World} {lo : Nat} {K : Option Addr} {ck : Nat} {xss : List (List Sp)} (h : SSV w lo K ck xss) (hk : ∀ k, lo ≤ k → k < w.heap.size → w'.heap[k]? = w.heap[k]?) : SSV w' lo K ck xss := by
  refine ⟨fun i xs hi => ?_, h.cap, h.len⟩
  obtain ⟨a, A, c, e, hl, hc, hs⟩ := h.ex i xs hi
  have hb := World.block_lt_of_cell? w _ hc
  rw [add_block'] at hb
  refine ⟨a, A, c, e, hl, ?_, hs.keep hk⟩
  rw [World.cell?_of_block (w := w) (by rw [add_block']; exact hk a.block hl hb)]
  exact hc
theorem SSV.below {w w' : World} {lo : Nat} {K : Option Addr} {ck : Nat} {xss : List (List Sp)} (h : SSV w lo K ck xss) (hb : Below w.heap.size w w') : SSV w' lo K ck xss := h.keep fun k _ hk => hb.block k hk
theorem SSV.at_ {w : World} {lo : Nat} {K : Option Addr} {ck : Nat} {xss : List (List Sp)} (h : SSV w lo K ck xss) (i : Nat) (hi : i < xss.length) :
    ∃ a A c xs, K = some a ∧ Hid (xss[i]? = some xs) ∧ Hid (Sps w lo A c xs) ∧ w.cell? (a.add i) = some (.slice A xs.length c) := by
  have hg : xss[i]? = some xss[i] := List.getElem?_eq_getElem hi
  obtain ⟨a, A, c, e, _, hc, hs⟩ := h.ex i _ hg
  exact ⟨a, A, c, _, e, hg, hs, hc⟩

theorem take_eq_step {xss yss : List (List Sp)} {j : Nat} {xs ys : List Sp} (h : xss.take j = yss.take j) (hx : xss[j]? = some xs) (hy : yss[j]? = some ys) (e : xs = ys) : xss.take (j + 1) = yss.take (j + 1) := by
  rw [List.take_add_one, List.take_add_one, h, hx, hy, e]
set_option maxHeartbeats 1000000 in
theorem eqSpanSS_c (K K' : Option Addr) (c c' : Nat) (xss yss : List (List Sp)) (w : World) {lo lo' : Nat} (h : SSV w lo K c xss) (h' : SSV w lo' K' c' yss) :
    Calls Try.prog 27 #[.slice K xss.length c, .slice K' yss.length c'] w fun e w' => e = .returned (.bool (decide (xss = yss))) ∧ Below w.heap.size w w' := by
  have hlen := h.len
  have hlen' := h'.len
  unfold maxN at hlen hlen'
  by_cases he : xss.length = yss.length
  · have b1 : ((xss.length : Int) != (yss.length : Int)) = false := by simp [he]
    have HE : Hid (xss.length = yss.length) := he
    have H := Lib.hid h
    have H' := Lib.hid h'
    clear he h h'
    go_enter Try.func27, Try.ntmps27
    go_wp2
    go_loopg [5] (xss.length) (fun n i wr => ∃ j : Nat, j + n = xss.length ∧ i = .int .i64 j ∧ Hid (xss.take j = yss.take j) ∧ Hid (Below w.heap.size w wr))
    case atStart => exact ⟨0, by omega, rfl, rfl, Below.refl _ _⟩
    case round =>
      obtain ⟨j, hj, rfl, HS, HB⟩ := hrel
      by_cases hlt : j < xss.length
      · have hlt' : j < yss.length := by have := HE.out; omega
        obtain ⟨a, A, q, xs, rfl, HX, HV, c0⟩ := (H.out.below HB.out).at_ j hlt
        obtain ⟨a', A', q', ys, rfl, HY, HV', c1⟩ := (H'.out.below HB.out).at_ j hlt'
        have N0 : ∀ x : BW wr, x.w1.cell? (a.add j) = some (.slice A xs.length q) := fun x => x.cell c0
        have N1 : ∀ x : BW wr, x.w1.cell? (a'.add j) = some (.slice A' ys.length q') := fun x => x.cell c1
        have i0 : (0 : Int) ≤ (j : Int) := by omega
        have i1 : (j : Int) < (xss.length : Int) := by omega
        have i2 : (j : Int) < (yss.length : Int) := by omega
        clear c0 c1
        by_cases e : xs = ys
        · have HQ : Hid (decide (xs = ys) = true) := decide_eq_true e
          have HN : Hid (xss.take (j + 1) = yss.take (j + 1)) := take_eq_step HS.out HX.out HY.out e
          clear e
          go_wp2
          refine wp_region_bw (by kernel_rfl) (by kernel_rfl) ?_
          repeat (go_big_quiet_step ((go_at_call 52; with_reducible exact Calls.bw (bv HQ.out) (eqSpanS_c _ _ _ _ _ _ _ (HV.out.below (BW.up _)) (HV'.out.below (BW.up _))))))
          refine wpQuiet_nil ?_
          rintro w1 ⟨x1, y1⟩
          have b1 : Below wr.heap.size wr w1 := y1 ▸ x1.up
          clear y1 x1 N0 N1
          go_wp2
          go_roundg (gk - 1)
          case measure => omega
          case rel => exact ⟨j + 1, by omega, by go_num, HN, below_then HB.out b1⟩
        · have HQ : Hid (decide (xs = ys) = false) := decide_eq_false e
          have HN : Hid (xss ≠ yss) := fun h => by
            have h1 := HX.out
            rw [h, HY.out] at h1
            injection h1 with h1
            exact e h1.symm
          clear e
          go_wp2
          refine wp_region_bw (by kernel_rfl) (by kernel_rfl) ?_
          repeat (go_big_quiet_step ((go_at_call 52; with_reducible exact Calls.bw (bv HQ.out) (eqSpanS_c _ _ _ _ _ _ _ (HV.out.below (BW.up _)) (HV'.out.below (BW.up _))))))
          refine wpQuiet_nil ?_
          rintro w1 ⟨x1, y1⟩
          have b1 : Below wr.heap.size wr w1 := y1 ▸ x1.up
          clear y1 x1 N0 N1
          go_wp2
          go_ret
          exact ⟨ret_bool (decide_eq_false HN.out).symm, below_then HB.out b1⟩
      · go_wp2
        go_ret
        have hj' : j = xss.length := by omega
        have hs := HS.out
        rw [hj', List.take_length, HE.out, List.take_length] at hs
        exact ⟨ret_bool (decide_eq_true hs).symm, HB.out⟩
  · have b1 : ((xss.length : Int) != (yss.length : Int)) = true := by simp; omega
    have b2 : (xss.length == yss.length) = false := by simp [he]
    have C : Hid (xss ≠ yss) := fun h => he (by rw [h])
    clear he
    go_enter Try.func27, Try.ntmps27
    go_wp2
    go_ret
    exact ⟨ret_bool (decide_eq_false C.out).symm, Below.refl _ _⟩

end Go.Proofs.Ytiaccimbkghofaa

/- Marks in trees, and whether they are held. -/
namespace Go.Proofs.Ytiaccimbkghofaa
set_option linter.unusedSimpArgs false
set_option linter.unusedVariables false
open Go.RowKit

mutual
/-- how many numbers a tree holds in memory -/
def Rex.cnt : Rex → Nat
  | .mk _ s ks => 2 * s.length + cntL ks
def cntL : List Rex → Nat
  | [] => 0
  | r :: rs => (1 + r.cnt) + cntL rs
end
mutual
def markN : Int → Rex → Rex
  | q, .mk _ s ks => .mk q (markSps (q + 1) s) (markL (q + 1 + 2 * (s.length : Int)) ks)
def markL : Int → List Rex → List Rex
  | _, [] => []
  | q, r :: rs => markN q r :: markL (q + (1 + (r.cnt : Int))) rs
end
def markT (q : Int) (r : Rex) : Rex := .mk r.kind (markSps q r.set) (markL (q + 2 * (r.set.length : Int)) r.kids)
theorem markN_of (q : Int) (r : Rex) : markN q r = .mk q (markSps (q + 1) r.set) (markL (q + 1 + 2 * (r.set.length : Int)) r.kids) := by cases r; rw [markN]; rfl
theorem cnt_of (r : Rex) : r.cnt = 2 * r.set.length + cntL r.kids := by cases r; rw [Rex.cnt]; rfl
theorem markL_length : ∀ (ks : List Rex) (q : Int), (markL q ks).length = ks.length
  | [], q => by rw [markL]
  | r :: rs, q => by rw [markL, List.length_cons, List.length_cons, markL_length rs]
theorem markL_drop : ∀ (ks : List Rex) (q : Int) (j : Nat), (markL q ks).drop j = markL (q + cntL (ks.take j)) (ks.drop j)
  | ks, q, 0 => by simp [cntL]
  | [], q, j + 1 => by simp [markL, cntL]
  | r :: rs, q, j + 1 => by
    rw [markL, List.drop_succ_cons, markL_drop rs _ j, List.drop_succ_cons, List.take_succ_cons, cntL]
    congr 1
    omega
theorem markL_get {ks : List Rex} {q : Int} {j : Nat} {r : Rex} (h : ks[j]? = some r) : (markL q ks)[j]? = some (markN (q + cntL (ks.take j)) r) := by
  have hj := (List.getElem?_eq_some_iff.1 h).1
  have e : (markL q ks)[j]? = ((markL q ks).drop j)[0]? := by rw [List.getElem?_drop]; simp
  rw [e, markL_drop, List.drop_eq_getElem_cons hj, markL]
  have : ks[j] = r := by rw [List.getElem?_eq_getElem hj] at h; exact Option.some.inj h
  rw [this]
  rfl
theorem cntL_take {ks : List Rex} {j : Nat} {r : Rex} (h : ks[j]? = some r) : cntL (ks.take (j + 1)) = cntL (ks.take j) + (1 + r.cnt) := by
  induction ks generalizing j with
  | nil => simp at h
  | cons x xs ih =>
    cases j with
    | zero => simp at h; subst h; simp [cntL]
    | succ j => rw [List.take_succ_cons, cntL, ih (by simpa using h), List.take_succ_cons, cntL]; omega
theorem cntL_take_le (ks : List Rex) (j : Nat) : cntL (ks.take j) ≤ cntL ks := by
  induction ks generalizing j with
  | nil => simp [cntL]
  | cons x xs ih => cases j with
    | zero => simp [cntL]
    | succ j => rw [List.take_succ_cons, cntL, cntL]; have := ih j; omega
theorem mix_step {α : Type} (M ks : List α) (j : Nat) (r r' : α) (h : ks[j]? = some r) (h' : M[j]? = some r') (hl : M.length = ks.length) : (M.take j ++ ks.drop j).set j r' = M.take (j + 1) ++ ks.drop (j + 1) := by
  have hj := (List.getElem?_eq_some_iff.1 h).1
  have e : (M.take j).length = j := by rw [List.length_take]; omega
  rw [List.drop_eq_getElem_cons hj, List.set_append, if_neg (by omega), e, Nat.sub_self, List.set_cons_zero, List.take_add_one, h']
  simp
theorem mix_get {α : Type} (M ks : List α) (j : Nat) (hj : j < ks.length) (hl : M.length = ks.length) : (M.take j ++ ks.drop j)[j]? = ks[j]? := by
  have e : (M.take j).length = j := by rw [List.length_take]; omega
  rw [List.getElem?_append_right (by omega), e, Nat.sub_self, List.getElem?_drop]
  simp
theorem mix_length {α : Type} (M ks : List α) (j : Nat) (hl : M.length = ks.length) (hj : j ≤ ks.length) : (M.take j ++ ks.drop j).length = ks.length := by
  rw [List.length_append, List.length_take, List.length_drop]; omega

/-- an element of a row of trees that a call made -/
theorem OwnK.at_ {w : World} {fk : List Nat} {ks : List Rex} {K : Option Addr} {n ck : Nat} {L : List KInfo} (h : OwnK w fk ks (.slice K n ck) L) (j : Nat) {r : Rex} (hr : ks[j]? = some r) :
    ∃ g A c K' ck' fp, K = some ⟨g, 0, none⟩ ∧ Hid (L[j]? = some ⟨fp, .slice A r.set.length c, .slice K' r.kids.length ck'⟩) ∧ Hid (OwnT w fp r (.slice A r.set.length c) (.slice K' r.kids.length ck')) ∧
      w.cell? ⟨g, j * 3, none⟩ = some (.int .i64 r.kind) ∧ w.cell? ⟨g, j * 3 + 1, none⟩ = some (.slice A r.set.length c) ∧ w.cell? ⟨g, j * 3 + 2, none⟩ = some (.slice K' r.kids.length ck') ∧ w.frozen? ⟨g, j * 3, none⟩ = false := by
  obtain ⟨hL, hk, hn, hrr, fe, nd⟩ := h
  have hj := (List.getElem?_eq_some_iff.1 hr).1
  obtain ⟨x, hx⟩ : ∃ x, L[j]? = some x := ⟨L[j]'(by omega), List.getElem?_eq_getElem _⟩
  have hT := hrr j r x hr hx
  obtain ⟨g0, g1, g2⟩ := kcells_get ks L j r x hr hx hL
  obtain ⟨L', fk', _, _, hs, hk'⟩ := hT.parts
  obtain ⟨A, c, e1, _⟩ := hs.sps
  obtain ⟨K', ck', e2, _, _⟩ := own_row hk'.hk
  rcases hk.2 with ⟨_, h0⟩ | ⟨g, cap, cur, e, hg, hh, r2⟩
  · omega
  · injection e with ea eb ec
    subst ea eb ec
    obtain ⟨fp, y1, y2⟩ := x
    dsimp only at e1 e2 hT g1 g2
    subst e1 e2
    have hlen := kcells_length ks L hL
    exact ⟨g, A, c, K', ck', fp, rfl, hx, hT, (hk.cellAt _ (by omega)).trans g0, (hk.cellAt _ (by omega)).trans g1, (hk.cellAt _ (by omega)).trans g2, hk.frozenAt _⟩
theorem kcells_set : ∀ (rs : List Rex) (L : List KInfo) (j : Nat) (r : Rex) (q : Int) (s : List Sp) (ks : List Rex), rs[j]? = some r → rs.length = L.length → (kcells rs L).set (j * 3) (.int .i64 q) = kcells (rs.set j (.mk q s ks)) L
  | [], _, j, r, q, s, ks, h, _ => by simp at h
  | r' :: rs, [], j, r, q, s, ks, _, h => by simp at h
  | r' :: rs, x :: L, 0, r, q, s, ks, h, hl => by simp [kcells, kcell, Rex.kind]
  | r' :: rs, x :: L, j + 1, r, q, s, ks, h, hl => by
    have := kcells_set rs L j r q s ks (by simpa using h) (by simpa using hl)
    rw [show (j + 1) * 3 = j * 3 + 1 + 1 + 1 by omega]
    simp only [kcells, kcell, List.cons_append, List.nil_append, List.set_cons_succ, this]
theorem kcells_same : ∀ (rs : List Rex) (L : List KInfo) (j : Nat) (r r' : Rex), rs[j]? = some r → r'.kind = r.kind → kcells (rs.set j r') L = kcells rs L
  | [], _, j, r, r', h, _ => by simp at h
  | r0 :: rs, [], j, r, r', _, _ => by cases j <;> simp [kcells]
  | r0 :: rs, x :: L, 0, r, r', h, e => by simp at h; subst h; simp [kcells, kcell, e]
  | r0 :: rs, x :: L, j + 1, r, r', h, e => by
    have := kcells_same rs L j r r' (by simpa using h) e
    simp only [List.set_cons_succ, kcells, this]
theorem vblk_of_some {g n c : Nat} : vblk (.slice (some ⟨g, 0, none⟩) n c) = [g] := rfl
/-- a kind is stored -/
theorem OwnK.set_kind {w : World} {fk : List Nat} {ks : List Rex} {g n ck : Nat} {L : List KInfo} (h : OwnK w fk ks (.slice (some ⟨g, 0, none⟩) n ck) L) (j : Nat) {r : Rex} (hr : ks[j]? = some r) (q : Int) :
    OwnK (w.setCell ⟨g, j * 3, none⟩ (.int .i64 q)) fk (ks.set j (.mk q r.set r.kids)) (.slice (some ⟨g, 0, none⟩) n ck) L := by
  obtain ⟨hL, hk, hn, hrr, fe, nd⟩ := h
  have hl : (ks.set j (.mk q r.set r.kids)).length = ks.length := List.length_set
  have en : n = ks.length := by
    rcases hk.2 with ⟨h0, _⟩ | ⟨g', cap', cur, h0, _⟩
    · simp at h0
    · simp at h0; exact h0.2.1
  subst en
  have s1 := (hk.stored (j * 3) (.int .i64 q)).1
  rw [kcells_set ks L j r q r.set r.kids hr hL] at s1
  refine ⟨by rw [hl]; exact hL, by rw [hl]; exact s1, by rw [hl]; exact hn, fun i r' x hi hx => ?_, fe, nd⟩
  have stay : ∀ {r0 : Rex}, OwnT w x.fp r0 x.v1 x.v2 → OwnT (w.setCell ⟨g, j * 3, none⟩ (.int .i64 q)) x.fp r0 x.v1 x.v2 := fun hT => hT.stay fun b hb => by
    refine Below.heap_setCell _ _ _ _ fun e => ?_
    rw [fe, vblk_of_some] at nd
    exact (List.nodup_cons.1 nd).1 (by have := mem_fps.2 ⟨i, x, hx, hb⟩; rw [show b = g from e] at this; exact this)
  rw [List.getElem?_set] at hi
  split at hi
  · rename_i e
    subst e
    split at hi
    · injection hi with hi
      subst hi
      have hT := hrr j r x hr hx
      obtain ⟨L', fk', e1, e2, hs, hk'⟩ := hT.parts
      have hN := OwnT.of (k := q) hs hk' (by rw [← e1]; exact e2)
      rw [← e1] at hN
      exact stay hN
    · cases hi
  · exact stay (hrr i r' x hi hx)
/-- a kid is turned in its own blocks -/
theorem OwnK.set_kid {w w' : World} {fk : List Nat} {ks : List Rex} {v2 : Value} {L : List KInfo} (h : OwnK w fk ks v2 L) (j : Nat) {r r' : Rex} {x : KInfo} (hr : ks[j]? = some r) (hx : L[j]? = some x) (ht : Touch x.fp w w') (ho : OwnT w' x.fp r' x.v1 x.v2) (hk : r'.kind = r.kind) :
    OwnK w' fk (ks.set j r') v2 L := by
  have hlt := h.lt
  obtain ⟨hL, hkk, hn, hrr, fe, nd⟩ := h
  have hl : (ks.set j r').length = ks.length := List.length_set
  rw [fe] at nd hlt
  obtain ⟨nd1, nd2, nd3⟩ := List.nodup_append.1 nd
  refine ⟨by rw [hl]; exact hL, by rw [hl, kcells_same ks L j r r' hr hk]; exact own_move hkk fun g hg => ht.block g (hkk.lt g hg).2 fun h2 => nd3 g (mem_vblk.2 hg) g (mem_fps.2 ⟨j, x, hx, h2⟩) rfl, by rw [hl]; exact hn, fun i r0 y hi hy => ?_, fe, by rw [fe]; exact nd⟩
  rw [List.getElem?_set] at hi
  split at hi
  · rename_i e
    subst e
    split at hi
    · injection hi with hi
      subst hi
      rw [hx] at hy
      injection hy with hy
      subst hy
      exact ho
    · cases hi
  · rename_i hne
    have hT := hrr i r0 y hi hy
    refine hT.stay fun b hb => ht.block b (hT.lt b hb) fun h2 => ?_
    -- two kids have no block in common
    have key : ∀ (M : List KInfo) (i j : Nat) (x y : KInfo), (fps M).Nodup → M[i]? = some x → M[j]? = some y → i ≠ j → ∀ b, b ∈ x.fp → b ∈ y.fp → False := by
      intro M
      induction M with
      | nil => intro i j x y _ h; simp at h
      | cons z M ih =>
        intro i j x y hn hi hj hij b h1 h2
        rw [fps_cons] at hn
        obtain ⟨n1, n2, n3⟩ := List.nodup_append.1 hn
        cases i with
        | zero =>
          cases j with
          | zero => exact hij rfl
          | succ j => simp at hi hj; subst hi; exact n3 b h1 b (mem_fps.2 ⟨j, y, hj, h2⟩) rfl
        | succ i =>
          cases j with
          | zero => simp at hi hj; subst hj; exact n3 b h2 b (mem_fps.2 ⟨i, x, hi, h1⟩) rfl
          | succ j => exact ih i j x y n2 (by simpa using hi) (by simpa using hj) (by omega) b h1 h2
    exact key L j i x y nd2 hx hy hne b h2 hb
end Go.Proofs.Ytiaccimbkghofaa

/- markRex, markRexS. -/
namespace Go.Proofs.Ytiaccimbkghofaa
set_option linter.unusedSimpArgs false
set_option linter.unusedVariables false
open Go.RowKit

theorem set_mk (k : Int) (s : List Sp) (ks : List Rex) : (Rex.mk k s ks).set = s := rfl
theorem kids_mk (k : Int) (s : List Sp) (ks : List Rex) : (Rex.mk k s ks).kids = ks := rfl
theorem kind_mk (k : Int) (s : List Sp) (ks : List Rex) : (Rex.mk k s ks).kind = k := rfl
def MarkOk (ks : List Rex) : Prop := ∀ (fk : List Nat) (K : Option Addr) (ck : Nat) (L : List KInfo) (q : Int) (w : World), OwnK w fk ks (.slice K ks.length ck) L → 0 ≤ q → q + cntL ks ≤ 1073741824 →
  Calls Try.prog 64 #[.slice K ks.length ck, .int .i64 q] w fun e w' => e = .returned (.int .i64 (q + cntL ks)) ∧ OwnK w' fk (markL q ks) (.slice K ks.length ck) L ∧ Touch fk w w'

theorem OwnK.len_le {w : World} {fk : List Nat} {ks : List Rex} {v2 : Value} {L : List KInfo} (h : OwnK w fk ks v2 L) : ks.length ≤ 9223372036854775807 := h.hn

set_option maxHeartbeats 4000000 in
theorem markRexS_of (ks : List Rex) (ih : ∀ r, r ∈ ks → MarkOk r.kids) : MarkOk ks := by
  intro fk K ck L q w h h0 h1
  have hlen := h.len_le
  have HO := Lib.hid h
  have HL := Lib.hid (markL_length ks q)
  clear h
  go_enter Try.func64, Try.ntmps64
  go_wp2
  go_loopg [1, 5] (ks.length) (fun n q' i wr => ∃ j : Nat, j + n = ks.length ∧ i = .int .i64 j ∧ q' = .int .i64 (q + cntL (ks.take j)) ∧ Hid (OwnK wr fk ((markL q ks).take j ++ ks.drop j) (.slice K ks.length ck) L) ∧ Hid (Touch fk w wr))
  case atStart => exact ⟨0, by omega, rfl, by simp [cntL], by simpa [Hid] using HO.out, Touch.refl _ _⟩
  case round =>
    obtain ⟨j, hj, rfl, rfl, HK, HT⟩ := hrel
    have hle := cntL_take_le ks j
    by_cases hlt : j < ks.length
    · have hr : ks[j]? = some ks[j] := List.getElem?_eq_getElem hlt
      obtain ⟨r, hr'⟩ : ∃ r, r = ks[j] := ⟨_, rfl⟩
      rw [← hr'] at hr
      clear hr'
      have hr2 := hr
      rw [← mix_get (markL q ks) ks j hlt HL.out] at hr2
      obtain ⟨g, _, _, _, _, _, rfl, _, _, c0, _, _, f0⟩ := HK.out.at_ j hr2
      have HR := Lib.hid hr
      have HR2 := Lib.hid hr2
      have hct := cntL_take hr
      have hcl := cntL_take_le ks (j + 1)
      have hcn := cnt_of r
      have hmem := List.mem_of_getElem? hr
      obtain ⟨p, hp⟩ : ∃ p : Nat, p = cntL (ks.take j) := ⟨_, rfl⟩
      rw [← hp] at hct hle ⊢
      have HP := Lib.hid hp
      have HCT := Lib.hid hct
      have HCN := Lib.hid hcn
      have hb1 : q + (p : Int) + 1 + 2 * (r.set.length : Int) + cntL r.kids ≤ 1073741824 := by omega
      clear hr hr2 hp hct hcn hcl hle
      -- the world behind the store of the kind
      obtain ⟨ws, hws⟩ : ∃ x, x = wr.setCell ⟨g, j * 3, none⟩ (.int .i64 (q + (p : Int))) := ⟨_, rfl⟩
      have hs1 := HK.out.set_kind j HR2.out (q + (p : Int))
      have ht1 := HT.out.set (p := ⟨g, j * 3, none⟩) (by rw [HK.out.fe]; simp [vblk_of_some]) (.int .i64 (q + (p : Int)))
      have hX1 : (((markL q ks).take j ++ ks.drop j).set j (.mk (q + (p : Int)) r.set r.kids))[j]? = some (.mk (q + (p : Int)) r.set r.kids) := by
        rw [List.getElem?_set, if_pos rfl, if_pos (by rw [mix_length _ _ _ HL.out (by omega)]; exact hlt)]
      rw [← hws] at hs1 ht1
      replace hws := hws.symm
      have HS1 := Lib.hid hs1
      have HT1 := Lib.hid ht1
      have HX1 := Lib.hid hX1
      clear hX1 hs1 ht1
      obtain ⟨g', A, c, K2, ck2, fp, eK, HX, HY, _, d1, d2, _⟩ := HS1.out.at_ j HX1.out
      injection eK with eK
      injection eK with eK
      subst eK
      simp only [set_mk, kids_mk] at HX HY d1 d2
      obtain ⟨L1, fk1, hfp, hnd, hos, hok⟩ := HY.out.parts
      simp only [set_mk, kids_mk] at hos hok
      have HFP := Lib.hid hfp
      have HND := Lib.hid hnd
      have HOS := Lib.hid hos
      have HOK := Lib.hid hok
      clear hfp hnd hos hok
      have hslen : r.set.length ≤ 1073741824 := by omega
      have HFd : Hid (fk = g :: fps L) := by have := HS1.out.fe; rw [vblk_of_some] at this; exact this
      have HGN : Hid (g ∉ fp) := fun hg => by
        have n := HS1.out.nd
        rw [HFd.out] at n
        exact (List.nodup_cons.1 n).1 (mem_fps.2 ⟨j, _, HX.out, hg⟩)
      go_wp2_with fail
      clear hws c0 f0
      refine (markSpanS_c A c r.set _ _ HOS.out (by omega) (by omega) hslen).mono ?_
      rintro e w2 ⟨rfl, os2, g2⟩
      have T2 := Touch.of_grown g2
      have HT2 := Lib.hid T2
      have HOS2 := Lib.hid os2
      have hgv : g ∉ vblk (.slice A r.set.length c) := fun hg => HGN.out (by rw [HFP.out]; simp [hg])
      have n2 : w2.cell? ⟨g, j * 3 + 2, none⟩ = some (.slice K2 r.kids.length ck2) := by
        rw [World.cell?_of_block (w := ws) (T2.block g (World.block_lt_of_cell? ws _ d2) hgv)]
        exact d2
      have HOK2 : Hid (OwnK w2 fk1 r.kids (.slice K2 r.kids.length ck2) L1) := HOK.out.stay fun b hb => T2.block b (HOK.out.lt b hb) fun hv => by
        have n := HND.out
        rw [HFP.out] at n
        exact (List.nodup_append.1 n).2.2 b hv b hb rfl
      clear T2 g2 os2 d1 d2 hgv
      go_wp2_with fail
      refine (ih r hmem fk1 K2 ck2 L1 _ _ HOK2.out (by omega) (by omega)).mono ?_
      rintro e w3 ⟨rfl, ok3, t3⟩
      have HOK3 := Lib.hid ok3
      have HT3 := Lib.hid t3
      clear n2 ok3 t3
      go_wp2
      go_roundg (gk - 1)
      case rel =>
        have hct := HCT.out
        have hcn := HCN.out
        have hpp := HP.out
        refine ⟨j + 1, by omega, by go_num, by rw [hct]; congr 1; omega, ?_, ?_⟩
        · -- the kid in its own blocks
          have hos3 : OwnSp w3 0 (.slice A r.set.length c) (markSps (q + (p : Int) + 1) r.set) := HOS2.out.stay fun b hb => HT3.out.block b (HOS2.out.lt b hb).2 fun hv => by
            have n := HND.out
            rw [HFP.out] at n
            exact (List.nodup_append.1 n).2.2 b hb b hv rfl
          have hT := OwnT.of (k := q + (p : Int)) hos3 HOK3.out (by rw [← HFP.out]; exact HND.out)
          rw [← HFP.out] at hT
          have tt : Touch fp ws w3 := (HT2.out.wide fun b hb => by rw [HFP.out]; simp [hb]).trans (HT3.out.wide fun b hb => by rw [HFP.out]; simp [hb])
          have hK := HS1.out.set_kid j HX1.out HX.out tt hT rfl
          rw [List.set_set] at hK
          have e1 := markL_get (q := q) HR.out
          rw [markN_of, ← HP.out] at e1
          rw [mix_step _ _ _ _ _ HR.out e1 HL.out] at hK
          exact hK
        · have tt : Touch fk ws w3 := (HT2.out.wide fun b hb => by rw [HFd.out]; exact List.mem_cons_of_mem _ (mem_fps.2 ⟨j, _, HX.out, by rw [HFP.out]; simp [hb]⟩)).trans (HT3.out.wide fun b hb => by rw [HFd.out]; exact List.mem_cons_of_mem _ (mem_fps.2 ⟨j, _, HX.out, by rw [HFP.out]; simp [hb]⟩))
          exact HT1.out.trans tt
      case measure => omega
    · obtain ⟨p, hp⟩ : ∃ p : Nat, p = cntL (ks.take j) := ⟨_, rfl⟩
      rw [← hp] at hle ⊢
      have HP := Lib.hid hp
      clear hp
      go_wp2
      go_ret
      have hj' : j = ks.length := by omega
      refine ⟨ret_int (by rw [HP.out, hj', List.take_length]), ?_, HT.out⟩
      have := HK.out
      rw [hj', List.drop_length, List.append_nil, List.take_of_length_le (by rw [markL_length]; exact Nat.le_refl _)] at this
      exact this

theorem markRexS_c (r : Rex) : MarkOk r.kids := by
  refine Rex.ind (p := fun r => MarkOk r.kids) (fun k s ks ih => ?_) r
  exact markRexS_of ks ih

set_option maxHeartbeats 2000000 in
theorem markRex_c (r : Rex) (v1 v2 : Value) (fp : List Nat) (q : Int) (w : World) (h : OwnT w fp r v1 v2) (h0 : 0 ≤ q) (h1 : q + r.cnt ≤ 1073741824) :
    Calls Try.prog 28 #[.agg #[.int .i64 r.kind, v1, v2], .int .i64 q] w fun e w' => e = .returned (.int .i64 (q + r.cnt)) ∧ OwnT w' fp (markT q r) v1 v2 ∧ Touch fp w w' := by
  obtain ⟨L, fk, hfp, hnd, hos, hok⟩ := h.parts
  obtain ⟨A, c, rfl, _⟩ := hos.sps
  obtain ⟨K, ck, rfl, _, _⟩ := own_row hok.hk
  have hcn := cnt_of r
  have hb1 : q + 2 * (r.set.length : Int) + cntL r.kids ≤ 1073741824 := by omega
  have hslen : r.set.length ≤ 1073741824 := by omega
  have hcn' : q + (r.cnt : Int) = q + 2 * (r.set.length : Int) + cntL r.kids := by omega
  rw [hcn']
  clear hcn hcn' h1
  obtain ⟨wa, hwa⟩ : ∃ x, x = w.alloc (.cells #[.int .i64 r.kind, .slice A r.set.length c, .slice K r.kids.length ck] TRx) := ⟨_, rfl⟩
  have hb : Below w.heap.size w wa := by rw [hwa]; exact below_alloc (Below.refl _ _) _
  have m0 : Blk wa w.heap.size #[.int .i64 r.kind, .slice A r.set.length c, .slice K r.kids.length ck] TRx := by rw [hwa]; exact blk_new w _ _
  replace hwa := hwa.symm
  have HLT := Lib.hid h.lt
  have HB := Lib.hid hb
  have M0 := Lib.hid m0
  have HOS := Lib.hid (hos.below hb)
  have HOK := Lib.hid (hok.under hb)
  have HFP := Lib.hid hfp
  have HND := Lib.hid hnd
  have HF0 : Hid (∀ b, b ∈ fk → b < w.heap.size) := hok.lt
  have HF1 : Hid (∀ b, b ∈ vblk (.slice A r.set.length c) → b < w.heap.size) := fun b hb => (hos.lt b hb).2
  have n1 : wa.cell? ⟨w.heap.size, 1, none⟩ = some (.slice A r.set.length c) := by rw [m0.cell]; rfl
  clear h hb m0 hos hok hfp hnd
  go_enter Try.func28, Try.ntmps28
  go_wp2_with fail
  clear hwa
  refine (markSpanS_c A c r.set _ _ HOS.out (by omega) (by omega) hslen).mono ?_
  rintro e w2 ⟨rfl, os2, g2⟩
  have T2 := Touch.of_grown g2
  have n2 : w2.cell? ⟨w.heap.size, 2, none⟩ = some (.slice K r.kids.length ck) := by
    rw [World.cell?_of_block (w := wa) (T2.block w.heap.size M0.out.lt fun hv => by have := HF1.out _ hv; omega), M0.out.cell]
    rfl
  have HT2 := Lib.hid T2
  have HOS2 := Lib.hid os2
  have HOK2 : Hid (OwnK w2 fk r.kids (.slice K r.kids.length ck) L) := HOK.out.stay fun b hb => T2.block b (HOK.out.lt b hb) fun hv => by
    have n := HND.out
    rw [HFP.out] at n
    exact (List.nodup_append.1 n).2.2 b hv b hb rfl
  clear T2 g2 os2 n1
  go_wp2_with fail
  refine (markRexS_c r fk K ck L _ _ HOK2.out (by omega) (by omega)).mono ?_
  rintro e w3 ⟨rfl, ok3, t3⟩
  have HOK3 := Lib.hid ok3
  have HT3 := Lib.hid t3
  clear n2 ok3 t3
  go_wp2
  go_ret
  refine ⟨rfl, ?_, ?_⟩
  · have hos3 : OwnSp w3 0 (.slice A r.set.length c) (markSps q r.set) := HOS2.out.stay fun b hb => HT3.out.block b (HOS2.out.lt b hb).2 fun hv => by
      have n := HND.out
      rw [HFP.out] at n
      exact (List.nodup_append.1 n).2.2 b hb b hv rfl
    have hT := OwnT.of (k := r.kind) hos3 HOK3.out (by rw [← HFP.out]; exact HND.out)
    rw [← HFP.out] at hT
    exact hT
  · exact (Touch.of_below HB.out).trans ((HT2.out.wide fun b hb => by rw [HFP.out]; simp [hb]).trans (HT3.out.wide fun b hb => by rw [HFP.out]; simp [hb]))

end Go.Proofs.Ytiaccimbkghofaa
