/- Sizes of trees, and comparison of trees. -/
import Derived.Test.YtlchipjckgaclaaDoorTree
import Derived.Test.YtlchipjckgaclaaDoorW2
namespace Go.Proofs.YtlchipjckgaclaaDoor
set_option linter.unusedSimpArgs false
set_option linter.unusedVariables false
set_option maxRecDepth 100000
open Go.RowKit

mutual
def Rex.size : Rex → Nat
  | .mk _ s ks => s.length + (ks.length + sizeL ks)
def sizeL : List Rex → Nat
  | [] => 0
  | r :: rs => r.size + sizeL rs
end
theorem szLeft_neg {n : Nat} {left : Int} (h : left < n) : szLeft n left < 0 := by unfold szLeft; rw [if_pos h]; omega
theorem szLeft_neg1 {n : Nat} {left : Int} (h : left < n) : szLeft n left = -1 := by unfold szLeft; rw [if_pos h]
theorem szLeft_pos {n : Nat} {left : Int} (h : ¬ left < n) : szLeft n left = left - n := by unfold szLeft; rw [if_neg h]
theorem szLeft_add1 {n m : Nat} {left : Int} (h : left < n) : szLeft (n + m) left = -1 := szLeft_neg1 (by omega)
theorem szLeft_add {n m : Nat} {left : Int} (h : ¬ left < n) : szLeft (n + m) left = szLeft m (left - n) := by
  unfold szLeft
  by_cases h2 : left < ((n + m : Nat) : Int)
  · rw [if_pos h2, if_pos (by omega)]
  · rw [if_neg h2, if_neg (by omega)]; omega

def SzOk (r : Rex) : Prop := ∀ (v1 v2 : Value) (left : Int) (w : World) (lo : Nat), RexV w lo r (.int .i64 r.kind) v1 v2 → 0 ≤ left → left ≤ 1048576 →
  Calls Tryd.prog 14 #[.agg #[.int .i64 r.kind, v1, v2], .int .i64 left] w fun e w' => e = .returned (.int .i64 (szLeft r.size left)) ∧ Below w.heap.size w w'

set_option maxHeartbeats 1000000 in
theorem szRexS_of (ks : List Rex) (ih : ∀ r, r ∈ ks → SzOk r) (K : Option Addr) (ck : Nat) (left : Int) (w : World) (lo : Nat) (h : Kids w lo K ck ks) (h0 : 0 ≤ left) (h1 : left ≤ 1048576) :
    Calls Tryd.prog 46 #[.slice K ks.length ck, .int .i64 left] w fun e w' => e = .returned (.int .i64 (szLeft (ks.length + sizeL ks) left)) ∧ Below w.heap.size w w' := by
  have hlen := h.len
  unfold maxN at hlen
  by_cases hb : left < ks.length
  · have E := Lib.hid (szLeft_add1 (m := sizeL ks) hb)
    go_enter Tryd.func46, Tryd.ntmps46
    go_wp2
    go_ret
    exact ⟨ret_int E.out.symm, Below.refl _ _⟩
  · have E := Lib.hid (szLeft_add (m := sizeL ks) hb)
    have hb' : ¬ (left - (ks.length : Int) < 0) := by omega
    go_enter Tryd.func46, Tryd.ntmps46
    go_wp2
    go_loopg [1, 5] (ks.length) (fun n l i wr => ∃ k : Nat, k + n = ks.length ∧ i = .int .i64 k ∧ ∃ x : Int, l = .int .i64 x ∧ 0 ≤ x ∧ x ≤ 1048576 ∧ Hid (szLeft (sizeL (ks.drop k)) x = szLeft (ks.length + sizeL ks) left) ∧ Hid (Below w.heap.size w wr))
    case atStart => exact ⟨0, by omega, rfl, _, rfl, by omega, by omega, by rw [E.out]; rfl, Below.refl _ _⟩
    case round =>
      clear hb hb'
      obtain ⟨k, hk, rfl, x, rfl, hx0, hx1, HS, HB⟩ := hrel
      by_cases hlt : k < ks.length
      · obtain ⟨a, r, v1, v2, rfl, HX, HD, HV, c0, c1, c2⟩ := (h.below HB.out).at_ k hlt
        go_wp2_with fail
        refine (ih r (List.mem_of_getElem? HX.out) v1 v2 x _ _ HV.out hx0 hx1).mono ?_
        rintro e w2 ⟨rfl, b2⟩
        clear c0 c1 c2
        have E2 : Hid (sizeL (ks.drop k) = r.size + sizeL (ks.drop (k + 1))) := by show _ = _; rw [HD.out, sizeL]
        by_cases hx : x < r.size
        · have hs := szLeft_neg hx
          have HX1 := Lib.hid hx
          clear hx
          go_wp2
          go_ret
          exact ⟨ret_int (by rw [← HS.out, E2.out, szLeft_add1 HX1.out]), below_then HB.out b2⟩
        · rw [szLeft_pos hx]
          have hs : ¬ (x - (r.size : Int) < 0) := by omega
          have HX1 := Lib.hid hx
          clear hx
          go_wp2
          go_roundg (gk - 1)
          case rel => exact ⟨k + 1, by omega, by go_num, _, rfl, by omega, by omega, by rw [← HS.out, E2.out, szLeft_add (by have := HX1.out; omega)]; rfl, below_then HB.out b2⟩
          case measure => omega
      · go_wp2
        go_ret
        refine ⟨ret_int ?_, HB.out⟩
        rw [← HS.out, List.drop_of_length_le (by omega), sizeL, szLeft_pos (by simpa using hx0)]
        simp

set_option maxHeartbeats 1000000 in
theorem szRex_c (r : Rex) : SzOk r := by
  refine Rex.ind (p := SzOk) (fun k s ks ih => ?_) r
  intro v1 v2 left w lo h h0 h1
  obtain ⟨A, c, K, ck, _, rfl, rfl, hs, hk⟩ := h.parts
  dsimp only [Rex.kind, Rex.set, Rex.kids] at hs hk ⊢
  clear h
  have hlen := hs.len
  by_cases hx : left < s.length
  · have E := Lib.hid (szLeft_add1 (m := ks.length + sizeL ks) hx)
    have hs1 := szLeft_neg hx
    clear hx
    go_enter Tryd.func14, Tryd.ntmps14
    go_wp2_with fail
    refine (szSpanS_c _ _ _ _ _ hlen h0 h1).mono ?_
    rintro e w2 ⟨rfl, rfl⟩
    go_wp2
    go_ret
    exact ⟨ret_int (by rw [Rex.size, E.out]), below_alloc (Below.refl _ _) _⟩
  · have E := Lib.hid (szLeft_add (m := ks.length + sizeL ks) hx)
    go_enter Tryd.func14, Tryd.ntmps14
    go_wp2_with fail
    refine (szSpanS_c _ _ _ _ _ hlen h0 h1).mono ?_
    rintro e w2 ⟨rfl, rfl⟩
    rw [szLeft_pos (by omega : ¬ left < (s.length : Int))]
    have hs1 : ¬ (left - (s.length : Int) < 0) := by omega
    have hb := below_alloc (Below.refl w.heap.size w) (.cells #[.int .i64 k, .slice A s.length c, .slice K ks.length ck] 31)
    have hk2 := hk.below hb
    have HB := Lib.hid hb
    clear hx hb
    go_wp2_with fail
    refine (szRexS_of ks ih _ _ _ _ _ hk2 (by omega) (by omega)).mono ?_
    rintro e w3 ⟨rfl, b3⟩
    clear hs1
    by_cases hy : left - (s.length : Int) < ((ks.length + sizeL ks : Nat) : Int)
    · have hs2 := szLeft_neg hy
      have E2 := Lib.hid (szLeft_neg1 hy)
      clear hy
      go_wp2
      go_ret
      exact ⟨ret_int (by rw [Rex.size, E.out, E2.out]), below_then HB.out b3⟩
    · have hs2 : ¬ szLeft (ks.length + sizeL ks) (left - (s.length : Int)) < 0 := by rw [szLeft_pos hy]; omega
      clear hy
      go_wp2
      go_ret
      exact ⟨ret_int (by rw [Rex.size, E.out]), below_then HB.out b3⟩

/-! ### comparison -/
theorem rexEqL_len {ks ls : List Rex} (h : ks.length ≠ ls.length) : rexEqL ks ls = false := by
  induction ks generalizing ls with
  | nil => cases ls with
    | nil => simp at h
    | cons y ys => rfl
  | cons x xs ih => cases ls with
    | nil => rfl
    | cons y ys => rw [rexEqL, ih (by simpa using h), Bool.and_false]
def EqOk (r : Rex) : Prop := ∀ (r' : Rex) (v1 v2 u1 u2 : Value) (w : World) (lo lo' : Nat), RexV w lo r (.int .i64 r.kind) v1 v2 → RexV w lo' r' (.int .i64 r'.kind) u1 u2 →
  Calls Tryd.prog 18 #[.agg #[.int .i64 r.kind, v1, v2], .agg #[.int .i64 r'.kind, u1, u2]] w fun e w' => e = .returned (.bool (rexEq r r')) ∧ Below w.heap.size w w'

set_option maxHeartbeats 1000000 in
theorem eqRexS_of (ks ls : List Rex) (ih : ∀ r, r ∈ ks → EqOk r) (K L : Option Addr) (ck cl : Nat) (w : World) (lo lo' : Nat) (h : Kids w lo K ck ks) (h' : Kids w lo' L cl ls) :
    Calls Tryd.prog 50 #[.slice K ks.length ck, .slice L ls.length cl] w fun e w' => e = .returned (.bool (rexEqL ks ls)) ∧ Below w.heap.size w w' := by
  have hlen := h.len
  have hlen' := h'.len
  unfold maxN at hlen hlen'
  by_cases he : ks.length = ls.length
  · have b1 : ((ks.length : Int) != (ls.length : Int)) = false := by simp [he]
    have HE : Hid (ks.length = ls.length) := he
    clear he
    go_enter Tryd.func50, Tryd.ntmps50
    go_wp2
    go_loopg [5] (ks.length) (fun n i wr => ∃ k : Nat, k + n = ks.length ∧ i = .int .i64 k ∧ Hid (rexEqL (ks.drop k) (ls.drop k) = rexEqL ks ls) ∧ Below w.heap.size w wr)
    case atStart => exact ⟨0, by omega, rfl, by rw [List.drop_zero, List.drop_zero]; rfl, Below.refl _ _⟩
    case round =>
      obtain ⟨k, hk, rfl, HS, hb⟩ := hrel
      by_cases hlt : k < ks.length
      · have hlt' : k < ls.length := by have := HE.out; omega
        obtain ⟨a, r, v1, v2, rfl, HX, HD, HV, c0, c1, c2⟩ := (h.below hb).at_ k hlt
        obtain ⟨a', r', u1, u2, rfl, HX', HD', HV', c0', c1', c2'⟩ := (h'.below hb).at_ k hlt'
        have ST : Hid (rexEqL ks ls = (rexEq r r' && rexEqL (ks.drop (k + 1)) (ls.drop (k + 1)))) := by show _ = _; rw [← HS.out, HD.out, HD'.out, rexEqL]
        have HV1 := Lib.hid (HV.out.under (below_drew (Below.refl _ _)))
        have HV2 := Lib.hid (HV'.out.under (below_drew (Below.refl _ _)))
        go_wp2
        go_still_tail 8, (by kernel_rfl)
        by_cases hq : rexEq r r' = true
        · have HQ := Lib.hid hq
          clear hq
          go_wp2_with (go_at_call 18; refine (ih r (List.mem_of_getElem? HX.out) r' v1 v2 u1 u2 _ _ _ HV1.out HV2.out).mono ?_; rintro e w' ⟨rfl, hb'⟩; rw [HQ.out])
          go_roundg (gk - 1)
          case rel => exact ⟨k + 1, by omega, by go_num, by rw [ST.out, HQ.out]; rfl, below_then (below_drew hb) hb'⟩
          case measure => omega
        · have HQ : Hid (rexEq r r' = false) := by show _ = _; simpa using hq
          clear hq
          go_wp2_with (go_at_call 18; refine (ih r (List.mem_of_getElem? HX.out) r' v1 v2 u1 u2 _ _ _ HV1.out HV2.out).mono ?_; rintro e w' ⟨rfl, hb'⟩; rw [HQ.out])
          go_ret
          exact ⟨ret_bool (by rw [ST.out, HQ.out]; rfl), below_then (below_drew hb) hb'⟩
      · go_wp2
        go_ret
        exact ⟨ret_bool (by rw [← HS.out, List.drop_of_length_le (by omega), List.drop_of_length_le (by have := HE.out; omega)]; rfl), hb⟩
  · have b1 : ((ks.length : Int) != (ls.length : Int)) = true := by simp; omega
    have b2 : (ks.length == ls.length) = false := by simp [he]
    have C := Lib.hid (rexEqL_len he)
    clear he
    go_enter Tryd.func50, Tryd.ntmps50
    go_wp2
    go_ret
    exact ⟨ret_bool C.out.symm, Below.refl _ _⟩

theorem cell_at {w w' : World} {g : Nat} {cs : Array Value} {t : TypeId} (h : w.heap[g]? = some (.cells cs t (0, 0))) (i : Nat) : w.cell? ⟨g, i, none⟩ = cs[i]? := cell_of_row w g i cs t (0, 0) h

set_option maxHeartbeats 1000000 in
theorem eqRex_c (r : Rex) : EqOk r := by
  refine Rex.ind (p := EqOk) (fun k s ks ih => ?_) r
  intro r' v1 v2 u1 u2 w lo lo' h h'
  obtain ⟨k', s', ks'⟩ := r'
  obtain ⟨A, c, K, ck, _, rfl, rfl, hs, hk⟩ := h.parts
  obtain ⟨A', c', K', ck', _, rfl, rfl, hs', hk'⟩ := h'.parts
  dsimp only [Rex.kind, Rex.set, Rex.kids] at hs hk hs' hk' ⊢
  clear h h'
  obtain ⟨wa, hwa⟩ : ∃ x, x = (w.alloc (.cells #[.int .i64 k, .slice A s.length c, .slice K ks.length ck] 36)).alloc (.cells #[.int .i64 k', .slice A' s'.length c', .slice K' ks'.length ck'] 36) := ⟨_, rfl⟩
  have hb : Below w.heap.size w wa := by rw [hwa]; exact below_alloc (below_alloc (Below.refl _ _) _) _
  have m0 : wa.heap[w.heap.size]? = some (.cells #[.int .i64 k, .slice A s.length c, .slice K ks.length ck] 36 (0, 0)) := by
    rw [hwa]
    exact ((below_alloc (Below.refl _ _) _).block _ (by simp)).trans (heap_alloc_new w _)
  have m1 : wa.heap[w.heap.size + 1]? = some (.cells #[.int .i64 k', .slice A' s'.length c', .slice K' ks'.length ck'] 36 (0, 0)) := by
    rw [hwa]
    have := heap_alloc_new (w.alloc (.cells #[.int .i64 k, .slice A s.length c, .slice K ks.length ck] 36)) (.cells #[.int .i64 k', .slice A' s'.length c', .slice K' ks'.length ck'] 36)
    simpa using this
  have hsz : wa.heap.size = w.heap.size + 2 := by rw [hwa]; simp
  have HS := Lib.hid (hs.below hb)
  have HS' := Lib.hid (hs'.below hb)
  have HK := Lib.hid (hk.below hb)
  have HK' := Lib.hid (hk'.below hb)
  have HB := Lib.hid hb
  have M0 := Lib.hid m0
  have M1 := Lib.hid m1
  have HZ := Lib.hid hsz
  clear hb m0 m1 hs hs' hk hk' hsz
  have hlen := HS.out.len
  have hlen' := HS'.out.len
  unfold maxN at hlen hlen'
  go_enter Tryd.func18, Tryd.ntmps18
  by_cases e0 : k = k'
  · subst e0
    go_wp2_with fail
    rw [← hwa]
    refine (eqSpanS_c _ _ _ _ _ _ _ HS.out HS'.out).mono ?_
    rintro e w3 ⟨rfl, b3⟩
    have n0 : w3.cell? ⟨w.heap.size, 2, none⟩ = some (.slice K ks.length ck) := by
      rw [cell_at (w' := w3) ((b3.block _ (by have := HZ.out; omega)).trans M0.out)]; rfl
    have n1 : w3.cell? ⟨w.heap.size + 1, 2, none⟩ = some (.slice K' ks'.length ck') := by
      rw [cell_at (w' := w3) ((b3.block _ (by have := HZ.out; omega)).trans M1.out)]; rfl
    have HK2 := Lib.hid (HK.out.below b3)
    have HK2' := Lib.hid (HK'.out.below b3)
    have HB3 := Lib.hid (below_then HB.out b3)
    clear b3
    by_cases e1 : s = s'
    · have E1 := Lib.hid e1
      rw [decide_eq_true e1]
      clear e1 hwa M0 M1 HK HK' HS HS' HB
      go_wp2_with fail
      refine (eqRexS_of ks ks' ih _ _ _ _ _ _ _ HK2.out HK2'.out).mono ?_
      rintro e w4 ⟨rfl, b4⟩
      have HB4 := Lib.hid (below_then HB3.out b4)
      clear b4 n0 n1
      by_cases e2 : rexEqL ks ks' = true
      · have E2 := Lib.hid e2
        rw [e2]
        clear e2
        go_wp2
        go_ret
        exact ⟨ret_bool (by rw [rexEq, decide_eq_true rfl, decide_eq_true E1.out, E2.out]; rfl), HB4.out⟩
      · replace e2 : rexEqL ks ks' = false := by simpa using e2
        have E2 := Lib.hid e2
        rw [e2]
        clear e2
        go_wp2
        go_ret
        exact ⟨ret_bool (by rw [rexEq, E2.out, Bool.and_false]), HB4.out⟩
    · have E1 := Lib.hid e1
      rw [decide_eq_false e1]
      clear e1 hwa
      go_wp2
      go_ret
      exact ⟨ret_bool (by rw [rexEq, decide_eq_false E1.out]; simp), HB3.out⟩
  · have b0 : (k != k') = true := by simp [e0]
    have E0 := Lib.hid e0
    clear e0
    go_wp2
    rw [← hwa]
    go_ret
    exact ⟨ret_bool (by rw [rexEq, decide_eq_false E0.out]; rfl), HB.out⟩

end Go.Proofs.YtlchipjckgaclaaDoor
