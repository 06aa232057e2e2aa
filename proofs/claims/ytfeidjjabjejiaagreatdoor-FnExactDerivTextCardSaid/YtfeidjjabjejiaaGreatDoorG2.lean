/- Texts joined for the claims: T1 Own W3 Blk OwnT. -/
import Derived.Test.YtfeidjjabjejiaaGreatDoorG1
/- Sizes of trees, and comparison of trees. -/
namespace Go.Proofs.YtfeidjjabjejiaaGreatDoor
set_option linter.unusedSimpArgs false
set_option linter.unusedVariables false
set_option maxRecDepth 100000
open Go.RowKit

mutual
def Rex.size : Rex → Nat
  | .mk _ s ks => s.length + (ks.length + sizeL ks)
def sizeL : List Rex → Nat
  | [] => 0
  | r :: rs => r.size + sizeL rs
end
theorem szLeft_neg {n : Nat} {left : Int} (h : left < n) : szLeft n left < 0 := by unfold szLeft; rw [if_pos h]; omega
theorem szLeft_neg1 {n : Nat} {left : Int} (h : left < n) : szLeft n left = -1 := by unfold szLeft; rw [if_pos h]
theorem szLeft_pos {n : Nat} {left : Int} (h : ¬ left < n) : szLeft n left = left - n := by unfold szLeft; rw [if_neg h]
theorem szLeft_add1 {n m : Nat} {left : Int} (h : left < n) : szLeft (n + m) left = -1 := szLeft_neg1 (by omega)
theorem szLeft_add {n m : Nat} {left : Int} (h : ¬ left < n) : szLeft (n + m) left = szLeft m (left - n) := by
  unfold szLeft
  by_cases h2 : left < ((n + m : Nat) : Int)
  · rw [if_pos h2, if_pos (by omega)]
  · rw [if_neg h2, if_neg (by omega)]; omega

def SzOk (r : Rex) : Prop := ∀ (v1 v2 : Value) (left : Int) (w : World) (lo : Nat), RexV w lo r (.int .i64 r.kind) v1 v2 → 0 ≤ left → left ≤ 1048576 →
  Calls Tryz.prog 23 #[.agg #[.int .i64 r.kind, v1, v2], .int .i64 left] w fun e w' => e = .returned (.int .i64 (szLeft r.size left)) ∧ Below w.heap.size w w'

set_option maxHeartbeats 1000000 in
theorem szRexS_of (ks : List Rex) (ih : ∀ r, r ∈ ks → SzOk r) (K : Option Addr) (ck : Nat) (left : Int) (w : World) (lo : Nat) (h : Kids w lo K ck ks) (h0 : 0 ≤ left) (h1 : left ≤ 1048576) :
    Calls Tryz.prog 70 #[.slice K ks.length ck, .int .i64 left] w fun e w' => e = .returned (.int .i64 (szLeft (ks.length + sizeL ks) left)) ∧ Below w.heap.size w w' := by
  have hlen := h.len
  unfold maxN at hlen
  by_cases hb : left < ks.length
  · have E := Lib.hid (szLeft_add1 (m := sizeL ks) hb)
    go_enter Tryz.func70, Tryz.ntmps70
    go_wp2
    go_ret
    exact ⟨ret_int E.out.symm, Below.refl _ _⟩
  · have E := Lib.hid (szLeft_add (m := sizeL ks) hb)
    have hb' : ¬ (left - (ks.length : Int) < 0) := by omega
    go_enter Tryz.func70, Tryz.ntmps70
    go_wp2
    go_loopg [1, 5] (ks.length) (fun n l i wr => ∃ k : Nat, k + n = ks.length ∧ i = .int .i64 k ∧ ∃ x : Int, l = .int .i64 x ∧ 0 ≤ x ∧ x ≤ 1048576 ∧ Hid (szLeft (sizeL (ks.drop k)) x = szLeft (ks.length + sizeL ks) left) ∧ Hid (Below w.heap.size w wr))
    case atStart => exact ⟨0, by omega, rfl, _, rfl, by omega, by omega, by rw [E.out]; rfl, Below.refl _ _⟩
    case round =>
      clear hb hb'
      obtain ⟨k, hk, rfl, x, rfl, hx0, hx1, HS, HB⟩ := hrel
      by_cases hlt : k < ks.length
      · obtain ⟨a, r, v1, v2, rfl, HX, HD, HV, c0, c1, c2⟩ := (h.below HB.out).at_ k hlt
        go_wp2_with fail
        refine (ih r (List.mem_of_getElem? HX.out) v1 v2 x _ _ HV.out hx0 hx1).mono ?_
        rintro e w2 ⟨rfl, b2⟩
        clear c0 c1 c2
        have E2 : Hid (sizeL (ks.drop k) = r.size + sizeL (ks.drop (k + 1))) := by show _ = _; rw [HD.out, sizeL]
        by_cases hx : x < r.size
        · have hs := szLeft_neg hx
          have HX1 := Lib.hid hx
          clear hx
          go_wp2
          go_ret
          exact ⟨ret_int (by rw [← HS.out, E2.out, szLeft_add1 HX1.out]), below_then HB.out b2⟩
        · rw [szLeft_pos hx]
          have hs : ¬ (x - (r.size : Int) < 0) := by omega
          have HX1 := Lib.hid hx
          clear hx
          go_wp2
          go_roundg (gk - 1)
          case rel => exact ⟨k + 1, by omega, by go_num, _, rfl, by omega, by omega, by rw [← HS.out, E2.out, szLeft_add (by have := HX1.out; omega)]; rfl, below_then HB.out b2⟩
          case measure => omega
      · go_wp2
        go_ret
        refine ⟨ret_int ?_, HB.out⟩
        rw [← HS.out, List.drop_of_length_le (by omega), sizeL, szLeft_pos (by simpa using hx0)]
        simp

set_option maxHeartbeats 1000000 in
theorem szRex_c (r : Rex) : SzOk r := by
  refine Rex.ind (p := SzOk) (fun k s ks ih => ?_) r
  intro v1 v2 left w lo h h0 h1
  obtain ⟨A, c, K, ck, _, rfl, rfl, hs, hk⟩ := h.parts
  dsimp only [Rex.kind, Rex.set, Rex.kids] at hs hk ⊢
  clear h
  have hlen := hs.len
  by_cases hx : left < s.length
  · have E := Lib.hid (szLeft_add1 (m := ks.length + sizeL ks) hx)
    have hs1 := szLeft_neg hx
    clear hx
    go_enter Tryz.func23, Tryz.ntmps23
    go_wp2_with fail
    refine (szSpanS_c _ _ _ _ _ hlen h0 h1).mono ?_
    rintro e w2 ⟨rfl, rfl⟩
    go_wp2
    go_ret
    exact ⟨ret_int (by rw [Rex.size, E.out]), below_alloc (Below.refl _ _) _⟩
  · have E := Lib.hid (szLeft_add (m := ks.length + sizeL ks) hx)
    go_enter Tryz.func23, Tryz.ntmps23
    go_wp2_with fail
    refine (szSpanS_c _ _ _ _ _ hlen h0 h1).mono ?_
    rintro e w2 ⟨rfl, rfl⟩
    rw [szLeft_pos (by omega : ¬ left < (s.length : Int))]
    have hs1 : ¬ (left - (s.length : Int) < 0) := by omega
    have hb := below_alloc (Below.refl w.heap.size w) (.cells #[.int .i64 k, .slice A s.length c, .slice K ks.length ck] 38)
    have hk2 := hk.below hb
    have HB := Lib.hid hb
    clear hx hb
    go_wp2_with fail
    refine (szRexS_of ks ih _ _ _ _ _ hk2 (by omega) (by omega)).mono ?_
    rintro e w3 ⟨rfl, b3⟩
    clear hs1
    by_cases hy : left - (s.length : Int) < ((ks.length + sizeL ks : Nat) : Int)
    · have hs2 := szLeft_neg hy
      have E2 := Lib.hid (szLeft_neg1 hy)
      clear hy
      go_wp2
      go_ret
      exact ⟨ret_int (by rw [Rex.size, E.out, E2.out]), below_then HB.out b3⟩
    · have hs2 : ¬ szLeft (ks.length + sizeL ks) (left - (s.length : Int)) < 0 := by rw [szLeft_pos hy]; omega
      clear hy
      go_wp2
      go_ret
      exact ⟨ret_int (by rw [Rex.size, E.out]), below_then HB.out b3⟩

/-! ### comparison -/
theorem rexEqL_len {ks ls : List Rex} (h : ks.length ≠ ls.length) : rexEqL ks ls = false := by
  induction ks generalizing ls with
  | nil => cases ls with
    | nil => simp at h
    | cons y ys => rfl
  | cons x xs ih => cases ls with
    | nil => rfl
    | cons y ys => rw [rexEqL, ih (by simpa using h), Bool.and_false]
def EqOk (r : Rex) : Prop := ∀ (r' : Rex) (v1 v2 u1 u2 : Value) (w : World) (lo lo' : Nat), RexV w lo r (.int .i64 r.kind) v1 v2 → RexV w lo' r' (.int .i64 r'.kind) u1 u2 →
  Calls Tryz.prog 25 #[.agg #[.int .i64 r.kind, v1, v2], .agg #[.int .i64 r'.kind, u1, u2]] w fun e w' => e = .returned (.bool (rexEq r r')) ∧ Below w.heap.size w w'

set_option maxHeartbeats 1000000 in
theorem eqRexS_of (ks ls : List Rex) (ih : ∀ r, r ∈ ks → EqOk r) (K L : Option Addr) (ck cl : Nat) (w : World) (lo lo' : Nat) (h : Kids w lo K ck ks) (h' : Kids w lo' L cl ls) :
    Calls Tryz.prog 74 #[.slice K ks.length ck, .slice L ls.length cl] w fun e w' => e = .returned (.bool (rexEqL ks ls)) ∧ Below w.heap.size w w' := by
  have hlen := h.len
  have hlen' := h'.len
  unfold maxN at hlen hlen'
  by_cases he : ks.length = ls.length
  · have b1 : ((ks.length : Int) != (ls.length : Int)) = false := by simp [he]
    have HE : Hid (ks.length = ls.length) := he
    clear he
    go_enter Tryz.func74, Tryz.ntmps74
    go_wp2
    go_loopg [5] (ks.length) (fun n i wr => ∃ k : Nat, k + n = ks.length ∧ i = .int .i64 k ∧ Hid (rexEqL (ks.drop k) (ls.drop k) = rexEqL ks ls) ∧ Below w.heap.size w wr)
    case atStart => exact ⟨0, by omega, rfl, by rw [List.drop_zero, List.drop_zero]; rfl, Below.refl _ _⟩
    case round =>
      obtain ⟨k, hk, rfl, HS, hb⟩ := hrel
      by_cases hlt : k < ks.length
      · have hlt' : k < ls.length := by have := HE.out; omega
        obtain ⟨a, r, v1, v2, rfl, HX, HD, HV, c0, c1, c2⟩ := (h.below hb).at_ k hlt
        obtain ⟨a', r', u1, u2, rfl, HX', HD', HV', c0', c1', c2'⟩ := (h'.below hb).at_ k hlt'
        have ST : Hid (rexEqL ks ls = (rexEq r r' && rexEqL (ks.drop (k + 1)) (ls.drop (k + 1)))) := by show _ = _; rw [← HS.out, HD.out, HD'.out, rexEqL]
        have HV1 := Lib.hid (HV.out.under (below_drew (Below.refl _ _)))
        have HV2 := Lib.hid (HV'.out.under (below_drew (Below.refl _ _)))
        go_wp2
        go_still_tail 8, (by kernel_rfl)
        by_cases hq : rexEq r r' = true
        · have HQ := Lib.hid hq
          clear hq
          go_wp2_with (go_at_call 25; refine (ih r (List.mem_of_getElem? HX.out) r' v1 v2 u1 u2 _ _ _ HV1.out HV2.out).mono ?_; rintro e w' ⟨rfl, hb'⟩; rw [HQ.out])
          go_roundg (gk - 1)
          case rel => exact ⟨k + 1, by omega, by go_num, by rw [ST.out, HQ.out]; rfl, below_then (below_drew hb) hb'⟩
          case measure => omega
        · have HQ : Hid (rexEq r r' = false) := by show _ = _; simpa using hq
          clear hq
          go_wp2_with (go_at_call 25; refine (ih r (List.mem_of_getElem? HX.out) r' v1 v2 u1 u2 _ _ _ HV1.out HV2.out).mono ?_; rintro e w' ⟨rfl, hb'⟩; rw [HQ.out])
          go_ret
          exact ⟨ret_bool (by rw [ST.out, HQ.out]; rfl), below_then (below_drew hb) hb'⟩
      · go_wp2
        go_ret
        exact ⟨ret_bool (by rw [← HS.out, List.drop_of_length_le (by omega), List.drop_of_length_le (by have := HE.out; omega)]; rfl), hb⟩
  · have b1 : ((ks.length : Int) != (ls.length : Int)) = true := by simp; omega
    have b2 : (ks.length == ls.length) = false := by simp [he]
    have C := Lib.hid (rexEqL_len he)
    clear he
    go_enter Tryz.func74, Tryz.ntmps74
    go_wp2
    go_ret
    exact ⟨ret_bool C.out.symm, Below.refl _ _⟩

theorem cell_at {w w' : World} {g : Nat} {cs : Array Value} {t : TypeId} (h : w.heap[g]? = some (.cells cs t (0, 0))) (i : Nat) : w.cell? ⟨g, i, none⟩ = cs[i]? := cell_of_row w g i cs t (0, 0) h

set_option maxHeartbeats 1000000 in
theorem eqRex_c (r : Rex) : EqOk r := by
  refine Rex.ind (p := EqOk) (fun k s ks ih => ?_) r
  intro r' v1 v2 u1 u2 w lo lo' h h'
  obtain ⟨k', s', ks'⟩ := r'
  obtain ⟨A, c, K, ck, _, rfl, rfl, hs, hk⟩ := h.parts
  obtain ⟨A', c', K', ck', _, rfl, rfl, hs', hk'⟩ := h'.parts
  dsimp only [Rex.kind, Rex.set, Rex.kids] at hs hk hs' hk' ⊢
  clear h h'
  obtain ⟨wa, hwa⟩ : ∃ x, x = (w.alloc (.cells #[.int .i64 k, .slice A s.length c, .slice K ks.length ck] 26)).alloc (.cells #[.int .i64 k', .slice A' s'.length c', .slice K' ks'.length ck'] 26) := ⟨_, rfl⟩
  have hb : Below w.heap.size w wa := by rw [hwa]; exact below_alloc (below_alloc (Below.refl _ _) _) _
  have m0 : wa.heap[w.heap.size]? = some (.cells #[.int .i64 k, .slice A s.length c, .slice K ks.length ck] 26 (0, 0)) := by
    rw [hwa]
    exact ((below_alloc (Below.refl _ _) _).block _ (by simp)).trans (heap_alloc_new w _)
  have m1 : wa.heap[w.heap.size + 1]? = some (.cells #[.int .i64 k', .slice A' s'.length c', .slice K' ks'.length ck'] 26 (0, 0)) := by
    rw [hwa]
    have := heap_alloc_new (w.alloc (.cells #[.int .i64 k, .slice A s.length c, .slice K ks.length ck] 26)) (.cells #[.int .i64 k', .slice A' s'.length c', .slice K' ks'.length ck'] 26)
    simpa using this
  have hsz : wa.heap.size = w.heap.size + 2 := by rw [hwa]; simp
  have HS := Lib.hid (hs.below hb)
  have HS' := Lib.hid (hs'.below hb)
  have HK := Lib.hid (hk.below hb)
  have HK' := Lib.hid (hk'.below hb)
  have HB := Lib.hid hb
  have M0 := Lib.hid m0
  have M1 := Lib.hid m1
  have HZ := Lib.hid hsz
  clear hb m0 m1 hs hs' hk hk' hsz
  have hlen := HS.out.len
  have hlen' := HS'.out.len
  unfold maxN at hlen hlen'
  go_enter Tryz.func25, Tryz.ntmps25
  by_cases e0 : k = k'
  · subst e0
    go_wp2_with fail
    rw [← hwa]
    refine (eqSpanS_c _ _ _ _ _ _ _ HS.out HS'.out).mono ?_
    rintro e w3 ⟨rfl, b3⟩
    have n0 : w3.cell? ⟨w.heap.size, 2, none⟩ = some (.slice K ks.length ck) := by
      rw [cell_at (w' := w3) ((b3.block _ (by have := HZ.out; omega)).trans M0.out)]; rfl
    have n1 : w3.cell? ⟨w.heap.size + 1, 2, none⟩ = some (.slice K' ks'.length ck') := by
      rw [cell_at (w' := w3) ((b3.block _ (by have := HZ.out; omega)).trans M1.out)]; rfl
    have HK2 := Lib.hid (HK.out.below b3)
    have HK2' := Lib.hid (HK'.out.below b3)
    have HB3 := Lib.hid (below_then HB.out b3)
    clear b3
    by_cases e1 : s = s'
    · have E1 := Lib.hid e1
      rw [decide_eq_true e1]
      clear e1 hwa M0 M1 HK HK' HS HS' HB
      go_wp2_with fail
      refine (eqRexS_of ks ks' ih _ _ _ _ _ _ _ HK2.out HK2'.out).mono ?_
      rintro e w4 ⟨rfl, b4⟩
      have HB4 := Lib.hid (below_then HB3.out b4)
      clear b4 n0 n1
      by_cases e2 : rexEqL ks ks' = true
      · have E2 := Lib.hid e2
        rw [e2]
        clear e2
        go_wp2
        go_ret
        exact ⟨ret_bool (by rw [rexEq, decide_eq_true rfl, decide_eq_true E1.out, E2.out]; rfl), HB4.out⟩
      · replace e2 : rexEqL ks ks' = false := by simpa using e2
        have E2 := Lib.hid e2
        rw [e2]
        clear e2
        go_wp2
        go_ret
        exact ⟨ret_bool (by rw [rexEq, E2.out, Bool.and_false]), HB4.out⟩
    · have E1 := Lib.hid e1
      rw [decide_eq_false e1]
      clear e1 hwa
      go_wp2
      go_ret
      exact ⟨ret_bool (by rw [rexEq, decide_eq_false E1.out]; simp), HB3.out⟩
  · have b0 : (k != k') = true := by simp [e0]
    have E0 := Lib.hid e0
    clear e0
    go_wp2
    rw [← hwa]
    go_ret
    exact ⟨ret_bool (by rw [rexEq, decide_eq_false E0.out]; rfl), HB.out⟩

end Go.Proofs.YtfeidjjabjejiaaGreatDoor

/- Rows that a call made: of spans. -/
namespace Go.Proofs.YtfeidjjabjejiaaGreatDoor
set_option linter.unusedSimpArgs false
set_option linter.unusedVariables false
set_option maxRecDepth 100000
open Go.RowKit

theorem own_below {w w1 : World} {base n size : Nat} {e : TypeId} {v : Value} {cs : List Value} (h : w.ownsRow base e size v n cs) (hb : Below w.heap.size w w1) : w1.ownsRow base e size v n cs := by
  obtain ⟨h1, h2⟩ := h
  refine ⟨h1, ?_⟩
  rcases h2 with h2 | ⟨g, cap, cur, rfl, hg, hh, r⟩
  · exact .inl h2
  · exact .inr ⟨g, cap, cur, rfl, hg, (hb.block g (Array.getElem?_eq_some_iff.1 hh).1).trans hh, r⟩
/-- another block is written -/
theorem own_move {w w1 : World} {base n size : Nat} {e : TypeId} {v : Value} {cs : List Value} (h : w.ownsRow base e size v n cs) (hm : ∀ k, v.ownBlock = some k → w1.heap[k]? = w.heap[k]?) : w1.ownsRow base e size v n cs := by
  obtain ⟨h1, h2⟩ := h
  refine ⟨h1, ?_⟩
  rcases h2 with h2 | ⟨g, cap, cur, rfl, hg, hh, r⟩
  · exact .inl h2
  · exact .inr ⟨g, cap, cur, rfl, hg, (hm g (by simp [Value.ownBlock])).trans hh, r⟩
theorem own_lower {w : World} {base base' n size : Nat} {e : TypeId} {v : Value} {cs : List Value} (h : w.ownsRow base e size v n cs) (hb : base' ≤ base) : w.ownsRow base' e size v n cs := by
  obtain ⟨h1, h2⟩ := h
  refine ⟨h1, h2.imp id ?_⟩
  rintro ⟨g, cap, cur, rfl, hg, r⟩
  exact ⟨g, cap, cur, rfl, Nat.le_trans hb hg, r⟩
/-- what is owned is read -/
theorem own_row {w : World} {base n size : Nat} {e : TypeId} {v : Value} {cs : List Value} (h : w.ownsRow base e size v n cs) : ∃ A c, v = .slice A n c ∧ n ≤ c ∧ Row w base A cs := by
  rcases h.2 with ⟨rfl, rfl⟩ | ⟨g, cap, cur, rfl, hg, hh, hnc, hcm, hcs, ht⟩
  · exact ⟨none, 0, rfl, Nat.le_refl _, .inl (by have := h.1; simpa using this)⟩
  · refine ⟨_, cap, rfl, hnc, .inr ⟨_, rfl, hg, fun j u hj => ?_⟩⟩
    have e0 : (⟨g, 0, none⟩ : Addr).add j = ⟨g, j, none⟩ := by unfold Addr.add; split <;> simp_all
    rw [e0, cell_of_row w g j cur e (0, 0) hh]
    rw [← ht] at hj
    have h2 : j < n * size := by
      rcases Nat.lt_or_ge j (n * size) with h3 | h3
      · exact h3
      · rw [List.getElem?_eq_none (by rw [List.length_take]; omega)] at hj; cases hj
    rw [List.getElem?_take, if_pos h2] at hj
    simpa using hj
/-- it is nil, or lies at the head of its block -/
theorem own_form {w : World} {base n size : Nat} {e : TypeId} {v : Value} {cs : List Value} (h : w.ownsRow base e size v n cs) (hn : 0 < n) : ∃ g cap, v = .slice (some ⟨g, 0, none⟩) n cap ∧ base ≤ g ∧ n ≤ cap := by
  rcases h.2 with ⟨_, rfl⟩ | ⟨g, cap, cur, rfl, hg, _, hnc, _⟩
  · omega
  · exact ⟨g, cap, rfl, hg, hnc⟩

abbrev TSp : Nat := 69
theorem infoSp : (Tryz.prog.info? TSp).map (fun i => (i.zero, i.size, i.bytes)) = some (some (.agg #[.int .i64 0, .int .i64 0]), 2, 16) := by kernel_rfl

structure OwnSp (w : World) (base : Nat) (v : Value) (xs : List Sp) : Prop where
  own : w.ownsRow base TSp 2 v xs.length (spcs xs)
  len : xs.length ≤ maxN
theorem OwnSp.sps {w : World} {base : Nat} {v : Value} {xs : List Sp} (h : OwnSp w base v xs) : ∃ A c, v = .slice A xs.length c ∧ Sps w base A c xs := by
  obtain ⟨A, c, e, hc, hr⟩ := own_row h.own
  exact ⟨A, c, e, hr, hc, h.len⟩
theorem OwnSp.below {w w1 : World} {base : Nat} {v : Value} {xs : List Sp} (h : OwnSp w base v xs) (hb : Below w.heap.size w w1) : OwnSp w1 base v xs := ⟨own_below h.own hb, h.len⟩
theorem OwnSp.lower {w : World} {base base' : Nat} {v : Value} {xs : List Sp} (h : OwnSp w base v xs) (hb : base' ≤ base) : OwnSp w base' v xs := ⟨own_lower h.own hb, h.len⟩
theorem OwnSp.nil (w : World) (base : Nat) : OwnSp w base (.slice none 0 0) [] := ⟨World.ownsRow_nil _ _ _ _, by simp⟩

theorem spcs_append (xs ys : List Sp) : spcs (xs ++ ys) = spcs xs ++ spcs ys := by simp [spcs]
theorem spcs_set (xs : List Sp) : ∀ k a b, ((spcs xs).set (k * 2) (.int .i64 a)).set (k * 2 + 1) (.int .i64 b) = spcs (xs.set k ⟨a, b⟩) := by
  induction xs with
  | nil => intro k a b; simp [spcs]
  | cons x xs ih =>
    intro k a b
    have e : spcs (x :: xs) = .int .i64 x.lo :: .int .i64 x.hi :: spcs xs := rfl
    cases k with
    | zero => simp [e, spcs, spc]
    | succ k =>
      rw [e, show (k + 1) * 2 = k * 2 + 1 + 1 by omega, List.set_cons_succ, List.set_cons_succ, List.set_cons_succ, List.set_cons_succ, ih]
      rfl
theorem spcs_zeros (n : Nat) : (madeCells (Value.agg #[.int .i64 0, .int .i64 0]).cells (n * 2)).toList = spcs (List.replicate n ⟨0, 0⟩) := by
  have e : (Value.agg #[.int .i64 0, .int .i64 0]).cells = #[.int .i64 0, .int .i64 0] := rfl
  rw [e]
  apply List.ext_getElem?
  intro j
  have hz : ∀ i : Nat, (#[Value.int .i64 0, Value.int .i64 0] : Array Value)[i % 2]! = .int .i64 0 := by
    intro i
    rcases Nat.mod_two_eq_zero_or_one i with h | h <;> simp [h]
  have e2 : spcs (List.replicate n ⟨0, 0⟩) = List.replicate (n * 2) (.int .i64 0) := by
    induction n with
    | zero => rfl
    | succ n ih =>
      rw [List.replicate_succ, show (n + 1) * 2 = n * 2 + 1 + 1 by omega, List.replicate_succ, List.replicate_succ, ← ih]
      rfl
  rw [e2]
  by_cases hj : j < n * 2
  · simp [madeCells, hj, hz]
  · simp [madeCells, hj]

/-- an element is stored -/
theorem OwnSp.set2 {w : World} {base g n cap : Nat} {xs : List Sp} (h : OwnSp w base (.slice (some ⟨g, 0, none⟩) n cap) xs) (k : Nat) (a b : Int) :
    OwnSp ((w.setCell ⟨g, k * 2, none⟩ (.int .i64 a)).setCell ⟨g, k * 2 + 1, none⟩ (.int .i64 b)) base (.slice (some ⟨g, 0, none⟩) n cap) (xs.set k ⟨a, b⟩) := by
  obtain ⟨h1, h2⟩ := h
  have hn : n = xs.length := by
    rcases h1.2 with ⟨h0, _⟩ | ⟨g', cap', cur, h0, _⟩
    · simp at h0
    · simp at h0; exact h0.2.1
  subst hn
  have s1 := (h1.stored (k * 2) (.int .i64 a)).1
  have s2 := (s1.stored (k * 2 + 1) (.int .i64 b)).1
  rw [spcs_set] at s2
  exact ⟨by rw [List.length_set]; exact s2, by rw [List.length_set]; exact h2⟩
theorem OwnSp.cells {w : World} {base g n cap : Nat} {xs : List Sp} (h : OwnSp w base (.slice (some ⟨g, 0, none⟩) n cap) xs) (k : Nat) (hk : k < xs.length) :
    ∃ x, Hid (xs[k]? = some x) ∧ w.cell? ⟨g, k * 2, none⟩ = some (.int .i64 x.lo) ∧ w.cell? ⟨g, k * 2 + 1, none⟩ = some (.int .i64 x.hi) ∧ w.frozen? ⟨g, k * 2, none⟩ = false ∧ w.frozen? ⟨g, k * 2 + 1, none⟩ = false := by
  obtain ⟨h1, h2⟩ := h
  have hn : n = xs.length := by
    rcases h1.2 with ⟨h0, _⟩ | ⟨g', cap', cur, h0, _⟩
    · simp at h0
    · simp at h0; exact h0.2.1
  subst hn
  have hg := spcs_get xs k hk
  have e1 : xs.getD k default = xs[k] := by simp [List.getD_eq_getElem?_getD, List.getElem?_eq_getElem hk]
  rw [e1] at hg
  exact ⟨xs[k], List.getElem?_eq_getElem hk, (h1.cellAt _ (by omega)).trans hg.1, (h1.cellAt _ (by omega)).trans hg.2, h1.frozenAt _, h1.frozenAt _⟩

theorem take_rep_set {α : Type} (xs : List α) (z x : α) (k : Nat) (hk : k < xs.length) (hx : xs[k]? = some x) :
    (xs.take k ++ List.replicate (xs.length - k) z).set k x = xs.take (k + 1) ++ List.replicate (xs.length - (k + 1)) z := by
  have e : xs.length - k = (xs.length - (k + 1)) + 1 := by omega
  have h1 : (xs.take k).length = k := by rw [List.length_take]; omega
  rw [e, List.replicate_succ, List.set_append, if_neg (by omega), h1, Nat.sub_self, List.set_cons_zero, List.take_add_one, hx]
  simp
theorem take_rep_length {α : Type} (xs : List α) (z : α) (k : Nat) (hk : k ≤ xs.length) : (xs.take k ++ List.replicate (xs.length - k) z).length = xs.length := by
  rw [List.length_append, List.length_take, List.length_replicate]; omega
theorem new_cells (w : World) (cs : List Value) (t : TypeId) : ∀ j u, cs[j]? = some u → (w.alloc (.cells cs.toArray t)).cell? ((⟨w.heap.size, 0, none⟩ : Addr).add j) = some u := by
  intro j u hj
  have e0 : (⟨w.heap.size, 0, none⟩ : Addr).add j = ⟨w.heap.size, j, none⟩ := by unfold Addr.add; split <;> simp_all
  rw [e0, cell_of_row (w.alloc (.cells cs.toArray t)) w.heap.size j cs.toArray t (0, 0) (heap_alloc_new w _)]
  simpa using hj
theorem own_base {w : World} {base n size : Nat} {e : TypeId} {v : Value} {cs : List Value} (h : w.ownsRow base e size v n cs) : ∀ k, v.ownBlock = some k → base ≤ k ∧ k < w.heap.size := h.lt
theorem OwnSp.snoc {w : World} {base : Nat} {v : Value} {xs : List Sp} {a b : Int} (h : w.ownsRow base TSp 2 v (xs.length + 1) (spcs xs ++ [.int .i64 a, .int .i64 b])) : OwnSp w base v (xs ++ [⟨a, b⟩]) := by
  have e : spcs (xs ++ [⟨a, b⟩]) = spcs xs ++ [.int .i64 a, .int .i64 b] := by rw [spcs_append]; rfl
  have hl : (xs ++ [(⟨a, b⟩ : Sp)]).length = xs.length + 1 := by simp
  refine ⟨by rw [hl, e]; exact h, ?_⟩
  rw [hl]
  rcases h.2 with ⟨_, h0⟩ | ⟨g, cap, cur, _, _, _, hnc, hcm, _⟩
  · omega
  · unfold maxLen at hcm; unfold maxN; omega
theorem two_one (a b : Int) : ∀ u ∈ [Value.int .i64 a, .int .i64 b], u.oneCell' = true := by
  intro u hu
  simp at hu
  rcases hu with rfl | rfl <;> rfl
theorem spcs_one (xs : List Sp) : ∀ u ∈ spcs xs, u.oneCell' = true := by
  intro u hu
  obtain ⟨x, _, hx⟩ := List.mem_flatMap.1 hu
  exact two_one x.lo x.hi u hx
theorem spcs_set_hi (xs : List Sp) (k : Nat) (x : Sp) (b : Int) (hx : xs[k]? = some x) : (spcs xs).set (k * 2 + 1) (.int .i64 b) = spcs (xs.set k ⟨x.lo, b⟩) := by
  have hk := (List.getElem?_eq_some_iff.1 hx).1
  have hg := (spcs_get xs k hk).1
  have e1 : xs.getD k default = x := by simp [List.getD_eq_getElem?_getD, hx]
  rw [e1] at hg
  rw [← spcs_set xs k x.lo b]
  congr 1
  apply List.ext_getElem?
  intro j
  rw [List.getElem?_set]
  split
  · rename_i e; subst e
    rw [hg]
    rw [if_pos (List.getElem?_eq_some_iff.1 hg).1]
  · rfl
theorem OwnSp.setHi {w : World} {base g n cap : Nat} {xs : List Sp} (h : OwnSp w base (.slice (some ⟨g, 0, none⟩) n cap) xs) (k : Nat) (x : Sp) (hx : xs[k]? = some x) (b : Int) :
    OwnSp (w.setCell ⟨g, k * 2 + 1, none⟩ (.int .i64 b)) base (.slice (some ⟨g, 0, none⟩) n cap) (xs.set k ⟨x.lo, b⟩) := by
  obtain ⟨h1, h2⟩ := h
  have hn : n = xs.length := by
    rcases h1.2 with ⟨h0, _⟩ | ⟨g', cap', cur, h0, _⟩
    · simp at h0
    · simp at h0; exact h0.2.1
  subst hn
  have s1 := (h1.stored (k * 2 + 1) (.int .i64 b)).1
  rw [spcs_set_hi xs k x b hx] at s1
  exact ⟨by rw [List.length_set]; exact s1, by rw [List.length_set]; exact h2⟩

end Go.Proofs.YtfeidjjabjejiaaGreatDoor

/- toSpanS, markSpanS, heldSpanS. -/
namespace Go.Proofs.YtfeidjjabjejiaaGreatDoor
set_option linter.unusedSimpArgs false
set_option linter.unusedVariables false
set_option maxRecDepth 100000
open Go.RowKit

set_option maxHeartbeats 1000000 in
theorem toSpanS_c (A : Option Addr) (c : Nat) (xs : List Sp) (w : World) {lo : Nat} (h : Sps w lo A c xs) (hx : xs.length ≤ 1048576) :
    Calls Tryz.prog 71 #[.slice A xs.length c] w fun e w' => ∃ v, e = .returned v ∧ OwnSp w' w.heap.size v xs ∧ Below w.heap.size w w' := by
  obtain ⟨i0, hi, hz0, hz1, hz2⟩ := info_parts infoSp
  go_enter Tryz.func71, Tryz.ntmps71
  go_wp2_with (at_make; refine wpList_make_full _ rfl (.tmp 6) (.tmp 6) 23 rfl w.heap.size TSp i0 (.agg #[.int .i64 0, .int .i64 0]) 2 Tryz.underlying23 hi hz0 hz1 .i64 .i64 _ _ xs.length rfl rfl rfl rfl (by rw [hz2]; omega) (by unfold maxLen; omega) (Nat.le_refl _) ?_; intro w1 hown hgrow)
  have HO : Hid (OwnSp w1 w.heap.size (.slice (some ⟨w.heap.size, 0, none⟩) xs.length xs.length) (xs.take 0 ++ List.replicate (xs.length - 0) ⟨0, 0⟩)) := by
    refine ⟨?_, by rw [take_rep_length _ _ _ (Nat.zero_le _)]; unfold maxN; omega⟩
    rw [take_rep_length _ _ _ (Nat.zero_le _), List.take_zero, List.nil_append, Nat.sub_zero, ← spcs_zeros]
    exact hown
  have HB : Hid (Below w.heap.size w w1) := (Below.refl _ w).grown hgrow (Nat.le_refl _) (fun k hk => by cases hk)
  clear hown hgrow hi hz0 hz1 hz2
  go_loopg [4] (xs.length) (fun n i wr => ∃ k : Nat, k + n = xs.length ∧ i = .int .i64 k ∧ Hid (OwnSp wr w.heap.size (.slice (some ⟨w.heap.size, 0, none⟩) xs.length xs.length) (xs.take k ++ List.replicate (xs.length - k) ⟨0, 0⟩)) ∧ Hid (Below w.heap.size w wr))
  case atStart => exact ⟨0, by omega, rfl, HO, HB⟩
  case round =>
    clear HO HB
    obtain ⟨k, hk, rfl, HO, HB⟩ := hrel
    by_cases hlt : k < xs.length
    · obtain ⟨a, x, rfl, HX, HD, h0, h1⟩ := (h.below HB.out).at_ k hlt
      go_wp2_with (go_at_call 122; refine (toSpan_c x _).mono ?_; rintro e w2 ⟨rfl, hb⟩; have HO2 : Hid _ := HO.out.below hb; have HB2 : Hid _ := below_then HB.out hb; obtain ⟨y, _, c0, c1, f0, f1⟩ := HO2.out.cells k (by rw [take_rep_length _ _ _ (by omega)]; exact hlt); clear HO HB hb)
      go_roundg (gk - 1)
      case rel =>
        refine ⟨k + 1, by omega, by go_num, ?_, below_set (below_set HB2.out (Nat.le_refl _) _) (Nat.le_refl _) _⟩
        have hs := HO2.out.set2 k x.lo x.hi
        rw [take_rep_set xs _ _ k hlt HX.out] at hs
        exact hs
      case measure => omega
    · go_wp2
      go_ret
      refine ⟨_, rfl, ?_, HB.out⟩
      have := HO.out
      rw [show k = xs.length by omega, List.take_length, Nat.sub_self, List.replicate_zero, List.append_nil] at this
      exact this

theorem OwnSp.slice {w : World} {base : Nat} {v : Value} {xs : List Sp} (h : OwnSp w base v xs) : ∃ A c, v = .slice A xs.length c := by
  obtain ⟨A, c, e, _⟩ := h.sps
  exact ⟨A, c, e⟩
theorem OwnSp.head {w : World} {base c : Nat} {A : Option Addr} {xs : List Sp} (h : OwnSp w base (.slice A xs.length c) xs) (hn : 0 < xs.length) : ∃ g, A = some ⟨g, 0, none⟩ ∧ base ≤ g := by
  obtain ⟨g, cap, e, hg, _⟩ := own_form h.own hn
  injection e with e1 e2 e3
  exact ⟨g, e1, hg⟩

/-- what is written: the row's own block alone -/
theorem grown_refl (w : World) (row : Option Nat) : w.grownBy w row := ⟨rfl, rfl, rfl, Nat.le_refl _, fun _ _ _ => rfl⟩
theorem grown_set {w w1 : World} {g : Nat} (h : w.grownBy w1 (some g)) (o : Nat) (u : Value) : w.grownBy (w1.setCell ⟨g, o, none⟩ u) (some g) :=
  ⟨h.os, h.tape, h.output, by rw [World.size_setCell]; exact h.size, fun k hk hne => (Below.heap_setCell w1 ⟨g, o, none⟩ u k (fun e => hne (by rw [e]))).trans (h.block k hk hne)⟩

set_option maxHeartbeats 1000000 in
theorem markSpanS_c (A : Option Addr) (c : Nat) (xs : List Sp) (q : Int) (w : World) {base : Nat} (h : OwnSp w base (.slice A xs.length c) xs) (h0 : 0 ≤ q) (h1 : q ≤ 1073741824) (hx : xs.length ≤ 1073741824) :
    Calls Tryz.prog 75 #[.slice A xs.length c, .int .i64 q] w fun e w' => e = .returned (.int .i64 (q + 2 * (xs.length : Int))) ∧ OwnSp w' base (.slice A xs.length c) (markSps q xs) ∧ w.grownBy w' (Value.slice A xs.length c).ownBlock := by
  go_enter Tryz.func75, Tryz.ntmps75
  go_wp2
  go_loopg [1, 5] (xs.length) (fun n q' i wr => ∃ k : Nat, k + n = xs.length ∧ i = .int .i64 k ∧ q' = .int .i64 (q + 2 * (k : Int)) ∧ Hid (OwnSp wr base (.slice A xs.length c) ((markSps q xs).take k ++ xs.drop k)) ∧ Hid (w.grownBy wr (Value.slice A xs.length c).ownBlock))
  case atStart => exact ⟨0, by omega, rfl, by simp, by simpa [Hid] using h, grown_refl _ _⟩
  case round =>
    obtain ⟨k, hk, rfl, rfl, HO, HG⟩ := hrel
    by_cases hlt : k < xs.length
    · obtain ⟨g, rfl, hg⟩ := h.head (by omega)
      have hl : ((markSps q xs).take k ++ xs.drop k).length = xs.length := by rw [List.length_append, List.length_take, List.length_drop, markSps_length]; omega
      obtain ⟨y, _, c0, c1, f0, f1⟩ := HO.out.cells k (by omega)
      have HL : Hid (_ = _) := hl
      have HH := Lib.hid h
      clear hl h
      go_wp2
      go_roundg (gk - 1)
      case rel =>
        refine ⟨k + 1, by omega, by go_num, by go_num, ?_, grown_set (grown_set HG.out _ _) _ _⟩
        have hs := HO.out.set2 k (q + 2 * (k : Int)) (q + 2 * (k : Int) + 1)
        rw [markSps_set xs q k hlt] at hs
        exact hs
      case measure => omega
    · go_wp2
      go_ret
      have hk' : k = xs.length := by omega
      refine ⟨ret_int (by omega), ?_, HG.out⟩
      have := HO.out
      rw [hk', List.drop_length, List.append_nil, List.take_of_length_le (by rw [markSps_length]; exact Nat.le_refl _)] at this
      exact this

set_option maxHeartbeats 1000000 in
theorem heldSpanS_c (A : Option Addr) (c : Nat) (xs ys : List Sp) (q : Int) (w : World) {lo : Nat} (hm : xs = markSps q ys) (h : Sps w lo A c xs) (h0 : 0 ≤ q) (h1 : q ≤ 1073741824) (hx : xs.length ≤ 1073741824) :
    Calls Tryz.prog 77 #[.slice A xs.length c, .int .i64 q] w fun e w' => e = .returned (.int .i64 (q + 2 * (xs.length : Int))) ∧ Drawn w w' := by
  have HM : Hid (xs = markSps q ys) := hm
  clear hm
  go_enter Tryz.func77, Tryz.ntmps77
  go_wp2
  go_loopg [1, 5] (xs.length) (fun n q' i wr => ∃ k : Nat, k + n = xs.length ∧ i = .int .i64 k ∧ q' = .int .i64 (q + 2 * (k : Int)) ∧ Drawn w wr)
  case atStart => exact ⟨0, by omega, rfl, by simp, Drawn.refl _⟩
  case round =>
    obtain ⟨k, hk, rfl, rfl, m, rfl⟩ := hrel
    by_cases hlt : k < xs.length
    · obtain ⟨a, x, rfl, HX, HD, c0, c1⟩ := h.at_ k hlt
      obtain rfl : x = ⟨q + 2 * (k : Int), q + 2 * (k : Int) + 1⟩ := by
        have e1 := HX.out
        have e2 := HM.out
        have e3 : k < ys.length := by rw [e2, markSps_length] at hlt; exact hlt
        rw [e2, markSps_get _ _ _ e3] at e1
        exact (Option.some.inj e1).symm
      go_wp2
      go_roundg (gk - 1)
      case rel => exact ⟨k + 1, by omega, by go_num, by go_num, _, rfl⟩
      case measure => omega
    · go_wp2
      go_ret
      exact ⟨ret_int (by omega), _, rfl⟩

end Go.Proofs.YtfeidjjabjejiaaGreatDoor

/- Blocks in memory: laid, stored and read whole. -/
namespace Go.Proofs.YtfeidjjabjejiaaGreatDoor
set_option linter.unusedSimpArgs false
set_option linter.unusedVariables false
set_option maxRecDepth 100000
open Go.RowKit

/-- block g holds the cells cs, none of them frozen -/
structure Blk (w : World) (g : Nat) (cs : Array Value) (t : TypeId) : Prop where
  eq : w.heap[g]? = some (.cells cs t (0, 0))
theorem Blk.lt {w : World} {g : Nat} {cs : Array Value} {t : TypeId} (h : Blk w g cs t) : g < w.heap.size := (Array.getElem?_eq_some_iff.1 h.eq).1
theorem Blk.below {w w1 : World} {g : Nat} {cs : Array Value} {t : TypeId} (h : Blk w g cs t) (hb : Below w.heap.size w w1) : Blk w1 g cs t := ⟨(hb.block g h.lt).trans h.eq⟩
theorem Blk.set {w : World} {g : Nat} {cs : Array Value} {t : TypeId} (h : Blk w g cs t) (i : Nat) (u : Value) : Blk (w.setCell ⟨g, i, none⟩ u) g (cs.setIfInBounds i u) t := ⟨heap_setCell_same w g i cs t u h.eq⟩
theorem Blk.far {w : World} {g : Nat} {cs : Array Value} {t : TypeId} (h : Blk w g cs t) {p : Addr} (hp : g ≠ p.block) (u : Value) : Blk (w.setCell p u) g cs t := ⟨(Below.heap_setCell w p u g hp).trans h.eq⟩
theorem Blk.cell {w : World} {g : Nat} {cs : Array Value} {t : TypeId} (h : Blk w g cs t) (i : Nat) : w.cell? ⟨g, i, none⟩ = cs[i]? := cell_of_row w g i cs t (0, 0) h.eq
theorem Blk.free {w : World} {g : Nat} {cs : Array Value} {t : TypeId} (h : Blk w g cs t) (i : Nat) : w.frozen? ⟨g, i, none⟩ = false := by simp [World.frozen?, h.eq]
theorem Blk.grown {w w1 : World} {g : Nat} {cs : Array Value} {t : TypeId} (h : Blk w g cs t) {row : Option Nat} (hg : w.grownBy w1 row) (hr : ∀ k, row = some k → k ≠ g) : Blk w1 g cs t := ⟨(hg.block g h.lt (fun e => hr g e.symm rfl)).trans h.eq⟩
theorem Blk.alloc {w : World} {g : Nat} {cs : Array Value} {t : TypeId} (h : Blk w g cs t) (o : Obj) : Blk (w.alloc o) g cs t := h.below (below_alloc (Below.refl _ _) o)
theorem blk_new (w : World) (cs : Array Value) (t : TypeId) : Blk (w.alloc (.cells cs t)) w.heap.size cs t := ⟨heap_alloc_new w _⟩

theorem own_blk {w : World} {base g n cap size : Nat} {e : TypeId} {cs : List Value} (h : w.ownsRow base e size (.slice (some ⟨g, 0, none⟩) n cap) n cs) : ∃ cur : Array Value, Blk w g cur e ∧ cur.size = cap * size ∧ n ≤ cap ∧ base ≤ g ∧ cap ≤ maxLen ∧ cur.toList.take (n * size) = cs := by
  rcases h.2 with ⟨h0, _⟩ | ⟨g', cap', cur, h0, hg, hh, hnc, hcm, hcs, ht⟩
  · simp at h0
  · simp only [Value.slice.injEq, Option.some.injEq, Addr.mk.injEq, and_true, true_and] at h0
    obtain ⟨rfl, rfl⟩ := h0
    exact ⟨cur, ⟨hh⟩, hcs, hnc, hg, hcm, ht⟩
theorem own_of_blk {w : World} {base g n size : Nat} {e : TypeId} {cs : List Value} (h : Blk w g cs.toArray e) (hl : cs.length = n * size) (hb : base ≤ g) (hn : n ≤ maxLen) : w.ownsRow base e size (.slice (some ⟨g, 0, none⟩) n n) n cs :=
  ⟨hl, .inr ⟨g, n, cs.toArray, rfl, hb, h.eq, Nat.le_refl _, hn, by simpa using hl, by rw [← hl]; simp⟩⟩

section
variable {P : Program} {ops : Array Oper} {rest : List Oper} {o : Oper} {a : Act} {w : World} {Q : Exit → Act → World → Prop}

/-- a new variable of a type with many cells -/
theorem ev_alloc (hgd : o.guard = none) (t : TypeId) (ho : o.op = .alloc t) (cs : Array Value) (hz : (P.info? t).map (·.zero) = some (some (.agg cs)))
    (h : ∀ g w1, g = w.heap.size → Blk w1 g cs t → Below w.heap.size w w1 → wpList P ops Q rest (a.put o.dst (.pointer (some ⟨g, 0, none⟩))) w1) : wpList P ops Q (o :: rest) a w := by
  refine wpList_plain hgd fun K hK => ?_
  obtain ⟨i, hi, hzz⟩ := Option.map_eq_some_iff.1 hz
  have hrun : (execOp a.eval o).run P w = .ok (.value (.pointer (some ⟨w.heap.size, 0, none⟩))) (w.alloc (.cells cs t (0, 0))) := by
    unfold execOp
    simp only [ho]
    simp [Instr.alloc, zeroValue, typeInfo, hi, hzz, newVar, newRow, Value.cells]
  unfold Oper.wp
  rw [hrun]
  exact hK _ _ (h _ _ rfl (blk_new w cs t) (below_alloc (Below.refl _ _) _))

/-- a value of many cells is boxed -/
theorem ev_box (hgd : o.guard = none) (t : TypeId) (x : Operand) (ho : o.op = .box t x) (cs : Array Value) (hx : a.eval x = .agg cs)
    (h : ∀ g w1, g = w.heap.size → Blk w1 g cs t → Below w.heap.size w w1 → wpList P ops Q rest (a.put o.dst (.pointer (some ⟨g, 0, none⟩))) w1) : wpList P ops Q (o :: rest) a w := by
  refine wpList_plain hgd fun K hK => ?_
  have hrun : (execOp a.eval o).run P w = .ok (.value (.pointer (some ⟨w.heap.size, 0, none⟩))) (w.alloc (.cells cs t (0, 0))) := by
    unfold execOp
    simp only [ho, hx]
    simp [Instr.box, newVar, newRow, Value.cells]
  unfold Oper.wp
  rw [hrun]
  exact hK _ _ (h _ _ rfl (blk_new w cs t) (below_alloc (Below.refl _ _) _))

/-- a variable of many cells is read whole -/
theorem ev_load (hgd : o.guard = none) (t : TypeId) (x : Operand) (ho : o.op = .load t x) (g : Nat) (hx : a.eval x = .pointer (some ⟨g, 0, none⟩)) (cs : List Value) (e : TypeId) (hb : Blk w g cs.toArray e)
    (d : TypeDesc) (hu : P.underlying t = some d) (hd : (match d with | .struct _ | .array _ _ => true | _ => false) = true) (hs : (P.info? t).map (·.size) = some cs.length)
    (h : wpList P ops Q rest (a.put o.dst (.agg cs.toArray)) w) : wpList P ops Q (o :: rest) a w :=
  wpList_load_row hgd t x ho g hx e cs.toArray (0, 0) d hb.eq hu hd (by rw [hs]; simp) h

/-- a whole row is copied over another one -/
theorem ev_copy (hgd : o.guard = none) (d s : Operand) (dT sT : TypeId) (ho : o.op = .call { callee := .builtin .copy, args := #[d, s], argTypes := #[dT, sT] }) (elem : TypeId) (hu : P.underlying dT = some (.slice elem)) (size : Nat) (hsz : (P.info? elem).map (·.size) = some size)
    (g n cap sCap : Nat) (ad : Addr) (hd : a.eval d = .slice (some ⟨g, 0, none⟩) n cap) (hs : a.eval s = .slice (some ad) n sCap) (cur : Array Value) (t : TypeId) (hb : Blk w g cur t) (cs : List Value) (hn : cs.length = n * size)
    (hsrc : CellsAt w ad cs) (hfit : cs.length ≤ cur.size) (h1 : ∀ u ∈ cs, u.oneCell' = true)
    (h : ∀ w1, Blk w1 g (cs ++ cur.toList.drop cs.length).toArray t → w.grownBy w1 (some g) → wpList P ops Q rest (a.put o.dst (.int .i64 n)) w1) : wpList P ops Q (o :: rest) a w := by
  refine wpList_plain hgd fun K hK => ?_
  obtain ⟨i, hi, hz⟩ := Option.map_eq_some_iff.1 hsz
  have hl := run_loadCells_list (P := P) w ad cs hsrc
  have hst := run_storeCells_at P g 0 t cs 0 cur w hb.eq (by simpa using hfit) h1
  have hrun : (Builtin.copy_ #[dT, sT] o.type #[.slice (some ⟨g, 0, none⟩) n cap, .slice (some ad) n sCap]).run P w = .ok (goInt n) (w.setRow g (cs ++ cur.toList.drop cs.length).toArray) := by
    simp [Builtin.copy_, run_underlying hu, Builtin.lenOf, Builtin.firstCells, sizeOf, typeInfo, hi, hz, ← hn, hl, hst]
  unfold Oper.wp
  simp [execOp, ho, resolve, invoke, builtin, hd, hs, hrun, Result.andThen]
  exact hK _ _ (h _ ⟨setRow_heap w g cur _ t _ hb.eq⟩ ⟨rfl, rfl, rfl, by simp, fun k _ hk => setRow_other w g k _ (fun e => hk (by rw [e]))⟩)

/-- a value of many cells is stored into a part of a block -/
theorem ev_store (hgd : o.guard = none) (hd : o.dst = none) (t : TypeId) (x v : Operand) (ho : o.op = .store t x v) (g off : Nat) (hx : a.eval x = .pointer (some ⟨g, off, none⟩)) (vs : List Value) (hv : a.eval v = .agg vs.toArray)
    (cur : Array Value) (e : TypeId) (hb : Blk w g cur e) (hs : (P.info? t).map (·.size) = some vs.length) (hfit : off + vs.length ≤ cur.size) (h1 : ∀ u ∈ vs, u.oneCell' = true)
    (h : ∀ w1, Blk w1 g (cur.toList.take off ++ vs ++ cur.toList.drop (off + vs.length)).toArray e → w.grownBy w1 (some g) → wpList P ops Q rest a w1) : wpList P ops Q (o :: rest) a w := by
  refine wpList_plain hgd fun K hK => ?_
  obtain ⟨i, hi, hsz⟩ := Option.map_eq_some_iff.1 hs
  have hst := run_storeCells_at P g off e vs 0 cur w hb.eq (by simpa using hfit) h1
  have hrun : (execOp a.eval o).run P w = .ok .skip (w.setRow g (cur.toList.take off ++ vs ++ cur.toList.drop (off + vs.length)).toArray) := by
    unfold execOp
    simp only [ho, hx, hv]
    simp only [Instr.storeAt, Instr.sureAddr, storeVar, sizeOf, typeInfo, Value.cells]
    simp [hi, hsz, hst]
  unfold Oper.wp
  rw [hrun]
  show K (a.put o.dst undef) _
  rw [hd]
  exact hK _ _ (h _ ⟨setRow_heap w g cur _ e _ hb.eq⟩ ⟨rfl, rfl, rfl, by simp, fun k _ hk => setRow_other w g k _ (fun e => hk (by rw [e]))⟩)
end

/-- the store into one slot's variable of another slot's value, the load into a slot: told at a glance, ahead of the longer laws -/
theorem at_st {P : Program} {ops : Array Oper} {Q : Exit → Act → World → Prop} {rest : List Oper} {a : Act} {w : World} (s v : Nat) {t ty : TypeId} {ps : String} {af} (h : wpList P ops Q ((⟨none, .store t (.tmp s) (.tmp v), ty, ps, af, none⟩ : Oper) :: rest) a w) : wpList P ops Q ((⟨none, .store t (.tmp s) (.tmp v), ty, ps, af, none⟩ : Oper) :: rest) a w := h
theorem at_ld {P : Program} {ops : Array Oper} {Q : Exit → Act → World → Prop} {rest : List Oper} {a : Act} {w : World} (d : Nat) {t ty : TypeId} {x : Operand} {ps : String} {af} (h : wpList P ops Q ((⟨some d, .load t x, ty, ps, af, none⟩ : Oper) :: rest) a w) : wpList P ops Q ((⟨some d, .load t x, ty, ps, af, none⟩ : Oper) :: rest) a w := h

end Go.Proofs.YtfeidjjabjejiaaGreatDoor

/- Trees that a call made: each row in a block of its own. -/
namespace Go.Proofs.YtfeidjjabjejiaaGreatDoor
set_option linter.unusedSimpArgs false
set_option linter.unusedVariables false
set_option maxRecDepth 100000
open Go.RowKit

abbrev TRx : Nat := 26
abbrev nilS : Value := .slice none 0 0
/-- the block of a row -/
def vblk (v : Value) : List Nat := match v.ownBlock with
  | some g => [g]
  | none => []
theorem mem_vblk {v : Value} {g : Nat} : g ∈ vblk v ↔ v.ownBlock = some g := by
  unfold vblk
  split <;> simp_all
  exact eq_comm
theorem vblk_nil : vblk nilS = [] := rfl
theorem vblk_some (g n c : Nat) : vblk (.slice (some ⟨g, 0, none⟩) n c) = [g] := rfl

structure KInfo where
  fp : List Nat
  v1 : Value
  v2 : Value
def kcell (r : Rex) (x : KInfo) : List Value := [.int .i64 r.kind, x.v1, x.v2]
def kcells : List Rex → List KInfo → List Value
  | r :: rs, x :: xs => kcell r x ++ kcells rs xs
  | _, _ => []
def fps (L : List KInfo) : List Nat := L.flatMap (·.fp)
theorem fps_append (L M : List KInfo) : fps (L ++ M) = fps L ++ fps M := by simp [fps]
theorem fps_cons (x : KInfo) (L : List KInfo) : fps (x :: L) = x.fp ++ fps L := by simp [fps]
theorem kcells_length : ∀ (rs : List Rex) (L : List KInfo), rs.length = L.length → (kcells rs L).length = rs.length * 3
  | [], [], _ => rfl
  | r :: rs, x :: L, h => by
    simp only [kcells, kcell, List.length_append, List.length_cons, List.length_nil]
    rw [kcells_length rs L (by simpa using h)]
    omega
theorem kcells_append : ∀ (rs : List Rex) (L : List KInfo) (r : Rex) (x : KInfo), rs.length = L.length → kcells (rs ++ [r]) (L ++ [x]) = kcells rs L ++ [.int .i64 r.kind, x.v1, x.v2]
  | [], [], r, x, _ => by simp [kcells, kcell]
  | r' :: rs, x' :: L, r, x, h => by
    have := kcells_append rs L r x (by simpa using h)
    simp only [List.cons_append, kcells, this, List.append_assoc]
theorem kcells_get : ∀ (rs : List Rex) (L : List KInfo) (i : Nat) (r : Rex) (x : KInfo), rs[i]? = some r → L[i]? = some x → rs.length = L.length →
    (kcells rs L)[i * 3]? = some (.int .i64 r.kind) ∧ (kcells rs L)[i * 3 + 1]? = some x.v1 ∧ (kcells rs L)[i * 3 + 2]? = some x.v2
  | [], _, i, r, x, h, _, _ => by simp at h
  | r' :: rs, [], i, r, x, _, h, _ => by simp at h
  | r' :: rs, x' :: L, 0, r, x, h1, h2, hl => by
    simp at h1 h2
    subst h1 h2
    simp [kcells, kcell]
  | r' :: rs, x' :: L, i + 1, r, x, h1, h2, hl => by
    have := kcells_get rs L i r x (by simpa using h1) (by simpa using h2) (by simpa using hl)
    rw [show (i + 1) * 3 = i * 3 + 3 by omega]
    simpa [kcells, kcell] using this

inductive OwnT (w : World) : List Nat → Rex → Value → Value → Prop
  | mk (k : Int) (s : List Sp) (ks : List Rex) (v1 v2 : Value) (L : List KInfo) (hL : ks.length = L.length) (hs : OwnSp w 0 v1 s) (hk : w.ownsRow 0 TRx 3 v2 ks.length (kcells ks L)) (hn : ks.length ≤ maxN)
      (hr : ∀ (i : Nat) (r : Rex) (x : KInfo), ks[i]? = some r → L[i]? = some x → OwnT w x.fp r x.v1 x.v2) (nd : (vblk v1 ++ (vblk v2 ++ fps L)).Nodup) : OwnT w (vblk v1 ++ (vblk v2 ++ fps L)) (.mk k s ks) v1 v2

/-- a row of trees that a call made -/
structure OwnK (w : World) (fp : List Nat) (ks : List Rex) (v2 : Value) (L : List KInfo) : Prop where
  hL : ks.length = L.length
  hk : w.ownsRow 0 TRx 3 v2 ks.length (kcells ks L)
  hn : ks.length ≤ maxN
  hr : ∀ (i : Nat) (r : Rex) (x : KInfo), ks[i]? = some r → L[i]? = some x → OwnT w x.fp r x.v1 x.v2
  fe : fp = vblk v2 ++ fps L
  nd : fp.Nodup
theorem OwnT.parts {w : World} {fp : List Nat} {r : Rex} {v1 v2 : Value} (h : OwnT w fp r v1 v2) :
    ∃ L fk, fp = vblk v1 ++ fk ∧ fp.Nodup ∧ OwnSp w 0 v1 r.set ∧ OwnK w fk r.kids v2 L := by
  cases h with
  | mk k s ks _ _ L hL hs hk hn hr nd => exact ⟨L, _, rfl, nd, hs, hL, hk, hn, hr, rfl, (List.nodup_append.1 nd).2.1⟩
theorem OwnT.of {w : World} {fk : List Nat} {k : Int} {s : List Sp} {ks : List Rex} {v1 v2 : Value} {L : List KInfo} (hs : OwnSp w 0 v1 s) (hk : OwnK w fk ks v2 L) (nd : (vblk v1 ++ fk).Nodup) : OwnT w (vblk v1 ++ fk) (.mk k s ks) v1 v2 := by
  obtain ⟨hL, hk, hn, hr, fe, _⟩ := hk
  subst fe
  exact .mk k s ks v1 v2 L hL hs hk hn hr nd

theorem OwnSp.lt {w : World} {base : Nat} {v : Value} {xs : List Sp} (h : OwnSp w base v xs) : ∀ b, b ∈ vblk v → base ≤ b ∧ b < w.heap.size := fun b hb => h.own.lt b (mem_vblk.1 hb)
theorem mem_fps {L : List KInfo} {b : Nat} : b ∈ fps L ↔ ∃ (i : Nat) (x : KInfo), L[i]? = some x ∧ b ∈ x.fp := by
  unfold fps
  rw [List.mem_flatMap]
  constructor
  · rintro ⟨x, hx, hb⟩
    obtain ⟨i, hi⟩ := List.getElem?_of_mem hx
    exact ⟨i, x, hi, hb⟩
  · rintro ⟨i, x, hi, hb⟩
    exact ⟨x, List.mem_of_getElem? hi, hb⟩
theorem OwnT.lt {w : World} {fp : List Nat} {r : Rex} {v1 v2 : Value} (h : OwnT w fp r v1 v2) : ∀ b, b ∈ fp → b < w.heap.size := by
  induction h with
  | mk k s ks v1 v2 L hL hs hk hn hr nd ih =>
    intro b hb
    rcases List.mem_append.1 hb with hb | hb
    · exact (hs.lt b hb).2
    · rcases List.mem_append.1 hb with hb | hb
      · exact (hk.lt b (mem_vblk.1 hb)).2
      · obtain ⟨i, x, hx, hb⟩ := mem_fps.1 hb
        have hi := (List.getElem?_eq_some_iff.1 hx).1
        exact ih i (ks[i]'(by omega)) x (List.getElem?_eq_getElem _) hx b hb
theorem OwnK.lt {w : World} {fp : List Nat} {ks : List Rex} {v2 : Value} {L : List KInfo} (h : OwnK w fp ks v2 L) : ∀ b, b ∈ fp → b < w.heap.size := by
  intro b hb
  rw [h.fe] at hb
  rcases List.mem_append.1 hb with hb | hb
  · exact (h.hk.lt b (mem_vblk.1 hb)).2
  · obtain ⟨i, x, hx, hb⟩ := mem_fps.1 hb
    have hi := (List.getElem?_eq_some_iff.1 hx).1
    have hL := h.hL
    exact (h.hr i (ks[i]'(by omega)) x (List.getElem?_eq_getElem _) hx).lt b hb
/-- it stays where its blocks stay -/
theorem OwnSp.stay {w w1 : World} {base : Nat} {v : Value} {xs : List Sp} (h : OwnSp w base v xs) (hm : ∀ b, b ∈ vblk v → w1.heap[b]? = w.heap[b]?) : OwnSp w1 base v xs := ⟨own_move h.own fun k hk => hm k (mem_vblk.2 hk), h.len⟩
theorem OwnT.stay {w w' : World} {fp : List Nat} {r : Rex} {v1 v2 : Value} (h : OwnT w fp r v1 v2) (hm : ∀ b, b ∈ fp → w'.heap[b]? = w.heap[b]?) : OwnT w' fp r v1 v2 := by
  induction h with
  | mk k s ks v1 v2 L hL hs hk hn hr nd ih =>
    refine .mk k s ks v1 v2 L hL (hs.stay fun b hb => hm b (by simp [hb])) (own_move hk fun g hg => hm g (by simp [mem_vblk.2 hg])) hn (fun i r x hi hx => ih i r x hi hx fun b hb => hm b ?_) nd
    have := mem_fps.2 ⟨i, x, hx, hb⟩
    simp [this]
theorem OwnK.stay {w w' : World} {fp : List Nat} {ks : List Rex} {v2 : Value} {L : List KInfo} (h : OwnK w fp ks v2 L) (hm : ∀ b, b ∈ fp → w'.heap[b]? = w.heap[b]?) : OwnK w' fp ks v2 L := by
  obtain ⟨hL, hk, hn, hr, fe, nd⟩ := h
  refine ⟨hL, own_move hk fun g hg => hm g (by simp [fe, mem_vblk.2 hg]), hn, fun i r x hi hx => (hr i r x hi hx).stay fun b hb => hm b ?_, fe, nd⟩
  have := mem_fps.2 ⟨i, x, hx, hb⟩
  simp [fe, this]
theorem OwnT.under {w w' : World} {fp : List Nat} {r : Rex} {v1 v2 : Value} (h : OwnT w fp r v1 v2) (hb : Below w.heap.size w w') : OwnT w' fp r v1 v2 := h.stay fun b hf => hb.block b (h.lt b hf)
theorem OwnK.under {w w' : World} {fp : List Nat} {ks : List Rex} {v2 : Value} {L : List KInfo} (h : OwnK w fp ks v2 L) (hb : Below w.heap.size w w') : OwnK w' fp ks v2 L := h.stay fun b hf => hb.block b (h.lt b hf)

/-- what is owned is read -/
theorem OwnT.rexv {w : World} {fp : List Nat} {r : Rex} {v1 v2 : Value} (h : OwnT w fp r v1 v2) : ∀ lo, (∀ b, b ∈ fp → lo ≤ b) → RexV w lo r (.int .i64 r.kind) v1 v2 := by
  induction h with
  | mk k s ks v1 v2 L hL hs hk hn hr nd ih =>
    intro lo hlo
    have hs' : OwnSp w lo v1 s := by
      refine ⟨?_, hs.len⟩
      obtain ⟨h1, h2⟩ := hs.own
      refine ⟨h1, h2.imp id ?_⟩
      rintro ⟨g, cap, cur, rfl, hg, r⟩
      exact ⟨g, cap, cur, rfl, hlo g (by simp [vblk_some]), r⟩
    obtain ⟨A, c, rfl, sp⟩ := hs'.sps
    have hk' : w.ownsRow lo TRx 3 v2 ks.length (kcells ks L) := by
      obtain ⟨h1, h2⟩ := hk
      refine ⟨h1, h2.imp id ?_⟩
      rintro ⟨g, cap, cur, rfl, hg, r⟩
      exact ⟨g, cap, cur, rfl, hlo g (by simp [vblk_some]), r⟩
    obtain ⟨K, ck, rfl, hck, hrow⟩ := own_row hk'
    refine .mk k s ks A K c ck (fun i => .int .i64 (ks.getD i default).kind) (fun i => (L.getD i ⟨[], undef, undef⟩).v1) (fun i => (L.getD i ⟨[], undef, undef⟩).v2) sp hck hn (fun i hi => ?_) (fun i r hi => ?_)
    · have e1 : ks[i]? = some (ks.getD i default) := by simp [List.getD_eq_getElem?_getD, hi]
      have e2 : L[i]? = some (L.getD i ⟨[], undef, undef⟩) := by simp [List.getD_eq_getElem?_getD, show i < L.length by omega]
      obtain ⟨g0, g1, g2⟩ := kcells_get ks L i _ _ e1 e2 hL
      rcases hrow with h0 | ⟨a, rfl, ha, hc⟩
      · rw [h0] at g0; simp at g0
      · exact ⟨a, rfl, ha, hc _ _ g0, by rw [← add_field _ _ 1 (by omega)]; exact hc _ _ g1, by rw [← add_field _ _ 2 (by omega)]; exact hc _ _ g2⟩
    · have hi' := (List.getElem?_eq_some_iff.1 hi).1
      have e1 : ks.getD i default = r := by simp [List.getD_eq_getElem?_getD, hi]
      have e2 : L[i]? = some (L.getD i ⟨[], undef, undef⟩) := by simp [List.getD_eq_getElem?_getD, show i < L.length by omega]
      show RexV w lo r (.int .i64 (ks.getD i default).kind) _ _
      rw [e1]
      exact ih i r _ hi e2 lo fun b hb => hlo b (by have := mem_fps.2 ⟨i, _, e2, hb⟩; simp [this])
theorem OwnT.rex0 {w : World} {fp : List Nat} {r : Rex} {v1 v2 : Value} (h : OwnT w fp r v1 v2) : RexV w 0 r (.int .i64 r.kind) v1 v2 := h.rexv 0 fun _ _ => Nat.zero_le _
theorem OwnK.empty {w : World} : OwnK w [] [] nilS [] := ⟨rfl, World.ownsRow_nil _ _ _ _, by simp, fun i r x h => by simp at h, rfl, List.nodup_nil⟩

/-- all blocks but some are as they were -/
structure Touch (fp : List Nat) (w w' : World) : Prop where
  os : w'.os = w.os
  tape : w'.tape = w.tape
  output : w'.output = w.output
  size : w.heap.size ≤ w'.heap.size
  block : ∀ k, k < w.heap.size → k ∉ fp → w'.heap[k]? = w.heap[k]?
theorem Touch.refl (fp : List Nat) (w : World) : Touch fp w w := ⟨rfl, rfl, rfl, Nat.le_refl _, fun _ _ _ => rfl⟩
theorem Touch.trans {fp : List Nat} {w w' w'' : World} (h : Touch fp w w') (k : Touch fp w' w'') : Touch fp w w'' :=
  ⟨k.os.trans h.os, k.tape.trans h.tape, k.output.trans h.output, Nat.le_trans h.size k.size, fun i hi hf => (k.block i (Nat.lt_of_lt_of_le hi h.size) hf).trans (h.block i hi hf)⟩
theorem Touch.wide {fp fp' : List Nat} {w w' : World} (h : Touch fp w w') (hs : ∀ b, b ∈ fp → b ∈ fp') : Touch fp' w w' := ⟨h.os, h.tape, h.output, h.size, fun k hk hf => h.block k hk fun h2 => hf (hs k h2)⟩
theorem Touch.of_below {fp : List Nat} {w w' : World} (h : Below w.heap.size w w') : Touch fp w w' := ⟨h.os, h.tape, h.output, h.size, fun k hk _ => h.block k hk⟩
theorem Touch.of_grown {v : Value} {w w' : World} (h : w.grownBy w' v.ownBlock) : Touch (vblk v) w w' := ⟨h.os, h.tape, h.output, h.size, fun k hk hf => h.block k hk fun e => hf (mem_vblk.2 e.symm)⟩
theorem Touch.set {fp : List Nat} {w w' : World} (h : Touch fp w w') {p : Addr} (hp : p.block ∈ fp) (u : Value) : Touch fp w (w'.setCell p u) :=
  ⟨h.os, h.tape, h.output, by rw [World.size_setCell]; exact h.size, fun k hk hf => (Below.heap_setCell w' p u k (fun e => hf (e ▸ hp))).trans (h.block k hk hf)⟩
theorem Touch.below {fp : List Nat} {w w' : World} (h : Touch fp w w') {n : Nat} (hf : ∀ b, b ∈ fp → n ≤ b) (hn : n ≤ w.heap.size) : Below n w w' := ⟨h.os, h.tape, h.output, h.size, fun k hk => h.block k (by omega) fun h2 => by have := hf k h2; omega⟩
theorem Touch.rex {fp : List Nat} {w w' w0 : World} {lo : Nat} {r : Rex} {v0 v1 v2 : Value} (h : Touch fp w w') (hv : RexV w lo r v0 v1 v2) (hf : ∀ b, b ∈ fp → b < lo) : RexV w' lo r v0 v1 v2 :=
  hv.keep fun k hl hk => h.block k hk fun h2 => by have := hf k h2; omega

end Go.Proofs.YtfeidjjabjejiaaGreatDoor
