/- Texts joined for the claims: W1 W2 T1 T4 Blk Bw T7 T8 T5. -/
import Derived.Test.YtplhbjpkkhhilaaG1
/- SetOk of the program. -/
namespace Go.Proofs.Ytplhbjpkkhhilaa
set_option linter.unusedSimpArgs false
set_option linter.unusedVariables false
open Go.RowKit

theorem setOkGo_step {p : Option Int} {x : Sp} {xs ys : List Sp} {r : Bool} (hd : ys = x :: xs) (hr : setOkGo p ys = r) : (spBad p x = true → r = false) ∧ (spBad p x = false → setOkGo (some x.hi) xs = r) := by
  subst hd
  rw [setOkGo] at hr
  refine ⟨fun h => ?_, fun h => ?_⟩
  · rw [← hr, h]; rfl
  · rw [← hr, h]; simp
theorem spBad_none {x : Sp} (h : x.lo < 0 ∨ x.hi < x.lo ∨ 255 < x.hi) (p : Option Int) : spBad p x = true := by
  unfold spBad
  rcases h with h | h | h <;> simp [h]
theorem spBad_some {x : Sp} {q : Int} (h : x.lo ≤ q + 1) : spBad (some q) x = true := by simp [spBad, h]
theorem spGood {p : Option Int} {x : Sp} (h1 : 0 ≤ x.lo) (h2 : x.lo ≤ x.hi) (h3 : x.hi ≤ 255) (h4 : ∀ q, p = some q → q + 1 < x.lo) : spBad p x = false := (spBad_false p x).2 ⟨h1, h2, h3, h4⟩

/-- the span ahead of k, if there is one -/
def PrevOk (xs : List Sp) (k : Nat) (p : Option Int) : Prop := (k = 0 ∧ p = none) ∨ ∃ j y, k = j + 1 ∧ xs[j]? = some y ∧ p = some y.hi ∧ 0 ≤ y.hi ∧ y.hi ≤ 255

set_option maxHeartbeats 1000000 in
theorem iSetOk_c (A : Option Addr) (c : Nat) (xs : List Sp) (w : World) {lo : Nat} (h : Sps w lo A c xs) :
    Calls Try.prog 44 #[.slice A xs.length c] w fun e w' => e = .returned (.bool (setOk xs)) ∧ Below w.heap.size w w' := by
  have hlen := h.len
  unfold maxN at hlen
  go_enter Try.func44, Try.ntmps44
  go_wp2
  go_loopg [7] (xs.length) (fun n i wr => ∃ (k : Nat) (p : Option Int), k + n = xs.length ∧ i = .int .i64 k ∧ Hid (setOkGo p (xs.drop k) = setOk xs) ∧ Hid (PrevOk xs k p) ∧ Below w.heap.size w wr)
  case atStart => exact ⟨0, none, by omega, rfl, by rw [List.drop_zero]; rfl, .inl ⟨rfl, rfl⟩, Below.refl _ _⟩
  case round =>
    obtain ⟨k, p, hk, rfl, HS, HP, hb⟩ := hrel
    by_cases hlt : k < xs.length
    · obtain ⟨a, x, rfl, HX, HD, h0, h1⟩ := (h.below hb).at_ k hlt
      have ST : Hid _ := setOkGo_step HD.out HS.out
      have HB : Hid (Below w.heap.size w wr) := hb
      clear hb HD HS
      by_cases c1 : x.lo < 0
      · have d1 : decide (x.lo < 0) = true := decide_eq_true c1
        clear c1
        go_wp2
        go_quiet (fail)
        go_wp2
        go_ret
        exact ⟨ret_bool (by rw [ST.out.1 (spBad_none (.inl (of_decide_eq_true d1)) _)]), below_drewN (below_alloc HB.out _) _⟩
      have d1 : decide (x.lo < 0) = false := decide_eq_false c1
      by_cases c2 : x.hi < x.lo
      · have d2 : decide (x.hi < x.lo) = true := decide_eq_true c2
        clear c1 c2
        go_wp2
        go_quiet (fail)
        go_wp2
        go_ret
        exact ⟨ret_bool (by rw [ST.out.1 (spBad_none (.inr (.inl (of_decide_eq_true d2))) _)]), below_drewN (below_alloc HB.out _) _⟩
      have d2 : decide (x.hi < x.lo) = false := decide_eq_false c2
      by_cases c3 : 255 < x.hi
      · have d3 : decide (255 < x.hi) = true := decide_eq_true c3
        clear c1 c2 c3
        go_wp2
        go_quiet (fail)
        go_wp2
        go_ret
        exact ⟨ret_bool (by rw [ST.out.1 (spBad_none (.inr (.inr (of_decide_eq_true d3))) _)]), below_drewN (below_alloc HB.out _) _⟩
      have d3 : decide (255 < x.hi) = false := decide_eq_false c3
      have X0 : Hid (0 ≤ x.hi ∧ x.hi ≤ 255) := ⟨by omega, by omega⟩
      rcases HP.out with ⟨hk0, rfl⟩ | ⟨j, y, hj, hy, rfl, y0, y1⟩
      · have C : Hid (spBad none x = false) := spGood (by omega) (by omega) (by omega) (fun q hq => by cases hq)
        have d4 : decide (0 < k) = false := decide_eq_false (by omega)
        clear c1 c2 c3 hk0
        go_wp2
        go_quiet (fail)
        go_wp2
        go_roundg (gk - 1)
        case rel => exact ⟨k + 1, some x.hi, by omega, by go_num, ST.out.2 C.out, .inr ⟨k, x, rfl, HX.out, rfl, X0.out.1, X0.out.2⟩, below_drewN (below_alloc HB.out _) _⟩
        case measure => omega
      · obtain ⟨a', y', ea, HY, _, _, h3⟩ := Sps.at_ (h.below HB.out) (k - 1) (by omega)
        cases ea
        have h4 := fun o => cell_alloc h3 o
        obtain rfl : y = y' := by
          have := HY.out
          rw [show k - 1 = j by omega, hy] at this
          exact Option.some.inj this
        have d4 : decide (0 < k) = true := decide_eq_true (by omega)
        have e1 : IntKind.i64.wrap ((k : Int) - 1) = (k : Int) - 1 := IntWalk.i64_in _ (by omega)
        have e2 : (0 : Int) ≤ (k : Int) - 1 := by omega
        have e6 : (1 : Int) ≤ (k : Int) := by omega
        have e3 : (k : Int) - 1 < (xs.length : Int) := by omega
        have e4 : ((k : Int) - 1).toNat = k - 1 := by omega
        have e5 : IntKind.i64.wrap (y.hi + 1) = y.hi + 1 := IntWalk.i64_in _ (by omega)
        by_cases c4 : x.lo ≤ y.hi + 1
        · have d5 : decide (x.lo ≤ y.hi + 1) = true := decide_eq_true c4
          have C : Hid (spBad (some y.hi) x = true) := spBad_some c4
          clear c1 c2 c3 c4 hj
          go_wp2
          go_quiet (fail)
          clear e1 e2 e3 e4 e5 e6
          go_wp2
          go_ret
          exact ⟨ret_bool (by rw [ST.out.1 C.out]), below_drewN (below_alloc HB.out _) _⟩
        · have d5 : decide (x.lo ≤ y.hi + 1) = false := decide_eq_false c4
          have C : Hid (spBad (some y.hi) x = false) := spGood (by omega) (by omega) (by omega) (fun q hq => by cases hq; omega)
          clear c1 c2 c3 c4 hj
          go_wp2
          go_quiet (fail)
          clear e1 e2 e3 e4 e5 e6
          go_wp2
          go_roundg (gk - 1)
          case rel => exact ⟨k + 1, some x.hi, by omega, by go_num, ST.out.2 C.out, .inr ⟨k, x, rfl, HX.out, rfl, X0.out.1, X0.out.2⟩, below_drewN (below_alloc HB.out _) _⟩
          case measure => omega
    · go_wp2
      go_ret
      exact ⟨ret_bool (by rw [← HS.out, List.drop_of_length_le (by omega)]; rfl), hb⟩

end Go.Proofs.Ytplhbjpkkhhilaa

/- spec.SetOk; the two comparisons of sets; sizes and copies of the laws' arguments. -/
namespace Go.Proofs.Ytplhbjpkkhhilaa
set_option linter.unusedSimpArgs false
set_option linter.unusedVariables false
open Go.RowKit

set_option maxHeartbeats 2000000 in
theorem sSetOk_c (A : Option Addr) (c : Nat) (xs : List Sp) (w : World) {lo : Nat} (h : Sps w lo A c xs) :
    Calls Try.prog 47 #[.slice A xs.length c] w fun e w' => e = .returned (.bool (setOk xs)) ∧ Drawn w w' := by
  have hlen := h.len
  unfold maxN at hlen
  go_enter Try.func47, Try.ntmps47
  go_wp2
  go_loopg [3] (xs.length) (fun n i wr => ∃ (k : Nat) (p : Option Int), k + n = xs.length ∧ i = .int .i64 k ∧ Hid (setOkGo p (xs.drop k) = setOk xs) ∧ Hid (PrevOk xs k p) ∧ Drawn w wr)
  case atStart => exact ⟨0, none, by omega, rfl, by rw [List.drop_zero]; rfl, .inl ⟨rfl, rfl⟩, 0, rfl⟩
  case round =>
    obtain ⟨k, p, hk, rfl, HS, HP, m, rfl⟩ := hrel
    by_cases hlt : k < xs.length
    · obtain ⟨a, x, rfl, HX, HD, h0, h1⟩ := h.at_ k hlt
      have ST : Hid _ := setOkGo_step HD.out HS.out
      clear HD HS
      by_cases c1 : x.lo < 0
      · have d1 : decide (x.lo < 0) = true := decide_eq_true c1
        clear c1
        go_wp2
        go_quiet (fail)
        go_wp2
        go_ret
        exact ⟨ret_bool (by rw [ST.out.1 (spBad_none (.inl (of_decide_eq_true d1)) _)]), drewN_drewN _ _ _⟩
      have d1 : decide (x.lo < 0) = false := decide_eq_false c1
      by_cases c2 : 255 < x.hi
      · have d2 : decide (255 < x.hi) = true := decide_eq_true c2
        clear c1 c2
        go_wp2
        go_quiet (fail)
        go_wp2
        go_ret
        exact ⟨ret_bool (by rw [ST.out.1 (spBad_none (.inr (.inr (of_decide_eq_true d2))) _)]), drewN_drewN _ _ _⟩
      have d2 : decide (255 < x.hi) = false := decide_eq_false c2
      by_cases c3 : x.hi < x.lo
      · have d3 : decide (x.hi < x.lo) = true := decide_eq_true c3
        clear c1 c2 c3
        go_wp2
        go_quiet (fail)
        go_wp2
        go_ret
        exact ⟨ret_bool (by rw [ST.out.1 (spBad_none (.inr (.inl (of_decide_eq_true d3))) _)]), drewN_drewN _ _ _⟩
      have d3 : decide (x.hi < x.lo) = false := decide_eq_false c3
      have X0 : Hid (0 ≤ x.hi ∧ x.hi ≤ 255) := ⟨by omega, by omega⟩
      rcases HP.out with ⟨hk0, rfl⟩ | ⟨j, y, hj, hy, rfl, y0, y1⟩
      · have C : Hid (spBad none x = false) := spGood (by omega) (by omega) (by omega) (fun q hq => by cases hq)
        have d4 : decide (0 < k) = false := decide_eq_false (by omega)
        clear c1 c2 c3 hk0
        go_wp2
        go_quiet (fail)
        go_wp2
        go_roundg (gk - 1)
        case rel => exact ⟨k + 1, some x.hi, by omega, by go_num, ST.out.2 C.out, .inr ⟨k, x, rfl, HX.out, rfl, X0.out.1, X0.out.2⟩, ⟨_, rfl⟩⟩
        case measure => omega
      · obtain ⟨a', y', ea, HY, _, _, h3⟩ := h.at_ (k - 1) (by omega)
        cases ea
        obtain rfl : y = y' := by
          have := HY.out
          rw [show k - 1 = j by omega, hy] at this
          exact Option.some.inj this
        have d4 : decide (0 < k) = true := decide_eq_true (by omega)
        have e1 : IntKind.i64.wrap ((k : Int) - 1) = (k : Int) - 1 := IntWalk.i64_in _ (by omega)
        have e2 : (0 : Int) ≤ (k : Int) - 1 := by omega
        have e6 : (1 : Int) ≤ (k : Int) := by omega
        have e3 : (k : Int) - 1 < (xs.length : Int) := by omega
        have e4 : ((k : Int) - 1).toNat = k - 1 := by omega
        have e5 : IntKind.i64.wrap (y.hi + 1) = y.hi + 1 := IntWalk.i64_in _ (by omega)
        by_cases c4 : x.lo ≤ y.hi + 1
        · have d5 : decide (x.lo ≤ y.hi + 1) = true := decide_eq_true c4
          have C : Hid (spBad (some y.hi) x = true) := spBad_some c4
          clear c1 c2 c3 c4 hj
          go_wp2
          go_quiet (fail)
          clear e1 e2 e3 e4 e5 e6
          go_wp2
          go_ret
          exact ⟨ret_bool (by rw [ST.out.1 C.out]), drewN_drewN _ _ _⟩
        · have d5 : decide (x.lo ≤ y.hi + 1) = false := decide_eq_false c4
          have C : Hid (spBad (some y.hi) x = false) := spGood (by omega) (by omega) (by omega) (fun q hq => by cases hq; omega)
          clear c1 c2 c3 c4 hj
          go_wp2
          go_quiet (fail)
          clear e1 e2 e3 e4 e5 e6
          go_wp2
          go_roundg (gk - 1)
          case rel => exact ⟨k + 1, some x.hi, by omega, by go_num, ST.out.2 C.out, .inr ⟨k, x, rfl, HX.out, rfl, X0.out.1, X0.out.2⟩, ⟨_, rfl⟩⟩
          case measure => omega
    · go_wp2
      go_ret
      exact ⟨ret_bool (by rw [← HS.out, List.drop_of_length_le (by omega)]; rfl), m, rfl⟩

def szLeft (n : Nat) (left : Int) : Int := if left < n then -1 else left - n
theorem sp_ne1 {x y : Sp} (h : (x.lo != y.lo) = true) : x ≠ y := by rintro rfl; simp at h
theorem sp_ne2 {x y : Sp} (h : (x.hi != y.hi) = true) : x ≠ y := by rintro rfl; simp at h
theorem sp_eq {x y : Sp} (h : (x.lo != y.lo) = false) (h' : (x.hi != y.hi) = false) : x = y := by
  cases x; cases y; simp at h h'; rw [h, h']

theorem drop_eq_step {xs ys xs' ys' : List Sp} {x y : Sp} {r : Bool} (hx : xs = x :: xs') (hy : ys = y :: ys') (hr : decide (xs = ys) = r) : (decide (x = y) = false → r = false) ∧ (decide (x = y) = true → decide (xs' = ys') = r) := by
  subst hx hy
  rw [← hr]
  refine ⟨fun h => ?_, fun h => ?_⟩
  · rw [decide_eq_false_iff_not] at h ⊢
    intro hc
    exact h (List.cons.inj hc).1
  · rw [decide_eq_true_eq] at h
    subst h
    simp

end Go.Proofs.Ytplhbjpkkhhilaa

/- Sizes of trees, and comparison of trees. -/
namespace Go.Proofs.Ytplhbjpkkhhilaa
set_option linter.unusedSimpArgs false
set_option linter.unusedVariables false
open Go.RowKit

mutual
def Rex.size : Rex → Nat
  | .mk _ s ks => s.length + (ks.length + sizeL ks)
def sizeL : List Rex → Nat
  | [] => 0
  | r :: rs => r.size + sizeL rs
end
theorem szLeft_neg {n : Nat} {left : Int} (h : left < n) : szLeft n left < 0 := by unfold szLeft; rw [if_pos h]; omega
theorem szLeft_neg1 {n : Nat} {left : Int} (h : left < n) : szLeft n left = -1 := by unfold szLeft; rw [if_pos h]
theorem szLeft_pos {n : Nat} {left : Int} (h : ¬ left < n) : szLeft n left = left - n := by unfold szLeft; rw [if_neg h]
theorem szLeft_add1 {n m : Nat} {left : Int} (h : left < n) : szLeft (n + m) left = -1 := szLeft_neg1 (by omega)
theorem szLeft_add {n m : Nat} {left : Int} (h : ¬ left < n) : szLeft (n + m) left = szLeft m (left - n) := by
  unfold szLeft
  by_cases h2 : left < ((n + m : Nat) : Int)
  · rw [if_pos h2, if_pos (by omega)]
  · rw [if_neg h2, if_neg (by omega)]; omega

/-! ### comparison -/
theorem rexEqL_len {ks ls : List Rex} (h : ks.length ≠ ls.length) : rexEqL ks ls = false := by
  induction ks generalizing ls with
  | nil => cases ls with
    | nil => simp at h
    | cons y ys => rfl
  | cons x xs ih => cases ls with
    | nil => rfl
    | cons y ys => rw [rexEqL, ih (by simpa using h), Bool.and_false]
theorem cell_at {w w' : World} {g : Nat} {cs : Array Value} {t : TypeId} (h : w.heap[g]? = some (.cells cs t (0, 0))) (i : Nat) : w.cell? ⟨g, i, none⟩ = cs[i]? := cell_of_row w g i cs t (0, 0) h

end Go.Proofs.Ytplhbjpkkhhilaa

/- How many kids a kind has, of the reference and of the program. (Printed by wip/gen/kids.py.) -/
namespace Go.Proofs.Ytplhbjpkkhhilaa
set_option linter.unusedSimpArgs false
set_option linter.unusedVariables false
open Go.RowKit

theorem kids0 {k : Int} (h : k = 1 ∨ k = 2) : kidsOf k = 0 := by unfold kidsOf; rw [if_pos h]
theorem kids1 {k : Int} (h : k = 5 ∨ k = 7) : kidsOf k = 1 := by unfold kidsOf; rw [if_neg (by omega), if_pos h]
theorem kids2 {k : Int} (h : k = 3 ∨ k = 4 ∨ k = 6) : kidsOf k = 2 := by unfold kidsOf; rw [if_neg (by omega), if_neg (by omega), if_pos h]
theorem kidsN {k : Int} (h : ¬ (k = 1 ∨ k = 2 ∨ k = 3 ∨ k = 4 ∨ k = 5 ∨ k = 6 ∨ k = 7)) : kidsOf k = -1 := by unfold kidsOf; rw [if_neg (by omega), if_neg (by omega), if_neg (by omega)]

theorem sKids_c (k : Int) (w : World) : Calls Try.prog 79 #[.int .i64 k] w fun e w' => e = .returned (.int .i64 (kidsOf k)) ∧ w = w' := by
  by_cases e1 : k = 1
  · subst e1
    rw [kids0 (.inl rfl)]
    go_enter Try.func79, Try.ntmps79
    go_wp2
    go_ret
    exact ⟨rfl, rfl⟩
  have d1 : (k == 1) = false := by simp [e1]
  by_cases e2 : k = 2
  · subst e2
    rw [kids0 (.inr rfl)]
    go_enter Try.func79, Try.ntmps79
    go_wp2
    go_ret
    exact ⟨rfl, rfl⟩
  have d2 : (k == 2) = false := by simp [e2]
  by_cases e5 : k = 5
  · subst e5
    rw [kids1 (.inl rfl)]
    go_enter Try.func79, Try.ntmps79
    go_wp2
    go_ret
    exact ⟨rfl, rfl⟩
  have d5 : (k == 5) = false := by simp [e5]
  by_cases e7 : k = 7
  · subst e7
    rw [kids1 (.inr rfl)]
    go_enter Try.func79, Try.ntmps79
    go_wp2
    go_ret
    exact ⟨rfl, rfl⟩
  have d7 : (k == 7) = false := by simp [e7]
  by_cases e3 : k = 3
  · subst e3
    rw [kids2 (.inl rfl)]
    go_enter Try.func79, Try.ntmps79
    go_wp2
    go_ret
    exact ⟨rfl, rfl⟩
  have d3 : (k == 3) = false := by simp [e3]
  by_cases e4 : k = 4
  · subst e4
    rw [kids2 (.inr (.inl rfl))]
    go_enter Try.func79, Try.ntmps79
    go_wp2
    go_ret
    exact ⟨rfl, rfl⟩
  have d4 : (k == 4) = false := by simp [e4]
  by_cases e6 : k = 6
  · subst e6
    rw [kids2 (.inr (.inr rfl))]
    go_enter Try.func79, Try.ntmps79
    go_wp2
    go_ret
    exact ⟨rfl, rfl⟩
  have d6 : (k == 6) = false := by simp [e6]
  rw [kidsN (by omega)]
  go_enter Try.func79, Try.ntmps79
  go_wp2
  go_ret
  exact ⟨rfl, rfl⟩

theorem iKids_c (k : Int) (w : World) : Calls Try.prog 78 #[.int .i64 k] w fun e w' => e = .returned (.int .i64 (kidsOf k)) ∧ w = w' := by
  by_cases e1 : k = 1
  · subst e1
    rw [kids0 (.inl rfl)]
    go_enter Try.func78, Try.ntmps78
    go_wp2
    go_ret
    exact ⟨rfl, rfl⟩
  have d1 : (k == 1) = false := by simp [e1]
  by_cases e2 : k = 2
  · subst e2
    rw [kids0 (.inr rfl)]
    go_enter Try.func78, Try.ntmps78
    go_wp2
    go_ret
    exact ⟨rfl, rfl⟩
  have d2 : (k == 2) = false := by simp [e2]
  by_cases e5 : k = 5
  · subst e5
    rw [kids1 (.inl rfl)]
    go_enter Try.func78, Try.ntmps78
    go_wp2
    go_ret
    exact ⟨rfl, rfl⟩
  have d5 : (k == 5) = false := by simp [e5]
  by_cases e7 : k = 7
  · subst e7
    rw [kids1 (.inr rfl)]
    go_enter Try.func78, Try.ntmps78
    go_wp2
    go_ret
    exact ⟨rfl, rfl⟩
  have d7 : (k == 7) = false := by simp [e7]
  by_cases e3 : k = 3
  · subst e3
    rw [kids2 (.inl rfl)]
    go_enter Try.func78, Try.ntmps78
    go_wp2
    go_ret
    exact ⟨rfl, rfl⟩
  have d3 : (k == 3) = false := by simp [e3]
  by_cases e4 : k = 4
  · subst e4
    rw [kids2 (.inr (.inl rfl))]
    go_enter Try.func78, Try.ntmps78
    go_wp2
    go_ret
    exact ⟨rfl, rfl⟩
  have d4 : (k == 4) = false := by simp [e4]
  by_cases e6 : k = 6
  · subst e6
    rw [kids2 (.inr (.inr rfl))]
    go_enter Try.func78, Try.ntmps78
    go_wp2
    go_ret
    exact ⟨rfl, rfl⟩
  have d6 : (k == 6) = false := by simp [e6]
  rw [kidsN (by omega)]
  go_enter Try.func78, Try.ntmps78
  go_wp2
  go_ret
  exact ⟨rfl, rfl⟩

end Go.Proofs.Ytplhbjpkkhhilaa

/- Blocks in memory: laid, stored and read whole. -/
namespace Go.Proofs.Ytplhbjpkkhhilaa
set_option linter.unusedSimpArgs false
set_option linter.unusedVariables false
open Go.RowKit

/-- block g holds the cells cs, none of them frozen -/
structure Blk (w : World) (g : Nat) (cs : Array Value) (t : TypeId) : Prop where
  eq : w.heap[g]? = some (.cells cs t (0, 0))
theorem Blk.lt {w : World} {g : Nat} {cs : Array Value} {t : TypeId} (h : Blk w g cs t) : g < w.heap.size := (Array.getElem?_eq_some_iff.1 h.eq).1
theorem Blk.below {w w1 : World} {g : Nat} {cs : Array Value} {t : TypeId} (h : Blk w g cs t) (hb : Below w.heap.size w w1) : Blk w1 g cs t := ⟨(hb.block g h.lt).trans h.eq⟩
theorem Blk.set {w : World} {g : Nat} {cs : Array Value} {t : TypeId} (h : Blk w g cs t) (i : Nat) (u : Value) : Blk (w.setCell ⟨g, i, none⟩ u) g (cs.setIfInBounds i u) t := ⟨heap_setCell_same w g i cs t u h.eq⟩
theorem Blk.far {w : World} {g : Nat} {cs : Array Value} {t : TypeId} (h : Blk w g cs t) {p : Addr} (hp : g ≠ p.block) (u : Value) : Blk (w.setCell p u) g cs t := ⟨(Below.heap_setCell w p u g hp).trans h.eq⟩
theorem Blk.cell {w : World} {g : Nat} {cs : Array Value} {t : TypeId} (h : Blk w g cs t) (i : Nat) : w.cell? ⟨g, i, none⟩ = cs[i]? := cell_of_row w g i cs t (0, 0) h.eq
theorem Blk.free {w : World} {g : Nat} {cs : Array Value} {t : TypeId} (h : Blk w g cs t) (i : Nat) : w.frozen? ⟨g, i, none⟩ = false := by simp [World.frozen?, h.eq]
theorem Blk.grown {w w1 : World} {g : Nat} {cs : Array Value} {t : TypeId} (h : Blk w g cs t) {row : Option Nat} (hg : w.grownBy w1 row) (hr : ∀ k, row = some k → k ≠ g) : Blk w1 g cs t := ⟨(hg.block g h.lt (fun e => hr g e.symm rfl)).trans h.eq⟩
theorem Blk.alloc {w : World} {g : Nat} {cs : Array Value} {t : TypeId} (h : Blk w g cs t) (o : Obj) : Blk (w.alloc o) g cs t := h.below (below_alloc (Below.refl _ _) o)
theorem blk_new (w : World) (cs : Array Value) (t : TypeId) : Blk (w.alloc (.cells cs t)) w.heap.size cs t := ⟨heap_alloc_new w _⟩

theorem own_blk {w : World} {base g n cap size : Nat} {e : TypeId} {cs : List Value} (h : w.ownsRow base e size (.slice (some ⟨g, 0, none⟩) n cap) n cs) : ∃ cur : Array Value, Blk w g cur e ∧ cur.size = cap * size ∧ n ≤ cap ∧ base ≤ g ∧ cap ≤ maxLen ∧ cur.toList.take (n * size) = cs := by
  rcases h.2 with ⟨h0, _⟩ | ⟨g', cap', cur, h0, hg, hh, hnc, hcm, hcs, ht⟩
  · simp at h0
  · simp only [Value.slice.injEq, Option.some.injEq, Addr.mk.injEq, and_true, true_and] at h0
    obtain ⟨rfl, rfl⟩ := h0
    exact ⟨cur, ⟨hh⟩, hcs, hnc, hg, hcm, ht⟩
theorem own_of_blk {w : World} {base g n size : Nat} {e : TypeId} {cs : List Value} (h : Blk w g cs.toArray e) (hl : cs.length = n * size) (hb : base ≤ g) (hn : n ≤ maxLen) : w.ownsRow base e size (.slice (some ⟨g, 0, none⟩) n n) n cs :=
  ⟨hl, .inr ⟨g, n, cs.toArray, rfl, hb, h.eq, Nat.le_refl _, hn, by simpa using hl, by rw [← hl]; simp⟩⟩

section
variable {P : Program} {ops : Array Oper} {rest : List Oper} {o : Oper} {a : Act} {w : World} {Q : Exit → Act → World → Prop}

/-- a new variable of a type with many cells -/
theorem ev_alloc (hgd : o.guard = none) (t : TypeId) (ho : o.op = .alloc t) (cs : Array Value) (hz : (P.info? t).map (·.zero) = some (some (.agg cs)))
    (h : ∀ g w1, g = w.heap.size → Blk w1 g cs t → Below w.heap.size w w1 → wpList P ops Q rest (a.put o.dst (.pointer (some ⟨g, 0, none⟩))) w1) : wpList P ops Q (o :: rest) a w := by
  refine wpList_plain hgd fun K hK => ?_
  obtain ⟨i, hi, hzz⟩ := Option.map_eq_some_iff.1 hz
  have hrun : (execOp a.eval o).run P w = .ok (.value (.pointer (some ⟨w.heap.size, 0, none⟩))) (w.alloc (.cells cs t (0, 0))) := by
    unfold execOp
    simp only [ho]
    simp [Instr.alloc, zeroValue, typeInfo, hi, hzz, newVar, newRow, Value.cells]
  unfold Oper.wp
  rw [hrun]
  exact hK _ _ (h _ _ rfl (blk_new w cs t) (below_alloc (Below.refl _ _) _))

/-- a value of many cells is boxed -/
theorem ev_box (hgd : o.guard = none) (t : TypeId) (x : Operand) (ho : o.op = .box t x) (cs : Array Value) (hx : a.eval x = .agg cs)
    (h : ∀ g w1, g = w.heap.size → Blk w1 g cs t → Below w.heap.size w w1 → wpList P ops Q rest (a.put o.dst (.pointer (some ⟨g, 0, none⟩))) w1) : wpList P ops Q (o :: rest) a w := by
  refine wpList_plain hgd fun K hK => ?_
  have hrun : (execOp a.eval o).run P w = .ok (.value (.pointer (some ⟨w.heap.size, 0, none⟩))) (w.alloc (.cells cs t (0, 0))) := by
    unfold execOp
    simp only [ho, hx]
    simp [Instr.box, newVar, newRow, Value.cells]
  unfold Oper.wp
  rw [hrun]
  exact hK _ _ (h _ _ rfl (blk_new w cs t) (below_alloc (Below.refl _ _) _))

/-- a variable of many cells is read whole -/
theorem ev_load (hgd : o.guard = none) (t : TypeId) (x : Operand) (ho : o.op = .load t x) (g : Nat) (hx : a.eval x = .pointer (some ⟨g, 0, none⟩)) (cs : List Value) (e : TypeId) (hb : Blk w g cs.toArray e)
    (d : TypeDesc) (hu : P.underlying t = some d) (hd : (match d with | .struct _ | .array _ _ => true | _ => false) = true) (hs : (P.info? t).map (·.size) = some cs.length)
    (h : wpList P ops Q rest (a.put o.dst (.agg cs.toArray)) w) : wpList P ops Q (o :: rest) a w :=
  wpList_load_row hgd t x ho g hx e cs.toArray (0, 0) d hb.eq hu hd (by rw [hs]; simp) h

/-- a whole row is copied over another one -/
theorem ev_copy (hgd : o.guard = none) (d s : Operand) (dT sT : TypeId) (ho : o.op = .call { callee := .builtin .copy, args := #[d, s], argTypes := #[dT, sT] }) (elem : TypeId) (hu : P.underlying dT = some (.slice elem)) (size : Nat) (hsz : (P.info? elem).map (·.size) = some size)
    (g n cap sCap : Nat) (ad : Addr) (hd : a.eval d = .slice (some ⟨g, 0, none⟩) n cap) (hs : a.eval s = .slice (some ad) n sCap) (cur : Array Value) (t : TypeId) (hb : Blk w g cur t) (cs : List Value) (hn : cs.length = n * size)
    (hsrc : CellsAt w ad cs) (hfit : cs.length ≤ cur.size) (h1 : ∀ u ∈ cs, u.oneCell' = true)
    (h : ∀ w1, Blk w1 g (cs ++ cur.toList.drop cs.length).toArray t → w.grownBy w1 (some g) → wpList P ops Q rest (a.put o.dst (.int .i64 n)) w1) : wpList P ops Q (o :: rest) a w := by
  refine wpList_plain hgd fun K hK => ?_
  obtain ⟨i, hi, hz⟩ := Option.map_eq_some_iff.1 hsz
  have hl := run_loadCells_list (P := P) w ad cs hsrc
  have hst := run_storeCells_at P g 0 t cs 0 cur w hb.eq (by simpa using hfit) h1
  have hrun : (Builtin.copy_ #[dT, sT] o.type #[.slice (some ⟨g, 0, none⟩) n cap, .slice (some ad) n sCap]).run P w = .ok (goInt n) (w.setRow g (cs ++ cur.toList.drop cs.length).toArray) := by
    simp [Builtin.copy_, run_underlying hu, Builtin.lenOf, Builtin.firstCells, sizeOf, typeInfo, hi, hz, ← hn, hl, hst]
  unfold Oper.wp
  simp [execOp, ho, resolve, invoke, builtin, hd, hs, hrun, Result.andThen]
  exact hK _ _ (h _ ⟨setRow_heap w g cur _ t _ hb.eq⟩ ⟨rfl, rfl, rfl, by simp, fun k _ hk => setRow_other w g k _ (fun e => hk (by rw [e]))⟩)

/-- a value of many cells is stored into a part of a block -/
theorem ev_store (hgd : o.guard = none) (hd : o.dst = none) (t : TypeId) (x v : Operand) (ho : o.op = .store t x v) (g off : Nat) (hx : a.eval x = .pointer (some ⟨g, off, none⟩)) (vs : List Value) (hv : a.eval v = .agg vs.toArray)
    (cur : Array Value) (e : TypeId) (hb : Blk w g cur e) (hs : (P.info? t).map (·.size) = some vs.length) (hfit : off + vs.length ≤ cur.size) (h1 : ∀ u ∈ vs, u.oneCell' = true)
    (h : ∀ w1, Blk w1 g (cur.toList.take off ++ vs ++ cur.toList.drop (off + vs.length)).toArray e → w.grownBy w1 (some g) → wpList P ops Q rest a w1) : wpList P ops Q (o :: rest) a w := by
  refine wpList_plain hgd fun K hK => ?_
  obtain ⟨i, hi, hsz⟩ := Option.map_eq_some_iff.1 hs
  have hst := run_storeCells_at P g off e vs 0 cur w hb.eq (by simpa using hfit) h1
  have hrun : (execOp a.eval o).run P w = .ok .skip (w.setRow g (cur.toList.take off ++ vs ++ cur.toList.drop (off + vs.length)).toArray) := by
    unfold execOp
    simp only [ho, hx, hv]
    simp only [Instr.storeAt, Instr.sureAddr, storeVar, sizeOf, typeInfo, Value.cells]
    simp [hi, hsz, hst]
  unfold Oper.wp
  rw [hrun]
  show K (a.put o.dst undef) _
  rw [hd]
  exact hK _ _ (h _ ⟨setRow_heap w g cur _ e _ hb.eq⟩ ⟨rfl, rfl, rfl, by simp, fun k _ hk => setRow_other w g k _ (fun e => hk (by rw [e]))⟩)
end

end Go.Proofs.Ytplhbjpkkhhilaa

/- A region that draws its order, reads, and calls what makes memory but answers alike in every world above: walked once. -/
namespace Go.Proofs.Ytplhbjpkkhhilaa
set_option linter.unusedSimpArgs false
set_option linter.unusedVariables false
open Go.RowKit

/-- the worlds that keep what is below -/
structure BW (w : World) : Type where
  w1 : World
  up : Below w.heap.size w w1
instance (w : World) : Nonempty (BW w) := ⟨⟨w, Below.refl _ _⟩⟩
theorem wp_region_bw {P : Program} {id : Nat} {Q : Exit → Act → World → Prop} {a : Act} {w : World} {l : List Oper} (hm : P.follows .mixedOrders = true) (hB : Region.lexB .any l.toArray = true)
    (h : wpQuiet P l.toArray (fun w' => ∃ x : BW w, w' = x.w1) (fun a' => ∀ w', (∃ x : BW w, w' = x.w1) → Q .normal a' w') l a) : (Code.region id l.toArray true).wp P Q a w :=
  wp_region_quiet (C := fun w' => ∃ x : BW w, w' = x.w1) hm hB ⟨⟨w.drew, below_drew (Below.refl _ _)⟩, rfl⟩ (by simpa using h)
theorem Calls.bw {P : Program} {f : FuncId} {args : Array Value} {W : World} {x : BW W} {v v' : Value} (hv : v = v') (h : Calls P f args x.w1 fun e w' => e = .returned v ∧ Below x.w1.heap.size x.w1 w') :
    Calls P f args x.w1 fun e w'' => e = .returned v' ∧ ∃ y : BW W, w'' = y.w1 :=
  h.mono fun _ w' ⟨he, hb⟩ => ⟨by rw [he, hv], ⟨w', below_then x.up hb⟩, rfl⟩
theorem Calls.bw_d {P : Program} {f : FuncId} {args : Array Value} {W : World} {x : BW W} {v v' : Value} (hv : v = v') (h : Calls P f args x.w1 fun e w' => e = .returned v ∧ Drawn x.w1 w') :
    Calls P f args x.w1 fun e w'' => e = .returned v' ∧ ∃ y : BW W, w'' = y.w1 :=
  h.mono fun _ w' ⟨he, hb⟩ => ⟨by rw [he, hv], ⟨w', below_then x.up hb.below⟩, rfl⟩
theorem Calls.bw_e {P : Program} {f : FuncId} {args : Array Value} {W : World} {x : BW W} {v v' : Value} (hv : v = v') (h : Calls P f args x.w1 fun e w' => e = .returned v ∧ x.w1 = w') :
    Calls P f args x.w1 fun e w'' => e = .returned v' ∧ ∃ y : BW W, w'' = y.w1 :=
  h.mono fun _ w' ⟨he, hb⟩ => ⟨by rw [he, hv], x, hb.symm⟩
theorem BW.cell {w : World} (x : BW w) {a : Addr} {u : Value} (h : w.cell? a = some u) : x.w1.cell? a = some u := (x.up.cell (World.block_lt_of_cell? w _ h)).trans h
theorem bv {a b : Bool} (h : a = b) : Value.bool a = Value.bool b := congrArg _ h
theorem iv {a b : Int} (h : a = b) : Value.int .i64 a = Value.int .i64 b := congrArg _ h

end Go.Proofs.Ytplhbjpkkhhilaa

/- Formed trees: the program's formed. -/
namespace Go.Proofs.Ytplhbjpkkhhilaa
set_option linter.unusedSimpArgs false
set_option linter.unusedVariables false
open Go.RowKit

def IFormOk (r : Rex) : Prop := ∀ (d : Nat) (v1 v2 : Value) (w : World) (lo : Nat), d ≤ 1000 → RexV w lo r (.int .i64 r.kind) v1 v2 →
  Calls Try.prog 55 #[.agg #[.int .i64 r.kind, v1, v2], .int .i64 d] w fun e w' => e = .returned (.bool (formed d r)) ∧ Below w.heap.size w w'

set_option maxHeartbeats 2000000 in
theorem iForm_c (r : Rex) : IFormOk r := by
  refine Rex.ind (p := IFormOk) (fun k s ks ih => ?_) r
  intro d v1 v2 w lo hd h
  obtain ⟨A, c, K, ck, _, rfl, rfl, hs, hk⟩ := h.parts
  dsimp only [Rex.kind, Rex.set, Rex.kids] at hs hk ⊢
  clear h
  have hlen := hk.len
  have hslen := hs.len
  unfold maxN at hlen hslen
  obtain ⟨wa, hwa⟩ : ∃ x, x = w.alloc (.cells #[.int .i64 k, .slice A s.length c, .slice K ks.length ck] 34) := ⟨_, rfl⟩
  have hb : Below w.heap.size w wa := by rw [hwa]; exact below_alloc (Below.refl _ _) _
  have m0 : Blk wa w.heap.size #[.int .i64 k, .slice A s.length c, .slice K ks.length ck] 34 := by rw [hwa]; exact blk_new w _ _
  have HB := Lib.hid hb
  have M0 := Lib.hid m0
  have HS := Lib.hid (hs.below hb)
  have HK := Lib.hid (hk.below hb)
  clear hb m0 hs hk
  have N0 : ∀ x : BW wa, x.w1.cell? ⟨w.heap.size, 0, none⟩ = some (.int .i64 k) := fun x => by rw [(M0.out.below x.up).cell]; rfl
  have N1 : ∀ x : BW wa, x.w1.cell? ⟨w.heap.size, 1, none⟩ = some (.slice A s.length c) := fun x => by rw [(M0.out.below x.up).cell]; rfl
  have N2 : ∀ x : BW wa, x.w1.cell? ⟨w.heap.size, 2, none⟩ = some (.slice K ks.length ck) := fun x => by rw [(M0.out.below x.up).cell]; rfl
  cases d with
  | zero =>
    go_enter Try.func55, Try.ntmps55
    go_wp2
    rw [← hwa]
    clear hwa
    refine wp_region_bw (by kernel_rfl) (by kernel_rfl) ?_
    repeat (go_big_quiet_step ((fail)))
    refine wpQuiet_nil ?_
    rintro _ ⟨⟨w1, b1⟩, rfl⟩
    go_wp2
    go_ret
    exact ⟨rfl, below_then HB.out b1⟩
  | succ d =>
    have D1 : decide ((d : Int) + 1 < 1) = false := by simp; omega
    by_cases h1 : kidsOf k = ks.length
    · have g1 : (kidsOf k != (ks.length : Int)) = false := by simp [h1]
      by_cases h3 : setOk s = true
      · by_cases h2 : k = 1
        · subst h2
          have NO : Hid (nodeOk (.mk 1 s ks) = true) := by show _ = _; simp [nodeOk, Rex.kind, Rex.kids, Rex.set, h1, h3]
          have H3 := Lib.hid h3
          clear h1 h3
          go_enter Try.func55, Try.ntmps55
          go_wp2
          rw [← hwa]
          clear hwa
          refine wp_region_bw (by kernel_rfl) (by kernel_rfl) ?_
          repeat (go_big_quiet_step ((first | (go_at_call 78; exact Calls.bw_e rfl (iKids_c _ _)) | (go_at_call 44; exact Calls.bw (bv H3.out) (iSetOk_c _ _ _ _ (HS.out.below (BW.up _)))))))
          refine wpQuiet_nil ?_
          rintro w1 ⟨x1, y1⟩
          have b1 : Below wa.heap.size wa w1 := y1 ▸ x1.up
          replace N2 := N2 ⟨w1, b1⟩
          dsimp only at N2
          clear y1 x1
          clear N0 N1
          have HB1 := Lib.hid b1
          clear b1
          go_wp2
          go_loopg [38] (ks.length) (fun n i wr => ∃ j : Nat, j + n = ks.length ∧ i = .int .i64 j ∧ Hid ((ks.drop j).all (formed d) = ks.all (formed d)) ∧ Hid (Below wa.heap.size wa wr))
          case atStart => exact ⟨0, by omega, rfl, by rw [List.drop_zero]; rfl, HB1⟩
          case round =>
            clear HB1 N2 g1
            obtain ⟨j, hj, rfl, HF, HW⟩ := hrel
            by_cases hlt : j < ks.length
            · obtain ⟨a, r, x1, x2, rfl, HX, HD, HV, c0, c1, c2⟩ := (HK.out.below HW.out).at_ j hlt
              obtain ⟨A1, d1, K1, e1, _, rfl, rfl, _⟩ := HV.out.parts
              have hmem := List.mem_of_getElem? HX.out
              have E2 : Hid ((ks.drop j).all (formed d) = (formed d r && (ks.drop (j + 1)).all (formed d))) := by show _ = _; rw [HD.out, List.all_cons]
              have hb2 := below_alloc (Below.refl wr.heap.size wr) (.cells #[.int .i64 r.kind, .slice A1 r.set.length d1, .slice K1 r.kids.length e1] 34)
              have HV2 := Lib.hid (HV.out.under hb2)
              have HW2 := Lib.hid (below_then HW.out hb2)
              clear hb2
              go_wp2_with fail
              refine (ih r hmem d _ _ _ _ (by omega) HV2.out).mono ?_
              rintro e w4 ⟨rfl, b4⟩
              have HW4 := Lib.hid (below_then HW2.out b4)
              clear b4 c0 c1 c2
              by_cases hf : formed d r = true
              · have HQ := Lib.hid hf
                rw [hf]
                clear hf
                go_wp2
                go_roundg (gk - 1)
                case rel => exact ⟨j + 1, by omega, by go_num, by have := HF.out; rw [E2.out, HQ.out] at this; exact this, HW4⟩
                case measure => omega
              · have HQ : Hid (formed d r = false) := by show _ = _; simpa using hf
                rw [HQ.out]
                clear hf
                go_wp2
                go_ret
                exact ⟨ret_bool (by rw [formed, NO.out]; show _ = ks.all (formed d); rw [← HF.out, E2.out, HQ.out]; rfl), below_then HB.out HW4.out⟩
            · go_wp2
              go_ret
              exact ⟨ret_bool (by rw [formed, NO.out]; show _ = ks.all (formed d); rw [← HF.out, List.drop_of_length_le (by omega)]; rfl), below_then HB.out HW.out⟩
        · have e2 : (k != 1) = true := by simp [h2]
          by_cases h4 : s = []
          · have e4 : decide (0 < s.length) = false := by simp [h4]
            have NO : Hid (nodeOk (.mk k s ks) = true) := by show _ = _; rw [h4] at h3 ⊢; simp [nodeOk, Rex.kind, Rex.kids, Rex.set, h1, h3]
            have H3 := Lib.hid h3
            clear h1 h3 h2 h4
            go_enter Try.func55, Try.ntmps55
            go_wp2
            rw [← hwa]
            clear hwa
            refine wp_region_bw (by kernel_rfl) (by kernel_rfl) ?_
            repeat (go_big_quiet_step ((first | (go_at_call 78; exact Calls.bw_e rfl (iKids_c _ _)) | (go_at_call 44; exact Calls.bw (bv H3.out) (iSetOk_c _ _ _ _ (HS.out.below (BW.up _)))))))
            refine wpQuiet_nil ?_
            rintro w1 ⟨x1, y1⟩
            have b1 : Below wa.heap.size wa w1 := y1 ▸ x1.up
            replace N2 := N2 ⟨w1, b1⟩
            dsimp only at N2
            clear y1 x1
            clear N0 N1
            have HB1 := Lib.hid b1
            clear b1
            go_wp2
            go_loopg [38] (ks.length) (fun n i wr => ∃ j : Nat, j + n = ks.length ∧ i = .int .i64 j ∧ Hid ((ks.drop j).all (formed d) = ks.all (formed d)) ∧ Hid (Below wa.heap.size wa wr))
            case atStart => exact ⟨0, by omega, rfl, by rw [List.drop_zero]; rfl, HB1⟩
            case round =>
              clear HB1 N2 g1
              obtain ⟨j, hj, rfl, HF, HW⟩ := hrel
              by_cases hlt : j < ks.length
              · obtain ⟨a, r, x1, x2, rfl, HX, HD, HV, c0, c1, c2⟩ := (HK.out.below HW.out).at_ j hlt
                obtain ⟨A1, d1, K1, e1, _, rfl, rfl, _⟩ := HV.out.parts
                have hmem := List.mem_of_getElem? HX.out
                have E2 : Hid ((ks.drop j).all (formed d) = (formed d r && (ks.drop (j + 1)).all (formed d))) := by show _ = _; rw [HD.out, List.all_cons]
                have hb2 := below_alloc (Below.refl wr.heap.size wr) (.cells #[.int .i64 r.kind, .slice A1 r.set.length d1, .slice K1 r.kids.length e1] 34)
                have HV2 := Lib.hid (HV.out.under hb2)
                have HW2 := Lib.hid (below_then HW.out hb2)
                clear hb2
                go_wp2_with fail
                refine (ih r hmem d _ _ _ _ (by omega) HV2.out).mono ?_
                rintro e w4 ⟨rfl, b4⟩
                have HW4 := Lib.hid (below_then HW2.out b4)
                clear b4 c0 c1 c2
                by_cases hf : formed d r = true
                · have HQ := Lib.hid hf
                  rw [hf]
                  clear hf
                  go_wp2
                  go_roundg (gk - 1)
                  case rel => exact ⟨j + 1, by omega, by go_num, by have := HF.out; rw [E2.out, HQ.out] at this; exact this, HW4⟩
                  case measure => omega
                · have HQ : Hid (formed d r = false) := by show _ = _; simpa using hf
                  rw [HQ.out]
                  clear hf
                  go_wp2
                  go_ret
                  exact ⟨ret_bool (by rw [formed, NO.out]; show _ = ks.all (formed d); rw [← HF.out, E2.out, HQ.out]; rfl), below_then HB.out HW4.out⟩
              · go_wp2
                go_ret
                exact ⟨ret_bool (by rw [formed, NO.out]; show _ = ks.all (formed d); rw [← HF.out, List.drop_of_length_le (by omega)]; rfl), below_then HB.out HW.out⟩
          · have hl : 0 < s.length := by cases s; exact absurd rfl h4; simp
            have e4 : decide (0 < s.length) = true := decide_eq_true (by omega)
            have NO : Hid (nodeOk (.mk k s ks) = false) := by show _ = _; cases s; exact absurd rfl h4; simp [nodeOk, Rex.kind, Rex.kids, Rex.set, h2]
            clear h1 h3 h2 h4 hl
            go_enter Try.func55, Try.ntmps55
            go_wp2
            rw [← hwa]
            clear hwa
            refine wp_region_bw (by kernel_rfl) (by kernel_rfl) ?_
            repeat (go_big_quiet_step ((first | (go_at_call 78; exact Calls.bw_e rfl (iKids_c _ _)) | (go_at_call 44; exact Calls.bw (bv H3.out) (iSetOk_c _ _ _ _ (HS.out.below (BW.up _)))))))
            refine wpQuiet_nil ?_
            rintro w1 ⟨x1, y1⟩
            have b1 : Below wa.heap.size wa w1 := y1 ▸ x1.up
            replace N2 := N2 ⟨w1, b1⟩
            dsimp only at N2
            clear y1 x1
            clear N0 N1
            go_wp2
            go_ret
            exact ⟨ret_bool (by rw [formed, NO.out]; rfl), below_then HB.out b1⟩
      · replace h3 : setOk s = false := by simpa using h3
        have NO : Hid (nodeOk (.mk k s ks) = false) := by show _ = _; simp [nodeOk, Rex.set, h3]
        by_cases h2 : k = 1
        · subst h2
          have H3 := Lib.hid h3
          clear h1 h3
          go_enter Try.func55, Try.ntmps55
          go_wp2
          rw [← hwa]
          clear hwa
          refine wp_region_bw (by kernel_rfl) (by kernel_rfl) ?_
          repeat (go_big_quiet_step ((first | (go_at_call 78; exact Calls.bw_e rfl (iKids_c _ _)) | (go_at_call 44; exact Calls.bw (bv H3.out) (iSetOk_c _ _ _ _ (HS.out.below (BW.up _)))))))
          refine wpQuiet_nil ?_
          rintro w1 ⟨x1, y1⟩
          have b1 : Below wa.heap.size wa w1 := y1 ▸ x1.up
          replace N2 := N2 ⟨w1, b1⟩
          dsimp only at N2
          clear y1 x1
          clear N0 N1
          go_wp2
          go_ret
          exact ⟨ret_bool (by rw [formed, NO.out]; rfl), below_then HB.out b1⟩
        · have e2 : (k != 1) = true := by simp [h2]
          by_cases h4 : s = []
          · subst h4
            simp [setOk, setOkGo] at h3
          · have hl : 0 < s.length := by cases s; exact absurd rfl h4; simp
            have e4 : decide (0 < s.length) = true := decide_eq_true (by omega)
            clear h1 h3 h2 h4 hl
            go_enter Try.func55, Try.ntmps55
            go_wp2
            rw [← hwa]
            clear hwa
            refine wp_region_bw (by kernel_rfl) (by kernel_rfl) ?_
            repeat (go_big_quiet_step ((first | (go_at_call 78; exact Calls.bw_e rfl (iKids_c _ _)) | (go_at_call 44; exact Calls.bw (bv H3.out) (iSetOk_c _ _ _ _ (HS.out.below (BW.up _)))))))
            refine wpQuiet_nil ?_
            rintro w1 ⟨x1, y1⟩
            have b1 : Below wa.heap.size wa w1 := y1 ▸ x1.up
            replace N2 := N2 ⟨w1, b1⟩
            dsimp only at N2
            clear y1 x1
            clear N0 N1
            go_wp2
            go_ret
            exact ⟨ret_bool (by rw [formed, NO.out]; rfl), below_then HB.out b1⟩
    · have g1 : (kidsOf k != (ks.length : Int)) = true := by simp [h1]
      have NO : Hid (nodeOk (.mk k s ks) = false) := by show _ = _; simp [nodeOk, Rex.kind, Rex.kids, h1]
      clear h1
      go_enter Try.func55, Try.ntmps55
      go_wp2
      rw [← hwa]
      clear hwa
      refine wp_region_bw (by kernel_rfl) (by kernel_rfl) ?_
      repeat (go_big_quiet_step ((first | (go_at_call 78; exact Calls.bw_e rfl (iKids_c _ _)) | (go_at_call 44; exact Calls.bw (bv H3.out) (iSetOk_c _ _ _ _ (HS.out.below (BW.up _)))))))
      refine wpQuiet_nil ?_
      rintro w1 ⟨x1, y1⟩
      have b1 : Below wa.heap.size wa w1 := y1 ▸ x1.up
      replace N2 := N2 ⟨w1, b1⟩
      dsimp only at N2
      clear y1 x1
      clear N0 N1
      go_wp2
      go_ret
      exact ⟨ret_bool (by rw [formed, NO.out]; rfl), below_then HB.out b1⟩

end Go.Proofs.Ytplhbjpkkhhilaa

/- Formed trees: the reference's l2Form. -/
namespace Go.Proofs.Ytplhbjpkkhhilaa
set_option linter.unusedSimpArgs false
set_option linter.unusedVariables false
open Go.RowKit

def SFormOk (r : Rex) : Prop := ∀ (d : Nat) (v1 v2 : Value) (w : World) (lo : Nat), d ≤ 1000 → RexV w lo r (.int .i64 r.kind) v1 v2 →
  Calls Try.prog 56 #[.agg #[.int .i64 r.kind, v1, v2], .int .i64 d] w fun e w' => e = .returned (.bool (formed d r)) ∧ Below w.heap.size w w'

set_option maxHeartbeats 2000000 in
theorem sForm_c (r : Rex) : SFormOk r := by
  refine Rex.ind (p := SFormOk) (fun k s ks ih => ?_) r
  intro d v1 v2 w lo hd h
  obtain ⟨A, c, K, ck, _, rfl, rfl, hs, hk⟩ := h.parts
  dsimp only [Rex.kind, Rex.set, Rex.kids] at hs hk ⊢
  clear h
  have hlen := hk.len
  have hslen := hs.len
  unfold maxN at hlen hslen
  obtain ⟨wa, hwa⟩ : ∃ x, x = w.alloc (.cells #[.int .i64 k, .slice A s.length c, .slice K ks.length ck] 34) := ⟨_, rfl⟩
  have hb : Below w.heap.size w wa := by rw [hwa]; exact below_alloc (Below.refl _ _) _
  have m0 : Blk wa w.heap.size #[.int .i64 k, .slice A s.length c, .slice K ks.length ck] 34 := by rw [hwa]; exact blk_new w _ _
  have HB := Lib.hid hb
  have M0 := Lib.hid m0
  have HS := Lib.hid (hs.below hb)
  have HK := Lib.hid (hk.below hb)
  clear hb m0 hs hk
  have N0 : ∀ x : BW wa, x.w1.cell? ⟨w.heap.size, 0, none⟩ = some (.int .i64 k) := fun x => by rw [(M0.out.below x.up).cell]; rfl
  have N1 : ∀ x : BW wa, x.w1.cell? ⟨w.heap.size, 1, none⟩ = some (.slice A s.length c) := fun x => by rw [(M0.out.below x.up).cell]; rfl
  have N2 : ∀ x : BW wa, x.w1.cell? ⟨w.heap.size, 2, none⟩ = some (.slice K ks.length ck) := fun x => by rw [(M0.out.below x.up).cell]; rfl
  cases d with
  | zero =>
    go_enter Try.func56, Try.ntmps56
    go_wp2
    rw [← hwa]
    clear hwa
    refine wp_region_bw (by kernel_rfl) (by kernel_rfl) ?_
    repeat (go_big_quiet_step ((fail)))
    refine wpQuiet_nil ?_
    rintro _ ⟨⟨w1, b1⟩, rfl⟩
    go_wp2
    go_ret
    exact ⟨rfl, below_then HB.out b1⟩
  | succ d =>
    have D1 : decide ((d : Int) + 1 < 1) = false := by simp; omega
    by_cases h1 : kidsOf k = ks.length
    · have g1 : (kidsOf k != (ks.length : Int)) = false := by simp [h1]
      by_cases h3 : setOk s = true
      · by_cases h2 : k = 1
        · subst h2
          have NO : Hid (nodeOk (.mk 1 s ks) = true) := by show _ = _; simp [nodeOk, Rex.kind, Rex.kids, Rex.set, h1, h3]
          have H3 := Lib.hid h3
          clear h1 h3
          go_enter Try.func56, Try.ntmps56
          go_wp2
          rw [← hwa]
          clear hwa
          refine wp_region_bw (by kernel_rfl) (by kernel_rfl) ?_
          repeat (go_big_quiet_step ((first | (go_at_call 79; exact Calls.bw_e rfl (sKids_c _ _)) | (go_at_call 47; exact Calls.bw_d (bv H3.out) (sSetOk_c _ _ _ _ (HS.out.below (BW.up _)))))))
          refine wpQuiet_nil ?_
          rintro w1 ⟨x1, y1⟩
          have b1 : Below wa.heap.size wa w1 := y1 ▸ x1.up
          replace N2 := N2 ⟨w1, b1⟩
          dsimp only at N2
          clear y1 x1
          clear N0 N1
          have HB1 := Lib.hid b1
          clear b1
          go_wp2
          go_loopg [5] (ks.length) (fun n i wr => ∃ j : Nat, j + n = ks.length ∧ i = .int .i64 j ∧ Hid ((ks.drop j).all (formed d) = ks.all (formed d)) ∧ Hid (Below wa.heap.size wa wr))
          case atStart => exact ⟨0, by omega, rfl, by rw [List.drop_zero]; rfl, HB1⟩
          case round =>
            clear HB1 N2 g1
            obtain ⟨j, hj, rfl, HF, HW⟩ := hrel
            have n2 : wr.cell? ⟨w.heap.size, 2, none⟩ = some (.slice K ks.length ck) := by rw [(M0.out.below HW.out).cell]; rfl
            by_cases hlt : j < ks.length
            · obtain ⟨a, r, x1, x2, rfl, HX, HD, HV, c0, c1, c2⟩ := (HK.out.below HW.out).at_ j hlt
              have hmem := List.mem_of_getElem? HX.out
              have E2 : Hid ((ks.drop j).all (formed d) = (formed d r && (ks.drop (j + 1)).all (formed d))) := by show _ = _; rw [HD.out, List.all_cons]
              go_wp2_with fail
              refine (ih r hmem d _ _ _ _ (by omega) HV.out).mono ?_
              rintro e w4 ⟨rfl, b4⟩
              have HW4 := Lib.hid (below_then HW.out b4)
              clear b4 c0 c1 c2 n2
              by_cases hf : formed d r = true
              · have HQ := Lib.hid hf
                rw [hf]
                clear hf
                go_wp2
                go_roundg (gk - 1)
                case rel => exact ⟨j + 1, by omega, by go_num, by have := HF.out; rw [E2.out, HQ.out] at this; exact this, HW4⟩
                case measure => omega
              · have HQ : Hid (formed d r = false) := by show _ = _; simpa using hf
                rw [HQ.out]
                clear hf
                go_wp2
                go_ret
                exact ⟨ret_bool (by rw [formed, NO.out]; show _ = ks.all (formed d); rw [← HF.out, E2.out, HQ.out]; rfl), below_then HB.out HW4.out⟩
            · go_wp2
              go_ret
              exact ⟨ret_bool (by rw [formed, NO.out]; show _ = ks.all (formed d); rw [← HF.out, List.drop_of_length_le (by omega)]; rfl), below_then HB.out HW.out⟩
        · have e2 : (k != 1) = true := by simp [h2]
          by_cases h4 : s = []
          · have e4 : decide (0 < s.length) = false := by simp [h4]
            have NO : Hid (nodeOk (.mk k s ks) = true) := by show _ = _; rw [h4] at h3 ⊢; simp [nodeOk, Rex.kind, Rex.kids, Rex.set, h1, h3]
            have H3 := Lib.hid h3
            clear h1 h3 h2 h4
            go_enter Try.func56, Try.ntmps56
            go_wp2
            rw [← hwa]
            clear hwa
            refine wp_region_bw (by kernel_rfl) (by kernel_rfl) ?_
            repeat (go_big_quiet_step ((first | (go_at_call 79; exact Calls.bw_e rfl (sKids_c _ _)) | (go_at_call 47; exact Calls.bw_d (bv H3.out) (sSetOk_c _ _ _ _ (HS.out.below (BW.up _)))))))
            refine wpQuiet_nil ?_
            rintro w1 ⟨x1, y1⟩
            have b1 : Below wa.heap.size wa w1 := y1 ▸ x1.up
            replace N2 := N2 ⟨w1, b1⟩
            dsimp only at N2
            clear y1 x1
            clear N0 N1
            have HB1 := Lib.hid b1
            clear b1
            go_wp2
            go_loopg [5] (ks.length) (fun n i wr => ∃ j : Nat, j + n = ks.length ∧ i = .int .i64 j ∧ Hid ((ks.drop j).all (formed d) = ks.all (formed d)) ∧ Hid (Below wa.heap.size wa wr))
            case atStart => exact ⟨0, by omega, rfl, by rw [List.drop_zero]; rfl, HB1⟩
            case round =>
              clear HB1 N2 g1
              obtain ⟨j, hj, rfl, HF, HW⟩ := hrel
              have n2 : wr.cell? ⟨w.heap.size, 2, none⟩ = some (.slice K ks.length ck) := by rw [(M0.out.below HW.out).cell]; rfl
              by_cases hlt : j < ks.length
              · obtain ⟨a, r, x1, x2, rfl, HX, HD, HV, c0, c1, c2⟩ := (HK.out.below HW.out).at_ j hlt
                have hmem := List.mem_of_getElem? HX.out
                have E2 : Hid ((ks.drop j).all (formed d) = (formed d r && (ks.drop (j + 1)).all (formed d))) := by show _ = _; rw [HD.out, List.all_cons]
                go_wp2_with fail
                refine (ih r hmem d _ _ _ _ (by omega) HV.out).mono ?_
                rintro e w4 ⟨rfl, b4⟩
                have HW4 := Lib.hid (below_then HW.out b4)
                clear b4 c0 c1 c2 n2
                by_cases hf : formed d r = true
                · have HQ := Lib.hid hf
                  rw [hf]
                  clear hf
                  go_wp2
                  go_roundg (gk - 1)
                  case rel => exact ⟨j + 1, by omega, by go_num, by have := HF.out; rw [E2.out, HQ.out] at this; exact this, HW4⟩
                  case measure => omega
                · have HQ : Hid (formed d r = false) := by show _ = _; simpa using hf
                  rw [HQ.out]
                  clear hf
                  go_wp2
                  go_ret
                  exact ⟨ret_bool (by rw [formed, NO.out]; show _ = ks.all (formed d); rw [← HF.out, E2.out, HQ.out]; rfl), below_then HB.out HW4.out⟩
              · go_wp2
                go_ret
                exact ⟨ret_bool (by rw [formed, NO.out]; show _ = ks.all (formed d); rw [← HF.out, List.drop_of_length_le (by omega)]; rfl), below_then HB.out HW.out⟩
          · have hl : 0 < s.length := by cases s; exact absurd rfl h4; simp
            have e4 : decide (0 < s.length) = true := decide_eq_true (by omega)
            have NO : Hid (nodeOk (.mk k s ks) = false) := by show _ = _; cases s; exact absurd rfl h4; simp [nodeOk, Rex.kind, Rex.kids, Rex.set, h2]
            clear h1 h3 h2 h4 hl
            go_enter Try.func56, Try.ntmps56
            go_wp2
            rw [← hwa]
            clear hwa
            refine wp_region_bw (by kernel_rfl) (by kernel_rfl) ?_
            repeat (go_big_quiet_step ((first | (go_at_call 79; exact Calls.bw_e rfl (sKids_c _ _)) | (go_at_call 47; exact Calls.bw_d (bv H3.out) (sSetOk_c _ _ _ _ (HS.out.below (BW.up _)))))))
            refine wpQuiet_nil ?_
            rintro w1 ⟨x1, y1⟩
            have b1 : Below wa.heap.size wa w1 := y1 ▸ x1.up
            replace N2 := N2 ⟨w1, b1⟩
            dsimp only at N2
            clear y1 x1
            clear N0 N1
            go_wp2
            go_ret
            exact ⟨ret_bool (by rw [formed, NO.out]; rfl), below_then HB.out b1⟩
      · replace h3 : setOk s = false := by simpa using h3
        have NO : Hid (nodeOk (.mk k s ks) = false) := by show _ = _; simp [nodeOk, Rex.set, h3]
        by_cases h2 : k = 1
        · subst h2
          have H3 := Lib.hid h3
          clear h1 h3
          go_enter Try.func56, Try.ntmps56
          go_wp2
          rw [← hwa]
          clear hwa
          refine wp_region_bw (by kernel_rfl) (by kernel_rfl) ?_
          repeat (go_big_quiet_step ((first | (go_at_call 79; exact Calls.bw_e rfl (sKids_c _ _)) | (go_at_call 47; exact Calls.bw_d (bv H3.out) (sSetOk_c _ _ _ _ (HS.out.below (BW.up _)))))))
          refine wpQuiet_nil ?_
          rintro w1 ⟨x1, y1⟩
          have b1 : Below wa.heap.size wa w1 := y1 ▸ x1.up
          replace N2 := N2 ⟨w1, b1⟩
          dsimp only at N2
          clear y1 x1
          clear N0 N1
          go_wp2
          go_ret
          exact ⟨ret_bool (by rw [formed, NO.out]; rfl), below_then HB.out b1⟩
        · have e2 : (k != 1) = true := by simp [h2]
          by_cases h4 : s = []
          · subst h4
            simp [setOk, setOkGo] at h3
          · have hl : 0 < s.length := by cases s; exact absurd rfl h4; simp
            have e4 : decide (0 < s.length) = true := decide_eq_true (by omega)
            clear h1 h3 h2 h4 hl
            go_enter Try.func56, Try.ntmps56
            go_wp2
            rw [← hwa]
            clear hwa
            refine wp_region_bw (by kernel_rfl) (by kernel_rfl) ?_
            repeat (go_big_quiet_step ((first | (go_at_call 79; exact Calls.bw_e rfl (sKids_c _ _)) | (go_at_call 47; exact Calls.bw_d (bv H3.out) (sSetOk_c _ _ _ _ (HS.out.below (BW.up _)))))))
            refine wpQuiet_nil ?_
            rintro w1 ⟨x1, y1⟩
            have b1 : Below wa.heap.size wa w1 := y1 ▸ x1.up
            replace N2 := N2 ⟨w1, b1⟩
            dsimp only at N2
            clear y1 x1
            clear N0 N1
            go_wp2
            go_ret
            exact ⟨ret_bool (by rw [formed, NO.out]; rfl), below_then HB.out b1⟩
    · have g1 : (kidsOf k != (ks.length : Int)) = true := by simp [h1]
      have NO : Hid (nodeOk (.mk k s ks) = false) := by show _ = _; simp [nodeOk, Rex.kind, Rex.kids, h1]
      clear h1
      go_enter Try.func56, Try.ntmps56
      go_wp2
      rw [← hwa]
      clear hwa
      refine wp_region_bw (by kernel_rfl) (by kernel_rfl) ?_
      repeat (go_big_quiet_step ((first | (go_at_call 79; exact Calls.bw_e rfl (sKids_c _ _)) | (go_at_call 47; exact Calls.bw_d (bv H3.out) (sSetOk_c _ _ _ _ (HS.out.below (BW.up _)))))))
      refine wpQuiet_nil ?_
      rintro w1 ⟨x1, y1⟩
      have b1 : Below wa.heap.size wa w1 := y1 ▸ x1.up
      replace N2 := N2 ⟨w1, b1⟩
      dsimp only at N2
      clear y1 x1
      clear N0 N1
      go_wp2
      go_ret
      exact ⟨ret_bool (by rw [formed, NO.out]; rfl), below_then HB.out b1⟩

end Go.Proofs.Ytplhbjpkkhhilaa

/- How many parts a tree has: the program's manyParts. -/
namespace Go.Proofs.Ytplhbjpkkhhilaa
set_option linter.unusedSimpArgs false
set_option linter.unusedVariables false
open Go.RowKit

theorem many_size (r : Rex) : r.many ≤ r.size + 1 := by
  refine Rex.rec (motive_1 := fun r => r.many ≤ r.size + 1) (motive_2 := fun l => manyL l ≤ sizeL l + l.length) ?_ ?_ ?_ r
  · intro k s ks ih
    rw [Rex.many, Rex.size]
    omega
  · simp [manyL]
  · intro x xs h1 h2
    rw [manyL, sizeL, List.length_cons]
    omega
theorem manyL_size (l : List Rex) : manyL l ≤ sizeL l + l.length := by
  induction l with
  | nil => simp [manyL]
  | cons x xs ih =>
    have := many_size x
    rw [manyL, sizeL, List.length_cons]
    omega
theorem sizeL_kid {ks : List Rex} {r : Rex} (h : r ∈ ks) : r.size ≤ sizeL ks := by
  induction ks with
  | nil => cases h
  | cons x xs ih =>
    rw [sizeL]
    rcases List.mem_cons.1 h with rfl | h
    · omega
    · have := ih h; omega
def ManyOk (r : Rex) : Prop := ∀ (v1 v2 : Value) (w : World) (lo : Nat), RexV w lo r (.int .i64 r.kind) v1 v2 → r.size ≤ 1048576 →
  Calls Try.prog 53 #[.agg #[.int .i64 r.kind, v1, v2]] w fun e w' => e = .returned (.int .i64 r.many) ∧ Below w.heap.size w w'

set_option maxHeartbeats 2000000 in
theorem iMany_c (r : Rex) : ManyOk r := by
  refine Rex.ind (p := ManyOk) (fun k s ks ih => ?_) r
  intro v1 v2 w lo h hsz
  obtain ⟨A, c, K, ck, _, rfl, rfl, hs, hk⟩ := h.parts
  dsimp only [Rex.kind, Rex.set, Rex.kids] at hs hk ⊢
  rw [Rex.size] at hsz
  clear h
  have hlen := hk.len
  have hml := manyL_size ks
  have hb := below_alloc (Below.refl w.heap.size w) (.cells #[.int .i64 k, .slice A s.length c, .slice K ks.length ck] 34)
  have HB := Lib.hid hb
  have HK := Lib.hid hk
  clear hb hk
  go_enter Try.func53, Try.ntmps53
  go_wp2
  go_loopg [3, 9] (ks.length) (fun n m i wr => ∃ j : Nat, j + n = ks.length ∧ i = .int .i64 j ∧ ∃ x : Nat, m = .int .i64 x ∧ Hid (x + manyL (ks.drop j) = 1 + manyL ks) ∧ Hid (Below w.heap.size w wr))
  case atStart => exact ⟨0, by omega, rfl, 1, rfl, by rw [List.drop_zero]; rfl, HB⟩
  case round =>
    clear HB
    obtain ⟨j, hj, rfl, x, rfl, HM, HB⟩ := hrel
    by_cases hlt : j < ks.length
    · obtain ⟨a, r, x1, x2, rfl, HX, HD, HV, c0, c1, c2⟩ := (HK.out.below HB.out).at_ j hlt
      obtain ⟨A1, d1, K1, e1, _, rfl, rfl, _⟩ := HV.out.parts
      have hmem := List.mem_of_getElem? HX.out
      have hks := sizeL_kid hmem
      have E2 : Hid (manyL (ks.drop j) = r.many + manyL (ks.drop (j + 1))) := by show _ = _; rw [HD.out, manyL]
      have hx : x + r.many ≤ 1 + manyL ks := by have := HM.out; have := E2.out; omega
      have hb2 := below_alloc (Below.refl wr.heap.size wr) (.cells #[.int .i64 r.kind, .slice A1 r.set.length d1, .slice K1 r.kids.length e1] 34)
      have HV2 := Lib.hid (HV.out.under hb2)
      have HB2 := Lib.hid (below_then HB.out hb2)
      clear hb2
      go_wp2_with fail
      refine (ih r hmem _ _ _ _ HV2.out (by omega)).mono ?_
      rintro e w4 ⟨rfl, b4⟩
      have HB4 := Lib.hid (below_then HB2.out b4)
      clear b4 c0 c1 c2
      go_wp2
      go_roundg (gk - 1)
      case rel => exact ⟨j + 1, by omega, by go_num, x + r.many, by go_num, by have := HM.out; have := E2.out; show _ = _; omega, HB4⟩
      case measure => omega
    · go_wp2
      go_ret
      refine ⟨ret_int ?_, HB.out⟩
      have := HM.out
      rw [List.drop_of_length_le (by omega), manyL] at this
      rw [Rex.many]
      omega

end Go.Proofs.Ytplhbjpkkhhilaa
