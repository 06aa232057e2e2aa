/- spec.SetOk; the two comparisons of sets; sizes and copies of the laws' arguments. -/
import Derived.Test.YtlchipjckgaclaaDoorW1
namespace Go.Proofs.YtlchipjckgaclaaDoor
set_option linter.unusedSimpArgs false
set_option linter.unusedVariables false
set_option maxRecDepth 100000
open Go.RowKit

set_option maxHeartbeats 2000000 in
theorem sSetOk_c (A : Option Addr) (c : Nat) (xs : List Sp) (w : World) {lo : Nat} (h : Sps w lo A c xs) :
    Calls Tryd.prog 31 #[.slice A xs.length c] w fun e w' => e = .returned (.bool (setOk xs)) ∧ Drawn w w' := by
  have hlen := h.len
  unfold maxN at hlen
  go_enter Tryd.func31, Tryd.ntmps31
  go_wp2
  go_loopg [3] (xs.length) (fun n i wr => ∃ (k : Nat) (p : Option Int), k + n = xs.length ∧ i = .int .i64 k ∧ Hid (setOkGo p (xs.drop k) = setOk xs) ∧ Hid (PrevOk xs k p) ∧ Drawn w wr)
  case atStart => exact ⟨0, none, by omega, rfl, by rw [List.drop_zero]; rfl, .inl ⟨rfl, rfl⟩, 0, rfl⟩
  case round =>
    obtain ⟨k, p, hk, rfl, HS, HP, m, rfl⟩ := hrel
    by_cases hlt : k < xs.length
    · obtain ⟨a, x, rfl, HX, HD, h0, h1⟩ := h.at_ k hlt
      have ST : Hid _ := setOkGo_step HD.out HS.out
      clear HD HS
      by_cases c1 : x.lo < 0
      · have d1 : decide (x.lo < 0) = true := decide_eq_true c1
        clear c1
        go_wp2
        go_quiet (fail)
        go_wp2
        go_ret
        exact ⟨ret_bool (by rw [ST.out.1 (spBad_none (.inl (of_decide_eq_true d1)) _)]), drewN_drewN _ _ _⟩
      have d1 : decide (x.lo < 0) = false := decide_eq_false c1
      by_cases c2 : 255 < x.hi
      · have d2 : decide (255 < x.hi) = true := decide_eq_true c2
        clear c1 c2
        go_wp2
        go_quiet (fail)
        go_wp2
        go_ret
        exact ⟨ret_bool (by rw [ST.out.1 (spBad_none (.inr (.inr (of_decide_eq_true d2))) _)]), drewN_drewN _ _ _⟩
      have d2 : decide (255 < x.hi) = false := decide_eq_false c2
      by_cases c3 : x.hi < x.lo
      · have d3 : decide (x.hi < x.lo) = true := decide_eq_true c3
        clear c1 c2 c3
        go_wp2
        go_quiet (fail)
        go_wp2
        go_ret
        exact ⟨ret_bool (by rw [ST.out.1 (spBad_none (.inr (.inl (of_decide_eq_true d3))) _)]), drewN_drewN _ _ _⟩
      have d3 : decide (x.hi < x.lo) = false := decide_eq_false c3
      have X0 : Hid (0 ≤ x.hi ∧ x.hi ≤ 255) := ⟨by omega, by omega⟩
      rcases HP.out with ⟨hk0, rfl⟩ | ⟨j, y, hj, hy, rfl, y0, y1⟩
      · have C : Hid (spBad none x = false) := spGood (by omega) (by omega) (by omega) (fun q hq => by cases hq)
        have d4 : decide (0 < k) = false := decide_eq_false (by omega)
        clear c1 c2 c3 hk0
        go_wp2
        go_quiet (fail)
        go_wp2
        go_roundg (gk - 1)
        case rel => exact ⟨k + 1, some x.hi, by omega, by go_num, ST.out.2 C.out, .inr ⟨k, x, rfl, HX.out, rfl, X0.out.1, X0.out.2⟩, ⟨_, rfl⟩⟩
        case measure => omega
      · obtain ⟨a', y', ea, HY, _, _, h3⟩ := h.at_ (k - 1) (by omega)
        cases ea
        obtain rfl : y = y' := by
          have := HY.out
          rw [show k - 1 = j by omega, hy] at this
          exact Option.some.inj this
        have d4 : decide (0 < k) = true := decide_eq_true (by omega)
        have e1 : IntKind.i64.wrap ((k : Int) - 1) = (k : Int) - 1 := IntWalk.i64_in _ (by omega)
        have e2 : (0 : Int) ≤ (k : Int) - 1 := by omega
        have e6 : (1 : Int) ≤ (k : Int) := by omega
        have e3 : (k : Int) - 1 < (xs.length : Int) := by omega
        have e4 : ((k : Int) - 1).toNat = k - 1 := by omega
        have e5 : IntKind.i64.wrap (y.hi + 1) = y.hi + 1 := IntWalk.i64_in _ (by omega)
        by_cases c4 : x.lo ≤ y.hi + 1
        · have d5 : decide (x.lo ≤ y.hi + 1) = true := decide_eq_true c4
          have C : Hid (spBad (some y.hi) x = true) := spBad_some c4
          clear c1 c2 c3 c4 hj
          go_wp2
          go_quiet (fail)
          clear e1 e2 e3 e4 e5 e6
          go_wp2
          go_ret
          exact ⟨ret_bool (by rw [ST.out.1 C.out]), drewN_drewN _ _ _⟩
        · have d5 : decide (x.lo ≤ y.hi + 1) = false := decide_eq_false c4
          have C : Hid (spBad (some y.hi) x = false) := spGood (by omega) (by omega) (by omega) (fun q hq => by cases hq; omega)
          clear c1 c2 c3 c4 hj
          go_wp2
          go_quiet (fail)
          clear e1 e2 e3 e4 e5 e6
          go_wp2
          go_roundg (gk - 1)
          case rel => exact ⟨k + 1, some x.hi, by omega, by go_num, ST.out.2 C.out, .inr ⟨k, x, rfl, HX.out, rfl, X0.out.1, X0.out.2⟩, ⟨_, rfl⟩⟩
          case measure => omega
    · go_wp2
      go_ret
      exact ⟨ret_bool (by rw [← HS.out, List.drop_of_length_le (by omega)]; rfl), m, rfl⟩

def szLeft (n : Nat) (left : Int) : Int := if left < n then -1 else left - n
theorem szSpanS_c (A : Option Addr) (c n : Nat) (left : Int) (w : World) (hn : n ≤ maxN) (h0 : 0 ≤ left) (h1 : left ≤ 1048576) :
    Calls Tryd.prog 9 #[.slice A n c, .int .i64 left] w fun e w' => e = .returned (.int .i64 (szLeft n left)) ∧ w = w' := by
  unfold maxN at hn
  go_enter Tryd.func9, Tryd.ntmps9
  by_cases hlt : left < n
  · go_wp2
    go_ret
    exact ⟨ret_int (by rw [szLeft, if_pos (by omega)]), rfl⟩
  · go_wp2
    go_ret
    exact ⟨ret_int (by rw [szLeft, if_neg (by omega)]), rfl⟩

theorem toSpan_c (x : Sp) (w : World) :
    Calls Tryd.prog 42 #[.agg #[.int .i64 x.lo, .int .i64 x.hi]] w fun e w' => e = .returned (.agg #[.int .i64 x.lo, .int .i64 x.hi]) ∧ Below w.heap.size w w' := by
  go_enter Tryd.func42, Tryd.ntmps42
  go_wp2
  refine bodyPost_ret (v := .agg #[.int .i64 x.lo, .int .i64 x.hi]) (by simp [results, Tryd.results42, go_sem]) rfl ⟨rfl, ?_⟩
  exact below_alloc (below_alloc (below_alloc (Below.refl _ _) _) _) _

theorem sp_ne1 {x y : Sp} (h : (x.lo != y.lo) = true) : x ≠ y := by rintro rfl; simp at h
theorem sp_ne2 {x y : Sp} (h : (x.hi != y.hi) = true) : x ≠ y := by rintro rfl; simp at h
theorem sp_eq {x y : Sp} (h : (x.lo != y.lo) = false) (h' : (x.hi != y.hi) = false) : x = y := by
  cases x; cases y; simp at h h'; rw [h, h']

theorem eqSpan_c (x y : Sp) (w : World) :
    Calls Tryd.prog 45 #[.agg #[.int .i64 x.lo, .int .i64 x.hi], .agg #[.int .i64 y.lo, .int .i64 y.hi]] w fun e w' => e = .returned (.bool (decide (x = y))) ∧ Below w.heap.size w w' := by
  have B := below_alloc (below_alloc (Below.refl w.heap.size w) (.cells #[.int .i64 x.lo, .int .i64 x.hi] 60)) (.cells #[.int .i64 y.lo, .int .i64 y.hi] 60)
  have HB : Hid _ := B
  clear B
  go_enter Tryd.func45, Tryd.ntmps45
  go_wp2
  all_goals go_ret
  · exact ⟨ret_bool (decide_eq_false (sp_ne1 (by assumption))).symm, HB.out⟩
  · exact ⟨ret_bool (decide_eq_false (sp_ne2 (by assumption))).symm, HB.out⟩
  · exact ⟨ret_bool (decide_eq_true (sp_eq (by assumption) (by assumption))).symm, HB.out⟩

theorem drop_eq_step {xs ys xs' ys' : List Sp} {x y : Sp} {r : Bool} (hx : xs = x :: xs') (hy : ys = y :: ys') (hr : decide (xs = ys) = r) : (decide (x = y) = false → r = false) ∧ (decide (x = y) = true → decide (xs' = ys') = r) := by
  subst hx hy
  rw [← hr]
  refine ⟨fun h => ?_, fun h => ?_⟩
  · rw [decide_eq_false_iff_not] at h ⊢
    intro hc
    exact h (List.cons.inj hc).1
  · rw [decide_eq_true_eq] at h
    subst h
    simp

set_option maxRecDepth 100000 in
set_option maxHeartbeats 1000000 in
theorem eqSpanS_c (A B : Option Addr) (c d : Nat) (xs ys : List Sp) (w : World) {lo lo' : Nat} (h : Sps w lo A c xs) (h' : Sps w lo' B d ys) :
    Calls Tryd.prog 13 #[.slice A xs.length c, .slice B ys.length d] w fun e w' => e = .returned (.bool (decide (xs = ys))) ∧ Below w.heap.size w w' := by
  have hlen := h.len
  have hlen' := h'.len
  unfold maxN at hlen hlen'
  by_cases he : xs.length = ys.length
  · have b1 : ((xs.length : Int) != (ys.length : Int)) = false := by simp [he]
    have HE : Hid (xs.length = ys.length) := he
    clear he
    go_enter Tryd.func13, Tryd.ntmps13
    go_wp2
    go_loopg [5] (xs.length) (fun n i wr => ∃ k : Nat, k + n = xs.length ∧ i = .int .i64 k ∧ Hid (decide (xs.drop k = ys.drop k) = decide (xs = ys)) ∧ Below w.heap.size w wr)
    case atStart => exact ⟨0, by omega, rfl, by rw [List.drop_zero, List.drop_zero]; rfl, Below.refl _ _⟩
    case round =>
      obtain ⟨k, hk, rfl, HS, hb⟩ := hrel
      by_cases hlt : k < xs.length
      · have hlt' : k < ys.length := by have := HE.out; omega
        obtain ⟨a, x, rfl, _, HD, h0, h1⟩ := (h.below hb).at_ k hlt
        obtain ⟨a', y, rfl, _, HD', h0', h1'⟩ := (h'.below hb).at_ k hlt'
        have ST : Hid _ := drop_eq_step HD.out HD'.out HS.out
        go_wp2
        go_still_tail 8, (by kernel_rfl)
        go_wp2_with (go_at_call 45; refine (eqSpan_c _ _ _).mono ?_; rintro e w' ⟨rfl, hb'⟩)
        · go_ret
          exact ⟨ret_bool (ST.out.1 (by simpa using ‹(!decide (x = y)) = true›)).symm, below_then (below_drew hb) hb'⟩
        · go_roundg (gk - 1)
          case rel => exact ⟨k + 1, by omega, by go_num, ST.out.2 (by simpa using ‹(!decide (x = y)) = false›), below_then (below_drew hb) hb'⟩
          case measure => omega
      · go_wp2
        go_ret
        exact ⟨ret_bool (by rw [← HS.out, List.drop_of_length_le (by omega), List.drop_of_length_le (by have := HE.out; omega)]; rfl), hb⟩
  · have b1 : ((xs.length : Int) != (ys.length : Int)) = true := by simp; omega
    have b2 : (xs.length == ys.length) = false := by simp [he]
    have C : Hid (decide (xs = ys) = false) := decide_eq_false (by rintro rfl; exact he rfl)
    clear he
    go_enter Tryd.func13, Tryd.ntmps13
    go_wp2
    go_ret
    exact ⟨ret_bool C.out.symm, Below.refl _ _⟩

end Go.Proofs.YtlchipjckgaclaaDoor
