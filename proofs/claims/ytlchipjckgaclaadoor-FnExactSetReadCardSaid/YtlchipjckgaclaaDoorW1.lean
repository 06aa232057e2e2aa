/- SetOk of the program. -/
import Derived.Test.YtlchipjckgaclaaDoorLib
namespace Go.Proofs.YtlchipjckgaclaaDoor
set_option linter.unusedSimpArgs false
set_option linter.unusedVariables false
set_option maxRecDepth 100000
open Go.RowKit

theorem setOkGo_step {p : Option Int} {x : Sp} {xs ys : List Sp} {r : Bool} (hd : ys = x :: xs) (hr : setOkGo p ys = r) : (spBad p x = true → r = false) ∧ (spBad p x = false → setOkGo (some x.hi) xs = r) := by
  subst hd
  rw [setOkGo] at hr
  refine ⟨fun h => ?_, fun h => ?_⟩
  · rw [← hr, h]; rfl
  · rw [← hr, h]; simp
theorem spBad_none {x : Sp} (h : x.lo < 0 ∨ x.hi < x.lo ∨ 255 < x.hi) (p : Option Int) : spBad p x = true := by
  unfold spBad
  rcases h with h | h | h <;> simp [h]
theorem spBad_some {x : Sp} {q : Int} (h : x.lo ≤ q + 1) : spBad (some q) x = true := by simp [spBad, h]
theorem spGood {p : Option Int} {x : Sp} (h1 : 0 ≤ x.lo) (h2 : x.lo ≤ x.hi) (h3 : x.hi ≤ 255) (h4 : ∀ q, p = some q → q + 1 < x.lo) : spBad p x = false := (spBad_false p x).2 ⟨h1, h2, h3, h4⟩

/-- the span ahead of k, if there is one -/
def PrevOk (xs : List Sp) (k : Nat) (p : Option Int) : Prop := (k = 0 ∧ p = none) ∨ ∃ j y, k = j + 1 ∧ xs[j]? = some y ∧ p = some y.hi ∧ 0 ≤ y.hi ∧ y.hi ≤ 255

set_option maxHeartbeats 1000000 in
theorem iSetOk_c (A : Option Addr) (c : Nat) (xs : List Sp) (w : World) {lo : Nat} (h : Sps w lo A c xs) :
    Calls Tryd.prog 35 #[.slice A xs.length c] w fun e w' => e = .returned (.bool (setOk xs)) ∧ Below w.heap.size w w' := by
  have hlen := h.len
  unfold maxN at hlen
  go_enter Tryd.func35, Tryd.ntmps35
  go_wp2
  go_loopg [7] (xs.length) (fun n i wr => ∃ (k : Nat) (p : Option Int), k + n = xs.length ∧ i = .int .i64 k ∧ Hid (setOkGo p (xs.drop k) = setOk xs) ∧ Hid (PrevOk xs k p) ∧ Below w.heap.size w wr)
  case atStart => exact ⟨0, none, by omega, rfl, by rw [List.drop_zero]; rfl, .inl ⟨rfl, rfl⟩, Below.refl _ _⟩
  case round =>
    obtain ⟨k, p, hk, rfl, HS, HP, hb⟩ := hrel
    by_cases hlt : k < xs.length
    · obtain ⟨a, x, rfl, HX, HD, h0, h1⟩ := (h.below hb).at_ k hlt
      have ST : Hid _ := setOkGo_step HD.out HS.out
      have HB : Hid (Below w.heap.size w wr) := hb
      clear hb HD HS
      by_cases c1 : x.lo < 0
      · have d1 : decide (x.lo < 0) = true := decide_eq_true c1
        clear c1
        go_wp2
        go_quiet (fail)
        go_wp2
        go_ret
        exact ⟨ret_bool (by rw [ST.out.1 (spBad_none (.inl (of_decide_eq_true d1)) _)]), below_drewN (below_alloc HB.out _) _⟩
      have d1 : decide (x.lo < 0) = false := decide_eq_false c1
      by_cases c2 : x.hi < x.lo
      · have d2 : decide (x.hi < x.lo) = true := decide_eq_true c2
        clear c1 c2
        go_wp2
        go_quiet (fail)
        go_wp2
        go_ret
        exact ⟨ret_bool (by rw [ST.out.1 (spBad_none (.inr (.inl (of_decide_eq_true d2))) _)]), below_drewN (below_alloc HB.out _) _⟩
      have d2 : decide (x.hi < x.lo) = false := decide_eq_false c2
      by_cases c3 : 255 < x.hi
      · have d3 : decide (255 < x.hi) = true := decide_eq_true c3
        clear c1 c2 c3
        go_wp2
        go_quiet (fail)
        go_wp2
        go_ret
        exact ⟨ret_bool (by rw [ST.out.1 (spBad_none (.inr (.inr (of_decide_eq_true d3))) _)]), below_drewN (below_alloc HB.out _) _⟩
      have d3 : decide (255 < x.hi) = false := decide_eq_false c3
      have X0 : Hid (0 ≤ x.hi ∧ x.hi ≤ 255) := ⟨by omega, by omega⟩
      rcases HP.out with ⟨hk0, rfl⟩ | ⟨j, y, hj, hy, rfl, y0, y1⟩
      · have C : Hid (spBad none x = false) := spGood (by omega) (by omega) (by omega) (fun q hq => by cases hq)
        have d4 : decide (0 < k) = false := decide_eq_false (by omega)
        clear c1 c2 c3 hk0
        go_wp2
        go_quiet (fail)
        go_wp2
        go_roundg (gk - 1)
        case rel => exact ⟨k + 1, some x.hi, by omega, by go_num, ST.out.2 C.out, .inr ⟨k, x, rfl, HX.out, rfl, X0.out.1, X0.out.2⟩, below_drewN (below_alloc HB.out _) _⟩
        case measure => omega
      · obtain ⟨a', y', ea, HY, _, _, h3⟩ := Sps.at_ (h.below HB.out) (k - 1) (by omega)
        cases ea
        have h4 := fun o => cell_alloc h3 o
        obtain rfl : y = y' := by
          have := HY.out
          rw [show k - 1 = j by omega, hy] at this
          exact Option.some.inj this
        have d4 : decide (0 < k) = true := decide_eq_true (by omega)
        have e1 : IntKind.i64.wrap ((k : Int) - 1) = (k : Int) - 1 := IntWalk.i64_in _ (by omega)
        have e2 : (0 : Int) ≤ (k : Int) - 1 := by omega
        have e6 : (1 : Int) ≤ (k : Int) := by omega
        have e3 : (k : Int) - 1 < (xs.length : Int) := by omega
        have e4 : ((k : Int) - 1).toNat = k - 1 := by omega
        have e5 : IntKind.i64.wrap (y.hi + 1) = y.hi + 1 := IntWalk.i64_in _ (by omega)
        by_cases c4 : x.lo ≤ y.hi + 1
        · have d5 : decide (x.lo ≤ y.hi + 1) = true := decide_eq_true c4
          have C : Hid (spBad (some y.hi) x = true) := spBad_some c4
          clear c1 c2 c3 c4 hj
          go_wp2
          go_quiet (fail)
          clear e1 e2 e3 e4 e5 e6
          go_wp2
          go_ret
          exact ⟨ret_bool (by rw [ST.out.1 C.out]), below_drewN (below_alloc HB.out _) _⟩
        · have d5 : decide (x.lo ≤ y.hi + 1) = false := decide_eq_false c4
          have C : Hid (spBad (some y.hi) x = false) := spGood (by omega) (by omega) (by omega) (fun q hq => by cases hq; omega)
          clear c1 c2 c3 c4 hj
          go_wp2
          go_quiet (fail)
          clear e1 e2 e3 e4 e5 e6
          go_wp2
          go_roundg (gk - 1)
          case rel => exact ⟨k + 1, some x.hi, by omega, by go_num, ST.out.2 C.out, .inr ⟨k, x, rfl, HX.out, rfl, X0.out.1, X0.out.2⟩, below_drewN (below_alloc HB.out _) _⟩
          case measure => omega
    · go_wp2
      go_ret
      exact ⟨ret_bool (by rw [← HS.out, List.drop_of_length_le (by omega)]; rfl), hb⟩

end Go.Proofs.YtlchipjckgaclaaDoor
