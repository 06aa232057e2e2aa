/- Lists of sets in memory, to read: eqSpanSS, heldSpanSS. -/
import Derived.Test.YtiaccimbkghofaaCp
import Derived.Test.YtiaccimbkghofaaBw
import Derived.Test.YtiaccimbkghofaaMem
namespace Go.Proofs.Ytiaccimbkghofaa
set_option linter.unusedSimpArgs false
set_option linter.unusedVariables false
open Go.RowKit

/-- a row of sets -/
structure SSV (w : World) (lo : Nat) (K : Option Addr) (ck : Nat) (xss : List (List Sp)) : Prop where
  ex : ∀ (i : Nat) (xs : List Sp), xss[i]? = some xs → ∃ a A c, K = some a ∧ lo ≤ a.block ∧ w.cell? (a.add i) = some (.slice A xs.length c) ∧ Sps w lo A c xs
  cap : xss.length ≤ ck
  len : xss.length ≤ maxN
theorem SSV.keep {w w' : World} {lo : Nat} {K : Option Addr} {ck : Nat} {xss : List (List Sp)} (h : SSV w lo K ck xss) (hk : ∀ k, lo ≤ k → k < w.heap.size → w'.heap[k]? = w.heap[k]?) : SSV w' lo K ck xss := by
  refine ⟨fun i xs hi => ?_, h.cap, h.len⟩
  obtain ⟨a, A, c, e, hl, hc, hs⟩ := h.ex i xs hi
  have hb := World.block_lt_of_cell? w _ hc
  rw [add_block'] at hb
  refine ⟨a, A, c, e, hl, ?_, hs.keep hk⟩
  rw [World.cell?_of_block (w := w) (by rw [add_block']; exact hk a.block hl hb)]
  exact hc
theorem SSV.below {w w' : World} {lo : Nat} {K : Option Addr} {ck : Nat} {xss : List (List Sp)} (h : SSV w lo K ck xss) (hb : Below w.heap.size w w') : SSV w' lo K ck xss := h.keep fun k _ hk => hb.block k hk
theorem SSV.at_ {w : World} {lo : Nat} {K : Option Addr} {ck : Nat} {xss : List (List Sp)} (h : SSV w lo K ck xss) (i : Nat) (hi : i < xss.length) :
    ∃ a A c xs, K = some a ∧ Hid (xss[i]? = some xs) ∧ Hid (Sps w lo A c xs) ∧ w.cell? (a.add i) = some (.slice A xs.length c) := by
  have hg : xss[i]? = some xss[i] := List.getElem?_eq_getElem hi
  obtain ⟨a, A, c, e, _, hc, hs⟩ := h.ex i _ hg
  exact ⟨a, A, c, _, e, hg, hs, hc⟩

theorem take_eq_step {xss yss : List (List Sp)} {j : Nat} {xs ys : List Sp} (h : xss.take j = yss.take j) (hx : xss[j]? = some xs) (hy : yss[j]? = some ys) (e : xs = ys) : xss.take (j + 1) = yss.take (j + 1) := by
  rw [List.take_add_one, List.take_add_one, h, hx, hy, e]
set_option maxHeartbeats 1000000 in
theorem eqSpanSS_c (K K' : Option Addr) (c c' : Nat) (xss yss : List (List Sp)) (w : World) {lo lo' : Nat} (h : SSV w lo K c xss) (h' : SSV w lo' K' c' yss) :
    Calls Try.prog 27 #[.slice K xss.length c, .slice K' yss.length c'] w fun e w' => e = .returned (.bool (decide (xss = yss))) ∧ Below w.heap.size w w' := by
  have hlen := h.len
  have hlen' := h'.len
  unfold maxN at hlen hlen'
  by_cases he : xss.length = yss.length
  · have b1 : ((xss.length : Int) != (yss.length : Int)) = false := by simp [he]
    have HE : Hid (xss.length = yss.length) := he
    have H := Lib.hid h
    have H' := Lib.hid h'
    clear he h h'
    go_enter Try.func27, Try.ntmps27
    go_wp2
    go_loopg [5] (xss.length) (fun n i wr => ∃ j : Nat, j + n = xss.length ∧ i = .int .i64 j ∧ Hid (xss.take j = yss.take j) ∧ Hid (Below w.heap.size w wr))
    case atStart => exact ⟨0, by omega, rfl, rfl, Below.refl _ _⟩
    case round =>
      obtain ⟨j, hj, rfl, HS, HB⟩ := hrel
      by_cases hlt : j < xss.length
      · have hlt' : j < yss.length := by have := HE.out; omega
        obtain ⟨a, A, q, xs, rfl, HX, HV, c0⟩ := (H.out.below HB.out).at_ j hlt
        obtain ⟨a', A', q', ys, rfl, HY, HV', c1⟩ := (H'.out.below HB.out).at_ j hlt'
        have N0 : ∀ x : BW wr, x.w1.cell? (a.add j) = some (.slice A xs.length q) := fun x => x.cell c0
        have N1 : ∀ x : BW wr, x.w1.cell? (a'.add j) = some (.slice A' ys.length q') := fun x => x.cell c1
        have i0 : (0 : Int) ≤ (j : Int) := by omega
        have i1 : (j : Int) < (xss.length : Int) := by omega
        have i2 : (j : Int) < (yss.length : Int) := by omega
        clear c0 c1
        by_cases e : xs = ys
        · have HQ : Hid (decide (xs = ys) = true) := decide_eq_true e
          have HN : Hid (xss.take (j + 1) = yss.take (j + 1)) := take_eq_step HS.out HX.out HY.out e
          clear e
          go_wp2
          refine wp_region_bw (by kernel_rfl) (by kernel_rfl) ?_
          repeat (go_big_quiet_step ((go_at_call 52; with_reducible exact Calls.bw (bv HQ.out) (eqSpanS_c _ _ _ _ _ _ _ (HV.out.below (BW.up _)) (HV'.out.below (BW.up _))))))
          refine wpQuiet_nil ?_
          rintro w1 ⟨x1, y1⟩
          have b1 : Below wr.heap.size wr w1 := y1 ▸ x1.up
          clear y1 x1 N0 N1
          go_wp2
          go_roundg (gk - 1)
          case measure => omega
          case rel => exact ⟨j + 1, by omega, by go_num, HN, below_then HB.out b1⟩
        · have HQ : Hid (decide (xs = ys) = false) := decide_eq_false e
          have HN : Hid (xss ≠ yss) := fun h => by
            have h1 := HX.out
            rw [h, HY.out] at h1
            injection h1 with h1
            exact e h1.symm
          clear e
          go_wp2
          refine wp_region_bw (by kernel_rfl) (by kernel_rfl) ?_
          repeat (go_big_quiet_step ((go_at_call 52; with_reducible exact Calls.bw (bv HQ.out) (eqSpanS_c _ _ _ _ _ _ _ (HV.out.below (BW.up _)) (HV'.out.below (BW.up _))))))
          refine wpQuiet_nil ?_
          rintro w1 ⟨x1, y1⟩
          have b1 : Below wr.heap.size wr w1 := y1 ▸ x1.up
          clear y1 x1 N0 N1
          go_wp2
          go_ret
          exact ⟨ret_bool (decide_eq_false HN.out).symm, below_then HB.out b1⟩
      · go_wp2
        go_ret
        have hj' : j = xss.length := by omega
        have hs := HS.out
        rw [hj', List.take_length, HE.out, List.take_length] at hs
        exact ⟨ret_bool (decide_eq_true hs).symm, HB.out⟩
  · have b1 : ((xss.length : Int) != (yss.length : Int)) = true := by simp; omega
    have b2 : (xss.length == yss.length) = false := by simp [he]
    have C : Hid (xss ≠ yss) := fun h => he (by rw [h])
    clear he
    go_enter Try.func27, Try.ntmps27
    go_wp2
    go_ret
    exact ⟨ret_bool (decide_eq_false C.out).symm, Below.refl _ _⟩

end Go.Proofs.Ytiaccimbkghofaa
