/- spans: the set of bits. -/
import Derived.Test.YtjnhmoinehffiaaW5
import Derived.Test.YtjnhmoinehffiaaW3
namespace Go.Proofs.Ytjnhmoinehffiaa
set_option linter.unusedSimpArgs false
set_option linter.unusedVariables false
open Go.RowKit

set_option maxRecDepth 100000 in
set_option maxHeartbeats 2000000 in
theorem spans_c (f : Nat → Bool) (w : World) :
    Calls Try.prog 40 #[.agg (bitCells f).toArray] w fun e w' => ∃ v, e = .returned v ∧ OwnSp w' w.heap.size v (spansOf f) ∧ Below w.heap.size w w' := by
  obtain ⟨i0, hi, hz0, hz1, hz2⟩ := info_parts infoSp
  go_enter Try.func40, Try.ntmps40
  go_wp2_with (first
    | (with_reducible refine ev_box (o := ⟨some 1, _, _, _, _, _⟩) rfl TBits (.tmp 0) rfl _ rfl ?_; rintro _ w1 rfl hX hb1)
    | (with_reducible refine ev_load (o := ⟨some 6, _, _, _, _, _⟩) rfl TBits _ rfl w.heap.size rfl (bitCells f) TBits hX _ uBits rfl (sizeBits' f) ?_))
  have HX : Hid (Blk w1 w.heap.size (bitCells f).toArray TBits) := hX
  have HB : Hid (Below w.heap.size w w1) := hb1
  have hlt := hX.lt
  clear hX hb1
  go_loopg [3, 7] 256 (fun n v i wr => ∃ k : Nat, Hid (k + n = 256) ∧ i = .int .i64 k ∧ Hid (OwnSp wr (w.heap.size + 1) v (spansTo f k)) ∧ Hid (Blk wr w.heap.size (bitCells f).toArray TBits) ∧ Hid (Below w.heap.size w wr))
  case atStart => exact ⟨0, rfl, rfl, OwnSp.nil _ _, HX, HB⟩
  case round =>
    clear HX HB
    obtain ⟨k, hk, rfl, HO, HX, HB⟩ := hrel
    by_cases hk2 : k < 256
    · have hix := fun wx => run_index_bits f k hk2 wx
      have hlen := spansTo_length f k
      by_cases hf : f k = true
      · rw [hf] at hix
        by_cases hp : 0 < k ∧ f (k - 1) = true
        · obtain ⟨x, hx1, hx2, _, hx4⟩ := spansTo_ext hf hp.1 hp.2 (by omega)
          obtain ⟨g, cap, rfl, hg, _⟩ := own_form HO.out.own hx2
          obtain ⟨x', HX', c0, c1, f0, f1⟩ := HO.out.cells ((spansTo f k).length - 1) (by omega)
          obtain rfl : x = x' := by
            have := HX'.out
            rw [hx1] at this
            exact Option.some.inj this
          have c2 := bit_cell HX.out (k - 1) (by omega)
          rw [hp.2] at c2
          have d4 : decide (0 < k) = true := decide_eq_true hp.1
          have E : Hid (spansTo f (k + 1) = (spansTo f k).set ((spansTo f k).length - 1) ⟨x.lo, k⟩) := hx4
          have k1 : 1 ≤ k := hp.1
          have HX1 : Hid (_ = _) := hx1
          clear hf hp hx1 hx4 HX'
          go_wp2
          go_roundg (gk - 1)
          case rel => exact ⟨k + 1, by have := hk.out; show _ = _; omega, by go_num, by rw [E.out]; exact HO.out.setHi _ x HX1.out _, HX.out.far (by simp; omega) _, below_set HB.out (by simp; omega) _⟩
          case measure => have := hk.out; omega
        · have hp' : k = 0 ∨ f (k - 1) = false := by
            rcases Nat.eq_zero_or_pos k with h0 | h0
            · exact .inl h0
            · exact .inr (by simpa using fun h => hp ⟨h0, h⟩)
          have E : Hid (spansTo f (k + 1) = spansTo f k ++ [⟨k, k⟩]) := spansTo_new hf hp'
          have A1 : ∀ wx : World, OwnSp wx (w.heap.size + 1) u3 (spansTo f k) → wx.ownsRow (w.heap.size + 1) TSp 2 u3 (spansTo f k).length (spcs (spansTo f k)) := fun wx h => h.own
          have hsz : w.heap.size + 1 ≤ wr.heap.size := by have := HX.out.lt; omega
          clear hp hf
          rcases hp' with h0 | h0
          · have d4 : decide (0 < k) = false := decide_eq_false (by omega)
            have HH : Hid (k = 0) := h0
            clear h0
            go_wp2_with (at_builtin; refine wpList_append_own _ rfl (.tmp 11) (.tmp 15) 23 rfl (w.heap.size + 1) TSp i0 (.agg #[.int .i64 0, .int .i64 0]) 2 16 Try.underlying23 hi hz0 hz1 hz2 rfl (by decide) u3 _ _ rfl (HO.out.own.alloc _) ⟨wr.heap.size, 0, none⟩ 1 1 [.int .i64 k, .int .i64 k] rfl rfl (new_cells wr [.int .i64 k, .int .i64 k] TSp) (two_one _ _) (by unfold maxLen; omega) (by omega) (by simp; omega) ?_; intro v' w2 hown' hgrow _)
            have hbs := own_base HO.out.own
            go_roundg (gk - 1)
            case rel => exact ⟨k + 1, by have := hk.out; show _ = _; omega, by go_num, by rw [E.out]; exact OwnSp.snoc hown', (HX.out.alloc _).grown hgrow (fun q hq => by have := (hbs q hq).1; omega), (below_alloc HB.out _).grown hgrow (by simp; omega) (fun q hq => by have := (hbs q hq).1; omega)⟩
            case measure => have := hk.out; omega
          · by_cases hk0 : k = 0
            · have d4 : decide (0 < k) = false := decide_eq_false (by omega)
              have HH : Hid (k = 0) := hk0
              clear h0 hk0
              go_wp2_with (at_builtin; refine wpList_append_own _ rfl (.tmp 11) (.tmp 15) 23 rfl (w.heap.size + 1) TSp i0 (.agg #[.int .i64 0, .int .i64 0]) 2 16 Try.underlying23 hi hz0 hz1 hz2 rfl (by decide) u3 _ _ rfl (HO.out.own.alloc _) ⟨wr.heap.size, 0, none⟩ 1 1 [.int .i64 k, .int .i64 k] rfl rfl (new_cells wr [.int .i64 k, .int .i64 k] TSp) (two_one _ _) (by unfold maxLen; omega) (by omega) (by simp; omega) ?_; intro v' w2 hown' hgrow _)
              have hbs := own_base HO.out.own
              go_roundg (gk - 1)
              case rel => exact ⟨k + 1, by have := hk.out; show _ = _; omega, by go_num, by rw [E.out]; exact OwnSp.snoc hown', (HX.out.alloc _).grown hgrow (fun q hq => by have := (hbs q hq).1; omega), (below_alloc HB.out _).grown hgrow (by simp; omega) (fun q hq => by have := (hbs q hq).1; omega)⟩
              case measure => have := hk.out; omega
            · have d4 : decide (0 < k) = true := decide_eq_true (by omega)
              have c2 := bit_cell HX.out (k - 1) (by omega)
              rw [h0] at c2
              have k1 : 1 ≤ k := by omega
              clear h0 hk0
              go_wp2_with (at_builtin; refine wpList_append_own _ rfl (.tmp 11) (.tmp 15) 23 rfl (w.heap.size + 1) TSp i0 (.agg #[.int .i64 0, .int .i64 0]) 2 16 Try.underlying23 hi hz0 hz1 hz2 rfl (by decide) u3 _ _ rfl (HO.out.own.alloc _) ⟨wr.heap.size, 0, none⟩ 1 1 [.int .i64 k, .int .i64 k] rfl rfl (new_cells wr [.int .i64 k, .int .i64 k] TSp) (two_one _ _) (by unfold maxLen; omega) (by omega) (by simp; omega) ?_; intro v' w2 hown' hgrow _)
              have hbs := own_base HO.out.own
              go_roundg (gk - 1)
              case rel => exact ⟨k + 1, by have := hk.out; show _ = _; omega, by go_num, by rw [E.out]; exact OwnSp.snoc hown', (HX.out.alloc _).grown hgrow (fun q hq => by have := (hbs q hq).1; omega), (below_alloc HB.out _).grown hgrow (by simp; omega) (fun q hq => by have := (hbs q hq).1; omega)⟩
              case measure => have := hk.out; omega
      · have hf' : f k = false := by simpa using hf
        rw [hf'] at hix
        have E : Hid (spansTo f (k + 1) = spansTo f k) := spansTo_no hf'
        clear hf hf'
        go_wp2
        go_roundg (gk - 1)
        case rel => exact ⟨k + 1, by have := hk.out; show _ = _; omega, by go_num, by rw [E.out]; exact HO, HX, HB⟩
        case measure => have := hk.out; omega
    · have HK : Hid (k = 256) := by have := hk.out; show _ = _; omega
      obtain ⟨A, c, rfl, hs⟩ := HO.out.sps
      have hlen := spansTo_length f k
      have hl2 : (spansTo f k).length ≤ 256 := by have := HK.out; omega
      go_wp2_with (go_at_call 53; refine (copiedSpan_c A c _ (spcs (spansTo f k)) _ hs.row (spcs_length _) (spcs_one _) (by omega)).mono ?_; rintro e w4 ⟨v4, rfl, o4, b4⟩)
      go_ret
      have := HK.out
      subst this
      exact ⟨_, rfl, ⟨own_lower o4 HB.out.size, by show (spansTo f 256).length ≤ _; unfold maxN; omega⟩, below_then HB.out b4⟩

end Go.Proofs.Ytjnhmoinehffiaa
