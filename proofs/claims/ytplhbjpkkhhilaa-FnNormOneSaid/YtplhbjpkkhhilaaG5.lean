/- Texts joined for the claims: W6 W9 W10 Dr Mem Dr2 OwnT. -/
import Derived.Test.YtplhbjpkkhhilaaG4
import Derived.Test.YtplhbjpkkhhilaaG3
import Derived.Test.YtplhbjpkkhhilaaG2
import Derived.Deep.AppendLies
import Derived.Deep.RegionLaw
/- spans: the set of bits. -/
namespace Go.Proofs.Ytplhbjpkkhhilaa
set_option linter.unusedSimpArgs false
set_option linter.unusedVariables false
open Go.RowKit

set_option maxRecDepth 100000 in
set_option maxHeartbeats 2000000 in
theorem spans_c (f : Nat → Bool) (w : World) :
    Calls Try.prog 46 #[.agg (bitCells f).toArray] w fun e w' => ∃ v, e = .returned v ∧ OwnSp w' w.heap.size v (spansOf f) ∧ Below w.heap.size w w' := by
  obtain ⟨i0, hi, hz0, hz1, hz2⟩ := info_parts infoSp
  go_enter Try.func46, Try.ntmps46
  go_wp2_with (first
    | (with_reducible refine ev_box (o := ⟨some 1, _, _, _, _, _⟩) rfl TBits (.tmp 0) rfl _ rfl ?_; rintro _ w1 rfl hX hb1)
    | (with_reducible refine ev_load (o := ⟨some 6, _, _, _, _, _⟩) rfl TBits _ rfl w.heap.size rfl (bitCells f) TBits hX _ uBits rfl (sizeBits' f) ?_))
  have HX : Hid (Blk w1 w.heap.size (bitCells f).toArray TBits) := hX
  have HB : Hid (Below w.heap.size w w1) := hb1
  have hlt := hX.lt
  clear hX hb1
  go_loopg [3, 7] 256 (fun n v i wr => ∃ k : Nat, Hid (k + n = 256) ∧ i = .int .i64 k ∧ Hid (OwnSp wr (w.heap.size + 1) v (spansTo f k)) ∧ Hid (Blk wr w.heap.size (bitCells f).toArray TBits) ∧ Hid (Below w.heap.size w wr))
  case atStart => exact ⟨0, rfl, rfl, OwnSp.nil _ _, HX, HB⟩
  case round =>
    clear HX HB
    obtain ⟨k, hk, rfl, HO, HX, HB⟩ := hrel
    by_cases hk2 : k < 256
    · have hix := fun wx => run_index_bits f k hk2 wx
      have hlen := spansTo_length f k
      by_cases hf : f k = true
      · rw [hf] at hix
        by_cases hp : 0 < k ∧ f (k - 1) = true
        · obtain ⟨x, hx1, hx2, _, hx4⟩ := spansTo_ext hf hp.1 hp.2 (by omega)
          obtain ⟨g, cap, rfl, hg, _⟩ := own_form HO.out.own hx2
          obtain ⟨x', HX', c0, c1, f0, f1⟩ := HO.out.cells ((spansTo f k).length - 1) (by omega)
          obtain rfl : x = x' := by
            have := HX'.out
            rw [hx1] at this
            exact Option.some.inj this
          have c2 := bit_cell HX.out (k - 1) (by omega)
          rw [hp.2] at c2
          have d4 : decide (0 < k) = true := decide_eq_true hp.1
          have E : Hid (spansTo f (k + 1) = (spansTo f k).set ((spansTo f k).length - 1) ⟨x.lo, k⟩) := hx4
          have k1 : 1 ≤ k := hp.1
          have HX1 : Hid (_ = _) := hx1
          clear hf hp hx1 hx4 HX'
          go_wp2
          go_roundg (gk - 1)
          case rel => exact ⟨k + 1, by have := hk.out; show _ = _; omega, by go_num, by rw [E.out]; exact HO.out.setHi _ x HX1.out _, HX.out.far (by simp; omega) _, below_set HB.out (by simp; omega) _⟩
          case measure => have := hk.out; omega
        · have hp' : k = 0 ∨ f (k - 1) = false := by
            rcases Nat.eq_zero_or_pos k with h0 | h0
            · exact .inl h0
            · exact .inr (by simpa using fun h => hp ⟨h0, h⟩)
          have E : Hid (spansTo f (k + 1) = spansTo f k ++ [⟨k, k⟩]) := spansTo_new hf hp'
          have A1 : ∀ wx : World, OwnSp wx (w.heap.size + 1) u3 (spansTo f k) → wx.ownsRow (w.heap.size + 1) TSp 2 u3 (spansTo f k).length (spcs (spansTo f k)) := fun wx h => h.own
          have hsz : w.heap.size + 1 ≤ wr.heap.size := by have := HX.out.lt; omega
          clear hp hf
          rcases hp' with h0 | h0
          · have d4 : decide (0 < k) = false := decide_eq_false (by omega)
            have HH : Hid (k = 0) := h0
            clear h0
            go_wp2_with (at_builtin; refine wpList_append_own _ rfl (.tmp 11) (.tmp 15) 27 rfl (w.heap.size + 1) TSp i0 (.agg #[.int .i64 0, .int .i64 0]) 2 16 Try.underlying27 hi hz0 hz1 hz2 rfl (by decide) u3 _ _ rfl (HO.out.own.alloc _) ⟨wr.heap.size, 0, none⟩ 1 1 [.int .i64 k, .int .i64 k] rfl rfl (new_cells wr [.int .i64 k, .int .i64 k] TSp) (two_one _ _) (by unfold maxLen; omega) (by omega) (by simp; omega) ?_; intro v' w2 hown' hgrow _)
            have hbs := own_base HO.out.own
            go_roundg (gk - 1)
            case rel => exact ⟨k + 1, by have := hk.out; show _ = _; omega, by go_num, by rw [E.out]; exact OwnSp.snoc hown', (HX.out.alloc _).grown hgrow (fun q hq => by have := (hbs q hq).1; omega), (below_alloc HB.out _).grown hgrow (by simp; omega) (fun q hq => by have := (hbs q hq).1; omega)⟩
            case measure => have := hk.out; omega
          · by_cases hk0 : k = 0
            · have d4 : decide (0 < k) = false := decide_eq_false (by omega)
              have HH : Hid (k = 0) := hk0
              clear h0 hk0
              go_wp2_with (at_builtin; refine wpList_append_own _ rfl (.tmp 11) (.tmp 15) 27 rfl (w.heap.size + 1) TSp i0 (.agg #[.int .i64 0, .int .i64 0]) 2 16 Try.underlying27 hi hz0 hz1 hz2 rfl (by decide) u3 _ _ rfl (HO.out.own.alloc _) ⟨wr.heap.size, 0, none⟩ 1 1 [.int .i64 k, .int .i64 k] rfl rfl (new_cells wr [.int .i64 k, .int .i64 k] TSp) (two_one _ _) (by unfold maxLen; omega) (by omega) (by simp; omega) ?_; intro v' w2 hown' hgrow _)
              have hbs := own_base HO.out.own
              go_roundg (gk - 1)
              case rel => exact ⟨k + 1, by have := hk.out; show _ = _; omega, by go_num, by rw [E.out]; exact OwnSp.snoc hown', (HX.out.alloc _).grown hgrow (fun q hq => by have := (hbs q hq).1; omega), (below_alloc HB.out _).grown hgrow (by simp; omega) (fun q hq => by have := (hbs q hq).1; omega)⟩
              case measure => have := hk.out; omega
            · have d4 : decide (0 < k) = true := decide_eq_true (by omega)
              have c2 := bit_cell HX.out (k - 1) (by omega)
              rw [h0] at c2
              have k1 : 1 ≤ k := by omega
              clear h0 hk0
              go_wp2_with (at_builtin; refine wpList_append_own _ rfl (.tmp 11) (.tmp 15) 27 rfl (w.heap.size + 1) TSp i0 (.agg #[.int .i64 0, .int .i64 0]) 2 16 Try.underlying27 hi hz0 hz1 hz2 rfl (by decide) u3 _ _ rfl (HO.out.own.alloc _) ⟨wr.heap.size, 0, none⟩ 1 1 [.int .i64 k, .int .i64 k] rfl rfl (new_cells wr [.int .i64 k, .int .i64 k] TSp) (two_one _ _) (by unfold maxLen; omega) (by omega) (by simp; omega) ?_; intro v' w2 hown' hgrow _)
              have hbs := own_base HO.out.own
              go_roundg (gk - 1)
              case rel => exact ⟨k + 1, by have := hk.out; show _ = _; omega, by go_num, by rw [E.out]; exact OwnSp.snoc hown', (HX.out.alloc _).grown hgrow (fun q hq => by have := (hbs q hq).1; omega), (below_alloc HB.out _).grown hgrow (by simp; omega) (fun q hq => by have := (hbs q hq).1; omega)⟩
              case measure => have := hk.out; omega
      · have hf' : f k = false := by simpa using hf
        rw [hf'] at hix
        have E : Hid (spansTo f (k + 1) = spansTo f k) := spansTo_no hf'
        clear hf hf'
        go_wp2
        go_roundg (gk - 1)
        case rel => exact ⟨k + 1, by have := hk.out; show _ = _; omega, by go_num, by rw [E.out]; exact HO, HX, HB⟩
        case measure => have := hk.out; omega
    · have HK : Hid (k = 256) := by have := hk.out; show _ = _; omega
      obtain ⟨A, c, rfl, hs⟩ := HO.out.sps
      have hlen := spansTo_length f k
      have hl2 : (spansTo f k).length ≤ 256 := by have := HK.out; omega
      go_wp2_with (go_at_call 73; refine (copiedSpan_c A c _ (spcs (spansTo f k)) _ hs.row (spcs_length _) (spcs_one _) (by omega)).mono ?_; rintro e w4 ⟨v4, rfl, o4, b4⟩)
      go_ret
      have := HK.out
      subst this
      exact ⟨_, rfl, ⟨own_lower o4 HB.out.size, by show (spansTo f 256).length ≤ _; unfold maxN; omega⟩, below_then HB.out b4⟩

end Go.Proofs.Ytplhbjpkkhhilaa

/- spec.l1Of: the spans of 256 marks. -/
namespace Go.Proofs.Ytplhbjpkkhhilaa
set_option linter.unusedSimpArgs false
set_option linter.unusedVariables false
open Go.RowKit

theorem bitr_cell {w : World} {g t : Nat} {f : Nat → Bool} (h : Blk w g (bitCells f).toArray t) (k : Nat) (hk : k < 256) : w.cell? ⟨g, k, none⟩ = some (.bool (f k)) := by
  rw [h.cell]
  simpa using bitCells_get f k hk
theorem bitr_set {w : World} {g t : Nat} {f : Nat → Bool} (h : Blk w g (bitCells f).toArray t) (k : Nat) (b : Bool) : Blk (w.setCell ⟨g, k, none⟩ (.bool b)) g (bitCells fun i => if i = k then b else f i).toArray t := by
  have := h.set k (.bool b)
  rw [show (bitCells f).toArray.setIfInBounds k (.bool b) = ((bitCells f).set k (.bool b)).toArray by simp, bitCells_set] at this
  exact this
theorem spansTo_hi {f : Nat → Bool} {n : Nat} (hn : n ≤ 256) {x : Sp} (hl : 0 < (spansTo f n).length) (hx : (spansTo f n)[(spansTo f n).length - 1]? = some x) :
    0 ≤ x.hi ∧ x.hi ≤ 255 ∧ (x.hi = (n : Int) - 1 → 0 < n ∧ f (n - 1) = true) := by
  have h := upto_spans f n hn
  have hlast : (spansTo f n).getLast? = some x := by rw [List.getLast?_eq_getElem?]; exact hx
  have b := setOk_last h.ok hlast
  refine ⟨by omega, b.2.2, fun e => ?_⟩
  obtain ⟨ys, hys⟩ := List.getLast?_eq_some_iff.1 hlast
  have hin : setHas (spansTo f n) x.hi = true := by
    rw [hys, setHas_append]
    simp [setHas_cons, spIn]
    right; omega
  obtain ⟨k, hk, hf, hke⟩ := (h.has _).1 hin
  obtain rfl : k = n - 1 := by omega
  exact ⟨by omega, hf⟩
theorem own_empty (w : World) : OwnSp (w.alloc (.cells #[] TSp)) w.heap.size (.slice (some ⟨w.heap.size, 0, none⟩) 0 0) [] :=
  ⟨own_of_blk (cs := []) (n := 0) (blk_new w #[] TSp) (by simp) (Nat.le_refl _) (by decide), by simp⟩

set_option maxRecDepth 100000 in
set_option maxHeartbeats 2000000 in
theorem sl1Of_c (f : Nat → Bool) (g : Nat) (w : World) (h : Blk w g (bitCells f).toArray 4) :
    Calls Try.prog 72 #[.slice (some ⟨g, 0, none⟩) 256 256] w fun e w' => ∃ v, e = .returned v ∧ OwnSp w' w.heap.size v (spansOf f) ∧ Below w.heap.size w w' := by
  obtain ⟨i0, hi, hz0, hz1, hz2⟩ := info_parts infoSp
  have HO := Lib.hid (own_empty w)
  have HB := Lib.hid (below_alloc (Below.refl w.heap.size w) (.cells #[] TSp))
  have HX := Lib.hid h
  clear h
  go_enter Try.func72, Try.ntmps72
  go_wp2
  go_loopg [3, 4] 256 (fun n v i wr => ∃ k : Nat, Hid (k + n = 256) ∧ i = .int .i64 k ∧ Hid (OwnSp wr w.heap.size v (spansTo f k)) ∧ Hid (Below w.heap.size w wr))
  case atStart => exact ⟨0, rfl, rfl, HO, HB⟩
  case round =>
    clear HO HB
    obtain ⟨k, hk, rfl, HO, HB⟩ := hrel
    by_cases hk2 : k < 256
    · have c2 := bitr_cell (HX.out.below HB.out) k hk2
      have hlen := spansTo_length f k
      by_cases hf : f k = true
      · rw [hf] at c2
        have e0 : IntKind.i64.wrap ((k : Int) - 1) = (k : Int) - 1 := IntWalk.i64_in _ (by omega)
        by_cases hl : 0 < (spansTo f k).length
        · obtain ⟨g', cap, rfl, hg, _⟩ := own_form HO.out.own hl
          obtain ⟨x, HX1, c0, c1, f0, f1⟩ := HO.out.cells ((spansTo f k).length - 1) (by omega)
          have hh := spansTo_hi (f := f) (n := k) (by omega) hl HX1.out
          have d4 : decide (0 < (spansTo f k).length) = true := decide_eq_true hl
          have e1 : IntKind.i64.wrap (((spansTo f k).length : Int) - 1) = ((spansTo f k).length : Int) - 1 := IntWalk.i64_in _ (by omega)
          have e2 : (0 : Int) ≤ ((spansTo f k).length : Int) - 1 := by omega
          have e3 : ((spansTo f k).length : Int) - 1 < ((spansTo f k).length : Int) := by omega
          have e4 : (((spansTo f k).length : Int) - 1).toNat = (spansTo f k).length - 1 := by omega
          have e5 : (1 : Int) ≤ ((spansTo f k).length : Int) := by omega
          by_cases hx : x.hi = (k : Int) - 1
          · have hp := hh.2.2 hx
            obtain ⟨y, hy1, _, _, hy4⟩ := spansTo_ext hf hp.1 hp.2 (by omega)
            obtain rfl : x = y := by
              have := HX1.out
              rw [hy1] at this
              exact (Option.some.inj this).symm
            have E : Hid (spansTo f (k + 1) = (spansTo f k).set ((spansTo f k).length - 1) ⟨x.lo, k⟩) := hy4
            have d5 : (x.hi == (k : Int) - 1) = true := by rw [hx]; simp
            clear hf hp hy1 hy4 hh hx hl
            go_wp2
            go_roundg (gk - 1)
            case rel => exact ⟨k + 1, by have := hk.out; show _ = _; omega, by go_num, by rw [E.out]; exact HO.out.setHi _ x HX1.out _, below_set HB.out (by simp; omega) _⟩
            case measure => have := hk.out; omega
          · have hp' : k = 0 ∨ f (k - 1) = false := by
              rcases Nat.eq_zero_or_pos k with h0 | h0
              · exact .inl h0
              · refine .inr ?_
                rw [Bool.eq_false_iff]
                intro hc
                obtain ⟨y, hy1, _, hy3, _⟩ := spansTo_ext hf h0 hc (by omega)
                have := HX1.out
                rw [hy1] at this
                obtain rfl := Option.some.inj this
                exact hx hy3
            have E : Hid (spansTo f (k + 1) = spansTo f k ++ [⟨k, k⟩]) := spansTo_new hf hp'
            have d5 : (x.hi == (k : Int) - 1) = false := by simp [hx]
            have hsz := HB.out.size
            clear hf hp' hh hx hl
            go_wp2_with (at_builtin; refine wpList_append_own _ rfl (.tmp 37) (.tmp 41) 27 rfl w.heap.size TSp i0 (.agg #[.int .i64 0, .int .i64 0]) 2 16 Try.underlying27 hi hz0 hz1 hz2 rfl (by decide) _ _ _ rfl (HO.out.own.alloc _) ⟨wr.heap.size, 0, none⟩ 1 1 [.int .i64 k, .int .i64 k] rfl rfl (new_cells wr [.int .i64 k, .int .i64 k] TSp) (two_one _ _) (by unfold maxLen; omega) (by omega) (by simp; omega) ?_; intro v' w2 hown' hgrow _)
            have hbs := own_base HO.out.own
            go_roundg (gk - 1)
            case rel => exact ⟨k + 1, by have := hk.out; show _ = _; omega, by go_num, by rw [E.out]; exact OwnSp.snoc hown', (below_alloc HB.out _).grown hgrow (by simp; omega) (fun q hq => by have := (hbs q hq).1; omega)⟩
            case measure => have := hk.out; omega
        · have hsz := HB.out.size
          have h0 : (spansTo f k).length = 0 := by omega
          have hp' : k = 0 ∨ f (k - 1) = false := by
            rcases Nat.eq_zero_or_pos k with h0' | h0'
            · exact .inl h0'
            · refine .inr ?_
              rw [Bool.eq_false_iff]
              intro hc
              obtain ⟨y, _, hy2, _, _⟩ := spansTo_ext hf h0' hc (by omega)
              omega
          have E : Hid (spansTo f (k + 1) = spansTo f k ++ [⟨k, k⟩]) := spansTo_new hf hp'
          obtain ⟨A, c, rfl, _⟩ := HO.out.sps
          have d4 : decide (0 < (spansTo f k).length) = false := decide_eq_false hl
          have HH := Lib.hid h0
          clear hf hp' hl h0
          go_wp2_with (at_builtin; refine wpList_append_own _ rfl (.tmp 37) (.tmp 41) 27 rfl w.heap.size TSp i0 (.agg #[.int .i64 0, .int .i64 0]) 2 16 Try.underlying27 hi hz0 hz1 hz2 rfl (by decide) _ _ _ rfl (HO.out.own.alloc _) ⟨wr.heap.size, 0, none⟩ 1 1 [.int .i64 k, .int .i64 k] rfl rfl (new_cells wr [.int .i64 k, .int .i64 k] TSp) (two_one _ _) (by unfold maxLen; omega) (by omega) (by simp; omega) ?_; intro v' w2 hown' hgrow _)
          have hbs := own_base HO.out.own
          go_roundg (gk - 1)
          case rel => exact ⟨k + 1, by have := hk.out; show _ = _; omega, by go_num, by rw [E.out]; exact OwnSp.snoc hown', (below_alloc HB.out _).grown hgrow (by simp; omega) (fun q hq => by have := (hbs q hq).1; omega)⟩
          case measure => have := hk.out; omega
      · have hf' : f k = false := by simpa using hf
        rw [hf'] at c2
        have E : Hid (spansTo f (k + 1) = spansTo f k) := spansTo_no hf'
        clear hf hf'
        go_wp2
        go_roundg (gk - 1)
        case rel => exact ⟨k + 1, by have := hk.out; show _ = _; omega, by go_num, by rw [E.out]; exact HO, HB⟩
        case measure => have := hk.out; omega
    · have HK : Hid (k = 256) := by have := hk.out; show _ = _; omega
      go_wp2
      go_ret
      have := HK.out
      subst this
      exact ⟨_, rfl, HO.out, HB.out⟩

end Go.Proofs.Ytplhbjpkkhhilaa

/- SetJoin, SetMeet, SetNot of the reference. (Printed by wip/gen/specops.py.) -/
namespace Go.Proofs.Ytplhbjpkkhhilaa
set_option linter.unusedSimpArgs false
set_option linter.unusedVariables false
open Go.RowKit

abbrev TB : Nat := 4
theorem infoBool : (Try.prog.info? TB).map (fun i => (i.zero, i.size, i.bytes)) = some (some (.bool false), 1, 1) := by kernel_rfl
theorem own_bits {w : World} {base g : Nat} (h : w.ownsRow base TB 1 (.slice (some ⟨g, 0, none⟩) 256 256) 256 (madeCells (Value.bool false).cells (256 * 1)).toList) : Blk w g (bitCells fun _ => false).toArray TB := by
  obtain ⟨cur, hb, hs, _, _, _, ht⟩ := own_blk h
  have e : cur = (bitCells fun _ => false).toArray := by
    apply Array.toList_inj.1
    rw [List.take_of_length_le (by rw [Array.length_toList, hs]; exact Nat.le_refl _)] at ht
    rw [ht]
    apply List.ext_getElem?
    intro j
    by_cases hj : j < 256
    · rw [bitCells_get _ _ hj]
      simp [madeCells, Value.cells, hj, Nat.mod_one]
    · rw [List.getElem?_eq_none (by simp [madeCells]; omega), List.getElem?_eq_none (by simp [bitCells_length]; omega)]
  rw [← e]; exact hb

set_option maxRecDepth 100000 in
set_option maxHeartbeats 2000000 in
theorem sSetMeet_c (A B : Option Addr) (c d : Nat) (xs ys : List Sp) (w : World) {lo lo' : Nat} (h : Sps w lo A c xs) (h' : Sps w lo' B d ys) :
    Calls Try.prog 74 #[.slice A xs.length c, .slice B ys.length d] w fun e w' => ∃ v, e = .returned v ∧ OwnSp w' w.heap.size v (setMeet xs ys) ∧ Below w.heap.size w w' := by
  obtain ⟨i0, hi, hz0, hz1, hz2⟩ := info_parts infoBool
  go_enter Try.func74, Try.ntmps74
  go_wp2_with (at_make; refine wpList_make_full _ rfl _ _ 79 rfl w.heap.size TB i0 (.bool false) 1 Try.underlying79 hi hz0 hz1 .i64 .i64 _ _ 256 rfl rfl rfl rfl (by rw [hz2]; omega) (by unfold maxLen; omega) (Nat.le_refl _) ?_; intro w1 hown hgrow)
  have HX := Lib.hid (own_bits hown)
  have HB := Lib.hid ((Below.refl _ w).grown hgrow (Nat.le_refl _) (fun k hk => by cases hk))
  clear hown hgrow hi hz0 hz1 hz2
  go_loopg [6] 256 (fun n i wr => ∃ k : Nat, Hid (k + n = 256) ∧ i = .int .i64 k ∧ ∃ f : Nat → Bool, Hid (Blk wr w.heap.size (bitCells f).toArray TB) ∧ Hid (∀ j, j < k → f j = (setHas xs j && setHas ys j)) ∧ Hid (Below w.heap.size w wr))
  case atStart => exact ⟨0, rfl, rfl, _, HX, fun j hj => absurd hj (Nat.not_lt_zero _), HB⟩
  case round =>
    clear HX HB
    obtain ⟨k, hk, rfl, f, HX, HF, HB⟩ := hrel
    by_cases hk2 : k < 256
    · by_cases hf : setHas xs k = true
      · skip
        have G1 : Hid (setHas xs k = true) := hf
        go_wp2_with fail
        refine (sSetHas_c _ _ _ _ _ (h.below HB.out)).mono ?_
        rintro e w2 ⟨rfl, d2⟩
        replace HB := Lib.hid (below_then HB.out d2.below)
        replace HX := Lib.hid (HX.out.below d2.below)
        clear d2
        rw [G1.out]
        clear hf
        by_cases hf2 : setHas ys k = true
        · skip
          have G2 : Hid (setHas ys k = true) := hf2
          go_wp2_with fail
          refine (sSetHas_c _ _ _ _ _ (h'.below HB.out)).mono ?_
          rintro e w3 ⟨rfl, d2⟩
          replace HB := Lib.hid (below_then HB.out d2.below)
          replace HX := Lib.hid (HX.out.below d2.below)
          clear d2
          rw [G2.out]
          clear hf2
          have G : Hid ((setHas xs k && setHas ys k) = true) := by show _ = _; simp [G1.out, G2.out]
          have c0 := bitr_cell HX.out k hk2
          have f0 := HX.out.free k
          go_wp2
          go_roundg (gk - 1)
          case rel =>
            refine ⟨k + 1, by have := hk.out; show _ = _; omega, by go_num, _, bitr_set HX.out k _, ?_, below_set HB.out (Nat.le_refl _) _⟩
            intro j hj
            by_cases e : j = k
            · subst e; simp [G.out]
            · rw [if_neg e]
              exact HF.out j (by omega)
          case measure => have := hk.out; omega
        · replace hf2 : setHas ys k = false := by simpa using hf2
          have G2 : Hid (setHas ys k = false) := hf2
          go_wp2_with fail
          refine (sSetHas_c _ _ _ _ _ (h'.below HB.out)).mono ?_
          rintro e w3 ⟨rfl, d2⟩
          replace HB := Lib.hid (below_then HB.out d2.below)
          replace HX := Lib.hid (HX.out.below d2.below)
          clear d2
          rw [G2.out]
          clear hf2
          have G : Hid ((setHas xs k && setHas ys k) = false) := by show _ = _; simp [G1.out, G2.out]
          have c0 := bitr_cell HX.out k hk2
          have f0 := HX.out.free k
          go_wp2
          go_roundg (gk - 1)
          case rel =>
            refine ⟨k + 1, by have := hk.out; show _ = _; omega, by go_num, _, bitr_set HX.out k _, ?_, below_set HB.out (Nat.le_refl _) _⟩
            intro j hj
            by_cases e : j = k
            · subst e; simp [G.out]
            · rw [if_neg e]
              exact HF.out j (by omega)
          case measure => have := hk.out; omega
      · replace hf : setHas xs k = false := by simpa using hf
        have G1 : Hid (setHas xs k = false) := hf
        go_wp2_with fail
        refine (sSetHas_c _ _ _ _ _ (h.below HB.out)).mono ?_
        rintro e w2 ⟨rfl, d2⟩
        replace HB := Lib.hid (below_then HB.out d2.below)
        replace HX := Lib.hid (HX.out.below d2.below)
        clear d2
        rw [G1.out]
        clear hf
        have G : Hid ((setHas xs k && setHas ys k) = false) := by show _ = _; simp [G1.out]
        have c0 := bitr_cell HX.out k hk2
        have f0 := HX.out.free k
        go_wp2
        go_roundg (gk - 1)
        case rel =>
          refine ⟨k + 1, by have := hk.out; show _ = _; omega, by go_num, _, bitr_set HX.out k _, ?_, below_set HB.out (Nat.le_refl _) _⟩
          intro j hj
          by_cases e : j = k
          · subst e; simp [G.out]
          · rw [if_neg e]
            exact HF.out j (by omega)
        case measure => have := hk.out; omega
    · by_cases ho : setOk xs = true
      · have O1 : Hid (setOk xs = true) := ho
        go_wp2_with fail
        refine (sSetOk_c _ _ _ _ (h.below HB.out)).mono ?_
        rintro e w5 ⟨rfl, d2⟩
        replace HB := Lib.hid (below_then HB.out d2.below)
        replace HX := Lib.hid (HX.out.below d2.below)
        clear d2
        rw [O1.out]
        clear ho
        by_cases ho2 : setOk ys = true
        · have O2 : Hid (setOk ys = true) := ho2
          go_wp2_with fail
          refine (sSetOk_c _ _ _ _ (h'.below HB.out)).mono ?_
          rintro e w6 ⟨rfl, d2⟩
          replace HB := Lib.hid (below_then HB.out d2.below)
          replace HX := Lib.hid (HX.out.below d2.below)
          clear d2
          rw [O2.out]
          clear ho2
          have E : Hid (setMeet xs ys = spansOf fun j => setHas xs j && setHas ys j) := by show _ = _; simp [setMeet, O1.out, O2.out]
          go_wp2_with fail
          refine (sl1Of_c f _ _ HX.out).mono ?_
          rintro e w9 ⟨v9, rfl, o9, b9⟩
          go_wp2
          go_ret
          refine ⟨_, rfl, ?_, below_then HB.out b9⟩
          rw [E.out, spansOf_congr (fun i hi => (HF.out i (by omega)).symm)]
          exact o9.lower HB.out.size
        · have O2 : Hid (setOk ys = false) := by show _ = _; simpa using ho2
          go_wp2_with fail
          refine (sSetOk_c _ _ _ _ (h'.below HB.out)).mono ?_
          rintro e w6 ⟨rfl, d2⟩
          replace HB := Lib.hid (below_then HB.out d2.below)
          replace HX := Lib.hid (HX.out.below d2.below)
          clear d2
          rw [O2.out]
          clear ho2
          have E : Hid (setMeet xs ys = []) := by show _ = _; simp [setMeet, O2.out]
          go_wp2
          go_ret
          exact ⟨_, rfl, by rw [E.out]; exact (own_empty _).lower HB.out.size, below_alloc HB.out _⟩
      · have O1 : Hid (setOk xs = false) := by show _ = _; simpa using ho
        go_wp2_with fail
        refine (sSetOk_c _ _ _ _ (h.below HB.out)).mono ?_
        rintro e w5 ⟨rfl, d2⟩
        replace HB := Lib.hid (below_then HB.out d2.below)
        replace HX := Lib.hid (HX.out.below d2.below)
        clear d2
        rw [O1.out]
        clear ho
        have E : Hid (setMeet xs ys = []) := by show _ = _; simp [setMeet, O1.out]
        go_wp2
        go_ret
        exact ⟨_, rfl, by rw [E.out]; exact (own_empty _).lower HB.out.size, below_alloc HB.out _⟩

set_option maxRecDepth 100000 in
set_option maxHeartbeats 2000000 in
theorem sSetNot_c (A : Option Addr) (c : Nat) (xs : List Sp) (w : World) {lo : Nat} (h : Sps w lo A c xs) :
    Calls Try.prog 75 #[.slice A xs.length c] w fun e w' => ∃ v, e = .returned v ∧ OwnSp w' w.heap.size v (setNot xs) ∧ Below w.heap.size w w' := by
  obtain ⟨i0, hi, hz0, hz1, hz2⟩ := info_parts infoBool
  go_enter Try.func75, Try.ntmps75
  go_wp2_with (at_make; refine wpList_make_full _ rfl _ _ 79 rfl w.heap.size TB i0 (.bool false) 1 Try.underlying79 hi hz0 hz1 .i64 .i64 _ _ 256 rfl rfl rfl rfl (by rw [hz2]; omega) (by unfold maxLen; omega) (Nat.le_refl _) ?_; intro w1 hown hgrow)
  have HX := Lib.hid (own_bits hown)
  have HB := Lib.hid ((Below.refl _ w).grown hgrow (Nat.le_refl _) (fun k hk => by cases hk))
  clear hown hgrow hi hz0 hz1 hz2
  go_loopg [4] 256 (fun n i wr => ∃ k : Nat, Hid (k + n = 256) ∧ i = .int .i64 k ∧ ∃ f : Nat → Bool, Hid (Blk wr w.heap.size (bitCells f).toArray TB) ∧ Hid (∀ j, j < k → f j = (!setHas xs j)) ∧ Hid (Below w.heap.size w wr))
  case atStart => exact ⟨0, rfl, rfl, _, HX, fun j hj => absurd hj (Nat.not_lt_zero _), HB⟩
  case round =>
    clear HX HB
    obtain ⟨k, hk, rfl, f, HX, HF, HB⟩ := hrel
    by_cases hk2 : k < 256
    · by_cases hf : setHas xs k = true
      · skip
        have G : Hid (setHas xs k = true) := hf
        go_wp2_with fail
        refine (sSetHas_c _ _ _ _ _ (h.below HB.out)).mono ?_
        rintro e w2 ⟨rfl, d2⟩
        replace HB := Lib.hid (below_then HB.out d2.below)
        replace HX := Lib.hid (HX.out.below d2.below)
        clear d2
        rw [G.out]
        clear hf
        have c0 := bitr_cell HX.out k hk2
        have f0 := HX.out.free k
        go_wp2
        go_roundg (gk - 1)
        case rel =>
          refine ⟨k + 1, by have := hk.out; show _ = _; omega, by go_num, _, bitr_set HX.out k _, ?_, below_set HB.out (Nat.le_refl _) _⟩
          intro j hj
          by_cases e : j = k
          · subst e; simp [G.out]
          · rw [if_neg e]
            exact HF.out j (by omega)
        case measure => have := hk.out; omega
      · replace hf : setHas xs k = false := by simpa using hf
        have G : Hid (setHas xs k = false) := hf
        go_wp2_with fail
        refine (sSetHas_c _ _ _ _ _ (h.below HB.out)).mono ?_
        rintro e w2 ⟨rfl, d2⟩
        replace HB := Lib.hid (below_then HB.out d2.below)
        replace HX := Lib.hid (HX.out.below d2.below)
        clear d2
        rw [G.out]
        clear hf
        have c0 := bitr_cell HX.out k hk2
        have f0 := HX.out.free k
        go_wp2
        go_roundg (gk - 1)
        case rel =>
          refine ⟨k + 1, by have := hk.out; show _ = _; omega, by go_num, _, bitr_set HX.out k _, ?_, below_set HB.out (Nat.le_refl _) _⟩
          intro j hj
          by_cases e : j = k
          · subst e; simp [G.out]
          · rw [if_neg e]
            exact HF.out j (by omega)
        case measure => have := hk.out; omega
    · by_cases ho : setOk xs = true
      · have O1 : Hid (setOk xs = true) := ho
        go_wp2_with fail
        refine (sSetOk_c _ _ _ _ (h.below HB.out)).mono ?_
        rintro e w5 ⟨rfl, d2⟩
        replace HB := Lib.hid (below_then HB.out d2.below)
        replace HX := Lib.hid (HX.out.below d2.below)
        clear d2
        rw [O1.out]
        clear ho
        have E : Hid (setNot xs = spansOf fun j => !setHas xs j) := by show _ = _; simp [setNot, O1.out]
        go_wp2_with fail
        refine (sl1Of_c f _ _ HX.out).mono ?_
        rintro e w9 ⟨v9, rfl, o9, b9⟩
        go_wp2
        go_ret
        refine ⟨_, rfl, ?_, below_then HB.out b9⟩
        rw [E.out, spansOf_congr (fun i hi => (HF.out i (by omega)).symm)]
        exact o9.lower HB.out.size
      · have O1 : Hid (setOk xs = false) := by show _ = _; simpa using ho
        go_wp2_with fail
        refine (sSetOk_c _ _ _ _ (h.below HB.out)).mono ?_
        rintro e w5 ⟨rfl, d2⟩
        replace HB := Lib.hid (below_then HB.out d2.below)
        replace HX := Lib.hid (HX.out.below d2.below)
        clear d2
        rw [O1.out]
        clear ho
        have E : Hid (setNot xs = []) := by show _ = _; simp [setNot, O1.out]
        go_wp2
        go_ret
        exact ⟨_, rfl, by rw [E.out]; exact (own_empty _).lower HB.out.size, below_alloc HB.out _⟩

end Go.Proofs.Ytplhbjpkkhhilaa

/- What draws a set: l1Set. -/
namespace Go.Proofs.Ytplhbjpkkhhilaa
set_option linter.unusedSimpArgs false
set_option linter.unusedVariables false
open Go.RowKit

theorem ints_new (w : World) (zs : List Int) (t : TypeId) : CellsAt (w.alloc (.cells (zs.map fun z => Value.int .i64 z).toArray t)) ⟨w.heap.size, 0, none⟩ (zs.map fun z => .int .i64 z) := new_cells w _ t
def L9 : List Int := [0, 48, 97, 97, 98, 99, 120, 254, 255]
def L7 : List Int := [0, 0, 1, 2, 9, 25, 200]

theorem grown_fresh {w w1 : World} {row : Option Nat} (h : w.grownBy w1 row) {b : Nat} (hb : w.heap.size ≤ b) (o : Nat) (u : Value) : w.grownBy (w1.setCell ⟨b, o, none⟩ u) row :=
  ⟨h.os, h.tape, h.output, by rw [World.size_setCell]; exact h.size, fun k hk hne => (Below.heap_setCell w1 ⟨b, o, none⟩ u k (by show k ≠ b; omega)).trans (h.block k hk hne)⟩

set_option maxRecDepth 100000 in
set_option maxHeartbeats 2000000 in
theorem l1Set_c (g p : Nat) (w : World) (h : Rd w g p) (hp : p ≤ 900000) :
    Calls Try.prog 42 #[.pointer (some ⟨g, 0, none⟩)] w fun e w' => ∃ f v q, e = .returned v ∧ OwnSp w' w.heap.size v (spansOf f) ∧ (∃ k, k < 256 ∧ f k = true) ∧ Rd w' g q ∧ q ≤ p + 10 ∧ w.grownBy w' (some g) := by
  obtain ⟨i0, hi, hz0, hz1, hz2⟩ := info_parts infoBool
  have hgw := h.lt
  go_enter Try.func42, Try.ntmps42
  go_wp2_with (at_make; refine wpList_make_full _ rfl _ _ 79 rfl w.heap.size TB i0 (.bool false) 1 Try.underlying79 hi hz0 hz1 .i64 .i64 _ _ 256 rfl rfl rfl rfl (by rw [hz2]; omega) (by unfold maxLen; omega) (Nat.le_refl _) ?_; intro w1 hown hgrow; have HX1 := Lib.hid (own_bits hown); have HR1 := Lib.hid (h.grown hgrow (fun k hk => by cases hk)); have HB1 := Lib.hid ((Below.refl _ w).grown hgrow (Nat.le_refl _) (fun k hk => by cases hk)); clear hown hgrow hi hz0 hz1 hz2 h; skip)
  refine (pick_c g p 3 _ HR1.out (by omega) (by omega) (by omega)).mono ?_
  rintro e w2 ⟨r, rfl, r0, r1, HR, HG⟩
  have HX := Lib.hid (HX1.out.grown HG (fun k hk => by injection hk with hk; omega))
  replace HR := Lib.hid HR
  replace HG := Lib.hid (grown_then (grown_below HB1.out) HG)
  obtain ⟨m, rfl⟩ := Int.eq_ofNat_of_zero_le r0
  clear HX1 HR1 HB1
  go_wp2
  go_loopg [4] (m + 1) (fun n i wr => i = .int .i64 n ∧ Hid (n ≤ m + 1) ∧ ∃ (f : Nat → Bool) (q : Nat), Hid (Blk wr w.heap.size (bitCells f).toArray TB) ∧ Hid (Rd wr g q) ∧ Hid (q + 2 * n ≤ p + 7) ∧ Hid (n = m + 1 ∨ ∃ k, k < 256 ∧ f k = true) ∧ Hid (w.grownBy wr (some g)))
  case atStart => exact ⟨by go_num, Nat.le_refl _, _, p + 1, HX, HR, by show _ ≤ _; omega, .inl rfl, HG⟩
  case round =>
    clear HX HR HG
    obtain ⟨rfl, hn, f, q, HX, HR, HQ, HE, HG⟩ := hrel
    by_cases hpos : 0 < gk
    · obtain ⟨gn, rfl⟩ : ∃ x, gk = x + 1 := ⟨gk - 1, by omega⟩
      have hgk : gn + 1 ≤ 3 := by have := hn.out; omega
      have hq0 : q ≤ 900010 := by have := HQ.out; omega
      have hl9 : L9.length = 9 := rfl
      go_wp2_with fail
      refine (num_c g q wr.heap.size 9 L9 0 255 _ (HR.out.below (below_alloc (Below.refl _ _) _)) (ints_new wr L9 _) (by have := HR.out.lt; omega) (by simp) (by decide) (by decide) (by decide) (by omega)).mono ?_
      rintro e w3 ⟨a, rfl, a0, a1, HR3, HG3⟩
      have HX3 := Lib.hid ((HX.out.alloc _).grown HG3 (fun k hk => by injection hk with hk; omega))
      have HT3 := Lib.hid (grown_then HG.out (grown_then (grown_below (below_alloc (Below.refl _ _) _)) HG3))
      replace HR3 := Lib.hid HR3
      clear HX HR HG HG3
      go_wp2_with fail
      refine (num_c g (q + 1) w3.heap.size 7 L7 0 200 _ (HR3.out.below (below_alloc (Below.refl _ _) _)) (ints_new w3 L7 _) (by have := HR3.out.lt; omega) (by simp) (by decide) (by decide) (by decide) (by omega)).mono ?_
      rintro e w4 ⟨r2, rfl, b0, b1, HR4, HG4⟩
      have HX4 := Lib.hid ((HX3.out.alloc _).grown HG4 (fun k hk => by injection hk with hk; omega))
      have HT4 := Lib.hid (grown_then HT3.out (grown_then (grown_below (below_alloc (Below.refl _ _) _)) HG4))
      replace HR4 := Lib.hid HR4
      clear HX3 HR3 HT3 HG4
      go_wp2_with fail
      refine (min_c _ _ _).mono ?_
      rintro e w5 ⟨rfl, rfl⟩
      obtain ⟨b, hb⟩ : ∃ b, b = (if (255 : Int) < a + r2 then 255 else a + r2) := ⟨_, rfl⟩
      rw [← hb]
      have hab : a ≤ b ∧ b ≤ 255 := by rw [hb]; split <;> omega
      clear hb
      obtain ⟨an, rfl⟩ := Int.eq_ofNat_of_zero_le a0
      obtain ⟨bn, rfl⟩ := Int.eq_ofNat_of_zero_le (show 0 ≤ b by omega)
      have hab1 : an ≤ bn := by omega
      have hab2 : bn ≤ 255 := by omega
      clear hab a0 a1 b0 b1
      go_wp2
      go_loopg [7] (bn + 1 - an) (fun n i wr => ∃ kk : Nat, i = .int .i64 kk ∧ kk + n = bn + 1 ∧ ∃ (f : Nat → Bool), Hid (Blk wr w.heap.size (bitCells f).toArray TB) ∧ Hid (Rd wr g (q + 2)) ∧ Hid (kk = an ∨ ∃ k, k < 256 ∧ f k = true) ∧ Hid (w.grownBy wr (some g)))
      case atStart => exact ⟨an, rfl, by omega, _, HX4, HR4, .inl rfl, HT4⟩
      case round =>
        clear HX4 HR4 HT4
        obtain ⟨kk, rfl, hkk, f', HX, HR, HE', HG⟩ := hrel
        by_cases hk : kk ≤ bn
        · have c0 := bitr_cell HX.out kk (by omega)
          have f0 := HX.out.free kk
          go_wp2
          go_roundg (gk - 1)
          case rel => exact ⟨kk + 1, by go_num, by omega, _, bitr_set HX.out kk _, HR.out.grown (grown_set (grown_refl _ _) _ _) (fun k hk => by injection hk with hk; omega), .inr ⟨kk, by omega, by simp⟩, grown_fresh HG.out (Nat.le_refl _) _ _⟩
          case measure => omega
        · go_wp2
          go_roundg gn
          case rel => exact ⟨by go_num, by have := hn.out; show _ ≤ _; omega, f', q + 2, HX, HR, by have := HQ.out; show _ ≤ _; omega, .inr (HE'.out.resolve_left (by omega)), HG⟩
          case measure => omega
    · go_wp2_with fail
      refine (sl1Of_c f _ _ HX.out).mono ?_
      rintro e w9 ⟨v9, rfl, o9, b9⟩
      go_wp2
      go_ret
      exact ⟨f, v9, q, rfl, o9.lower HG.out.size, HE.out.resolve_left (by omega), HR.out.below b9, by have := HQ.out; omega, grown_then HG.out (grown_below b9)⟩

end Go.Proofs.Ytplhbjpkkhhilaa

/- Marks and holds of results in memory. -/
namespace Go.Proofs.Ytplhbjpkkhhilaa
set_option linter.unusedSimpArgs false
set_option linter.unusedVariables false
open Go.RowKit

theorem OwnSp.row {w : World} {base c : Nat} {A : Option Addr} {xs ys : List Sp} (h : OwnSp w base (.slice A xs.length c) ys) : Sps w base A c ys := by
  obtain ⟨A', c', e, s⟩ := h.sps
  injection e with e1 e2 e3
  subst e1 e3
  exact s
theorem OwnSp.moved {w w1 : World} {base : Nat} {v : Value} {xs : List Sp} (h : OwnSp w base v xs) (hm : ∀ k, v.ownBlock = some k → w1.heap[k]? = w.heap[k]?) : OwnSp w1 base v xs := ⟨own_move h.own hm, h.len⟩
theorem spansOf_len (f : Nat → Bool) : (spansOf f).length ≤ 256 := spansTo_length f 256
theorem setJoin_len (xs ys : List Sp) : (setJoin xs ys).length ≤ 256 := by
  unfold setJoin; split
  · exact spansOf_len _
  · simp
theorem setMeet_len (xs ys : List Sp) : (setMeet xs ys).length ≤ 256 := by
  unfold setMeet; split
  · exact spansOf_len _
  · simp
theorem setNot_len (xs : List Sp) : (setNot xs).length ≤ 256 := by
  unfold setNot; split
  · exact spansOf_len _
  · simp

end Go.Proofs.Ytplhbjpkkhhilaa

/- What draws sets: l1Bent, l1Two. -/
namespace Go.Proofs.Ytplhbjpkkhhilaa
set_option linter.unusedSimpArgs false
set_option linter.unusedVariables false
open Go.RowKit

theorem spcs_set_lo (xs : List Sp) (k : Nat) (x : Sp) (a : Int) (hx : xs[k]? = some x) : (spcs xs).set (k * 2) (.int .i64 a) = spcs (xs.set k ⟨a, x.hi⟩) := by
  have hk := (List.getElem?_eq_some_iff.1 hx).1
  have hg := (spcs_get xs k hk).2
  have e1 : xs.getD k default = x := by simp [List.getD_eq_getElem?_getD, hx]
  rw [e1] at hg
  rw [← spcs_set xs k a x.hi]
  apply List.ext_getElem?
  intro j
  rw [List.getElem?_set (l := (spcs xs).set (k * 2) _)]
  split
  · rename_i e; subst e
    rw [List.getElem?_set, if_neg (by omega), hg]
    rw [if_pos (by rw [List.length_set]; exact (List.getElem?_eq_some_iff.1 hg).1)]
  · rfl
theorem OwnSp.setLo {w : World} {base g n cap : Nat} {xs : List Sp} (h : OwnSp w base (.slice (some ⟨g, 0, none⟩) n cap) xs) (k : Nat) (x : Sp) (hx : xs[k]? = some x) (a : Int) :
    OwnSp (w.setCell ⟨g, k * 2, none⟩ (.int .i64 a)) base (.slice (some ⟨g, 0, none⟩) n cap) (xs.set k ⟨a, x.hi⟩) := by
  obtain ⟨h1, h2⟩ := h
  have hn : n = xs.length := by
    rcases h1.2 with ⟨h0, _⟩ | ⟨g', cap', cur, h0, _⟩
    · simp at h0
    · simp at h0; exact h0.2.1
  subst hn
  have s1 := (h1.stored (k * 2) (.int .i64 a)).1
  rw [spcs_set_lo xs k x a hx] at s1
  exact ⟨by rw [List.length_set]; exact s1, by rw [List.length_set]; exact h2⟩
theorem OwnSp.grown {w w1 : World} {base : Nat} {v : Value} {xs : List Sp} (h : OwnSp w base v xs) {row : Option Nat} (hg : w.grownBy w1 row) (hr : ∀ k, row = some k → k < base) : OwnSp w1 base v xs :=
  h.moved fun k hk => hg.block k (own_base h.own k hk).2 (fun e => by have := hr k e.symm; have := (own_base h.own k hk).1; omega)
theorem grown_row {w w1 w2 : World} {r row : Option Nat} (h : w.grownBy w1 r) (k : w1.grownBy w2 row) (hr : ∀ q, row = some q → w.heap.size ≤ q) : w.grownBy w2 r :=
  ⟨k.os.trans h.os, k.tape.trans h.tape, k.output.trans h.output, Nat.le_trans h.size k.size, fun i hi hne => (k.block i (Nat.lt_of_lt_of_le hi h.size) (fun e => by have := hr i e.symm; omega)).trans (h.block i hi hne)⟩
theorem spansOf_pos {f : Nat → Bool} (h : ∃ k, k < 256 ∧ f k = true) : 0 < (spansOf f).length := by
  obtain ⟨k, hk, hf⟩ := h
  rcases Nat.eq_zero_or_pos (spansOf f).length with h0 | h0
  · have e : spansOf f = [] := List.length_eq_zero_iff.1 h0
    have := setHas_spans_nat f k hk
    rw [e, hf] at this
    cases this
  · exact h0
theorem OwnSp.some {w : World} {base : Nat} {v : Value} {xs : List Sp} (h : OwnSp w base v xs) (hn : 0 < xs.length) : ∃ b cap, v = .slice (some ⟨b, 0, none⟩) xs.length cap := by
  obtain ⟨g, cap, e, _⟩ := own_form h.own hn
  exact ⟨g, cap, e⟩
def L2 : List Int := [-1, 300]

set_option maxRecDepth 100000 in
set_option maxHeartbeats 4000000 in
theorem l1Bent_c (g p : Nat) (w : World) (h : Rd w g p) (hp : p ≤ 800000) :
    Calls Try.prog 43 #[.pointer (some ⟨g, 0, none⟩)] w fun e w' => ∃ xs v q, e = .returned v ∧ OwnSp w' w.heap.size v xs ∧ (∃ b cap, v = .slice (some ⟨b, 0, none⟩) xs.length cap) ∧ xs.length ≤ 300 ∧ Rd w' g q ∧ q ≤ p + 20 ∧ w.grownBy w' (some g) := by
  obtain ⟨i0, hi, hz0, hz1, hz2⟩ := info_parts infoSp
  have hgw := h.lt
  go_enter Try.func43, Try.ntmps43
  go_wp2_with fail
  refine (l1Set_c g p _ h (by omega)).mono ?_
  rintro e w1 ⟨f, v, q, rfl, HO, hf, HR, hq, HG⟩
  have hl := spansOf_pos hf
  have hl2 := spansOf_len f
  clear h hf
  replace HG := Lib.hid HG
  go_wp2_with fail
  refine (pick_c g q 40 _ HR (by omega) (by omega) (by omega)).mono ?_
  rintro e w2 ⟨r, rfl, r0, r1, HR2, HG2⟩
  replace HO := Lib.hid (HO.grown HG2 (fun k hk => by injection hk with hk; omega))
  replace HG := Lib.hid (grown_then HG.out HG2)
  replace HR := Lib.hid HR2
  clear HG2 HR2
  obtain ⟨b, cap, rfl, hb, _⟩ := own_form HO.out.own hl
  by_cases c0 : r = 0
  · subst c0
    go_wp2
    go_ret
    exact ⟨[], _, q + 1, rfl, (own_empty w2).lower HG.out.size, ⟨_, _, rfl⟩, by simp, HR.out.below (below_alloc (Below.refl _ _) _), by omega, grown_then HG.out (grown_below (below_alloc (Below.refl _ _) _))⟩
  have d0 : (r == 0) = false := by simp [c0]
  by_cases c1 : r = 1
  · subst c1
    obtain ⟨x, HX, m0, m1, f0, f1⟩ := HO.out.cells 0 hl
    go_wp2_with fail
    refine (num_c g (q + 1) w2.heap.size 2 L2 (-1) 300 _ (HR.out.below (below_alloc (Below.refl _ _) _)) (ints_new w2 L2 _) (by have := HR.out.lt; omega) (by simp) (by decide) (by decide) (by decide) (by omega)).mono ?_
    rintro e w3 ⟨z, rfl, z0, z1, HR3, HG3⟩
    have HO3 := Lib.hid ((HO.out.below (below_alloc (Below.refl _ _) _)).grown HG3 (fun k hk => by injection hk with hk; omega))
    have HT := Lib.hid (grown_then HG.out (grown_then (grown_below (below_alloc (Below.refl _ _) _)) HG3))
    replace HR3 := Lib.hid HR3
    clear HX m0 m1 f0 f1 HG3 HG HO HR
    obtain ⟨x, HX, m0, m1, f0, f1⟩ := HO3.out.cells 0 hl
    go_wp2
    go_ret
    exact ⟨_, .slice (some ⟨b, 0, none⟩) (spansOf f).length cap, q + 2, rfl, HO3.out.setLo 0 x HX.out z, ⟨b, cap, by rw [List.length_set]⟩, by rw [List.length_set]; omega, HR3.out.grown (grown_set (grown_refl _ _) _ _) (fun k hk => by injection hk with hk; omega), by omega, grown_fresh HT.out hb _ _⟩
  have d1 : (r == 1) = false := by simp [c1]
  by_cases c2 : r = 2
  · subst c2
    obtain ⟨x, HX, m0, m1, f0, f1⟩ := HO.out.cells 0 hl
    have HOw := HO
    have HRw := HR
    have HGw := HG
    have hsz := HG.out.size
    go_wp2_with (at_builtin; refine wpList_append_own _ rfl (.tmp 21) (.tmp 25) 27 rfl w.heap.size TSp i0 (.agg #[.int .i64 0, .int .i64 0]) 2 16 Try.underlying27 hi hz0 hz1 hz2 rfl (by decide) _ _ _ rfl (HOw.out.own.alloc _) ⟨_, 0, none⟩ 1 1 [.int .i64 x.lo, .int .i64 x.hi] rfl rfl (new_cells _ [.int .i64 x.lo, .int .i64 x.hi] TSp) (two_one _ _) (by unfold maxLen; omega) (by omega) (by simp; omega) ?_; intro v' w5 hown' hgrow _)
    have hbs := own_base HOw.out.own
    go_wp2
    go_ret
    exact ⟨_, _, q + 1, rfl, OwnSp.snoc hown', (OwnSp.snoc hown').some (by simp), by rw [List.length_append, List.length_singleton]; omega, (HRw.out.below (below_alloc (Below.refl _ _) _)).grown hgrow (fun k hk => by have := (hbs k hk).1; omega), by omega, grown_row (grown_then HGw.out (grown_below (below_alloc (Below.refl _ _) _))) hgrow (fun k hk => (hbs k hk).1)⟩
  have d2 : (r == 2) = false := by simp [c2]
  obtain ⟨x, HX, m0, m1, f0, f1⟩ := HO.out.cells ((spansOf f).length - 1) (by omega)
  have hh := spansTo_hi (f := f) (n := 256) (by omega) hl HX.out
  have hx0 : 0 ≤ x.hi := hh.1
  have hx1 : x.hi ≤ 255 := hh.2.1
  clear hh
  by_cases c3 : r = 3
  · subst c3
    go_wp2
    go_ret
    exact ⟨_, .slice (some ⟨b, 0, none⟩) (spansOf f).length cap, q + 1, rfl, HO.out.setHi _ x HX.out 256, ⟨b, cap, by rw [List.length_set]⟩, by rw [List.length_set]; omega, HR.out.grown (grown_set (grown_refl _ _) _ _) (fun k hk => by injection hk with hk; omega), by omega, grown_fresh HG.out hb _ _⟩
  have d3 : (r == 3) = false := by simp [c3]
  by_cases c4 : r = 4
  · subst c4
    have HOw := HO
    have HRw := HR
    have HGw := HG
    have hsz := HG.out.size
    have e1 : IntKind.i64.wrap (((spansOf f).length : Int) - 1) = ((spansOf f).length : Int) - 1 := IntWalk.i64_in _ (by omega)
    have e2 : (0 : Int) ≤ ((spansOf f).length : Int) - 1 := by omega
    have e3 : ((spansOf f).length : Int) - 1 < ((spansOf f).length : Int) := by omega
    have e4 : (((spansOf f).length : Int) - 1).toNat = (spansOf f).length - 1 := by omega
    have e5 : IntKind.i64.wrap (x.hi + 1) = x.hi + 1 := IntWalk.i64_in _ (by omega)
    have e6 : (1 : Int) ≤ ((spansOf f).length : Int) := by omega
    go_wp2
    go_region_law (refine step_append_lies _ rfl (.tmp 37) (.tmp 55) 27 rfl w.heap.size TSp i0 (.agg #[.int .i64 0, .int .i64 0]) 2 16 Try.underlying27 hi hz0 hz1 hz2 rfl (by decide) _ _ _ rfl ((HOw.out.below (below_alloc (below_drew (Below.refl _ _)) _)).own) ⟨_, 0, none⟩ 1 1 [.int .i64 (x.hi + 1), .int .i64 (x.hi + 1)] rfl rfl (new_cells _ [.int .i64 (x.hi + 1), .int .i64 (x.hi + 1)] TSp) (two_one _ _) (by decide) (by unfold maxLen; omega) (by omega) (by simp; omega) _ rfl ?_; intro g5 cap5 w5 hown' hgrow hat' hlt')
    all_goals
      have hbs := own_base HOw.out.own
      go_wp2
      go_ret
      exact ⟨_, _, q + 1, rfl, OwnSp.snoc hown', (OwnSp.snoc hown').some (by simp), by rw [List.length_append, List.length_singleton]; omega, (HRw.out.below (below_alloc (below_drew (Below.refl _ _)) _)).grown hgrow (fun k hk => by have := (hbs k hk).1; omega), by omega, grown_row (grown_then HGw.out (grown_below (below_alloc (below_drew (Below.refl _ _)) _))) hgrow (fun k hk => (hbs k hk).1)⟩
  · have d4 : (r == 4) = false := by simp [c4]
    go_wp2
    go_ret
    exact ⟨_, _, q + 1, rfl, HO.out, ⟨b, cap, rfl⟩, by omega, HR.out, by omega, HG.out⟩

end Go.Proofs.Ytplhbjpkkhhilaa

/- Trees that a call made: each row in a block of its own. -/
namespace Go.Proofs.Ytplhbjpkkhhilaa
set_option linter.unusedSimpArgs false
set_option linter.unusedVariables false
open Go.RowKit

abbrev TRx : Nat := 34
abbrev nilS : Value := .slice none 0 0
/-- the block of a row -/
def vblk (v : Value) : List Nat := match v.ownBlock with
  | some g => [g]
  | none => []
theorem mem_vblk {v : Value} {g : Nat} : g ∈ vblk v ↔ v.ownBlock = some g := by
  unfold vblk
  split <;> simp_all
  exact eq_comm
theorem vblk_nil : vblk nilS = [] := rfl
theorem vblk_some (g n c : Nat) : vblk (.slice (some ⟨g, 0, none⟩) n c) = [g] := rfl

structure KInfo where
  fp : List Nat
  v1 : Value
  v2 : Value
def kcell (r : Rex) (x : KInfo) : List Value := [.int .i64 r.kind, x.v1, x.v2]
def kcells : List Rex → List KInfo → List Value
  | r :: rs, x :: xs => kcell r x ++ kcells rs xs
  | _, _ => []
def fps (L : List KInfo) : List Nat := L.flatMap (·.fp)
theorem fps_append (L M : List KInfo) : fps (L ++ M) = fps L ++ fps M := by simp [fps]
theorem fps_cons (x : KInfo) (L : List KInfo) : fps (x :: L) = x.fp ++ fps L := by simp [fps]
theorem kcells_length : ∀ (rs : List Rex) (L : List KInfo), rs.length = L.length → (kcells rs L).length = rs.length * 3
  | [], [], _ => rfl
  | r :: rs, x :: L, h => by
    simp only [kcells, kcell, List.length_append, List.length_cons, List.length_nil]
    rw [kcells_length rs L (by simpa using h)]
    omega
theorem kcells_append : ∀ (rs : List Rex) (L : List KInfo) (r : Rex) (x : KInfo), rs.length = L.length → kcells (rs ++ [r]) (L ++ [x]) = kcells rs L ++ [.int .i64 r.kind, x.v1, x.v2]
  | [], [], r, x, _ => by simp [kcells, kcell]
  | r' :: rs, x' :: L, r, x, h => by
    have := kcells_append rs L r x (by simpa using h)
    simp only [List.cons_append, kcells, this, List.append_assoc]
theorem kcells_get : ∀ (rs : List Rex) (L : List KInfo) (i : Nat) (r : Rex) (x : KInfo), rs[i]? = some r → L[i]? = some x → rs.length = L.length →
    (kcells rs L)[i * 3]? = some (.int .i64 r.kind) ∧ (kcells rs L)[i * 3 + 1]? = some x.v1 ∧ (kcells rs L)[i * 3 + 2]? = some x.v2
  | [], _, i, r, x, h, _, _ => by simp at h
  | r' :: rs, [], i, r, x, _, h, _ => by simp at h
  | r' :: rs, x' :: L, 0, r, x, h1, h2, hl => by
    simp at h1 h2
    subst h1 h2
    simp [kcells, kcell]
  | r' :: rs, x' :: L, i + 1, r, x, h1, h2, hl => by
    have := kcells_get rs L i r x (by simpa using h1) (by simpa using h2) (by simpa using hl)
    rw [show (i + 1) * 3 = i * 3 + 3 by omega]
    simpa [kcells, kcell] using this

inductive OwnT (w : World) : List Nat → Rex → Value → Value → Prop
  | mk (k : Int) (s : List Sp) (ks : List Rex) (v1 v2 : Value) (L : List KInfo) (hL : ks.length = L.length) (hs : OwnSp w 0 v1 s) (hk : w.ownsRow 0 TRx 3 v2 ks.length (kcells ks L)) (hn : ks.length ≤ maxN)
      (hr : ∀ (i : Nat) (r : Rex) (x : KInfo), ks[i]? = some r → L[i]? = some x → OwnT w x.fp r x.v1 x.v2) (nd : (vblk v1 ++ (vblk v2 ++ fps L)).Nodup) : OwnT w (vblk v1 ++ (vblk v2 ++ fps L)) (.mk k s ks) v1 v2

/-- a row of trees that a call made -/
structure OwnK (w : World) (fp : List Nat) (ks : List Rex) (v2 : Value) (L : List KInfo) : Prop where
  hL : ks.length = L.length
  hk : w.ownsRow 0 TRx 3 v2 ks.length (kcells ks L)
  hn : ks.length ≤ maxN
  hr : ∀ (i : Nat) (r : Rex) (x : KInfo), ks[i]? = some r → L[i]? = some x → OwnT w x.fp r x.v1 x.v2
  fe : fp = vblk v2 ++ fps L
  nd : fp.Nodup
theorem OwnT.parts {w : World} {fp : List Nat} {r : Rex} {v1 v2 : Value} (h : OwnT w fp r v1 v2) :
    ∃ L fk, fp = vblk v1 ++ fk ∧ fp.Nodup ∧ OwnSp w 0 v1 r.set ∧ OwnK w fk r.kids v2 L := by
  cases h with
  | mk k s ks _ _ L hL hs hk hn hr nd => exact ⟨L, _, rfl, nd, hs, hL, hk, hn, hr, rfl, (List.nodup_append.1 nd).2.1⟩
theorem OwnT.of {w : World} {fk : List Nat} {k : Int} {s : List Sp} {ks : List Rex} {v1 v2 : Value} {L : List KInfo} (hs : OwnSp w 0 v1 s) (hk : OwnK w fk ks v2 L) (nd : (vblk v1 ++ fk).Nodup) : OwnT w (vblk v1 ++ fk) (.mk k s ks) v1 v2 := by
  obtain ⟨hL, hk, hn, hr, fe, _⟩ := hk
  subst fe
  exact .mk k s ks v1 v2 L hL hs hk hn hr nd

theorem OwnSp.lt {w : World} {base : Nat} {v : Value} {xs : List Sp} (h : OwnSp w base v xs) : ∀ b, b ∈ vblk v → base ≤ b ∧ b < w.heap.size := fun b hb => h.own.lt b (mem_vblk.1 hb)
theorem mem_fps {L : List KInfo} {b : Nat} : b ∈ fps L ↔ ∃ (i : Nat) (x : KInfo), L[i]? = some x ∧ b ∈ x.fp := by
  unfold fps
  rw [List.mem_flatMap]
  constructor
  · rintro ⟨x, hx, hb⟩
    obtain ⟨i, hi⟩ := List.getElem?_of_mem hx
    exact ⟨i, x, hi, hb⟩
  · rintro ⟨i, x, hi, hb⟩
    exact ⟨x, List.mem_of_getElem? hi, hb⟩
theorem OwnT.lt {w : World} {fp : List Nat} {r : Rex} {v1 v2 : Value} (h : OwnT w fp r v1 v2) : ∀ b, b ∈ fp → b < w.heap.size := by
  induction h with
  | mk k s ks v1 v2 L hL hs hk hn hr nd ih =>
    intro b hb
    rcases List.mem_append.1 hb with hb | hb
    · exact (hs.lt b hb).2
    · rcases List.mem_append.1 hb with hb | hb
      · exact (hk.lt b (mem_vblk.1 hb)).2
      · obtain ⟨i, x, hx, hb⟩ := mem_fps.1 hb
        have hi := (List.getElem?_eq_some_iff.1 hx).1
        exact ih i (ks[i]'(by omega)) x (List.getElem?_eq_getElem _) hx b hb
theorem OwnK.lt {w : World} {fp : List Nat} {ks : List Rex} {v2 : Value} {L : List KInfo} (h : OwnK w fp ks v2 L) : ∀ b, b ∈ fp → b < w.heap.size := by
  intro b hb
  rw [h.fe] at hb
  rcases List.mem_append.1 hb with hb | hb
  · exact (h.hk.lt b (mem_vblk.1 hb)).2
  · obtain ⟨i, x, hx, hb⟩ := mem_fps.1 hb
    have hi := (List.getElem?_eq_some_iff.1 hx).1
    have hL := h.hL
    exact (h.hr i (ks[i]'(by omega)) x (List.getElem?_eq_getElem _) hx).lt b hb
/-- it stays where its blocks stay -/
theorem OwnSp.stay {w w1 : World} {base : Nat} {v : Value} {xs : List Sp} (h : OwnSp w base v xs) (hm : ∀ b, b ∈ vblk v → w1.heap[b]? = w.heap[b]?) : OwnSp w1 base v xs := ⟨own_move h.own fun k hk => hm k (mem_vblk.2 hk), h.len⟩
theorem OwnT.stay {w w' : World} {fp : List Nat} {r : Rex} {v1 v2 : Value} (h : OwnT w fp r v1 v2) (hm : ∀ b, b ∈ fp → w'.heap[b]? = w.heap[b]?) : OwnT w' fp r v1 v2 := by
  induction h with
  | mk k s ks v1 v2 L hL hs hk hn hr nd ih =>
    refine .mk k s ks v1 v2 L hL (hs.stay fun b hb => hm b (by simp [hb])) (own_move hk fun g hg => hm g (by simp [mem_vblk.2 hg])) hn (fun i r x hi hx => ih i r x hi hx fun b hb => hm b ?_) nd
    have := mem_fps.2 ⟨i, x, hx, hb⟩
    simp [this]
theorem OwnK.stay {w w' : World} {fp : List Nat} {ks : List Rex} {v2 : Value} {L : List KInfo} (h : OwnK w fp ks v2 L) (hm : ∀ b, b ∈ fp → w'.heap[b]? = w.heap[b]?) : OwnK w' fp ks v2 L := by
  obtain ⟨hL, hk, hn, hr, fe, nd⟩ := h
  refine ⟨hL, own_move hk fun g hg => hm g (by simp [fe, mem_vblk.2 hg]), hn, fun i r x hi hx => (hr i r x hi hx).stay fun b hb => hm b ?_, fe, nd⟩
  have := mem_fps.2 ⟨i, x, hx, hb⟩
  simp [fe, this]
theorem OwnT.under {w w' : World} {fp : List Nat} {r : Rex} {v1 v2 : Value} (h : OwnT w fp r v1 v2) (hb : Below w.heap.size w w') : OwnT w' fp r v1 v2 := h.stay fun b hf => hb.block b (h.lt b hf)
theorem OwnK.under {w w' : World} {fp : List Nat} {ks : List Rex} {v2 : Value} {L : List KInfo} (h : OwnK w fp ks v2 L) (hb : Below w.heap.size w w') : OwnK w' fp ks v2 L := h.stay fun b hf => hb.block b (h.lt b hf)

/-- what is owned is read -/
theorem OwnT.rexv {w : World} {fp : List Nat} {r : Rex} {v1 v2 : Value} (h : OwnT w fp r v1 v2) : ∀ lo, (∀ b, b ∈ fp → lo ≤ b) → RexV w lo r (.int .i64 r.kind) v1 v2 := by
  induction h with
  | mk k s ks v1 v2 L hL hs hk hn hr nd ih =>
    intro lo hlo
    have hs' : OwnSp w lo v1 s := by
      refine ⟨?_, hs.len⟩
      obtain ⟨h1, h2⟩ := hs.own
      refine ⟨h1, h2.imp id ?_⟩
      rintro ⟨g, cap, cur, rfl, hg, r⟩
      exact ⟨g, cap, cur, rfl, hlo g (by simp [vblk_some]), r⟩
    obtain ⟨A, c, rfl, sp⟩ := hs'.sps
    have hk' : w.ownsRow lo TRx 3 v2 ks.length (kcells ks L) := by
      obtain ⟨h1, h2⟩ := hk
      refine ⟨h1, h2.imp id ?_⟩
      rintro ⟨g, cap, cur, rfl, hg, r⟩
      exact ⟨g, cap, cur, rfl, hlo g (by simp [vblk_some]), r⟩
    obtain ⟨K, ck, rfl, hck, hrow⟩ := own_row hk'
    refine .mk k s ks A K c ck (fun i => .int .i64 (ks.getD i default).kind) (fun i => (L.getD i ⟨[], undef, undef⟩).v1) (fun i => (L.getD i ⟨[], undef, undef⟩).v2) sp hck hn (fun i hi => ?_) (fun i r hi => ?_)
    · have e1 : ks[i]? = some (ks.getD i default) := by simp [List.getD_eq_getElem?_getD, hi]
      have e2 : L[i]? = some (L.getD i ⟨[], undef, undef⟩) := by simp [List.getD_eq_getElem?_getD, show i < L.length by omega]
      obtain ⟨g0, g1, g2⟩ := kcells_get ks L i _ _ e1 e2 hL
      rcases hrow with h0 | ⟨a, rfl, ha, hc⟩
      · rw [h0] at g0; simp at g0
      · exact ⟨a, rfl, ha, hc _ _ g0, by rw [← add_field _ _ 1 (by omega)]; exact hc _ _ g1, by rw [← add_field _ _ 2 (by omega)]; exact hc _ _ g2⟩
    · have hi' := (List.getElem?_eq_some_iff.1 hi).1
      have e1 : ks.getD i default = r := by simp [List.getD_eq_getElem?_getD, hi]
      have e2 : L[i]? = some (L.getD i ⟨[], undef, undef⟩) := by simp [List.getD_eq_getElem?_getD, show i < L.length by omega]
      show RexV w lo r (.int .i64 (ks.getD i default).kind) _ _
      rw [e1]
      exact ih i r _ hi e2 lo fun b hb => hlo b (by have := mem_fps.2 ⟨i, _, e2, hb⟩; simp [this])
theorem OwnT.rex0 {w : World} {fp : List Nat} {r : Rex} {v1 v2 : Value} (h : OwnT w fp r v1 v2) : RexV w 0 r (.int .i64 r.kind) v1 v2 := h.rexv 0 fun _ _ => Nat.zero_le _
theorem OwnK.empty {w : World} : OwnK w [] [] nilS [] := ⟨rfl, World.ownsRow_nil _ _ _ _, by simp, fun i r x h => by simp at h, rfl, List.nodup_nil⟩

/-- all blocks but some are as they were -/
structure Touch (fp : List Nat) (w w' : World) : Prop where
  os : w'.os = w.os
  tape : w'.tape = w.tape
  output : w'.output = w.output
  size : w.heap.size ≤ w'.heap.size
  block : ∀ k, k < w.heap.size → k ∉ fp → w'.heap[k]? = w.heap[k]?
theorem Touch.refl (fp : List Nat) (w : World) : Touch fp w w := ⟨rfl, rfl, rfl, Nat.le_refl _, fun _ _ _ => rfl⟩
theorem Touch.trans {fp : List Nat} {w w' w'' : World} (h : Touch fp w w') (k : Touch fp w' w'') : Touch fp w w'' :=
  ⟨k.os.trans h.os, k.tape.trans h.tape, k.output.trans h.output, Nat.le_trans h.size k.size, fun i hi hf => (k.block i (Nat.lt_of_lt_of_le hi h.size) hf).trans (h.block i hi hf)⟩
theorem Touch.wide {fp fp' : List Nat} {w w' : World} (h : Touch fp w w') (hs : ∀ b, b ∈ fp → b ∈ fp') : Touch fp' w w' := ⟨h.os, h.tape, h.output, h.size, fun k hk hf => h.block k hk fun h2 => hf (hs k h2)⟩
theorem Touch.of_below {fp : List Nat} {w w' : World} (h : Below w.heap.size w w') : Touch fp w w' := ⟨h.os, h.tape, h.output, h.size, fun k hk _ => h.block k hk⟩
theorem Touch.of_grown {v : Value} {w w' : World} (h : w.grownBy w' v.ownBlock) : Touch (vblk v) w w' := ⟨h.os, h.tape, h.output, h.size, fun k hk hf => h.block k hk fun e => hf (mem_vblk.2 e.symm)⟩
theorem Touch.set {fp : List Nat} {w w' : World} (h : Touch fp w w') {p : Addr} (hp : p.block ∈ fp) (u : Value) : Touch fp w (w'.setCell p u) :=
  ⟨h.os, h.tape, h.output, by rw [World.size_setCell]; exact h.size, fun k hk hf => (Below.heap_setCell w' p u k (fun e => hf (e ▸ hp))).trans (h.block k hk hf)⟩
theorem Touch.below {fp : List Nat} {w w' : World} (h : Touch fp w w') {n : Nat} (hf : ∀ b, b ∈ fp → n ≤ b) (hn : n ≤ w.heap.size) : Below n w w' := ⟨h.os, h.tape, h.output, h.size, fun k hk => h.block k (by omega) fun h2 => by have := hf k h2; omega⟩
theorem Touch.rex {fp : List Nat} {w w' w0 : World} {lo : Nat} {r : Rex} {v0 v1 v2 : Value} (h : Touch fp w w') (hv : RexV w lo r v0 v1 v2) (hf : ∀ b, b ∈ fp → b < lo) : RexV w' lo r v0 v1 v2 :=
  hv.keep fun k hl hk => h.block k hk fun h2 => by have := hf k h2; omega

end Go.Proofs.Ytplhbjpkkhhilaa
