/- Texts joined for the claims: Bits W5 W6 W9 W10. -/
import Derived.Test.YtfeidjjabjejiaaGreatDoorG2
import Derived.Test.YtfeidjjabjejiaaGreatDoorG12
import Derived.Test.YtfeidjjabjejiaaGreatDoorG6
import Derived.Test.YtfeidjjabjejiaaGreatDoorG5
import Derived.Test.YtfeidjjabjejiaaGreatDoorG1
/- Sets as 256 bits in memory. -/
namespace Go.Proofs.YtfeidjjabjejiaaGreatDoor
set_option linter.unusedSimpArgs false
set_option linter.unusedVariables false
set_option maxRecDepth 100000
open Go.RowKit

/-! ### 256 bits -/
abbrev TBits : Nat := 146
def bitCells (f : Nat → Bool) : List Value := (List.range 256).map fun i => .bool (f i)
theorem bitCells_length (f : Nat → Bool) : (bitCells f).length = 256 := by simp [bitCells]
theorem bitCells_get (f : Nat → Bool) (i : Nat) (h : i < 256) : (bitCells f)[i]? = some (.bool (f i)) := by simp [bitCells, h]
theorem bitCells_congr {f g : Nat → Bool} (h : ∀ i, i < 256 → f i = g i) : bitCells f = bitCells g := by
  unfold bitCells
  exact List.map_congr_left fun i hi => by rw [h i (List.mem_range.1 hi)]
theorem bitCells_set (f : Nat → Bool) (k : Nat) (b : Bool) : (bitCells f).set k (.bool b) = bitCells fun i => if i = k then b else f i := by
  apply List.ext_getElem?
  intro j
  rw [List.getElem?_set]
  by_cases hj : j < 256
  · have e := bitCells_get (fun i => if i = k then b else f i) _ hj
    rw [e, bitCells_length]
    by_cases hk : k = j
    · subst hk
      simp [hj]
    · rw [if_neg hk, bitCells_get _ _ hj, if_neg (fun e => hk e.symm)]
  · rw [List.getElem?_eq_none (by rw [bitCells_length]; omega : (bitCells fun i => if i = k then b else f i).length ≤ j), bitCells_length, List.getElem?_eq_none (by rw [bitCells_length]; omega : (bitCells f).length ≤ j)]
    split
    · rw [if_neg (by omega)]
    · rfl
theorem bitCells_one (f : Nat → Bool) : ∀ u ∈ bitCells f, u.oneCell' = true := by
  intro u hu
  obtain ⟨i, _, rfl⟩ := List.mem_map.1 hu
  rfl
theorem infoBits : (Tryz.prog.info? TBits).map (·.zero) = some (some (.agg (bitCells fun _ => false).toArray)) := by kernel_rfl
theorem sizeBits : (Tryz.prog.info? TBits).map (·.size) = some 256 := by kernel_rfl
theorem uBits : Tryz.prog.underlying TBits = some (.array 256 4) := Tryz.underlying146
theorem sizeBits' (f : Nat → Bool) : (Tryz.prog.info? TBits).map (·.size) = some (bitCells f).length := by rw [sizeBits, bitCells_length]
/-- an element of such a value -/
theorem run_index_bits (f : Nat → Bool) (k : Nat) (hk : k < 256) (w : World) : (Instr.index TBits (.agg (bitCells f).toArray) (.int .i64 k)).run Tryz.prog w = .ok (.bool (f k)) w := by
  have hu : Tryz.prog.underlying TBits = some (.array 256 4) := Tryz.underlying146
  obtain ⟨i, hi, hz⟩ := Option.map_eq_some_iff.1 (show (Tryz.prog.info? 4).map (·.size) = some 1 by kernel_rfl)
  simp [Instr.index, asIntOf, run_underlying hu, hk, sizeOf, typeInfo, hi, hz, part, isAgg, run_underlying Tryz.underlying4, bitCells_get f k hk]

end Go.Proofs.YtfeidjjabjejiaaGreatDoor

/- bitsOf: the bits of a set. -/
namespace Go.Proofs.YtfeidjjabjejiaaGreatDoor
set_option linter.unusedSimpArgs false
set_option linter.unusedVariables false
set_option maxRecDepth 100000
open Go.RowKit

theorem bit_cell {w : World} {g : Nat} {f : Nat → Bool} (h : Blk w g (bitCells f).toArray TBits) (k : Nat) (hk : k < 256) : w.cell? ⟨g, k, none⟩ = some (.bool (f k)) := by
  rw [h.cell]
  simpa using bitCells_get f k hk
theorem bit_set {w : World} {g : Nat} {f : Nat → Bool} (h : Blk w g (bitCells f).toArray TBits) (k : Nat) (b : Bool) : Blk (w.setCell ⟨g, k, none⟩ (.bool b)) g (bitCells fun i => if i = k then b else f i).toArray TBits := by
  have := h.set k (.bool b)
  rw [show (bitCells f).toArray.setIfInBounds k (.bool b) = ((bitCells f).set k (.bool b)).toArray by simp, bitCells_set] at this
  exact this

set_option maxHeartbeats 1000000 in
set_option maxRecDepth 100000 in
theorem bitsOf_c (A : Option Addr) (c : Nat) (xs : List Sp) (w : World) {lo : Nat} (h : Sps w lo A c xs) :
    Calls Tryz.prog 162 #[.slice A xs.length c] w fun e w' => e = .returned (.agg (bitCells fun i => setHas xs i).toArray) ∧ Below w.heap.size w w' := by
  go_enter Tryz.func162, Tryz.ntmps162
  go_wp2_with (first
    | (with_reducible refine ev_alloc (o := ⟨some 2, _, _, _, _, _⟩) rfl TBits rfl _ infoBits ?_; rintro _ w2 rfl hB2 hb2)
    | (with_reducible refine ev_alloc (o := ⟨some 3, _, _, _, _, _⟩) rfl TBits rfl _ infoBits ?_; rintro _ w3 rfl hB3 hb3))
  have HR : Hid (Blk w3 w.heap.size (bitCells fun _ => false).toArray TBits) := hB2.below hb3
  have HB : Hid (Below w.heap.size w w3) := below_then hb2 hb3
  have HO : Hid (Blk w3 w2.heap.size (bitCells fun _ => false).toArray TBits) := hB3
  have hlt := hB2.lt
  clear hB2 hB3 hb2 hb3
  go_loopg [5] 256 (fun n i wr => ∃ k : Nat, Hid (k + n = 256) ∧ i = .int .i64 k ∧ ∃ f : Nat → Bool, Hid (Blk wr w2.heap.size (bitCells f).toArray TBits) ∧ Hid (∀ j, j < k → f j = setHas xs j) ∧ Hid (Blk wr w.heap.size (bitCells fun _ => false).toArray TBits) ∧ Hid (Below w.heap.size w wr))
  case atStart => exact ⟨0, rfl, rfl, _, HO, fun j hj => absurd hj (Nat.not_lt_zero _), HR, HB⟩
  case round =>
    clear HO HR HB
    obtain ⟨k, hk, rfl, f, HO, HF, HR, HB⟩ := hrel
    by_cases hk2 : k < 256
    · go_wp2_with fail
      refine (iSetHas_c _ _ _ _ _ (h.below HB.out)).mono ?_
      rintro e w4 ⟨rfl, hb⟩
      have HO2 : Hid _ := HO.out.below hb
      have HR2 : Hid _ := HR.out.below hb
      have HB2 : Hid _ := below_then HB.out hb
      have c0 := bit_cell HO2.out k hk2
      have f0 := HO2.out.free k
      clear HO HR HB hb
      go_wp2
      go_roundg (gk - 1)
      case rel =>
        refine ⟨k + 1, by have := hk.out; show _ = _; omega, by go_num, _, bit_set HO2.out k _, ?_, HR2.out.far (by simp; omega) _, below_set HB2.out (by simp; omega) _⟩
        intro j hj
        by_cases e : j = k
        · rw [if_pos e, e]
        · rw [if_neg e]
          exact HF.out j (by omega)
      case measure => have := hk.out; omega
    · have hF : bitCells f = bitCells fun i => setHas xs i := bitCells_congr fun i hi => HF.out i (by omega)
      go_wp2_with (first
        | (with_reducible (with_reducible refine at_ld 14 ?_); refine ev_load (o := ⟨some 14, _, _, _, _, _⟩) rfl TBits _ rfl w2.heap.size rfl (bitCells f) TBits HO.out _ uBits rfl (sizeBits' f) ?_)
        | (with_reducible refine ev_store (o := ⟨none, _, _, _, _, _⟩) rfl rfl TBits (.tmp 2) (.tmp 14) rfl w.heap.size 0 rfl (bitCells f) rfl (bitCells fun _ => false).toArray TBits HR.out (sizeBits' f) (by simp [bitCells_length]) (bitCells_one f) ?_; intro w5 hs hg))
      have hs' : Blk w5 w.heap.size (bitCells fun i => setHas xs i).toArray TBits := by
        rw [← hF]
        rw [List.take_zero, List.nil_append, List.drop_of_length_le (by rw [bitCells_length, bitCells_length]; omega), List.append_nil] at hs
        exact hs
      exact bodyPost_ret (results_cell_row rfl _ _ w.heap.size TBits _ (0, 0) _ rfl hs'.eq uBits rfl (by rw [sizeBits]; simp [bitCells_length])) rfl ⟨rfl, HB.out.grown hg HB.out.size (fun k hk => by injection hk with hk; omega)⟩

end Go.Proofs.YtfeidjjabjejiaaGreatDoor

/- spans: the set of bits. -/
namespace Go.Proofs.YtfeidjjabjejiaaGreatDoor
set_option linter.unusedSimpArgs false
set_option linter.unusedVariables false
set_option maxRecDepth 100000
open Go.RowKit

set_option maxRecDepth 100000 in
set_option maxHeartbeats 2000000 in
theorem spans_c (f : Nat → Bool) (w : World) :
    Calls Tryz.prog 163 #[.agg (bitCells f).toArray] w fun e w' => ∃ v, e = .returned v ∧ OwnSp w' w.heap.size v (spansOf f) ∧ Below w.heap.size w w' := by
  obtain ⟨i0, hi, hz0, hz1, hz2⟩ := info_parts infoSp
  go_enter Tryz.func163, Tryz.ntmps163
  go_wp2_with (first
    | (with_reducible refine ev_box (o := ⟨some 1, _, _, _, _, _⟩) rfl TBits (.tmp 0) rfl _ rfl ?_; rintro _ w1 rfl hX hb1)
    | (with_reducible (with_reducible refine at_ld 6 ?_); refine ev_load (o := ⟨some 6, _, _, _, _, _⟩) rfl TBits _ rfl w.heap.size rfl (bitCells f) TBits hX _ uBits rfl (sizeBits' f) ?_))
  have HX : Hid (Blk w1 w.heap.size (bitCells f).toArray TBits) := hX
  have HB : Hid (Below w.heap.size w w1) := hb1
  have hlt := hX.lt
  clear hX hb1
  go_loopg [3, 7] 256 (fun n v i wr => ∃ k : Nat, Hid (k + n = 256) ∧ i = .int .i64 k ∧ Hid (OwnSp wr (w.heap.size + 1) v (spansTo f k)) ∧ Hid (Blk wr w.heap.size (bitCells f).toArray TBits) ∧ Hid (Below w.heap.size w wr))
  case atStart => exact ⟨0, rfl, rfl, OwnSp.nil _ _, HX, HB⟩
  case round =>
    clear HX HB
    obtain ⟨k, hk, rfl, HO, HX, HB⟩ := hrel
    by_cases hk2 : k < 256
    · have hix := fun wx => run_index_bits f k hk2 wx
      have hlen := spansTo_length f k
      by_cases hf : f k = true
      · rw [hf] at hix
        by_cases hp : 0 < k ∧ f (k - 1) = true
        · obtain ⟨x, hx1, hx2, _, hx4⟩ := spansTo_ext hf hp.1 hp.2 (by omega)
          obtain ⟨g, cap, rfl, hg, _⟩ := own_form HO.out.own hx2
          obtain ⟨x', HX', c0, c1, f0, f1⟩ := HO.out.cells ((spansTo f k).length - 1) (by omega)
          obtain rfl : x = x' := by
            have := HX'.out
            rw [hx1] at this
            exact Option.some.inj this
          have c2 := bit_cell HX.out (k - 1) (by omega)
          rw [hp.2] at c2
          have d4 : decide (0 < k) = true := decide_eq_true hp.1
          have E : Hid (spansTo f (k + 1) = (spansTo f k).set ((spansTo f k).length - 1) ⟨x.lo, k⟩) := hx4
          have k1 : 1 ≤ k := hp.1
          have HX1 : Hid (_ = _) := hx1
          clear hf hp hx1 hx4 HX'
          go_wp2
          go_roundg (gk - 1)
          case rel => exact ⟨k + 1, by have := hk.out; show _ = _; omega, by go_num, by rw [E.out]; exact HO.out.setHi _ x HX1.out _, HX.out.far (by simp; omega) _, below_set HB.out (by simp; omega) _⟩
          case measure => have := hk.out; omega
        · have hp' : k = 0 ∨ f (k - 1) = false := by
            rcases Nat.eq_zero_or_pos k with h0 | h0
            · exact .inl h0
            · exact .inr (by simpa using fun h => hp ⟨h0, h⟩)
          have E : Hid (spansTo f (k + 1) = spansTo f k ++ [⟨k, k⟩]) := spansTo_new hf hp'
          have A1 : ∀ wx : World, OwnSp wx (w.heap.size + 1) u3 (spansTo f k) → wx.ownsRow (w.heap.size + 1) TSp 2 u3 (spansTo f k).length (spcs (spansTo f k)) := fun wx h => h.own
          have hsz : w.heap.size + 1 ≤ wr.heap.size := by have := HX.out.lt; omega
          clear hp hf
          rcases hp' with h0 | h0
          · have d4 : decide (0 < k) = false := decide_eq_false (by omega)
            have HH : Hid (k = 0) := h0
            clear h0
            go_wp2_with (at_builtin; refine wpList_append_own _ rfl (.tmp 11) (.tmp 15) 23 rfl (w.heap.size + 1) TSp i0 (.agg #[.int .i64 0, .int .i64 0]) 2 16 Tryz.underlying23 hi hz0 hz1 hz2 rfl (by decide) u3 _ _ rfl (HO.out.own.alloc _) ⟨wr.heap.size, 0, none⟩ 1 1 [.int .i64 k, .int .i64 k] rfl rfl (new_cells wr [.int .i64 k, .int .i64 k] TSp) (two_one _ _) (by unfold maxLen; omega) (by omega) (by simp; omega) ?_; intro v' w2 hown' hgrow _)
            have hbs := own_base HO.out.own
            go_roundg (gk - 1)
            case rel => exact ⟨k + 1, by have := hk.out; show _ = _; omega, by go_num, by rw [E.out]; exact OwnSp.snoc hown', (HX.out.alloc _).grown hgrow (fun q hq => by have := (hbs q hq).1; omega), (below_alloc HB.out _).grown hgrow (by simp; omega) (fun q hq => by have := (hbs q hq).1; omega)⟩
            case measure => have := hk.out; omega
          · by_cases hk0 : k = 0
            · have d4 : decide (0 < k) = false := decide_eq_false (by omega)
              have HH : Hid (k = 0) := hk0
              clear h0 hk0
              go_wp2_with (at_builtin; refine wpList_append_own _ rfl (.tmp 11) (.tmp 15) 23 rfl (w.heap.size + 1) TSp i0 (.agg #[.int .i64 0, .int .i64 0]) 2 16 Tryz.underlying23 hi hz0 hz1 hz2 rfl (by decide) u3 _ _ rfl (HO.out.own.alloc _) ⟨wr.heap.size, 0, none⟩ 1 1 [.int .i64 k, .int .i64 k] rfl rfl (new_cells wr [.int .i64 k, .int .i64 k] TSp) (two_one _ _) (by unfold maxLen; omega) (by omega) (by simp; omega) ?_; intro v' w2 hown' hgrow _)
              have hbs := own_base HO.out.own
              go_roundg (gk - 1)
              case rel => exact ⟨k + 1, by have := hk.out; show _ = _; omega, by go_num, by rw [E.out]; exact OwnSp.snoc hown', (HX.out.alloc _).grown hgrow (fun q hq => by have := (hbs q hq).1; omega), (below_alloc HB.out _).grown hgrow (by simp; omega) (fun q hq => by have := (hbs q hq).1; omega)⟩
              case measure => have := hk.out; omega
            · have d4 : decide (0 < k) = true := decide_eq_true (by omega)
              have c2 := bit_cell HX.out (k - 1) (by omega)
              rw [h0] at c2
              have k1 : 1 ≤ k := by omega
              clear h0 hk0
              go_wp2_with (at_builtin; refine wpList_append_own _ rfl (.tmp 11) (.tmp 15) 23 rfl (w.heap.size + 1) TSp i0 (.agg #[.int .i64 0, .int .i64 0]) 2 16 Tryz.underlying23 hi hz0 hz1 hz2 rfl (by decide) u3 _ _ rfl (HO.out.own.alloc _) ⟨wr.heap.size, 0, none⟩ 1 1 [.int .i64 k, .int .i64 k] rfl rfl (new_cells wr [.int .i64 k, .int .i64 k] TSp) (two_one _ _) (by unfold maxLen; omega) (by omega) (by simp; omega) ?_; intro v' w2 hown' hgrow _)
              have hbs := own_base HO.out.own
              go_roundg (gk - 1)
              case rel => exact ⟨k + 1, by have := hk.out; show _ = _; omega, by go_num, by rw [E.out]; exact OwnSp.snoc hown', (HX.out.alloc _).grown hgrow (fun q hq => by have := (hbs q hq).1; omega), (below_alloc HB.out _).grown hgrow (by simp; omega) (fun q hq => by have := (hbs q hq).1; omega)⟩
              case measure => have := hk.out; omega
      · have hf' : f k = false := by simpa using hf
        rw [hf'] at hix
        have E : Hid (spansTo f (k + 1) = spansTo f k) := spansTo_no hf'
        clear hf hf'
        go_wp2
        go_roundg (gk - 1)
        case rel => exact ⟨k + 1, by have := hk.out; show _ = _; omega, by go_num, by rw [E.out]; exact HO, HX, HB⟩
        case measure => have := hk.out; omega
    · have HK : Hid (k = 256) := by have := hk.out; show _ = _; omega
      obtain ⟨A, c, rfl, hs⟩ := HO.out.sps
      have hlen := spansTo_length f k
      have hl2 : (spansTo f k).length ≤ 256 := by have := HK.out; omega
      go_wp2_with (go_at_call 107; refine (copiedSpan_c A c _ (spcs (spansTo f k)) _ hs.row (spcs_length _) (spcs_one _) (by omega)).mono ?_; rintro e w4 ⟨v4, rfl, o4, b4⟩)
      go_ret
      have := HK.out
      subst this
      exact ⟨_, rfl, ⟨own_lower o4 HB.out.size, by show (spansTo f 256).length ≤ _; unfold maxN; omega⟩, below_then HB.out b4⟩

end Go.Proofs.YtfeidjjabjejiaaGreatDoor

/- spec.l1Of: the spans of 256 marks. -/
namespace Go.Proofs.YtfeidjjabjejiaaGreatDoor
set_option linter.unusedSimpArgs false
set_option linter.unusedVariables false
set_option maxRecDepth 100000
open Go.RowKit

theorem bitr_cell {w : World} {g t : Nat} {f : Nat → Bool} (h : Blk w g (bitCells f).toArray t) (k : Nat) (hk : k < 256) : w.cell? ⟨g, k, none⟩ = some (.bool (f k)) := by
  rw [h.cell]
  simpa using bitCells_get f k hk
theorem bitr_set {w : World} {g t : Nat} {f : Nat → Bool} (h : Blk w g (bitCells f).toArray t) (k : Nat) (b : Bool) : Blk (w.setCell ⟨g, k, none⟩ (.bool b)) g (bitCells fun i => if i = k then b else f i).toArray t := by
  have := h.set k (.bool b)
  rw [show (bitCells f).toArray.setIfInBounds k (.bool b) = ((bitCells f).set k (.bool b)).toArray by simp, bitCells_set] at this
  exact this
theorem spansTo_hi {f : Nat → Bool} {n : Nat} (hn : n ≤ 256) {x : Sp} (hl : 0 < (spansTo f n).length) (hx : (spansTo f n)[(spansTo f n).length - 1]? = some x) :
    0 ≤ x.hi ∧ x.hi ≤ 255 ∧ (x.hi = (n : Int) - 1 → 0 < n ∧ f (n - 1) = true) := by
  have h := upto_spans f n hn
  have hlast : (spansTo f n).getLast? = some x := by rw [List.getLast?_eq_getElem?]; exact hx
  have b := setOk_last h.ok hlast
  refine ⟨by omega, b.2.2, fun e => ?_⟩
  obtain ⟨ys, hys⟩ := List.getLast?_eq_some_iff.1 hlast
  have hin : setHas (spansTo f n) x.hi = true := by
    rw [hys, setHas_append]
    simp [setHas_cons, spIn]
    right; omega
  obtain ⟨k, hk, hf, hke⟩ := (h.has _).1 hin
  obtain rfl : k = n - 1 := by omega
  exact ⟨by omega, hf⟩
theorem own_empty (w : World) : OwnSp (w.alloc (.cells #[] TSp)) w.heap.size (.slice (some ⟨w.heap.size, 0, none⟩) 0 0) [] :=
  ⟨own_of_blk (cs := []) (n := 0) (blk_new w #[] TSp) (by simp) (Nat.le_refl _) (by decide), by simp⟩

set_option maxRecDepth 100000 in
set_option maxHeartbeats 2000000 in
theorem sl1Of_c (f : Nat → Bool) (g : Nat) (w : World) (h : Blk w g (bitCells f).toArray 4) :
    Calls Tryz.prog 173 #[.slice (some ⟨g, 0, none⟩) 256 256] w fun e w' => ∃ v, e = .returned v ∧ OwnSp w' w.heap.size v (spansOf f) ∧ Below w.heap.size w w' := by
  obtain ⟨i0, hi, hz0, hz1, hz2⟩ := info_parts infoSp
  have HO := Lib.hid (own_empty w)
  have HB := Lib.hid (below_alloc (Below.refl w.heap.size w) (.cells #[] TSp))
  have HX := Lib.hid h
  clear h
  go_enter Tryz.func173, Tryz.ntmps173
  go_wp2
  go_loopg [3, 4] 256 (fun n v i wr => ∃ k : Nat, Hid (k + n = 256) ∧ i = .int .i64 k ∧ Hid (OwnSp wr w.heap.size v (spansTo f k)) ∧ Hid (Below w.heap.size w wr))
  case atStart => exact ⟨0, rfl, rfl, HO, HB⟩
  case round =>
    clear HO HB
    obtain ⟨k, hk, rfl, HO, HB⟩ := hrel
    by_cases hk2 : k < 256
    · have c2 := bitr_cell (HX.out.below HB.out) k hk2
      have hlen := spansTo_length f k
      by_cases hf : f k = true
      · rw [hf] at c2
        have e0 : IntKind.i64.wrap ((k : Int) - 1) = (k : Int) - 1 := IntWalk.i64_in _ (by omega)
        by_cases hl : 0 < (spansTo f k).length
        · obtain ⟨g', cap, rfl, hg, _⟩ := own_form HO.out.own hl
          obtain ⟨x, HX1, c0, c1, f0, f1⟩ := HO.out.cells ((spansTo f k).length - 1) (by omega)
          have hh := spansTo_hi (f := f) (n := k) (by omega) hl HX1.out
          have d4 : decide (0 < (spansTo f k).length) = true := decide_eq_true hl
          have e1 : IntKind.i64.wrap (((spansTo f k).length : Int) - 1) = ((spansTo f k).length : Int) - 1 := IntWalk.i64_in _ (by omega)
          have e2 : (0 : Int) ≤ ((spansTo f k).length : Int) - 1 := by omega
          have e3 : ((spansTo f k).length : Int) - 1 < ((spansTo f k).length : Int) := by omega
          have e4 : (((spansTo f k).length : Int) - 1).toNat = (spansTo f k).length - 1 := by omega
          have e5 : (1 : Int) ≤ ((spansTo f k).length : Int) := by omega
          by_cases hx : x.hi = (k : Int) - 1
          · have hp := hh.2.2 hx
            obtain ⟨y, hy1, _, _, hy4⟩ := spansTo_ext hf hp.1 hp.2 (by omega)
            obtain rfl : x = y := by
              have := HX1.out
              rw [hy1] at this
              exact (Option.some.inj this).symm
            have E : Hid (spansTo f (k + 1) = (spansTo f k).set ((spansTo f k).length - 1) ⟨x.lo, k⟩) := hy4
            have d5 : (x.hi == (k : Int) - 1) = true := by rw [hx]; simp
            clear hf hp hy1 hy4 hh hx hl
            go_wp2
            go_roundg (gk - 1)
            case rel => exact ⟨k + 1, by have := hk.out; show _ = _; omega, by go_num, by rw [E.out]; exact HO.out.setHi _ x HX1.out _, below_set HB.out (by simp; omega) _⟩
            case measure => have := hk.out; omega
          · have hp' : k = 0 ∨ f (k - 1) = false := by
              rcases Nat.eq_zero_or_pos k with h0 | h0
              · exact .inl h0
              · refine .inr ?_
                rw [Bool.eq_false_iff]
                intro hc
                obtain ⟨y, hy1, _, hy3, _⟩ := spansTo_ext hf h0 hc (by omega)
                have := HX1.out
                rw [hy1] at this
                obtain rfl := Option.some.inj this
                exact hx hy3
            have E : Hid (spansTo f (k + 1) = spansTo f k ++ [⟨k, k⟩]) := spansTo_new hf hp'
            have d5 : (x.hi == (k : Int) - 1) = false := by simp [hx]
            have hsz := HB.out.size
            clear hf hp' hh hx hl
            go_wp2_with (at_builtin; refine wpList_append_own _ rfl (.tmp 37) (.tmp 41) 23 rfl w.heap.size TSp i0 (.agg #[.int .i64 0, .int .i64 0]) 2 16 Tryz.underlying23 hi hz0 hz1 hz2 rfl (by decide) _ _ _ rfl (HO.out.own.alloc _) ⟨wr.heap.size, 0, none⟩ 1 1 [.int .i64 k, .int .i64 k] rfl rfl (new_cells wr [.int .i64 k, .int .i64 k] TSp) (two_one _ _) (by unfold maxLen; omega) (by omega) (by simp; omega) ?_; intro v' w2 hown' hgrow _)
            have hbs := own_base HO.out.own
            go_roundg (gk - 1)
            case rel => exact ⟨k + 1, by have := hk.out; show _ = _; omega, by go_num, by rw [E.out]; exact OwnSp.snoc hown', (below_alloc HB.out _).grown hgrow (by simp; omega) (fun q hq => by have := (hbs q hq).1; omega)⟩
            case measure => have := hk.out; omega
        · have hsz := HB.out.size
          have h0 : (spansTo f k).length = 0 := by omega
          have hp' : k = 0 ∨ f (k - 1) = false := by
            rcases Nat.eq_zero_or_pos k with h0' | h0'
            · exact .inl h0'
            · refine .inr ?_
              rw [Bool.eq_false_iff]
              intro hc
              obtain ⟨y, _, hy2, _, _⟩ := spansTo_ext hf h0' hc (by omega)
              omega
          have E : Hid (spansTo f (k + 1) = spansTo f k ++ [⟨k, k⟩]) := spansTo_new hf hp'
          obtain ⟨A, c, rfl, _⟩ := HO.out.sps
          have d4 : decide (0 < (spansTo f k).length) = false := decide_eq_false hl
          have HH := Lib.hid h0
          clear hf hp' hl h0
          go_wp2_with (at_builtin; refine wpList_append_own _ rfl (.tmp 37) (.tmp 41) 23 rfl w.heap.size TSp i0 (.agg #[.int .i64 0, .int .i64 0]) 2 16 Tryz.underlying23 hi hz0 hz1 hz2 rfl (by decide) _ _ _ rfl (HO.out.own.alloc _) ⟨wr.heap.size, 0, none⟩ 1 1 [.int .i64 k, .int .i64 k] rfl rfl (new_cells wr [.int .i64 k, .int .i64 k] TSp) (two_one _ _) (by unfold maxLen; omega) (by omega) (by simp; omega) ?_; intro v' w2 hown' hgrow _)
          have hbs := own_base HO.out.own
          go_roundg (gk - 1)
          case rel => exact ⟨k + 1, by have := hk.out; show _ = _; omega, by go_num, by rw [E.out]; exact OwnSp.snoc hown', (below_alloc HB.out _).grown hgrow (by simp; omega) (fun q hq => by have := (hbs q hq).1; omega)⟩
          case measure => have := hk.out; omega
      · have hf' : f k = false := by simpa using hf
        rw [hf'] at c2
        have E : Hid (spansTo f (k + 1) = spansTo f k) := spansTo_no hf'
        clear hf hf'
        go_wp2
        go_roundg (gk - 1)
        case rel => exact ⟨k + 1, by have := hk.out; show _ = _; omega, by go_num, by rw [E.out]; exact HO, HB⟩
        case measure => have := hk.out; omega
    · have HK : Hid (k = 256) := by have := hk.out; show _ = _; omega
      go_wp2
      go_ret
      have := HK.out
      subst this
      exact ⟨_, rfl, HO.out, HB.out⟩

end Go.Proofs.YtfeidjjabjejiaaGreatDoor

/- SetJoin, SetMeet, SetNot of the reference. (Printed by wip/gen/specops.py.) -/
namespace Go.Proofs.YtfeidjjabjejiaaGreatDoor
set_option linter.unusedSimpArgs false
set_option linter.unusedVariables false
set_option maxRecDepth 100000
open Go.RowKit

abbrev TB : Nat := 4
theorem infoBool : (Tryz.prog.info? TB).map (fun i => (i.zero, i.size, i.bytes)) = some (some (.bool false), 1, 1) := by kernel_rfl
theorem own_bits {w : World} {base g : Nat} (h : w.ownsRow base TB 1 (.slice (some ⟨g, 0, none⟩) 256 256) 256 (madeCells (Value.bool false).cells (256 * 1)).toList) : Blk w g (bitCells fun _ => false).toArray TB := by
  obtain ⟨cur, hb, hs, _, _, _, ht⟩ := own_blk h
  have e : cur = (bitCells fun _ => false).toArray := by
    apply Array.toList_inj.1
    rw [List.take_of_length_le (by rw [Array.length_toList, hs]; exact Nat.le_refl _)] at ht
    rw [ht]
    apply List.ext_getElem?
    intro j
    by_cases hj : j < 256
    · rw [bitCells_get _ _ hj]
      simp [madeCells, Value.cells, hj, Nat.mod_one]
    · rw [List.getElem?_eq_none (by simp [madeCells]; omega), List.getElem?_eq_none (by simp [bitCells_length]; omega)]
  rw [← e]; exact hb

set_option maxRecDepth 100000 in
set_option maxHeartbeats 2000000 in
theorem sSetJoin_c (A B : Option Addr) (c d : Nat) (xs ys : List Sp) (w : World) {lo lo' : Nat} (h : Sps w lo A c xs) (h' : Sps w lo' B d ys) :
    Calls Tryz.prog 158 #[.slice A xs.length c, .slice B ys.length d] w fun e w' => ∃ v, e = .returned v ∧ OwnSp w' w.heap.size v (setJoin xs ys) ∧ Below w.heap.size w w' := by
  obtain ⟨i0, hi, hz0, hz1, hz2⟩ := info_parts infoBool
  go_enter Tryz.func158, Tryz.ntmps158
  go_wp2_with (at_make; refine wpList_make_full _ rfl _ _ 153 rfl w.heap.size TB i0 (.bool false) 1 Tryz.underlying153 hi hz0 hz1 .i64 .i64 _ _ 256 rfl rfl rfl rfl (by rw [hz2]; omega) (by unfold maxLen; omega) (Nat.le_refl _) ?_; intro w1 hown hgrow)
  have HX := Lib.hid (own_bits hown)
  have HB := Lib.hid ((Below.refl _ w).grown hgrow (Nat.le_refl _) (fun k hk => by cases hk))
  clear hown hgrow hi hz0 hz1 hz2
  go_loopg [6] 256 (fun n i wr => ∃ k : Nat, Hid (k + n = 256) ∧ i = .int .i64 k ∧ ∃ f : Nat → Bool, Hid (Blk wr w.heap.size (bitCells f).toArray TB) ∧ Hid (∀ j, j < k → f j = (setHas xs j || setHas ys j)) ∧ Hid (Below w.heap.size w wr))
  case atStart => exact ⟨0, rfl, rfl, _, HX, fun j hj => absurd hj (Nat.not_lt_zero _), HB⟩
  case round =>
    clear HX HB
    obtain ⟨k, hk, rfl, f, HX, HF, HB⟩ := hrel
    by_cases hk2 : k < 256
    · by_cases hf : setHas xs k = true
      · skip
        have G1 : Hid (setHas xs k = true) := hf
        go_wp2_with fail
        refine (sSetHas_c _ _ _ _ _ (h.below HB.out)).mono ?_
        rintro e w2 ⟨rfl, d2⟩
        replace HB := Lib.hid (below_then HB.out d2.below)
        replace HX := Lib.hid (HX.out.below d2.below)
        clear d2
        rw [G1.out]
        clear hf
        have G : Hid ((setHas xs k || setHas ys k) = true) := by show _ = _; simp [G1.out]
        have c0 := bitr_cell HX.out k hk2
        have f0 := HX.out.free k
        go_wp2
        go_roundg (gk - 1)
        case rel =>
          refine ⟨k + 1, by have := hk.out; show _ = _; omega, by go_num, _, bitr_set HX.out k _, ?_, below_set HB.out (Nat.le_refl _) _⟩
          intro j hj
          by_cases e : j = k
          · subst e; simp [G.out]
          · rw [if_neg e]
            exact HF.out j (by omega)
        case measure => have := hk.out; omega
      · replace hf : setHas xs k = false := by simpa using hf
        have G1 : Hid (setHas xs k = false) := hf
        go_wp2_with fail
        refine (sSetHas_c _ _ _ _ _ (h.below HB.out)).mono ?_
        rintro e w2 ⟨rfl, d2⟩
        replace HB := Lib.hid (below_then HB.out d2.below)
        replace HX := Lib.hid (HX.out.below d2.below)
        clear d2
        rw [G1.out]
        clear hf
        by_cases hf2 : setHas ys k = true
        · skip
          have G2 : Hid (setHas ys k = true) := hf2
          go_wp2_with fail
          refine (sSetHas_c _ _ _ _ _ (h'.below HB.out)).mono ?_
          rintro e w3 ⟨rfl, d2⟩
          replace HB := Lib.hid (below_then HB.out d2.below)
          replace HX := Lib.hid (HX.out.below d2.below)
          clear d2
          rw [G2.out]
          clear hf2
          have G : Hid ((setHas xs k || setHas ys k) = true) := by show _ = _; simp [G1.out, G2.out]
          have c0 := bitr_cell HX.out k hk2
          have f0 := HX.out.free k
          go_wp2
          go_roundg (gk - 1)
          case rel =>
            refine ⟨k + 1, by have := hk.out; show _ = _; omega, by go_num, _, bitr_set HX.out k _, ?_, below_set HB.out (Nat.le_refl _) _⟩
            intro j hj
            by_cases e : j = k
            · subst e; simp [G.out]
            · rw [if_neg e]
              exact HF.out j (by omega)
          case measure => have := hk.out; omega
        · replace hf2 : setHas ys k = false := by simpa using hf2
          have G2 : Hid (setHas ys k = false) := hf2
          go_wp2_with fail
          refine (sSetHas_c _ _ _ _ _ (h'.below HB.out)).mono ?_
          rintro e w3 ⟨rfl, d2⟩
          replace HB := Lib.hid (below_then HB.out d2.below)
          replace HX := Lib.hid (HX.out.below d2.below)
          clear d2
          rw [G2.out]
          clear hf2
          have G : Hid ((setHas xs k || setHas ys k) = false) := by show _ = _; simp [G1.out, G2.out]
          have c0 := bitr_cell HX.out k hk2
          have f0 := HX.out.free k
          go_wp2
          go_roundg (gk - 1)
          case rel =>
            refine ⟨k + 1, by have := hk.out; show _ = _; omega, by go_num, _, bitr_set HX.out k _, ?_, below_set HB.out (Nat.le_refl _) _⟩
            intro j hj
            by_cases e : j = k
            · subst e; simp [G.out]
            · rw [if_neg e]
              exact HF.out j (by omega)
          case measure => have := hk.out; omega
    · by_cases ho : setOk xs = true
      · have O1 : Hid (setOk xs = true) := ho
        go_wp2_with fail
        refine (sSetOk_c _ _ _ _ (h.below HB.out)).mono ?_
        rintro e w5 ⟨rfl, d2⟩
        replace HB := Lib.hid (below_then HB.out d2.below)
        replace HX := Lib.hid (HX.out.below d2.below)
        clear d2
        rw [O1.out]
        clear ho
        by_cases ho2 : setOk ys = true
        · have O2 : Hid (setOk ys = true) := ho2
          go_wp2_with fail
          refine (sSetOk_c _ _ _ _ (h'.below HB.out)).mono ?_
          rintro e w6 ⟨rfl, d2⟩
          replace HB := Lib.hid (below_then HB.out d2.below)
          replace HX := Lib.hid (HX.out.below d2.below)
          clear d2
          rw [O2.out]
          clear ho2
          have E : Hid (setJoin xs ys = spansOf fun j => setHas xs j || setHas ys j) := by show _ = _; simp [setJoin, O1.out, O2.out]
          go_wp2_with fail
          refine (sl1Of_c f _ _ HX.out).mono ?_
          rintro e w9 ⟨v9, rfl, o9, b9⟩
          go_wp2
          go_ret
          refine ⟨_, rfl, ?_, below_then HB.out b9⟩
          rw [E.out, spansOf_congr (fun i hi => (HF.out i (by omega)).symm)]
          exact o9.lower HB.out.size
        · have O2 : Hid (setOk ys = false) := by show _ = _; simpa using ho2
          go_wp2_with fail
          refine (sSetOk_c _ _ _ _ (h'.below HB.out)).mono ?_
          rintro e w6 ⟨rfl, d2⟩
          replace HB := Lib.hid (below_then HB.out d2.below)
          replace HX := Lib.hid (HX.out.below d2.below)
          clear d2
          rw [O2.out]
          clear ho2
          have E : Hid (setJoin xs ys = []) := by show _ = _; simp [setJoin, O2.out]
          go_wp2
          go_ret
          exact ⟨_, rfl, by rw [E.out]; exact (own_empty _).lower HB.out.size, below_alloc HB.out _⟩
      · have O1 : Hid (setOk xs = false) := by show _ = _; simpa using ho
        go_wp2_with fail
        refine (sSetOk_c _ _ _ _ (h.below HB.out)).mono ?_
        rintro e w5 ⟨rfl, d2⟩
        replace HB := Lib.hid (below_then HB.out d2.below)
        replace HX := Lib.hid (HX.out.below d2.below)
        clear d2
        rw [O1.out]
        clear ho
        have E : Hid (setJoin xs ys = []) := by show _ = _; simp [setJoin, O1.out]
        go_wp2
        go_ret
        exact ⟨_, rfl, by rw [E.out]; exact (own_empty _).lower HB.out.size, below_alloc HB.out _⟩

set_option maxRecDepth 100000 in
set_option maxHeartbeats 2000000 in
theorem sSetMeet_c (A B : Option Addr) (c d : Nat) (xs ys : List Sp) (w : World) {lo lo' : Nat} (h : Sps w lo A c xs) (h' : Sps w lo' B d ys) :
    Calls Tryz.prog 159 #[.slice A xs.length c, .slice B ys.length d] w fun e w' => ∃ v, e = .returned v ∧ OwnSp w' w.heap.size v (setMeet xs ys) ∧ Below w.heap.size w w' := by
  obtain ⟨i0, hi, hz0, hz1, hz2⟩ := info_parts infoBool
  go_enter Tryz.func159, Tryz.ntmps159
  go_wp2_with (at_make; refine wpList_make_full _ rfl _ _ 153 rfl w.heap.size TB i0 (.bool false) 1 Tryz.underlying153 hi hz0 hz1 .i64 .i64 _ _ 256 rfl rfl rfl rfl (by rw [hz2]; omega) (by unfold maxLen; omega) (Nat.le_refl _) ?_; intro w1 hown hgrow)
  have HX := Lib.hid (own_bits hown)
  have HB := Lib.hid ((Below.refl _ w).grown hgrow (Nat.le_refl _) (fun k hk => by cases hk))
  clear hown hgrow hi hz0 hz1 hz2
  go_loopg [6] 256 (fun n i wr => ∃ k : Nat, Hid (k + n = 256) ∧ i = .int .i64 k ∧ ∃ f : Nat → Bool, Hid (Blk wr w.heap.size (bitCells f).toArray TB) ∧ Hid (∀ j, j < k → f j = (setHas xs j && setHas ys j)) ∧ Hid (Below w.heap.size w wr))
  case atStart => exact ⟨0, rfl, rfl, _, HX, fun j hj => absurd hj (Nat.not_lt_zero _), HB⟩
  case round =>
    clear HX HB
    obtain ⟨k, hk, rfl, f, HX, HF, HB⟩ := hrel
    by_cases hk2 : k < 256
    · by_cases hf : setHas xs k = true
      · skip
        have G1 : Hid (setHas xs k = true) := hf
        go_wp2_with fail
        refine (sSetHas_c _ _ _ _ _ (h.below HB.out)).mono ?_
        rintro e w2 ⟨rfl, d2⟩
        replace HB := Lib.hid (below_then HB.out d2.below)
        replace HX := Lib.hid (HX.out.below d2.below)
        clear d2
        rw [G1.out]
        clear hf
        by_cases hf2 : setHas ys k = true
        · skip
          have G2 : Hid (setHas ys k = true) := hf2
          go_wp2_with fail
          refine (sSetHas_c _ _ _ _ _ (h'.below HB.out)).mono ?_
          rintro e w3 ⟨rfl, d2⟩
          replace HB := Lib.hid (below_then HB.out d2.below)
          replace HX := Lib.hid (HX.out.below d2.below)
          clear d2
          rw [G2.out]
          clear hf2
          have G : Hid ((setHas xs k && setHas ys k) = true) := by show _ = _; simp [G1.out, G2.out]
          have c0 := bitr_cell HX.out k hk2
          have f0 := HX.out.free k
          go_wp2
          go_roundg (gk - 1)
          case rel =>
            refine ⟨k + 1, by have := hk.out; show _ = _; omega, by go_num, _, bitr_set HX.out k _, ?_, below_set HB.out (Nat.le_refl _) _⟩
            intro j hj
            by_cases e : j = k
            · subst e; simp [G.out]
            · rw [if_neg e]
              exact HF.out j (by omega)
          case measure => have := hk.out; omega
        · replace hf2 : setHas ys k = false := by simpa using hf2
          have G2 : Hid (setHas ys k = false) := hf2
          go_wp2_with fail
          refine (sSetHas_c _ _ _ _ _ (h'.below HB.out)).mono ?_
          rintro e w3 ⟨rfl, d2⟩
          replace HB := Lib.hid (below_then HB.out d2.below)
          replace HX := Lib.hid (HX.out.below d2.below)
          clear d2
          rw [G2.out]
          clear hf2
          have G : Hid ((setHas xs k && setHas ys k) = false) := by show _ = _; simp [G1.out, G2.out]
          have c0 := bitr_cell HX.out k hk2
          have f0 := HX.out.free k
          go_wp2
          go_roundg (gk - 1)
          case rel =>
            refine ⟨k + 1, by have := hk.out; show _ = _; omega, by go_num, _, bitr_set HX.out k _, ?_, below_set HB.out (Nat.le_refl _) _⟩
            intro j hj
            by_cases e : j = k
            · subst e; simp [G.out]
            · rw [if_neg e]
              exact HF.out j (by omega)
          case measure => have := hk.out; omega
      · replace hf : setHas xs k = false := by simpa using hf
        have G1 : Hid (setHas xs k = false) := hf
        go_wp2_with fail
        refine (sSetHas_c _ _ _ _ _ (h.below HB.out)).mono ?_
        rintro e w2 ⟨rfl, d2⟩
        replace HB := Lib.hid (below_then HB.out d2.below)
        replace HX := Lib.hid (HX.out.below d2.below)
        clear d2
        rw [G1.out]
        clear hf
        have G : Hid ((setHas xs k && setHas ys k) = false) := by show _ = _; simp [G1.out]
        have c0 := bitr_cell HX.out k hk2
        have f0 := HX.out.free k
        go_wp2
        go_roundg (gk - 1)
        case rel =>
          refine ⟨k + 1, by have := hk.out; show _ = _; omega, by go_num, _, bitr_set HX.out k _, ?_, below_set HB.out (Nat.le_refl _) _⟩
          intro j hj
          by_cases e : j = k
          · subst e; simp [G.out]
          · rw [if_neg e]
            exact HF.out j (by omega)
        case measure => have := hk.out; omega
    · by_cases ho : setOk xs = true
      · have O1 : Hid (setOk xs = true) := ho
        go_wp2_with fail
        refine (sSetOk_c _ _ _ _ (h.below HB.out)).mono ?_
        rintro e w5 ⟨rfl, d2⟩
        replace HB := Lib.hid (below_then HB.out d2.below)
        replace HX := Lib.hid (HX.out.below d2.below)
        clear d2
        rw [O1.out]
        clear ho
        by_cases ho2 : setOk ys = true
        · have O2 : Hid (setOk ys = true) := ho2
          go_wp2_with fail
          refine (sSetOk_c _ _ _ _ (h'.below HB.out)).mono ?_
          rintro e w6 ⟨rfl, d2⟩
          replace HB := Lib.hid (below_then HB.out d2.below)
          replace HX := Lib.hid (HX.out.below d2.below)
          clear d2
          rw [O2.out]
          clear ho2
          have E : Hid (setMeet xs ys = spansOf fun j => setHas xs j && setHas ys j) := by show _ = _; simp [setMeet, O1.out, O2.out]
          go_wp2_with fail
          refine (sl1Of_c f _ _ HX.out).mono ?_
          rintro e w9 ⟨v9, rfl, o9, b9⟩
          go_wp2
          go_ret
          refine ⟨_, rfl, ?_, below_then HB.out b9⟩
          rw [E.out, spansOf_congr (fun i hi => (HF.out i (by omega)).symm)]
          exact o9.lower HB.out.size
        · have O2 : Hid (setOk ys = false) := by show _ = _; simpa using ho2
          go_wp2_with fail
          refine (sSetOk_c _ _ _ _ (h'.below HB.out)).mono ?_
          rintro e w6 ⟨rfl, d2⟩
          replace HB := Lib.hid (below_then HB.out d2.below)
          replace HX := Lib.hid (HX.out.below d2.below)
          clear d2
          rw [O2.out]
          clear ho2
          have E : Hid (setMeet xs ys = []) := by show _ = _; simp [setMeet, O2.out]
          go_wp2
          go_ret
          exact ⟨_, rfl, by rw [E.out]; exact (own_empty _).lower HB.out.size, below_alloc HB.out _⟩
      · have O1 : Hid (setOk xs = false) := by show _ = _; simpa using ho
        go_wp2_with fail
        refine (sSetOk_c _ _ _ _ (h.below HB.out)).mono ?_
        rintro e w5 ⟨rfl, d2⟩
        replace HB := Lib.hid (below_then HB.out d2.below)
        replace HX := Lib.hid (HX.out.below d2.below)
        clear d2
        rw [O1.out]
        clear ho
        have E : Hid (setMeet xs ys = []) := by show _ = _; simp [setMeet, O1.out]
        go_wp2
        go_ret
        exact ⟨_, rfl, by rw [E.out]; exact (own_empty _).lower HB.out.size, below_alloc HB.out _⟩

end Go.Proofs.YtfeidjjabjejiaaGreatDoor
