/- Pieces of a text: 13 times 13 bools in memory. -/
import Derived.Test.YtiaccimbkghofaaMat
import Derived.Test.YtiaccimbkghofaaBw
import Derived.Test.YtiaccimbkghofaaT10
import Derived.Test.YtiaccimbkghofaaW1h
import Derived.Deep.MidRow
namespace Go.Proofs.Ytiaccimbkghofaa
set_option linter.unusedSimpArgs false
set_option linter.unusedVariables false
open Go.RowKit

/-! ### the plain law of the pieces -/
def sub (t : Txt) (i j : Nat) : Txt := (t.take j).drop i
theorem sub_length (t : Txt) {i j : Nat} (h : j ≤ t.length) : (sub t i j).length = j - i := by rw [sub, List.length_drop, List.length_take, Nat.min_eq_left h]
theorem sub_take (t : Txt) (i j m : Nat) (h : i + m ≤ j) : (sub t i j).take m = sub t i (i + m) := by
  unfold sub
  rw [List.take_drop, List.take_take, Nat.min_eq_left (by omega), Nat.add_comm]
theorem sub_drop (t : Txt) (i j m : Nat) : (sub t i j).drop m = sub t (i + m) j := by unfold sub; rw [List.drop_drop]
/-- the piece from i to j is like r -/
def pc (r : Rex) (t : Txt) (i j : Nat) : Bool := lang r (sub t i j)
theorem catGo_any (f g : Txt → Bool) (t : Txt) : ∀ m k, catGo f g t m k = (List.range m).any fun d => f (t.take (k + d)) && g (t.drop (k + d))
  | 0, k => rfl
  | m + 1, k => by
    rw [catGo, catGo_any f g t m (k + 1), List.range_succ_eq_map, List.any_cons, List.any_map]
    congr 1
    rw [Bool.eq_iff_iff, List.any_eq_true, List.any_eq_true]
    simp only [Function.comp, Nat.add_assoc, Nat.add_comm, Nat.add_left_comm]
theorem pc_cat (s : List Sp) (a b : Rex) (t : Txt) {i j : Nat} (hij : i ≤ j) (hj : j ≤ t.length) : pc (.mk 3 s [a, b]) t i j = (List.range (j - i + 1)).any fun d => pc a t i (i + d) && pc b t (i + d) j := by
  unfold pc
  rw [lang3, catB, catGo_any, sub_length t hj, Bool.eq_iff_iff, List.any_eq_true, List.any_eq_true]
  refine exists_congr fun d => and_congr_right fun hd => ?_
  simp at hd
  rw [Nat.zero_add, sub_take t i j d (by omega), sub_drop]
theorem pc_star (s : List Sp) (a : Rex) (t : Txt) {i j : Nat} (hij : i ≤ j) (hj : j ≤ t.length) : pc (.mk 5 s [a]) t i j = (decide (j - i = 0) || (List.range (j - i)).any fun d => pc a t i (i + d + 1) && pc (.mk 5 s [a]) t (i + d + 1) j) := by
  unfold pc
  rw [lang5, starB_first, sub_length t hj]
  congr 1
  · rw [Bool.eq_iff_iff, List.isEmpty_iff, ← List.length_eq_zero_iff, sub_length t hj, decide_eq_true_eq]
  · rw [Bool.eq_iff_iff, List.any_eq_true, List.any_eq_true]
    refine exists_congr fun d => and_congr_right fun hd => ?_
    simp at hd
    rw [sub_take t i j (d + 1) (by omega), sub_drop, lang5, Nat.add_assoc]
theorem pc_empty (s : List Sp) (ks : List Rex) (t : Txt) {i j : Nat} (hj : j ≤ t.length) : pc (.mk 2 s ks) t i j = decide (j - i = 0) := by
  unfold pc
  rw [lang2, Bool.eq_iff_iff, List.isEmpty_iff, ← List.length_eq_zero_iff, sub_length t hj, decide_eq_true_eq]
theorem pc_set_no (s : List Sp) (ks : List Rex) (t : Txt) {i j : Nat} (hj : j ≤ t.length) (h : j - i ≠ 1) : pc (.mk 1 s ks) t i j = false := by
  unfold pc
  rw [lang1]
  have e := sub_length t (i := i) hj
  match sub t i j, e with
  | [], _ => rfl
  | [x], e => simp at e; omega
  | x :: y :: l, _ => rfl
theorem pc_set (s : List Sp) (ks : List Rex) (t : Txt) {i : Nat} {c : UInt8} (hc : t[i]? = some c) : pc (.mk 1 s ks) t i (i + 1) = setHas s (c.toNat : Int) := by
  have hi := (List.getElem?_eq_some_iff.1 hc).1
  have e : sub t i (i + 1) = [c] := by
    unfold sub
    rw [List.take_add_one, hc, List.drop_append_of_le_length (by rw [List.length_take]; omega), List.drop_of_length_le (by rw [List.length_take]; omega)]
    rfl
  unfold pc
  rw [lang1, e]
  rfl

/-! ### in memory -/
abbrev TPc : Nat := 68
def pcells (f : Nat → Nat → Bool) : List Value := (List.range 169).map fun i => .bool (f (i / 13) (i % 13))
theorem pcells_length (f : Nat → Nat → Bool) : (pcells f).length = 169 := by simp [pcells]
theorem pcells_get (f : Nat → Nat → Bool) {i j : Nat} (hi : i < 13) (hj : j < 13) : (pcells f)[i * 13 + j]? = some (.bool (f i j)) := by
  have h : i * 13 + j < 169 := by omega
  have e1 : (i * 13 + j) / 13 = i := by omega
  have e2 : (i * 13 + j) % 13 = j := by omega
  simp [pcells, h, e1, e2]
theorem pcells_one (f : Nat → Nat → Bool) : ∀ u ∈ pcells f, u.oneCell' = true := by
  intro u hu
  simp only [pcells, List.mem_map] at hu
  obtain ⟨i, _, rfl⟩ := hu
  rfl
theorem sizePc : (Try.prog.info? TPc).map (·.size) = some 169 := by kernel_rfl
theorem sizePc' (f : Nat → Nat → Bool) : (Try.prog.info? TPc).map (·.size) = some (pcells f).length := by rw [pcells_length]; exact sizePc
theorem zeroPc : (Try.prog.info? TPc).map (·.zero) = some (some (.agg (pcells fun _ _ => false).toArray)) := by kernel_rfl
structure PRow (w : World) (g o : Nat) (f : Nat → Nat → Bool) : Prop where
  at_ : w.rangeAt g o (pcells f)
  th : w.there g o 169
theorem PRow.lt {w : World} {g o : Nat} {f : Nat → Nat → Bool} (h : PRow w g o f) : g < w.heap.size := by
  have := World.block_lt_of_cell? w _ (h.at_ 0 _ (pcells_get f (i := 0) (j := 0) (by omega) (by omega)))
  exact this
theorem PRow.keep {w w' : World} {g o : Nat} {f : Nat → Nat → Bool} (h : PRow w g o f) (hb : w'.heap[g]? = w.heap[g]?) : PRow w' g o f :=
  ⟨fun j v hj => (World.cell?_of_block (w := w) hb).trans (h.at_ j v hj), fun j hj => ⟨by rw [World.cell?_of_block (w := w) hb]; exact (h.th j hj).1, by rw [World.frozen?_of_block (w := w) hb]; exact (h.th j hj).2⟩⟩
theorem PRow.below {w w' : World} {g o : Nat} {f : Nat → Nat → Bool} (h : PRow w g o f) (hb : Below w.heap.size w w') : PRow w' g o f := h.keep (hb.block _ h.lt)
theorem PRow.cell {w : World} {g : Nat} {f : Nat → Nat → Bool} (h : PRow w g 0 f) {i j : Nat} (hi : i < 13) (hj : j < 13) : w.cell? ⟨g, i * 13 + j, none⟩ = some (.bool (f i j)) := by
  have := h.at_ _ _ (pcells_get f hi hj)
  rwa [Nat.zero_add] at this
theorem PRow.free {w : World} {g : Nat} {f : Nat → Nat → Bool} (h : PRow w g 0 f) {i j : Nat} (hi : i < 13) (hj : j < 13) : w.frozen? ⟨g, i * 13 + j, none⟩ = false := by
  have := (h.th (i * 13 + j) (by omega)).2
  rwa [Nat.zero_add] at this
theorem Blk.prow {w : World} {g : Nat} {f : Nat → Nat → Bool} {t : TypeId} (h : Blk w g (pcells f).toArray t) : PRow w g 0 f := by
  refine ⟨fun j v hj => ?_, fun j hj => ⟨?_, h.free _⟩⟩
  · rw [Nat.zero_add, h.cell]; simpa using hj
  · rw [Nat.zero_add, h.cell]
    have : j < (pcells f).length := by rw [pcells_length]; exact hj
    simp [this]
theorem pcells_set (f : Nat → Nat → Bool) {i j : Nat} (hi : i < 13) (hj : j < 13) (b : Bool) : (pcells f).set (i * 13 + j) (.bool b) = pcells fun i' j' => if i' = i ∧ j' = j then b else f i' j' := by
  apply List.ext_getElem?
  intro k
  rw [List.getElem?_set]
  by_cases hk : k < 169
  · have e : (pcells f)[k]? = some (.bool (f (k / 13) (k % 13))) := by simp [pcells, hk]
    have e' : (pcells fun i' j' => if i' = i ∧ j' = j then b else f i' j')[k]? = some (.bool (if k / 13 = i ∧ k % 13 = j then b else f (k / 13) (k % 13))) := by simp [pcells, hk]
    rw [e, e', pcells_length]
    by_cases h : i * 13 + j = k
    · rw [if_pos h, if_pos (by omega), if_pos (by omega)]
    · rw [if_neg h, if_neg (by omega)]
  · rw [List.getElem?_eq_none (by rw [pcells_length]; omega), List.getElem?_eq_none (by rw [pcells_length]; omega), pcells_length]
    split
    · rw [if_neg (by omega)]
    · rfl
theorem PRow.set {w : World} {g : Nat} {f : Nat → Nat → Bool} (h : Blk w g (pcells f).toArray TPc) {i j : Nat} (hi : i < 13) (hj : j < 13) (b : Bool) : Blk (w.setCell ⟨g, i * 13 + j, none⟩ (.bool b)) g (pcells fun i' j' => if i' = i ∧ j' = j then b else f i' j').toArray TPc := by
  have := h.set (i * 13 + j) (.bool b)
  rwa [List.setIfInBounds_toArray, pcells_set f hi hj] at this

end Go.Proofs.Ytiaccimbkghofaa
