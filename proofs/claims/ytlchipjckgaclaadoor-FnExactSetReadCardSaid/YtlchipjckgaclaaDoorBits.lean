/- Sets as 256 bits in memory. -/
import Derived.Test.YtlchipjckgaclaaDoorBlk
import Derived.Test.YtlchipjckgaclaaDoorW4
namespace Go.Proofs.YtlchipjckgaclaaDoor
set_option linter.unusedSimpArgs false
set_option linter.unusedVariables false
set_option maxRecDepth 100000
open Go.RowKit

/-! ### 256 bits -/
def bitCells (f : Nat → Bool) : List Value := (List.range 256).map fun i => .bool (f i)
theorem bitCells_length (f : Nat → Bool) : (bitCells f).length = 256 := by simp [bitCells]
theorem bitCells_get (f : Nat → Bool) (i : Nat) (h : i < 256) : (bitCells f)[i]? = some (.bool (f i)) := by simp [bitCells, h]
theorem bitCells_congr {f g : Nat → Bool} (h : ∀ i, i < 256 → f i = g i) : bitCells f = bitCells g := by
  unfold bitCells
  exact List.map_congr_left fun i hi => by rw [h i (List.mem_range.1 hi)]
theorem bitCells_set (f : Nat → Bool) (k : Nat) (b : Bool) : (bitCells f).set k (.bool b) = bitCells fun i => if i = k then b else f i := by
  apply List.ext_getElem?
  intro j
  rw [List.getElem?_set]
  by_cases hj : j < 256
  · have e := bitCells_get (fun i => if i = k then b else f i) _ hj
    rw [e, bitCells_length]
    by_cases hk : k = j
    · subst hk
      simp [hj]
    · rw [if_neg hk, bitCells_get _ _ hj, if_neg (fun e => hk e.symm)]
  · rw [List.getElem?_eq_none (by rw [bitCells_length]; omega : (bitCells fun i => if i = k then b else f i).length ≤ j), bitCells_length, List.getElem?_eq_none (by rw [bitCells_length]; omega : (bitCells f).length ≤ j)]
    split
    · rw [if_neg (by omega)]
    · rfl
theorem bitCells_one (f : Nat → Bool) : ∀ u ∈ bitCells f, u.oneCell' = true := by
  intro u hu
  obtain ⟨i, _, rfl⟩ := List.mem_map.1 hu
  rfl
end Go.Proofs.YtlchipjckgaclaaDoor
