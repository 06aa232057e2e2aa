/- What the two number readers say of written numbers: plain law. -/
import Derived.Test.YtlchipjckgaclaaDoorSm
import Derived.Test.YtlchipjckgaclaaDoorTj
namespace Go.Proofs.YtlchipjckgaclaaDoor
set_option linter.unusedSimpArgs false
set_option linter.unusedVariables false
set_option maxRecDepth 100000

theorem dec_ne (u : Nat) : Lib.decDigits u ≠ [] := fun h => by
  have := congrArg List.length h
  rw [Lib.decDigits_length, Lib.nDigits] at this
  split at this <;> simp at this
theorem dec_head (u : Nat) : u ≠ 0 → (Lib.decDigits u).head? ≠ some 48 := by
  induction u using Nat.strongRecOn with
  | ind u ih =>
    intro hu h
    by_cases h1 : u < 10
    · rw [Lib.decDigits, dif_pos h1] at h
      injection h with h
      have := congrArg UInt8.toNat h
      rw [ofNat_dig h1] at this
      have e48 : (48 : UInt8).toNat = 48 := rfl
      omega
    · rw [Lib.decDigits, dif_neg h1] at h
      refine ih (u / 10) (by omega) (by omega) ?_
      cases hd : Lib.decDigits (u / 10) with
      | nil => exact absurd hd (dec_ne _)
      | cons a l => rw [hd] at h; exact h
theorem dec_short {u : Nat} (h : u < 1000) : (Lib.decDigits u).length ≤ 3 := by
  rw [Lib.decDigits_length]
  by_cases h1 : u < 10
  · rw [Lib.nDigits_small h1]; omega
  · rw [Lib.nDigits_big h1]
    by_cases h2 : u / 10 < 10
    · rw [Lib.nDigits_small h2]; omega
    · rw [Lib.nDigits_big h2, Lib.nDigits_small (by omega)]
      omega
theorem dec_long {u : Nat} (h : 1 < (Lib.decDigits u).length) : u ≠ 0 := fun e => by
  subst e
  rw [Lib.decDigits_length, Lib.nDigits_small (by decide)] at h
  omega
theorem natural_dec {u : Nat} (h : u < 1000) : natural (Lib.decDigits u) = some u := by
  have hs := dec_short h
  have hp : 1 ≤ (Lib.decDigits u).length := List.length_pos_iff.2 (dec_ne u)
  rw [natural_of, if_pos (List.all_eq_true.2 (dec_dig u)), dec_val]
  rintro (h1 | h1 | ⟨h1, h2⟩)
  · omega
  · omega
  · exact dec_head u (dec_long h2) h1
theorem num_dec {u : Nat} (h : u < 1000) : numOf (Lib.decDigits u) = some (u : Int) := by
  have hs := dec_short h
  have hp : 1 ≤ (Lib.decDigits u).length := List.length_pos_iff.2 (dec_ne u)
  have h45 : (Lib.decDigits u).head? ≠ some 45 := fun e => by
    have hm : (45 : UInt8) ∈ Lib.decDigits u := List.mem_of_head? e
    have := dec_dig u _ hm
    revert this
    decide
  rw [numOf, if_neg h45, numBody_of, if_pos (List.all_eq_true.2 (dec_dig u)), dec_val]
  · rfl
  · rintro (h1 | h1 | ⟨h1, h2 | h2⟩)
    · omega
    · omega
    · exact dec_head u (dec_long h2) h1
    · cases h2
/-- what is read is no great number -/
theorem natural_lt {l : List UInt8} {n : Nat} (h : natural l = some n) : n < 1000000 := by
  unfold natural at h
  split at h
  · cases h
  · rename_i h1
    split at h
    · rename_i h2
      injection h with h
      have h3 := dig_bound l (List.all_eq_true.1 h2)
      have h4 : l.length ≤ 6 := by omega
      have h5 : 10 ^ l.length ≤ 10 ^ 6 := Nat.pow_le_pow_right (by decide) h4
      omega
    · cases h
theorem body_in {neg : Bool} {l : List UInt8} {n : Int} (h : numBody neg l = some n) : in64 n := by
  unfold numBody at h
  split at h
  · cases h
  · rename_i h1
    split at h
    · rename_i h2
      injection h with h
      have h3 := dig_bound l (List.all_eq_true.1 h2)
      have h4 : l.length ≤ 17 := by omega
      have h5 : 10 ^ l.length ≤ 10 ^ 17 := Nat.pow_le_pow_right (by decide) h4
      unfold in64
      cases neg <;> simp at h <;> omega
    · cases h
theorem num_in {l : List UInt8} {n : Int} (h : numOf l = some n) : in64 n := by
  unfold numOf at h
  split at h
  · exact body_in h
  · exact body_in h

end Go.Proofs.YtlchipjckgaclaaDoor
