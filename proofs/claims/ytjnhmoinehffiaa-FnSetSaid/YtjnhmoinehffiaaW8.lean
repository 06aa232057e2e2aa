/- Sizes and first elements of sets, of the program and of the reference. -/
import Derived.Test.YtjnhmoinehffiaaW6
namespace Go.Proofs.Ytjnhmoinehffiaa
set_option linter.unusedSimpArgs false
set_option linter.unusedVariables false
open Go.RowKit

theorem cnt_le (f : Nat → Bool) : ∀ n, cnt f n ≤ n := by
  intro n
  induction n with
  | zero => exact Nat.le_refl _
  | succ n ih => rw [cnt]; split <;> omega
theorem cnt_yes {f : Nat → Bool} {k : Nat} (h : f k = true) : cnt f (k + 1) = cnt f k + 1 := by rw [cnt, h]; rfl
theorem cnt_no {f : Nat → Bool} {k : Nat} (h : f k = false) : cnt f (k + 1) = cnt f k := by rw [cnt, h]; rfl
theorem first_yes {f : Nat → Bool} {n k : Nat} {r : Int} (h : f k = true) (hr : firstGo f (n + 1) k = r) : r = k := by rw [← hr, firstGo, if_pos h]
theorem first_no {f : Nat → Bool} {n k : Nat} {r : Int} (h : f k = false) (hr : firstGo f (n + 1) k = r) : firstGo f n (k + 1) = r := by rw [← hr, firstGo, if_neg (by rw [h]; simp)]

set_option maxRecDepth 100000 in
set_option maxHeartbeats 1000000 in
theorem iSetSize_c (A : Option Addr) (c : Nat) (xs : List Sp) (w : World) {lo : Nat} (h : Sps w lo A c xs) :
    Calls Try.prog 19 #[.slice A xs.length c] w fun e w' => e = .returned (.int .i64 (setSize xs)) ∧ Below w.heap.size w w' := by
  go_enter Try.func19, Try.ntmps19
  go_wp2_with fail
  refine (bitsOf_c _ _ _ _ h).mono ?_
  rintro e w1 ⟨rfl, b1⟩
  have HB := Lib.hid b1
  clear b1
  go_wp2
  go_loopg [3, 8] 256 (fun n s i wr => ∃ k : Nat, Hid (k + n = 256) ∧ i = .int .i64 k ∧ (∃ m : Nat, s = .int .i64 m ∧ Hid (m = cnt (fun i => setHas xs i) k)) ∧ Hid (Below w.heap.size w wr))
  case atStart => exact ⟨0, rfl, rfl, ⟨0, rfl, rfl⟩, HB⟩
  case round =>
    clear HB
    obtain ⟨k, hk, rfl, ⟨m, rfl, HM⟩, HB⟩ := hrel
    have hm : m ≤ k := by rw [HM.out]; exact cnt_le _ _
    by_cases hk2 : k < 256
    · have hix := fun wx => run_index_bits (fun i => setHas xs i) k hk2 wx
      by_cases hf : setHas xs k = true
      · have HC : Hid _ := cnt_yes (f := fun i => setHas xs i) hf
        simp only [hf] at hix
        clear hf
        go_wp2
        go_roundg (gk - 1)
        case rel => exact ⟨k + 1, by have := hk.out; show _ = _; omega, by go_num, ⟨m + 1, by go_num, by show _ = _; rw [HC.out, HM.out]⟩, HB⟩
        case measure => have := hk.out; omega
      · have hf' : setHas xs k = false := by simpa using hf
        have HC : Hid _ := cnt_no (f := fun i => setHas xs i) hf'
        simp only [hf'] at hix
        clear hf hf'
        go_wp2
        go_roundg (gk - 1)
        case rel => exact ⟨k + 1, by have := hk.out; show _ = _; omega, by go_num, ⟨m, rfl, by show _ = _; rw [HC.out, HM.out]⟩, HB⟩
        case measure => have := hk.out; omega
    · go_wp2
      go_ret
      exact ⟨ret_int (by rw [setSize, HM.out, show k = 256 by have := hk.out; omega]), HB⟩

set_option maxRecDepth 100000 in
set_option maxHeartbeats 1000000 in
theorem iSetFirst_c (A : Option Addr) (c : Nat) (xs : List Sp) (w : World) {lo : Nat} (h : Sps w lo A c xs) :
    Calls Try.prog 17 #[.slice A xs.length c] w fun e w' => e = .returned (.int .i64 (setFirst xs)) ∧ Below w.heap.size w w' := by
  go_enter Try.func17, Try.ntmps17
  go_wp2_with fail
  refine (bitsOf_c _ _ _ _ h).mono ?_
  rintro e w1 ⟨rfl, b1⟩
  have HB := Lib.hid b1
  clear b1
  go_wp2
  go_loopg [7] 256 (fun n i wr => ∃ k : Nat, Hid (k + n = 256) ∧ i = .int .i64 k ∧ Hid (firstGo (fun i => setHas xs i) n k = setFirst xs) ∧ Hid (Below w.heap.size w wr))
  case atStart => exact ⟨0, rfl, rfl, rfl, HB⟩
  case round =>
    clear HB
    obtain ⟨k, hk, rfl, HF, HB⟩ := hrel
    by_cases hk2 : k < 256
    · have hix := fun wx => run_index_bits (fun i => setHas xs i) k hk2 wx
      obtain ⟨n, rfl⟩ : ∃ n, gk = n + 1 := ⟨gk - 1, by have := hk.out; omega⟩
      by_cases hf : setHas xs k = true
      · have HC : Hid _ := first_yes (f := fun i => setHas xs i) hf HF.out
        simp only [hf] at hix
        clear hf
        go_wp2
        go_ret
        exact ⟨ret_int (by rw [HC.out]), HB⟩
      · have hf' : setHas xs k = false := by simpa using hf
        have HC : Hid _ := first_no (f := fun i => setHas xs i) hf' HF.out
        simp only [hf'] at hix
        clear hf hf'
        go_wp2
        go_roundg n
        case rel => exact ⟨k + 1, by have := hk.out; show _ = _; omega, by go_num, HC, HB⟩
        case measure => omega
    · go_wp2
      go_ret
      obtain rfl : gk = 0 := by have := hk.out; omega
      exact ⟨ret_int (by rw [← HF.out]; rfl), HB⟩

set_option maxRecDepth 100000 in
set_option maxHeartbeats 1000000 in
theorem sSetSize_c (A : Option Addr) (c : Nat) (xs : List Sp) (w : World) {lo : Nat} (h : Sps w lo A c xs) :
    Calls Try.prog 20 #[.slice A xs.length c] w fun e w' => e = .returned (.int .i64 (setSize xs)) ∧ Drawn w w' := by
  go_enter Try.func20, Try.ntmps20
  go_wp2
  go_loopg [3, 4] 256 (fun n s i wr => ∃ k : Nat, Hid (k + n = 256) ∧ i = .int .i64 k ∧ (∃ m : Nat, s = .int .i64 m ∧ Hid (m = cnt (fun i => setHas xs i) k)) ∧ Hid (Drawn w wr))
  case atStart => exact ⟨0, rfl, rfl, ⟨0, rfl, rfl⟩, Drawn.refl _⟩
  case round =>
    obtain ⟨k, hk, rfl, ⟨m, rfl, HM⟩, HB⟩ := hrel
    have hm : m ≤ k := by rw [HM.out]; exact cnt_le _ _
    by_cases hk2 : k < 256
    · go_wp2_with fail
      refine (sSetHas_c _ _ _ _ _ (h.below HB.out.below)).mono ?_
      rintro e w2 ⟨rfl, d2⟩
      have HB2 := Lib.hid (HB.out.trans d2)
      clear d2
      by_cases hf : setHas xs k = true
      · have HC : Hid _ := cnt_yes (f := fun i => setHas xs i) hf
        rw [hf]
        clear hf
        go_wp2
        go_roundg (gk - 1)
        case rel => exact ⟨k + 1, by have := hk.out; show _ = _; omega, by go_num, ⟨m + 1, by go_num, by show _ = _; rw [HC.out, HM.out]⟩, HB2⟩
        case measure => have := hk.out; omega
      · have hf' : setHas xs k = false := by simpa using hf
        have HC : Hid _ := cnt_no (f := fun i => setHas xs i) hf'
        rw [hf']
        clear hf hf'
        go_wp2
        go_roundg (gk - 1)
        case rel => exact ⟨k + 1, by have := hk.out; show _ = _; omega, by go_num, ⟨m, rfl, by show _ = _; rw [HC.out, HM.out]⟩, HB2⟩
        case measure => have := hk.out; omega
    · go_wp2
      go_ret
      exact ⟨ret_int (by rw [setSize, HM.out, show k = 256 by have := hk.out; omega]), HB.out⟩

set_option maxRecDepth 100000 in
set_option maxHeartbeats 1000000 in
theorem sSetFirst_c (A : Option Addr) (c : Nat) (xs : List Sp) (w : World) {lo : Nat} (h : Sps w lo A c xs) :
    Calls Try.prog 18 #[.slice A xs.length c] w fun e w' => e = .returned (.int .i64 (setFirst xs)) ∧ Drawn w w' := by
  go_enter Try.func18, Try.ntmps18
  go_wp2
  go_loopg [3] 256 (fun n i wr => ∃ k : Nat, Hid (k + n = 256) ∧ i = .int .i64 k ∧ Hid (firstGo (fun i => setHas xs i) n k = setFirst xs) ∧ Hid (Drawn w wr))
  case atStart => exact ⟨0, rfl, rfl, rfl, Drawn.refl _⟩
  case round =>
    obtain ⟨k, hk, rfl, HF, HB⟩ := hrel
    by_cases hk2 : k < 256
    · go_wp2_with fail
      refine (sSetHas_c _ _ _ _ _ (h.below HB.out.below)).mono ?_
      rintro e w2 ⟨rfl, d2⟩
      have HB2 := Lib.hid (HB.out.trans d2)
      clear d2
      obtain ⟨n, rfl⟩ : ∃ n, gk = n + 1 := ⟨gk - 1, by have := hk.out; omega⟩
      by_cases hf : setHas xs k = true
      · have HC : Hid _ := first_yes (f := fun i => setHas xs i) hf HF.out
        rw [hf]
        clear hf
        go_wp2
        go_ret
        exact ⟨ret_int (by rw [HC.out]), HB2.out⟩
      · have hf' : setHas xs k = false := by simpa using hf
        have HC : Hid _ := first_no (f := fun i => setHas xs i) hf' HF.out
        rw [hf']
        clear hf hf'
        go_wp2
        go_roundg n
        case rel => exact ⟨k + 1, by have := hk.out; show _ = _; omega, by go_num, HC, HB2⟩
        case measure => omega
    · go_wp2
      go_ret
      obtain rfl : gk = 0 := by have := hk.out; omega
      exact ⟨ret_int (by rw [← HF.out]; rfl), HB.out⟩

end Go.Proofs.Ytjnhmoinehffiaa
