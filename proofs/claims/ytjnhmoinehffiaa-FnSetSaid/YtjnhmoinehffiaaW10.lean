/- SetJoin, SetMeet, SetNot of the reference. (Printed by wip/gen/specops.py.) -/
import Derived.Test.YtjnhmoinehffiaaW9
import Derived.Test.YtjnhmoinehffiaaW2
namespace Go.Proofs.Ytjnhmoinehffiaa
set_option linter.unusedSimpArgs false
set_option linter.unusedVariables false
open Go.RowKit

abbrev TB : Nat := 4
theorem infoBool : (Try.prog.info? TB).map (fun i => (i.zero, i.size, i.bytes)) = some (some (.bool false), 1, 1) := by kernel_rfl
theorem own_bits {w : World} {base g : Nat} (h : w.ownsRow base TB 1 (.slice (some ⟨g, 0, none⟩) 256 256) 256 (madeCells (Value.bool false).cells (256 * 1)).toList) : Blk w g (bitCells fun _ => false).toArray TB := by
  obtain ⟨cur, hb, hs, _, _, _, ht⟩ := own_blk h
  have e : cur = (bitCells fun _ => false).toArray := by
    apply Array.toList_inj.1
    rw [List.take_of_length_le (by rw [Array.length_toList, hs]; exact Nat.le_refl _)] at ht
    rw [ht]
    apply List.ext_getElem?
    intro j
    by_cases hj : j < 256
    · rw [bitCells_get _ _ hj]
      simp [madeCells, Value.cells, hj, Nat.mod_one]
    · rw [List.getElem?_eq_none (by simp [madeCells]; omega), List.getElem?_eq_none (by simp [bitCells_length]; omega)]
  rw [← e]; exact hb

set_option maxRecDepth 100000 in
set_option maxHeartbeats 2000000 in
theorem sSetJoin_c (A B : Option Addr) (c d : Nat) (xs ys : List Sp) (w : World) {lo lo' : Nat} (h : Sps w lo A c xs) (h' : Sps w lo' B d ys) :
    Calls Try.prog 12 #[.slice A xs.length c, .slice B ys.length d] w fun e w' => ∃ v, e = .returned v ∧ OwnSp w' w.heap.size v (setJoin xs ys) ∧ Below w.heap.size w w' := by
  obtain ⟨i0, hi, hz0, hz1, hz2⟩ := info_parts infoBool
  go_enter Try.func12, Try.ntmps12
  go_wp2_with (at_make; refine wpList_make_full _ rfl _ _ 53 rfl w.heap.size TB i0 (.bool false) 1 Try.underlying53 hi hz0 hz1 .i64 .i64 _ _ 256 rfl rfl rfl rfl (by rw [hz2]; omega) (by unfold maxLen; omega) (Nat.le_refl _) ?_; intro w1 hown hgrow)
  have HX := Lib.hid (own_bits hown)
  have HB := Lib.hid ((Below.refl _ w).grown hgrow (Nat.le_refl _) (fun k hk => by cases hk))
  clear hown hgrow hi hz0 hz1 hz2
  go_loopg [6] 256 (fun n i wr => ∃ k : Nat, Hid (k + n = 256) ∧ i = .int .i64 k ∧ ∃ f : Nat → Bool, Hid (Blk wr w.heap.size (bitCells f).toArray TB) ∧ Hid (∀ j, j < k → f j = (setHas xs j || setHas ys j)) ∧ Hid (Below w.heap.size w wr))
  case atStart => exact ⟨0, rfl, rfl, _, HX, fun j hj => absurd hj (Nat.not_lt_zero _), HB⟩
  case round =>
    clear HX HB
    obtain ⟨k, hk, rfl, f, HX, HF, HB⟩ := hrel
    by_cases hk2 : k < 256
    · by_cases hf : setHas xs k = true
      · skip
        have G1 : Hid (setHas xs k = true) := hf
        go_wp2_with fail
        refine (sSetHas_c _ _ _ _ _ (h.below HB.out)).mono ?_
        rintro e w2 ⟨rfl, d2⟩
        replace HB := Lib.hid (below_then HB.out d2.below)
        replace HX := Lib.hid (HX.out.below d2.below)
        clear d2
        rw [G1.out]
        clear hf
        have G : Hid ((setHas xs k || setHas ys k) = true) := by show _ = _; simp [G1.out]
        have c0 := bitr_cell HX.out k hk2
        have f0 := HX.out.free k
        go_wp2
        go_roundg (gk - 1)
        case rel =>
          refine ⟨k + 1, by have := hk.out; show _ = _; omega, by go_num, _, bitr_set HX.out k _, ?_, below_set HB.out (Nat.le_refl _) _⟩
          intro j hj
          by_cases e : j = k
          · subst e; simp [G.out]
          · rw [if_neg e]
            exact HF.out j (by omega)
        case measure => have := hk.out; omega
      · replace hf : setHas xs k = false := by simpa using hf
        have G1 : Hid (setHas xs k = false) := hf
        go_wp2_with fail
        refine (sSetHas_c _ _ _ _ _ (h.below HB.out)).mono ?_
        rintro e w2 ⟨rfl, d2⟩
        replace HB := Lib.hid (below_then HB.out d2.below)
        replace HX := Lib.hid (HX.out.below d2.below)
        clear d2
        rw [G1.out]
        clear hf
        by_cases hf2 : setHas ys k = true
        · skip
          have G2 : Hid (setHas ys k = true) := hf2
          go_wp2_with fail
          refine (sSetHas_c _ _ _ _ _ (h'.below HB.out)).mono ?_
          rintro e w3 ⟨rfl, d2⟩
          replace HB := Lib.hid (below_then HB.out d2.below)
          replace HX := Lib.hid (HX.out.below d2.below)
          clear d2
          rw [G2.out]
          clear hf2
          have G : Hid ((setHas xs k || setHas ys k) = true) := by show _ = _; simp [G1.out, G2.out]
          have c0 := bitr_cell HX.out k hk2
          have f0 := HX.out.free k
          go_wp2
          go_roundg (gk - 1)
          case rel =>
            refine ⟨k + 1, by have := hk.out; show _ = _; omega, by go_num, _, bitr_set HX.out k _, ?_, below_set HB.out (Nat.le_refl _) _⟩
            intro j hj
            by_cases e : j = k
            · subst e; simp [G.out]
            · rw [if_neg e]
              exact HF.out j (by omega)
          case measure => have := hk.out; omega
        · replace hf2 : setHas ys k = false := by simpa using hf2
          have G2 : Hid (setHas ys k = false) := hf2
          go_wp2_with fail
          refine (sSetHas_c _ _ _ _ _ (h'.below HB.out)).mono ?_
          rintro e w3 ⟨rfl, d2⟩
          replace HB := Lib.hid (below_then HB.out d2.below)
          replace HX := Lib.hid (HX.out.below d2.below)
          clear d2
          rw [G2.out]
          clear hf2
          have G : Hid ((setHas xs k || setHas ys k) = false) := by show _ = _; simp [G1.out, G2.out]
          have c0 := bitr_cell HX.out k hk2
          have f0 := HX.out.free k
          go_wp2
          go_roundg (gk - 1)
          case rel =>
            refine ⟨k + 1, by have := hk.out; show _ = _; omega, by go_num, _, bitr_set HX.out k _, ?_, below_set HB.out (Nat.le_refl _) _⟩
            intro j hj
            by_cases e : j = k
            · subst e; simp [G.out]
            · rw [if_neg e]
              exact HF.out j (by omega)
          case measure => have := hk.out; omega
    · by_cases ho : setOk xs = true
      · have O1 : Hid (setOk xs = true) := ho
        go_wp2_with fail
        refine (sSetOk_c _ _ _ _ (h.below HB.out)).mono ?_
        rintro e w5 ⟨rfl, d2⟩
        replace HB := Lib.hid (below_then HB.out d2.below)
        replace HX := Lib.hid (HX.out.below d2.below)
        clear d2
        rw [O1.out]
        clear ho
        by_cases ho2 : setOk ys = true
        · have O2 : Hid (setOk ys = true) := ho2
          go_wp2_with fail
          refine (sSetOk_c _ _ _ _ (h'.below HB.out)).mono ?_
          rintro e w6 ⟨rfl, d2⟩
          replace HB := Lib.hid (below_then HB.out d2.below)
          replace HX := Lib.hid (HX.out.below d2.below)
          clear d2
          rw [O2.out]
          clear ho2
          have E : Hid (setJoin xs ys = spansOf fun j => setHas xs j || setHas ys j) := by show _ = _; simp [setJoin, O1.out, O2.out]
          go_wp2_with fail
          refine (sl1Of_c f _ _ HX.out).mono ?_
          rintro e w9 ⟨v9, rfl, o9, b9⟩
          go_wp2
          go_ret
          refine ⟨_, rfl, ?_, below_then HB.out b9⟩
          rw [E.out, spansOf_congr (fun i hi => (HF.out i (by omega)).symm)]
          exact o9.lower HB.out.size
        · have O2 : Hid (setOk ys = false) := by show _ = _; simpa using ho2
          go_wp2_with fail
          refine (sSetOk_c _ _ _ _ (h'.below HB.out)).mono ?_
          rintro e w6 ⟨rfl, d2⟩
          replace HB := Lib.hid (below_then HB.out d2.below)
          replace HX := Lib.hid (HX.out.below d2.below)
          clear d2
          rw [O2.out]
          clear ho2
          have E : Hid (setJoin xs ys = []) := by show _ = _; simp [setJoin, O2.out]
          go_wp2
          go_ret
          exact ⟨_, rfl, by rw [E.out]; exact (own_empty _).lower HB.out.size, below_alloc HB.out _⟩
      · have O1 : Hid (setOk xs = false) := by show _ = _; simpa using ho
        go_wp2_with fail
        refine (sSetOk_c _ _ _ _ (h.below HB.out)).mono ?_
        rintro e w5 ⟨rfl, d2⟩
        replace HB := Lib.hid (below_then HB.out d2.below)
        replace HX := Lib.hid (HX.out.below d2.below)
        clear d2
        rw [O1.out]
        clear ho
        have E : Hid (setJoin xs ys = []) := by show _ = _; simp [setJoin, O1.out]
        go_wp2
        go_ret
        exact ⟨_, rfl, by rw [E.out]; exact (own_empty _).lower HB.out.size, below_alloc HB.out _⟩

set_option maxRecDepth 100000 in
set_option maxHeartbeats 2000000 in
theorem sSetMeet_c (A B : Option Addr) (c d : Nat) (xs ys : List Sp) (w : World) {lo lo' : Nat} (h : Sps w lo A c xs) (h' : Sps w lo' B d ys) :
    Calls Try.prog 23 #[.slice A xs.length c, .slice B ys.length d] w fun e w' => ∃ v, e = .returned v ∧ OwnSp w' w.heap.size v (setMeet xs ys) ∧ Below w.heap.size w w' := by
  obtain ⟨i0, hi, hz0, hz1, hz2⟩ := info_parts infoBool
  go_enter Try.func23, Try.ntmps23
  go_wp2_with (at_make; refine wpList_make_full _ rfl _ _ 53 rfl w.heap.size TB i0 (.bool false) 1 Try.underlying53 hi hz0 hz1 .i64 .i64 _ _ 256 rfl rfl rfl rfl (by rw [hz2]; omega) (by unfold maxLen; omega) (Nat.le_refl _) ?_; intro w1 hown hgrow)
  have HX := Lib.hid (own_bits hown)
  have HB := Lib.hid ((Below.refl _ w).grown hgrow (Nat.le_refl _) (fun k hk => by cases hk))
  clear hown hgrow hi hz0 hz1 hz2
  go_loopg [6] 256 (fun n i wr => ∃ k : Nat, Hid (k + n = 256) ∧ i = .int .i64 k ∧ ∃ f : Nat → Bool, Hid (Blk wr w.heap.size (bitCells f).toArray TB) ∧ Hid (∀ j, j < k → f j = (setHas xs j && setHas ys j)) ∧ Hid (Below w.heap.size w wr))
  case atStart => exact ⟨0, rfl, rfl, _, HX, fun j hj => absurd hj (Nat.not_lt_zero _), HB⟩
  case round =>
    clear HX HB
    obtain ⟨k, hk, rfl, f, HX, HF, HB⟩ := hrel
    by_cases hk2 : k < 256
    · by_cases hf : setHas xs k = true
      · skip
        have G1 : Hid (setHas xs k = true) := hf
        go_wp2_with fail
        refine (sSetHas_c _ _ _ _ _ (h.below HB.out)).mono ?_
        rintro e w2 ⟨rfl, d2⟩
        replace HB := Lib.hid (below_then HB.out d2.below)
        replace HX := Lib.hid (HX.out.below d2.below)
        clear d2
        rw [G1.out]
        clear hf
        by_cases hf2 : setHas ys k = true
        · skip
          have G2 : Hid (setHas ys k = true) := hf2
          go_wp2_with fail
          refine (sSetHas_c _ _ _ _ _ (h'.below HB.out)).mono ?_
          rintro e w3 ⟨rfl, d2⟩
          replace HB := Lib.hid (below_then HB.out d2.below)
          replace HX := Lib.hid (HX.out.below d2.below)
          clear d2
          rw [G2.out]
          clear hf2
          have G : Hid ((setHas xs k && setHas ys k) = true) := by show _ = _; simp [G1.out, G2.out]
          have c0 := bitr_cell HX.out k hk2
          have f0 := HX.out.free k
          go_wp2
          go_roundg (gk - 1)
          case rel =>
            refine ⟨k + 1, by have := hk.out; show _ = _; omega, by go_num, _, bitr_set HX.out k _, ?_, below_set HB.out (Nat.le_refl _) _⟩
            intro j hj
            by_cases e : j = k
            · subst e; simp [G.out]
            · rw [if_neg e]
              exact HF.out j (by omega)
          case measure => have := hk.out; omega
        · replace hf2 : setHas ys k = false := by simpa using hf2
          have G2 : Hid (setHas ys k = false) := hf2
          go_wp2_with fail
          refine (sSetHas_c _ _ _ _ _ (h'.below HB.out)).mono ?_
          rintro e w3 ⟨rfl, d2⟩
          replace HB := Lib.hid (below_then HB.out d2.below)
          replace HX := Lib.hid (HX.out.below d2.below)
          clear d2
          rw [G2.out]
          clear hf2
          have G : Hid ((setHas xs k && setHas ys k) = false) := by show _ = _; simp [G1.out, G2.out]
          have c0 := bitr_cell HX.out k hk2
          have f0 := HX.out.free k
          go_wp2
          go_roundg (gk - 1)
          case rel =>
            refine ⟨k + 1, by have := hk.out; show _ = _; omega, by go_num, _, bitr_set HX.out k _, ?_, below_set HB.out (Nat.le_refl _) _⟩
            intro j hj
            by_cases e : j = k
            · subst e; simp [G.out]
            · rw [if_neg e]
              exact HF.out j (by omega)
          case measure => have := hk.out; omega
      · replace hf : setHas xs k = false := by simpa using hf
        have G1 : Hid (setHas xs k = false) := hf
        go_wp2_with fail
        refine (sSetHas_c _ _ _ _ _ (h.below HB.out)).mono ?_
        rintro e w2 ⟨rfl, d2⟩
        replace HB := Lib.hid (below_then HB.out d2.below)
        replace HX := Lib.hid (HX.out.below d2.below)
        clear d2
        rw [G1.out]
        clear hf
        have G : Hid ((setHas xs k && setHas ys k) = false) := by show _ = _; simp [G1.out]
        have c0 := bitr_cell HX.out k hk2
        have f0 := HX.out.free k
        go_wp2
        go_roundg (gk - 1)
        case rel =>
          refine ⟨k + 1, by have := hk.out; show _ = _; omega, by go_num, _, bitr_set HX.out k _, ?_, below_set HB.out (Nat.le_refl _) _⟩
          intro j hj
          by_cases e : j = k
          · subst e; simp [G.out]
          · rw [if_neg e]
            exact HF.out j (by omega)
        case measure => have := hk.out; omega
    · by_cases ho : setOk xs = true
      · have O1 : Hid (setOk xs = true) := ho
        go_wp2_with fail
        refine (sSetOk_c _ _ _ _ (h.below HB.out)).mono ?_
        rintro e w5 ⟨rfl, d2⟩
        replace HB := Lib.hid (below_then HB.out d2.below)
        replace HX := Lib.hid (HX.out.below d2.below)
        clear d2
        rw [O1.out]
        clear ho
        by_cases ho2 : setOk ys = true
        · have O2 : Hid (setOk ys = true) := ho2
          go_wp2_with fail
          refine (sSetOk_c _ _ _ _ (h'.below HB.out)).mono ?_
          rintro e w6 ⟨rfl, d2⟩
          replace HB := Lib.hid (below_then HB.out d2.below)
          replace HX := Lib.hid (HX.out.below d2.below)
          clear d2
          rw [O2.out]
          clear ho2
          have E : Hid (setMeet xs ys = spansOf fun j => setHas xs j && setHas ys j) := by show _ = _; simp [setMeet, O1.out, O2.out]
          go_wp2_with fail
          refine (sl1Of_c f _ _ HX.out).mono ?_
          rintro e w9 ⟨v9, rfl, o9, b9⟩
          go_wp2
          go_ret
          refine ⟨_, rfl, ?_, below_then HB.out b9⟩
          rw [E.out, spansOf_congr (fun i hi => (HF.out i (by omega)).symm)]
          exact o9.lower HB.out.size
        · have O2 : Hid (setOk ys = false) := by show _ = _; simpa using ho2
          go_wp2_with fail
          refine (sSetOk_c _ _ _ _ (h'.below HB.out)).mono ?_
          rintro e w6 ⟨rfl, d2⟩
          replace HB := Lib.hid (below_then HB.out d2.below)
          replace HX := Lib.hid (HX.out.below d2.below)
          clear d2
          rw [O2.out]
          clear ho2
          have E : Hid (setMeet xs ys = []) := by show _ = _; simp [setMeet, O2.out]
          go_wp2
          go_ret
          exact ⟨_, rfl, by rw [E.out]; exact (own_empty _).lower HB.out.size, below_alloc HB.out _⟩
      · have O1 : Hid (setOk xs = false) := by show _ = _; simpa using ho
        go_wp2_with fail
        refine (sSetOk_c _ _ _ _ (h.below HB.out)).mono ?_
        rintro e w5 ⟨rfl, d2⟩
        replace HB := Lib.hid (below_then HB.out d2.below)
        replace HX := Lib.hid (HX.out.below d2.below)
        clear d2
        rw [O1.out]
        clear ho
        have E : Hid (setMeet xs ys = []) := by show _ = _; simp [setMeet, O1.out]
        go_wp2
        go_ret
        exact ⟨_, rfl, by rw [E.out]; exact (own_empty _).lower HB.out.size, below_alloc HB.out _⟩

set_option maxRecDepth 100000 in
set_option maxHeartbeats 2000000 in
theorem sSetNot_c (A : Option Addr) (c : Nat) (xs : List Sp) (w : World) {lo : Nat} (h : Sps w lo A c xs) :
    Calls Try.prog 24 #[.slice A xs.length c] w fun e w' => ∃ v, e = .returned v ∧ OwnSp w' w.heap.size v (setNot xs) ∧ Below w.heap.size w w' := by
  obtain ⟨i0, hi, hz0, hz1, hz2⟩ := info_parts infoBool
  go_enter Try.func24, Try.ntmps24
  go_wp2_with (at_make; refine wpList_make_full _ rfl _ _ 53 rfl w.heap.size TB i0 (.bool false) 1 Try.underlying53 hi hz0 hz1 .i64 .i64 _ _ 256 rfl rfl rfl rfl (by rw [hz2]; omega) (by unfold maxLen; omega) (Nat.le_refl _) ?_; intro w1 hown hgrow)
  have HX := Lib.hid (own_bits hown)
  have HB := Lib.hid ((Below.refl _ w).grown hgrow (Nat.le_refl _) (fun k hk => by cases hk))
  clear hown hgrow hi hz0 hz1 hz2
  go_loopg [4] 256 (fun n i wr => ∃ k : Nat, Hid (k + n = 256) ∧ i = .int .i64 k ∧ ∃ f : Nat → Bool, Hid (Blk wr w.heap.size (bitCells f).toArray TB) ∧ Hid (∀ j, j < k → f j = (!setHas xs j)) ∧ Hid (Below w.heap.size w wr))
  case atStart => exact ⟨0, rfl, rfl, _, HX, fun j hj => absurd hj (Nat.not_lt_zero _), HB⟩
  case round =>
    clear HX HB
    obtain ⟨k, hk, rfl, f, HX, HF, HB⟩ := hrel
    by_cases hk2 : k < 256
    · by_cases hf : setHas xs k = true
      · skip
        have G : Hid (setHas xs k = true) := hf
        go_wp2_with fail
        refine (sSetHas_c _ _ _ _ _ (h.below HB.out)).mono ?_
        rintro e w2 ⟨rfl, d2⟩
        replace HB := Lib.hid (below_then HB.out d2.below)
        replace HX := Lib.hid (HX.out.below d2.below)
        clear d2
        rw [G.out]
        clear hf
        have c0 := bitr_cell HX.out k hk2
        have f0 := HX.out.free k
        go_wp2
        go_roundg (gk - 1)
        case rel =>
          refine ⟨k + 1, by have := hk.out; show _ = _; omega, by go_num, _, bitr_set HX.out k _, ?_, below_set HB.out (Nat.le_refl _) _⟩
          intro j hj
          by_cases e : j = k
          · subst e; simp [G.out]
          · rw [if_neg e]
            exact HF.out j (by omega)
        case measure => have := hk.out; omega
      · replace hf : setHas xs k = false := by simpa using hf
        have G : Hid (setHas xs k = false) := hf
        go_wp2_with fail
        refine (sSetHas_c _ _ _ _ _ (h.below HB.out)).mono ?_
        rintro e w2 ⟨rfl, d2⟩
        replace HB := Lib.hid (below_then HB.out d2.below)
        replace HX := Lib.hid (HX.out.below d2.below)
        clear d2
        rw [G.out]
        clear hf
        have c0 := bitr_cell HX.out k hk2
        have f0 := HX.out.free k
        go_wp2
        go_roundg (gk - 1)
        case rel =>
          refine ⟨k + 1, by have := hk.out; show _ = _; omega, by go_num, _, bitr_set HX.out k _, ?_, below_set HB.out (Nat.le_refl _) _⟩
          intro j hj
          by_cases e : j = k
          · subst e; simp [G.out]
          · rw [if_neg e]
            exact HF.out j (by omega)
        case measure => have := hk.out; omega
    · by_cases ho : setOk xs = true
      · have O1 : Hid (setOk xs = true) := ho
        go_wp2_with fail
        refine (sSetOk_c _ _ _ _ (h.below HB.out)).mono ?_
        rintro e w5 ⟨rfl, d2⟩
        replace HB := Lib.hid (below_then HB.out d2.below)
        replace HX := Lib.hid (HX.out.below d2.below)
        clear d2
        rw [O1.out]
        clear ho
        have E : Hid (setNot xs = spansOf fun j => !setHas xs j) := by show _ = _; simp [setNot, O1.out]
        go_wp2_with fail
        refine (sl1Of_c f _ _ HX.out).mono ?_
        rintro e w9 ⟨v9, rfl, o9, b9⟩
        go_wp2
        go_ret
        refine ⟨_, rfl, ?_, below_then HB.out b9⟩
        rw [E.out, spansOf_congr (fun i hi => (HF.out i (by omega)).symm)]
        exact o9.lower HB.out.size
      · have O1 : Hid (setOk xs = false) := by show _ = _; simpa using ho
        go_wp2_with fail
        refine (sSetOk_c _ _ _ _ (h.below HB.out)).mono ?_
        rintro e w5 ⟨rfl, d2⟩
        replace HB := Lib.hid (below_then HB.out d2.below)
        replace HX := Lib.hid (HX.out.below d2.below)
        clear d2
        rw [O1.out]
        clear ho
        have E : Hid (setNot xs = []) := by show _ = _; simp [setNot, O1.out]
        go_wp2
        go_ret
        exact ⟨_, rfl, by rw [E.out]; exact (own_empty _).lower HB.out.size, below_alloc HB.out _⟩

end Go.Proofs.Ytjnhmoinehffiaa
