/- Texts joined for the claims: W10 SetLaws Pa Pb Pc W8. -/
import Derived.Test.YtplhbjpkkhhilaaG5
import Derived.Test.YtplhbjpkkhhilaaG2
import Derived.Test.YtplhbjpkkhhilaaG1
import Derived.Deep.RegionHeld3
import Derived.Deep.DeepCutAuto
/- SetJoin, SetMeet, SetNot of the reference. (Printed by wip/gen/specops.py.) -/
namespace Go.Proofs.Ytplhbjpkkhhilaa
set_option linter.unusedSimpArgs false
set_option linter.unusedVariables false
open Go.RowKit

abbrev TB : Nat := 4
theorem infoBool : (Try.prog.info? TB).map (fun i => (i.zero, i.size, i.bytes)) = some (some (.bool false), 1, 1) := by kernel_rfl
theorem own_bits {w : World} {base g : Nat} (h : w.ownsRow base TB 1 (.slice (some ⟨g, 0, none⟩) 256 256) 256 (madeCells (Value.bool false).cells (256 * 1)).toList) : Blk w g (bitCells fun _ => false).toArray TB := by
  obtain ⟨cur, hb, hs, _, _, _, ht⟩ := own_blk h
  have e : cur = (bitCells fun _ => false).toArray := by
    apply Array.toList_inj.1
    rw [List.take_of_length_le (by rw [Array.length_toList, hs]; exact Nat.le_refl _)] at ht
    rw [ht]
    apply List.ext_getElem?
    intro j
    by_cases hj : j < 256
    · rw [bitCells_get _ _ hj]
      simp [madeCells, Value.cells, hj, Nat.mod_one]
    · rw [List.getElem?_eq_none (by simp [madeCells]; omega), List.getElem?_eq_none (by simp [bitCells_length]; omega)]
  rw [← e]; exact hb

set_option maxRecDepth 100000 in
set_option maxHeartbeats 2000000 in
theorem sSetMeet_c (A B : Option Addr) (c d : Nat) (xs ys : List Sp) (w : World) {lo lo' : Nat} (h : Sps w lo A c xs) (h' : Sps w lo' B d ys) :
    Calls Try.prog 74 #[.slice A xs.length c, .slice B ys.length d] w fun e w' => ∃ v, e = .returned v ∧ OwnSp w' w.heap.size v (setMeet xs ys) ∧ Below w.heap.size w w' := by
  obtain ⟨i0, hi, hz0, hz1, hz2⟩ := info_parts infoBool
  go_enter Try.func74, Try.ntmps74
  go_wp2_with (at_make; refine wpList_make_full _ rfl _ _ 79 rfl w.heap.size TB i0 (.bool false) 1 Try.underlying79 hi hz0 hz1 .i64 .i64 _ _ 256 rfl rfl rfl rfl (by rw [hz2]; omega) (by unfold maxLen; omega) (Nat.le_refl _) ?_; intro w1 hown hgrow)
  have HX := Lib.hid (own_bits hown)
  have HB := Lib.hid ((Below.refl _ w).grown hgrow (Nat.le_refl _) (fun k hk => by cases hk))
  clear hown hgrow hi hz0 hz1 hz2
  go_loopg [6] 256 (fun n i wr => ∃ k : Nat, Hid (k + n = 256) ∧ i = .int .i64 k ∧ ∃ f : Nat → Bool, Hid (Blk wr w.heap.size (bitCells f).toArray TB) ∧ Hid (∀ j, j < k → f j = (setHas xs j && setHas ys j)) ∧ Hid (Below w.heap.size w wr))
  case atStart => exact ⟨0, rfl, rfl, _, HX, fun j hj => absurd hj (Nat.not_lt_zero _), HB⟩
  case round =>
    clear HX HB
    obtain ⟨k, hk, rfl, f, HX, HF, HB⟩ := hrel
    by_cases hk2 : k < 256
    · by_cases hf : setHas xs k = true
      · skip
        have G1 : Hid (setHas xs k = true) := hf
        go_wp2_with fail
        refine (sSetHas_c _ _ _ _ _ (h.below HB.out)).mono ?_
        rintro e w2 ⟨rfl, d2⟩
        replace HB := Lib.hid (below_then HB.out d2.below)
        replace HX := Lib.hid (HX.out.below d2.below)
        clear d2
        rw [G1.out]
        clear hf
        by_cases hf2 : setHas ys k = true
        · skip
          have G2 : Hid (setHas ys k = true) := hf2
          go_wp2_with fail
          refine (sSetHas_c _ _ _ _ _ (h'.below HB.out)).mono ?_
          rintro e w3 ⟨rfl, d2⟩
          replace HB := Lib.hid (below_then HB.out d2.below)
          replace HX := Lib.hid (HX.out.below d2.below)
          clear d2
          rw [G2.out]
          clear hf2
          have G : Hid ((setHas xs k && setHas ys k) = true) := by show _ = _; simp [G1.out, G2.out]
          have c0 := bitr_cell HX.out k hk2
          have f0 := HX.out.free k
          go_wp2
          go_roundg (gk - 1)
          case rel =>
            refine ⟨k + 1, by have := hk.out; show _ = _; omega, by go_num, _, bitr_set HX.out k _, ?_, below_set HB.out (Nat.le_refl _) _⟩
            intro j hj
            by_cases e : j = k
            · subst e; simp [G.out]
            · rw [if_neg e]
              exact HF.out j (by omega)
          case measure => have := hk.out; omega
        · replace hf2 : setHas ys k = false := by simpa using hf2
          have G2 : Hid (setHas ys k = false) := hf2
          go_wp2_with fail
          refine (sSetHas_c _ _ _ _ _ (h'.below HB.out)).mono ?_
          rintro e w3 ⟨rfl, d2⟩
          replace HB := Lib.hid (below_then HB.out d2.below)
          replace HX := Lib.hid (HX.out.below d2.below)
          clear d2
          rw [G2.out]
          clear hf2
          have G : Hid ((setHas xs k && setHas ys k) = false) := by show _ = _; simp [G1.out, G2.out]
          have c0 := bitr_cell HX.out k hk2
          have f0 := HX.out.free k
          go_wp2
          go_roundg (gk - 1)
          case rel =>
            refine ⟨k + 1, by have := hk.out; show _ = _; omega, by go_num, _, bitr_set HX.out k _, ?_, below_set HB.out (Nat.le_refl _) _⟩
            intro j hj
            by_cases e : j = k
            · subst e; simp [G.out]
            · rw [if_neg e]
              exact HF.out j (by omega)
          case measure => have := hk.out; omega
      · replace hf : setHas xs k = false := by simpa using hf
        have G1 : Hid (setHas xs k = false) := hf
        go_wp2_with fail
        refine (sSetHas_c _ _ _ _ _ (h.below HB.out)).mono ?_
        rintro e w2 ⟨rfl, d2⟩
        replace HB := Lib.hid (below_then HB.out d2.below)
        replace HX := Lib.hid (HX.out.below d2.below)
        clear d2
        rw [G1.out]
        clear hf
        have G : Hid ((setHas xs k && setHas ys k) = false) := by show _ = _; simp [G1.out]
        have c0 := bitr_cell HX.out k hk2
        have f0 := HX.out.free k
        go_wp2
        go_roundg (gk - 1)
        case rel =>
          refine ⟨k + 1, by have := hk.out; show _ = _; omega, by go_num, _, bitr_set HX.out k _, ?_, below_set HB.out (Nat.le_refl _) _⟩
          intro j hj
          by_cases e : j = k
          · subst e; simp [G.out]
          · rw [if_neg e]
            exact HF.out j (by omega)
        case measure => have := hk.out; omega
    · by_cases ho : setOk xs = true
      · have O1 : Hid (setOk xs = true) := ho
        go_wp2_with fail
        refine (sSetOk_c _ _ _ _ (h.below HB.out)).mono ?_
        rintro e w5 ⟨rfl, d2⟩
        replace HB := Lib.hid (below_then HB.out d2.below)
        replace HX := Lib.hid (HX.out.below d2.below)
        clear d2
        rw [O1.out]
        clear ho
        by_cases ho2 : setOk ys = true
        · have O2 : Hid (setOk ys = true) := ho2
          go_wp2_with fail
          refine (sSetOk_c _ _ _ _ (h'.below HB.out)).mono ?_
          rintro e w6 ⟨rfl, d2⟩
          replace HB := Lib.hid (below_then HB.out d2.below)
          replace HX := Lib.hid (HX.out.below d2.below)
          clear d2
          rw [O2.out]
          clear ho2
          have E : Hid (setMeet xs ys = spansOf fun j => setHas xs j && setHas ys j) := by show _ = _; simp [setMeet, O1.out, O2.out]
          go_wp2_with fail
          refine (sl1Of_c f _ _ HX.out).mono ?_
          rintro e w9 ⟨v9, rfl, o9, b9⟩
          go_wp2
          go_ret
          refine ⟨_, rfl, ?_, below_then HB.out b9⟩
          rw [E.out, spansOf_congr (fun i hi => (HF.out i (by omega)).symm)]
          exact o9.lower HB.out.size
        · have O2 : Hid (setOk ys = false) := by show _ = _; simpa using ho2
          go_wp2_with fail
          refine (sSetOk_c _ _ _ _ (h'.below HB.out)).mono ?_
          rintro e w6 ⟨rfl, d2⟩
          replace HB := Lib.hid (below_then HB.out d2.below)
          replace HX := Lib.hid (HX.out.below d2.below)
          clear d2
          rw [O2.out]
          clear ho2
          have E : Hid (setMeet xs ys = []) := by show _ = _; simp [setMeet, O2.out]
          go_wp2
          go_ret
          exact ⟨_, rfl, by rw [E.out]; exact (own_empty _).lower HB.out.size, below_alloc HB.out _⟩
      · have O1 : Hid (setOk xs = false) := by show _ = _; simpa using ho
        go_wp2_with fail
        refine (sSetOk_c _ _ _ _ (h.below HB.out)).mono ?_
        rintro e w5 ⟨rfl, d2⟩
        replace HB := Lib.hid (below_then HB.out d2.below)
        replace HX := Lib.hid (HX.out.below d2.below)
        clear d2
        rw [O1.out]
        clear ho
        have E : Hid (setMeet xs ys = []) := by show _ = _; simp [setMeet, O1.out]
        go_wp2
        go_ret
        exact ⟨_, rfl, by rw [E.out]; exact (own_empty _).lower HB.out.size, below_alloc HB.out _⟩

set_option maxRecDepth 100000 in
set_option maxHeartbeats 2000000 in
theorem sSetNot_c (A : Option Addr) (c : Nat) (xs : List Sp) (w : World) {lo : Nat} (h : Sps w lo A c xs) :
    Calls Try.prog 75 #[.slice A xs.length c] w fun e w' => ∃ v, e = .returned v ∧ OwnSp w' w.heap.size v (setNot xs) ∧ Below w.heap.size w w' := by
  obtain ⟨i0, hi, hz0, hz1, hz2⟩ := info_parts infoBool
  go_enter Try.func75, Try.ntmps75
  go_wp2_with (at_make; refine wpList_make_full _ rfl _ _ 79 rfl w.heap.size TB i0 (.bool false) 1 Try.underlying79 hi hz0 hz1 .i64 .i64 _ _ 256 rfl rfl rfl rfl (by rw [hz2]; omega) (by unfold maxLen; omega) (Nat.le_refl _) ?_; intro w1 hown hgrow)
  have HX := Lib.hid (own_bits hown)
  have HB := Lib.hid ((Below.refl _ w).grown hgrow (Nat.le_refl _) (fun k hk => by cases hk))
  clear hown hgrow hi hz0 hz1 hz2
  go_loopg [4] 256 (fun n i wr => ∃ k : Nat, Hid (k + n = 256) ∧ i = .int .i64 k ∧ ∃ f : Nat → Bool, Hid (Blk wr w.heap.size (bitCells f).toArray TB) ∧ Hid (∀ j, j < k → f j = (!setHas xs j)) ∧ Hid (Below w.heap.size w wr))
  case atStart => exact ⟨0, rfl, rfl, _, HX, fun j hj => absurd hj (Nat.not_lt_zero _), HB⟩
  case round =>
    clear HX HB
    obtain ⟨k, hk, rfl, f, HX, HF, HB⟩ := hrel
    by_cases hk2 : k < 256
    · by_cases hf : setHas xs k = true
      · skip
        have G : Hid (setHas xs k = true) := hf
        go_wp2_with fail
        refine (sSetHas_c _ _ _ _ _ (h.below HB.out)).mono ?_
        rintro e w2 ⟨rfl, d2⟩
        replace HB := Lib.hid (below_then HB.out d2.below)
        replace HX := Lib.hid (HX.out.below d2.below)
        clear d2
        rw [G.out]
        clear hf
        have c0 := bitr_cell HX.out k hk2
        have f0 := HX.out.free k
        go_wp2
        go_roundg (gk - 1)
        case rel =>
          refine ⟨k + 1, by have := hk.out; show _ = _; omega, by go_num, _, bitr_set HX.out k _, ?_, below_set HB.out (Nat.le_refl _) _⟩
          intro j hj
          by_cases e : j = k
          · subst e; simp [G.out]
          · rw [if_neg e]
            exact HF.out j (by omega)
        case measure => have := hk.out; omega
      · replace hf : setHas xs k = false := by simpa using hf
        have G : Hid (setHas xs k = false) := hf
        go_wp2_with fail
        refine (sSetHas_c _ _ _ _ _ (h.below HB.out)).mono ?_
        rintro e w2 ⟨rfl, d2⟩
        replace HB := Lib.hid (below_then HB.out d2.below)
        replace HX := Lib.hid (HX.out.below d2.below)
        clear d2
        rw [G.out]
        clear hf
        have c0 := bitr_cell HX.out k hk2
        have f0 := HX.out.free k
        go_wp2
        go_roundg (gk - 1)
        case rel =>
          refine ⟨k + 1, by have := hk.out; show _ = _; omega, by go_num, _, bitr_set HX.out k _, ?_, below_set HB.out (Nat.le_refl _) _⟩
          intro j hj
          by_cases e : j = k
          · subst e; simp [G.out]
          · rw [if_neg e]
            exact HF.out j (by omega)
        case measure => have := hk.out; omega
    · by_cases ho : setOk xs = true
      · have O1 : Hid (setOk xs = true) := ho
        go_wp2_with fail
        refine (sSetOk_c _ _ _ _ (h.below HB.out)).mono ?_
        rintro e w5 ⟨rfl, d2⟩
        replace HB := Lib.hid (below_then HB.out d2.below)
        replace HX := Lib.hid (HX.out.below d2.below)
        clear d2
        rw [O1.out]
        clear ho
        have E : Hid (setNot xs = spansOf fun j => !setHas xs j) := by show _ = _; simp [setNot, O1.out]
        go_wp2_with fail
        refine (sl1Of_c f _ _ HX.out).mono ?_
        rintro e w9 ⟨v9, rfl, o9, b9⟩
        go_wp2
        go_ret
        refine ⟨_, rfl, ?_, below_then HB.out b9⟩
        rw [E.out, spansOf_congr (fun i hi => (HF.out i (by omega)).symm)]
        exact o9.lower HB.out.size
      · have O1 : Hid (setOk xs = false) := by show _ = _; simpa using ho
        go_wp2_with fail
        refine (sSetOk_c _ _ _ _ (h.below HB.out)).mono ?_
        rintro e w5 ⟨rfl, d2⟩
        replace HB := Lib.hid (below_then HB.out d2.below)
        replace HX := Lib.hid (HX.out.below d2.below)
        clear d2
        rw [O1.out]
        clear ho
        have E : Hid (setNot xs = []) := by show _ = _; simp [setNot, O1.out]
        go_wp2
        go_ret
        exact ⟨_, rfl, by rw [E.out]; exact (own_empty _).lower HB.out.size, below_alloc HB.out _⟩

end Go.Proofs.Ytplhbjpkkhhilaa

/- The laws of sets, in plain Lean. -/
namespace Go.Proofs.Ytplhbjpkkhhilaa
set_option linter.unusedSimpArgs false
set_option linter.unusedVariables false

theorem join_ok (a b : List Sp) : setOk (setJoin a b) = true := by
  unfold setJoin; split
  · exact setOk_spans _
  · rfl
theorem meet_ok (a b : List Sp) : setOk (setMeet a b) = true := by
  unfold setMeet; split
  · exact setOk_spans _
  · rfl
theorem not_ok (a : List Sp) : setOk (setNot a) = true := by
  unfold setNot; split
  · exact setOk_spans _
  · rfl
theorem has_out {a : List Sp} (h : setOk a = true) {i : Int} (hi : i < 0 ∨ 255 < i) : setHas a i = false := by
  rw [Bool.eq_false_iff]
  intro hc
  have := setOk_range h hc
  omega
theorem has_spans (f : Int → Bool) (hf : ∀ i, i < 0 ∨ 255 < i → f i = false) (i : Int) : setHas (spansOf fun k => f k) i = f i := by
  by_cases h : i < 0 ∨ 255 < i
  · rw [setHas_spans_out _ _ h, hf i h]
  · obtain ⟨k, rfl⟩ := Int.eq_ofNat_of_zero_le (show 0 ≤ i by omega)
    exact setHas_spans_nat _ k (by omega)
theorem has_join {a b : List Sp} (ha : setOk a = true) (hb : setOk b = true) (i : Int) : setHas (setJoin a b) i = (setHas a i || setHas b i) := by
  rw [setJoin, ha, hb]
  exact has_spans (fun i => setHas a i || setHas b i) (fun i hi => by simp [has_out ha hi, has_out hb hi]) i
theorem has_meet {a b : List Sp} (ha : setOk a = true) (hb : setOk b = true) (i : Int) : setHas (setMeet a b) i = (setHas a i && setHas b i) := by
  rw [setMeet, ha, hb]
  exact has_spans (fun i => setHas a i && setHas b i) (fun i hi => by simp [has_out ha hi]) i
theorem has_not {a : List Sp} (ha : setOk a = true) (i : Int) : setHas (setNot a) i = (decide (0 ≤ i) && decide (i ≤ 255) && !setHas a i) := by
  rw [setNot, ha]
  have e : (spansOf fun k => !setHas a (k : Int)) = spansOf fun k : Nat => (fun i : Int => decide (0 ≤ i) && decide (i ≤ 255) && !setHas a i) k := spansOf_congr fun k hk => by
    have h1 : (0 : Int) ≤ k := by omega
    have h2 : (k : Int) ≤ 255 := by omega
    simp [h1, h2]
  show setHas (spansOf fun k => !setHas a (k : Int)) i = _
  rw [e]
  exact has_spans (fun i => decide (0 ≤ i) && decide (i ≤ 255) && !setHas a i) (fun i hi => by
    rcases hi with hi | hi
    · have : ¬ 0 ≤ i := by omega
      simp [this]
    · have : ¬ i ≤ 255 := by omega
      simp [this]) i
theorem join_bad {a b : List Sp} (h : setOk a = false ∨ setOk b = false) : setJoin a b = [] := by
  unfold setJoin; rcases h with h | h <;> simp [h]
theorem meet_bad {a b : List Sp} (h : setOk a = false ∨ setOk b = false) : setMeet a b = [] := by
  unfold setMeet; rcases h with h | h <;> simp [h]

theorem not_not {a : List Sp} (ha : setOk a = true) : setNot (setNot a) = a := by
  refine setOk_ext (not_ok _) ha fun i => ?_
  rw [has_not (not_ok _), has_not ha]
  by_cases h : i < 0 ∨ 255 < i
  · rw [has_out ha h]
    rcases h with h | h
    · have : ¬ 0 ≤ i := by omega
      simp [this]
    · have : ¬ i ≤ 255 := by omega
      simp [this]
  · have h1 : 0 ≤ i := by omega
    have h2 : i ≤ 255 := by omega
    simp [h1, h2]

theorem cnt_not (f g : Nat → Bool) : ∀ n, (∀ k, k < n → g k = !f k) → cnt g n + cnt f n = n := by
  intro n
  induction n with
  | zero => intro _; rfl
  | succ n ih =>
    intro h
    have e := ih fun k hk => h k (by omega)
    have e0 := h n (by omega)
    simp only [cnt, e0]
    cases f n <;> simp <;> omega
theorem cnt_two (f g p q : Nat → Bool) : ∀ n, (∀ k, k < n → p k = (f k || g k)) → (∀ k, k < n → q k = (f k && g k)) → cnt p n + cnt q n = cnt f n + cnt g n := by
  intro n
  induction n with
  | zero => intro _ _; rfl
  | succ n ih =>
    intro h1 h2
    have e := ih (fun k hk => h1 k (by omega)) (fun k hk => h2 k (by omega))
    have e1 := h1 n (by omega)
    have e2 := h2 n (by omega)
    simp only [cnt, e1, e2]
    cases f n <;> cases g n <;> simp <;> omega
theorem cnt_le' (f : Nat → Bool) : ∀ n, cnt f n ≤ n := by
  intro n
  induction n with
  | zero => exact Nat.le_refl _
  | succ n ih => rw [cnt]; split <;> omega
theorem size_le (a : List Sp) : 0 ≤ setSize a ∧ setSize a ≤ 256 := by
  have := cnt_le' (fun i => setHas a i) 256
  unfold setSize
  omega
theorem size_not {a : List Sp} (ha : setOk a = true) : setSize (setNot a) + setSize a = 256 := by
  have := cnt_not (fun i => setHas a i) (fun i => setHas (setNot a) i) 256 fun k hk => by
    rw [has_not ha]
    have h1 : (0 : Int) ≤ k := by omega
    have h2 : (k : Int) ≤ 255 := by omega
    simp [h1, h2]
  unfold setSize
  omega
theorem size_two {a b : List Sp} (ha : setOk a = true) (hb : setOk b = true) : setSize (setJoin a b) + setSize (setMeet a b) = setSize a + setSize b := by
  have := cnt_two (fun i => setHas a i) (fun i => setHas b i) (fun i => setHas (setJoin a b) i) (fun i => setHas (setMeet a b) i) 256 (fun k _ => has_join ha hb _) (fun k _ => has_meet ha hb _)
  unfold setSize
  omega

/-! ### the algebra -/
theorem join_comm {a b : List Sp} (ha : setOk a = true) (hb : setOk b = true) : setJoin a b = setJoin b a :=
  setOk_ext (join_ok _ _) (join_ok _ _) fun i => by rw [has_join ha hb, has_join hb ha, Bool.or_comm]
theorem meet_comm {a b : List Sp} (ha : setOk a = true) (hb : setOk b = true) : setMeet a b = setMeet b a :=
  setOk_ext (meet_ok _ _) (meet_ok _ _) fun i => by rw [has_meet ha hb, has_meet hb ha, Bool.and_comm]
theorem join_assoc {a b c : List Sp} (ha : setOk a = true) (hb : setOk b = true) (hc : setOk c = true) : setJoin (setJoin a b) c = setJoin a (setJoin b c) :=
  setOk_ext (join_ok _ _) (join_ok _ _) fun i => by rw [has_join (join_ok _ _) hc, has_join ha hb, has_join ha (join_ok _ _), has_join hb hc, Bool.or_assoc]
theorem meet_join {a b c : List Sp} (ha : setOk a = true) (hb : setOk b = true) (hc : setOk c = true) : setMeet a (setJoin b c) = setJoin (setMeet a b) (setMeet a c) :=
  setOk_ext (meet_ok _ _) (join_ok _ _) fun i => by rw [has_meet ha (join_ok _ _), has_join hb hc, has_join (meet_ok _ _) (meet_ok _ _), has_meet ha hb, has_meet ha hc, Bool.and_or_distrib_left]
theorem not_join {a b : List Sp} (ha : setOk a = true) (hb : setOk b = true) : setNot (setJoin a b) = setMeet (setNot a) (setNot b) :=
  setOk_ext (not_ok _) (meet_ok _ _) fun i => by
    rw [has_not (join_ok _ _), has_join ha hb, has_meet (not_ok _) (not_ok _), has_not ha, has_not hb]
    cases decide (0 ≤ i) <;> cases decide (i ≤ 255) <;> cases setHas a i <;> cases setHas b i <;> rfl

/-! ### the first -/
theorem first_spec (f : Nat → Bool) : ∀ d i, (firstGo f d i = -1 ∧ ∀ k, i ≤ k → k < i + d → f k = false) ∨ (∃ k : Nat, firstGo f d i = k ∧ i ≤ k ∧ k < i + d ∧ f k = true ∧ ∀ j, i ≤ j → j < k → f j = false) := by
  intro d
  induction d with
  | zero => intro i; exact .inl ⟨rfl, fun k _ _ => by omega⟩
  | succ d ih =>
    intro i
    by_cases h : f i = true
    · refine .inr ⟨i, by rw [firstGo, if_pos h], Nat.le_refl _, by omega, h, fun j _ _ => by omega⟩
    · have h' : f i = false := by simpa using h
      have e : firstGo f (d + 1) i = firstGo f d (i + 1) := by rw [firstGo, if_neg h]
      rw [e]
      rcases ih (i + 1) with ⟨h1, h2⟩ | ⟨k, h1, h2, h3, h4, h5⟩
      · refine .inl ⟨h1, fun k hk hk2 => ?_⟩
        by_cases hki : k = i
        · rw [hki]; exact h'
        · exact h2 k (by omega) (by omega)
      · refine .inr ⟨k, h1, by omega, by omega, h4, fun j hj hj2 => ?_⟩
        by_cases hji : j = i
        · rw [hji]; exact h'
        · exact h5 j (by omega) hj2
theorem setFirst_spec (s : List Sp) : (setFirst s = -1 ∧ ∀ k : Nat, k < 256 → setHas s k = false) ∨ (∃ k : Nat, setFirst s = k ∧ k < 256 ∧ setHas s k = true ∧ ∀ j : Nat, j < k → setHas s j = false) := by
  rcases first_spec (fun i => setHas s i) 256 0 with ⟨h1, h2⟩ | ⟨k, h1, _, h3, h4, h5⟩
  · exact .inl ⟨h1, fun k hk => h2 k (Nat.zero_le _) (by omega)⟩
  · exact .inr ⟨k, h1, by omega, h4, fun j hj => h5 j (Nat.zero_le _) hj⟩
theorem cnt_zero (f : Nat → Bool) : ∀ n, cnt f n = 0 ↔ ∀ k, k < n → f k = false := by
  intro n
  induction n with
  | zero => simp [cnt]
  | succ n ih =>
    rw [cnt]
    constructor
    · intro h k hk
      have h0 : f n = false := by
        rw [Bool.eq_false_iff]; intro hc; rw [hc] at h; simp at h
      by_cases hkn : k = n
      · rw [hkn]; exact h0
      · exact ih.1 (by omega) k (by omega)
    · intro h
      rw [h n (by omega), ih.2 fun k hk => h k (by omega)]
      rfl
theorem size_zero (s : List Sp) : setSize s = 0 ↔ setFirst s < 0 := by
  have e : setSize s = 0 ↔ ∀ k, k < 256 → (fun i : Nat => setHas s i) k = false := by
    rw [← cnt_zero]
    unfold setSize
    omega
  rw [e]
  rcases setFirst_spec s with ⟨h1, h2⟩ | ⟨k, h1, h3, h4, h5⟩
  · rw [h1]
    exact ⟨fun _ => by omega, fun _ => h2⟩
  · rw [h1]
    refine ⟨fun h => ?_, fun h => by omega⟩
    have := h k h3
    simp only [h4] at this
    cases this
theorem one_ok {k : Nat} (h : k < 256) : setOk [⟨k, k⟩] = true := by
  have : spBad none ⟨k, k⟩ = false := (spBad_false _ _).2 ⟨by show (0 : Int) ≤ k; omega, by show (k : Int) ≤ k; omega, by show (k : Int) ≤ 255; omega, fun q hq => by cases hq⟩
  simp [setOk, setOkGo, this]
theorem has_one (k : Nat) (i : Int) : setHas [⟨k, k⟩] i = decide (i = k) := by
  rw [setHas_cons, setHas_nil, Bool.or_false, Bool.eq_iff_iff, spIn_iff, decide_eq_true_eq]
  show (k : Int) ≤ i ∧ i ≤ (k : Int) ↔ _
  omega
theorem meet_one {s : List Sp} {k : Nat} (hs : setOk s = true) (hk : k < 256) (h : setHas s k = true) : setMeet s [⟨k, k⟩] = [⟨k, k⟩] :=
  setOk_ext (meet_ok _ _) (one_ok hk) fun i => by
    rw [has_meet hs (one_ok hk), has_one]
    by_cases e : i = k
    · subst e; simp [h]
    · simp [e]
theorem join_one {s : List Sp} {k : Nat} (hs : setOk s = true) (hk : k < 256) (h : setHas s k = true) : setJoin s [⟨k, k⟩] = s :=
  setOk_ext (join_ok _ _) hs fun i => by
    rw [has_join hs (one_ok hk), has_one]
    by_cases e : i = k
    · subst e; simp [h]
    · simp [e]
theorem cnt_one (f : Nat → Bool) (k : Nat) (h : ∀ j, f j = decide (j = k)) : ∀ n, cnt f n = if k < n then 1 else 0 := by
  intro n
  induction n with
  | zero => rfl
  | succ n ih =>
    rw [cnt, ih, h n]
    by_cases h1 : k < n
    · simp [h1, show ¬ n = k by omega, show k < n + 1 by omega]
    · by_cases h2 : n = k
      · subst h2; simp
      · simp [h1, h2, show ¬ k < n + 1 by omega]
theorem size_one {k : Nat} (hk : k < 256) : setSize [⟨k, k⟩] = 1 := by
  have := cnt_one (fun i => setHas [⟨k, k⟩] i) k (fun j => by
    show setHas [⟨k, k⟩] (j : Int) = _
    rw [has_one, Bool.eq_iff_iff, decide_eq_true_eq, decide_eq_true_eq]; omega) 256
  unfold setSize
  rw [this, if_pos hk]
  rfl

end Go.Proofs.Ytplhbjpkkhhilaa

/- The parts that sets make: plain law. -/
namespace Go.Proofs.Ytplhbjpkkhhilaa
set_option linter.unusedSimpArgs false
set_option linter.unusedVariables false

def key (xss : List (List Sp)) (x : Nat) : List Bool := xss.map fun s => setHas s (x : Int)
def isRep (xss : List (List Sp)) (x : Nat) : Bool := (List.range x).all fun y => decide (key xss y ≠ key xss x)
def partOf (xss : List (List Sp)) (x : Nat) : List Sp := spansOf fun y => decide (key xss y = key xss x)
def partsOf (xss : List (List Sp)) : List (List Sp) := ((List.range 256).filter fun x => isRep xss x).map (partOf xss)
def setParts (xss : List (List Sp)) : List (List Sp) := if xss.all setOk then partsOf xss else []

/-- some byte -/
def someB (f : Nat → Bool) : Bool := (List.range 256).any f
/-- one part, by one set -/
def cut1 (g : Nat → Bool) (f : Nat → Bool) : List (Nat → Bool) :=
  (if someB (fun y => f y && g y) then [fun y => f y && g y] else []) ++ (if someB (fun y => f y && !g y) then [fun y => f y && !g y] else [])
def ref1 (g : Nat → Bool) (fs : List (Nat → Bool)) : List (Nat → Bool) := fs.flatMap (cut1 g)
theorem someB_of {f : Nat → Bool} {x : Nat} (hx : x < 256) (h : f x = true) : someB f = true := List.any_eq_true.2 ⟨x, List.mem_range.2 hx, h⟩
theorem cut1_filter (g f : Nat → Bool) {x : Nat} (hx : x < 256) : (cut1 g f).filter (fun h => h x) = if f x then [fun y => f y && (if g x then g y else !g y)] else [] := by
  unfold cut1
  by_cases hf : f x = true
  · rw [if_pos hf]
    by_cases hg : g x = true
    · rw [if_pos (someB_of hx (by rw [hf, hg]; rfl))]
      simp only [hg, if_true]
      rw [List.filter_append]
      split <;> simp [hf, hg]
    · have hg' : g x = false := by simpa using hg
      rw [if_pos (someB_of (f := fun y => f y && !g y) hx (by rw [hf, hg']; rfl))]
      rw [List.filter_append]
      split <;> simp [hf, hg']
  · have hf' : f x = false := by simpa using hf
    rw [if_neg hf, List.filter_append]
    split <;> split <;> simp [hf']
/-- each byte lies in one part, and the part is the byte's class -/
def Inv (xss : List (List Sp)) (fs : List (Nat → Bool)) : Prop := ∀ x, x < 256 → ∃ h, fs.filter (fun f => f x) = [h] ∧ ∀ y, y < 256 → h y = decide (key xss y = key xss x)
theorem inv_first : Inv [] [fun _ => true] := fun x _ => ⟨fun _ => true, rfl, fun y _ => by simp [key]⟩
theorem filter_flat (g : Nat → Bool) {x : Nat} (hx : x < 256) : ∀ fs : List (Nat → Bool), (ref1 g fs).filter (fun h => h x) = (fs.filter (fun f => f x)).map fun f => fun y => f y && (if g x then g y else !g y)
  | [] => rfl
  | f :: fs => by
    have ih := filter_flat g hx fs
    rw [ref1] at ih ⊢
    rw [List.flatMap_cons, List.filter_append, ih, cut1_filter g f hx, List.filter_cons]
    split <;> simp
theorem inv_step {xss : List (List Sp)} {fs : List (Nat → Bool)} (s : List Sp) (h : Inv xss fs) : Inv (xss ++ [s]) (ref1 (fun y => setHas s (y : Int)) fs) := by
  intro x hx
  obtain ⟨f, hf, hk⟩ := h x hx
  refine ⟨_, by rw [filter_flat _ hx, hf]; rfl, fun y hy => ?_⟩
  show (f y && _) = _
  rw [hk y hy]
  unfold key
  rw [List.map_append, List.map_append, Bool.eq_iff_iff]
  simp only [List.map_cons, List.map_nil, Bool.and_eq_true, decide_eq_true_eq]
  constructor
  · rintro ⟨e1, e2⟩
    rw [e1]
    split at e2 <;> simp_all
  · intro e
    have := List.append_inj e (by simp)
    obtain ⟨e1, e2⟩ := this
    injection e2 with e2
    refine ⟨e1, ?_⟩
    split <;> simp_all

/-- the parts by their first bytes -/
def sortF (fs : List (Nat → Bool)) : List (Nat → Bool) := (List.range 256).flatMap fun (i : Nat) => fs.filter fun f => decide (setFirst (spansOf f) = (i : Int))
theorem first_is (f : Nat → Bool) {i : Nat} (hi : i < 256) : decide (setFirst (spansOf f) = (i : Int)) = (f i && (List.range i).all fun y => !f y) := by
  rw [Bool.eq_iff_iff, decide_eq_true_eq, Bool.and_eq_true, List.all_eq_true]
  rcases setFirst_spec (spansOf f) with ⟨e, hno⟩ | ⟨k, e, hk, hy, hb⟩
  · rw [e]
    constructor
    · intro h; omega
    · rintro ⟨h, _⟩
      have := hno i hi
      rw [setHas_spans_nat f i hi, h] at this
      cases this
  · rw [e]
    rw [setHas_spans_nat f k hk] at hy
    constructor
    · intro h
      have h : k = i := by omega
      subst h
      refine ⟨hy, fun y hyy => ?_⟩
      have hlt := List.mem_range.1 hyy
      have := hb y hlt
      rw [setHas_spans_nat f y (by omega)] at this
      rw [this]; rfl
    · rintro ⟨h, hall⟩
      rcases Nat.lt_trichotomy k i with h1 | h1 | h1
      · have := hall k (List.mem_range.2 h1)
        rw [hy] at this
        cases this
      · rw [h1]
      · have := hb i h1
        rw [setHas_spans_nat f i hi, h] at this
        cases this
theorem flat_if {α β : Type} (p : α → Bool) (q : α → β) : ∀ l : List α, (l.flatMap fun i => if p i then [q i] else []) = (l.filter p).map q
  | [] => rfl
  | a :: l => by
    rw [List.flatMap_cons, flat_if p q l, List.filter_cons]
    split <;> simp
theorem sort_eq {xss : List (List Sp)} {fs : List (Nat → Bool)} (h : Inv xss fs) : (sortF fs).map spansOf = partsOf xss := by
  unfold sortF partsOf
  rw [List.map_flatMap, ← flat_if]
  have key' : ∀ l : List Nat, (∀ i, i ∈ l → i < 256) → (l.flatMap fun (i : Nat) => (fs.filter fun f => decide (setFirst (spansOf f) = (i : Int))).map spansOf) = l.flatMap fun i => if isRep xss i then [partOf xss i] else [] := by
    intro l
    induction l with
    | nil => intro _; rfl
    | cons i l ih =>
      intro hl
      have hi : i < 256 := hl i (by simp)
      rw [List.flatMap_cons, List.flatMap_cons, ih fun j hj => hl j (by simp [hj])]
      congr 1
      obtain ⟨g, hg, hk⟩ := h i hi
      have e : (fs.filter fun f => decide (setFirst (spansOf f) = (i : Int))) = (fs.filter fun f => f i).filter fun f => (List.range i).all fun y => !f y := by
        rw [List.filter_filter]
        congr 1
        funext f
        rw [first_is f hi, Bool.and_comm]
      rw [e, hg]
      have e2 : ((List.range i).all fun y => !g y) = isRep xss i := by
        unfold isRep
        rw [Bool.eq_iff_iff, List.all_eq_true, List.all_eq_true]
        refine forall_congr' fun y => forall_congr' fun hy => ?_
        have := List.mem_range.1 hy
        rw [hk y (by omega)]
        simp
      rw [List.filter_cons, e2]
      split
      · rw [List.filter_nil, List.map_cons, List.map_nil]
        rw [show spansOf g = partOf xss i from spansOf_congr hk]
      · rfl
  exact key' _ fun i hi => List.mem_range.1 hi

end Go.Proofs.Ytplhbjpkkhhilaa

/- l1Parts of the reference. -/
namespace Go.Proofs.Ytplhbjpkkhhilaa
set_option linter.unusedSimpArgs false
set_option linter.unusedVariables false
open Go.RowKit

def cutS (s p : List Sp) : List (List Sp) := (if 0 < (setMeet p s).length then [setMeet p s] else []) ++ (if 0 < (setMeet p (setNot s)).length then [setMeet p (setNot s)] else [])
def partsS (s : List Sp) (ps : List (List Sp)) : List (List Sp) := ps.flatMap (cutS s)
theorem partsS_take {s : List Sp} {ps : List (List Sp)} {j : Nat} {p : List Sp} (h : ps[j]? = some p) : partsS s (ps.take (j + 1)) = partsS s (ps.take j) ++ cutS s p := by
  unfold partsS
  rw [List.take_add_one, h, List.flatMap_append]
  simp
theorem cutS_len (s p : List Sp) : (cutS s p).length ≤ 2 := by
  unfold cutS
  rw [List.length_append]
  split <;> split <;> simp
theorem partsS_len (s : List Sp) : ∀ ps : List (List Sp), (partsS s ps).length ≤ 2 * ps.length
  | [] => by simp [partsS]
  | p :: ps => by
    have h1 := partsS_len s ps
    have h2 := cutS_len s p
    unfold partsS at h1 ⊢
    rw [List.flatMap_cons, List.length_append, List.length_cons]
    omega
/-- the spans' cut is the functions' cut -/
theorem someB_len (f : Nat → Bool) : someB f = decide (0 < (spansOf f).length) := by
  rw [Bool.eq_iff_iff, decide_eq_true_eq]
  unfold someB
  rw [List.any_eq_true]
  constructor
  · rintro ⟨x, hx, hf⟩
    have hx := List.mem_range.1 hx
    have h := setHas_spans_nat f x hx
    rw [hf] at h
    rcases hs : spansOf f with _ | ⟨a, l⟩
    · rw [hs] at h; cases h
    · simp
  · intro h
    rcases Classical.em (∃ x, x ∈ List.range 256 ∧ f x = true) with h1 | h1
    · exact h1
    · exfalso
      have : spansOf f = spansOf fun _ => false := spansOf_congr fun k hk => by
        rw [Bool.eq_false_iff]
        exact fun hf => h1 ⟨k, List.mem_range.2 hk, hf⟩
      rw [this] at h
      exact absurd h (by rw [show spansOf (fun _ => false) = [] by decide +kernel]; simp)
theorem meet_spans (f : Nat → Bool) {s : List Sp} (hs : setOk s = true) : setMeet (spansOf f) s = spansOf fun y => f y && setHas s (y : Int) := by
  unfold setMeet
  rw [setOk_spans, hs]
  exact spansOf_congr fun k hk => by rw [setHas_spans_nat f k hk]
theorem notS_ok {s : List Sp} (hs : setOk s = true) : setOk (setNot s) = true := by unfold setNot; rw [if_pos hs]; exact setOk_spans _
theorem notS_has {s : List Sp} (hs : setOk s = true) {k : Nat} (hk : k < 256) : setHas (setNot s) (k : Int) = !setHas s (k : Int) := by unfold setNot; rw [if_pos hs]; exact setHas_spans_nat _ k hk
theorem cut_spans {s : List Sp} (hs : setOk s = true) (f : Nat → Bool) : cutS s (spansOf f) = (cut1 (fun y => setHas s (y : Int)) f).map spansOf := by
  have e2 : setMeet (spansOf f) (setNot s) = spansOf fun y => f y && !setHas s (y : Int) := by
    rw [meet_spans f (notS_ok hs)]
    exact spansOf_congr fun k hk => by rw [notS_has hs hk]
  unfold cutS cut1
  rw [meet_spans f hs, e2, List.map_append, someB_len, someB_len]
  congr 1
  · by_cases h : 0 < (spansOf fun y => f y && setHas s (y : Int)).length <;> simp [h]
  · by_cases h : 0 < (spansOf fun y => f y && !setHas s (y : Int)).length <;> simp [h]
theorem parts_spans {s : List Sp} (hs : setOk s = true) : ∀ fs : List (Nat → Bool), partsS s (fs.map spansOf) = (ref1 (fun y => setHas s (y : Int)) fs).map spansOf
  | [] => rfl
  | f :: fs => by
    have ih := parts_spans hs fs
    unfold partsS ref1 at ih ⊢
    rw [List.map_cons, List.flatMap_cons, ih, cut_spans hs f, List.flatMap_cons, List.map_append]

end Go.Proofs.Ytplhbjpkkhhilaa

/- l1Parts of the reference. -/
namespace Go.Proofs.Ytplhbjpkkhhilaa
set_option linter.unusedSimpArgs false
set_option linter.unusedVariables false
open Go.RowKit

/-- one set is appended -/
theorem OwnSS.one {w w' : World} {fp : List Nat} {v v' x : Value} {xss : List (List Sp)} {xs : List Sp} {L : List Value} (h : OwnSS w fp v xss L) (ho : OwnSp w 0 x xs) (hdj : ∀ b, b ∈ vblk x → b ∉ fp)
    (hown : w'.ownsRow 0 TSS 1 v' (xss.length + 1) (L ++ [x])) (hg : w.grownBy w' v.ownBlock) (hat : ∀ b, b ∈ vblk v' → b ∈ vblk v ∨ b = w.heap.size) (hn : xss.length + 1 ≤ maxN) :
    OwnSS w' (vblk v' ++ (L ++ [x]).flatMap vblk) v' (xss ++ [xs]) (L ++ [x]) :=
  h.app (yss := [xs]) (M := [x]) rfl (fun i ys y hi hy => by
    match i with
    | 0 => simp at hi hy; subst hi hy; exact ho
    | i + 1 => simp at hi) (by simpa using vblk_nodup _) (fun b hb => hdj b (by simpa using hb)) hown hg hat hn
/-- what one appended set leaves -/
structure StepSS (n : Nat) (w0 w wE : World) (fp : List Nat) (v v' : Value) (x : Value) (xss : List (List Sp)) (xs : List Sp) (L : List Value) : Prop where
  ex : ∃ fp', OwnSS wE fp' v' (xss ++ [xs]) (L ++ [x]) ∧ (∀ b, b ∈ fp' → b ∈ fp ∨ b ∈ vblk x ∨ w.heap.size ≤ b) ∧ ∀ b, b ∈ fp' → n ≤ b
  bel : Below n w0 wE
  size : w.heap.size ≤ wE.heap.size
  far : ∀ b, b < w.heap.size → b ∉ vblk v → wE.heap[b]? = w.heap[b]?
theorem step_one {n : Nat} {w0 w wE : World} {fp : List Nat} {v v' x : Value} {xss : List (List Sp)} {xs : List Sp} {L : List Value} {O : Obj} {m : Nat} (h : OwnSS w fp v xss L) (ho : OwnSp w 0 x xs) (hdj : ∀ b, b ∈ vblk x → b ∉ fp) (hm : m = xss.length)
    (hown : wE.ownsRow 0 TSS 1 v' (m + 1) (L ++ [x])) (hg : (w.alloc O).grownBy wE v.ownBlock) (hat : ∀ b, b ∈ vblk v' → b ∈ vblk v ∨ b = (w.alloc O).heap.size) (hn : m + 1 ≤ maxN) (hlo : ∀ b, b ∈ fp → n ≤ b) (hx : ∀ b, b ∈ vblk x → n ≤ b) (hz : n ≤ w.heap.size) (hb : Below n w0 w) (hw0 : n = w0.heap.size) :
    StepSS n w0 w wE fp v v' x xss xs L := by
  subst hm hw0
  have ba := below_alloc (Below.refl w.heap.size w) O
  have hO := (h.under ba).one (ho.stay fun b hb => ba.block b (ho.lt b hb).2) hdj hown hg hat hn
  have hzA : (w.alloc O).heap.size = w.heap.size + 1 := by simp
  have hv : ∀ b, b ∈ vblk v → b ∈ fp := fun b hb => by rw [h.fe]; exact List.mem_append_left _ hb
  have hfp : ∀ b, b ∈ vblk v' ++ (L ++ [x]).flatMap vblk → b ∈ fp ∨ b ∈ vblk x ∨ w.heap.size ≤ b := by
    intro b hb
    rcases List.mem_append.1 hb with hb | hb
    · rcases hat b hb with h1 | h1
      · exact .inl (hv b h1)
      · right; right; omega
    · rw [List.flatMap_append] at hb
      rcases List.mem_append.1 hb with hb | hb
      · left; rw [h.fe]; exact List.mem_append_right _ hb
      · right; left; simpa using hb
  have hsz := hg.size
  refine ⟨⟨_, hO, hfp, fun b hb => ?_⟩, ?_, by omega, fun b hb1 hb2 => ?_⟩
  · rcases hfp b hb with h1 | h1 | h1
    · exact hlo b h1
    · exact hx b h1
    · omega
  · refine (below_alloc hb O).grown hg (by omega) fun q hq => ?_
    exact hlo q (hv q (mem_vblk.2 hq))
  · exact (hg.block b (by omega) fun e => hb2 (mem_vblk.2 e.symm)).trans (ba.block b hb1)
theorem step_next {n : Nat} {w0 w wE : World} {fp : List Nat} {v v' x y : Value} {xss : List (List Sp)} {xs ys : List Sp} {L : List Value} {m : Nat} (S : StepSS n w0 w wE fp v v' x xss xs L) (h : OwnSS w fp v xss L) (hy : OwnSp w 0 y ys) (hdy : ∀ b, b ∈ vblk y → b ∉ fp) (hxy : ∀ b, b ∈ vblk y → b ∉ vblk x) (hm : m = xss.length) :
    ∃ fp5, OwnSS wE fp5 v' (xss ++ [xs]) (L ++ [x]) ∧ OwnSp wE 0 y ys ∧ (∀ b, b ∈ vblk y → b ∉ fp5) ∧ (∀ b, b ∈ fp5 → n ≤ b) ∧ wE.ownsRow 0 TSS 1 v' (m + 1) (L ++ [x]) ∧ m + 1 = (xss ++ [xs]).length := by
  obtain ⟨fp5, h1, h2, h3⟩ := S.ex
  have e : m + 1 = (xss ++ [xs]).length := by rw [List.length_append, hm]; rfl
  refine ⟨fp5, h1, hy.stay fun b hb => S.far b (hy.lt b hb).2 fun h4 => hdy b hb (by rw [h.fe]; exact List.mem_append_left _ h4), fun b hb h4 => ?_, h3, by have := h1.hk; rw [← e] at this; exact this, e⟩
  rcases h2 b h4 with h5 | h5 | h5
  · exact hdy b hb h5
  · exact hxy b hb h5
  · have := (hy.lt b hb).2; omega
set_option maxHeartbeats 1000000 in
theorem sParts_c (ps : List (List Sp)) (s : List Sp) (K A : Option Addr) (ck c : Nat) (w : World) {lo lo' : Nat} (h : SSV w lo K ck ps) (h' : Sps w lo' A c s) (hn : ps.length ≤ 100000) :
    Calls Try.prog 48 #[.slice K ps.length ck, .slice A s.length c] w fun e w' => ∃ v fp L, e = .returned v ∧ OwnSS w' fp v (partsS s ps) L ∧ (∀ b, b ∈ fp → w.heap.size ≤ b) ∧ Below w.heap.size w w' := by
  have HP := Lib.hid h
  have HS := Lib.hid h'
  have HO := Lib.hid (own_ee w)
  have HB0 : Hid (Below w.heap.size w (w.alloc (.cells #[] TSS))) := below_alloc (Below.refl _ _) _
  have HF : Hid (∀ b, b ∈ [w.heap.size] → w.heap.size ≤ b) := fun b hb => by simp at hb; omega
  obtain ⟨i1', hi, hz0, hza, hz2⟩ := info_parts infoSS
  clear h h'
  go_enter Try.func48, Try.ntmps48
  go_wp2_with fail
  go_loopg [5, 6] (ps.length) (fun n v i wr => ∃ j : Nat, j + n = ps.length ∧ i = .int .i64 j ∧ ∃ (A2 : Option Addr) (n2 c2 : Nat) (fp : List Nat) (L : List Value), v = .slice A2 n2 c2 ∧ Hid (n2 = (partsS s (ps.take j)).length) ∧ Hid (OwnSS wr fp (.slice A2 n2 c2) (partsS s (ps.take j)) L) ∧ Hid (∀ b, b ∈ fp → w.heap.size ≤ b) ∧ Hid (Below w.heap.size w wr))
  case atStart => exact ⟨0, by omega, rfl, _, _, _, _, _, rfl, rfl, HO, HF, HB0⟩
  case round =>
    clear HO HF HB0
    obtain ⟨j, hj, rfl, A2, n2, c2, fp, L, rfl, HN, HO, HF, HB0⟩ := hrel
    by_cases hlt : j < ps.length
    · obtain ⟨a, B, q, p, rfl, HX, HV, c0⟩ := (HP.out.below HB0.out).at_ j hlt
      have i0 : (0 : Int) ≤ (j : Int) := by omega
      have i1 : (j : Int) < (ps.length : Int) := by omega
      go_wp2_with fail
      refine (sSetMeet_c _ _ _ _ p s wr HV.out (HS.out.below HB0.out)).mono ?_
      rintro e w1 ⟨vM, rfl, oM, bM⟩
      obtain ⟨AM, cM, rfl, _⟩ := oM.sps
      have OM := Lib.hid oM
      have BM := Lib.hid bM
      have c1 := (bM.cell (World.block_lt_of_cell? wr _ c0)).trans c0
      clear oM bM c0
      have CM : Hid (∀ w', Below w1.heap.size w1 w' → w'.cell? (a.add j) = some (.slice B p.length q)) := fun w' hb => (hb.cell (World.block_lt_of_cell? w1 _ c1)).trans c1
      have B1 := Lib.hid (below_then HB0.out BM.out)
      have HV1 := Lib.hid (HV.out.below BM.out)
      go_wp2_with fail
      go_cut [8] (fun s8 wx => ∃ (AN : Option Addr) (cN : Nat), s8 = .slice AN (setMeet p (setNot s)).length cN ∧ Hid (OwnSp wx w1.heap.size (.slice AN (setMeet p (setNot s)).length cN) (setMeet p (setNot s))) ∧ Hid (Below w1.heap.size w1 wx))
      case first =>
        go_region_held3 (fun w' => w'.cell? (a.add j) = some (.slice B p.length q))
          (first | exact CM.out _ (Below.refl _ _) | exact CM.out _ (below_drew (Below.refl _ _)) | exact CM.out _ BA.out | exact CM.out _ BD.out)
          (first
            | (go_at_call 75; with_reducible refine (sSetNot_c _ _ s w1.drew ((HS.out.below B1.out).below (below_drew (Below.refl _ _)))).mono ?_; rintro e wA ⟨vA, rfl, oA, bA⟩; obtain ⟨AA, cA, rfl, sA⟩ := oA.sps; have BA := Lib.hid (below_then (below_drew (Below.refl w1.heap.size w1)) bA); have SA := Lib.hid sA; clear oA bA sA)
            | (go_at_call 74; with_reducible refine (sSetMeet_c _ _ _ _ p (setNot s) wA (HV1.out.below BA.out) SA.out).mono ?_; rintro e wD ⟨vD, rfl, oD, bD⟩; obtain ⟨AD, cD, rfl, _⟩ := oD.sps; have BD := Lib.hid (below_then BA.out bD); have OD := Lib.hid (show OwnSp wD w1.heap.size (.slice AD (setMeet p (setNot s)).length cD) (setMeet p (setNot s)) from ⟨own_lower oD.own BA.out.size, oD.len⟩); clear oD bD))
        go_wp2_with fail
        go_meet
        exact ⟨AD, cD, rfl, OD, BD⟩
      case rest =>
        obtain ⟨AN, cN, rfl, ON, BN⟩ := hcut
        clear CM c1
        have hnl : n2 ≤ 200000 := by have := partsS_len s (ps.take j); have := HN.out; simp at *; omega
        have Bc : Hid (Below wr.heap.size wr wc) := below_then BM.out BN.out
        have Oc := Lib.hid (HO.out.under Bc.out)
        have Hc : Hid (wc.ownsRow 0 TSS 1 (.slice A2 n2 c2) n2 L) := by have := Oc.out.hk; rw [← HN.out] at this; exact this
        have OMc : Hid (OwnSp wc wr.heap.size (.slice AM (setMeet p s).length cM) (setMeet p s)) := ⟨own_below OM.out.own BN.out, OM.out.len⟩
        have ONc : Hid (OwnSp wc wr.heap.size (.slice AN (setMeet p (setNot s)).length cN) (setMeet p (setNot s))) := ⟨own_lower ON.out.own BM.out.size, ON.out.len⟩
        have hzr := HB0.out.size
        have HdM : Hid (∀ b, b ∈ vblk (.slice AM (setMeet p s).length cM) → b ∉ fp) := fun b hb h => by have := HO.out.lt b h; have := (OMc.out.lt b hb).1; omega
        have HdN : Hid (∀ b, b ∈ vblk (.slice AN (setMeet p (setNot s)).length cN) → b ∉ fp) := fun b hb h => by have := HO.out.lt b h; have := (ONc.out.lt b hb).1; omega
        have HxM : Hid (∀ b, b ∈ vblk (.slice AM (setMeet p s).length cM) → w.heap.size ≤ b) := fun b hb => by have := (OMc.out.lt b hb).1; omega
        have HxN : Hid (∀ b, b ∈ vblk (.slice AN (setMeet p (setNot s)).length cN) → w.heap.size ≤ b) := fun b hb => by have := (ONc.out.lt b hb).1; omega
        have HMN : Hid (∀ b, b ∈ vblk (.slice AN (setMeet p (setNot s)).length cN) → b ∉ vblk (.slice AM (setMeet p s).length cM)) := fun b hb h => by have := (OM.out.lt b h).2; have := (ON.out.lt b hb).1; omega
        have HT := Lib.hid (partsS_take (s := s) HX.out)
        have HL2 := Lib.hid (cutS_len s p)
        by_cases hA : 0 < (setMeet p s).length
        · have hA' : (0 : Int) < ((setMeet p s).length : Int) := by omega
          by_cases hB : 0 < (setMeet p (setNot s)).length
          · have hB' : (0 : Int) < ((setMeet p (setNot s)).length : Int) := by omega
            have EC : Hid (cutS s p = [setMeet p s] ++ [setMeet p (setNot s)]) := by show _ = _; rw [cutS, if_pos hA, if_pos hB]
            go_wp2_with (first
              | (at_builtin; refine wpList_append_row (by rfl) (.tmp 32) (.tmp 34) 23 (by rfl) 0 TSS i1' nilS 1 24 Try.underlying23 hi hz0 hza hz2 rfl (by decide) (.slice A2 (n2) c2) (n2) (L) (by rfl) (own_below Hc.out (below_alloc (Below.refl _ _) _)) (some ⟨wc.heap.size, 0, none⟩) 1 1 [.slice AM (setMeet p s).length cM] (by rfl) (.inr ⟨⟨wc.heap.size, 0, none⟩, rfl, Nat.zero_le _, new_cells wc [.slice AM (setMeet p s).length cM] TSS⟩) rfl (slice_one _ _ _) (by unfold maxLen; omega) (by omega) (Nat.zero_le _) _ rfl (n2 + 1) rfl ?_; intro A5 c5 wE hown hgrow hat; have S5 := Lib.hid (step_one Oc.out (OwnSp.lower OMc.out (Nat.zero_le _)) HdM.out HN.out hown hgrow hat (by unfold maxN; omega) HF.out HxM.out (Nat.le_trans HB0.out.size Bc.out.size) (below_then HB0.out Bc.out) rfl); clear hown hgrow hat; obtain ⟨fp5, o5, y5, d5, f5, k5, e5⟩ := step_next S5.out Oc.out (OwnSp.lower ONc.out (Nat.zero_le _)) HdN.out HMN.out HN.out; have O5 := Lib.hid o5; have Y5 := Lib.hid y5; have D5 := Lib.hid d5; have F5 := Lib.hid f5; have K5 := Lib.hid k5; have E5 := Lib.hid e5; clear o5 y5 d5 f5 k5 e5)
              | (at_builtin; refine wpList_append_row (by rfl) (.tmp 39) (.tmp 41) 23 (by rfl) 0 TSS i1' nilS 1 24 Try.underlying23 hi hz0 hza hz2 rfl (by decide) (.slice A5 (n2 + 1) c5) (n2 + 1) (L ++ [.slice AM (setMeet p s).length cM]) (by rfl) (own_below K5.out (below_alloc (Below.refl _ _) _)) (some ⟨wE.heap.size, 0, none⟩) 1 1 [.slice AN (setMeet p (setNot s)).length cN] (by rfl) (.inr ⟨⟨wE.heap.size, 0, none⟩, rfl, Nat.zero_le _, new_cells wE [.slice AN (setMeet p (setNot s)).length cN] TSS⟩) rfl (slice_one _ _ _) (by unfold maxLen; omega) (by omega) (Nat.zero_le _) _ rfl (n2 + 1 + 1) rfl ?_; intro A6 c6 wG hown hgrow hat; have S6 := Lib.hid (step_one O5.out Y5.out D5.out E5.out hown hgrow hat (by unfold maxN; omega) F5.out HxN.out (Nat.le_trans (Nat.le_trans HB0.out.size Bc.out.size) S5.out.size) S5.out.bel rfl); clear hown hgrow hat))
            go_roundg (gk - 1)
            case rel =>
              obtain ⟨fp', h1, h2, h3⟩ := S6.out.ex
              refine ⟨j + 1, by omega, by go_num, A6, n2 + 1 + 1, c6, fp', (L ++ [.slice AM (setMeet p s).length cM]) ++ [.slice AN (setMeet p (setNot s)).length cN], rfl, ?_, ?_, h3, S6.out.bel⟩
              · show _ = _; rw [HT.out, EC.out, List.length_append, ← HN.out]; rfl
              · show OwnSS _ _ _ _ _; rw [HT.out, EC.out, ← List.append_assoc]; exact h1
            case measure => omega
          · have hB' : ¬ (0 : Int) < ((setMeet p (setNot s)).length : Int) := by omega
            have EC : Hid (cutS s p = [setMeet p s]) := by show _ = _; rw [cutS, if_pos hA, if_neg hB, List.append_nil]
            go_wp2_with (at_builtin; refine wpList_append_row (by rfl) (.tmp 32) (.tmp 34) 23 (by rfl) 0 TSS i1' nilS 1 24 Try.underlying23 hi hz0 hza hz2 rfl (by decide) (.slice A2 n2 c2) n2 (L) (by rfl) (own_below Hc.out (below_alloc (Below.refl _ _) _)) (some ⟨wc.heap.size, 0, none⟩) 1 1 [.slice AM (setMeet p s).length cM] (by rfl) (.inr ⟨⟨wc.heap.size, 0, none⟩, rfl, Nat.zero_le _, new_cells wc [.slice AM (setMeet p s).length cM] TSS⟩) rfl (slice_one _ _ _) (by unfold maxLen; omega) (by omega) (Nat.zero_le _) _ rfl (n2 + 1) rfl ?_; intro A5 c5 wE hown hgrow hat; have S5 := Lib.hid (step_one Oc.out (OwnSp.lower OMc.out (Nat.zero_le _)) HdM.out HN.out hown hgrow hat (by unfold maxN; omega) HF.out HxM.out (Nat.le_trans HB0.out.size Bc.out.size) (below_then HB0.out Bc.out) rfl); clear hown hgrow hat)
            go_roundg (gk - 1)
            case rel =>
              obtain ⟨fp', h1, h2, h3⟩ := S5.out.ex
              refine ⟨j + 1, by omega, by go_num, A5, n2 + 1, c5, fp', L ++ [.slice AM (setMeet p s).length cM], rfl, ?_, ?_, h3, S5.out.bel⟩
              · show _ = _; rw [HT.out, EC.out, List.length_append, ← HN.out]; rfl
              · show OwnSS _ _ _ _ _; rw [HT.out, EC.out]; exact h1
            case measure => omega
        · have hA' : ¬ (0 : Int) < ((setMeet p s).length : Int) := by omega
          by_cases hB : 0 < (setMeet p (setNot s)).length
          · have hB' : (0 : Int) < ((setMeet p (setNot s)).length : Int) := by omega
            have EC : Hid (cutS s p = [setMeet p (setNot s)]) := by show _ = _; rw [cutS, if_neg hA, if_pos hB, List.nil_append]
            go_wp2_with (at_builtin; refine wpList_append_row (by rfl) (.tmp 39) (.tmp 41) 23 (by rfl) 0 TSS i1' nilS 1 24 Try.underlying23 hi hz0 hza hz2 rfl (by decide) (.slice A2 n2 c2) n2 (L) (by rfl) (own_below Hc.out (below_alloc (Below.refl _ _) _)) (some ⟨wc.heap.size, 0, none⟩) 1 1 [.slice AN (setMeet p (setNot s)).length cN] (by rfl) (.inr ⟨⟨wc.heap.size, 0, none⟩, rfl, Nat.zero_le _, new_cells wc [.slice AN (setMeet p (setNot s)).length cN] TSS⟩) rfl (slice_one _ _ _) (by unfold maxLen; omega) (by omega) (Nat.zero_le _) _ rfl (n2 + 1) rfl ?_; intro A5 c5 wE hown hgrow hat; have S5 := Lib.hid (step_one Oc.out (OwnSp.lower ONc.out (Nat.zero_le _)) HdN.out HN.out hown hgrow hat (by unfold maxN; omega) HF.out HxN.out (Nat.le_trans HB0.out.size Bc.out.size) (below_then HB0.out Bc.out) rfl); clear hown hgrow hat)
            go_roundg (gk - 1)
            case rel =>
              obtain ⟨fp', h1, h2, h3⟩ := S5.out.ex
              refine ⟨j + 1, by omega, by go_num, A5, n2 + 1, c5, fp', L ++ [.slice AN (setMeet p (setNot s)).length cN], rfl, ?_, ?_, h3, S5.out.bel⟩
              · show _ = _; rw [HT.out, EC.out, List.length_append, ← HN.out]; rfl
              · show OwnSS _ _ _ _ _; rw [HT.out, EC.out]; exact h1
            case measure => omega
          · have hB' : ¬ (0 : Int) < ((setMeet p (setNot s)).length : Int) := by omega
            have EC : Hid (cutS s p = []) := by show _ = _; rw [cutS, if_neg hA, if_neg hB, List.append_nil]
            go_wp2
            go_roundg (gk - 1)
            case rel =>
              refine ⟨j + 1, by omega, by go_num, A2, n2, c2, fp, L, rfl, ?_, ?_, HF.out, below_then HB0.out Bc.out⟩
              · show _ = _; rw [HT.out, EC.out, List.append_nil]; exact HN.out
              · show OwnSS _ _ _ _ _; rw [HT.out, EC.out, List.append_nil]; exact Oc.out
            case measure => omega
    · have hj' : j = ps.length := by omega
      subst hj'
      rw [List.take_length] at HO
      go_wp2
      go_ret
      exact ⟨_, fp, L, rfl, HO.out, HF.out, HB0.out⟩

end Go.Proofs.Ytplhbjpkkhhilaa

/- Sizes and first elements of sets, of the program and of the reference. -/
namespace Go.Proofs.Ytplhbjpkkhhilaa
set_option linter.unusedSimpArgs false
set_option linter.unusedVariables false
open Go.RowKit

theorem cnt_le (f : Nat → Bool) : ∀ n, cnt f n ≤ n := by
  intro n
  induction n with
  | zero => exact Nat.le_refl _
  | succ n ih => rw [cnt]; split <;> omega
theorem cnt_yes {f : Nat → Bool} {k : Nat} (h : f k = true) : cnt f (k + 1) = cnt f k + 1 := by rw [cnt, h]; rfl
theorem cnt_no {f : Nat → Bool} {k : Nat} (h : f k = false) : cnt f (k + 1) = cnt f k := by rw [cnt, h]; rfl
theorem first_yes {f : Nat → Bool} {n k : Nat} {r : Int} (h : f k = true) (hr : firstGo f (n + 1) k = r) : r = k := by rw [← hr, firstGo, if_pos h]
theorem first_no {f : Nat → Bool} {n k : Nat} {r : Int} (h : f k = false) (hr : firstGo f (n + 1) k = r) : firstGo f n (k + 1) = r := by rw [← hr, firstGo, if_neg (by rw [h]; simp)]

set_option maxRecDepth 100000 in
set_option maxHeartbeats 1000000 in
theorem iSetSize_c (A : Option Addr) (c : Nat) (xs : List Sp) (w : World) {lo : Nat} (h : Sps w lo A c xs) :
    Calls Try.prog 16 #[.slice A xs.length c] w fun e w' => e = .returned (.int .i64 (setSize xs)) ∧ Below w.heap.size w w' := by
  go_enter Try.func16, Try.ntmps16
  go_wp2_with fail
  refine (bitsOf_c _ _ _ _ h).mono ?_
  rintro e w1 ⟨rfl, b1⟩
  have HB := Lib.hid b1
  clear b1
  go_wp2
  go_loopg [3, 8] 256 (fun n s i wr => ∃ k : Nat, Hid (k + n = 256) ∧ i = .int .i64 k ∧ (∃ m : Nat, s = .int .i64 m ∧ Hid (m = cnt (fun i => setHas xs i) k)) ∧ Hid (Below w.heap.size w wr))
  case atStart => exact ⟨0, rfl, rfl, ⟨0, rfl, rfl⟩, HB⟩
  case round =>
    clear HB
    obtain ⟨k, hk, rfl, ⟨m, rfl, HM⟩, HB⟩ := hrel
    have hm : m ≤ k := by rw [HM.out]; exact cnt_le _ _
    by_cases hk2 : k < 256
    · have hix := fun wx => run_index_bits (fun i => setHas xs i) k hk2 wx
      by_cases hf : setHas xs k = true
      · have HC : Hid _ := cnt_yes (f := fun i => setHas xs i) hf
        simp only [hf] at hix
        clear hf
        go_wp2
        go_roundg (gk - 1)
        case rel => exact ⟨k + 1, by have := hk.out; show _ = _; omega, by go_num, ⟨m + 1, by go_num, by show _ = _; rw [HC.out, HM.out]⟩, HB⟩
        case measure => have := hk.out; omega
      · have hf' : setHas xs k = false := by simpa using hf
        have HC : Hid _ := cnt_no (f := fun i => setHas xs i) hf'
        simp only [hf'] at hix
        clear hf hf'
        go_wp2
        go_roundg (gk - 1)
        case rel => exact ⟨k + 1, by have := hk.out; show _ = _; omega, by go_num, ⟨m, rfl, by show _ = _; rw [HC.out, HM.out]⟩, HB⟩
        case measure => have := hk.out; omega
    · go_wp2
      go_ret
      exact ⟨ret_int (by rw [setSize, HM.out, show k = 256 by have := hk.out; omega]), HB⟩

set_option maxRecDepth 100000 in
set_option maxHeartbeats 1000000 in
theorem iSetFirst_c (A : Option Addr) (c : Nat) (xs : List Sp) (w : World) {lo : Nat} (h : Sps w lo A c xs) :
    Calls Try.prog 15 #[.slice A xs.length c] w fun e w' => e = .returned (.int .i64 (setFirst xs)) ∧ Below w.heap.size w w' := by
  go_enter Try.func15, Try.ntmps15
  go_wp2_with fail
  refine (bitsOf_c _ _ _ _ h).mono ?_
  rintro e w1 ⟨rfl, b1⟩
  have HB := Lib.hid b1
  clear b1
  go_wp2
  go_loopg [7] 256 (fun n i wr => ∃ k : Nat, Hid (k + n = 256) ∧ i = .int .i64 k ∧ Hid (firstGo (fun i => setHas xs i) n k = setFirst xs) ∧ Hid (Below w.heap.size w wr))
  case atStart => exact ⟨0, rfl, rfl, rfl, HB⟩
  case round =>
    clear HB
    obtain ⟨k, hk, rfl, HF, HB⟩ := hrel
    by_cases hk2 : k < 256
    · have hix := fun wx => run_index_bits (fun i => setHas xs i) k hk2 wx
      obtain ⟨n, rfl⟩ : ∃ n, gk = n + 1 := ⟨gk - 1, by have := hk.out; omega⟩
      by_cases hf : setHas xs k = true
      · have HC : Hid _ := first_yes (f := fun i => setHas xs i) hf HF.out
        simp only [hf] at hix
        clear hf
        go_wp2
        go_ret
        exact ⟨ret_int (by rw [HC.out]), HB⟩
      · have hf' : setHas xs k = false := by simpa using hf
        have HC : Hid _ := first_no (f := fun i => setHas xs i) hf' HF.out
        simp only [hf'] at hix
        clear hf hf'
        go_wp2
        go_roundg n
        case rel => exact ⟨k + 1, by have := hk.out; show _ = _; omega, by go_num, HC, HB⟩
        case measure => omega
    · go_wp2
      go_ret
      obtain rfl : gk = 0 := by have := hk.out; omega
      exact ⟨ret_int (by rw [← HF.out]; rfl), HB⟩

set_option maxRecDepth 100000 in
set_option maxHeartbeats 1000000 in
theorem sSetFirst_c (A : Option Addr) (c : Nat) (xs : List Sp) (w : World) {lo : Nat} (h : Sps w lo A c xs) :
    Calls Try.prog 76 #[.slice A xs.length c] w fun e w' => e = .returned (.int .i64 (setFirst xs)) ∧ Drawn w w' := by
  go_enter Try.func76, Try.ntmps76
  go_wp2
  go_loopg [3] 256 (fun n i wr => ∃ k : Nat, Hid (k + n = 256) ∧ i = .int .i64 k ∧ Hid (firstGo (fun i => setHas xs i) n k = setFirst xs) ∧ Hid (Drawn w wr))
  case atStart => exact ⟨0, rfl, rfl, rfl, Drawn.refl _⟩
  case round =>
    obtain ⟨k, hk, rfl, HF, HB⟩ := hrel
    by_cases hk2 : k < 256
    · go_wp2_with fail
      refine (sSetHas_c _ _ _ _ _ (h.below HB.out.below)).mono ?_
      rintro e w2 ⟨rfl, d2⟩
      have HB2 := Lib.hid (HB.out.trans d2)
      clear d2
      obtain ⟨n, rfl⟩ : ∃ n, gk = n + 1 := ⟨gk - 1, by have := hk.out; omega⟩
      by_cases hf : setHas xs k = true
      · have HC : Hid _ := first_yes (f := fun i => setHas xs i) hf HF.out
        rw [hf]
        clear hf
        go_wp2
        go_ret
        exact ⟨ret_int (by rw [HC.out]), HB2.out⟩
      · have hf' : setHas xs k = false := by simpa using hf
        have HC : Hid _ := first_no (f := fun i => setHas xs i) hf' HF.out
        rw [hf']
        clear hf hf'
        go_wp2
        go_roundg n
        case rel => exact ⟨k + 1, by have := hk.out; show _ = _; omega, by go_num, HC, HB2⟩
        case measure => omega
    · go_wp2
      go_ret
      obtain rfl : gk = 0 := by have := hk.out; omega
      exact ⟨ret_int (by rw [← HF.out]; rfl), HB.out⟩

end Go.Proofs.Ytplhbjpkkhhilaa
