/- SetJoin, SetMeet, SetNot of the program. (Printed by wip/gen/setops.py.) -/
import Derived.Test.YtjnhmoinehffiaaW6
namespace Go.Proofs.Ytjnhmoinehffiaa
set_option linter.unusedSimpArgs false
set_option linter.unusedVariables false
open Go.RowKit

theorem own_nil (w : World) : OwnSp w w.heap.size (.slice none 0 0) [] := OwnSp.nil _ _
theorem bits_store_eq (f g : Nat → Bool) : ((bitCells g).toArray.toList.take 0 ++ bitCells f ++ (bitCells g).toArray.toList.drop (0 + (bitCells f).length)).toArray = (bitCells f).toArray := by
  simp [List.drop_of_length_le (show (bitCells g).length ≤ (bitCells f).length by rw [bitCells_length, bitCells_length]; exact Nat.le_refl _)]

set_option maxRecDepth 100000 in
set_option maxHeartbeats 2000000 in
theorem iSetJoin_c (A B : Option Addr) (c d : Nat) (xs ys : List Sp) (w : World) {lo lo' : Nat} (h : Sps w lo A c xs) (h' : Sps w lo' B d ys) :
    Calls Try.prog 11 #[.slice A xs.length c, .slice B ys.length d] w fun e w' => ∃ v, e = .returned v ∧ OwnSp w' w.heap.size v (setJoin xs ys) ∧ Below w.heap.size w w' := by
  by_cases ho : setOk xs = true
  · by_cases ho' : setOk ys = true
    · have E : Hid (setJoin xs ys = spansOf fun i => setHas xs i || setHas ys i) := by show _ = _; simp [setJoin, ho, ho']
      go_enter Try.func11, Try.ntmps11
      go_wp2_with fail
      refine (iSetOk_c _ _ _ _ h).mono ?_
      rintro e w1 ⟨rfl, b1⟩
      replace h := h.below b1
      replace h' := h'.below b1
      go_wp2_with fail
      refine (iSetOk_c _ _ _ _ h').mono ?_
      rintro e w2 ⟨rfl, b2⟩
      replace h := h.below b2
      replace h' := h'.below b2
      replace b2 := below_then b1 b2
      clear b1
      go_wp2_with fail
      refine (bitsOf_c _ _ _ _ h).mono ?_
      rintro e w3 ⟨rfl, b3⟩
      replace h' := h'.below b3
      replace b3 := below_then b2 b3
      clear b2 h
      go_wp2_with fail
      refine (bitsOf_c _ _ _ _ h').mono ?_
      rintro e w4 ⟨rfl, b4⟩
      replace b4 := below_then b3 b4
      clear b3 h'
      have HB4 : Hid (Below w.heap.size w w4) := b4
      clear b4
      go_wp2_with (first
        | (with_reducible refine ev_alloc (o := ⟨some 5, _, _, _, _, _⟩) rfl TBits rfl _ infoBits ?_; rintro _ w5 rfl hX5 hb5; have HB5 := Lib.hid (below_then HB4.out hb5))
        | (with_reducible refine ev_alloc (o := ⟨some 6, _, _, _, _, _⟩) rfl TBits rfl _ infoBits ?_; rintro _ w6 rfl hY6 hb6; have hX6 := hX5.below hb6; have HB6 := Lib.hid (below_then HB5.out hb6))
        | (with_reducible refine ev_store (o := ⟨none, .store _ (.tmp 5) _, _, _, _, _⟩) rfl rfl TBits (.tmp 5) (.tmp 17) rfl w4.heap.size 0 rfl (bitCells fun i => setHas xs i) rfl _ TBits hX6 (sizeBits' _) (by simp [bitCells_length]) (bitCells_one _) ?_; intro w7 hX7 hg7; rw [bits_store_eq] at hX7; have hY7 := hY6.grown hg7 (fun q hq => by injection hq with hq; have := hX5.lt; omega); have HB7 := Lib.hid (HB6.out.grown hg7 HB6.out.size (fun q hq => by injection hq with hq; have := HB4.out.size; omega)))
        | (with_reducible refine ev_store (o := ⟨none, .store _ (.tmp 6) _, _, _, _, _⟩) rfl rfl TBits (.tmp 6) (.tmp 19) rfl w5.heap.size 0 rfl (bitCells fun i => setHas ys i) rfl _ TBits hY7 (sizeBits' _) (by simp [bitCells_length]) (bitCells_one _) ?_; intro w8 hY8 hg8; rw [bits_store_eq] at hY8; have hX8 := hX7.grown hg8 (fun q hq => by injection hq with hq; have := hX5.lt; omega); have HB8 := Lib.hid (HB7.out.grown hg8 HB7.out.size (fun q hq => by injection hq with hq; have := HB5.out.size; omega))))
      have hlt := hX5.lt
      have hsz := HB4.out.size
      have HX := Lib.hid hX8
      have HY := Lib.hid hY8
      have HB := Lib.hid HB8.out
      clear hX5 hX6 hX7 hX8 hY6 hY7 hY8 hg7 hg8 hb5 hb6 HB4 HB5 HB6 HB7 HB8
      go_loopg [20] 256 (fun n i wr => ∃ k : Nat, Hid (k + n = 256) ∧ i = .int .i64 k ∧ ∃ f : Nat → Bool, Hid (Blk wr w4.heap.size (bitCells f).toArray TBits) ∧ Hid (∀ j, j < k → f j = (setHas xs j || setHas ys j)) ∧ Hid (∀ j, k ≤ j → f j = setHas xs j) ∧ Hid (Blk wr w5.heap.size (bitCells fun i => setHas ys i).toArray TBits) ∧ Hid (Below w.heap.size w wr))
      case atStart => exact ⟨0, rfl, rfl, _, HX, fun j hj => absurd hj (Nat.not_lt_zero _), fun j _ => rfl, HY, HB⟩
      case round =>
        clear HX HY HB
        obtain ⟨k, hk, rfl, f, HX, HF, HG, HY, HB⟩ := hrel
        by_cases hk2 : k < 256
        · have c0 := bit_cell HX.out k hk2
          have f0 := HX.out.free k
          have c1 := bit_cell HY.out k hk2
          have F0 := HG.out k (Nat.le_refl _)
          by_cases hf : f k = true
          · rw [hf] at c0
            have G : Hid (setHas xs k = true) := by rw [← F0]; exact hf
            clear hf F0
            go_wp2
            go_roundg (gk - 1)
            case rel =>
              refine ⟨k + 1, by have := hk.out; show _ = _; omega, by go_num, _, bit_set HX.out k _, ?_, ?_, HY.out.far (by simp; omega) _, below_set HB.out (by simp; omega) _⟩
              · intro j hj
                by_cases e : j = k
                · subst e; simp [G.out]
                · rw [if_neg e]
                  exact HF.out j (by omega)
              · intro j hj
                rw [if_neg (by omega)]
                exact HG.out j (by omega)
            case measure => have := hk.out; omega
          · have hf' : f k = false := by simpa using hf
            rw [hf'] at c0
            have G : Hid (setHas xs k = false) := by rw [← F0]; exact hf'
            clear hf hf' F0
            go_wp2
            go_roundg (gk - 1)
            case rel =>
              refine ⟨k + 1, by have := hk.out; show _ = _; omega, by go_num, _, bit_set HX.out k _, ?_, ?_, HY.out.far (by simp; omega) _, below_set HB.out (by simp; omega) _⟩
              · intro j hj
                by_cases e : j = k
                · subst e; simp [G.out]
                · rw [if_neg e]
                  exact HF.out j (by omega)
              · intro j hj
                rw [if_neg (by omega)]
                exact HG.out j (by omega)
            case measure => have := hk.out; omega
        · have hF : bitCells f = bitCells fun i => setHas xs i || setHas ys i := bitCells_congr fun i hi => HF.out i (by omega)
          have HK := Lib.hid hF
          clear hF
          go_wp2_with (with_reducible refine ev_load (o := ⟨some 34, _, _, _, _, _⟩) rfl TBits _ rfl w4.heap.size rfl (bitCells f) TBits HX.out _ uBits rfl (sizeBits' f) ?_)
          refine (spans_c f _).mono ?_
          rintro e w9 ⟨v9, rfl, o9, b9⟩
          go_wp2
          go_ret
          refine ⟨_, rfl, ?_, below_then HB.out b9⟩
          rw [E.out, spansOf_congr (fun i hi => (HF.out i (by omega)).symm)]
          exact o9.lower HB.out.size
    · have ho2 : setOk ys = false := by simpa using ho'
      have E : Hid (setJoin xs ys = []) := by show _ = _; simp [setJoin, ho2]
      clear ho'
      go_enter Try.func11, Try.ntmps11
      go_wp2_with fail
      refine (iSetOk_c _ _ _ _ h).mono ?_
      rintro e w1 ⟨rfl, b1⟩
      replace h' := h'.below b1
      go_wp2_with fail
      refine (iSetOk_c _ _ _ _ h').mono ?_
      rintro e w2 ⟨rfl, b2⟩
      go_wp2
      go_ret
      exact ⟨_, rfl, by rw [E.out]; exact OwnSp.nil _ _, below_then b1 b2⟩
  · have ho2 : setOk xs = false := by simpa using ho
    have E : Hid (setJoin xs ys = []) := by show _ = _; simp [setJoin, ho2]
    clear ho
    go_enter Try.func11, Try.ntmps11
    go_wp2_with fail
    refine (iSetOk_c _ _ _ _ h).mono ?_
    rintro e w1 ⟨rfl, b1⟩
    go_wp2
    go_ret
    exact ⟨_, rfl, by rw [E.out]; exact OwnSp.nil _ _, b1⟩

set_option maxRecDepth 100000 in
set_option maxHeartbeats 2000000 in
theorem iSetMeet_c (A B : Option Addr) (c d : Nat) (xs ys : List Sp) (w : World) {lo lo' : Nat} (h : Sps w lo A c xs) (h' : Sps w lo' B d ys) :
    Calls Try.prog 14 #[.slice A xs.length c, .slice B ys.length d] w fun e w' => ∃ v, e = .returned v ∧ OwnSp w' w.heap.size v (setMeet xs ys) ∧ Below w.heap.size w w' := by
  by_cases ho : setOk xs = true
  · by_cases ho' : setOk ys = true
    · have E : Hid (setMeet xs ys = spansOf fun i => setHas xs i && setHas ys i) := by show _ = _; simp [setMeet, ho, ho']
      go_enter Try.func14, Try.ntmps14
      go_wp2_with fail
      refine (iSetOk_c _ _ _ _ h).mono ?_
      rintro e w1 ⟨rfl, b1⟩
      replace h := h.below b1
      replace h' := h'.below b1
      go_wp2_with fail
      refine (iSetOk_c _ _ _ _ h').mono ?_
      rintro e w2 ⟨rfl, b2⟩
      replace h := h.below b2
      replace h' := h'.below b2
      replace b2 := below_then b1 b2
      clear b1
      go_wp2_with fail
      refine (bitsOf_c _ _ _ _ h).mono ?_
      rintro e w3 ⟨rfl, b3⟩
      replace h' := h'.below b3
      replace b3 := below_then b2 b3
      clear b2 h
      go_wp2_with fail
      refine (bitsOf_c _ _ _ _ h').mono ?_
      rintro e w4 ⟨rfl, b4⟩
      replace b4 := below_then b3 b4
      clear b3 h'
      have HB4 : Hid (Below w.heap.size w w4) := b4
      clear b4
      go_wp2_with (first
        | (with_reducible refine ev_alloc (o := ⟨some 5, _, _, _, _, _⟩) rfl TBits rfl _ infoBits ?_; rintro _ w5 rfl hX5 hb5; have HB5 := Lib.hid (below_then HB4.out hb5))
        | (with_reducible refine ev_alloc (o := ⟨some 6, _, _, _, _, _⟩) rfl TBits rfl _ infoBits ?_; rintro _ w6 rfl hY6 hb6; have hX6 := hX5.below hb6; have HB6 := Lib.hid (below_then HB5.out hb6))
        | (with_reducible refine ev_store (o := ⟨none, .store _ (.tmp 5) _, _, _, _, _⟩) rfl rfl TBits (.tmp 5) (.tmp 17) rfl w4.heap.size 0 rfl (bitCells fun i => setHas xs i) rfl _ TBits hX6 (sizeBits' _) (by simp [bitCells_length]) (bitCells_one _) ?_; intro w7 hX7 hg7; rw [bits_store_eq] at hX7; have hY7 := hY6.grown hg7 (fun q hq => by injection hq with hq; have := hX5.lt; omega); have HB7 := Lib.hid (HB6.out.grown hg7 HB6.out.size (fun q hq => by injection hq with hq; have := HB4.out.size; omega)))
        | (with_reducible refine ev_store (o := ⟨none, .store _ (.tmp 6) _, _, _, _, _⟩) rfl rfl TBits (.tmp 6) (.tmp 19) rfl w5.heap.size 0 rfl (bitCells fun i => setHas ys i) rfl _ TBits hY7 (sizeBits' _) (by simp [bitCells_length]) (bitCells_one _) ?_; intro w8 hY8 hg8; rw [bits_store_eq] at hY8; have hX8 := hX7.grown hg8 (fun q hq => by injection hq with hq; have := hX5.lt; omega); have HB8 := Lib.hid (HB7.out.grown hg8 HB7.out.size (fun q hq => by injection hq with hq; have := HB5.out.size; omega))))
      have hlt := hX5.lt
      have hsz := HB4.out.size
      have HX := Lib.hid hX8
      have HY := Lib.hid hY8
      have HB := Lib.hid HB8.out
      clear hX5 hX6 hX7 hX8 hY6 hY7 hY8 hg7 hg8 hb5 hb6 HB4 HB5 HB6 HB7 HB8
      go_loopg [20] 256 (fun n i wr => ∃ k : Nat, Hid (k + n = 256) ∧ i = .int .i64 k ∧ ∃ f : Nat → Bool, Hid (Blk wr w4.heap.size (bitCells f).toArray TBits) ∧ Hid (∀ j, j < k → f j = (setHas xs j && setHas ys j)) ∧ Hid (∀ j, k ≤ j → f j = setHas xs j) ∧ Hid (Blk wr w5.heap.size (bitCells fun i => setHas ys i).toArray TBits) ∧ Hid (Below w.heap.size w wr))
      case atStart => exact ⟨0, rfl, rfl, _, HX, fun j hj => absurd hj (Nat.not_lt_zero _), fun j _ => rfl, HY, HB⟩
      case round =>
        clear HX HY HB
        obtain ⟨k, hk, rfl, f, HX, HF, HG, HY, HB⟩ := hrel
        by_cases hk2 : k < 256
        · have c0 := bit_cell HX.out k hk2
          have f0 := HX.out.free k
          have c1 := bit_cell HY.out k hk2
          have F0 := HG.out k (Nat.le_refl _)
          by_cases hf : f k = true
          · rw [hf] at c0
            have G : Hid (setHas xs k = true) := by rw [← F0]; exact hf
            clear hf F0
            go_wp2
            go_roundg (gk - 1)
            case rel =>
              refine ⟨k + 1, by have := hk.out; show _ = _; omega, by go_num, _, bit_set HX.out k _, ?_, ?_, HY.out.far (by simp; omega) _, below_set HB.out (by simp; omega) _⟩
              · intro j hj
                by_cases e : j = k
                · subst e; simp [G.out]
                · rw [if_neg e]
                  exact HF.out j (by omega)
              · intro j hj
                rw [if_neg (by omega)]
                exact HG.out j (by omega)
            case measure => have := hk.out; omega
          · have hf' : f k = false := by simpa using hf
            rw [hf'] at c0
            have G : Hid (setHas xs k = false) := by rw [← F0]; exact hf'
            clear hf hf' F0
            go_wp2
            go_roundg (gk - 1)
            case rel =>
              refine ⟨k + 1, by have := hk.out; show _ = _; omega, by go_num, _, bit_set HX.out k _, ?_, ?_, HY.out.far (by simp; omega) _, below_set HB.out (by simp; omega) _⟩
              · intro j hj
                by_cases e : j = k
                · subst e; simp [G.out]
                · rw [if_neg e]
                  exact HF.out j (by omega)
              · intro j hj
                rw [if_neg (by omega)]
                exact HG.out j (by omega)
            case measure => have := hk.out; omega
        · have hF : bitCells f = bitCells fun i => setHas xs i && setHas ys i := bitCells_congr fun i hi => HF.out i (by omega)
          have HK := Lib.hid hF
          clear hF
          go_wp2_with (with_reducible refine ev_load (o := ⟨some 34, _, _, _, _, _⟩) rfl TBits _ rfl w4.heap.size rfl (bitCells f) TBits HX.out _ uBits rfl (sizeBits' f) ?_)
          refine (spans_c f _).mono ?_
          rintro e w9 ⟨v9, rfl, o9, b9⟩
          go_wp2
          go_ret
          refine ⟨_, rfl, ?_, below_then HB.out b9⟩
          rw [E.out, spansOf_congr (fun i hi => (HF.out i (by omega)).symm)]
          exact o9.lower HB.out.size
    · have ho2 : setOk ys = false := by simpa using ho'
      have E : Hid (setMeet xs ys = []) := by show _ = _; simp [setMeet, ho2]
      clear ho'
      go_enter Try.func14, Try.ntmps14
      go_wp2_with fail
      refine (iSetOk_c _ _ _ _ h).mono ?_
      rintro e w1 ⟨rfl, b1⟩
      replace h' := h'.below b1
      go_wp2_with fail
      refine (iSetOk_c _ _ _ _ h').mono ?_
      rintro e w2 ⟨rfl, b2⟩
      go_wp2
      go_ret
      exact ⟨_, rfl, by rw [E.out]; exact OwnSp.nil _ _, below_then b1 b2⟩
  · have ho2 : setOk xs = false := by simpa using ho
    have E : Hid (setMeet xs ys = []) := by show _ = _; simp [setMeet, ho2]
    clear ho
    go_enter Try.func14, Try.ntmps14
    go_wp2_with fail
    refine (iSetOk_c _ _ _ _ h).mono ?_
    rintro e w1 ⟨rfl, b1⟩
    go_wp2
    go_ret
    exact ⟨_, rfl, by rw [E.out]; exact OwnSp.nil _ _, b1⟩

set_option maxRecDepth 100000 in
set_option maxHeartbeats 2000000 in
theorem iSetNot_c (A : Option Addr) (c : Nat) (xs : List Sp) (w : World) {lo : Nat} (h : Sps w lo A c xs) :
    Calls Try.prog 15 #[.slice A xs.length c] w fun e w' => ∃ v, e = .returned v ∧ OwnSp w' w.heap.size v (setNot xs) ∧ Below w.heap.size w w' := by
  by_cases ho : setOk xs = true
  · have E : Hid (setNot xs = spansOf fun i => !setHas xs i) := by show _ = _; simp [setNot, ho]
    go_enter Try.func15, Try.ntmps15
    go_wp2_with fail
    refine (iSetOk_c _ _ _ _ h).mono ?_
    rintro e w1 ⟨rfl, b1⟩
    replace h := h.below b1
    go_wp2_with fail
    refine (bitsOf_c _ _ _ _ h).mono ?_
    rintro e w4 ⟨rfl, b4⟩
    have HB4 := Lib.hid (below_then b1 b4)
    clear b1 b4 h
    go_wp2_with (first
      | (with_reducible refine ev_alloc (o := ⟨some 3, _, _, _, _, _⟩) rfl TBits rfl _ infoBits ?_; rintro _ w5 rfl hX5 hb5; have HB5 := Lib.hid (below_then HB4.out hb5))
      | (with_reducible refine ev_store (o := ⟨none, .store _ (.tmp 3) _, _, _, _, _⟩) rfl rfl TBits (.tmp 3) (.tmp 9) rfl w4.heap.size 0 rfl (bitCells fun i => setHas xs i) rfl _ TBits hX5 (sizeBits' _) (by simp [bitCells_length]) (bitCells_one _) ?_; intro w7 hX7 hg7; rw [bits_store_eq] at hX7; have HB7 := Lib.hid (HB5.out.grown hg7 HB5.out.size (fun q hq => by injection hq with hq; have := HB4.out.size; omega))))
    have hlt := hX5.lt
    have hsz := HB4.out.size
    have HX := Lib.hid hX7
    have HB := Lib.hid HB7.out
    clear hX5 hX7 hg7 hb5 HB4 HB5 HB7
    go_loopg [10] 256 (fun n i wr => ∃ k : Nat, Hid (k + n = 256) ∧ i = .int .i64 k ∧ ∃ f : Nat → Bool, Hid (Blk wr w4.heap.size (bitCells f).toArray TBits) ∧ Hid (∀ j, j < k → f j = (!setHas xs j)) ∧ Hid (∀ j, k ≤ j → f j = setHas xs j) ∧ Hid (Below w.heap.size w wr))
    case atStart => exact ⟨0, rfl, rfl, _, HX, fun j hj => absurd hj (Nat.not_lt_zero _), fun j _ => rfl, HB⟩
    case round =>
      clear HX HB
      obtain ⟨k, hk, rfl, f, HX, HF, HG, HB⟩ := hrel
      by_cases hk2 : k < 256
      · have c0 := bit_cell HX.out k hk2
        have f0 := HX.out.free k
        have G := Lib.hid (HG.out k (Nat.le_refl _))
        go_wp2
        go_roundg (gk - 1)
        case rel =>
          refine ⟨k + 1, by have := hk.out; show _ = _; omega, by go_num, _, bit_set HX.out k _, ?_, ?_, below_set HB.out (by simp; omega) _⟩
          · intro j hj
            by_cases e : j = k
            · subst e; simp [G.out]
            · rw [if_neg e]
              exact HF.out j (by omega)
          · intro j hj
            rw [if_neg (by omega)]
            exact HG.out j (by omega)
        case measure => have := hk.out; omega
      · go_wp2_with (with_reducible refine ev_load (o := ⟨some 20, _, _, _, _, _⟩) rfl TBits _ rfl w4.heap.size rfl (bitCells f) TBits HX.out _ uBits rfl (sizeBits' f) ?_)
        refine (spans_c f _).mono ?_
        rintro e w9 ⟨v9, rfl, o9, b9⟩
        go_wp2
        go_ret
        refine ⟨_, rfl, ?_, below_then HB.out b9⟩
        rw [E.out, spansOf_congr (fun i hi => (HF.out i (by omega)).symm)]
        exact o9.lower HB.out.size
  · have ho2 : setOk xs = false := by simpa using ho
    have E : Hid (setNot xs = []) := by show _ = _; simp [setNot, ho2]
    clear ho
    go_enter Try.func15, Try.ntmps15
    go_wp2_with fail
    refine (iSetOk_c _ _ _ _ h).mono ?_
    rintro e w1 ⟨rfl, b1⟩
    go_wp2
    go_ret
    exact ⟨_, rfl, by rw [E.out]; exact OwnSp.nil _ _, b1⟩

end Go.Proofs.Ytjnhmoinehffiaa
