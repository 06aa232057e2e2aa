/- Texts joined for the claims: W7 Nc SetLaws Ne. -/
import Derived.Test.YtfeidjjabjejiaaGreatDoorG13
import Derived.Test.YtfeidjjabjejiaaGreatDoorG8
import Derived.Test.YtfeidjjabjejiaaGreatDoorG1
import Derived.Test.YtfeidjjabjejiaaGreatDoorG14
/- SetJoin, SetMeet, SetNot of the program. (Printed by wip/gen/setops.py.) -/
namespace Go.Proofs.YtfeidjjabjejiaaGreatDoor
set_option linter.unusedSimpArgs false
set_option linter.unusedVariables false
set_option maxRecDepth 100000
open Go.RowKit

theorem own_nil (w : World) : OwnSp w w.heap.size (.slice none 0 0) [] := OwnSp.nil _ _
theorem bits_store_eq (f g : Nat → Bool) : ((bitCells g).toArray.toList.take 0 ++ bitCells f ++ (bitCells g).toArray.toList.drop (0 + (bitCells f).length)).toArray = (bitCells f).toArray := by
  simp [List.drop_of_length_le (show (bitCells g).length ≤ (bitCells f).length by rw [bitCells_length, bitCells_length]; exact Nat.le_refl _)]

set_option maxRecDepth 100000 in
set_option maxHeartbeats 2000000 in
theorem iSetJoin_c (A B : Option Addr) (c d : Nat) (xs ys : List Sp) (w : World) {lo lo' : Nat} (h : Sps w lo A c xs) (h' : Sps w lo' B d ys) :
    Calls Tryz.prog 141 #[.slice A xs.length c, .slice B ys.length d] w fun e w' => ∃ v, e = .returned v ∧ OwnSp w' w.heap.size v (setJoin xs ys) ∧ Below w.heap.size w w' := by
  by_cases ho : setOk xs = true
  · by_cases ho' : setOk ys = true
    · have E : Hid (setJoin xs ys = spansOf fun i => setHas xs i || setHas ys i) := by show _ = _; simp [setJoin, ho, ho']
      go_enter Tryz.func141, Tryz.ntmps141
      go_wp2_with fail
      refine (iSetOk_c _ _ _ _ h).mono ?_
      rintro e w1 ⟨rfl, b1⟩
      replace h := h.below b1
      replace h' := h'.below b1
      go_wp2_with fail
      refine (iSetOk_c _ _ _ _ h').mono ?_
      rintro e w2 ⟨rfl, b2⟩
      replace h := h.below b2
      replace h' := h'.below b2
      replace b2 := below_then b1 b2
      clear b1
      go_wp2_with fail
      refine (bitsOf_c _ _ _ _ h).mono ?_
      rintro e w3 ⟨rfl, b3⟩
      replace h' := h'.below b3
      replace b3 := below_then b2 b3
      clear b2 h
      go_wp2_with fail
      refine (bitsOf_c _ _ _ _ h').mono ?_
      rintro e w4 ⟨rfl, b4⟩
      replace b4 := below_then b3 b4
      clear b3 h'
      have HB4 : Hid (Below w.heap.size w w4) := b4
      clear b4
      go_wp2_with (first
        | (with_reducible refine ev_alloc (o := ⟨some 5, _, _, _, _, _⟩) rfl TBits rfl _ infoBits ?_; rintro _ w5 rfl hX5 hb5; have HB5 := Lib.hid (below_then HB4.out hb5))
        | (with_reducible refine ev_alloc (o := ⟨some 6, _, _, _, _, _⟩) rfl TBits rfl _ infoBits ?_; rintro _ w6 rfl hY6 hb6; have hX6 := hX5.below hb6; have HB6 := Lib.hid (below_then HB5.out hb6))
        | (with_reducible (with_reducible refine at_st 5 17 ?_); refine ev_store (o := ⟨none, .store _ (.tmp 5) _, _, _, _, _⟩) rfl rfl TBits (.tmp 5) (.tmp 17) rfl w4.heap.size 0 rfl (bitCells fun i => setHas xs i) rfl _ TBits hX6 (sizeBits' _) (by simp [bitCells_length]) (bitCells_one _) ?_; intro w7 hX7 hg7; rw [bits_store_eq] at hX7; have hY7 := hY6.grown hg7 (fun q hq => by injection hq with hq; have := hX5.lt; omega); have HB7 := Lib.hid (HB6.out.grown hg7 HB6.out.size (fun q hq => by injection hq with hq; have := HB4.out.size; omega)))
        | (with_reducible (with_reducible refine at_st 6 19 ?_); refine ev_store (o := ⟨none, .store _ (.tmp 6) _, _, _, _, _⟩) rfl rfl TBits (.tmp 6) (.tmp 19) rfl w5.heap.size 0 rfl (bitCells fun i => setHas ys i) rfl _ TBits hY7 (sizeBits' _) (by simp [bitCells_length]) (bitCells_one _) ?_; intro w8 hY8 hg8; rw [bits_store_eq] at hY8; have hX8 := hX7.grown hg8 (fun q hq => by injection hq with hq; have := hX5.lt; omega); have HB8 := Lib.hid (HB7.out.grown hg8 HB7.out.size (fun q hq => by injection hq with hq; have := HB5.out.size; omega))))
      have hlt := hX5.lt
      have hsz := HB4.out.size
      have HX := Lib.hid hX8
      have HY := Lib.hid hY8
      have HB := Lib.hid HB8.out
      clear hX5 hX6 hX7 hX8 hY6 hY7 hY8 hg7 hg8 hb5 hb6 HB4 HB5 HB6 HB7 HB8
      go_loopg [20] 256 (fun n i wr => ∃ k : Nat, Hid (k + n = 256) ∧ i = .int .i64 k ∧ ∃ f : Nat → Bool, Hid (Blk wr w4.heap.size (bitCells f).toArray TBits) ∧ Hid (∀ j, j < k → f j = (setHas xs j || setHas ys j)) ∧ Hid (∀ j, k ≤ j → f j = setHas xs j) ∧ Hid (Blk wr w5.heap.size (bitCells fun i => setHas ys i).toArray TBits) ∧ Hid (Below w.heap.size w wr))
      case atStart => exact ⟨0, rfl, rfl, _, HX, fun j hj => absurd hj (Nat.not_lt_zero _), fun j _ => rfl, HY, HB⟩
      case round =>
        clear HX HY HB
        obtain ⟨k, hk, rfl, f, HX, HF, HG, HY, HB⟩ := hrel
        by_cases hk2 : k < 256
        · have c0 := bit_cell HX.out k hk2
          have f0 := HX.out.free k
          have c1 := bit_cell HY.out k hk2
          have F0 := HG.out k (Nat.le_refl _)
          by_cases hf : f k = true
          · rw [hf] at c0
            have G : Hid (setHas xs k = true) := by rw [← F0]; exact hf
            clear hf F0
            go_wp2
            go_roundg (gk - 1)
            case rel =>
              refine ⟨k + 1, by have := hk.out; show _ = _; omega, by go_num, _, bit_set HX.out k _, ?_, ?_, HY.out.far (by simp; omega) _, below_set HB.out (by simp; omega) _⟩
              · intro j hj
                by_cases e : j = k
                · subst e; simp [G.out]
                · rw [if_neg e]
                  exact HF.out j (by omega)
              · intro j hj
                rw [if_neg (by omega)]
                exact HG.out j (by omega)
            case measure => have := hk.out; omega
          · have hf' : f k = false := by simpa using hf
            rw [hf'] at c0
            have G : Hid (setHas xs k = false) := by rw [← F0]; exact hf'
            clear hf hf' F0
            go_wp2
            go_roundg (gk - 1)
            case rel =>
              refine ⟨k + 1, by have := hk.out; show _ = _; omega, by go_num, _, bit_set HX.out k _, ?_, ?_, HY.out.far (by simp; omega) _, below_set HB.out (by simp; omega) _⟩
              · intro j hj
                by_cases e : j = k
                · subst e; simp [G.out]
                · rw [if_neg e]
                  exact HF.out j (by omega)
              · intro j hj
                rw [if_neg (by omega)]
                exact HG.out j (by omega)
            case measure => have := hk.out; omega
        · have hF : bitCells f = bitCells fun i => setHas xs i || setHas ys i := bitCells_congr fun i hi => HF.out i (by omega)
          have HK := Lib.hid hF
          clear hF
          go_wp2_with (with_reducible (with_reducible refine at_ld 34 ?_); refine ev_load (o := ⟨some 34, _, _, _, _, _⟩) rfl TBits _ rfl w4.heap.size rfl (bitCells f) TBits HX.out _ uBits rfl (sizeBits' f) ?_)
          refine (spans_c f _).mono ?_
          rintro e w9 ⟨v9, rfl, o9, b9⟩
          go_wp2
          go_ret
          refine ⟨_, rfl, ?_, below_then HB.out b9⟩
          rw [E.out, spansOf_congr (fun i hi => (HF.out i (by omega)).symm)]
          exact o9.lower HB.out.size
    · have ho2 : setOk ys = false := by simpa using ho'
      have E : Hid (setJoin xs ys = []) := by show _ = _; simp [setJoin, ho2]
      clear ho'
      go_enter Tryz.func141, Tryz.ntmps141
      go_wp2_with fail
      refine (iSetOk_c _ _ _ _ h).mono ?_
      rintro e w1 ⟨rfl, b1⟩
      replace h' := h'.below b1
      go_wp2_with fail
      refine (iSetOk_c _ _ _ _ h').mono ?_
      rintro e w2 ⟨rfl, b2⟩
      go_wp2
      go_ret
      exact ⟨_, rfl, by rw [E.out]; exact OwnSp.nil _ _, below_then b1 b2⟩
  · have ho2 : setOk xs = false := by simpa using ho
    have E : Hid (setJoin xs ys = []) := by show _ = _; simp [setJoin, ho2]
    clear ho
    go_enter Tryz.func141, Tryz.ntmps141
    go_wp2_with fail
    refine (iSetOk_c _ _ _ _ h).mono ?_
    rintro e w1 ⟨rfl, b1⟩
    go_wp2
    go_ret
    exact ⟨_, rfl, by rw [E.out]; exact OwnSp.nil _ _, b1⟩

set_option maxRecDepth 100000 in
set_option maxHeartbeats 2000000 in
theorem iSetMeet_c (A B : Option Addr) (c d : Nat) (xs ys : List Sp) (w : World) {lo lo' : Nat} (h : Sps w lo A c xs) (h' : Sps w lo' B d ys) :
    Calls Tryz.prog 142 #[.slice A xs.length c, .slice B ys.length d] w fun e w' => ∃ v, e = .returned v ∧ OwnSp w' w.heap.size v (setMeet xs ys) ∧ Below w.heap.size w w' := by
  by_cases ho : setOk xs = true
  · by_cases ho' : setOk ys = true
    · have E : Hid (setMeet xs ys = spansOf fun i => setHas xs i && setHas ys i) := by show _ = _; simp [setMeet, ho, ho']
      go_enter Tryz.func142, Tryz.ntmps142
      go_wp2_with fail
      refine (iSetOk_c _ _ _ _ h).mono ?_
      rintro e w1 ⟨rfl, b1⟩
      replace h := h.below b1
      replace h' := h'.below b1
      go_wp2_with fail
      refine (iSetOk_c _ _ _ _ h').mono ?_
      rintro e w2 ⟨rfl, b2⟩
      replace h := h.below b2
      replace h' := h'.below b2
      replace b2 := below_then b1 b2
      clear b1
      go_wp2_with fail
      refine (bitsOf_c _ _ _ _ h).mono ?_
      rintro e w3 ⟨rfl, b3⟩
      replace h' := h'.below b3
      replace b3 := below_then b2 b3
      clear b2 h
      go_wp2_with fail
      refine (bitsOf_c _ _ _ _ h').mono ?_
      rintro e w4 ⟨rfl, b4⟩
      replace b4 := below_then b3 b4
      clear b3 h'
      have HB4 : Hid (Below w.heap.size w w4) := b4
      clear b4
      go_wp2_with (first
        | (with_reducible refine ev_alloc (o := ⟨some 5, _, _, _, _, _⟩) rfl TBits rfl _ infoBits ?_; rintro _ w5 rfl hX5 hb5; have HB5 := Lib.hid (below_then HB4.out hb5))
        | (with_reducible refine ev_alloc (o := ⟨some 6, _, _, _, _, _⟩) rfl TBits rfl _ infoBits ?_; rintro _ w6 rfl hY6 hb6; have hX6 := hX5.below hb6; have HB6 := Lib.hid (below_then HB5.out hb6))
        | (with_reducible (with_reducible refine at_st 5 17 ?_); refine ev_store (o := ⟨none, .store _ (.tmp 5) _, _, _, _, _⟩) rfl rfl TBits (.tmp 5) (.tmp 17) rfl w4.heap.size 0 rfl (bitCells fun i => setHas xs i) rfl _ TBits hX6 (sizeBits' _) (by simp [bitCells_length]) (bitCells_one _) ?_; intro w7 hX7 hg7; rw [bits_store_eq] at hX7; have hY7 := hY6.grown hg7 (fun q hq => by injection hq with hq; have := hX5.lt; omega); have HB7 := Lib.hid (HB6.out.grown hg7 HB6.out.size (fun q hq => by injection hq with hq; have := HB4.out.size; omega)))
        | (with_reducible (with_reducible refine at_st 6 19 ?_); refine ev_store (o := ⟨none, .store _ (.tmp 6) _, _, _, _, _⟩) rfl rfl TBits (.tmp 6) (.tmp 19) rfl w5.heap.size 0 rfl (bitCells fun i => setHas ys i) rfl _ TBits hY7 (sizeBits' _) (by simp [bitCells_length]) (bitCells_one _) ?_; intro w8 hY8 hg8; rw [bits_store_eq] at hY8; have hX8 := hX7.grown hg8 (fun q hq => by injection hq with hq; have := hX5.lt; omega); have HB8 := Lib.hid (HB7.out.grown hg8 HB7.out.size (fun q hq => by injection hq with hq; have := HB5.out.size; omega))))
      have hlt := hX5.lt
      have hsz := HB4.out.size
      have HX := Lib.hid hX8
      have HY := Lib.hid hY8
      have HB := Lib.hid HB8.out
      clear hX5 hX6 hX7 hX8 hY6 hY7 hY8 hg7 hg8 hb5 hb6 HB4 HB5 HB6 HB7 HB8
      go_loopg [20] 256 (fun n i wr => ∃ k : Nat, Hid (k + n = 256) ∧ i = .int .i64 k ∧ ∃ f : Nat → Bool, Hid (Blk wr w4.heap.size (bitCells f).toArray TBits) ∧ Hid (∀ j, j < k → f j = (setHas xs j && setHas ys j)) ∧ Hid (∀ j, k ≤ j → f j = setHas xs j) ∧ Hid (Blk wr w5.heap.size (bitCells fun i => setHas ys i).toArray TBits) ∧ Hid (Below w.heap.size w wr))
      case atStart => exact ⟨0, rfl, rfl, _, HX, fun j hj => absurd hj (Nat.not_lt_zero _), fun j _ => rfl, HY, HB⟩
      case round =>
        clear HX HY HB
        obtain ⟨k, hk, rfl, f, HX, HF, HG, HY, HB⟩ := hrel
        by_cases hk2 : k < 256
        · have c0 := bit_cell HX.out k hk2
          have f0 := HX.out.free k
          have c1 := bit_cell HY.out k hk2
          have F0 := HG.out k (Nat.le_refl _)
          by_cases hf : f k = true
          · rw [hf] at c0
            have G : Hid (setHas xs k = true) := by rw [← F0]; exact hf
            clear hf F0
            go_wp2
            go_roundg (gk - 1)
            case rel =>
              refine ⟨k + 1, by have := hk.out; show _ = _; omega, by go_num, _, bit_set HX.out k _, ?_, ?_, HY.out.far (by simp; omega) _, below_set HB.out (by simp; omega) _⟩
              · intro j hj
                by_cases e : j = k
                · subst e; simp [G.out]
                · rw [if_neg e]
                  exact HF.out j (by omega)
              · intro j hj
                rw [if_neg (by omega)]
                exact HG.out j (by omega)
            case measure => have := hk.out; omega
          · have hf' : f k = false := by simpa using hf
            rw [hf'] at c0
            have G : Hid (setHas xs k = false) := by rw [← F0]; exact hf'
            clear hf hf' F0
            go_wp2
            go_roundg (gk - 1)
            case rel =>
              refine ⟨k + 1, by have := hk.out; show _ = _; omega, by go_num, _, bit_set HX.out k _, ?_, ?_, HY.out.far (by simp; omega) _, below_set HB.out (by simp; omega) _⟩
              · intro j hj
                by_cases e : j = k
                · subst e; simp [G.out]
                · rw [if_neg e]
                  exact HF.out j (by omega)
              · intro j hj
                rw [if_neg (by omega)]
                exact HG.out j (by omega)
            case measure => have := hk.out; omega
        · have hF : bitCells f = bitCells fun i => setHas xs i && setHas ys i := bitCells_congr fun i hi => HF.out i (by omega)
          have HK := Lib.hid hF
          clear hF
          go_wp2_with (with_reducible (with_reducible refine at_ld 34 ?_); refine ev_load (o := ⟨some 34, _, _, _, _, _⟩) rfl TBits _ rfl w4.heap.size rfl (bitCells f) TBits HX.out _ uBits rfl (sizeBits' f) ?_)
          refine (spans_c f _).mono ?_
          rintro e w9 ⟨v9, rfl, o9, b9⟩
          go_wp2
          go_ret
          refine ⟨_, rfl, ?_, below_then HB.out b9⟩
          rw [E.out, spansOf_congr (fun i hi => (HF.out i (by omega)).symm)]
          exact o9.lower HB.out.size
    · have ho2 : setOk ys = false := by simpa using ho'
      have E : Hid (setMeet xs ys = []) := by show _ = _; simp [setMeet, ho2]
      clear ho'
      go_enter Tryz.func142, Tryz.ntmps142
      go_wp2_with fail
      refine (iSetOk_c _ _ _ _ h).mono ?_
      rintro e w1 ⟨rfl, b1⟩
      replace h' := h'.below b1
      go_wp2_with fail
      refine (iSetOk_c _ _ _ _ h').mono ?_
      rintro e w2 ⟨rfl, b2⟩
      go_wp2
      go_ret
      exact ⟨_, rfl, by rw [E.out]; exact OwnSp.nil _ _, below_then b1 b2⟩
  · have ho2 : setOk xs = false := by simpa using ho
    have E : Hid (setMeet xs ys = []) := by show _ = _; simp [setMeet, ho2]
    clear ho
    go_enter Tryz.func142, Tryz.ntmps142
    go_wp2_with fail
    refine (iSetOk_c _ _ _ _ h).mono ?_
    rintro e w1 ⟨rfl, b1⟩
    go_wp2
    go_ret
    exact ⟨_, rfl, by rw [E.out]; exact OwnSp.nil _ _, b1⟩

end Go.Proofs.YtfeidjjabjejiaaGreatDoor

/- Simpler patterns, and what is left behind a byte: shapes and sizes are kept. Plain. -/
namespace Go.Proofs.YtfeidjjabjejiaaGreatDoor
set_option linter.unusedSimpArgs false
set_option linter.unusedVariables false
set_option maxRecDepth 100000

theorem nrm_leaf {r : Rex} (h : r.kind = 1 ∨ r.kind = 2) : nrm r = r := by
  obtain ⟨k, s, ks⟩ := r
  have h' : k = 1 ∨ k = 2 := h
  rw [nrm, if_neg (by omega), if_neg (by omega), if_neg (by omega), if_neg (by omega), if_neg (by omega)]
theorem nrm_cat (s : List Sp) (a b : Rex) : nrm (.mk 3 s [a, b]) = nCat (nrm a) (nrm b) := by rw [nrm, if_pos rfl, nrmAt, nrmAt, nrmAt]
theorem nrm_or (s : List Sp) (a b : Rex) : nrm (.mk 4 s [a, b]) = nOr (nrm a) (nrm b) := by rw [nrm, if_neg (by decide), if_pos rfl, nrmAt, nrmAt, nrmAt]
theorem nrm_and (s : List Sp) (a b : Rex) : nrm (.mk 6 s [a, b]) = nAnd (nrm a) (nrm b) := by rw [nrm, if_neg (by decide), if_neg (by decide), if_pos rfl, nrmAt, nrmAt, nrmAt]
theorem nrm_star (s : List Sp) (a : Rex) : nrm (.mk 5 s [a]) = nStar (nrm a) := by rw [nrm, if_neg (by decide), if_neg (by decide), if_neg (by decide), if_pos rfl, nrmAt]
theorem nrm_not (s : List Sp) (a : Rex) : nrm (.mk 7 s [a]) = nNot (nrm a) := by rw [nrm, if_neg (by decide), if_neg (by decide), if_neg (by decide), if_neg (by decide), if_pos rfl, nrmAt]
theorem dv_set (b : Int) (s : List Sp) (ks : List Rex) : dv b (.mk 1 s ks) = if setHas s b = true then .mk 2 [] [] else noT := by rw [dv, if_pos rfl]
theorem dv_emp (b : Int) (s : List Sp) (ks : List Rex) : dv b (.mk 2 s ks) = noT := by rw [dv, if_neg (by decide), if_neg (by decide), if_neg (by decide), if_neg (by decide), if_neg (by decide), if_neg (by decide)]
theorem dv_cat (b : Int) (s : List Sp) (x y : Rex) : dv b (.mk 3 s [x, y]) = if null x = true then nOr (nCat (dv b x) y) (dv b y) else nCat (dv b x) y := by
  rw [dv, if_neg (by decide), if_pos rfl, nullAt, dvAt, dvAt, dvAt]; rfl
theorem dv_or (b : Int) (s : List Sp) (x y : Rex) : dv b (.mk 4 s [x, y]) = nOr (dv b x) (dv b y) := by rw [dv, if_neg (by decide), if_neg (by decide), if_pos rfl, dvAt, dvAt, dvAt]
theorem dv_and (b : Int) (s : List Sp) (x y : Rex) : dv b (.mk 6 s [x, y]) = nAnd (dv b x) (dv b y) := by rw [dv, if_neg (by decide), if_neg (by decide), if_neg (by decide), if_pos rfl, dvAt, dvAt, dvAt]
theorem dv_star (b : Int) (s : List Sp) (x : Rex) : dv b (.mk 5 s [x]) = nCat (dv b x) (.mk 5 s [x]) := by rw [dv, if_neg (by decide), if_neg (by decide), if_neg (by decide), if_neg (by decide), if_pos rfl, dvAt]
theorem dv_not (b : Int) (s : List Sp) (x : Rex) : dv b (.mk 7 s [x]) = nNot (dv b x) := by rw [dv, if_neg (by decide), if_neg (by decide), if_neg (by decide), if_neg (by decide), if_neg (by decide), if_pos rfl, dvAt]

structure Fit1 (r : Rex) (m : Nat) : Prop where
  wf : wf r
  many : r.many ≤ m
theorem wf_size {r : Rex} (h : wf r) : r.size + 1 ≤ 130 * r.many := by
  refine wf_ind (p := fun r => r.size + 1 ≤ 130 * r.many) (fun s hs => ?_) ?_ (fun k a b _ _ _ ia ib => ?_) (fun k a _ _ ia => ?_) r h
  · have := ok_len128 hs
    simp [Rex.size, sizeL, Rex.many, manyL]
    omega
  · simp [Rex.size, sizeL, Rex.many, manyL]
  · rw [two_many, two_size]; omega
  · simp [Rex.size, sizeL, Rex.many, manyL]; omega
theorem nrm_fit (r : Rex) (h : wf r) : Fit1 (nrm r) r.many := by
  refine wf_ind (p := fun r => Fit1 (nrm r) r.many) (fun s hs => ?_) ?_ (fun k a b hk wa wb ia ib => ?_) (fun k a hk wa ia => ?_) r h
  · rw [nrm_leaf (.inl rfl)]; exact ⟨wf_set hs, Nat.le_refl _⟩
  · rw [nrm_leaf (.inr rfl)]; exact ⟨wf_empty, Nat.le_refl _⟩
  · have e := two_many k a b
    have g1 := ia.many
    have g2 := ib.many
    rcases hk with rfl | rfl | rfl
    · rw [e, two, nrm_cat]; have f := nCat_fit _ ia.wf _ ib.wf; exact ⟨f.wf, by have := f.many; omega⟩
    · rw [e, two, nrm_or]; have f := nOr_fit ia.wf ib.wf; exact ⟨f.wf, by have := f.many; omega⟩
    · rw [e, two, nrm_and]; have f := nAnd_fit ia.wf ib.wf; exact ⟨f.wf, by have := f.many; omega⟩
  · have g1 := ia.many
    have e : ∀ j : Int, (Rex.mk j [] [a]).many = a.many + 1 := fun j => by simp [Rex.many, manyL]; omega
    rcases hk with rfl | rfl
    · rw [e, nrm_star]; have f := nStar_fit ia.wf; exact ⟨f.wf, by have := f.many; omega⟩
    · rw [e, nrm_not]; have f := nNot_fit ia.wf; exact ⟨f.wf, by have := f.many; omega⟩
theorem sq_sum (A B : Nat) : (A + B) * (A + B) = A * A + B * B + 2 * (A * B) := by
  rw [Nat.add_mul, Nat.mul_add, Nat.mul_add, Nat.mul_comm B A]
  omega
theorem sq_two (a b : Nat) : (a + 1) * (a + 1) + (b + 1) * (b + 1) + 2 * ((a + 1) * (b + 1)) = (a + b + 1 + 1) * (a + b + 1 + 1) := by
  have h := sq_sum (a + 1) (b + 1)
  rw [show a + 1 + (b + 1) = a + b + 1 + 1 by omega] at h
  exact h.symm
theorem sq_one (a : Nat) : (a + 1) * (a + 1) + 2 * (a + 1) + 1 = (a + 1 + 1) * (a + 1 + 1) := by
  have h := sq_sum (a + 1) 1
  omega
theorem dv_fit (b : Int) (r : Rex) (h : wf r) : Fit1 (dv b r) ((r.many + 1) * (r.many + 1)) := by
  refine wf_ind (p := fun r => Fit1 (dv b r) ((r.many + 1) * (r.many + 1))) (fun s hs => ?_) ?_ (fun k x y hk wx wy ix iy => ?_) (fun k x hk wx ix => ?_) r h
  · rw [dv_set]
    split
    · exact ⟨wf_empty, by simp [Rex.many, manyL]⟩
    · exact ⟨wf_no, by simp [noT, Rex.many, manyL]⟩
  · rw [dv_emp]; exact ⟨wf_no, by simp [noT, Rex.many, manyL]⟩
  · have e := two_many k x y
    have g1 := ix.many
    have g2 := iy.many
    have q := sq_two x.many y.many
    have q2 : y.many + 1 ≤ (x.many + 1) * (y.many + 1) := Nat.le_mul_of_pos_left _ (Nat.succ_pos _)
    have q3 : x.many + 1 ≤ (x.many + 1) * (y.many + 1) := Nat.le_mul_of_pos_right _ (Nat.succ_pos _)
    have p1 := many_pos x
    have p2 := many_pos y
    rw [e, ← q]
    rcases hk with rfl | rfl | rfl
    · rw [two, dv_cat]
      have f := nCat_fit _ ix.wf y wy
      have f1 := f.many
      split
      · have f2 := nOr_fit f.wf iy.wf
        exact ⟨f2.wf, by have := f2.many; omega⟩
      · exact ⟨f.wf, by omega⟩
    · rw [two, dv_or]
      have f := nOr_fit ix.wf iy.wf
      exact ⟨f.wf, by have := f.many; omega⟩
    · rw [two, dv_and]
      have f := nAnd_fit ix.wf iy.wf
      exact ⟨f.wf, by have := f.many; omega⟩
  · have e : ∀ j : Int, (Rex.mk j [] [x]).many = x.many + 1 := fun j => by simp [Rex.many, manyL]; omega
    have g1 := ix.many
    have q := sq_one x.many
    rw [e, ← q]
    rcases hk with rfl | rfl
    · rw [dv_star]
      have f := nCat_fit _ ix.wf _ (wf_one (.inl rfl) wx)
      have f1 := f.many
      rw [e] at f1
      exact ⟨f.wf, by omega⟩
    · rw [dv_not]
      have f := nNot_fit ix.wf
      exact ⟨f.wf, by have := f.many; omega⟩

end Go.Proofs.YtfeidjjabjejiaaGreatDoor

/- The laws of sets, in plain Lean. -/
namespace Go.Proofs.YtfeidjjabjejiaaGreatDoor
set_option linter.unusedSimpArgs false
set_option linter.unusedVariables false
set_option maxRecDepth 100000

theorem join_ok (a b : List Sp) : setOk (setJoin a b) = true := by
  unfold setJoin; split
  · exact setOk_spans _
  · rfl
theorem meet_ok (a b : List Sp) : setOk (setMeet a b) = true := by
  unfold setMeet; split
  · exact setOk_spans _
  · rfl
theorem not_ok (a : List Sp) : setOk (setNot a) = true := by
  unfold setNot; split
  · exact setOk_spans _
  · rfl
theorem has_out {a : List Sp} (h : setOk a = true) {i : Int} (hi : i < 0 ∨ 255 < i) : setHas a i = false := by
  rw [Bool.eq_false_iff]
  intro hc
  have := setOk_range h hc
  omega
theorem has_spans (f : Int → Bool) (hf : ∀ i, i < 0 ∨ 255 < i → f i = false) (i : Int) : setHas (spansOf fun k => f k) i = f i := by
  by_cases h : i < 0 ∨ 255 < i
  · rw [setHas_spans_out _ _ h, hf i h]
  · obtain ⟨k, rfl⟩ := Int.eq_ofNat_of_zero_le (show 0 ≤ i by omega)
    exact setHas_spans_nat _ k (by omega)
theorem has_join {a b : List Sp} (ha : setOk a = true) (hb : setOk b = true) (i : Int) : setHas (setJoin a b) i = (setHas a i || setHas b i) := by
  rw [setJoin, ha, hb]
  exact has_spans (fun i => setHas a i || setHas b i) (fun i hi => by simp [has_out ha hi, has_out hb hi]) i
theorem has_meet {a b : List Sp} (ha : setOk a = true) (hb : setOk b = true) (i : Int) : setHas (setMeet a b) i = (setHas a i && setHas b i) := by
  rw [setMeet, ha, hb]
  exact has_spans (fun i => setHas a i && setHas b i) (fun i hi => by simp [has_out ha hi]) i
theorem has_not {a : List Sp} (ha : setOk a = true) (i : Int) : setHas (setNot a) i = (decide (0 ≤ i) && decide (i ≤ 255) && !setHas a i) := by
  rw [setNot, ha]
  have e : (spansOf fun k => !setHas a (k : Int)) = spansOf fun k : Nat => (fun i : Int => decide (0 ≤ i) && decide (i ≤ 255) && !setHas a i) k := spansOf_congr fun k hk => by
    have h1 : (0 : Int) ≤ k := by omega
    have h2 : (k : Int) ≤ 255 := by omega
    simp [h1, h2]
  show setHas (spansOf fun k => !setHas a (k : Int)) i = _
  rw [e]
  exact has_spans (fun i => decide (0 ≤ i) && decide (i ≤ 255) && !setHas a i) (fun i hi => by
    rcases hi with hi | hi
    · have : ¬ 0 ≤ i := by omega
      simp [this]
    · have : ¬ i ≤ 255 := by omega
      simp [this]) i
theorem join_bad {a b : List Sp} (h : setOk a = false ∨ setOk b = false) : setJoin a b = [] := by
  unfold setJoin; rcases h with h | h <;> simp [h]
theorem meet_bad {a b : List Sp} (h : setOk a = false ∨ setOk b = false) : setMeet a b = [] := by
  unfold setMeet; rcases h with h | h <;> simp [h]

theorem not_not {a : List Sp} (ha : setOk a = true) : setNot (setNot a) = a := by
  refine setOk_ext (not_ok _) ha fun i => ?_
  rw [has_not (not_ok _), has_not ha]
  by_cases h : i < 0 ∨ 255 < i
  · rw [has_out ha h]
    rcases h with h | h
    · have : ¬ 0 ≤ i := by omega
      simp [this]
    · have : ¬ i ≤ 255 := by omega
      simp [this]
  · have h1 : 0 ≤ i := by omega
    have h2 : i ≤ 255 := by omega
    simp [h1, h2]

theorem cnt_not (f g : Nat → Bool) : ∀ n, (∀ k, k < n → g k = !f k) → cnt g n + cnt f n = n := by
  intro n
  induction n with
  | zero => intro _; rfl
  | succ n ih =>
    intro h
    have e := ih fun k hk => h k (by omega)
    have e0 := h n (by omega)
    simp only [cnt, e0]
    cases f n <;> simp <;> omega
theorem cnt_two (f g p q : Nat → Bool) : ∀ n, (∀ k, k < n → p k = (f k || g k)) → (∀ k, k < n → q k = (f k && g k)) → cnt p n + cnt q n = cnt f n + cnt g n := by
  intro n
  induction n with
  | zero => intro _ _; rfl
  | succ n ih =>
    intro h1 h2
    have e := ih (fun k hk => h1 k (by omega)) (fun k hk => h2 k (by omega))
    have e1 := h1 n (by omega)
    have e2 := h2 n (by omega)
    simp only [cnt, e1, e2]
    cases f n <;> cases g n <;> simp <;> omega
theorem cnt_le' (f : Nat → Bool) : ∀ n, cnt f n ≤ n := by
  intro n
  induction n with
  | zero => exact Nat.le_refl _
  | succ n ih => rw [cnt]; split <;> omega
theorem size_le (a : List Sp) : 0 ≤ setSize a ∧ setSize a ≤ 256 := by
  have := cnt_le' (fun i => setHas a i) 256
  unfold setSize
  omega
theorem size_not {a : List Sp} (ha : setOk a = true) : setSize (setNot a) + setSize a = 256 := by
  have := cnt_not (fun i => setHas a i) (fun i => setHas (setNot a) i) 256 fun k hk => by
    rw [has_not ha]
    have h1 : (0 : Int) ≤ k := by omega
    have h2 : (k : Int) ≤ 255 := by omega
    simp [h1, h2]
  unfold setSize
  omega
theorem size_two {a b : List Sp} (ha : setOk a = true) (hb : setOk b = true) : setSize (setJoin a b) + setSize (setMeet a b) = setSize a + setSize b := by
  have := cnt_two (fun i => setHas a i) (fun i => setHas b i) (fun i => setHas (setJoin a b) i) (fun i => setHas (setMeet a b) i) 256 (fun k _ => has_join ha hb _) (fun k _ => has_meet ha hb _)
  unfold setSize
  omega

/-! ### the algebra -/
theorem join_comm {a b : List Sp} (ha : setOk a = true) (hb : setOk b = true) : setJoin a b = setJoin b a :=
  setOk_ext (join_ok _ _) (join_ok _ _) fun i => by rw [has_join ha hb, has_join hb ha, Bool.or_comm]
theorem meet_comm {a b : List Sp} (ha : setOk a = true) (hb : setOk b = true) : setMeet a b = setMeet b a :=
  setOk_ext (meet_ok _ _) (meet_ok _ _) fun i => by rw [has_meet ha hb, has_meet hb ha, Bool.and_comm]
theorem join_assoc {a b c : List Sp} (ha : setOk a = true) (hb : setOk b = true) (hc : setOk c = true) : setJoin (setJoin a b) c = setJoin a (setJoin b c) :=
  setOk_ext (join_ok _ _) (join_ok _ _) fun i => by rw [has_join (join_ok _ _) hc, has_join ha hb, has_join ha (join_ok _ _), has_join hb hc, Bool.or_assoc]
theorem meet_join {a b c : List Sp} (ha : setOk a = true) (hb : setOk b = true) (hc : setOk c = true) : setMeet a (setJoin b c) = setJoin (setMeet a b) (setMeet a c) :=
  setOk_ext (meet_ok _ _) (join_ok _ _) fun i => by rw [has_meet ha (join_ok _ _), has_join hb hc, has_join (meet_ok _ _) (meet_ok _ _), has_meet ha hb, has_meet ha hc, Bool.and_or_distrib_left]
theorem not_join {a b : List Sp} (ha : setOk a = true) (hb : setOk b = true) : setNot (setJoin a b) = setMeet (setNot a) (setNot b) :=
  setOk_ext (not_ok _) (meet_ok _ _) fun i => by
    rw [has_not (join_ok _ _), has_join ha hb, has_meet (not_ok _) (not_ok _), has_not ha, has_not hb]
    cases decide (0 ≤ i) <;> cases decide (i ≤ 255) <;> cases setHas a i <;> cases setHas b i <;> rfl

/-! ### the first -/
theorem first_spec (f : Nat → Bool) : ∀ d i, (firstGo f d i = -1 ∧ ∀ k, i ≤ k → k < i + d → f k = false) ∨ (∃ k : Nat, firstGo f d i = k ∧ i ≤ k ∧ k < i + d ∧ f k = true ∧ ∀ j, i ≤ j → j < k → f j = false) := by
  intro d
  induction d with
  | zero => intro i; exact .inl ⟨rfl, fun k _ _ => by omega⟩
  | succ d ih =>
    intro i
    by_cases h : f i = true
    · refine .inr ⟨i, by rw [firstGo, if_pos h], Nat.le_refl _, by omega, h, fun j _ _ => by omega⟩
    · have h' : f i = false := by simpa using h
      have e : firstGo f (d + 1) i = firstGo f d (i + 1) := by rw [firstGo, if_neg h]
      rw [e]
      rcases ih (i + 1) with ⟨h1, h2⟩ | ⟨k, h1, h2, h3, h4, h5⟩
      · refine .inl ⟨h1, fun k hk hk2 => ?_⟩
        by_cases hki : k = i
        · rw [hki]; exact h'
        · exact h2 k (by omega) (by omega)
      · refine .inr ⟨k, h1, by omega, by omega, h4, fun j hj hj2 => ?_⟩
        by_cases hji : j = i
        · rw [hji]; exact h'
        · exact h5 j (by omega) hj2
theorem setFirst_spec (s : List Sp) : (setFirst s = -1 ∧ ∀ k : Nat, k < 256 → setHas s k = false) ∨ (∃ k : Nat, setFirst s = k ∧ k < 256 ∧ setHas s k = true ∧ ∀ j : Nat, j < k → setHas s j = false) := by
  rcases first_spec (fun i => setHas s i) 256 0 with ⟨h1, h2⟩ | ⟨k, h1, _, h3, h4, h5⟩
  · exact .inl ⟨h1, fun k hk => h2 k (Nat.zero_le _) (by omega)⟩
  · exact .inr ⟨k, h1, by omega, h4, fun j hj => h5 j (Nat.zero_le _) hj⟩
theorem cnt_zero (f : Nat → Bool) : ∀ n, cnt f n = 0 ↔ ∀ k, k < n → f k = false := by
  intro n
  induction n with
  | zero => simp [cnt]
  | succ n ih =>
    rw [cnt]
    constructor
    · intro h k hk
      have h0 : f n = false := by
        rw [Bool.eq_false_iff]; intro hc; rw [hc] at h; simp at h
      by_cases hkn : k = n
      · rw [hkn]; exact h0
      · exact ih.1 (by omega) k (by omega)
    · intro h
      rw [h n (by omega), ih.2 fun k hk => h k (by omega)]
      rfl
theorem size_zero (s : List Sp) : setSize s = 0 ↔ setFirst s < 0 := by
  have e : setSize s = 0 ↔ ∀ k, k < 256 → (fun i : Nat => setHas s i) k = false := by
    rw [← cnt_zero]
    unfold setSize
    omega
  rw [e]
  rcases setFirst_spec s with ⟨h1, h2⟩ | ⟨k, h1, h3, h4, h5⟩
  · rw [h1]
    exact ⟨fun _ => by omega, fun _ => h2⟩
  · rw [h1]
    refine ⟨fun h => ?_, fun h => by omega⟩
    have := h k h3
    simp only [h4] at this
    cases this
theorem one_ok {k : Nat} (h : k < 256) : setOk [⟨k, k⟩] = true := by
  have : spBad none ⟨k, k⟩ = false := (spBad_false _ _).2 ⟨by show (0 : Int) ≤ k; omega, by show (k : Int) ≤ k; omega, by show (k : Int) ≤ 255; omega, fun q hq => by cases hq⟩
  simp [setOk, setOkGo, this]
theorem has_one (k : Nat) (i : Int) : setHas [⟨k, k⟩] i = decide (i = k) := by
  rw [setHas_cons, setHas_nil, Bool.or_false, Bool.eq_iff_iff, spIn_iff, decide_eq_true_eq]
  show (k : Int) ≤ i ∧ i ≤ (k : Int) ↔ _
  omega
theorem meet_one {s : List Sp} {k : Nat} (hs : setOk s = true) (hk : k < 256) (h : setHas s k = true) : setMeet s [⟨k, k⟩] = [⟨k, k⟩] :=
  setOk_ext (meet_ok _ _) (one_ok hk) fun i => by
    rw [has_meet hs (one_ok hk), has_one]
    by_cases e : i = k
    · subst e; simp [h]
    · simp [e]
theorem join_one {s : List Sp} {k : Nat} (hs : setOk s = true) (hk : k < 256) (h : setHas s k = true) : setJoin s [⟨k, k⟩] = s :=
  setOk_ext (join_ok _ _) hs fun i => by
    rw [has_join hs (one_ok hk), has_one]
    by_cases e : i = k
    · subst e; simp [h]
    · simp [e]
theorem cnt_one (f : Nat → Bool) (k : Nat) (h : ∀ j, f j = decide (j = k)) : ∀ n, cnt f n = if k < n then 1 else 0 := by
  intro n
  induction n with
  | zero => rfl
  | succ n ih =>
    rw [cnt, ih, h n]
    by_cases h1 : k < n
    · simp [h1, show ¬ n = k by omega, show k < n + 1 by omega]
    · by_cases h2 : n = k
      · subst h2; simp
      · simp [h1, h2, show ¬ k < n + 1 by omega]
theorem size_one {k : Nat} (hk : k < 256) : setSize [⟨k, k⟩] = 1 := by
  have := cnt_one (fun i => setHas [⟨k, k⟩] i) k (fun j => by
    show setHas [⟨k, k⟩] (j : Int) = _
    rw [has_one, Bool.eq_iff_iff, decide_eq_true_eq, decide_eq_true_eq]; omega) 256
  unfold setSize
  rw [this, if_pos hk]
  rfl

end Go.Proofs.YtfeidjjabjejiaaGreatDoor

/- What two join depends on the members alone. Plain. -/
namespace Go.Proofs.YtfeidjjabjejiaaGreatDoor
set_option linter.unusedSimpArgs false
set_option linter.unusedVariables false
set_option maxRecDepth 100000

def allT : Rex := .mk 7 [] [noT]
theorem wf_all : wf allT := wf_one (.inr rfl) wf_no
theorem isNo_wf {r : Rex} (h : wf r) : isNo r = true ↔ r = noT := by
  constructor
  · intro e
    obtain ⟨e1, e2⟩ := (isNo_iff r).1 e
    obtain ⟨e3, _⟩ := wf_leaf h (.inl e1)
    rw [r.eta, e1, e2, e3]
    rfl
  · rintro rfl; rfl
theorem isAll_wf {r : Rex} (h : wf r) : isAll r = true ↔ r = allT := by
  constructor
  · intro e
    rw [isAll, Bool.and_eq_true, decide_eq_true_eq] at e
    obtain ⟨a, er, ha⟩ := wf_kids1 h (.inr e.1)
    have e0 : kid0 r = a := by rw [er]; rfl
    rw [e0] at e
    rw [er, e.1, (isNo_wf ha).1 e.2]
    rfl
  · rintro rfl; rfl
theorem isSet_iff (r : Rex) : isSet r = true ↔ r.kind = 1 := by simp [isSet]
theorem wf_isSet {r : Rex} (h : wf r) (hs : isSet r = true) : r = .mk 1 r.set [] ∧ setOk r.set = true := by
  have e := (isSet_iff r).1 hs
  obtain ⟨e3, h4⟩ := wf_leaf h (.inl e)
  exact ⟨by conv => lhs; rw [r.eta, e, e3], h4⟩
theorem has_none {s : List Sp} (h : setOk s = true) (hn : ∀ b, setHas s b = false) : s = [] := setOk_ext h rfl fun b => by rw [hn, setHas_nil]
theorem has_some {s : List Sp} (h : setOk s = true) (hn : s ≠ []) : ∃ b, setHas s b = true := by
  by_cases he : ∃ b, setHas s b = true
  · exact he
  · exact absurd (has_none h fun b => by
      cases hb : setHas s b
      · rfl
      · exact absurd ⟨b, hb⟩ he) hn

/-! ### the sets among them -/
def uHas (l : List Rex) (b : Int) : Bool := l.any fun x => isSet x && setHas x.set b
def iHas (l : List Rex) (b : Int) : Bool := l.all fun x => !isSet x || setHas x.set b
def hasS (l : List Rex) : Bool := l.any isSet
theorem uHas_iff {l : List Rex} {b : Int} : uHas l b = true ↔ ∃ x, x ∈ l ∧ isSet x = true ∧ setHas x.set b = true := by simp [uHas]
theorem iHas_iff {l : List Rex} {b : Int} : iHas l b = true ↔ ∀ x, x ∈ l → isSet x = true → setHas x.set b = true := by
  rw [iHas, List.all_eq_true]
  constructor
  · intro h x hx hs
    have := h x hx
    rw [hs] at this
    simpa using this
  · intro h x hx
    cases hs : isSet x
    · rfl
    · rw [h x hx hs]; rfl
theorem hasS_iff {l : List Rex} : hasS l = true ↔ ∃ x, x ∈ l ∧ isSet x = true := by simp [hasS]
theorem uHas_app (l m : List Rex) (b : Int) : uHas (l ++ m) b = (uHas l b || uHas m b) := by simp [uHas]
theorem iHas_app (l m : List Rex) (b : Int) : iHas (l ++ m) b = (iHas l b && iHas m b) := by simp [iHas]
theorem hasS_app (l m : List Rex) : hasS (l ++ m) = (hasS l || hasS m) := by simp [hasS]
theorem joinS4 (s : List Sp) (x : Rex) : joinS 4 (some s) x = some (setJoin s x.set) := by simp [joinS]
theorem joinS6 (s : List Sp) (x : Rex) : joinS 6 (some s) x = some (setMeet s x.set) := by simp [joinS]
theorem fold4 : ∀ (l : List Rex) (s : List Sp), (∀ x ∈ l, wf x) → setOk s = true → ∃ t, (l.filter isSet).foldl (joinS 4) (some s) = some t ∧ setOk t = true ∧ ∀ b, setHas t b = (setHas s b || uHas l b)
  | [], s, _, h => ⟨s, rfl, h, fun b => by simp [uHas]⟩
  | x :: l, s, hl, h => by
    by_cases hx : isSet x = true
    · have hok := (wf_isSet (hl x (by simp)) hx).2
      obtain ⟨t, e, ht, hb⟩ := fold4 l (setJoin s x.set) (fun y hy => hl y (by simp [hy])) (join_ok _ _)
      refine ⟨t, ?_, ht, fun b => ?_⟩
      · rw [List.filter_cons, if_pos hx, List.foldl_cons, joinS4]; exact e
      · rw [hb, has_join h hok]; simp [uHas, hx, Bool.or_assoc]
    · have hx' : isSet x = false := by simpa using hx
      obtain ⟨t, e, ht, hb⟩ := fold4 l s (fun y hy => hl y (by simp [hy])) h
      exact ⟨t, by rw [List.filter_cons, if_neg hx]; exact e, ht, fun b => by rw [hb]; simp [uHas, hx']⟩
theorem fold6 : ∀ (l : List Rex) (s : List Sp), (∀ x ∈ l, wf x) → setOk s = true → ∃ t, (l.filter isSet).foldl (joinS 6) (some s) = some t ∧ setOk t = true ∧ ∀ b, setHas t b = (setHas s b && iHas l b)
  | [], s, _, h => ⟨s, rfl, h, fun b => by simp [iHas]⟩
  | x :: l, s, hl, h => by
    by_cases hx : isSet x = true
    · have hok := (wf_isSet (hl x (by simp)) hx).2
      obtain ⟨t, e, ht, hb⟩ := fold6 l (setMeet s x.set) (fun y hy => hl y (by simp [hy])) (meet_ok _ _)
      refine ⟨t, ?_, ht, fun b => ?_⟩
      · rw [List.filter_cons, if_pos hx, List.foldl_cons, joinS6]; exact e
      · rw [hb, has_meet h hok]; simp [iHas, hx, Bool.and_assoc]
    · have hx' : isSet x = false := by simpa using hx
      obtain ⟨t, e, ht, hb⟩ := fold6 l s (fun y hy => hl y (by simp [hy])) h
      exact ⟨t, by rw [List.filter_cons, if_neg hx]; exact e, ht, fun b => by rw [hb]; simp [iHas, hx']⟩
theorem bagSet_skip {k : Int} {x : Rex} {l : List Rex} (hx : isSet x = false) : bagSet k (x :: l) = bagSet k l := by
  unfold bagSet
  rw [List.filter_cons, if_neg (by simp [hx])]
theorem bagSet_first {k : Int} {x : Rex} {l : List Rex} (hx : isSet x = true) : bagSet k (x :: l) = (l.filter isSet).foldl (joinS k) (some x.set) := by
  unfold bagSet
  rw [List.filter_cons, if_pos hx, List.foldl_cons]
  rfl
theorem bagSet4 : ∀ {l : List Rex}, (∀ x ∈ l, wf x) → (hasS l = false ∧ bagSet 4 l = none) ∨ (hasS l = true ∧ ∃ t, bagSet 4 l = some t ∧ setOk t = true ∧ ∀ b, setHas t b = uHas l b)
  | [], _ => .inl ⟨rfl, rfl⟩
  | x :: l, h => by
    cases hx : isSet x
    · rw [bagSet_skip hx]
      have e1 : hasS (x :: l) = hasS l := by simp [hasS, hx]
      have e2 : ∀ b, uHas (x :: l) b = uHas l b := fun b => by simp [uHas, hx]
      rw [e1]
      simp only [e2]
      exact bagSet4 fun y hy => h y (by simp [hy])
    · right
      obtain ⟨t, e, ht, hb⟩ := fold4 l x.set (fun y hy => h y (by simp [hy])) (wf_isSet (h x (by simp)) hx).2
      exact ⟨by simp [hasS, hx], t, by rw [bagSet_first hx]; exact e, ht, fun b => by rw [hb]; simp [uHas, hx]⟩
theorem bagSet6 : ∀ {l : List Rex}, (∀ x ∈ l, wf x) → (hasS l = false ∧ bagSet 6 l = none) ∨ (hasS l = true ∧ ∃ t, bagSet 6 l = some t ∧ setOk t = true ∧ ∀ b, setHas t b = iHas l b)
  | [], _ => .inl ⟨rfl, rfl⟩
  | x :: l, h => by
    cases hx : isSet x
    · rw [bagSet_skip hx]
      have e1 : hasS (x :: l) = hasS l := by simp [hasS, hx]
      have e2 : ∀ b, iHas (x :: l) b = iHas l b := fun b => by simp [iHas, hx]
      rw [e1]
      simp only [e2]
      exact bagSet6 fun y hy => h y (by simp [hy])
    · right
      obtain ⟨t, e, ht, hb⟩ := fold6 l x.set (fun y hy => h y (by simp [hy])) (wf_isSet (h x (by simp)) hx).2
      exact ⟨by simp [hasS, hx], t, by rw [bagSet_first hx]; exact e, ht, fun b => by rw [hb]; simp [iHas, hx]⟩

/-! ### the sorted list -/
theorem asc_ne {l : List Rex} (h : Asc l) : l.Nodup := h.imp fun {a b} hlt e => by rw [e] at hlt; exact List.lt_irrefl _ hlt
theorem asc_ext {l m : List Rex} (hl : Asc l) (hm : Asc m) (h : ∀ x, x ∈ l ↔ x ∈ m) : l = m :=
  List.Perm.eq_of_pairwise (le := fun x y => rexTxt x < rexTxt y) (fun a b _ _ h1 h2 => absurd (List.lt_trans h1 h2) (List.lt_irrefl _)) hl hm ((List.perm_ext_iff_of_nodup (asc_ne hl) (asc_ne hm)).2 h)
theorem wf_txt {a b : Rex} (ha : wf a) (hb : wf b) (h : rexTxt a = rexTxt b) : a = b := by
  obtain ⟨d, hd⟩ := ha
  obtain ⟨e, he⟩ := hb
  exact txt_inj hd he h
theorem sort_iff {l : List Rex} (h : ∀ x ∈ l, wf x) {x : Rex} : x ∈ sortU l ↔ x ∈ l := by
  constructor
  · exact sort_mem
  · intro hx
    have h1 : rexTxt x ∈ (sortU l).map rexTxt := sort_txt.2 (List.mem_map.2 ⟨x, hx, rfl⟩)
    obtain ⟨y, hy, e⟩ := List.mem_map.1 h1
    rw [← wf_txt (h y (sort_mem hy)) (h x hx) e]
    exact hy
def srt (k : Int) (l : List Rex) : List Rex := sortU (bagItems k l)
theorem srt_asc (k : Int) (l : List Rex) : Asc (srt k l) := sort_asc _
theorem srt_wf {k : Int} {l : List Rex} (h : ∀ x ∈ l, wf x) : ∀ x ∈ srt k l, wf x := fun x hx => bagItems_wf h x (sort_mem hx)
theorem srt_ne {k : Int} {l : List Rex} (h : l ≠ []) : srt k l ≠ [] := sort_ne (bagItems_ne h)
theorem last_set {k : Int} {o : Option (List Sp)} {n : Nat} {x : Rex} (h : x ∈ bagLast k o n) : ∃ s, o = some s ∧ x = .mk 1 s [] ∧ (s ≠ [] ∨ k = 6 ∨ n = 0) := by
  unfold bagLast at h
  split at h
  · cases h
  · rename_i s
    split at h
    · rename_i hc
      exact ⟨s, rfl, List.mem_singleton.1 h, hc⟩
    · cases h
theorem last_mk {k : Int} {s : List Sp} {n : Nat} (h : s ≠ [] ∨ k = 6 ∨ n = 0) : Rex.mk 1 s [] ∈ bagLast k (some s) n := by
  show Rex.mk 1 s [] ∈ (if s ≠ [] ∨ k = 6 ∨ n = 0 then [Rex.mk 1 s []] else [])
  rw [if_pos h]
  simp
theorem others_iff {l : List Rex} {x : Rex} : x ∈ bagOthers l ↔ x ∈ l ∧ isSet x = false := by
  unfold bagOthers
  rw [List.mem_filter]
  simp
theorem srt_iff {k : Int} {l : List Rex} (h : ∀ x ∈ l, wf x) {x : Rex} : x ∈ srt k l ↔ (x ∈ l ∧ isSet x = false) ∨ x ∈ bagLast k (bagSet k l) (bagOthers l).length := by
  unfold srt
  rw [sort_iff (bagItems_wf h)]
  unfold bagItems
  rw [List.mem_append, others_iff]
theorem srt_other {k : Int} {l : List Rex} (h : ∀ x ∈ l, wf x) {x : Rex} (hx : isSet x = false) : x ∈ srt k l ↔ x ∈ l := by
  rw [srt_iff h]
  constructor
  · rintro (⟨h1, _⟩ | h1)
    · exact h1
    · obtain ⟨s, _, rfl, _⟩ := last_set h1
      cases hx
  · exact fun h1 => .inl ⟨h1, hx⟩
theorem others_zero {l : List Rex} : (bagOthers l).length = 0 ↔ ∀ y ∈ l, isSet y = true := by
  rw [List.length_eq_zero_iff]
  constructor
  · intro e y hy
    cases hs : isSet y
    · have : y ∈ bagOthers l := others_iff.2 ⟨hy, hs⟩
      rw [e] at this
      cases this
    · rfl
  · intro h
    exact List.eq_nil_iff_forall_not_mem.2 fun y hy => by
      obtain ⟨h1, h2⟩ := others_iff.1 hy
      rw [h y h1] at h2
      cases h2
/-- the set that is kept of those of which one will do -/
theorem srt4_set {l : List Rex} (h : ∀ x ∈ l, wf x) (hne : l ≠ []) {x : Rex} (hx : isSet x = true) :
    x ∈ srt 4 l ↔ ∃ s, x = .mk 1 s [] ∧ setOk s = true ∧ (∀ b, setHas s b = uHas l b) ∧ (s ≠ [] ∨ ∀ y ∈ l, isSet y = true) := by
  rw [srt_iff h]
  constructor
  · rintro (⟨_, h1⟩ | h1)
    · rw [hx] at h1; cases h1
    · obtain ⟨s, hs, rfl, hc⟩ := last_set h1
      rcases bagSet4 h with ⟨_, e⟩ | ⟨_, t, e, ht, hb⟩
      · rw [e] at hs; cases hs
      · rw [e] at hs
        obtain rfl : t = s := Option.some.inj hs
        refine ⟨t, rfl, ht, hb, ?_⟩
        rcases hc with hc | hc | hc
        · exact .inl hc
        · exact absurd hc (by decide)
        · exact .inr (others_zero.1 hc)
  · rintro ⟨s, rfl, hs, hb, hc⟩
    right
    have hS : hasS l = true := by
      rcases hc with hc | hc
      · obtain ⟨b, e⟩ := has_some hs hc
        rw [hb] at e
        obtain ⟨y, h1, h2, _⟩ := uHas_iff.1 e
        exact hasS_iff.2 ⟨y, h1, h2⟩
      · obtain ⟨y, hy⟩ := List.exists_mem_of_ne_nil l hne
        exact hasS_iff.2 ⟨y, hy, hc y hy⟩
    rcases bagSet4 h with ⟨e, _⟩ | ⟨_, t, e, ht, hb'⟩
    · rw [hS] at e; cases e
    · obtain rfl : s = t := setOk_ext hs ht fun b => by rw [hb, hb']
      rw [e]
      refine last_mk ?_
      rcases hc with hc | hc
      · exact .inl hc
      · exact .inr (.inr (others_zero.2 hc))
/-- the set that is kept of those that are all asked for -/
theorem srt6_set {l : List Rex} (h : ∀ x ∈ l, wf x) {x : Rex} (hx : isSet x = true) :
    x ∈ srt 6 l ↔ hasS l = true ∧ ∃ s, x = .mk 1 s [] ∧ setOk s = true ∧ ∀ b, setHas s b = iHas l b := by
  rw [srt_iff h]
  constructor
  · rintro (⟨_, h1⟩ | h1)
    · rw [hx] at h1; cases h1
    · obtain ⟨s, hs, rfl, _⟩ := last_set h1
      rcases bagSet6 h with ⟨_, e⟩ | ⟨hS, t, e, ht, hb⟩
      · rw [e] at hs; cases hs
      · rw [e] at hs
        obtain rfl : t = s := Option.some.inj hs
        exact ⟨hS, t, rfl, ht, hb⟩
  · rintro ⟨hS, s, rfl, hs, hb⟩
    right
    rcases bagSet6 h with ⟨e, _⟩ | ⟨_, t, e, ht, hb'⟩
    · rw [hS] at e; cases e
    · obtain rfl : s = t := setOk_ext hs ht fun b => by rw [hb, hb']
      rw [e]
      exact last_mk (.inr (.inl rfl))
theorem srt4_ext {l m : List Rex} (hl : ∀ x ∈ l, wf x) (hm : ∀ x ∈ m, wf x) (hne : l ≠ []) (hne' : m ≠ []) (h1 : ∀ x, isSet x = false → (x ∈ l ↔ x ∈ m)) (h2 : ∀ b, uHas l b = uHas m b) : srt 4 l = srt 4 m := by
  refine asc_ext (srt_asc _ _) (srt_asc _ _) fun x => ?_
  cases hx : isSet x
  · rw [srt_other hl hx, srt_other hm hx, h1 x hx]
  · rw [srt4_set hl hne hx, srt4_set hm hne' hx]
    have e : (∀ y ∈ l, isSet y = true) ↔ ∀ y ∈ m, isSet y = true := by
      constructor
      · intro h y hy
        cases hs : isSet y
        · rw [h y ((h1 y hs).2 hy)] at hs; cases hs
        · rfl
      · intro h y hy
        cases hs : isSet y
        · rw [h y ((h1 y hs).1 hy)] at hs; cases hs
        · rfl
    simp only [h2, e]
theorem uHas_srt {l : List Rex} (h : ∀ x ∈ l, wf x) (hne : l ≠ []) (b : Int) : uHas (srt 4 l) b = uHas l b := by
  rw [Bool.eq_iff_iff]
  constructor
  · intro hu
    obtain ⟨x, h1, h2, h3⟩ := uHas_iff.1 hu
    obtain ⟨s, rfl, _, hb, _⟩ := (srt4_set h hne h2).1 h1
    rw [← hb]
    exact h3
  · intro hu
    obtain ⟨x, h1, h2, h3⟩ := uHas_iff.1 hu
    rcases bagSet4 h with ⟨e, _⟩ | ⟨_, t, _, ht, hb⟩
    · rw [hasS_iff.2 ⟨x, h1, h2⟩] at e; cases e
    · have ht' : setHas t b = true := by rw [hb]; exact hu
      have htn : t ≠ [] := fun e => by rw [e, setHas_nil] at ht'; cases ht'
      exact uHas_iff.2 ⟨.mk 1 t [], (srt4_set h hne rfl).2 ⟨t, rfl, ht, hb, .inl htn⟩, rfl, ht'⟩
theorem hasS_srt {l : List Rex} (h : ∀ x ∈ l, wf x) : hasS (srt 6 l) = hasS l := by
  rw [Bool.eq_iff_iff]
  constructor
  · intro hu
    obtain ⟨x, h1, h2⟩ := hasS_iff.1 hu
    exact ((srt6_set h h2).1 h1).1
  · intro hu
    rcases bagSet6 h with ⟨e, _⟩ | ⟨_, t, _, ht, hb⟩
    · rw [hu] at e; cases e
    · exact hasS_iff.2 ⟨.mk 1 t [], (srt6_set h rfl).2 ⟨hu, t, rfl, ht, hb⟩, rfl⟩
theorem iHas_srt {l : List Rex} (h : ∀ x ∈ l, wf x) (b : Int) : iHas (srt 6 l) b = iHas l b := by
  rcases bagSet6 h with ⟨e, _⟩ | ⟨hS, t, _, ht, hb⟩
  · have n1 : ∀ m : List Rex, hasS m = false → iHas m b = true := fun m hm => iHas_iff.2 fun x hx hs => by
      rw [hasS_iff.2 ⟨x, hx, hs⟩] at hm; cases hm
    rw [n1 _ e, n1 _ (by rw [hasS_srt h]; exact e)]
  · rw [Bool.eq_iff_iff, ← hb]
    constructor
    · intro hi
      exact iHas_iff.1 hi _ ((srt6_set h rfl).2 ⟨hS, t, rfl, ht, hb⟩) rfl
    · intro hi
      refine iHas_iff.2 fun x hx hs => ?_
      obtain ⟨_, s, rfl, hs', hb'⟩ := (srt6_set h hs).1 hx
      show setHas s b = true
      rw [hb', ← hb]
      exact hi

/-! ### one of them will do -/
def fin4 (l : List Rex) : Rex := match (srt 4 l).find? isAll with
  | some x => x
  | none => chain 4 (srt 4 l)
theorem nOr_fin (a b : Rex) : nOr a b = fin4 (lst 4 a ++ lst 4 b) := rfl
theorem fin4_ext {l m : List Rex} (h : srt 4 l = srt 4 m) : fin4 l = fin4 m := by unfold fin4; rw [h]
theorem fin4_all {l : List Rex} (h : ∀ x ∈ l, wf x) (ha : allT ∈ l) : fin4 l = allT := by
  have h1 : allT ∈ srt 4 l := (srt_other h rfl).2 ha
  unfold fin4
  cases hf : (srt 4 l).find? isAll with
  | some x => exact (isAll_wf (srt_wf h x (List.mem_of_find?_eq_some hf))).1 (List.find?_some hf)
  | none => exact absurd (show isAll allT = true from rfl) (by simpa using List.find?_eq_none.1 hf allT h1)
theorem fin4_no {l : List Rex} (h : ∀ x ∈ l, wf x) (ha : allT ∉ l) : fin4 l = chain 4 (srt 4 l) := by
  unfold fin4
  cases hf : (srt 4 l).find? isAll with
  | some x =>
    have h1 := List.mem_of_find?_eq_some hf
    have e := (isAll_wf (srt_wf h x h1)).1 (List.find?_some hf)
    rw [e] at h1
    exact absurd ((srt_other h rfl).1 h1) ha
  | none => rfl
theorem lst_chain {k : Int} : ∀ {l : List Rex}, (∀ x ∈ l, x.kind ≠ k) → l ≠ [] → lst k (chain k l) = l
  | [], _, h => absurd rfl h
  | [x], h, _ => by rw [chain]; exact lst_no (h x (by simp))
  | x :: y :: l, h, _ => by
    rw [chain, two, lst_two, lst_no (h x (by simp)), lst_chain (l := y :: l) (fun z hz => h z (by simp at hz ⊢; exact .inr hz)) (by simp)]
    rfl
theorem srt_kind {k : Int} (hk : k = 4 ∨ k = 6) {l : List Rex} (h : ∀ x ∈ l, wf x) (hkd : ∀ x ∈ l, x.kind ≠ k) : ∀ x ∈ srt k l, x.kind ≠ k := fun x hx => by
  rcases (srt_iff h).1 hx with ⟨h1, _⟩ | h1
  · exact hkd x h1
  · obtain ⟨s, _, rfl, _⟩ := last_set h1
    show (1 : Int) ≠ k
    omega
theorem lst_fin4 {l : List Rex} (h : ∀ x ∈ l, wf x) (hkd : ∀ x ∈ l, x.kind ≠ 4) (hne : l ≠ []) (ha : allT ∉ l) : lst 4 (fin4 l) = srt 4 l := by
  rw [fin4_no h ha, lst_chain (srt_kind (.inl rfl) h hkd) (srt_ne hne)]
theorem lst_fin4_all {l : List Rex} (h : ∀ x ∈ l, wf x) (ha : allT ∈ l) : lst 4 (fin4 l) = [allT] := by
  rw [fin4_all h ha]
  exact lst_no (by show (7 : Int) ≠ 4; decide)
theorem wf_app {l m : List Rex} (hl : ∀ x ∈ l, wf x) (hm : ∀ x ∈ m, wf x) : ∀ x ∈ l ++ m, wf x := fun x hx => by
  rcases List.mem_append.1 hx with h | h
  · exact hl x h
  · exact hm x h
theorem fin4_comm {l m : List Rex} (hl : ∀ x ∈ l, wf x) (hm : ∀ x ∈ m, wf x) (hne : l ≠ []) : fin4 (l ++ m) = fin4 (m ++ l) :=
  fin4_ext (srt4_ext (wf_app hl hm) (wf_app hm hl) (by simp [hne]) (by simp [hne]) (fun x _ => by rw [List.mem_append, List.mem_append, Or.comm]) fun b => by rw [uHas_app, uHas_app, Bool.or_comm])
theorem flat4 {l m : List Rex} (hl : ∀ x ∈ l, wf x) (hm : ∀ x ∈ m, wf x) (hkd : ∀ x ∈ l, x.kind ≠ 4) (hne : l ≠ []) : fin4 (lst 4 (fin4 l) ++ m) = fin4 (l ++ m) := by
  by_cases ha : allT ∈ l
  · rw [lst_fin4_all hl ha, fin4_all (wf_app (fun x hx => by rw [List.mem_singleton.1 hx]; exact wf_all) hm) (by simp), fin4_all (wf_app hl hm) (by simp [ha])]
  · rw [lst_fin4 hl hkd hne ha]
    refine fin4_ext (srt4_ext (wf_app (srt_wf hl) hm) (wf_app hl hm) (by simp [srt_ne hne]) (by simp [hne]) (fun x hx => ?_) fun b => ?_)
    · rw [List.mem_append, List.mem_append, srt_other hl hx]
    · rw [uHas_app, uHas_app, uHas_srt hl hne]
theorem fin4_wf {l : List Rex} (h : ∀ x ∈ l, wf x) : wf (fin4 l) := by
  by_cases ha : allT ∈ l
  · rw [fin4_all h ha]; exact wf_all
  · rw [fin4_no h ha]; exact chain_wf (.inr (.inl rfl)) _ (srt_wf h)
theorem lst_wf {k : Int} (hk : k = 4 ∨ k = 6) {r : Rex} (h : wf r) : lst k r ≠ [] ∧ (∀ x ∈ lst k r, wf x) ∧ ∀ x ∈ lst k r, x.kind ≠ k := by
  obtain ⟨h1, h2⟩ := lst_mem (k := k) r h (by omega)
  exact ⟨h1, fun x hx => (h2 x hx).1, fun x hx => (h2 x hx).2.1⟩
theorem kinds_app {k : Int} {l m : List Rex} (hl : ∀ x ∈ l, x.kind ≠ k) (hm : ∀ x ∈ m, x.kind ≠ k) : ∀ x ∈ l ++ m, x.kind ≠ k := fun x hx => by
  rcases List.mem_append.1 hx with h | h
  · exact hl x h
  · exact hm x h
theorem nOr_comm {a b : Rex} (ha : wf a) (hb : wf b) : nOr a b = nOr b a := by
  obtain ⟨a1, a2, _⟩ := lst_wf (.inl rfl) ha
  obtain ⟨_, b2, _⟩ := lst_wf (.inl rfl) hb
  exact fin4_comm a2 b2 a1
theorem nOr_assoc {a b c : Rex} (ha : wf a) (hb : wf b) (hc : wf c) : nOr (nOr a b) c = nOr a (nOr b c) := by
  obtain ⟨a1, a2, a3⟩ := lst_wf (.inl rfl) ha
  obtain ⟨b1, b2, b3⟩ := lst_wf (.inl rfl) hb
  obtain ⟨c1, c2, c3⟩ := lst_wf (.inl rfl) hc
  have hbc := wf_app b2 c2
  rw [nOr_fin (nOr a b) c, nOr_fin a b, flat4 (wf_app a2 b2) c2 (kinds_app a3 b3) (by simp [a1]), nOr_fin a (nOr b c), nOr_fin b c,
    fin4_comm a2 (lst_wf (.inl rfl) (fin4_wf hbc)).2.1 a1, flat4 hbc a2 (kinds_app b3 c3) (by simp [b1]), fin4_comm hbc a2 (by simp [b1]), List.append_assoc]

/-! ### all of them are asked for -/
def core6 (l : List Rex) : List Rex := (srt 6 l).filter fun r => !isAll r
def fin6 (l : List Rex) : Rex :=
  if (srt 6 l).any isNo then noT
  else if core6 l = [] then (srt 6 l).headD default
  else chain 6 (core6 l)
theorem nAnd_fin (a b : Rex) : nAnd a b = fin6 (lst 6 a ++ lst 6 b) := rfl
def z6 (l : List Rex) : Prop := hasS l = true ∧ ∀ b, iHas l b = false
theorem z6_iff {l : List Rex} (h : ∀ x ∈ l, wf x) : (srt 6 l).any isNo = true ↔ z6 l := by
  rw [List.any_eq_true]
  constructor
  · rintro ⟨x, h1, h2⟩
    have e := (isNo_wf (srt_wf h x h1)).1 h2
    subst e
    obtain ⟨hS, s, e, _, hb⟩ := (srt6_set h (x := noT) rfl).1 h1
    have es : [] = s := congrArg Rex.set e
    subst es
    exact ⟨hS, fun b => by rw [← hb]; rfl⟩
  · rintro ⟨hS, hb⟩
    exact ⟨noT, (srt6_set h (x := noT) rfl).2 ⟨hS, [], rfl, rfl, fun b => by rw [hb]; rfl⟩, rfl⟩
theorem fin6_zero {l : List Rex} (h : ∀ x ∈ l, wf x) (hz : z6 l) : fin6 l = noT := by
  unfold fin6
  rw [if_pos ((z6_iff h).2 hz)]
theorem core_iff {l : List Rex} (h : ∀ x ∈ l, wf x) {x : Rex} : x ∈ core6 l ↔ x ∈ srt 6 l ∧ x ≠ allT := by
  unfold core6
  rw [List.mem_filter]
  constructor
  · rintro ⟨h1, h2⟩
    exact ⟨h1, fun e => by rw [e] at h2; cases h2⟩
  · rintro ⟨h1, h2⟩
    refine ⟨h1, ?_⟩
    cases ha : isAll x
    · rfl
    · exact absurd ((isAll_wf (srt_wf h x h1)).1 ha) h2
theorem core_asc (l : List Rex) : Asc (core6 l) := List.Pairwise.filter _ (srt_asc 6 l)
theorem core_wf {l : List Rex} (h : ∀ x ∈ l, wf x) : ∀ x ∈ core6 l, wf x := fun x hx => srt_wf h x ((core_iff h).1 hx).1
theorem fin6_core {l : List Rex} (h : ∀ x ∈ l, wf x) (hz : ¬ z6 l) (hc : core6 l ≠ []) : fin6 l = chain 6 (core6 l) := by
  unfold fin6
  rw [if_neg (fun e => hz ((z6_iff h).1 e)), if_neg hc]
theorem fin6_none {l : List Rex} (h : ∀ x ∈ l, wf x) (hz : ¬ z6 l) (hc : core6 l = []) (hne : l ≠ []) : fin6 l = allT := by
  unfold fin6
  rw [if_neg (fun e => hz ((z6_iff h).1 e)), if_pos hc]
  cases hs : srt 6 l with
  | nil => exact absurd hs (srt_ne hne)
  | cons x m =>
    show x = allT
    by_cases e : x = allT
    · exact e
    · have : x ∈ core6 l := (core_iff h).2 ⟨by rw [hs]; simp, e⟩
      rw [hc] at this
      cases this
theorem fin6_ext {l m : List Rex} (hl : ∀ x ∈ l, wf x) (hm : ∀ x ∈ m, wf x) (hne : l ≠ []) (hne' : m ≠ []) (h0 : hasS l = hasS m) (h1 : ∀ b, iHas l b = iHas m b) (h2 : ∀ x, isSet x = false → x ≠ allT → (x ∈ l ↔ x ∈ m)) : fin6 l = fin6 m := by
  have hzz : z6 l ↔ z6 m := by unfold z6; simp only [h0, h1]
  have hcc : core6 l = core6 m := asc_ext (core_asc _) (core_asc _) fun x => by
    rw [core_iff hl, core_iff hm]
    refine and_congr_left fun hx => ?_
    cases hs : isSet x
    · rw [srt_other hl hs, srt_other hm hs, h2 x hs hx]
    · rw [srt6_set hl hs, srt6_set hm hs]; simp only [h0, h1]
  by_cases hz : z6 l
  · rw [fin6_zero hl hz, fin6_zero hm (hzz.1 hz)]
  · have hz' : ¬ z6 m := fun e => hz (hzz.2 e)
    by_cases hc : core6 l = []
    · rw [fin6_none hl hz hc hne, fin6_none hm hz' (by rw [← hcc]; exact hc) hne']
    · rw [fin6_core hl hz hc, fin6_core hm hz' (by rw [← hcc]; exact hc), hcc]
theorem fin6_comm {l m : List Rex} (hl : ∀ x ∈ l, wf x) (hm : ∀ x ∈ m, wf x) (hne : l ≠ []) : fin6 (l ++ m) = fin6 (m ++ l) :=
  fin6_ext (wf_app hl hm) (wf_app hm hl) (by simp [hne]) (by simp [hne]) (by rw [hasS_app, hasS_app, Bool.or_comm]) (fun b => by rw [iHas_app, iHas_app, Bool.and_comm]) fun x _ _ => by rw [List.mem_append, List.mem_append, Or.comm]
theorem hasS_core {l : List Rex} (h : ∀ x ∈ l, wf x) : hasS (core6 l) = hasS l := by
  rw [← hasS_srt h, Bool.eq_iff_iff, hasS_iff, hasS_iff]
  constructor
  · rintro ⟨x, h1, h2⟩
    exact ⟨x, ((core_iff h).1 h1).1, h2⟩
  · rintro ⟨x, h1, h2⟩
    exact ⟨x, (core_iff h).2 ⟨h1, fun e => by rw [e] at h2; cases h2⟩, h2⟩
theorem iHas_core {l : List Rex} (h : ∀ x ∈ l, wf x) (b : Int) : iHas (core6 l) b = iHas l b := by
  rw [← iHas_srt h, Bool.eq_iff_iff, iHas_iff, iHas_iff]
  constructor
  · exact fun h1 x hx hs => h1 x ((core_iff h).2 ⟨hx, fun e => by rw [e] at hs; cases hs⟩) hs
  · exact fun h1 x hx hs => h1 x ((core_iff h).1 hx).1 hs
theorem flat6 {l m : List Rex} (hl : ∀ x ∈ l, wf x) (hm : ∀ x ∈ m, wf x) (hkd : ∀ x ∈ l, x.kind ≠ 6) (hne : l ≠ []) : fin6 (lst 6 (fin6 l) ++ m) = fin6 (l ++ m) := by
  have one : ∀ z : Rex, wf z → ∀ x ∈ [z], wf x := fun z hz x hx => by rw [List.mem_singleton.1 hx]; exact hz
  by_cases hz : z6 l
  · rw [fin6_zero hl hz, lst_no (show noT.kind ≠ 6 by show (1 : Int) ≠ 6; decide)]
    rw [fin6_zero (wf_app (one _ wf_no) hm) ⟨by rw [hasS_app]; rfl, fun b => by rw [iHas_app]; rfl⟩, fin6_zero (wf_app hl hm) ⟨by rw [hasS_app, hz.1]; rfl, fun b => by rw [iHas_app, hz.2]; rfl⟩]
  · by_cases hc : core6 l = []
    · rw [fin6_none hl hz hc hne, lst_no (show allT.kind ≠ 6 by show (7 : Int) ≠ 6; decide)]
      have hS : hasS l = false := by rw [← hasS_core hl, hc]; rfl
      refine fin6_ext (wf_app (one _ wf_all) hm) (wf_app hl hm) (by simp) (by simp [hne]) ?_ (fun b => ?_) fun x hs hx => ?_
      · rw [hasS_app, hasS_app, hS]; rfl
      · rw [iHas_app, iHas_app, ← iHas_core hl, hc]; rfl
      · rw [List.mem_append, List.mem_append, ← srt_other (k := 6) hl hs]
        have hn : x ∉ srt 6 l := fun e => by
          have := (core_iff hl).2 ⟨e, hx⟩
          rw [hc] at this
          cases this
        simp [hx, hn]
    · rw [fin6_core hl hz hc, lst_chain (fun x hx => srt_kind (.inr rfl) hl hkd x ((core_iff hl).1 hx).1) hc]
      refine fin6_ext (wf_app (core_wf hl) hm) (wf_app hl hm) (by simp [hc]) (by simp [hne]) ?_ (fun b => ?_) fun x hs hx => ?_
      · rw [hasS_app, hasS_app, hasS_core hl]
      · rw [iHas_app, iHas_app, iHas_core hl]
      · rw [List.mem_append, List.mem_append, core_iff hl, srt_other hl hs]
        simp [hx]
theorem fin6_wf {l : List Rex} (h : ∀ x ∈ l, wf x) (hne : l ≠ []) : wf (fin6 l) := by
  by_cases hz : z6 l
  · rw [fin6_zero h hz]; exact wf_no
  · by_cases hc : core6 l = []
    · rw [fin6_none h hz hc hne]; exact wf_all
    · rw [fin6_core h hz hc]; exact chain_wf (.inr (.inr rfl)) _ (core_wf h)
theorem nAnd_comm {a b : Rex} (ha : wf a) (hb : wf b) : nAnd a b = nAnd b a := by
  obtain ⟨a1, a2, _⟩ := lst_wf (.inr rfl) ha
  obtain ⟨_, b2, _⟩ := lst_wf (.inr rfl) hb
  exact fin6_comm a2 b2 a1
theorem nAnd_assoc {a b c : Rex} (ha : wf a) (hb : wf b) (hc : wf c) : nAnd (nAnd a b) c = nAnd a (nAnd b c) := by
  obtain ⟨a1, a2, a3⟩ := lst_wf (.inr rfl) ha
  obtain ⟨b1, b2, b3⟩ := lst_wf (.inr rfl) hb
  obtain ⟨c1, c2, c3⟩ := lst_wf (.inr rfl) hc
  have hbc := wf_app b2 c2
  rw [nAnd_fin (nAnd a b) c, nAnd_fin a b, flat6 (wf_app a2 b2) c2 (kinds_app a3 b3) (by simp [a1]), nAnd_fin a (nAnd b c), nAnd_fin b c,
    fin6_comm a2 (lst_wf (.inr rfl) (fin6_wf hbc (by simp [b1]))).2.1 a1, flat6 hbc a2 (kinds_app b3 c3) (by simp [b1]), fin6_comm hbc a2 (by simp [b1]), List.append_assoc]

end Go.Proofs.YtfeidjjabjejiaaGreatDoor
