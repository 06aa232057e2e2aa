/- The law FnExactSetParts: the program's SetParts tells what the reference's tells. -/
import Derived.Test.YtiaccimbkghofaaG10
import Derived.Test.YtiaccimbkghofaaG7
import Derived.Test.YtiaccimbkghofaaG3
namespace Go.Proofs.Ytiaccimbkghofaa
set_option linter.unusedSimpArgs false
set_option linter.unusedVariables false
open Go.RowKit

theorem cntSS_sum : ∀ xss : List (List Sp), cntSS xss = 2 * sumL xss
  | [] => rfl
  | xs :: xss => by rw [cntSS, sumL, cntSS_sum xss]; omega
theorem cntSS_each {m : Nat} : ∀ xss : List (List Sp), (∀ xs ∈ xss, xs.length ≤ m) → cntSS xss ≤ 2 * m * xss.length
  | [], _ => by simp [cntSS]
  | xs :: xss, h => by
    have h1 := cntSS_each xss fun ys hy => h ys (by simp [hy])
    have h2 := h xs (by simp)
    rw [cntSS, List.length_cons, Nat.mul_add]
    omega
theorem cntSS_parts (xss : List (List Sp)) : cntSS (setParts xss) ≤ 131072 := by
  unfold setParts
  split
  · have h1 : (partsOf xss).length ≤ 256 := by
      unfold partsOf
      rw [List.length_map]
      exact reps_len xss 256
    have h2 := cntSS_each (m := 256) (partsOf xss) fun xs hx => by
      obtain ⟨x, _, rfl⟩ := List.mem_map.1 hx
      exact spansOf_len _
    omega
  · simp [cntSS]

set_option maxRecDepth 100000 in
set_option maxHeartbeats 8000000 in
theorem exSetParts_c (K0 : Option Addr) (k0 : Nat) (xss : List (List Sp)) (w : World) (h0 : SSV w 0 K0 k0 xss) :
    Calls Try.prog 12 #[.slice K0 xss.length k0] w fun e w' => e = .returned (.bool true) ∧ Below w.heap.size w w' := by
  have H0 := Lib.hid h0
  obtain ⟨N, hN⟩ : ∃ N, N = xss.length + sumL xss := ⟨_, rfl⟩
  have HN := Lib.hid hN
  go_enter Try.func12, Try.ntmps12
  go_wp2_with fail
  refine (szSpanSS_c K0 k0 xss 1048576 w h0 (by omega) (by omega)).mono ?_
  rintro e w' ⟨rfl, rfl⟩
  rw [← hN]
  clear h0 hN
  by_cases hb : (1048576 : Int) < N
  · have hs := szLeft_neg hb
    clear hb
    go_wp2
    go_ret
    exact ⟨rfl, Below.refl _ _⟩
  rw [szLeft_pos hb]
  have hx0 : xss.length + sumL xss ≤ 1048576 := by have := HN.out; omega
  have hs : ¬ ((1048576 : Int) - N < 0) := by omega
  clear hb
  have hn0 : xss.length ≤ 1048576 := by omega
  have hcx : cntSS xss ≤ 2097152 := by rw [cntSS_sum]; omega
  obtain ⟨T, hT⟩ : ∃ T, T = setParts xss := ⟨_, rfl⟩
  have hcT : cntSS T ≤ 131072 := by rw [hT]; exact cntSS_parts xss
  have HTT := Lib.hid hT
  clear hT
  go_wp2_with fail
  clear hs
  refine (toSpanSS_c K0 k0 xss w H0.out hx0).mono ?_
  rintro e w1 ⟨K1, c1, fp1, L1, rfl, ho, hf, b1⟩
  have O1 := Lib.hid ho.read
  have BB := Lib.hid b1
  clear ho hf b1
  go_wp2_with fail
  refine (sSetParts_c xss _ _ w1 O1.out).mono ?_
  rintro e w2 ⟨KW, kW, he, hs, b2⟩
  rw [← HTT.out] at he hs
  subst he
  have OW := Lib.hid hs
  replace BB := Lib.hid (below_then BB.out b2)
  clear hs b2 O1
  have ZW := Lib.hid BB.out.size
  go_wp2_with fail
  refine (toSpanSS_c K0 k0 xss w2 (H0.out.below BB.out) hx0).mono ?_
  rintro e w3 ⟨KX, kX, fpX, LX, rfl, ho, hf, b3⟩
  have OX := Lib.hid ho
  have FX : Hid (∀ b, b ∈ fpX → w2.heap.size ≤ b ∧ b < w3.heap.size) := fun b hb => ⟨hf b hb, ho.lt b hb⟩
  have Z3 := Lib.hid b3.size
  have BA := Lib.hid b3
  replace BB := Lib.hid (below_then BB.out b3)
  clear ho hf b3
  go_wp2_with fail
  refine (iSetParts_c xss _ _ w3 OX.out.read hn0).mono ?_
  rintro e w4 ⟨vG, fpG, LG, rfl, ho, hf, b4⟩
  rw [← HTT.out] at ho
  obtain ⟨KG, kG, rfl, _⟩ := ho.ssv
  have OG := Lib.hid ho
  have FG : Hid (∀ b, b ∈ fpG → w3.heap.size ≤ b ∧ b < w4.heap.size) := fun b hb => ⟨hf b hb, ho.lt b hb⟩
  replace OX := Lib.hid (OX.out.under b4)
  replace BA := Lib.hid (below_then BA.out b4)
  replace BB := Lib.hid (below_then BB.out b4)
  clear ho hf b4
  go_wp2_with fail
  refine (eqSpanSS_c _ _ _ _ T T w4 OG.out.read (OW.out.below BA.out)).mono ?_
  rintro e w5 ⟨rfl, b5⟩
  rw [decide_eq_true rfl]
  replace OX := Lib.hid (OX.out.under b5)
  replace OG := Lib.hid (OG.out.under b5)
  replace BA := Lib.hid (below_then BA.out b5)
  replace BB := Lib.hid (below_then BB.out b5)
  clear b5
  go_wp2_with fail
  refine (toSpanSS_c K0 k0 xss w5 (H0.out.below BB.out) hx0).mono ?_
  rintro e w6 ⟨K6, c6, fp6, L6, rfl, ho, hf, b6⟩
  have O6 := Lib.hid ho.read
  clear ho hf
  replace OX := Lib.hid (OX.out.under b6)
  replace OG := Lib.hid (OG.out.under b6)
  replace BA := Lib.hid (below_then BA.out b6)
  replace BB := Lib.hid (below_then BB.out b6)
  clear b6
  go_wp2_with fail
  refine (eqSpanSS_c _ _ _ _ xss xss w6 OX.out.read O6.out).mono ?_
  rintro e w7 ⟨rfl, b7⟩
  rw [decide_eq_true rfl]
  clear O6
  replace OX := Lib.hid (OX.out.under b7)
  replace OG := Lib.hid (OG.out.under b7)
  replace BA := Lib.hid (below_then BA.out b7)
  replace BB := Lib.hid (below_then BB.out b7)
  clear b7
  go_wp2_with fail
  refine (markSpanSS_c xss _ _ LX fpX 1 w7 OX.out (by omega) (by omega)).mono ?_
  rintro e w8 ⟨rfl, _, t8⟩
  have hq8 : ¬ (1 + (cntSS xss : Int) < 0) := by omega
  replace OG := Lib.hid (OG.out.stay fun b hb => t8.block b (OG.out.lt b hb) fun h => by have h1 := FX.out _ h; have h2 := FG.out _ hb; omega)
  replace BA := Lib.hid (below_touch BA.out t8 fun b hb => (FX.out b hb).1)
  replace BB := Lib.hid (below_touch BB.out t8 fun b hb => Nat.le_trans ZW.out (FX.out b hb).1)
  clear t8 OX
  go_wp2_with fail
  refine (eqSpanSS_c _ _ _ _ T T w8 OG.out.read (OW.out.below BA.out)).mono ?_
  rintro e w9 ⟨rfl, b9⟩
  rw [decide_eq_true rfl]
  clear hq8
  replace OG := Lib.hid (OG.out.under b9)
  replace BA := Lib.hid (below_then BA.out b9)
  replace BB := Lib.hid (below_then BB.out b9)
  clear b9
  go_wp2_with fail
  refine (markSpanSS_c T _ _ LG fpG 1 w9 OG.out (by omega) (by omega)).mono ?_
  rintro e w10 ⟨rfl, og, t10⟩
  replace BA := Lib.hid (below_touch BA.out t10 fun b hb => Nat.le_trans Z3.out (FG.out b hb).1)
  replace BB := Lib.hid (below_touch BB.out t10 fun b hb => Nat.le_trans ZW.out (Nat.le_trans Z3.out (FG.out b hb).1))
  have hml := markSS_length T 1
  rw [← hml] at og
  replace OG := Lib.hid og
  have HH : ∀ wx : World, OwnSS wx fpG (.slice KG (markSS 1 T).length kG) (markSS 1 T) LG → Calls Try.prog 30 #[.slice KG T.length kG, .int .i64 1] wx fun e w' => e = .returned (.int .i64 (1 + cntSS T)) ∧ Below wx.heap.size wx w' := fun wx ho => by
    have := heldSpanSS_c T (markSS 1 T) KG kG 1 wx rfl ho.read (by omega) (by omega)
    rw [hml] at this
    exact this.mono fun e w' ⟨h1, h2⟩ => ⟨h1, h2.below⟩
  have HHH := Lib.hid HH
  clear t10 og HH hml
  go_wp2_with fail
  refine (HHH.out w10 OG.out).mono ?_
  rintro e w11 ⟨rfl, b11⟩
  have hq8 : ¬ (1 + (cntSS T : Int) < 0) := by omega
  replace OG := Lib.hid (OG.out.under b11)
  replace BA := Lib.hid (below_then BA.out b11)
  replace BB := Lib.hid (below_then BB.out b11)
  clear b11
  go_wp2_with fail
  refine (toSpanSS_c K0 k0 xss w11 (H0.out.below BB.out) hx0).mono ?_
  rintro e w12 ⟨K12, c12, fp12, L12, rfl, ho, hf, b12⟩
  have O12 := Lib.hid ho.read
  clear ho hf
  replace OG := Lib.hid (OG.out.under b12)
  replace BA := Lib.hid (below_then BA.out b12)
  replace BB := Lib.hid (below_then BB.out b12)
  clear b12
  go_wp2_with fail
  refine (iSetParts_c xss _ _ w12 O12.out hn0).mono ?_
  rintro e w13 ⟨vH, fpH, LH, rfl, ho, hf, b13⟩
  rw [← HTT.out] at ho
  obtain ⟨KH, kH, rfl, _⟩ := ho.ssv
  have OH := Lib.hid ho.read
  clear ho hf O12
  replace OG := Lib.hid (OG.out.under b13)
  replace BA := Lib.hid (below_then BA.out b13)
  replace BB := Lib.hid (below_then BB.out b13)
  clear b13
  go_wp2_with fail
  refine (eqSpanSS_c _ _ _ _ T T w13 OH.out (OW.out.below BA.out)).mono ?_
  rintro e w14 ⟨rfl, b14⟩
  rw [decide_eq_true rfl]
  clear OH
  replace OG := Lib.hid (OG.out.under b14)
  replace BA := Lib.hid (below_then BA.out b14)
  replace BB := Lib.hid (below_then BB.out b14)
  clear b14
  go_wp2_with fail
  refine (HHH.out w14 OG.out).mono ?_
  rintro e w15 ⟨rfl, b15⟩
  replace BB := Lib.hid (below_then BB.out b15)
  clear b15
  go_wp2
  go_ret
  exact ⟨rfl, BB.out⟩

end Go.Proofs.Ytiaccimbkghofaa
