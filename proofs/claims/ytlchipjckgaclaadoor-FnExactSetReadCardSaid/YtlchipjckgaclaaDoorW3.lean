/- toSpanS, markSpanS, heldSpanS. -/
import Derived.Test.YtlchipjckgaclaaDoorW2
import Derived.Test.YtlchipjckgaclaaDoorOwn
namespace Go.Proofs.YtlchipjckgaclaaDoor
set_option linter.unusedSimpArgs false
set_option linter.unusedVariables false
set_option maxRecDepth 100000
open Go.RowKit

set_option maxHeartbeats 1000000 in
theorem toSpanS_c (A : Option Addr) (c : Nat) (xs : List Sp) (w : World) {lo : Nat} (h : Sps w lo A c xs) (hx : xs.length ≤ 1048576) :
    Calls Tryd.prog 11 #[.slice A xs.length c] w fun e w' => ∃ v, e = .returned v ∧ OwnSp w' w.heap.size v xs ∧ Below w.heap.size w w' := by
  obtain ⟨i0, hi, hz0, hz1, hz2⟩ := info_parts infoSp
  go_enter Tryd.func11, Tryd.ntmps11
  go_wp2_with (at_make; refine wpList_make_full _ rfl (.tmp 6) (.tmp 6) 25 rfl w.heap.size TSp i0 (.agg #[.int .i64 0, .int .i64 0]) 2 Tryd.underlying25 hi hz0 hz1 .i64 .i64 _ _ xs.length rfl rfl rfl rfl (by rw [hz2]; omega) (by unfold maxLen; omega) (Nat.le_refl _) ?_; intro w1 hown hgrow)
  have HO : Hid (OwnSp w1 w.heap.size (.slice (some ⟨w.heap.size, 0, none⟩) xs.length xs.length) (xs.take 0 ++ List.replicate (xs.length - 0) ⟨0, 0⟩)) := by
    refine ⟨?_, by rw [take_rep_length _ _ _ (Nat.zero_le _)]; unfold maxN; omega⟩
    rw [take_rep_length _ _ _ (Nat.zero_le _), List.take_zero, List.nil_append, Nat.sub_zero, ← spcs_zeros]
    exact hown
  have HB : Hid (Below w.heap.size w w1) := (Below.refl _ w).grown hgrow (Nat.le_refl _) (fun k hk => by cases hk)
  clear hown hgrow hi hz0 hz1 hz2
  go_loopg [4] (xs.length) (fun n i wr => ∃ k : Nat, k + n = xs.length ∧ i = .int .i64 k ∧ Hid (OwnSp wr w.heap.size (.slice (some ⟨w.heap.size, 0, none⟩) xs.length xs.length) (xs.take k ++ List.replicate (xs.length - k) ⟨0, 0⟩)) ∧ Hid (Below w.heap.size w wr))
  case atStart => exact ⟨0, by omega, rfl, HO, HB⟩
  case round =>
    clear HO HB
    obtain ⟨k, hk, rfl, HO, HB⟩ := hrel
    by_cases hlt : k < xs.length
    · obtain ⟨a, x, rfl, HX, HD, h0, h1⟩ := (h.below HB.out).at_ k hlt
      go_wp2_with (go_at_call 42; refine (toSpan_c x _).mono ?_; rintro e w2 ⟨rfl, hb⟩; have HO2 : Hid _ := HO.out.below hb; have HB2 : Hid _ := below_then HB.out hb; obtain ⟨y, _, c0, c1, f0, f1⟩ := HO2.out.cells k (by rw [take_rep_length _ _ _ (by omega)]; exact hlt); clear HO HB hb)
      go_roundg (gk - 1)
      case rel =>
        refine ⟨k + 1, by omega, by go_num, ?_, below_set (below_set HB2.out (Nat.le_refl _) _) (Nat.le_refl _) _⟩
        have hs := HO2.out.set2 k x.lo x.hi
        rw [take_rep_set xs _ _ k hlt HX.out] at hs
        exact hs
      case measure => omega
    · go_wp2
      go_ret
      refine ⟨_, rfl, ?_, HB.out⟩
      have := HO.out
      rw [show k = xs.length by omega, List.take_length, Nat.sub_self, List.replicate_zero, List.append_nil] at this
      exact this

theorem OwnSp.slice {w : World} {base : Nat} {v : Value} {xs : List Sp} (h : OwnSp w base v xs) : ∃ A c, v = .slice A xs.length c := by
  obtain ⟨A, c, e, _⟩ := h.sps
  exact ⟨A, c, e⟩
theorem OwnSp.head {w : World} {base c : Nat} {A : Option Addr} {xs : List Sp} (h : OwnSp w base (.slice A xs.length c) xs) (hn : 0 < xs.length) : ∃ g, A = some ⟨g, 0, none⟩ ∧ base ≤ g := by
  obtain ⟨g, cap, e, hg, _⟩ := own_form h.own hn
  injection e with e1 e2 e3
  exact ⟨g, e1, hg⟩

/-- what is written: the row's own block alone -/
theorem grown_refl (w : World) (row : Option Nat) : w.grownBy w row := ⟨rfl, rfl, rfl, Nat.le_refl _, fun _ _ _ => rfl⟩
theorem grown_set {w w1 : World} {g : Nat} (h : w.grownBy w1 (some g)) (o : Nat) (u : Value) : w.grownBy (w1.setCell ⟨g, o, none⟩ u) (some g) :=
  ⟨h.os, h.tape, h.output, by rw [World.size_setCell]; exact h.size, fun k hk hne => (Below.heap_setCell w1 ⟨g, o, none⟩ u k (fun e => hne (by rw [e]))).trans (h.block k hk hne)⟩

set_option maxHeartbeats 1000000 in
theorem markSpanS_c (A : Option Addr) (c : Nat) (xs : List Sp) (q : Int) (w : World) {base : Nat} (h : OwnSp w base (.slice A xs.length c) xs) (h0 : 0 ≤ q) (h1 : q ≤ 1073741824) (hx : xs.length ≤ 1073741824) :
    Calls Tryd.prog 28 #[.slice A xs.length c, .int .i64 q] w fun e w' => e = .returned (.int .i64 (q + 2 * (xs.length : Int))) ∧ OwnSp w' base (.slice A xs.length c) (markSps q xs) ∧ w.grownBy w' (Value.slice A xs.length c).ownBlock := by
  go_enter Tryd.func28, Tryd.ntmps28
  go_wp2
  go_loopg [1, 5] (xs.length) (fun n q' i wr => ∃ k : Nat, k + n = xs.length ∧ i = .int .i64 k ∧ q' = .int .i64 (q + 2 * (k : Int)) ∧ Hid (OwnSp wr base (.slice A xs.length c) ((markSps q xs).take k ++ xs.drop k)) ∧ Hid (w.grownBy wr (Value.slice A xs.length c).ownBlock))
  case atStart => exact ⟨0, by omega, rfl, by simp, by simpa [Hid] using h, grown_refl _ _⟩
  case round =>
    obtain ⟨k, hk, rfl, rfl, HO, HG⟩ := hrel
    by_cases hlt : k < xs.length
    · obtain ⟨g, rfl, hg⟩ := h.head (by omega)
      have hl : ((markSps q xs).take k ++ xs.drop k).length = xs.length := by rw [List.length_append, List.length_take, List.length_drop, markSps_length]; omega
      obtain ⟨y, _, c0, c1, f0, f1⟩ := HO.out.cells k (by omega)
      have HL : Hid (_ = _) := hl
      have HH := Lib.hid h
      clear hl h
      go_wp2
      go_roundg (gk - 1)
      case rel =>
        refine ⟨k + 1, by omega, by go_num, by go_num, ?_, grown_set (grown_set HG.out _ _) _ _⟩
        have hs := HO.out.set2 k (q + 2 * (k : Int)) (q + 2 * (k : Int) + 1)
        rw [markSps_set xs q k hlt] at hs
        exact hs
      case measure => omega
    · go_wp2
      go_ret
      have hk' : k = xs.length := by omega
      refine ⟨ret_int (by omega), ?_, HG.out⟩
      have := HO.out
      rw [hk', List.drop_length, List.append_nil, List.take_of_length_le (by rw [markSps_length]; exact Nat.le_refl _)] at this
      exact this

set_option maxHeartbeats 1000000 in
theorem heldSpanS_c (A : Option Addr) (c : Nat) (xs ys : List Sp) (q : Int) (w : World) {lo : Nat} (hm : xs = markSps q ys) (h : Sps w lo A c xs) (h0 : 0 ≤ q) (h1 : q ≤ 1073741824) (hx : xs.length ≤ 1073741824) :
    Calls Tryd.prog 29 #[.slice A xs.length c, .int .i64 q] w fun e w' => e = .returned (.int .i64 (q + 2 * (xs.length : Int))) ∧ Drawn w w' := by
  have HM : Hid (xs = markSps q ys) := hm
  clear hm
  go_enter Tryd.func29, Tryd.ntmps29
  go_wp2
  go_loopg [1, 5] (xs.length) (fun n q' i wr => ∃ k : Nat, k + n = xs.length ∧ i = .int .i64 k ∧ q' = .int .i64 (q + 2 * (k : Int)) ∧ Drawn w wr)
  case atStart => exact ⟨0, by omega, rfl, by simp, Drawn.refl _⟩
  case round =>
    obtain ⟨k, hk, rfl, rfl, m, rfl⟩ := hrel
    by_cases hlt : k < xs.length
    · obtain ⟨a, x, rfl, HX, HD, c0, c1⟩ := h.at_ k hlt
      obtain rfl : x = ⟨q + 2 * (k : Int), q + 2 * (k : Int) + 1⟩ := by
        have e1 := HX.out
        have e2 := HM.out
        have e3 : k < ys.length := by rw [e2, markSps_length] at hlt; exact hlt
        rw [e2, markSps_get _ _ _ e3] at e1
        exact (Option.some.inj e1).symm
      go_wp2
      go_roundg (gk - 1)
      case rel => exact ⟨k + 1, by omega, by go_num, by go_num, _, rfl⟩
      case measure => omega
    · go_wp2
      go_ret
      exact ⟨ret_int (by omega), _, rfl⟩

end Go.Proofs.YtlchipjckgaclaaDoor
