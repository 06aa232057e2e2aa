/- What the laws on texts say of plain trees: one behind the other, any number. -/
import Derived.Test.YtplhbjpkkhhilaaMl2
namespace Go.Proofs.Ytplhbjpkkhhilaa
set_option linter.unusedSimpArgs false
set_option linter.unusedVariables false
open Go.RowKit

theorem matchIs_true {r : Rex} {T : Txt} (h : matchIs r T = true) : rexOk r = true ∧ T.length ≤ 12 ∧ lang r T = true := by
  rw [matchIs, Bool.and_eq_true, Bool.and_eq_true, decide_eq_true_eq] at h
  exact ⟨h.1, h.2.1, h.2.2⟩
theorem matchIs_cat {a b : Rex} {S T : Txt} (h : rexOk (.mk 3 [] [a, b]) = true) (ha : matchIs a S = true) (hb : matchIs b T = true) (hl : (S ++ T).length ≤ 12) : matchIs (.mk 3 [] [a, b]) (S ++ T) = true := by
  rw [matchIs_of h hl, lang3, catB, catGo_any, List.any_eq_true]
  refine ⟨S.length, List.mem_range.2 (by rw [List.length_append]; omega), ?_⟩
  rw [Nat.zero_add, List.take_left, List.drop_left, (matchIs_true ha).2.2, (matchIs_true hb).2.2]
  rfl
theorem star_one {f : Txt → Bool} {S T : Txt} (h : f S = true) (hT : Star f T) : Star f (S ++ T) := by
  by_cases hs : S = []
  · subst hs; exact hT
  · exact .cons S T hs h hT
theorem matchIs_star {a : Rex} {T : Txt} (h : rexOk (.mk 5 [] [a]) = true) (hl : T.length ≤ 12) (hs : Star (lang a) T) : matchIs (.mk 5 [] [a]) T = true := by
  rw [matchIs_of h hl, lang5]
  exact (starB_iff _ _).2 hs
theorem star3 {a : Rex} {S : Txt} (h : rexOk (.mk 5 [] [a]) = true) (hl : S.length ≤ 4) (ha : matchIs a S = true) :
    matchIs (.mk 5 [] [a]) [] = true ∧ matchIs (.mk 5 [] [a]) S = true ∧ matchIs (.mk 5 [] [a]) ((S ++ S) ++ S) = true := by
  have hs := (matchIs_true ha).2.2
  have h1 : Star (lang a) S := by have := star_one hs .nil; simpa using this
  refine ⟨matchIs_star h (by simp) .nil, matchIs_star h (by omega) h1, matchIs_star h (by simp; omega) ?_⟩
  rw [List.append_assoc]
  exact star_one hs (star_one hs h1)
theorem data_app (s t : ByteArray) : (s ++ t).data.toList = s.data.toList ++ t.data.toList := by
  rw [ByteArray.data_append, Array.toList_append]

end Go.Proofs.Ytplhbjpkkhhilaa
