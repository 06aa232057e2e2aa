/- What the laws on texts say of plain trees: the longest piece, the empty text. -/
import Derived.Test.YtplhbjpkkhhilaaG10
import Derived.Test.YtplhbjpkkhhilaaG11
import Derived.Test.YtplhbjpkkhhilaaG4
namespace Go.Proofs.Ytplhbjpkkhhilaa
set_option linter.unusedSimpArgs false
set_option linter.unusedVariables false
open Go.RowKit

theorem null_eq (k : Int) (s : List Sp) (ks : List Rex) : null (.mk k s ks) = if k = 2 ∨ k = 5 then true else if k = 3 ∨ k = 6 then nullAt ks 0 && nullAt ks 1 else if k = 4 then nullAt ks 0 || nullAt ks 1 else if k = 7 then !nullAt ks 0 else false := by rw [null]
theorem lang_nil (r : Rex) : ∀ d, formed d r = true → lang r [] = null r := by
  refine Rex.ind (p := fun r => ∀ d, formed d r = true → lang r [] = null r) (fun k s ks ih => ?_) r
  intro d hf
  have hn := null_eq k s ks
  rcases formed_shape hf with ⟨e, rfl⟩ | ⟨e, a, rfl, ha⟩ | ⟨e, a, b, rfl, ha, hb⟩
  · rcases e with rfl | rfl
    · rw [hn, lang1]; rfl
    · rw [hn, lang2]; rfl
  · have h1 := ih a (by simp) _ ha
    rcases e with rfl | rfl
    · rw [hn, lang5]; rfl
    · rw [hn, lang7, h1]; simp [nullAt]
  · have h1 := ih a (by simp) _ ha
    have h2 := ih b (by simp) _ hb
    rcases e with rfl | rfl | rfl
    · rw [hn, lang3, catB]; simp [catGo, nullAt, h1, h2]
    · rw [hn, lang4, h1, h2]; simp [nullAt]
    · rw [hn, lang6, h1, h2]; simp [nullAt]
theorem longGo_spec (p : Nat → Bool) : ∀ n : Nat, (longGo p n = -1 ∧ ∀ k, k ≤ n → p k = false) ∨ ∃ m : Nat, longGo p n = m ∧ m ≤ n ∧ p m = true ∧ ∀ k, m < k → k ≤ n → p k = false
  | 0 => by
    by_cases h : p 0 = true
    · exact .inr ⟨0, longGo_yes h, Nat.le_refl _, h, fun k h1 h2 => by omega⟩
    · have h' : p 0 = false := by simpa using h
      exact .inl ⟨by rw [longGo_no h']; rfl, fun k hk => by rw [show k = 0 by omega]; exact h'⟩
  | n + 1 => by
    by_cases h : p (n + 1) = true
    · exact .inr ⟨n + 1, longGo_yes h, Nat.le_refl _, h, fun k h1 h2 => by omega⟩
    · have h' : p (n + 1) = false := by simpa using h
      have e : longGo p (n + 1) = longGo p n := by rw [longGo_no h']; simp
      rcases longGo_spec p n with ⟨h1, h2⟩ | ⟨m, h1, h2, h3, h4⟩
      · exact .inl ⟨by rw [e, h1], fun k hk => by
          by_cases hk' : k = n + 1
          · rw [hk']; exact h'
          · exact h2 k (by omega)⟩
      · exact .inr ⟨m, by rw [e, h1], by omega, h3, fun k hk1 hk2 => by
          by_cases hk' : k = n + 1
          · rw [hk']; exact h'
          · exact h4 k hk1 (by omega)⟩
theorem matchLong_of {r : Rex} {T : Txt} {q : Nat} (h : rexOk r = true) (ht : T.length ≤ 12) (hq : q ≤ T.length) : matchLong r T (q : Int) = longGo (fun m => lang r ((T.drop q).take m)) (T.length - q) := by
  rw [matchLong, if_pos ⟨h, ht, by omega, by omega⟩]
  rfl
theorem ends_end {r : Rex} {T : Txt} (h : rexOk r = true) (ht : T.length ≤ 12) : matchLong r T (T.length : Int) = if null r = true then 0 else -1 := by
  rw [matchLong_of h ht (Nat.le_refl _), Nat.sub_self, longGo]
  rw [show ((T.drop T.length).take 0) = [] by simp, lang_nil r 8 (rexOk_formed h)]
theorem ends_all {r : Rex} {T : Txt} (h : rexOk r = true) (ht : T.length ≤ 12) : matchLong r T 0 = (T.length : Int) ↔ matchIs r T = true := by
  have e := matchLong_of (q := 0) h ht (Nat.zero_le _)
  rw [Nat.sub_zero] at e
  rw [show (0 : Int) = ((0 : Nat) : Int) by rfl, e, matchIs_of h ht]
  have e2 : (fun m => lang r ((T.drop 0).take m)) T.length = lang r T := by simp
  rw [← e2]
  constructor
  · intro h1
    rcases longGo_spec (fun m => lang r ((T.drop 0).take m)) T.length with ⟨h2, _⟩ | ⟨m, h2, _, h3, _⟩
    · rw [h2] at h1; omega
    · rw [h2] at h1
      rw [show T.length = m by omega]
      exact h3
  · intro h1; exact longGo_yes h1
theorem rexNull_ok {r : Rex} (h : rexOk r = true) : rexNull r = null r := by rw [rexNull, h]; rfl

end Go.Proofs.Ytplhbjpkkhhilaa
