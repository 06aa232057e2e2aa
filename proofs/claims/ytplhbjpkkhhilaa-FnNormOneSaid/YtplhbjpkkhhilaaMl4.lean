/- What the laws say of star and complement, plain. -/
import Derived.Test.YtplhbjpkkhhilaaMl3
import Derived.Test.YtplhbjpkkhhilaaG8
import Derived.Test.YtplhbjpkkhhilaaG12
namespace Go.Proofs.Ytplhbjpkkhhilaa
set_option linter.unusedSimpArgs false
set_option linter.unusedVariables false
open Go.RowKit

theorem Star.append {f : Txt → Bool} {a b : Txt} (h : Star f a) (hb : Star f b) : Star f (a ++ b) := by
  induction h with
  | nil => exact hb
  | cons x y hx hf hy ih => rw [List.append_assoc]; exact .cons x (y ++ b) hx hf ih
theorem star_star (f : Txt → Bool) (T : Txt) : starB (starB f) T = starB f T := by
  rw [Bool.eq_iff_iff, starB_iff, starB_iff]
  constructor
  · intro h
    induction h with
    | nil => exact .nil
    | cons a b ha hf hb ih => exact ((starB_iff f a).1 hf).append ih
  · intro h
    by_cases ht : T = []
    · subst ht; exact .nil
    · have := Star.cons (f := starB f) T [] ht ((starB_iff f T).2 h) .nil
      simpa using this
theorem starB_none {f : Txt → Bool} (h : ∀ t, t ≠ [] → f t = false) (T : Txt) : starB f T = T.isEmpty := by
  rw [Bool.eq_iff_iff, starB_iff, List.isEmpty_iff]
  constructor
  · intro hs
    cases hs with
    | nil => rfl
    | cons a b ha hf hb => rw [h a ha] at hf; cases hf
  · intro e; subst e; exact .nil
theorem oneB_nil (t : Txt) : oneB [] t = false := by
  unfold oneB
  split <;> rfl
theorem rexOk_two : rexOk (.mk 2 [] []) = true := by decide
theorem rexOk_seven {r : Rex} (h : rexOk (.mk 5 [] [r]) = true) : rexOk (.mk 7 [] [r]) = true := h
theorem norm_star {r : Rex} {T : Txt} (hr : rexOk r = true) (h : rexOk (.mk 5 [] [r]) = true) (hT : T.length ≤ 12) : rexOk (nStar r) = true ∧ matchIs (nStar r) T = matchIs (.mk 5 [] [r]) T := by
  rw [matchIs_of h hT, lang5]
  by_cases h5 : r.kind = 5
  · rw [nStar, if_pos h5]
    refine ⟨hr, ?_⟩
    rw [matchIs_of hr hT]
    obtain ⟨k, s, ks⟩ := r
    have h5' : k = 5 := h5
    subst h5'
    rcases formed_shape (rexOk_formed hr) with ⟨e, _⟩ | ⟨_, a, rfl, _⟩ | ⟨e, _⟩
    · omega
    · rw [lang5, show lang (.mk 5 s [a]) = starB (lang a) by funext t; exact lang5 s a t, star_star]
    · omega
  · rw [nStar, if_neg h5]
    split
    · rename_i h2
      refine ⟨rexOk_two, ?_⟩
      rw [matchIs_of rexOk_two hT, lang2]
      symm
      apply starB_none
      intro t ht
      obtain ⟨k, s, ks⟩ := r
      rcases h2 with h2 | h2
      · have h2' : k = 2 := h2
        subst h2'
        rcases formed_shape (rexOk_formed hr) with ⟨_, rfl⟩ | ⟨e, _⟩ | ⟨e, _⟩
        · rw [lang2]; cases t with
          | nil => exact absurd rfl ht
          | cons a l => rfl
        · omega
        · omega
      · obtain ⟨h3, h4⟩ := (isNo_iff _).1 h2
        have h3' : k = 1 := h3
        have h4' : s = [] := h4
        subst h3' h4'
        rcases formed_shape (rexOk_formed hr) with ⟨_, rfl⟩ | ⟨e, _⟩ | ⟨e, _⟩
        · rw [lang1, oneB_nil]
        · omega
        · omega
    · exact ⟨h, by rw [matchIs_of h hT, lang5]⟩
theorem nStar_idem (r : Rex) : nStar (nStar r) = nStar r := by
  have e2 : nStar (.mk 2 [] []) = .mk 2 [] [] := by
    rw [nStar, if_neg (by show ¬ (2 : Int) = 5; decide), if_pos (.inl rfl)]
  by_cases h5 : r.kind = 5
  · rw [show nStar r = r by rw [nStar, if_pos h5]]
    rw [nStar, if_pos h5]
  · by_cases h2 : r.kind = 2 ∨ isNo r = true
    · rw [show nStar r = .mk 2 [] [] by rw [nStar, if_neg h5, if_pos h2]]
      exact e2
    · rw [show nStar r = .mk 5 [] [r] by rw [nStar, if_neg h5, if_neg h2]]
      rw [nStar, if_pos (show (Rex.mk 5 [] [r]).kind = 5 from rfl)]
theorem norm_not {r : Rex} {T : Txt} (hr : rexOk r = true) (h : rexOk (.mk 5 [] [r]) = true) (hT : T.length ≤ 12) : rexOk (nNot r) = true ∧ matchIs (nNot r) T = !matchIs r T := by
  by_cases h7 : r.kind = 7
  · rw [nNot, if_pos h7]
    obtain ⟨k, s, ks⟩ := r
    have h7' : k = 7 := h7
    subst h7'
    rcases formed_shape (rexOk_formed hr) with ⟨e, _⟩ | ⟨_, a, rfl, _⟩ | ⟨e, _⟩
    · omega
    · have ha : rexOk a = true := rexOk_kid hr (by simp)
      show rexOk a = true ∧ matchIs a T = _
      exact ⟨ha, by rw [matchIs_of ha hT, matchIs_of hr hT, lang7]; simp⟩
    · omega
  · rw [nNot, if_neg h7]
    exact ⟨rexOk_seven h, matchIs_not (rexOk_seven h) hT⟩
theorem nNot_back {r : Rex} (h : r.kind ≠ 7) : nNot (nNot r) = r := by
  rw [show nNot r = .mk 7 [] [r] by rw [nNot, if_neg h]]
  rw [nNot, if_pos (show (Rex.mk 7 [] [r]).kind = 7 from rfl)]
  rfl
theorem norm60_of {f : Rex → Rex} {r : Rex} (h : rexOk r = true) : norm60 f r = f r := by
  rw [norm60, if_pos (formed_le (by omega) (rexOk_formed h))]
theorem norm60_size {f : Rex → Rex} (hf : ∀ r, (f r).size ≤ r.size + 1) (r : Rex) : (norm60 f r).size ≤ r.size + 1 := by
  unfold norm60
  split
  · exact hf r
  · show (Rex.mk 0 [] []).size ≤ _; simp [Rex.size, sizeL]
/-- one tree in two places -/
theorem same_r (r : Rex) (v1 v2 u1 u2 : Value) (w : World) (lo lo' : Nat) (h : RexV w lo r (.int .i64 r.kind) v1 v2) (h' : RexV w lo' r (.int .i64 r.kind) u1 u2) :
    Calls Try.prog 37 #[.agg #[.int .i64 r.kind, v1, v2], .agg #[.int .i64 r.kind, u1, u2]] w fun e w' => e = .returned (.bool true) ∧ Below w.heap.size w w' :=
  (iRexSame_c r r v1 v2 u1 u2 w lo lo' h h').mono fun e w' ⟨h1, h2⟩ => ⟨by rw [h1, (rexEq_iff r r).2 rfl], h2⟩
abbrev TreeOut (t : Rex) (w : World) (e : Ending) (w' : World) : Prop := ∃ A c K ck, e = .returned (.agg #[.int .i64 t.kind, .slice A t.set.length c, .slice K t.kids.length ck]) ∧ RexV w' 0 t (.int .i64 t.kind) (.slice A t.set.length c) (.slice K t.kids.length ck) ∧ Below w.heap.size w w'
theorem iNormStar_r (r : Rex) (v1 v2 : Value) (w : World) (lo : Nat) (h : RexV w lo r (.int .i64 r.kind) v1 v2) (hsz : r.size ≤ 1048576) :
    Calls Try.prog 35 #[.agg #[.int .i64 r.kind, v1, v2]] w (TreeOut (norm60 nStar r) w) :=
  (iNormStar_c r v1 v2 w lo h hsz).mono fun e w' hc => by
    obtain ⟨A, c, K, ck, fp, rfl, ho, _, _, b⟩ := hc.own
    rw [← Rex.eta] at ho
    exact ⟨A, c, K, ck, rfl, ho.rex0, b⟩
theorem iNormNot_r (r : Rex) (v1 v2 : Value) (w : World) (lo : Nat) (h : RexV w lo r (.int .i64 r.kind) v1 v2) (hsz : r.size ≤ 1048576) :
    Calls Try.prog 36 #[.agg #[.int .i64 r.kind, v1, v2]] w (TreeOut (norm60 nNot r) w) :=
  (iNormNot_c r v1 v2 w lo h hsz).mono fun e w' hc => by
    obtain ⟨A, c, K, ck, fp, rfl, ho, _, _, b⟩ := hc.own
    rw [← Rex.eta] at ho
    exact ⟨A, c, K, ck, rfl, ho.rex0, b⟩
theorem sNormStar_r (r : Rex) (v1 v2 : Value) (w : World) (lo : Nat) (h : RexV w lo r (.int .i64 r.kind) v1 v2) (hsz : r.size ≤ 1048576) :
    Calls Try.prog 38 #[.agg #[.int .i64 r.kind, v1, v2]] w (TreeOut (norm60 nStar r) w) :=
  (sNormStar_c r v1 v2 w lo h hsz).mono fun e w' hc => by
    obtain ⟨A, c, K, ck, fp, rfl, ho, _, _, b⟩ := hc.own
    rw [← Rex.eta] at ho
    exact ⟨A, c, K, ck, rfl, ho.rex0, b⟩
theorem sNormNot_r (r : Rex) (v1 v2 : Value) (w : World) (lo : Nat) (h : RexV w lo r (.int .i64 r.kind) v1 v2) (hsz : r.size ≤ 1048576) :
    Calls Try.prog 39 #[.agg #[.int .i64 r.kind, v1, v2]] w (TreeOut (norm60 nNot r) w) :=
  (sNormNot_c r v1 v2 w lo h hsz).mono fun e w' hc => by
    obtain ⟨A, c, K, ck, fp, rfl, ho, _, _, b⟩ := hc.own
    rw [← Rex.eta] at ho
    exact ⟨A, c, K, ck, rfl, ho.rex0, b⟩

end Go.Proofs.Ytplhbjpkkhhilaa
