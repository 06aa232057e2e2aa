/- A pattern's text tells which pattern it is of: plain law. -/
import Derived.Test.YtlchipjckgaclaaDoorTi
namespace Go.Proofs.YtlchipjckgaclaaDoor
set_option linter.unusedSimpArgs false
set_option linter.unusedVariables false
set_option maxRecDepth 100000

def okSp (x : Sp) : Prop := 0 ≤ x.lo ∧ 0 ≤ x.hi
theorem ok_sp {xs : List Sp} (h : setOk xs = true) : ∀ x ∈ xs, okSp x := fun x hx => by
  have := ok_go (show setOkGo none xs = true from h) x hx
  unfold okSp
  omega
theorem span_chars {x : Sp} (h : okSp x) : ∀ b ∈ spanTxt x, isDig b = true ∨ b = 45 := by
  intro b hb
  unfold spanTxt at hb
  rw [itoa_nat h.1, itoa_nat h.2] at hb
  rcases List.mem_append.1 hb with hb | hb
  · exact .inl (dec_dig _ b hb)
  · split at hb
    · simp at hb
    · rcases List.mem_cons.1 hb with rfl | hb
      · exact .inr rfl
      · exact .inl (dec_dig _ b hb)
theorem span_eq {x y : Sp} (hx : okSp x) (hy : okSp y) (h : spanTxt x = spanTxt y) : x = y := by
  unfold spanTxt at h
  rw [itoa_nat hx.1, itoa_nat hx.2, itoa_nat hy.1, itoa_nat hy.2] at h
  have f : ∀ z : Sp, (if z.hi = z.lo then [] else 45 :: Lib.decDigits z.hi.toNat) = ([] : List UInt8) ∨ ∃ u, (if z.hi = z.lo then [] else 45 :: Lib.decDigits z.hi.toNat) = 45 :: u := fun z => by
    split
    · exact .inl rfl
    · exact .inr ⟨_, rfl⟩
  obtain ⟨e1, e2⟩ := word_eq (sep := 45) (not_dig (dec_dig _) (by decide)) (not_dig (dec_dig _) (by decide)) (f x) (f y) h
  have hlo := dec_inj e1
  obtain ⟨xl, xh⟩ := x
  obtain ⟨yl, yh⟩ := y
  unfold okSp at hx hy
  simp only at hlo e2 hx hy
  have hl : xl = yl := by omega
  subst hl
  have hh : xh = yh := by
    split at e2
    · rename_i h1
      split at e2
      · rename_i h2; rw [h1, h2]
      · cases e2
    · split at e2
      · cases e2
      · injection e2 with _ e2
        have := dec_inj e2
        omega
  rw [hh]
theorem mem_tail {sep b : UInt8} : ∀ {ws : List (List UInt8)}, b ∈ Lib.joinTail [sep] ws → b = sep ∨ ∃ w ∈ ws, b ∈ w
  | [], h => by simp [Lib.joinTail] at h
  | w :: ws, h => by
    have e : Lib.joinTail [sep] (w :: ws) = sep :: (w ++ Lib.joinTail [sep] ws) := by simp [Lib.joinTail]
    rw [e] at h
    rcases List.mem_cons.1 h with h | h
    · exact .inl h
    · rcases List.mem_append.1 h with h | h
      · exact .inr ⟨w, by simp, h⟩
      · rcases mem_tail h with h | ⟨v, hv, h⟩
        · exact .inl h
        · exact .inr ⟨v, by simp [hv], h⟩
theorem mem_join {sep b : UInt8} {ws : List (List UInt8)} (h : b ∈ Lib.join ws [sep]) : b = sep ∨ ∃ w ∈ ws, b ∈ w := by
  cases ws with
  | nil => rw [Lib.join_nil] at h; cases h
  | cons w ws =>
    rw [Lib.join_cons] at h
    rcases List.mem_append.1 h with h | h
    · exact .inr ⟨w, by simp, h⟩
    · rcases mem_tail h with h | ⟨v, hv, h⟩
      · exact .inl h
      · exact .inr ⟨v, by simp [hv], h⟩
theorem acc_chars {xs : List Sp} (h : ∀ x ∈ xs, okSp x) : ∀ b ∈ accTxt xs, isDig b = true ∨ b = 45 ∨ b = 44 := by
  intro b hb
  unfold accTxt at hb
  rcases mem_join hb with e | ⟨w, hw, hb⟩
  · exact .inr (.inr e)
  · obtain ⟨x, hx, rfl⟩ := List.mem_map.1 hw
    rcases span_chars (h x hx) b hb with h1 | h1
    · exact .inl h1
    · exact .inr (.inl h1)
theorem set_no32 {xs : List Sp} (h : setOk xs = true) : (32 : UInt8) ∉ setTxt xs := by
  intro hb
  unfold setTxt at hb
  split at hb
  · revert hb; decide
  · rcases acc_chars (ok_sp h) _ hb with h1 | h1 | h1 <;> revert h1 <;> decide
theorem map_inj {xs ys : List Sp} (hx : ∀ x ∈ xs, okSp x) (hy : ∀ x ∈ ys, okSp x) (h : xs.map spanTxt = ys.map spanTxt) : xs = ys := by
  induction xs generalizing ys with
  | nil => cases ys with
    | nil => rfl
    | cons y ys => cases h
  | cons x xs ih => cases ys with
    | nil => cases h
    | cons y ys =>
      rw [List.map_cons, List.map_cons] at h
      injection h with e1 e2
      rw [span_eq (hx x (by simp)) (hy y (by simp)) e1, ih (fun z hz => hx z (by simp [hz])) (fun z hz => hy z (by simp [hz])) e2]
theorem set_eq {xs ys : List Sp} (hx : setOk xs = true) (hy : setOk ys = true) (h : setTxt xs = setTxt ys) : xs = ys := by
  have no : ∀ zs : List Sp, setOk zs = true → ([110, 111] : List UInt8) ≠ accTxt zs := fun zs hz e => by
    have h1 : (110 : UInt8) ∈ accTxt zs := by rw [← e]; simp
    rcases acc_chars (ok_sp hz) _ h1 with h1 | h1 | h1 <;> revert h1 <;> decide
  unfold setTxt at h
  split at h
  · rename_i h1
    split at h
    · rename_i h2
      rw [List.length_eq_zero_iff.1 h1, List.length_eq_zero_iff.1 h2]
    · exact absurd h (no ys hy)
  · rename_i h1
    split at h
    · exact absurd h.symm (no xs hx)
    · rename_i h2
      have n44 : ∀ zs : List Sp, setOk zs = true → ∀ w ∈ zs.map spanTxt, (44 : UInt8) ∉ w := fun zs hz w hw hb => by
        obtain ⟨x, hxx, rfl⟩ := List.mem_map.1 hw
        rcases span_chars (ok_sp hz x hxx) _ hb with h1 | h1 <;> revert h1 <;> decide
      refine map_inj (ok_sp hx) (ok_sp hy) (join_eq (n44 xs hx) (n44 ys hy) ?_ ?_ h)
      · intro e; rw [List.map_eq_nil_iff] at e; rw [e] at h1; exact h1 rfl
      · intro e; rw [List.map_eq_nil_iff] at e; rw [e] at h2; exact h2 rfl

/-! ### words of patterns -/
def kind7 (k : Int) : Prop := k = 1 ∨ k = 2 ∨ k = 3 ∨ k = 4 ∨ k = 5 ∨ k = 6 ∨ k = 7
theorem kind_of {d : Nat} {k : Int} {s : List Sp} {ks : List Rex} (h : formed d (.mk k s ks) = true) : kind7 k := by
  rcases kidsOf_cases (formed_node h).1 with ⟨e, _⟩ | ⟨e, _⟩ | ⟨e, _⟩ <;> (unfold kind7; omega)
theorem kw_no32 {k : Int} (h : kind7 k) : (32 : UInt8) ∉ kw k := by
  rcases h with rfl | rfl | rfl | rfl | rfl | rfl | rfl <;> decide
theorem kw_inj {k j : Int} (h : kind7 k) (h' : kind7 j) (e : kw k = kw j) : k = j := by
  rcases h with rfl | rfl | rfl | rfl | rfl | rfl | rfl <;> rcases h' with rfl | rfl | rfl | rfl | rfl | rfl | rfl <;> first | rfl | (exfalso; revert e; decide)
theorem words_no32 (r : Rex) : ∀ d, formed d r = true → ∀ w ∈ wordsOf r, (32 : UInt8) ∉ w := by
  refine Rex.ind (p := fun r => ∀ d, formed d r = true → ∀ w ∈ wordsOf r, (32 : UInt8) ∉ w) (fun k s ks ih => ?_) r
  intro d hd w hw
  obtain ⟨_, _, hok, _, hfk⟩ := formed_node hd
  rw [wordsOf] at hw
  rcases List.mem_cons.1 hw with rfl | hw
  · exact kw_no32 (kind_of hd)
  · rcases List.mem_append.1 hw with hw | hw
    · split at hw
      · rw [List.mem_singleton.1 hw]; exact set_no32 hok
      · simp at hw
    · have hL : ∀ l : List Rex, (∀ r ∈ l, r ∈ ks) → ∀ w ∈ wordsL l, (32 : UInt8) ∉ w := by
        intro l
        induction l with
        | nil => intro _ w hw; simp [wordsL] at hw
        | cons x l ihl =>
          intro hl w hw
          rw [wordsL] at hw
          rcases List.mem_append.1 hw with hw | hw
          · exact ih x (hl x (by simp)) (d - 1) (hfk x (hl x (by simp))) w hw
          · exact ihl (fun r hr => hl r (by simp [hr])) w hw
      exact hL ks (fun r hr => hr) w hw
def ReadsBack (r : Rex) : Prop := ∀ (d d' : Nat) (r' : Rex) (t t' : List (List UInt8)), formed d r = true → formed d' r' = true → wordsOf r ++ t = wordsOf r' ++ t' → r = r' ∧ t = t'
theorem wordsL_eq : ∀ (ks ks' : List Rex) (d d' : Nat) (t t' : List (List UInt8)), (∀ r ∈ ks, ReadsBack r) → (∀ r ∈ ks, formed d r = true) → (∀ r ∈ ks', formed d' r = true) → ks.length = ks'.length → wordsL ks ++ t = wordsL ks' ++ t' → ks = ks' ∧ t = t'
  | [], [], _, _, t, t', _, _, _, _, h => ⟨rfl, by simpa [wordsL] using h⟩
  | [], _ :: _, _, _, _, _, _, _, _, hl, _ => by simp at hl
  | _ :: _, [], _, _, _, _, _, _, _, hl, _ => by simp at hl
  | r :: ks, r' :: ks', d, d', t, t', hr, hf, hf', hl, h => by
    rw [wordsL, wordsL, List.append_assoc, List.append_assoc] at h
    obtain ⟨e1, e2⟩ := hr r (by simp) d d' r' _ _ (hf r (by simp)) (hf' r' (by simp)) h
    obtain ⟨e3, e4⟩ := wordsL_eq ks ks' d d' t t' (fun x hx => hr x (by simp [hx])) (fun x hx => hf x (by simp [hx])) (fun x hx => hf' x (by simp [hx])) (by simpa using hl) e2
    exact ⟨by rw [e1, e3], e4⟩
theorem reads_back (r : Rex) : ReadsBack r := by
  refine Rex.ind (p := ReadsBack) (fun k s ks ih => ?_) r
  intro d d' r' t t' hd hd' h
  obtain ⟨k', s', ks'⟩ := r'
  obtain ⟨hk, hs, hok, _, hfk⟩ := formed_node hd
  obtain ⟨hk', hs', hok', _, hfk'⟩ := formed_node hd'
  rw [wordsOf, wordsOf, List.cons_append, List.cons_append] at h
  injection h with e1 e2
  have ek := kw_inj (kind_of hd) (kind_of hd') e1
  subst ek
  have hlen : ks.length = ks'.length := by omega
  by_cases h1 : k = 1
  · rw [if_pos h1, if_pos h1, List.append_assoc, List.append_assoc, List.singleton_append, List.singleton_append] at e2
    injection e2 with e3 e4
    have es := set_eq hok hok' e3
    obtain ⟨e5, e6⟩ := wordsL_eq ks ks' (d - 1) (d' - 1) t t' ih hfk hfk' hlen e4
    exact ⟨by rw [es, e5], e6⟩
  · rw [if_neg h1, if_neg h1, List.nil_append, List.nil_append] at e2
    obtain ⟨e5, e6⟩ := wordsL_eq ks ks' (d - 1) (d' - 1) t t' ih hfk hfk' hlen e2
    have es : s = s' := by rw [hs.resolve_left h1, hs'.resolve_left h1]
    exact ⟨by rw [es, e5], e6⟩
theorem txt_inj {a b : Rex} {d d' : Nat} (ha : formed d a = true) (hb : formed d' b = true) (h : rexTxt a = rexTxt b) : a = b := by
  have hne : ∀ r : Rex, wordsOf r ≠ [] := fun r => by
    obtain ⟨k, s, ks⟩ := r
    rw [wordsOf]
    simp
  have e := join_eq (words_no32 a d ha) (words_no32 b d' hb) (hne a) (hne b) h
  exact (reads_back a d d' b [] [] ha hb (by rw [e])).1

end Go.Proofs.YtlchipjckgaclaaDoor
