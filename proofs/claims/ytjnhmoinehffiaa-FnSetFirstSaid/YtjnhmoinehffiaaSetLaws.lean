/- The laws of sets, in plain Lean. -/
import Derived.Test.YtjnhmoinehffiaaSets
namespace Go.Proofs.Ytjnhmoinehffiaa
set_option linter.unusedSimpArgs false
set_option linter.unusedVariables false

theorem join_ok (a b : List Sp) : setOk (setJoin a b) = true := by
  unfold setJoin; split
  · exact setOk_spans _
  · rfl
theorem meet_ok (a b : List Sp) : setOk (setMeet a b) = true := by
  unfold setMeet; split
  · exact setOk_spans _
  · rfl
theorem not_ok (a : List Sp) : setOk (setNot a) = true := by
  unfold setNot; split
  · exact setOk_spans _
  · rfl
theorem has_out {a : List Sp} (h : setOk a = true) {i : Int} (hi : i < 0 ∨ 255 < i) : setHas a i = false := by
  rw [Bool.eq_false_iff]
  intro hc
  have := setOk_range h hc
  omega
theorem has_spans (f : Int → Bool) (hf : ∀ i, i < 0 ∨ 255 < i → f i = false) (i : Int) : setHas (spansOf fun k => f k) i = f i := by
  by_cases h : i < 0 ∨ 255 < i
  · rw [setHas_spans_out _ _ h, hf i h]
  · obtain ⟨k, rfl⟩ := Int.eq_ofNat_of_zero_le (show 0 ≤ i by omega)
    exact setHas_spans_nat _ k (by omega)
theorem has_join {a b : List Sp} (ha : setOk a = true) (hb : setOk b = true) (i : Int) : setHas (setJoin a b) i = (setHas a i || setHas b i) := by
  rw [setJoin, ha, hb]
  exact has_spans (fun i => setHas a i || setHas b i) (fun i hi => by simp [has_out ha hi, has_out hb hi]) i
theorem has_meet {a b : List Sp} (ha : setOk a = true) (hb : setOk b = true) (i : Int) : setHas (setMeet a b) i = (setHas a i && setHas b i) := by
  rw [setMeet, ha, hb]
  exact has_spans (fun i => setHas a i && setHas b i) (fun i hi => by simp [has_out ha hi]) i
theorem has_not {a : List Sp} (ha : setOk a = true) (i : Int) : setHas (setNot a) i = (decide (0 ≤ i) && decide (i ≤ 255) && !setHas a i) := by
  rw [setNot, ha]
  have e : (spansOf fun k => !setHas a (k : Int)) = spansOf fun k : Nat => (fun i : Int => decide (0 ≤ i) && decide (i ≤ 255) && !setHas a i) k := spansOf_congr fun k hk => by
    have h1 : (0 : Int) ≤ k := by omega
    have h2 : (k : Int) ≤ 255 := by omega
    simp [h1, h2]
  show setHas (spansOf fun k => !setHas a (k : Int)) i = _
  rw [e]
  exact has_spans (fun i => decide (0 ≤ i) && decide (i ≤ 255) && !setHas a i) (fun i hi => by
    rcases hi with hi | hi
    · have : ¬ 0 ≤ i := by omega
      simp [this]
    · have : ¬ i ≤ 255 := by omega
      simp [this]) i
theorem join_bad {a b : List Sp} (h : setOk a = false ∨ setOk b = false) : setJoin a b = [] := by
  unfold setJoin; rcases h with h | h <;> simp [h]
theorem meet_bad {a b : List Sp} (h : setOk a = false ∨ setOk b = false) : setMeet a b = [] := by
  unfold setMeet; rcases h with h | h <;> simp [h]

theorem not_not {a : List Sp} (ha : setOk a = true) : setNot (setNot a) = a := by
  refine setOk_ext (not_ok _) ha fun i => ?_
  rw [has_not (not_ok _), has_not ha]
  by_cases h : i < 0 ∨ 255 < i
  · rw [has_out ha h]
    rcases h with h | h
    · have : ¬ 0 ≤ i := by omega
      simp [this]
    · have : ¬ i ≤ 255 := by omega
      simp [this]
  · have h1 : 0 ≤ i := by omega
    have h2 : i ≤ 255 := by omega
    simp [h1, h2]

theorem cnt_not (f g : Nat → Bool) : ∀ n, (∀ k, k < n → g k = !f k) → cnt g n + cnt f n = n := by
  intro n
  induction n with
  | zero => intro _; rfl
  | succ n ih =>
    intro h
    have e := ih fun k hk => h k (by omega)
    have e0 := h n (by omega)
    simp only [cnt, e0]
    cases f n <;> simp <;> omega
theorem cnt_two (f g p q : Nat → Bool) : ∀ n, (∀ k, k < n → p k = (f k || g k)) → (∀ k, k < n → q k = (f k && g k)) → cnt p n + cnt q n = cnt f n + cnt g n := by
  intro n
  induction n with
  | zero => intro _ _; rfl
  | succ n ih =>
    intro h1 h2
    have e := ih (fun k hk => h1 k (by omega)) (fun k hk => h2 k (by omega))
    have e1 := h1 n (by omega)
    have e2 := h2 n (by omega)
    simp only [cnt, e1, e2]
    cases f n <;> cases g n <;> simp <;> omega
theorem cnt_le' (f : Nat → Bool) : ∀ n, cnt f n ≤ n := by
  intro n
  induction n with
  | zero => exact Nat.le_refl _
  | succ n ih => rw [cnt]; split <;> omega
theorem size_le (a : List Sp) : 0 ≤ setSize a ∧ setSize a ≤ 256 := by
  have := cnt_le' (fun i => setHas a i) 256
  unfold setSize
  omega
theorem size_not {a : List Sp} (ha : setOk a = true) : setSize (setNot a) + setSize a = 256 := by
  have := cnt_not (fun i => setHas a i) (fun i => setHas (setNot a) i) 256 fun k hk => by
    rw [has_not ha]
    have h1 : (0 : Int) ≤ k := by omega
    have h2 : (k : Int) ≤ 255 := by omega
    simp [h1, h2]
  unfold setSize
  omega
theorem size_two {a b : List Sp} (ha : setOk a = true) (hb : setOk b = true) : setSize (setJoin a b) + setSize (setMeet a b) = setSize a + setSize b := by
  have := cnt_two (fun i => setHas a i) (fun i => setHas b i) (fun i => setHas (setJoin a b) i) (fun i => setHas (setMeet a b) i) 256 (fun k _ => has_join ha hb _) (fun k _ => has_meet ha hb _)
  unfold setSize
  omega

/-! ### the algebra -/
theorem join_comm {a b : List Sp} (ha : setOk a = true) (hb : setOk b = true) : setJoin a b = setJoin b a :=
  setOk_ext (join_ok _ _) (join_ok _ _) fun i => by rw [has_join ha hb, has_join hb ha, Bool.or_comm]
theorem meet_comm {a b : List Sp} (ha : setOk a = true) (hb : setOk b = true) : setMeet a b = setMeet b a :=
  setOk_ext (meet_ok _ _) (meet_ok _ _) fun i => by rw [has_meet ha hb, has_meet hb ha, Bool.and_comm]
theorem join_assoc {a b c : List Sp} (ha : setOk a = true) (hb : setOk b = true) (hc : setOk c = true) : setJoin (setJoin a b) c = setJoin a (setJoin b c) :=
  setOk_ext (join_ok _ _) (join_ok _ _) fun i => by rw [has_join (join_ok _ _) hc, has_join ha hb, has_join ha (join_ok _ _), has_join hb hc, Bool.or_assoc]
theorem meet_join {a b c : List Sp} (ha : setOk a = true) (hb : setOk b = true) (hc : setOk c = true) : setMeet a (setJoin b c) = setJoin (setMeet a b) (setMeet a c) :=
  setOk_ext (meet_ok _ _) (join_ok _ _) fun i => by rw [has_meet ha (join_ok _ _), has_join hb hc, has_join (meet_ok _ _) (meet_ok _ _), has_meet ha hb, has_meet ha hc, Bool.and_or_distrib_left]
theorem not_join {a b : List Sp} (ha : setOk a = true) (hb : setOk b = true) : setNot (setJoin a b) = setMeet (setNot a) (setNot b) :=
  setOk_ext (not_ok _) (meet_ok _ _) fun i => by
    rw [has_not (join_ok _ _), has_join ha hb, has_meet (not_ok _) (not_ok _), has_not ha, has_not hb]
    cases decide (0 ≤ i) <;> cases decide (i ≤ 255) <;> cases setHas a i <;> cases setHas b i <;> rfl

/-! ### the first -/
theorem first_spec (f : Nat → Bool) : ∀ d i, (firstGo f d i = -1 ∧ ∀ k, i ≤ k → k < i + d → f k = false) ∨ (∃ k : Nat, firstGo f d i = k ∧ i ≤ k ∧ k < i + d ∧ f k = true ∧ ∀ j, i ≤ j → j < k → f j = false) := by
  intro d
  induction d with
  | zero => intro i; exact .inl ⟨rfl, fun k _ _ => by omega⟩
  | succ d ih =>
    intro i
    by_cases h : f i = true
    · refine .inr ⟨i, by rw [firstGo, if_pos h], Nat.le_refl _, by omega, h, fun j _ _ => by omega⟩
    · have h' : f i = false := by simpa using h
      have e : firstGo f (d + 1) i = firstGo f d (i + 1) := by rw [firstGo, if_neg h]
      rw [e]
      rcases ih (i + 1) with ⟨h1, h2⟩ | ⟨k, h1, h2, h3, h4, h5⟩
      · refine .inl ⟨h1, fun k hk hk2 => ?_⟩
        by_cases hki : k = i
        · rw [hki]; exact h'
        · exact h2 k (by omega) (by omega)
      · refine .inr ⟨k, h1, by omega, by omega, h4, fun j hj hj2 => ?_⟩
        by_cases hji : j = i
        · rw [hji]; exact h'
        · exact h5 j (by omega) hj2
theorem setFirst_spec (s : List Sp) : (setFirst s = -1 ∧ ∀ k : Nat, k < 256 → setHas s k = false) ∨ (∃ k : Nat, setFirst s = k ∧ k < 256 ∧ setHas s k = true ∧ ∀ j : Nat, j < k → setHas s j = false) := by
  rcases first_spec (fun i => setHas s i) 256 0 with ⟨h1, h2⟩ | ⟨k, h1, _, h3, h4, h5⟩
  · exact .inl ⟨h1, fun k hk => h2 k (Nat.zero_le _) (by omega)⟩
  · exact .inr ⟨k, h1, by omega, h4, fun j hj => h5 j (Nat.zero_le _) hj⟩
theorem cnt_zero (f : Nat → Bool) : ∀ n, cnt f n = 0 ↔ ∀ k, k < n → f k = false := by
  intro n
  induction n with
  | zero => simp [cnt]
  | succ n ih =>
    rw [cnt]
    constructor
    · intro h k hk
      have h0 : f n = false := by
        rw [Bool.eq_false_iff]; intro hc; rw [hc] at h; simp at h
      by_cases hkn : k = n
      · rw [hkn]; exact h0
      · exact ih.1 (by omega) k (by omega)
    · intro h
      rw [h n (by omega), ih.2 fun k hk => h k (by omega)]
      rfl
theorem size_zero (s : List Sp) : setSize s = 0 ↔ setFirst s < 0 := by
  have e : setSize s = 0 ↔ ∀ k, k < 256 → (fun i : Nat => setHas s i) k = false := by
    rw [← cnt_zero]
    unfold setSize
    omega
  rw [e]
  rcases setFirst_spec s with ⟨h1, h2⟩ | ⟨k, h1, h3, h4, h5⟩
  · rw [h1]
    exact ⟨fun _ => by omega, fun _ => h2⟩
  · rw [h1]
    refine ⟨fun h => ?_, fun h => by omega⟩
    have := h k h3
    simp only [h4] at this
    cases this
theorem one_ok {k : Nat} (h : k < 256) : setOk [⟨k, k⟩] = true := by
  have : spBad none ⟨k, k⟩ = false := (spBad_false _ _).2 ⟨by show (0 : Int) ≤ k; omega, by show (k : Int) ≤ k; omega, by show (k : Int) ≤ 255; omega, fun q hq => by cases hq⟩
  simp [setOk, setOkGo, this]
theorem has_one (k : Nat) (i : Int) : setHas [⟨k, k⟩] i = decide (i = k) := by
  rw [setHas_cons, setHas_nil, Bool.or_false, Bool.eq_iff_iff, spIn_iff, decide_eq_true_eq]
  show (k : Int) ≤ i ∧ i ≤ (k : Int) ↔ _
  omega
theorem meet_one {s : List Sp} {k : Nat} (hs : setOk s = true) (hk : k < 256) (h : setHas s k = true) : setMeet s [⟨k, k⟩] = [⟨k, k⟩] :=
  setOk_ext (meet_ok _ _) (one_ok hk) fun i => by
    rw [has_meet hs (one_ok hk), has_one]
    by_cases e : i = k
    · subst e; simp [h]
    · simp [e]
theorem join_one {s : List Sp} {k : Nat} (hs : setOk s = true) (hk : k < 256) (h : setHas s k = true) : setJoin s [⟨k, k⟩] = s :=
  setOk_ext (join_ok _ _) hs fun i => by
    rw [has_join hs (one_ok hk), has_one]
    by_cases e : i = k
    · subst e; simp [h]
    · simp [e]
theorem cnt_one (f : Nat → Bool) (k : Nat) (h : ∀ j, f j = decide (j = k)) : ∀ n, cnt f n = if k < n then 1 else 0 := by
  intro n
  induction n with
  | zero => rfl
  | succ n ih =>
    rw [cnt, ih, h n]
    by_cases h1 : k < n
    · simp [h1, show ¬ n = k by omega, show k < n + 1 by omega]
    · by_cases h2 : n = k
      · subst h2; simp
      · simp [h1, h2, show ¬ k < n + 1 by omega]
theorem size_one {k : Nat} (hk : k < 256) : setSize [⟨k, k⟩] = 1 := by
  have := cnt_one (fun i => setHas [⟨k, k⟩] i) k (fun j => by
    show setHas [⟨k, k⟩] (j : Int) = _
    rw [has_one, Bool.eq_iff_iff, decide_eq_true_eq, decide_eq_true_eq]; omega) 256
  unfold setSize
  rw [this, if_pos hk]
  rfl

end Go.Proofs.Ytjnhmoinehffiaa
