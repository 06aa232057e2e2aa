/- The text of any set, read back: plain law. -/
import Derived.Test.YtlchipjckgaclaaDoorG6
import Derived.Test.YtlchipjckgaclaaDoorG5
namespace Go.Proofs.YtlchipjckgaclaaDoor
set_option linter.unusedSimpArgs false
set_option linter.unusedVariables false
set_option maxRecDepth 100000

theorem itoa_cases (n : Int) : (0 ≤ n ∧ Lib.itoa n = Lib.decDigits n.toNat) ∨ (n < 0 ∧ ∃ u, Lib.itoa n = 45 :: Lib.decDigits u) := by
  by_cases h : 0 ≤ n
  · exact .inl ⟨h, itoa_nat h⟩
  · obtain ⟨u, hu⟩ : ∃ u : Nat, n = -(u : Int) := ⟨n.natAbs, by omega⟩
    refine .inr ⟨by omega, u, ?_⟩
    rw [hu]
    exact Lib.itoa_neg u (by omega)
theorem itoa_chars (n : Int) : ∀ b ∈ Lib.itoa n, isDig b = true ∨ b = 45 := by
  intro b hb
  rcases itoa_cases n with ⟨_, e⟩ | ⟨_, u, e⟩
  · rw [e] at hb; exact .inl (dec_dig _ b hb)
  · rw [e] at hb
    rcases List.mem_cons.1 hb with h | h
    · exact .inr h
    · exact .inl (dec_dig _ b h)
theorem span_chars' (x : Sp) : ∀ b ∈ spanTxt x, isDig b = true ∨ b = 45 := by
  intro b hb
  unfold spanTxt at hb
  rcases List.mem_append.1 hb with hb | hb
  · exact itoa_chars _ b hb
  · split at hb
    · simp at hb
    · rcases List.mem_cons.1 hb with rfl | hb
      · exact .inr rfl
      · exact itoa_chars _ b hb
theorem dec_ne45 {u : Nat} {l t t' : List UInt8} (h : Lib.decDigits u ++ t = 45 :: t') : False := by
  cases hd : Lib.decDigits u with
  | nil =>
    have h1 := itoa_pos (u : Int)
    rw [itoa_nat (by omega), show ((u : Nat) : Int).toNat = u by omega, hd] at h1
    simp at h1
  | cons b l =>
    rw [hd] at h
    injection h with h1 _
    have := dec_dig u b (by rw [hd]; simp)
    rw [h1] at this
    revert this
    decide
theorem span_eq' {x y : Sp} (hx : okSp x) (h : spanTxt x = spanTxt y) : x = y := by
  have hlo : 0 ≤ y.lo := by
    rcases itoa_cases y.lo with ⟨h0, _⟩ | ⟨_, u, e⟩
    · exact h0
    · exfalso
      unfold spanTxt at h
      rw [e, itoa_nat hx.1, List.cons_append] at h
      exact dec_ne45 (l := []) h
  have hhi : 0 ≤ y.hi := by
    by_cases e : y.hi = y.lo
    · omega
    · rcases itoa_cases y.hi with ⟨h0, _⟩ | ⟨_, u, e2⟩
      · exact h0
      · exfalso
        unfold spanTxt at h
        rw [itoa_nat hx.1, itoa_nat hx.2, itoa_nat hlo, if_neg e, e2] at h
        have f : (if x.hi = x.lo then [] else 45 :: Lib.decDigits x.hi.toNat) = ([] : List UInt8) ∨ ∃ u, (if x.hi = x.lo then [] else 45 :: Lib.decDigits x.hi.toNat) = 45 :: u := by
          split
          · exact .inl rfl
          · exact .inr ⟨_, rfl⟩
        obtain ⟨_, e4⟩ := word_eq (sep := 45) (not_dig (dec_dig _) (by decide)) (not_dig (dec_dig _) (by decide)) f (.inr ⟨_, rfl⟩) h
        split at e4
        · cases e4
        · injection e4 with _ e5
          have e6 : Lib.decDigits x.hi.toNat ++ [] = 45 :: Lib.decDigits u := by rw [List.append_nil]; exact e5
          exact dec_ne45 (l := []) e6
  exact span_eq hx ⟨hlo, hhi⟩ h
theorem map_inj' {xs ys : List Sp} (hx : ∀ x ∈ xs, okSp x) (h : xs.map spanTxt = ys.map spanTxt) : xs = ys := by
  induction xs generalizing ys with
  | nil => cases ys with
    | nil => rfl
    | cons y ys => cases h
  | cons x xs ih => cases ys with
    | nil => cases h
    | cons y ys =>
      rw [List.map_cons, List.map_cons] at h
      injection h with e1 e2
      rw [span_eq' (hx x (by simp)) e1, ih (fun z hz => hx z (by simp [hz])) e2]
theorem set_eq' {xs ys : List Sp} (hx : setOk xs = true) (h : setTxt xs = setTxt ys) : xs = ys := by
  have no : ∀ zs : List Sp, ([110, 111] : List UInt8) ≠ accTxt zs := fun zs e => by
    have h1 : (110 : UInt8) ∈ accTxt zs := by rw [← e]; simp
    unfold accTxt at h1
    rcases mem_join h1 with h2 | ⟨w, hw, h2⟩
    · revert h2; decide
    · obtain ⟨x, _, rfl⟩ := List.mem_map.1 hw
      rcases span_chars' x _ h2 with h3 | h3 <;> revert h3 <;> decide
  unfold setTxt at h
  split at h
  · rename_i h1
    split at h
    · rename_i h2
      rw [List.length_eq_zero_iff.1 h1, List.length_eq_zero_iff.1 h2]
    · exact absurd h (no ys)
  · rename_i h1
    split at h
    · exact absurd h.symm (no xs)
    · rename_i h2
      have n44 : ∀ zs : List Sp, ∀ w ∈ zs.map spanTxt, (44 : UInt8) ∉ w := fun zs w hw hb => by
        obtain ⟨x, hxx, rfl⟩ := List.mem_map.1 hw
        rcases span_chars' x _ hb with h1 | h1 <;> revert h1 <;> decide
      refine map_inj' (ok_sp hx) (join_eq (n44 xs) (n44 ys) ?_ ?_ h)
      · intro e; rw [List.map_eq_nil_iff] at e; rw [e] at h1; exact h1 rfl
      · intro e; rw [List.map_eq_nil_iff] at e; rw [e] at h2; exact h2 rfl
theorem readSet_any (xs : List Sp) : readSet (setTxt xs) = if setOk xs = true then some xs else none := by
  split
  · rename_i h; exact readSet_txt h
  · rename_i h
    cases hr : readSet (setTxt xs) with
    | none => rfl
    | some ys =>
      exfalso
      obtain ⟨h1, h2⟩ := read_sound hr
      rw [set_eq' h1 h2] at h1
      exact h h1

end Go.Proofs.YtlchipjckgaclaaDoor
