/- Texts tell apart what they are of: plain law. -/
import Derived.Test.YtlchipjckgaclaaDoorTv
namespace Go.Proofs.YtlchipjckgaclaaDoor
set_option linter.unusedSimpArgs false
set_option linter.unusedVariables false
set_option maxRecDepth 100000

/-! ### words between separators -/
/-- two words without the separator, each at the end or ahead of it -/
theorem word_eq {sep : UInt8} : ∀ {w w' : List UInt8} {t t' : List UInt8}, sep ∉ w → sep ∉ w' → (t = [] ∨ ∃ u, t = sep :: u) → (t' = [] ∨ ∃ u, t' = sep :: u) → w ++ t = w' ++ t' → w = w' ∧ t = t'
  | [], [], t, t', _, _, _, _, h => ⟨rfl, by simpa using h⟩
  | [], b :: w', t, t', _, h2, h3, _, h => by
    exfalso
    rw [List.nil_append, List.cons_append] at h
    rcases h3 with rfl | ⟨u, rfl⟩
    · cases h
    · injection h with e _
      exact h2 (by simp [e])
  | a :: w, [], t, t', h1, _, _, h4, h => by
    exfalso
    rw [List.nil_append, List.cons_append] at h
    rcases h4 with rfl | ⟨u, rfl⟩
    · cases h
    · injection h with e _
      exact h1 (by simp [e])
  | a :: w, b :: w', t, t', h1, h2, h3, h4, h => by
    rw [List.cons_append, List.cons_append] at h
    injection h with e1 e2
    obtain ⟨e3, e4⟩ := word_eq (fun hm => h1 (by simp [hm])) (fun hm => h2 (by simp [hm])) h3 h4 e2
    exact ⟨by rw [e1, e3], e4⟩
theorem tail_form (sep : UInt8) (ws : List (List UInt8)) : Lib.joinTail [sep] ws = [] ∨ ∃ u, Lib.joinTail [sep] ws = sep :: u := by
  cases ws with
  | nil => exact .inl rfl
  | cons w ws => exact .inr ⟨w ++ Lib.joinTail [sep] ws, by simp [Lib.joinTail]⟩
theorem tail_eq {sep : UInt8} : ∀ {ws ws' : List (List UInt8)}, (∀ w ∈ ws, sep ∉ w) → (∀ w ∈ ws', sep ∉ w) → Lib.joinTail [sep] ws = Lib.joinTail [sep] ws' → ws = ws'
  | [], [], _, _, _ => rfl
  | [], w :: ws', _, _, h => by simp [Lib.joinTail] at h
  | w :: ws, [], _, _, h => by simp [Lib.joinTail] at h
  | w :: ws, w' :: ws', h1, h2, h => by
    have e : ∀ (x : List UInt8) (xs : List (List UInt8)), Lib.joinTail [sep] (x :: xs) = sep :: (x ++ Lib.joinTail [sep] xs) := fun x xs => by simp [Lib.joinTail]
    rw [e, e] at h
    injection h with _ h
    obtain ⟨e1, e2⟩ := word_eq (h1 w (by simp)) (h2 w' (by simp)) (tail_form sep ws) (tail_form sep ws') h
    rw [e1, tail_eq (fun x hx => h1 x (by simp [hx])) (fun x hx => h2 x (by simp [hx])) e2]
theorem join_eq {sep : UInt8} {ws ws' : List (List UInt8)} (h1 : ∀ w ∈ ws, sep ∉ w) (h2 : ∀ w ∈ ws', sep ∉ w) (hn : ws ≠ []) (hn' : ws' ≠ []) (h : Lib.join ws [sep] = Lib.join ws' [sep]) : ws = ws' := by
  cases ws with
  | nil => exact absurd rfl hn
  | cons w ws =>
    cases ws' with
    | nil => exact absurd rfl hn'
    | cons w' ws' =>
      rw [Lib.join_cons, Lib.join_cons] at h
      obtain ⟨e1, e2⟩ := word_eq (h1 w (by simp)) (h2 w' (by simp)) (tail_form sep ws) (tail_form sep ws') h
      rw [e1, tail_eq (fun x hx => h1 x (by simp [hx])) (fun x hx => h2 x (by simp [hx])) e2]

/-! ### numbers -/
def isDig (b : UInt8) : Bool := decide (48 ≤ b.toNat) && decide (b.toNat ≤ 57)
def digVal (l : List UInt8) : Nat := l.foldl (fun a b => 10 * a + (b.toNat - 48)) 0
theorem dig_snoc (l : List UInt8) (b : UInt8) : digVal (l ++ [b]) = 10 * digVal l + (b.toNat - 48) := by simp [digVal]
theorem ofNat_dig {n : Nat} (h : n < 10) : (UInt8.ofNat (48 + n)).toNat = 48 + n := by simp; omega
theorem dec_val (u : Nat) : digVal (Lib.decDigits u) = u := by
  induction u using Nat.strongRecOn with
  | ind u ih =>
    by_cases h : u < 10
    · rw [Lib.decDigits, dif_pos h]
      have := ofNat_dig h
      simp only [digVal, List.foldl_cons, List.foldl_nil, this]
      omega
    · rw [Lib.decDigits, dif_neg h, dig_snoc, ih (u / 10) (by omega), ofNat_dig (by omega)]
      omega
theorem dec_dig (u : Nat) : ∀ b ∈ Lib.decDigits u, isDig b = true := by
  induction u using Nat.strongRecOn with
  | ind u ih =>
    intro b hb
    by_cases h : u < 10
    · rw [Lib.decDigits, dif_pos h] at hb
      rw [List.mem_singleton.1 hb]
      unfold isDig
      rw [ofNat_dig h]
      simp
      omega
    · rw [Lib.decDigits, dif_neg h] at hb
      rcases List.mem_append.1 hb with hb | hb
      · exact ih (u / 10) (by omega) b hb
      · rw [List.mem_singleton.1 hb]
        unfold isDig
        rw [ofNat_dig (by omega)]
        simp
        omega
theorem dec_inj {u v : Nat} (h : Lib.decDigits u = Lib.decDigits v) : u = v := by
  have := congrArg digVal h
  rwa [dec_val, dec_val] at this
theorem itoa_nat {n : Int} (h : 0 ≤ n) : Lib.itoa n = Lib.decDigits n.toNat := by
  unfold Lib.itoa
  rw [if_neg (by omega)]
theorem not_dig {b : UInt8} {l : List UInt8} (hl : ∀ x ∈ l, isDig x = true) (hb : isDig b = false) : b ∉ l := fun h => by
  have := hl b h
  rw [hb] at this
  cases this

end Go.Proofs.YtlchipjckgaclaaDoor
