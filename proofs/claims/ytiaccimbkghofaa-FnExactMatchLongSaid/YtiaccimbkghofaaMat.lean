/- What texts a tree is like: the plain functions, and what holds of them. No program in sight. -/
import Derived.Test.YtiaccimbkghofaaRex
namespace Go.Proofs.Ytiaccimbkghofaa
set_option linter.unusedSimpArgs false
set_option linter.unusedVariables false

abbrev Txt := List UInt8
/-- one behind the other: tried from place k on, m places -/
def catGo (f g : Txt → Bool) (t : Txt) : Nat → Nat → Bool
  | 0, _ => false
  | m + 1, k => (f (t.take k) && g (t.drop k)) || catGo f g t m (k + 1)
def catB (f g : Txt → Bool) (t : Txt) : Bool := catGo f g t (t.length + 1) 0
/-- any number: the first piece has i + 1 bytes -/
def starF (f : Txt → Bool) : Nat → Txt → Bool
  | 0, t => t.isEmpty
  | n + 1, t => t.isEmpty || (List.range t.length).any fun i => f (t.take (i + 1)) && starF f n (t.drop (i + 1))
def starB (f : Txt → Bool) (t : Txt) : Bool := starF f t.length t
def oneB (s : List Sp) (t : Txt) : Bool := match t with
  | [c] => setHas s (c.toNat : Int)
  | _ => false
mutual
def lang : Rex → Txt → Bool
  | .mk k s ks => fun t =>
    if k = 1 then oneB s t
    else if k = 2 then t.isEmpty
    else if k = 3 then catB (langAt ks 0) (langAt ks 1) t
    else if k = 4 then langAt ks 0 t || langAt ks 1 t
    else if k = 5 then starB (langAt ks 0) t
    else if k = 6 then langAt ks 0 t && langAt ks 1 t
    else !langAt ks 0 t
def langAt : List Rex → Nat → Txt → Bool
  | [], _ => fun _ => false
  | r :: _, 0 => lang r
  | _ :: rs, n + 1 => langAt rs n
end
theorem lang1 (s : List Sp) (ks : List Rex) (t : Txt) : lang (.mk 1 s ks) t = oneB s t := by rw [lang]; rfl
theorem lang2 (s : List Sp) (ks : List Rex) (t : Txt) : lang (.mk 2 s ks) t = t.isEmpty := by rw [lang]; rfl
theorem lang3 (s : List Sp) (a b : Rex) (t : Txt) : lang (.mk 3 s [a, b]) t = catB (lang a) (lang b) t := by rw [lang]; simp [langAt]
theorem lang4 (s : List Sp) (a b : Rex) (t : Txt) : lang (.mk 4 s [a, b]) t = (lang a t || lang b t) := by rw [lang]; simp [langAt]
theorem lang5 (s : List Sp) (a : Rex) (t : Txt) : lang (.mk 5 s [a]) t = starB (lang a) t := by rw [lang]; simp [langAt]
theorem lang6 (s : List Sp) (a b : Rex) (t : Txt) : lang (.mk 6 s [a, b]) t = (lang a t && lang b t) := by rw [lang]; simp [langAt]
theorem lang7 (s : List Sp) (a : Rex) (t : Txt) : lang (.mk 7 s [a]) t = !lang a t := by rw [lang]; simp [langAt]

theorem take_ne {t : Txt} {i : Nat} (h : i < t.length) : t.take (i + 1) ≠ [] := by
  intro e
  have := congrArg List.length e
  rw [List.length_take, List.length_nil] at this
  omega
theorem drop_ne {t : Txt} {i : Nat} (h : i < t.length) : t.drop i ≠ [] := by
  intro e
  have := congrArg List.length e
  rw [List.length_drop, List.length_nil] at this
  omega
/-- any number of pieces, none of them empty -/
inductive Star (f : Txt → Bool) : Txt → Prop
  | nil : Star f []
  | cons (a b : Txt) (ha : a ≠ []) (hf : f a = true) (hb : Star f b) : Star f (a ++ b)
theorem starF_iff (f : Txt → Bool) : ∀ n t, t.length ≤ n → (starF f n t = true ↔ Star f t) := by
  intro n
  induction n with
  | zero =>
    intro t ht
    obtain rfl : t = [] := List.length_eq_zero_iff.1 (by omega)
    exact ⟨fun _ => .nil, fun _ => rfl⟩
  | succ n ih =>
    intro t ht
    rw [starF, Bool.or_eq_true, List.any_eq_true]
    constructor
    · rintro (h | ⟨i, hi, h⟩)
      · rw [List.isEmpty_iff.1 h]; exact .nil
      · rw [Bool.and_eq_true] at h
        have hi' : i < t.length := by simpa using hi
        have := Star.cons (f := f) (t.take (i + 1)) (t.drop (i + 1)) (take_ne hi') h.1 ((ih _ (by rw [List.length_drop]; omega)).1 h.2)
        rwa [List.take_append_drop] at this
    · intro h
      cases h with
      | nil => left; rfl
      | cons a b ha hf hb =>
        right
        have hl : 0 < a.length := List.length_pos_iff.2 ha
        refine ⟨a.length - 1, by simp; omega, ?_⟩
        rw [show a.length - 1 + 1 = a.length by omega, List.take_left, List.drop_left, hf, Bool.true_and]
        exact (ih _ (by rw [List.length_append] at ht; omega)).2 hb
theorem starB_iff (f : Txt → Bool) (t : Txt) : starB f t = true ↔ Star f t := starF_iff f _ t (Nat.le_refl _)
theorem Star.snoc {f : Txt → Bool} {a : Txt} (h : Star f a) {b : Txt} (hb : b ≠ []) (hf : f b = true) : Star f (a ++ b) := by
  induction h with
  | nil => have := Star.cons b [] hb hf .nil; simpa using this
  | cons c d hc hcf _ ih => rw [List.append_assoc]; exact .cons c _ hc hcf ih
theorem Star.last {f : Txt → Bool} {t : Txt} (h : Star f t) : t = [] ∨ ∃ a b, t = a ++ b ∧ b ≠ [] ∧ Star f a ∧ f b = true := by
  induction h with
  | nil => exact .inl rfl
  | cons c d hc hcf hd ih =>
    right
    rcases ih with rfl | ⟨a, b, rfl, hb, ha, hf⟩
    · exact ⟨[], c, by simp, hc, .nil, hcf⟩
    · exact ⟨c ++ a, b, by simp, hb, .cons c a hc hcf ha, hf⟩
/-- from the first piece -/
theorem starB_first (f : Txt → Bool) (t : Txt) : starB f t = (t.isEmpty || (List.range t.length).any fun i => f (t.take (i + 1)) && starB f (t.drop (i + 1))) := by
  rw [Bool.eq_iff_iff, starB_iff, Bool.or_eq_true, List.any_eq_true]
  constructor
  · intro h
    cases h with
    | nil => left; rfl
    | cons a b ha hf hb =>
      right
      have hl : 0 < a.length := List.length_pos_iff.2 ha
      refine ⟨a.length - 1, by simp; omega, ?_⟩
      rw [show a.length - 1 + 1 = a.length by omega, List.take_left, List.drop_left, hf, Bool.true_and]
      exact (starB_iff _ _).2 hb
  · rintro (h | ⟨i, hi, h⟩)
    · rw [List.isEmpty_iff.1 h]; exact .nil
    · rw [Bool.and_eq_true] at h
      have hi' : i < t.length := by simpa using hi
      have := Star.cons (f := f) (t.take (i + 1)) (t.drop (i + 1)) (take_ne hi') h.1 ((starB_iff _ _).1 h.2)
      rwa [List.take_append_drop] at this
/-- from the last piece -/
theorem starB_last (f : Txt → Bool) (t : Txt) : starB f t = (t.isEmpty || (List.range t.length).any fun i => starB f (t.take i) && f (t.drop i)) := by
  rw [Bool.eq_iff_iff, starB_iff, Bool.or_eq_true, List.any_eq_true]
  constructor
  · intro h
    rcases h.last with rfl | ⟨a, b, rfl, hb, ha, hf⟩
    · left; rfl
    · right
      have hl : 0 < b.length := List.length_pos_iff.2 hb
      refine ⟨a.length, by simp; omega, ?_⟩
      rw [List.take_left, List.drop_left, hf, Bool.and_true]
      exact (starB_iff _ _).2 ha
  · rintro (h | ⟨i, hi, h⟩)
    · rw [List.isEmpty_iff.1 h]; exact .nil
    · rw [Bool.and_eq_true] at h
      have hi' : i < t.length := by simpa using hi
      have := ((starB_iff _ _).1 h.1).snoc (b := t.drop i) (drop_ne hi') h.2
      rwa [List.take_append_drop] at this
/-- a bounded any, step by step -/
theorem any_range_succ (p : Nat → Bool) (n : Nat) : (List.range (n + 1)).any p = ((List.range n).any p || p n) := by rw [List.range_succ, List.any_append]; simp

end Go.Proofs.Ytiaccimbkghofaa
