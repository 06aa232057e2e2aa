/- Sets of bytes as lists of spans: the plain functions, and what holds of them. No program in sight. -/
namespace Go.Proofs.YtlchipjckgaclaaDoor
set_option linter.unusedSimpArgs false
set_option linter.unusedVariables false
set_option maxRecDepth 100000

structure Sp where
  lo : Int
  hi : Int
  deriving DecidableEq

instance : Inhabited Sp := ⟨⟨0, 0⟩⟩

def spBad (p : Option Int) (x : Sp) : Bool :=
  decide (x.lo < 0) || decide (x.hi < x.lo) || decide (255 < x.hi) || (match p with | none => false | some h => decide (x.lo ≤ h + 1))
def setOkGo : Option Int → List Sp → Bool
  | _, [] => true
  | p, x :: xs => !spBad p x && setOkGo (some x.hi) xs
def setOk (xs : List Sp) : Bool := setOkGo none xs

def spIn (x : Sp) (b : Int) : Bool := decide (x.lo ≤ b) && decide (b ≤ x.hi)
def setHas (xs : List Sp) (b : Int) : Bool := xs.any fun x => spIn x b

/-- the last span goes on to n -/
def spExt (out : List Sp) (n : Int) : List Sp := out.modify (out.length - 1) fun x => ⟨x.lo, n⟩
def spansTo (f : Nat → Bool) : Nat → List Sp
  | 0 => []
  | n + 1 => if f n then (if 0 < n ∧ f (n - 1) = true then spExt (spansTo f n) n else spansTo f n ++ [⟨n, n⟩]) else spansTo f n
def spansOf (f : Nat → Bool) : List Sp := spansTo f 256

def setJoin (a b : List Sp) : List Sp := if setOk a && setOk b then spansOf (fun i => setHas a i || setHas b i) else []
def setMeet (a b : List Sp) : List Sp := if setOk a && setOk b then spansOf (fun i => setHas a i && setHas b i) else []
def setNot (a : List Sp) : List Sp := if setOk a then spansOf (fun i => !setHas a i) else []
/-- how many of the first n -/
def cnt (f : Nat → Bool) : Nat → Nat
  | 0 => 0
  | n + 1 => cnt f n + if f n then 1 else 0
def setSize (s : List Sp) : Int := cnt (fun i => setHas s i) 256
/-- the first from i on, with d to look at -/
def firstGo (f : Nat → Bool) : Nat → Nat → Int
  | 0, _ => -1
  | d + 1, i => if f i then (i : Int) else firstGo f d (i + 1)
def setFirst (s : List Sp) : Int := firstGo (fun i => setHas s i) 256 0

theorem setHas_nil (b : Int) : setHas [] b = false := rfl
theorem setHas_cons (x : Sp) (xs : List Sp) (b : Int) : setHas (x :: xs) b = (spIn x b || setHas xs b) := rfl
theorem setHas_append (xs ys : List Sp) (b : Int) : setHas (xs ++ ys) b = (setHas xs b || setHas ys b) := by simp [setHas]

theorem spIn_iff (x : Sp) (b : Int) : spIn x b = true ↔ x.lo ≤ b ∧ b ≤ x.hi := by simp [spIn]

theorem spExt_snoc (xs : List Sp) (x : Sp) (n : Int) : spExt (xs ++ [x]) n = xs ++ [⟨x.lo, n⟩] := by
  unfold spExt
  rw [List.length_append, List.length_singleton, Nat.add_sub_cancel]
  induction xs with
  | nil => rfl
  | cons y ys ih => simpa using ih

/-- what the spans of the first n are: all is within, the last ends at n - 1 just if f (n - 1) -/
structure Upto (f : Nat → Bool) (n : Nat) (out : List Sp) : Prop where
  has : ∀ b : Int, setHas out b = true ↔ ∃ k : Nat, k < n ∧ f k = true ∧ b = k
  last : 0 < n → f (n - 1) = true → ∃ xs x, out = xs ++ [x] ∧ x.hi = (n : Int) - 1
  ok : setOk out = true

theorem setOkGo_append (xs ys : List Sp) : ∀ p, setOkGo p (xs ++ ys) = (setOkGo p xs && setOkGo (match xs.getLast? with | some x => some x.hi | none => p) ys) := by
  induction xs with
  | nil => intro p; simp [setOkGo]
  | cons x xs ih =>
    intro p
    simp only [List.cons_append, setOkGo, ih, Bool.and_assoc]
    congr 2
    cases xs with
    | nil => simp
    | cons y ys =>
      have h : (y :: ys).getLast? = some ((y :: ys).getLast (by simp)) := List.getLast?_eq_some_getLast _
      simp [List.getLast?_cons_cons, h]

theorem setOk_snoc (xs : List Sp) (x : Sp) : setOk (xs ++ [x]) = (setOk xs && !spBad (xs.getLast?.map (·.hi)) x) := by
  unfold setOk
  rw [setOkGo_append]
  cases h : xs.getLast? <;> simp [setOkGo]

theorem spBad_false (p : Option Int) (x : Sp) : spBad p x = false ↔ 0 ≤ x.lo ∧ x.lo ≤ x.hi ∧ x.hi ≤ 255 ∧ ∀ h, p = some h → h + 1 < x.lo := by
  unfold spBad
  cases p with
  | none => simp; omega
  | some h => simp; omega

theorem setOk_last {xs : List Sp} (h : setOk xs = true) {x : Sp} (hx : xs.getLast? = some x) : 0 ≤ x.lo ∧ x.lo ≤ x.hi ∧ x.hi ≤ 255 := by
  obtain ⟨ys, rfl⟩ := List.getLast?_eq_some_iff.1 hx
  rw [setOk_snoc] at h
  simp only [Bool.and_eq_true, Bool.not_eq_true'] at h
  have := (spBad_false _ _).1 h.2
  omega

theorem upto_spans (f : Nat → Bool) : ∀ n, n ≤ 256 → Upto f n (spansTo f n) := by
  intro n
  induction n with
  | zero => intro _; exact ⟨fun b => by simp [spansTo, setHas], fun h => absurd h (by omega), rfl⟩
  | succ n ih =>
    intro hn
    have h := ih (by omega)
    by_cases hf : f n = true
    · by_cases hp : 0 < n ∧ f (n - 1) = true
      · obtain ⟨xs, x, hxs, hx⟩ := h.last hp.1 hp.2
        have e : spansTo f (n + 1) = xs ++ [⟨x.lo, n⟩] := by
          simp only [spansTo, hf, if_true, hp, and_self]
          rw [hxs, spExt_snoc]
        have hok := h.ok
        rw [hxs, setOk_snoc] at hok
        simp only [Bool.and_eq_true, Bool.not_eq_true'] at hok
        have hb := (spBad_false _ _).1 hok.2
        rw [e]
        refine ⟨fun b => ?_, fun _ _ => ⟨xs, ⟨x.lo, n⟩, rfl, by simp⟩, ?_⟩
        · have hb0 := h.has b
          rw [hxs, setHas_append] at hb0
          rw [setHas_append]
          simp only [setHas_cons, setHas_nil, Bool.or_false, Bool.or_eq_true, spIn_iff] at hb0 ⊢
          constructor
          · rintro (h1 | h1)
            · obtain ⟨k, hk, hfk, rfl⟩ := hb0.1 (.inl h1)
              exact ⟨k, by omega, hfk, rfl⟩
            · by_cases hbn : b = n
              · exact ⟨n, by omega, hf, hbn⟩
              · obtain ⟨k, hk, hfk, rfl⟩ := hb0.1 (.inr (by omega))
                exact ⟨k, by omega, hfk, rfl⟩
          · rintro ⟨k, hk, hfk, rfl⟩
            by_cases hkn : k = n
            · right; subst hkn; simp; omega
            · rcases hb0.2 ⟨k, by omega, hfk, rfl⟩ with h1 | h1
              · exact .inl h1
              · right; simp; omega
        · rw [setOk_snoc, hok.1]
          simp only [Bool.true_and, Bool.not_eq_true']
          rw [spBad_false]
          refine ⟨hb.1, ?_, ?_, hb.2.2.2⟩
          · show x.lo ≤ (n : Int); omega
          · show (n : Int) ≤ 255; omega
      · have e : spansTo f (n + 1) = spansTo f n ++ [⟨n, n⟩] := by
          simp only [spansTo, hf, if_true, hp, if_false]
        rw [e]
        refine ⟨fun b => ?_, fun _ _ => ⟨_, ⟨n, n⟩, rfl, by simp⟩, ?_⟩
        · have hb0 := h.has b
          rw [setHas_append]
          simp only [setHas_cons, setHas_nil, Bool.or_false, Bool.or_eq_true, spIn_iff]
          constructor
          · rintro (h1 | h1)
            · obtain ⟨k, hk, hfk, rfl⟩ := hb0.1 h1
              exact ⟨k, by omega, hfk, rfl⟩
            · exact ⟨n, by omega, hf, by omega⟩
          · rintro ⟨k, hk, hfk, rfl⟩
            by_cases hkn : k = n
            · right; subst hkn; simp
            · exact .inl (hb0.2 ⟨k, by omega, hfk, rfl⟩)
        · rw [setOk_snoc, h.ok]
          simp only [Bool.true_and, Bool.not_eq_true']
          rw [spBad_false]
          refine ⟨by show (0 : Int) ≤ n; omega, by show (n : Int) ≤ n; omega, by show (n : Int) ≤ 255; omega, ?_⟩
          intro hh hhe
          cases hl : (spansTo f n).getLast? with
          | none => rw [hl] at hhe; cases hhe
          | some x =>
            rw [hl] at hhe
            simp only [Option.map_some, Option.some.injEq] at hhe
            subst hhe
            show x.hi + 1 < (n : Int)
            obtain ⟨ys, hys⟩ := List.getLast?_eq_some_iff.1 hl
            have hb := setOk_last h.ok hl
            have hin : setHas (spansTo f n) x.hi = true := by
              rw [hys, setHas_append]
              simp [setHas_cons, spIn]
              right; omega
            obtain ⟨k, hk, hfk, hke⟩ := (h.has _).1 hin
            have hkn : k ≠ n - 1 := by
              rintro rfl
              exact hp ⟨by omega, hfk⟩
            omega
    · have e : spansTo f (n + 1) = spansTo f n := by simp only [spansTo, hf]; simp
      rw [e]
      refine ⟨fun b => ?_, fun _ h2 => absurd h2 (by simpa using hf), h.ok⟩
      rw [h.has b]
      constructor
      · rintro ⟨k, hk, hfk, rfl⟩; exact ⟨k, by omega, hfk, rfl⟩
      · rintro ⟨k, hk, hfk, rfl⟩
        by_cases hkn : k = n
        · subst hkn; exact absurd hfk hf
        · exact ⟨k, by omega, hfk, rfl⟩

theorem setOk_spans (f : Nat → Bool) : setOk (spansOf f) = true := (upto_spans f 256 (by omega)).ok
theorem setHas_spans (f : Nat → Bool) (b : Int) : setHas (spansOf f) b = true ↔ ∃ k : Nat, k < 256 ∧ f k = true ∧ b = k := (upto_spans f 256 (by omega)).has b
theorem setHas_spans_nat (f : Nat → Bool) (k : Nat) (hk : k < 256) : setHas (spansOf f) k = f k := by
  rw [Bool.eq_iff_iff, setHas_spans]
  constructor
  · rintro ⟨j, _, hf, he⟩
    have : j = k := by omega
    rw [← this]; exact hf
  · intro h; exact ⟨k, hk, h, rfl⟩
theorem setHas_spans_out (f : Nat → Bool) (b : Int) (hb : b < 0 ∨ 255 < b) : setHas (spansOf f) b = false := by
  rw [Bool.eq_false_iff]
  intro h
  obtain ⟨k, hk, _, rfl⟩ := (setHas_spans f b).1 h
  omega

theorem spansTo_congr {f g : Nat → Bool} : ∀ n, (∀ k, k < n → f k = g k) → spansTo f n = spansTo g n := by
  intro n
  induction n with
  | zero => intro _; rfl
  | succ n ih =>
    intro h
    have e := ih (fun k hk => h k (by omega))
    have e0 := h n (by omega)
    simp only [spansTo, e0, e]
    by_cases hn : 0 < n
    · rw [h (n - 1) (by omega)]
    · simp [hn]
theorem spansOf_congr {f g : Nat → Bool} (h : ∀ k, k < 256 → f k = g k) : spansOf f = spansOf g := spansTo_congr 256 h

theorem spansTo_length (f : Nat → Bool) : ∀ n, (spansTo f n).length ≤ n := by
  intro n
  induction n with
  | zero => simp [spansTo]
  | succ n ih =>
    simp only [spansTo]
    split
    · split
      · rw [spExt, List.length_modify]; omega
      · rw [List.length_append, List.length_singleton]; omega
    · omega
theorem spansTo_no {f : Nat → Bool} {n : Nat} (h : f n = false) : spansTo f (n + 1) = spansTo f n := by simp [spansTo, h]
theorem spansTo_new {f : Nat → Bool} {n : Nat} (h : f n = true) (h' : n = 0 ∨ f (n - 1) = false) : spansTo f (n + 1) = spansTo f n ++ [⟨n, n⟩] := by
  have : ¬ (0 < n ∧ f (n - 1) = true) := by
    rintro ⟨h1, h2⟩
    rcases h' with h' | h'
    · omega
    · rw [h'] at h2; cases h2
  simp only [spansTo, h, if_true, this, if_false]
theorem spansTo_ext {f : Nat → Bool} {n : Nat} (h : f n = true) (h1 : 0 < n) (h2 : f (n - 1) = true) (hn : n ≤ 256) :
    ∃ x, (spansTo f n)[(spansTo f n).length - 1]? = some x ∧ 0 < (spansTo f n).length ∧ x.hi = (n : Int) - 1 ∧ spansTo f (n + 1) = (spansTo f n).set ((spansTo f n).length - 1) ⟨x.lo, n⟩ := by
  obtain ⟨xs, x, e, hx⟩ := (upto_spans f n hn).last h1 h2
  refine ⟨x, by rw [e]; simp, by rw [e]; simp, hx, ?_⟩
  simp only [spansTo, h, if_true, h1, h2, and_self]
  rw [e, spExt_snoc]
  simp
/-! ### each set is written in one way -/
theorem okGo_lo {p : Option Int} {xs : List Sp} (h : setOkGo p xs = true) : ∀ b, setHas xs b = true → 0 ≤ b ∧ b ≤ 255 ∧ ∀ q, p = some q → q + 1 < b := by
  induction xs generalizing p with
  | nil => intro b hb; simp [setHas] at hb
  | cons x xs ih =>
    intro b hb
    simp only [setOkGo, Bool.and_eq_true, Bool.not_eq_true'] at h
    have h1 := (spBad_false _ _).1 h.1
    rw [setHas_cons, Bool.or_eq_true, spIn_iff] at hb
    rcases hb with hb | hb
    · refine ⟨by omega, by omega, fun q hq => ?_⟩
      have := h1.2.2.2 q hq
      omega
    · have h2 := ih h.2 b hb
      have h3 := h2.2.2 x.hi rfl
      refine ⟨h2.1, h2.2.1, fun q hq => ?_⟩
      have := h1.2.2.2 q hq
      omega
theorem setOk_range {xs : List Sp} (h : setOk xs = true) {b : Int} (hb : setHas xs b = true) : 0 ≤ b ∧ b ≤ 255 :=
  let r := okGo_lo (p := none) h b hb
  ⟨r.1, r.2.1⟩

theorem okGo_ext {xs ys : List Sp} : ∀ {p q : Option Int}, setOkGo p xs = true → setOkGo q ys = true → (∀ b, setHas xs b = setHas ys b) → xs = ys := by
  induction xs generalizing ys with
  | nil =>
    intro p q _ hy h
    cases ys with
    | nil => rfl
    | cons y ys =>
      simp only [setOkGo, Bool.and_eq_true, Bool.not_eq_true'] at hy
      have h1 := (spBad_false _ _).1 hy.1
      have := h y.lo
      rw [setHas_cons, setHas_nil] at this
      have h2 : spIn y y.lo = true := (spIn_iff _ _).2 ⟨by omega, by omega⟩
      rw [h2] at this
      cases this
  | cons x xs ih =>
    intro p q hx hy h
    cases ys with
    | nil =>
      simp only [setOkGo, Bool.and_eq_true, Bool.not_eq_true'] at hx
      have h1 := (spBad_false _ _).1 hx.1
      have := h x.lo
      rw [setHas_cons, setHas_nil] at this
      have h2 : spIn x x.lo = true := (spIn_iff _ _).2 ⟨by omega, by omega⟩
      rw [h2] at this
      cases this
    | cons y ys =>
      simp only [setOkGo, Bool.and_eq_true, Bool.not_eq_true'] at hx hy
      have bx := (spBad_false _ _).1 hx.1
      have bY := (spBad_false _ _).1 hy.1
      have lx := okGo_lo hx.2
      have ly := okGo_lo hy.2
      have inx : ∀ b, setHas (x :: xs) b = true ↔ (x.lo ≤ b ∧ b ≤ x.hi) ∨ setHas xs b = true := fun b => by rw [setHas_cons, Bool.or_eq_true, spIn_iff]
      have iny : ∀ b, setHas (y :: ys) b = true ↔ (y.lo ≤ b ∧ b ≤ y.hi) ∨ setHas ys b = true := fun b => by rw [setHas_cons, Bool.or_eq_true, spIn_iff]
      have hh : ∀ b, ((x.lo ≤ b ∧ b ≤ x.hi) ∨ setHas xs b = true) ↔ ((y.lo ≤ b ∧ b ≤ y.hi) ∨ setHas ys b = true) := fun b => by rw [← inx, ← iny, h b]
      have hxs : ∀ b, setHas xs b = true → x.hi + 1 < b := fun b hb => (lx b hb).2.2 _ rfl
      have hys : ∀ b, setHas ys b = true → y.hi + 1 < b := fun b hb => (ly b hb).2.2 _ rfl
      have e1 : x.lo = y.lo := by
        have h1 := (hh x.lo).1 (.inl ⟨by omega, by omega⟩)
        have h2 := (hh y.lo).2 (.inl ⟨by omega, by omega⟩)
        have h3 : y.lo ≤ x.lo := by
          rcases h1 with h1 | h1
          · omega
          · have := hys _ h1; omega
        have h4 : x.lo ≤ y.lo := by
          rcases h2 with h2 | h2
          · omega
          · have := hxs _ h2; omega
        omega
      have e2 : x.hi = y.hi := by
        have h1 := (hh x.hi).1 (.inl ⟨by omega, by omega⟩)
        have h2 := (hh y.hi).2 (.inl ⟨by omega, by omega⟩)
        have h5 : ¬ (x.hi < y.hi) := by
          intro hlt
          rcases (hh (x.hi + 1)).2 (.inl ⟨by omega, by omega⟩) with h6 | h6
          · omega
          · have := hxs _ h6; omega
        have h7 : ¬ (y.hi < x.hi) := by
          intro hlt
          rcases (hh (y.hi + 1)).1 (.inl ⟨by omega, by omega⟩) with h6 | h6
          · omega
          · have := hys _ h6; omega
        omega
      have e : x = y := by
        cases x; cases y; simp at e1 e2; rw [e1, e2]
      subst e
      congr 1
      refine ih hx.2 hy.2 (fun b => ?_)
      rw [Bool.eq_iff_iff]
      have := hh b
      constructor
      · intro hb
        rcases this.1 (.inr hb) with h8 | h8
        · have := hxs _ hb; omega
        · exact h8
      · intro hb
        rcases this.2 (.inr hb) with h8 | h8
        · have := hys _ hb; omega
        · exact h8
theorem setOk_ext {xs ys : List Sp} (hx : setOk xs = true) (hy : setOk ys = true) (h : ∀ b, setHas xs b = setHas ys b) : xs = ys := okGo_ext hx hy h
theorem setOk_ext_nat {xs ys : List Sp} (hx : setOk xs = true) (hy : setOk ys = true) (h : ∀ k : Nat, k < 256 → setHas xs k = setHas ys k) : xs = ys := by
  refine setOk_ext hx hy (fun b => ?_)
  by_cases hb : 0 ≤ b ∧ b ≤ 255
  · obtain ⟨k, rfl⟩ : ∃ k : Nat, b = k := ⟨b.toNat, by omega⟩
    exact h k (by omega)
  · have h1 : setHas xs b = false := Bool.eq_false_iff.2 fun hc => hb (setOk_range hx hc)
    have h2 : setHas ys b = false := Bool.eq_false_iff.2 fun hc => hb (setOk_range hy hc)
    rw [h1, h2]
theorem spans_self {s : List Sp} (h : setOk s = true) : spansOf (fun i => setHas s i) = s :=
  setOk_ext_nat (setOk_spans _) h fun k hk => setHas_spans_nat _ k hk

/-! ### what the laws write over a set -/
def markSps : Int → List Sp → List Sp
  | _, [] => []
  | k, _ :: xs => ⟨k, k + 1⟩ :: markSps (k + 2) xs
theorem markSps_length (xs : List Sp) : ∀ k, (markSps k xs).length = xs.length := by
  induction xs with
  | nil => intro k; rfl
  | cons x xs ih => intro k; simp [markSps, ih]
theorem markSps_get (xs : List Sp) : ∀ k j, j < xs.length → (markSps k xs)[j]? = some ⟨k + 2 * j, k + 2 * j + 1⟩ := by
  induction xs with
  | nil => intro k j h; simp at h
  | cons x xs ih =>
    intro k j h
    cases j with
    | zero => simp [markSps]
    | succ j =>
      rw [markSps, List.getElem?_cons_succ, ih _ _ (by simpa using h)]
      simp only [Option.some.injEq, Sp.mk.injEq]
      omega
theorem markSps_set (xs : List Sp) (k : Int) (j : Nat) (h : j < xs.length) :
    ((markSps k xs).take j ++ xs.drop j).set j ⟨k + 2 * j, k + 2 * j + 1⟩ = (markSps k xs).take (j + 1) ++ xs.drop (j + 1) := by
  have hl : ((markSps k xs).take j).length = j := by rw [List.length_take, markSps_length]; omega
  rw [List.set_append, if_neg (by omega), hl, Nat.sub_self, List.drop_eq_getElem_cons h, List.set_cons_zero, List.take_add_one, markSps_get _ _ _ h]
  simp

end Go.Proofs.YtlchipjckgaclaaDoor
