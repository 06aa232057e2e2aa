/- Texts joined for the claims: Sets Rex Lib Tree W1 W2. -/
import Derived.Test.YtfeidjjabjejiaaGreatDoorProg
import Derived.Below
import Derived.Deep.Draws
import Derived.Deep.AppendLies
import Derived.OwnWalk
import Derived.Laws.MakeOwn
import Derived.Laws.OwnMore
import Derived.Deep.OwnRows
import Derived.Tactics
import Derived.Laws.Slices
import Derived.WalkKit
import Derived.KernelRfl
import Derived.RowKit3
import Derived.Deep.LoopGhost
import Derived.Deep.QuietTactic
import Derived.BigQuiet
import Derived.WideLaws
import Derived.Deep.DeepCutAuto
import Derived.Deep.CutBlock
import Derived.Deep.RegionHeld3
import Derived.Laws.Rows
import Derived.Lib.Hide
import Derived.StillTailTactics
/- Sets of bytes as lists of spans: the plain functions, and what holds of them. No program in sight. -/
namespace Go.Proofs.YtfeidjjabjejiaaGreatDoor
set_option linter.unusedSimpArgs false
set_option linter.unusedVariables false
set_option maxRecDepth 100000

structure Sp where
  lo : Int
  hi : Int
  deriving DecidableEq

instance : Inhabited Sp := ⟨⟨0, 0⟩⟩

def spBad (p : Option Int) (x : Sp) : Bool :=
  decide (x.lo < 0) || decide (x.hi < x.lo) || decide (255 < x.hi) || (match p with | none => false | some h => decide (x.lo ≤ h + 1))
def setOkGo : Option Int → List Sp → Bool
  | _, [] => true
  | p, x :: xs => !spBad p x && setOkGo (some x.hi) xs
def setOk (xs : List Sp) : Bool := setOkGo none xs

def spIn (x : Sp) (b : Int) : Bool := decide (x.lo ≤ b) && decide (b ≤ x.hi)
def setHas (xs : List Sp) (b : Int) : Bool := xs.any fun x => spIn x b

/-- the last span goes on to n -/
def spExt (out : List Sp) (n : Int) : List Sp := out.modify (out.length - 1) fun x => ⟨x.lo, n⟩
def spansTo (f : Nat → Bool) : Nat → List Sp
  | 0 => []
  | n + 1 => if f n then (if 0 < n ∧ f (n - 1) = true then spExt (spansTo f n) n else spansTo f n ++ [⟨n, n⟩]) else spansTo f n
def spansOf (f : Nat → Bool) : List Sp := spansTo f 256

def setJoin (a b : List Sp) : List Sp := if setOk a && setOk b then spansOf (fun i => setHas a i || setHas b i) else []
def setMeet (a b : List Sp) : List Sp := if setOk a && setOk b then spansOf (fun i => setHas a i && setHas b i) else []
def setNot (a : List Sp) : List Sp := if setOk a then spansOf (fun i => !setHas a i) else []
/-- how many of the first n -/
def cnt (f : Nat → Bool) : Nat → Nat
  | 0 => 0
  | n + 1 => cnt f n + if f n then 1 else 0
def setSize (s : List Sp) : Int := cnt (fun i => setHas s i) 256
/-- the first from i on, with d to look at -/
def firstGo (f : Nat → Bool) : Nat → Nat → Int
  | 0, _ => -1
  | d + 1, i => if f i then (i : Int) else firstGo f d (i + 1)
def setFirst (s : List Sp) : Int := firstGo (fun i => setHas s i) 256 0

theorem setHas_nil (b : Int) : setHas [] b = false := rfl
theorem setHas_cons (x : Sp) (xs : List Sp) (b : Int) : setHas (x :: xs) b = (spIn x b || setHas xs b) := rfl
theorem setHas_append (xs ys : List Sp) (b : Int) : setHas (xs ++ ys) b = (setHas xs b || setHas ys b) := by simp [setHas]

theorem spIn_iff (x : Sp) (b : Int) : spIn x b = true ↔ x.lo ≤ b ∧ b ≤ x.hi := by simp [spIn]

theorem spExt_snoc (xs : List Sp) (x : Sp) (n : Int) : spExt (xs ++ [x]) n = xs ++ [⟨x.lo, n⟩] := by
  unfold spExt
  rw [List.length_append, List.length_singleton, Nat.add_sub_cancel]
  induction xs with
  | nil => rfl
  | cons y ys ih => simpa using ih

/-- what the spans of the first n are: all is within, the last ends at n - 1 just if f (n - 1) -/
structure Upto (f : Nat → Bool) (n : Nat) (out : List Sp) : Prop where
  has : ∀ b : Int, setHas out b = true ↔ ∃ k : Nat, k < n ∧ f k = true ∧ b = k
  last : 0 < n → f (n - 1) = true → ∃ xs x, out = xs ++ [x] ∧ x.hi = (n : Int) - 1
  ok : setOk out = true

theorem setOkGo_append (xs ys : List Sp) : ∀ p, setOkGo p (xs ++ ys) = (setOkGo p xs && setOkGo (match xs.getLast? with | some x => some x.hi | none => p) ys) := by
  induction xs with
  | nil => intro p; simp [setOkGo]
  | cons x xs ih =>
    intro p
    simp only [List.cons_append, setOkGo, ih, Bool.and_assoc]
    congr 2
    cases xs with
    | nil => simp
    | cons y ys =>
      have h : (y :: ys).getLast? = some ((y :: ys).getLast (by simp)) := List.getLast?_eq_some_getLast _
      simp [List.getLast?_cons_cons, h]

theorem setOk_snoc (xs : List Sp) (x : Sp) : setOk (xs ++ [x]) = (setOk xs && !spBad (xs.getLast?.map (·.hi)) x) := by
  unfold setOk
  rw [setOkGo_append]
  cases h : xs.getLast? <;> simp [setOkGo]

theorem spBad_false (p : Option Int) (x : Sp) : spBad p x = false ↔ 0 ≤ x.lo ∧ x.lo ≤ x.hi ∧ x.hi ≤ 255 ∧ ∀ h, p = some h → h + 1 < x.lo := by
  unfold spBad
  cases p with
  | none => simp; omega
  | some h => simp; omega

theorem setOk_last {xs : List Sp} (h : setOk xs = true) {x : Sp} (hx : xs.getLast? = some x) : 0 ≤ x.lo ∧ x.lo ≤ x.hi ∧ x.hi ≤ 255 := by
  obtain ⟨ys, rfl⟩ := List.getLast?_eq_some_iff.1 hx
  rw [setOk_snoc] at h
  simp only [Bool.and_eq_true, Bool.not_eq_true'] at h
  have := (spBad_false _ _).1 h.2
  omega

theorem upto_spans (f : Nat → Bool) : ∀ n, n ≤ 256 → Upto f n (spansTo f n) := by
  intro n
  induction n with
  | zero => intro _; exact ⟨fun b => by simp [spansTo, setHas], fun h => absurd h (by omega), rfl⟩
  | succ n ih =>
    intro hn
    have h := ih (by omega)
    by_cases hf : f n = true
    · by_cases hp : 0 < n ∧ f (n - 1) = true
      · obtain ⟨xs, x, hxs, hx⟩ := h.last hp.1 hp.2
        have e : spansTo f (n + 1) = xs ++ [⟨x.lo, n⟩] := by
          simp only [spansTo, hf, if_true, hp, and_self]
          rw [hxs, spExt_snoc]
        have hok := h.ok
        rw [hxs, setOk_snoc] at hok
        simp only [Bool.and_eq_true, Bool.not_eq_true'] at hok
        have hb := (spBad_false _ _).1 hok.2
        rw [e]
        refine ⟨fun b => ?_, fun _ _ => ⟨xs, ⟨x.lo, n⟩, rfl, by simp⟩, ?_⟩
        · have hb0 := h.has b
          rw [hxs, setHas_append] at hb0
          rw [setHas_append]
          simp only [setHas_cons, setHas_nil, Bool.or_false, Bool.or_eq_true, spIn_iff] at hb0 ⊢
          constructor
          · rintro (h1 | h1)
            · obtain ⟨k, hk, hfk, rfl⟩ := hb0.1 (.inl h1)
              exact ⟨k, by omega, hfk, rfl⟩
            · by_cases hbn : b = n
              · exact ⟨n, by omega, hf, hbn⟩
              · obtain ⟨k, hk, hfk, rfl⟩ := hb0.1 (.inr (by omega))
                exact ⟨k, by omega, hfk, rfl⟩
          · rintro ⟨k, hk, hfk, rfl⟩
            by_cases hkn : k = n
            · right; subst hkn; simp; omega
            · rcases hb0.2 ⟨k, by omega, hfk, rfl⟩ with h1 | h1
              · exact .inl h1
              · right; simp; omega
        · rw [setOk_snoc, hok.1]
          simp only [Bool.true_and, Bool.not_eq_true']
          rw [spBad_false]
          refine ⟨hb.1, ?_, ?_, hb.2.2.2⟩
          · show x.lo ≤ (n : Int); omega
          · show (n : Int) ≤ 255; omega
      · have e : spansTo f (n + 1) = spansTo f n ++ [⟨n, n⟩] := by
          simp only [spansTo, hf, if_true, hp, if_false]
        rw [e]
        refine ⟨fun b => ?_, fun _ _ => ⟨_, ⟨n, n⟩, rfl, by simp⟩, ?_⟩
        · have hb0 := h.has b
          rw [setHas_append]
          simp only [setHas_cons, setHas_nil, Bool.or_false, Bool.or_eq_true, spIn_iff]
          constructor
          · rintro (h1 | h1)
            · obtain ⟨k, hk, hfk, rfl⟩ := hb0.1 h1
              exact ⟨k, by omega, hfk, rfl⟩
            · exact ⟨n, by omega, hf, by omega⟩
          · rintro ⟨k, hk, hfk, rfl⟩
            by_cases hkn : k = n
            · right; subst hkn; simp
            · exact .inl (hb0.2 ⟨k, by omega, hfk, rfl⟩)
        · rw [setOk_snoc, h.ok]
          simp only [Bool.true_and, Bool.not_eq_true']
          rw [spBad_false]
          refine ⟨by show (0 : Int) ≤ n; omega, by show (n : Int) ≤ n; omega, by show (n : Int) ≤ 255; omega, ?_⟩
          intro hh hhe
          cases hl : (spansTo f n).getLast? with
          | none => rw [hl] at hhe; cases hhe
          | some x =>
            rw [hl] at hhe
            simp only [Option.map_some, Option.some.injEq] at hhe
            subst hhe
            show x.hi + 1 < (n : Int)
            obtain ⟨ys, hys⟩ := List.getLast?_eq_some_iff.1 hl
            have hb := setOk_last h.ok hl
            have hin : setHas (spansTo f n) x.hi = true := by
              rw [hys, setHas_append]
              simp [setHas_cons, spIn]
              right; omega
            obtain ⟨k, hk, hfk, hke⟩ := (h.has _).1 hin
            have hkn : k ≠ n - 1 := by
              rintro rfl
              exact hp ⟨by omega, hfk⟩
            omega
    · have e : spansTo f (n + 1) = spansTo f n := by simp only [spansTo, hf]; simp
      rw [e]
      refine ⟨fun b => ?_, fun _ h2 => absurd h2 (by simpa using hf), h.ok⟩
      rw [h.has b]
      constructor
      · rintro ⟨k, hk, hfk, rfl⟩; exact ⟨k, by omega, hfk, rfl⟩
      · rintro ⟨k, hk, hfk, rfl⟩
        by_cases hkn : k = n
        · subst hkn; exact absurd hfk hf
        · exact ⟨k, by omega, hfk, rfl⟩

theorem setOk_spans (f : Nat → Bool) : setOk (spansOf f) = true := (upto_spans f 256 (by omega)).ok
theorem setHas_spans (f : Nat → Bool) (b : Int) : setHas (spansOf f) b = true ↔ ∃ k : Nat, k < 256 ∧ f k = true ∧ b = k := (upto_spans f 256 (by omega)).has b
theorem setHas_spans_nat (f : Nat → Bool) (k : Nat) (hk : k < 256) : setHas (spansOf f) k = f k := by
  rw [Bool.eq_iff_iff, setHas_spans]
  constructor
  · rintro ⟨j, _, hf, he⟩
    have : j = k := by omega
    rw [← this]; exact hf
  · intro h; exact ⟨k, hk, h, rfl⟩
theorem setHas_spans_out (f : Nat → Bool) (b : Int) (hb : b < 0 ∨ 255 < b) : setHas (spansOf f) b = false := by
  rw [Bool.eq_false_iff]
  intro h
  obtain ⟨k, hk, _, rfl⟩ := (setHas_spans f b).1 h
  omega

theorem spansTo_congr {f g : Nat → Bool} : ∀ n, (∀ k, k < n → f k = g k) → spansTo f n = spansTo g n := by
  intro n
  induction n with
  | zero => intro _; rfl
  | succ n ih =>
    intro h
    have e := ih (fun k hk => h k (by omega))
    have e0 := h n (by omega)
    simp only [spansTo, e0, e]
    by_cases hn : 0 < n
    · rw [h (n - 1) (by omega)]
    · simp [hn]
theorem spansOf_congr {f g : Nat → Bool} (h : ∀ k, k < 256 → f k = g k) : spansOf f = spansOf g := spansTo_congr 256 h

theorem spansTo_length (f : Nat → Bool) : ∀ n, (spansTo f n).length ≤ n := by
  intro n
  induction n with
  | zero => simp [spansTo]
  | succ n ih =>
    simp only [spansTo]
    split
    · split
      · rw [spExt, List.length_modify]; omega
      · rw [List.length_append, List.length_singleton]; omega
    · omega
theorem spansTo_no {f : Nat → Bool} {n : Nat} (h : f n = false) : spansTo f (n + 1) = spansTo f n := by simp [spansTo, h]
theorem spansTo_new {f : Nat → Bool} {n : Nat} (h : f n = true) (h' : n = 0 ∨ f (n - 1) = false) : spansTo f (n + 1) = spansTo f n ++ [⟨n, n⟩] := by
  have : ¬ (0 < n ∧ f (n - 1) = true) := by
    rintro ⟨h1, h2⟩
    rcases h' with h' | h'
    · omega
    · rw [h'] at h2; cases h2
  simp only [spansTo, h, if_true, this, if_false]
theorem spansTo_ext {f : Nat → Bool} {n : Nat} (h : f n = true) (h1 : 0 < n) (h2 : f (n - 1) = true) (hn : n ≤ 256) :
    ∃ x, (spansTo f n)[(spansTo f n).length - 1]? = some x ∧ 0 < (spansTo f n).length ∧ x.hi = (n : Int) - 1 ∧ spansTo f (n + 1) = (spansTo f n).set ((spansTo f n).length - 1) ⟨x.lo, n⟩ := by
  obtain ⟨xs, x, e, hx⟩ := (upto_spans f n hn).last h1 h2
  refine ⟨x, by rw [e]; simp, by rw [e]; simp, hx, ?_⟩
  simp only [spansTo, h, if_true, h1, h2, and_self]
  rw [e, spExt_snoc]
  simp
/-! ### each set is written in one way -/
theorem okGo_lo {p : Option Int} {xs : List Sp} (h : setOkGo p xs = true) : ∀ b, setHas xs b = true → 0 ≤ b ∧ b ≤ 255 ∧ ∀ q, p = some q → q + 1 < b := by
  induction xs generalizing p with
  | nil => intro b hb; simp [setHas] at hb
  | cons x xs ih =>
    intro b hb
    simp only [setOkGo, Bool.and_eq_true, Bool.not_eq_true'] at h
    have h1 := (spBad_false _ _).1 h.1
    rw [setHas_cons, Bool.or_eq_true, spIn_iff] at hb
    rcases hb with hb | hb
    · refine ⟨by omega, by omega, fun q hq => ?_⟩
      have := h1.2.2.2 q hq
      omega
    · have h2 := ih h.2 b hb
      have h3 := h2.2.2 x.hi rfl
      refine ⟨h2.1, h2.2.1, fun q hq => ?_⟩
      have := h1.2.2.2 q hq
      omega
theorem setOk_range {xs : List Sp} (h : setOk xs = true) {b : Int} (hb : setHas xs b = true) : 0 ≤ b ∧ b ≤ 255 :=
  let r := okGo_lo (p := none) h b hb
  ⟨r.1, r.2.1⟩

theorem okGo_ext {xs ys : List Sp} : ∀ {p q : Option Int}, setOkGo p xs = true → setOkGo q ys = true → (∀ b, setHas xs b = setHas ys b) → xs = ys := by
  induction xs generalizing ys with
  | nil =>
    intro p q _ hy h
    cases ys with
    | nil => rfl
    | cons y ys =>
      simp only [setOkGo, Bool.and_eq_true, Bool.not_eq_true'] at hy
      have h1 := (spBad_false _ _).1 hy.1
      have := h y.lo
      rw [setHas_cons, setHas_nil] at this
      have h2 : spIn y y.lo = true := (spIn_iff _ _).2 ⟨by omega, by omega⟩
      rw [h2] at this
      cases this
  | cons x xs ih =>
    intro p q hx hy h
    cases ys with
    | nil =>
      simp only [setOkGo, Bool.and_eq_true, Bool.not_eq_true'] at hx
      have h1 := (spBad_false _ _).1 hx.1
      have := h x.lo
      rw [setHas_cons, setHas_nil] at this
      have h2 : spIn x x.lo = true := (spIn_iff _ _).2 ⟨by omega, by omega⟩
      rw [h2] at this
      cases this
    | cons y ys =>
      simp only [setOkGo, Bool.and_eq_true, Bool.not_eq_true'] at hx hy
      have bx := (spBad_false _ _).1 hx.1
      have bY := (spBad_false _ _).1 hy.1
      have lx := okGo_lo hx.2
      have ly := okGo_lo hy.2
      have inx : ∀ b, setHas (x :: xs) b = true ↔ (x.lo ≤ b ∧ b ≤ x.hi) ∨ setHas xs b = true := fun b => by rw [setHas_cons, Bool.or_eq_true, spIn_iff]
      have iny : ∀ b, setHas (y :: ys) b = true ↔ (y.lo ≤ b ∧ b ≤ y.hi) ∨ setHas ys b = true := fun b => by rw [setHas_cons, Bool.or_eq_true, spIn_iff]
      have hh : ∀ b, ((x.lo ≤ b ∧ b ≤ x.hi) ∨ setHas xs b = true) ↔ ((y.lo ≤ b ∧ b ≤ y.hi) ∨ setHas ys b = true) := fun b => by rw [← inx, ← iny, h b]
      have hxs : ∀ b, setHas xs b = true → x.hi + 1 < b := fun b hb => (lx b hb).2.2 _ rfl
      have hys : ∀ b, setHas ys b = true → y.hi + 1 < b := fun b hb => (ly b hb).2.2 _ rfl
      have e1 : x.lo = y.lo := by
        have h1 := (hh x.lo).1 (.inl ⟨by omega, by omega⟩)
        have h2 := (hh y.lo).2 (.inl ⟨by omega, by omega⟩)
        have h3 : y.lo ≤ x.lo := by
          rcases h1 with h1 | h1
          · omega
          · have := hys _ h1; omega
        have h4 : x.lo ≤ y.lo := by
          rcases h2 with h2 | h2
          · omega
          · have := hxs _ h2; omega
        omega
      have e2 : x.hi = y.hi := by
        have h1 := (hh x.hi).1 (.inl ⟨by omega, by omega⟩)
        have h2 := (hh y.hi).2 (.inl ⟨by omega, by omega⟩)
        have h5 : ¬ (x.hi < y.hi) := by
          intro hlt
          rcases (hh (x.hi + 1)).2 (.inl ⟨by omega, by omega⟩) with h6 | h6
          · omega
          · have := hxs _ h6; omega
        have h7 : ¬ (y.hi < x.hi) := by
          intro hlt
          rcases (hh (y.hi + 1)).1 (.inl ⟨by omega, by omega⟩) with h6 | h6
          · omega
          · have := hys _ h6; omega
        omega
      have e : x = y := by
        cases x; cases y; simp at e1 e2; rw [e1, e2]
      subst e
      congr 1
      refine ih hx.2 hy.2 (fun b => ?_)
      rw [Bool.eq_iff_iff]
      have := hh b
      constructor
      · intro hb
        rcases this.1 (.inr hb) with h8 | h8
        · have := hxs _ hb; omega
        · exact h8
      · intro hb
        rcases this.2 (.inr hb) with h8 | h8
        · have := hys _ hb; omega
        · exact h8
theorem setOk_ext {xs ys : List Sp} (hx : setOk xs = true) (hy : setOk ys = true) (h : ∀ b, setHas xs b = setHas ys b) : xs = ys := okGo_ext hx hy h
theorem setOk_ext_nat {xs ys : List Sp} (hx : setOk xs = true) (hy : setOk ys = true) (h : ∀ k : Nat, k < 256 → setHas xs k = setHas ys k) : xs = ys := by
  refine setOk_ext hx hy (fun b => ?_)
  by_cases hb : 0 ≤ b ∧ b ≤ 255
  · obtain ⟨k, rfl⟩ : ∃ k : Nat, b = k := ⟨b.toNat, by omega⟩
    exact h k (by omega)
  · have h1 : setHas xs b = false := Bool.eq_false_iff.2 fun hc => hb (setOk_range hx hc)
    have h2 : setHas ys b = false := Bool.eq_false_iff.2 fun hc => hb (setOk_range hy hc)
    rw [h1, h2]
theorem spans_self {s : List Sp} (h : setOk s = true) : spansOf (fun i => setHas s i) = s :=
  setOk_ext_nat (setOk_spans _) h fun k hk => setHas_spans_nat _ k hk

/-! ### what the laws write over a set -/
def markSps : Int → List Sp → List Sp
  | _, [] => []
  | k, _ :: xs => ⟨k, k + 1⟩ :: markSps (k + 2) xs
theorem markSps_length (xs : List Sp) : ∀ k, (markSps k xs).length = xs.length := by
  induction xs with
  | nil => intro k; rfl
  | cons x xs ih => intro k; simp [markSps, ih]
theorem markSps_get (xs : List Sp) : ∀ k j, j < xs.length → (markSps k xs)[j]? = some ⟨k + 2 * j, k + 2 * j + 1⟩ := by
  induction xs with
  | nil => intro k j h; simp at h
  | cons x xs ih =>
    intro k j h
    cases j with
    | zero => simp [markSps]
    | succ j =>
      rw [markSps, List.getElem?_cons_succ, ih _ _ (by simpa using h)]
      simp only [Option.some.injEq, Sp.mk.injEq]
      omega
theorem markSps_set (xs : List Sp) (k : Int) (j : Nat) (h : j < xs.length) :
    ((markSps k xs).take j ++ xs.drop j).set j ⟨k + 2 * j, k + 2 * j + 1⟩ = (markSps k xs).take (j + 1) ++ xs.drop (j + 1) := by
  have hl : ((markSps k xs).take j).length = j := by rw [List.length_take, markSps_length]; omega
  rw [List.set_append, if_neg (by omega), hl, Nat.sub_self, List.drop_eq_getElem_cons h, List.set_cons_zero, List.take_add_one, markSps_get _ _ _ h]
  simp

end Go.Proofs.YtfeidjjabjejiaaGreatDoor

/- What a text is like, as a tree: the plain functions, and what holds of them. No program in sight. -/
namespace Go.Proofs.YtfeidjjabjejiaaGreatDoor
set_option linter.unusedSimpArgs false
set_option linter.unusedVariables false
set_option maxRecDepth 100000

inductive Rex where
  | mk : Int → List Sp → List Rex → Rex
def Rex.kind : Rex → Int
  | .mk k _ _ => k
def Rex.set : Rex → List Sp
  | .mk _ s _ => s
def Rex.kids : Rex → List Rex
  | .mk _ _ ks => ks
instance : Inhabited Rex := ⟨.mk 0 [] []⟩
theorem Rex.eta (r : Rex) : r = .mk r.kind r.set r.kids := by cases r; rfl

theorem Rex.ind {p : Rex → Prop} (h : ∀ k s ks, (∀ r, r ∈ ks → p r) → p (.mk k s ks)) (r : Rex) : p r :=
  Rex.rec (motive_1 := p) (motive_2 := fun ks => ∀ r, r ∈ ks → p r) (fun k s ks ih => h k s ks ih) (fun r hr => by cases hr)
    (fun x xs h1 h2 r hr => by
      rcases List.mem_cons.1 hr with rfl | hr
      · exact h1
      · exact h2 r hr) r

/-- how many kids a kind has -/
def kidsOf (k : Int) : Int := if k = 1 ∨ k = 2 then 0 else if k = 5 ∨ k = 7 then 1 else if k = 3 ∨ k = 4 ∨ k = 6 then 2 else -1

/-- the node itself is right -/
def nodeOk (r : Rex) : Bool := decide (kidsOf r.kind = r.kids.length) && (decide (r.kind = 1) || r.set.isEmpty) && setOk r.set
def formed : Nat → Rex → Bool
  | 0, _ => false
  | d + 1, r => nodeOk r && r.kids.all (formed d)

mutual
def Rex.many : Rex → Nat
  | .mk _ _ ks => 1 + manyL ks
def manyL : List Rex → Nat
  | [] => 0
  | r :: rs => r.many + manyL rs
end
def rexOk (r : Rex) : Bool := formed 8 r && decide (r.many ≤ 24)

mutual
def rexEq : Rex → Rex → Bool
  | .mk k s ks, .mk k' s' ks' => decide (k = k') && decide (s = s') && rexEqL ks ks'
def rexEqL : List Rex → List Rex → Bool
  | [], [] => true
  | r :: rs, r' :: rs' => rexEq r r' && rexEqL rs rs'
  | _, _ => false
end

mutual
def null : Rex → Bool
  | .mk k _ ks =>
    if k = 2 ∨ k = 5 then true
    else if k = 3 ∨ k = 6 then nullAt ks 0 && nullAt ks 1
    else if k = 4 then nullAt ks 0 || nullAt ks 1
    else if k = 7 then !nullAt ks 0
    else false
def nullAt : List Rex → Nat → Bool
  | [], _ => false
  | r :: _, 0 => null r
  | _ :: rs, n + 1 => nullAt rs n
end

mutual
def setsOf : Rex → List (List Sp)
  | .mk k s ks => (if k = 1 then [s] else []) ++ setsOfL ks
def setsOfL : List Rex → List (List Sp)
  | [] => []
  | r :: rs => setsOf r ++ setsOfL rs
end

theorem rexEq_iff (a : Rex) : ∀ b, rexEq a b = true ↔ a = b := by
  refine Rex.rec (motive_1 := fun a => ∀ b, rexEq a b = true ↔ a = b) (motive_2 := fun l => ∀ l', rexEqL l l' = true ↔ l = l') ?_ ?_ ?_ a
  · intro k s ks ih b
    obtain ⟨k', s', ks'⟩ := b
    simp only [rexEq, Bool.and_eq_true, decide_eq_true_eq, ih, Rex.mk.injEq, and_assoc]
  · intro l'
    cases l' <;> simp [rexEqL]
  · intro x xs h1 h2 l'
    cases l' with
    | nil => simp [rexEqL]
    | cons y ys => simp only [rexEqL, Bool.and_eq_true, h1, h2, List.cons.injEq]

theorem formed_mono {d : Nat} : ∀ {r : Rex}, formed d r = true → formed (d + 1) r = true := by
  induction d with
  | zero => intro r h; simp [formed] at h
  | succ d ih =>
    intro r h
    rw [formed, Bool.and_eq_true, List.all_eq_true] at h ⊢
    exact ⟨h.1, fun k hk => ih (h.2 k hk)⟩
theorem formed_le {d d' : Nat} (hd : d ≤ d') {r : Rex} (h : formed d r = true) : formed d' r = true := by
  obtain ⟨j, rfl⟩ := Nat.exists_eq_add_of_le hd
  induction j with
  | zero => exact h
  | succ j ih => exact formed_mono (ih (by omega))

end Go.Proofs.YtfeidjjabjejiaaGreatDoor

/- What is read in memory: rows of cells, spans, trees; how it stays where new memory is made. -/
namespace Go.Proofs.YtfeidjjabjejiaaGreatDoor
set_option linter.unusedSimpArgs false
set_option linter.unusedVariables false
set_option maxRecDepth 100000
open Go.RowKit

abbrev maxN : Nat := 9223372036854775807

theorem ret_bool {a b : Bool} (h : a = b) : Ending.returned (.bool a) = Ending.returned (.bool b) := by rw [h]
theorem ret_int {k : IntKind} {a b : Int} (h : a = b) : Ending.returned (.int k a) = Ending.returned (.int k b) := by rw [h]
def Drawn (w w' : World) : Prop := ∃ n, w' = w.drewN n
theorem Drawn.refl (w : World) : Drawn w w := ⟨0, rfl⟩
theorem Drawn.below {w w' : World} (h : Drawn w w') : Below w.heap.size w w' := by
  obtain ⟨n, rfl⟩ := h
  exact ⟨rfl, rfl, rfl, Nat.le_refl _, fun _ _ => rfl⟩

theorem drewN_drewN (w : World) (m n : Nat) : ∃ k, (w.drewN m).drewN n = w.drewN k := ⟨m + n, by simp only [World.drewN]; congr 1; omega⟩
theorem Drawn.step {w w' : World} (h : Drawn w w') (n : Nat) : Drawn w (w'.drewN n) := by
  obtain ⟨m, rfl⟩ := h
  exact drewN_drewN w m n
theorem Drawn.trans {w w1 w2 : World} (h : Drawn w w1) (k : Drawn w1 w2) : Drawn w w2 := by
  obtain ⟨m, rfl⟩ := h
  obtain ⟨n, rfl⟩ := k
  exact drewN_drewN w m n
theorem drewN_drew (w : World) (m : Nat) : ∃ k, (w.drewN m).drew = w.drewN k := ⟨m + 1, rfl⟩
/-- the cells cs lie at a -/
def CellsAt (w : World) (a : Addr) (cs : List Value) : Prop := ∀ j u, cs[j]? = some u → w.cell? (a.add j) = some u
theorem CellsAt.below {w w' : World} {a : Addr} {cs : List Value} (h : CellsAt w a cs) (hb : Below w.heap.size w w') : CellsAt w' a cs :=
  fun j u hj => (hb.cell (World.block_lt_of_cell? w _ (h j u hj))).trans (h j u hj)
theorem add_block (a : Addr) (j : Nat) : (a.add j).block = a.block := by unfold Addr.add; split <;> rfl
theorem CellsAt.keep {w w' : World} {a : Addr} {cs : List Value} (h : CellsAt w a cs) (hk : a.block < w.heap.size → w'.heap[a.block]? = w.heap[a.block]?) : CellsAt w' a cs := by
  intro j u hj
  have h0 := h j u hj
  have hlt := World.block_lt_of_cell? w _ h0
  rw [add_block] at hlt
  rw [← h0]
  exact World.cell?_of_block (w := w) (by rw [add_block]; exact hk hlt)
theorem add_field (ad : Addr) (m j : Nat) (hj : 0 < j) : ad.add (m + j) = ⟨(ad.add m).block, (ad.add m).off + j, none⟩ := by
  unfold Addr.add
  by_cases hm : m = 0 <;> simp [hm] <;> omega

/-- a row of cells that is read: where it has cells, it has an address, in a block from lo on -/
def Row (w : World) (lo : Nat) (A : Option Addr) (cs : List Value) : Prop := cs = [] ∨ ∃ a, A = some a ∧ lo ≤ a.block ∧ CellsAt w a cs
theorem Row.below {w w' : World} {lo : Nat} {A : Option Addr} {cs : List Value} (h : Row w lo A cs) (hb : Below w.heap.size w w') : Row w' lo A cs :=
  h.imp id fun ⟨a, e, hl, hc⟩ => ⟨a, e, hl, hc.below hb⟩
theorem Row.keep {w w' : World} {lo : Nat} {A : Option Addr} {cs : List Value} (h : Row w lo A cs) (hk : ∀ k, lo ≤ k → k < w.heap.size → w'.heap[k]? = w.heap[k]?) : Row w' lo A cs :=
  h.imp id fun ⟨a, e, hl, hc⟩ => ⟨a, e, hl, hc.keep (hk _ hl)⟩
theorem Row.lower {w : World} {lo lo' : Nat} {A : Option Addr} {cs : List Value} (h : Row w lo A cs) (hl : lo' ≤ lo) : Row w lo' A cs :=
  h.imp id fun ⟨a, e, h1, hc⟩ => ⟨a, e, Nat.le_trans hl h1, hc⟩

/-! ### spans -/
def spc (x : Sp) : List Value := [.int .i64 x.lo, .int .i64 x.hi]
def spcs (xs : List Sp) : List Value := xs.flatMap spc
theorem spcs_length (xs : List Sp) : (spcs xs).length = xs.length * 2 := by
  induction xs with
  | nil => rfl
  | cons x xs ih => simp only [spcs, List.flatMap_cons, List.length_append, List.length_cons] at ih ⊢; rw [ih]; simp [spc]; omega
theorem spcs_get (xs : List Sp) : ∀ k, k < xs.length → (spcs xs)[k * 2]? = some (.int .i64 (xs.getD k default).lo) ∧ (spcs xs)[k * 2 + 1]? = some (.int .i64 (xs.getD k default).hi) := by
  induction xs with
  | nil => intro k hk; simp at hk
  | cons x xs ih =>
    intro k hk
    cases k with
    | zero => simp [spcs, spc]
    | succ k =>
      have h := ih k (by simpa using hk)
      have e : spcs (x :: xs) = .int .i64 x.lo :: .int .i64 x.hi :: spcs xs := rfl
      rw [e, show (k + 1) * 2 = k * 2 + 1 + 1 by omega]
      simp only [List.getElem?_cons_succ, List.getD_cons_succ]
      exact h
structure Sps (w : World) (lo : Nat) (A : Option Addr) (c : Nat) (xs : List Sp) : Prop where
  row : Row w lo A (spcs xs)
  cap : xs.length ≤ c
  len : xs.length ≤ maxN
theorem Sps.below {w w' : World} {lo : Nat} {A : Option Addr} {c : Nat} {xs : List Sp} (h : Sps w lo A c xs) (hb : Below w.heap.size w w') : Sps w' lo A c xs := ⟨h.row.below hb, h.cap, h.len⟩
theorem Sps.at_ {w : World} {lo : Nat} {A : Option Addr} {c : Nat} {xs : List Sp} (h : Sps w lo A c xs) (k : Nat) (hk : k < xs.length) :
    ∃ a x, A = some a ∧ Hid (xs[k]? = some x) ∧ Hid (xs.drop k = x :: xs.drop (k + 1)) ∧ w.cell? (a.add (k * 2)) = some (.int .i64 x.lo) ∧ w.cell? ⟨(a.add (k * 2)).block, (a.add (k * 2)).off + 1, none⟩ = some (.int .i64 x.hi) := by
  rcases h.row with h0 | ⟨a, e, _, hc⟩
  · have := congrArg List.length h0
    rw [spcs_length, List.length_nil] at this
    omega
  · have hg := spcs_get xs k hk
    have e1 : xs.getD k default = xs[k] := by simp [List.getD_eq_getElem?_getD, List.getElem?_eq_getElem hk]
    rw [e1] at hg
    exact ⟨a, xs[k], e, List.getElem?_eq_getElem hk, List.drop_eq_getElem_cons hk, hc _ _ hg.1, by rw [← add_field _ _ 1 (by omega)]; exact hc _ _ hg.2⟩
theorem below_alloc {w W : World} (h : Below w.heap.size w W) (o : Obj) : Below w.heap.size w (W.alloc o) := h.alloc h.size o
theorem cell_alloc {w : World} {a : Addr} {v : Value} (h : w.cell? a = some v) (o : Obj) : (w.alloc o).cell? a = some v :=
  ((below_alloc (Below.refl _ w) o).cell (World.block_lt_of_cell? w _ h)).trans h
theorem below_set {w W : World} (h : Below w.heap.size w W) {p : Addr} (hp : w.heap.size ≤ p.block) (u : Value) : Below w.heap.size w (W.setCell p u) := h.setCell hp u
theorem below_drew {w W : World} (h : Below w.heap.size w W) : Below w.heap.size w W.drew := ⟨h.os, h.tape, h.output, h.size, h.block⟩
theorem below_drewN {w W : World} (h : Below w.heap.size w W) (n : Nat) : Below w.heap.size w (W.drewN n) := ⟨h.os, h.tape, h.output, h.size, h.block⟩
theorem below_then {w w1 w2 : World} (h : Below w.heap.size w w1) (k : Below w1.heap.size w1 w2) : Below w.heap.size w w2 := h.trans (k.mono h.size)

end Go.Proofs.YtfeidjjabjejiaaGreatDoor

/- Trees in memory. -/
namespace Go.Proofs.YtfeidjjabjejiaaGreatDoor
set_option linter.unusedSimpArgs false
set_option linter.unusedVariables false
set_option maxRecDepth 100000
open Go.RowKit

/-- the three cells of an element -/
structure KCell (w : World) (lo : Nat) (K : Option Addr) (i : Nat) (u0 u1 u2 : Value) : Prop where
  ex : ∃ a, K = some a ∧ lo ≤ a.block ∧ w.cell? (a.add (i * 3)) = some u0 ∧ w.cell? ⟨(a.add (i * 3)).block, (a.add (i * 3)).off + 1, none⟩ = some u1 ∧ w.cell? ⟨(a.add (i * 3)).block, (a.add (i * 3)).off + 2, none⟩ = some u2
theorem add_block' (a : Addr) (n : Nat) : (a.add n).block = a.block := by unfold Addr.add; split <;> rfl
theorem KCell.keep {w w' : World} {lo : Nat} {K : Option Addr} {i : Nat} {u0 u1 u2 : Value} (h : KCell w lo K i u0 u1 u2) (hk : ∀ k, lo ≤ k → k < w.heap.size → w'.heap[k]? = w.heap[k]?) : KCell w' lo K i u0 u1 u2 := by
  obtain ⟨a, e, hl, h0, h1, h2⟩ := h.ex
  have hb := World.block_lt_of_cell? w _ h0
  rw [add_block'] at hb
  have hh := hk a.block hl hb
  refine ⟨a, e, hl, ?_, ?_, ?_⟩
  · rw [World.cell?_of_block (w := w) (by rw [add_block']; exact hh)]; exact h0
  · rw [World.cell?_of_block (w := w) (by show w'.heap[(a.add (i * 3)).block]? = _; rw [add_block']; exact hh)]; exact h1
  · rw [World.cell?_of_block (w := w) (by show w'.heap[(a.add (i * 3)).block]? = _; rw [add_block']; exact hh)]; exact h2
theorem KCell.lower {w : World} {lo lo' : Nat} {K : Option Addr} {i : Nat} {u0 u1 u2 : Value} (h : KCell w lo K i u0 u1 u2) (hl : lo' ≤ lo) : KCell w lo' K i u0 u1 u2 := by
  obtain ⟨a, e, h1, r⟩ := h.ex
  exact ⟨a, e, Nat.le_trans hl h1, r⟩

theorem Sps.keep {w w' : World} {lo : Nat} {A : Option Addr} {c : Nat} {xs : List Sp} (h : Sps w lo A c xs) (hk : ∀ k, lo ≤ k → k < w.heap.size → w'.heap[k]? = w.heap[k]?) : Sps w' lo A c xs := ⟨h.row.keep hk, h.cap, h.len⟩
theorem Sps.lower {w : World} {lo lo' : Nat} {A : Option Addr} {c : Nat} {xs : List Sp} (h : Sps w lo A c xs) (hl : lo' ≤ lo) : Sps w lo' A c xs := ⟨h.row.lower hl, h.cap, h.len⟩

inductive RexV (w : World) (lo : Nat) : Rex → Value → Value → Value → Prop
  | mk (k : Int) (s : List Sp) (ks : List Rex) (A K : Option Addr) (c ck : Nat) (V0 V1 V2 : Nat → Value) (hs : Sps w lo A c s) (hn : ks.length ≤ ck) (hl : ks.length ≤ maxN)
      (hc : ∀ i, i < ks.length → KCell w lo K i (V0 i) (V1 i) (V2 i)) (hr : ∀ i r, ks[i]? = some r → RexV w lo r (V0 i) (V1 i) (V2 i)) : RexV w lo (.mk k s ks) (.int .i64 k) (.slice A s.length c) (.slice K ks.length ck)

theorem RexV.keep {w w' : World} {lo : Nat} {r : Rex} {v0 v1 v2 : Value} (h : RexV w lo r v0 v1 v2) (hk : ∀ k, lo ≤ k → k < w.heap.size → w'.heap[k]? = w.heap[k]?) : RexV w' lo r v0 v1 v2 := by
  induction h with
  | mk k s ks A K c ck V0 V1 V2 hs hn hl hc hr ih => exact .mk k s ks A K c ck V0 V1 V2 (hs.keep hk) hn hl (fun i hi => (hc i hi).keep hk) ih
theorem RexV.under {w w' : World} {lo : Nat} {r : Rex} {v0 v1 v2 : Value} (h : RexV w lo r v0 v1 v2) (hb : Below w.heap.size w w') : RexV w' lo r v0 v1 v2 := h.keep fun k _ hk => hb.block k hk
theorem RexV.lower {w : World} {lo lo' : Nat} {r : Rex} {v0 v1 v2 : Value} (h : RexV w lo r v0 v1 v2) (hl : lo' ≤ lo) : RexV w lo' r v0 v1 v2 := by
  induction h with
  | mk k s ks A K c ck V0 V1 V2 hs hn hl' hc hr ih => exact .mk k s ks A K c ck V0 V1 V2 (hs.lower hl) hn hl' (fun i hi => (hc i hi).lower hl) ih

/-- a row of trees -/
structure Kids (w : World) (lo : Nat) (K : Option Addr) (ck : Nat) (ks : List Rex) : Prop where
  ex : ∃ V0 V1 V2 : Nat → Value, (∀ i, i < ks.length → KCell w lo K i (V0 i) (V1 i) (V2 i)) ∧ ∀ i r, ks[i]? = some r → RexV w lo r (V0 i) (V1 i) (V2 i)
  cap : ks.length ≤ ck
  len : ks.length ≤ maxN
theorem Kids.keep {w w' : World} {lo : Nat} {K : Option Addr} {ck : Nat} {ks : List Rex} (h : Kids w lo K ck ks) (hk : ∀ k, lo ≤ k → k < w.heap.size → w'.heap[k]? = w.heap[k]?) : Kids w' lo K ck ks := by
  obtain ⟨⟨V0, V1, V2, hc, hr⟩, h1, h2⟩ := h
  exact ⟨⟨V0, V1, V2, fun i hi => (hc i hi).keep hk, fun i r e => (hr i r e).keep hk⟩, h1, h2⟩
theorem Kids.below {w w' : World} {lo : Nat} {K : Option Addr} {ck : Nat} {ks : List Rex} (h : Kids w lo K ck ks) (hb : Below w.heap.size w w') : Kids w' lo K ck ks := h.keep fun k _ hk => hb.block k hk
theorem Kids.lower {w : World} {lo lo' : Nat} {K : Option Addr} {ck : Nat} {ks : List Rex} (h : Kids w lo K ck ks) (hl : lo' ≤ lo) : Kids w lo' K ck ks := by
  obtain ⟨⟨V0, V1, V2, hc, hr⟩, h1, h2⟩ := h
  exact ⟨⟨V0, V1, V2, fun i hi => (hc i hi).lower hl, fun i r e => (hr i r e).lower hl⟩, h1, h2⟩
/-- a tree's parts -/
theorem RexV.parts {w : World} {lo : Nat} {r : Rex} {v0 v1 v2 : Value} (h : RexV w lo r v0 v1 v2) :
    ∃ A c K ck, v0 = .int .i64 r.kind ∧ v1 = .slice A r.set.length c ∧ v2 = .slice K r.kids.length ck ∧ Sps w lo A c r.set ∧ Kids w lo K ck r.kids := by
  cases h with
  | mk k s ks A K c ck V0 V1 V2 hs hn hl hc hr => exact ⟨A, c, K, ck, rfl, rfl, rfl, hs, ⟨⟨V0, V1, V2, hc, hr⟩, hn, hl⟩⟩
theorem RexV.of {w : World} {lo : Nat} {k : Int} {s : List Sp} {ks : List Rex} {A K : Option Addr} {c ck : Nat} (hs : Sps w lo A c s) (hk : Kids w lo K ck ks) : RexV w lo (.mk k s ks) (.int .i64 k) (.slice A s.length c) (.slice K ks.length ck) := by
  obtain ⟨⟨V0, V1, V2, hc, hr⟩, h1, h2⟩ := hk
  exact .mk k s ks A K c ck V0 V1 V2 hs h1 h2 hc hr
/-- an element of a row of trees -/
theorem Kids.at_ {w : World} {lo : Nat} {K : Option Addr} {ck : Nat} {ks : List Rex} (h : Kids w lo K ck ks) (i : Nat) (hi : i < ks.length) :
    ∃ a r v1 v2, K = some a ∧ Hid (ks[i]? = some r) ∧ Hid (ks.drop i = r :: ks.drop (i + 1)) ∧ Hid (RexV w lo r (.int .i64 r.kind) v1 v2) ∧
      w.cell? (a.add (i * 3)) = some (.int .i64 r.kind) ∧ w.cell? ⟨(a.add (i * 3)).block, (a.add (i * 3)).off + 1, none⟩ = some v1 ∧ w.cell? ⟨(a.add (i * 3)).block, (a.add (i * 3)).off + 2, none⟩ = some v2 := by
  obtain ⟨⟨V0, V1, V2, hc, hr⟩, h1, h2⟩ := h
  obtain ⟨a, e, _, c0, c1, c2⟩ := (hc i hi).ex
  have hg : ks[i]? = some ks[i] := by simp [hi]
  have hv := hr i _ hg
  have e0 : V0 i = .int .i64 ks[i].kind := by
    obtain ⟨_, _, _, _, e, _⟩ := hv.parts
    exact e
  rw [e0] at hv c0
  exact ⟨a, ks[i], V1 i, V2 i, e, hg, List.drop_eq_getElem_cons hi, hv, c0, c1, c2⟩

end Go.Proofs.YtfeidjjabjejiaaGreatDoor

/- SetOk of the program. -/
namespace Go.Proofs.YtfeidjjabjejiaaGreatDoor
set_option linter.unusedSimpArgs false
set_option linter.unusedVariables false
set_option maxRecDepth 100000
open Go.RowKit

theorem setOkGo_step {p : Option Int} {x : Sp} {xs ys : List Sp} {r : Bool} (hd : ys = x :: xs) (hr : setOkGo p ys = r) : (spBad p x = true → r = false) ∧ (spBad p x = false → setOkGo (some x.hi) xs = r) := by
  subst hd
  rw [setOkGo] at hr
  refine ⟨fun h => ?_, fun h => ?_⟩
  · rw [← hr, h]; rfl
  · rw [← hr, h]; simp
theorem spBad_none {x : Sp} (h : x.lo < 0 ∨ x.hi < x.lo ∨ 255 < x.hi) (p : Option Int) : spBad p x = true := by
  unfold spBad
  rcases h with h | h | h <;> simp [h]
theorem spBad_some {x : Sp} {q : Int} (h : x.lo ≤ q + 1) : spBad (some q) x = true := by simp [spBad, h]
theorem spGood {p : Option Int} {x : Sp} (h1 : 0 ≤ x.lo) (h2 : x.lo ≤ x.hi) (h3 : x.hi ≤ 255) (h4 : ∀ q, p = some q → q + 1 < x.lo) : spBad p x = false := (spBad_false p x).2 ⟨h1, h2, h3, h4⟩

/-- the span ahead of k, if there is one -/
def PrevOk (xs : List Sp) (k : Nat) (p : Option Int) : Prop := (k = 0 ∧ p = none) ∨ ∃ j y, k = j + 1 ∧ xs[j]? = some y ∧ p = some y.hi ∧ 0 ≤ y.hi ∧ y.hi ≤ 255

set_option maxHeartbeats 1000000 in
theorem iSetOk_c (A : Option Addr) (c : Nat) (xs : List Sp) (w : World) {lo : Nat} (h : Sps w lo A c xs) :
    Calls Tryz.prog 116 #[.slice A xs.length c] w fun e w' => e = .returned (.bool (setOk xs)) ∧ Below w.heap.size w w' := by
  have hlen := h.len
  unfold maxN at hlen
  go_enter Tryz.func116, Tryz.ntmps116
  go_wp2
  go_loopg [7] (xs.length) (fun n i wr => ∃ (k : Nat) (p : Option Int), k + n = xs.length ∧ i = .int .i64 k ∧ Hid (setOkGo p (xs.drop k) = setOk xs) ∧ Hid (PrevOk xs k p) ∧ Below w.heap.size w wr)
  case atStart => exact ⟨0, none, by omega, rfl, by rw [List.drop_zero]; rfl, .inl ⟨rfl, rfl⟩, Below.refl _ _⟩
  case round =>
    obtain ⟨k, p, hk, rfl, HS, HP, hb⟩ := hrel
    by_cases hlt : k < xs.length
    · obtain ⟨a, x, rfl, HX, HD, h0, h1⟩ := (h.below hb).at_ k hlt
      have ST : Hid _ := setOkGo_step HD.out HS.out
      have HB : Hid (Below w.heap.size w wr) := hb
      clear hb HD HS
      by_cases c1 : x.lo < 0
      · have d1 : decide (x.lo < 0) = true := decide_eq_true c1
        clear c1
        go_wp2
        go_quiet (fail)
        go_wp2
        go_ret
        exact ⟨ret_bool (by rw [ST.out.1 (spBad_none (.inl (of_decide_eq_true d1)) _)]), below_drewN (below_alloc HB.out _) _⟩
      have d1 : decide (x.lo < 0) = false := decide_eq_false c1
      by_cases c2 : x.hi < x.lo
      · have d2 : decide (x.hi < x.lo) = true := decide_eq_true c2
        clear c1 c2
        go_wp2
        go_quiet (fail)
        go_wp2
        go_ret
        exact ⟨ret_bool (by rw [ST.out.1 (spBad_none (.inr (.inl (of_decide_eq_true d2))) _)]), below_drewN (below_alloc HB.out _) _⟩
      have d2 : decide (x.hi < x.lo) = false := decide_eq_false c2
      by_cases c3 : 255 < x.hi
      · have d3 : decide (255 < x.hi) = true := decide_eq_true c3
        clear c1 c2 c3
        go_wp2
        go_quiet (fail)
        go_wp2
        go_ret
        exact ⟨ret_bool (by rw [ST.out.1 (spBad_none (.inr (.inr (of_decide_eq_true d3))) _)]), below_drewN (below_alloc HB.out _) _⟩
      have d3 : decide (255 < x.hi) = false := decide_eq_false c3
      have X0 : Hid (0 ≤ x.hi ∧ x.hi ≤ 255) := ⟨by omega, by omega⟩
      rcases HP.out with ⟨hk0, rfl⟩ | ⟨j, y, hj, hy, rfl, y0, y1⟩
      · have C : Hid (spBad none x = false) := spGood (by omega) (by omega) (by omega) (fun q hq => by cases hq)
        have d4 : decide (0 < k) = false := decide_eq_false (by omega)
        clear c1 c2 c3 hk0
        go_wp2
        go_quiet (fail)
        go_wp2
        go_roundg (gk - 1)
        case rel => exact ⟨k + 1, some x.hi, by omega, by go_num, ST.out.2 C.out, .inr ⟨k, x, rfl, HX.out, rfl, X0.out.1, X0.out.2⟩, below_drewN (below_alloc HB.out _) _⟩
        case measure => omega
      · obtain ⟨a', y', ea, HY, _, _, h3⟩ := Sps.at_ (h.below HB.out) (k - 1) (by omega)
        cases ea
        have h4 := fun o => cell_alloc h3 o
        obtain rfl : y = y' := by
          have := HY.out
          rw [show k - 1 = j by omega, hy] at this
          exact Option.some.inj this
        have d4 : decide (0 < k) = true := decide_eq_true (by omega)
        have e1 : IntKind.i64.wrap ((k : Int) - 1) = (k : Int) - 1 := IntWalk.i64_in _ (by omega)
        have e2 : (0 : Int) ≤ (k : Int) - 1 := by omega
        have e6 : (1 : Int) ≤ (k : Int) := by omega
        have e3 : (k : Int) - 1 < (xs.length : Int) := by omega
        have e4 : ((k : Int) - 1).toNat = k - 1 := by omega
        have e5 : IntKind.i64.wrap (y.hi + 1) = y.hi + 1 := IntWalk.i64_in _ (by omega)
        by_cases c4 : x.lo ≤ y.hi + 1
        · have d5 : decide (x.lo ≤ y.hi + 1) = true := decide_eq_true c4
          have C : Hid (spBad (some y.hi) x = true) := spBad_some c4
          clear c1 c2 c3 c4 hj
          go_wp2
          go_quiet (fail)
          clear e1 e2 e3 e4 e5 e6
          go_wp2
          go_ret
          exact ⟨ret_bool (by rw [ST.out.1 C.out]), below_drewN (below_alloc HB.out _) _⟩
        · have d5 : decide (x.lo ≤ y.hi + 1) = false := decide_eq_false c4
          have C : Hid (spBad (some y.hi) x = false) := spGood (by omega) (by omega) (by omega) (fun q hq => by cases hq; omega)
          clear c1 c2 c3 c4 hj
          go_wp2
          go_quiet (fail)
          clear e1 e2 e3 e4 e5 e6
          go_wp2
          go_roundg (gk - 1)
          case rel => exact ⟨k + 1, some x.hi, by omega, by go_num, ST.out.2 C.out, .inr ⟨k, x, rfl, HX.out, rfl, X0.out.1, X0.out.2⟩, below_drewN (below_alloc HB.out _) _⟩
          case measure => omega
    · go_wp2
      go_ret
      exact ⟨ret_bool (by rw [← HS.out, List.drop_of_length_le (by omega)]; rfl), hb⟩

end Go.Proofs.YtfeidjjabjejiaaGreatDoor

/- spec.SetOk; the two comparisons of sets; sizes and copies of the laws' arguments. -/
namespace Go.Proofs.YtfeidjjabjejiaaGreatDoor
set_option linter.unusedSimpArgs false
set_option linter.unusedVariables false
set_option maxRecDepth 100000
open Go.RowKit

set_option maxHeartbeats 2000000 in
theorem sSetOk_c (A : Option Addr) (c : Nat) (xs : List Sp) (w : World) {lo : Nat} (h : Sps w lo A c xs) :
    Calls Tryz.prog 132 #[.slice A xs.length c] w fun e w' => e = .returned (.bool (setOk xs)) ∧ Drawn w w' := by
  have hlen := h.len
  unfold maxN at hlen
  go_enter Tryz.func132, Tryz.ntmps132
  go_wp2
  go_loopg [3] (xs.length) (fun n i wr => ∃ (k : Nat) (p : Option Int), k + n = xs.length ∧ i = .int .i64 k ∧ Hid (setOkGo p (xs.drop k) = setOk xs) ∧ Hid (PrevOk xs k p) ∧ Drawn w wr)
  case atStart => exact ⟨0, none, by omega, rfl, by rw [List.drop_zero]; rfl, .inl ⟨rfl, rfl⟩, 0, rfl⟩
  case round =>
    obtain ⟨k, p, hk, rfl, HS, HP, m, rfl⟩ := hrel
    by_cases hlt : k < xs.length
    · obtain ⟨a, x, rfl, HX, HD, h0, h1⟩ := h.at_ k hlt
      have ST : Hid _ := setOkGo_step HD.out HS.out
      clear HD HS
      by_cases c1 : x.lo < 0
      · have d1 : decide (x.lo < 0) = true := decide_eq_true c1
        clear c1
        go_wp2
        go_quiet (fail)
        go_wp2
        go_ret
        exact ⟨ret_bool (by rw [ST.out.1 (spBad_none (.inl (of_decide_eq_true d1)) _)]), drewN_drewN _ _ _⟩
      have d1 : decide (x.lo < 0) = false := decide_eq_false c1
      by_cases c2 : 255 < x.hi
      · have d2 : decide (255 < x.hi) = true := decide_eq_true c2
        clear c1 c2
        go_wp2
        go_quiet (fail)
        go_wp2
        go_ret
        exact ⟨ret_bool (by rw [ST.out.1 (spBad_none (.inr (.inr (of_decide_eq_true d2))) _)]), drewN_drewN _ _ _⟩
      have d2 : decide (255 < x.hi) = false := decide_eq_false c2
      by_cases c3 : x.hi < x.lo
      · have d3 : decide (x.hi < x.lo) = true := decide_eq_true c3
        clear c1 c2 c3
        go_wp2
        go_quiet (fail)
        go_wp2
        go_ret
        exact ⟨ret_bool (by rw [ST.out.1 (spBad_none (.inr (.inl (of_decide_eq_true d3))) _)]), drewN_drewN _ _ _⟩
      have d3 : decide (x.hi < x.lo) = false := decide_eq_false c3
      have X0 : Hid (0 ≤ x.hi ∧ x.hi ≤ 255) := ⟨by omega, by omega⟩
      rcases HP.out with ⟨hk0, rfl⟩ | ⟨j, y, hj, hy, rfl, y0, y1⟩
      · have C : Hid (spBad none x = false) := spGood (by omega) (by omega) (by omega) (fun q hq => by cases hq)
        have d4 : decide (0 < k) = false := decide_eq_false (by omega)
        clear c1 c2 c3 hk0
        go_wp2
        go_quiet (fail)
        go_wp2
        go_roundg (gk - 1)
        case rel => exact ⟨k + 1, some x.hi, by omega, by go_num, ST.out.2 C.out, .inr ⟨k, x, rfl, HX.out, rfl, X0.out.1, X0.out.2⟩, ⟨_, rfl⟩⟩
        case measure => omega
      · obtain ⟨a', y', ea, HY, _, _, h3⟩ := h.at_ (k - 1) (by omega)
        cases ea
        obtain rfl : y = y' := by
          have := HY.out
          rw [show k - 1 = j by omega, hy] at this
          exact Option.some.inj this
        have d4 : decide (0 < k) = true := decide_eq_true (by omega)
        have e1 : IntKind.i64.wrap ((k : Int) - 1) = (k : Int) - 1 := IntWalk.i64_in _ (by omega)
        have e2 : (0 : Int) ≤ (k : Int) - 1 := by omega
        have e6 : (1 : Int) ≤ (k : Int) := by omega
        have e3 : (k : Int) - 1 < (xs.length : Int) := by omega
        have e4 : ((k : Int) - 1).toNat = k - 1 := by omega
        have e5 : IntKind.i64.wrap (y.hi + 1) = y.hi + 1 := IntWalk.i64_in _ (by omega)
        by_cases c4 : x.lo ≤ y.hi + 1
        · have d5 : decide (x.lo ≤ y.hi + 1) = true := decide_eq_true c4
          have C : Hid (spBad (some y.hi) x = true) := spBad_some c4
          clear c1 c2 c3 c4 hj
          go_wp2
          go_quiet (fail)
          clear e1 e2 e3 e4 e5 e6
          go_wp2
          go_ret
          exact ⟨ret_bool (by rw [ST.out.1 C.out]), drewN_drewN _ _ _⟩
        · have d5 : decide (x.lo ≤ y.hi + 1) = false := decide_eq_false c4
          have C : Hid (spBad (some y.hi) x = false) := spGood (by omega) (by omega) (by omega) (fun q hq => by cases hq; omega)
          clear c1 c2 c3 c4 hj
          go_wp2
          go_quiet (fail)
          clear e1 e2 e3 e4 e5 e6
          go_wp2
          go_roundg (gk - 1)
          case rel => exact ⟨k + 1, some x.hi, by omega, by go_num, ST.out.2 C.out, .inr ⟨k, x, rfl, HX.out, rfl, X0.out.1, X0.out.2⟩, ⟨_, rfl⟩⟩
          case measure => omega
    · go_wp2
      go_ret
      exact ⟨ret_bool (by rw [← HS.out, List.drop_of_length_le (by omega)]; rfl), m, rfl⟩

def szLeft (n : Nat) (left : Int) : Int := if left < n then -1 else left - n
theorem szSpanS_c (A : Option Addr) (c n : Nat) (left : Int) (w : World) (hn : n ≤ maxN) (h0 : 0 ≤ left) (h1 : left ≤ 1048576) :
    Calls Tryz.prog 69 #[.slice A n c, .int .i64 left] w fun e w' => e = .returned (.int .i64 (szLeft n left)) ∧ w = w' := by
  unfold maxN at hn
  go_enter Tryz.func69, Tryz.ntmps69
  by_cases hlt : left < n
  · go_wp2
    go_ret
    exact ⟨ret_int (by rw [szLeft, if_pos (by omega)]), rfl⟩
  · go_wp2
    go_ret
    exact ⟨ret_int (by rw [szLeft, if_neg (by omega)]), rfl⟩

theorem toSpan_c (x : Sp) (w : World) :
    Calls Tryz.prog 122 #[.agg #[.int .i64 x.lo, .int .i64 x.hi]] w fun e w' => e = .returned (.agg #[.int .i64 x.lo, .int .i64 x.hi]) ∧ Below w.heap.size w w' := by
  go_enter Tryz.func122, Tryz.ntmps122
  go_wp2
  refine bodyPost_ret (v := .agg #[.int .i64 x.lo, .int .i64 x.hi]) (by simp [results, Tryz.results122, go_sem]) rfl ⟨rfl, ?_⟩
  exact below_alloc (below_alloc (below_alloc (Below.refl _ _) _) _) _

theorem sp_ne1 {x y : Sp} (h : (x.lo != y.lo) = true) : x ≠ y := by rintro rfl; simp at h
theorem sp_ne2 {x y : Sp} (h : (x.hi != y.hi) = true) : x ≠ y := by rintro rfl; simp at h
theorem sp_eq {x y : Sp} (h : (x.lo != y.lo) = false) (h' : (x.hi != y.hi) = false) : x = y := by
  cases x; cases y; simp at h h'; rw [h, h']

theorem eqSpan_c (x y : Sp) (w : World) :
    Calls Tryz.prog 123 #[.agg #[.int .i64 x.lo, .int .i64 x.hi], .agg #[.int .i64 y.lo, .int .i64 y.hi]] w fun e w' => e = .returned (.bool (decide (x = y))) ∧ Below w.heap.size w w' := by
  have B := below_alloc (below_alloc (Below.refl w.heap.size w) (.cells #[.int .i64 x.lo, .int .i64 x.hi] 69)) (.cells #[.int .i64 y.lo, .int .i64 y.hi] 69)
  have HB : Hid _ := B
  clear B
  go_enter Tryz.func123, Tryz.ntmps123
  go_wp2
  all_goals go_ret
  · exact ⟨ret_bool (decide_eq_false (sp_ne1 (by assumption))).symm, HB.out⟩
  · exact ⟨ret_bool (decide_eq_false (sp_ne2 (by assumption))).symm, HB.out⟩
  · exact ⟨ret_bool (decide_eq_true (sp_eq (by assumption) (by assumption))).symm, HB.out⟩

theorem drop_eq_step {xs ys xs' ys' : List Sp} {x y : Sp} {r : Bool} (hx : xs = x :: xs') (hy : ys = y :: ys') (hr : decide (xs = ys) = r) : (decide (x = y) = false → r = false) ∧ (decide (x = y) = true → decide (xs' = ys') = r) := by
  subst hx hy
  rw [← hr]
  refine ⟨fun h => ?_, fun h => ?_⟩
  · rw [decide_eq_false_iff_not] at h ⊢
    intro hc
    exact h (List.cons.inj hc).1
  · rw [decide_eq_true_eq] at h
    subst h
    simp

set_option maxRecDepth 100000 in
set_option maxHeartbeats 1000000 in
theorem eqSpanS_c (A B : Option Addr) (c d : Nat) (xs ys : List Sp) (w : World) {lo lo' : Nat} (h : Sps w lo A c xs) (h' : Sps w lo' B d ys) :
    Calls Tryz.prog 73 #[.slice A xs.length c, .slice B ys.length d] w fun e w' => e = .returned (.bool (decide (xs = ys))) ∧ Below w.heap.size w w' := by
  have hlen := h.len
  have hlen' := h'.len
  unfold maxN at hlen hlen'
  by_cases he : xs.length = ys.length
  · have b1 : ((xs.length : Int) != (ys.length : Int)) = false := by simp [he]
    have HE : Hid (xs.length = ys.length) := he
    clear he
    go_enter Tryz.func73, Tryz.ntmps73
    go_wp2
    go_loopg [5] (xs.length) (fun n i wr => ∃ k : Nat, k + n = xs.length ∧ i = .int .i64 k ∧ Hid (decide (xs.drop k = ys.drop k) = decide (xs = ys)) ∧ Below w.heap.size w wr)
    case atStart => exact ⟨0, by omega, rfl, by rw [List.drop_zero, List.drop_zero]; rfl, Below.refl _ _⟩
    case round =>
      obtain ⟨k, hk, rfl, HS, hb⟩ := hrel
      by_cases hlt : k < xs.length
      · have hlt' : k < ys.length := by have := HE.out; omega
        obtain ⟨a, x, rfl, _, HD, h0, h1⟩ := (h.below hb).at_ k hlt
        obtain ⟨a', y, rfl, _, HD', h0', h1'⟩ := (h'.below hb).at_ k hlt'
        have ST : Hid _ := drop_eq_step HD.out HD'.out HS.out
        go_wp2
        go_still_tail 8, (by kernel_rfl)
        go_wp2_with (go_at_call 123; refine (eqSpan_c _ _ _).mono ?_; rintro e w' ⟨rfl, hb'⟩)
        · go_ret
          exact ⟨ret_bool (ST.out.1 (by simpa using ‹(!decide (x = y)) = true›)).symm, below_then (below_drew hb) hb'⟩
        · go_roundg (gk - 1)
          case rel => exact ⟨k + 1, by omega, by go_num, ST.out.2 (by simpa using ‹(!decide (x = y)) = false›), below_then (below_drew hb) hb'⟩
          case measure => omega
      · go_wp2
        go_ret
        exact ⟨ret_bool (by rw [← HS.out, List.drop_of_length_le (by omega), List.drop_of_length_le (by have := HE.out; omega)]; rfl), hb⟩
  · have b1 : ((xs.length : Int) != (ys.length : Int)) = true := by simp; omega
    have b2 : (xs.length == ys.length) = false := by simp [he]
    have C : Hid (decide (xs = ys) = false) := decide_eq_false (by rintro rfl; exact he rfl)
    clear he
    go_enter Tryz.func73, Tryz.ntmps73
    go_wp2
    go_ret
    exact ⟨ret_bool C.out.symm, Below.refl _ _⟩

end Go.Proofs.YtfeidjjabjejiaaGreatDoor
