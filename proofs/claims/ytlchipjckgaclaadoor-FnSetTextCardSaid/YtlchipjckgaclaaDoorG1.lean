/- Texts joined for the claims: Sets Lib W1h Tx Own Blk Bw. -/
import Derived.Test.YtlchipjckgaclaaDoorProg
import Derived.Below
import Derived.Deep.Draws
import Derived.Deep.AppendLies
import Derived.OwnWalk
import Derived.Laws.MakeOwn
import Derived.Laws.OwnMore
import Derived.Deep.OwnRows
import Derived.Tactics
import Derived.Laws.Slices
import Derived.WalkKit
import Derived.KernelRfl
import Derived.RowKit3
import Derived.Deep.LoopGhost
import Derived.Deep.QuietTactic
import Derived.BigQuiet
import Derived.WideLaws
import Derived.Deep.DeepCutAuto
import Derived.Deep.CutBlock
import Derived.Deep.RegionHeld3
import Derived.Laws.Rows
import Derived.Lib.Hide
import Derived.StillTailTactics
import Derived.Lib.ItoaMem
import Derived.Lib.ItoaLen
import Derived.Lib.Join
import Derived.Laws.IdiomStrings
/- Sets of bytes as lists of spans: the plain functions, and what holds of them. No program in sight. -/
namespace Go.Proofs.YtlchipjckgaclaaDoor
set_option linter.unusedSimpArgs false
set_option linter.unusedVariables false
set_option maxRecDepth 100000

structure Sp where
  lo : Int
  hi : Int
  deriving DecidableEq

instance : Inhabited Sp := ⟨⟨0, 0⟩⟩

def spBad (p : Option Int) (x : Sp) : Bool :=
  decide (x.lo < 0) || decide (x.hi < x.lo) || decide (255 < x.hi) || (match p with | none => false | some h => decide (x.lo ≤ h + 1))
def setOkGo : Option Int → List Sp → Bool
  | _, [] => true
  | p, x :: xs => !spBad p x && setOkGo (some x.hi) xs
def setOk (xs : List Sp) : Bool := setOkGo none xs

def spIn (x : Sp) (b : Int) : Bool := decide (x.lo ≤ b) && decide (b ≤ x.hi)
def setHas (xs : List Sp) (b : Int) : Bool := xs.any fun x => spIn x b

/-- the last span goes on to n -/
def spExt (out : List Sp) (n : Int) : List Sp := out.modify (out.length - 1) fun x => ⟨x.lo, n⟩
def spansTo (f : Nat → Bool) : Nat → List Sp
  | 0 => []
  | n + 1 => if f n then (if 0 < n ∧ f (n - 1) = true then spExt (spansTo f n) n else spansTo f n ++ [⟨n, n⟩]) else spansTo f n
def spansOf (f : Nat → Bool) : List Sp := spansTo f 256

def setJoin (a b : List Sp) : List Sp := if setOk a && setOk b then spansOf (fun i => setHas a i || setHas b i) else []
def setMeet (a b : List Sp) : List Sp := if setOk a && setOk b then spansOf (fun i => setHas a i && setHas b i) else []
def setNot (a : List Sp) : List Sp := if setOk a then spansOf (fun i => !setHas a i) else []
/-- how many of the first n -/
def cnt (f : Nat → Bool) : Nat → Nat
  | 0 => 0
  | n + 1 => cnt f n + if f n then 1 else 0
def setSize (s : List Sp) : Int := cnt (fun i => setHas s i) 256
/-- the first from i on, with d to look at -/
def firstGo (f : Nat → Bool) : Nat → Nat → Int
  | 0, _ => -1
  | d + 1, i => if f i then (i : Int) else firstGo f d (i + 1)
def setFirst (s : List Sp) : Int := firstGo (fun i => setHas s i) 256 0

theorem setHas_nil (b : Int) : setHas [] b = false := rfl
theorem setHas_cons (x : Sp) (xs : List Sp) (b : Int) : setHas (x :: xs) b = (spIn x b || setHas xs b) := rfl
theorem setHas_append (xs ys : List Sp) (b : Int) : setHas (xs ++ ys) b = (setHas xs b || setHas ys b) := by simp [setHas]

theorem spIn_iff (x : Sp) (b : Int) : spIn x b = true ↔ x.lo ≤ b ∧ b ≤ x.hi := by simp [spIn]

theorem spExt_snoc (xs : List Sp) (x : Sp) (n : Int) : spExt (xs ++ [x]) n = xs ++ [⟨x.lo, n⟩] := by
  unfold spExt
  rw [List.length_append, List.length_singleton, Nat.add_sub_cancel]
  induction xs with
  | nil => rfl
  | cons y ys ih => simpa using ih

/-- what the spans of the first n are: all is within, the last ends at n - 1 just if f (n - 1) -/
structure Upto (f : Nat → Bool) (n : Nat) (out : List Sp) : Prop where
  has : ∀ b : Int, setHas out b = true ↔ ∃ k : Nat, k < n ∧ f k = true ∧ b = k
  last : 0 < n → f (n - 1) = true → ∃ xs x, out = xs ++ [x] ∧ x.hi = (n : Int) - 1
  ok : setOk out = true

theorem setOkGo_append (xs ys : List Sp) : ∀ p, setOkGo p (xs ++ ys) = (setOkGo p xs && setOkGo (match xs.getLast? with | some x => some x.hi | none => p) ys) := by
  induction xs with
  | nil => intro p; simp [setOkGo]
  | cons x xs ih =>
    intro p
    simp only [List.cons_append, setOkGo, ih, Bool.and_assoc]
    congr 2
    cases xs with
    | nil => simp
    | cons y ys =>
      have h : (y :: ys).getLast? = some ((y :: ys).getLast (by simp)) := List.getLast?_eq_some_getLast _
      simp [List.getLast?_cons_cons, h]

theorem setOk_snoc (xs : List Sp) (x : Sp) : setOk (xs ++ [x]) = (setOk xs && !spBad (xs.getLast?.map (·.hi)) x) := by
  unfold setOk
  rw [setOkGo_append]
  cases h : xs.getLast? <;> simp [setOkGo]

theorem spBad_false (p : Option Int) (x : Sp) : spBad p x = false ↔ 0 ≤ x.lo ∧ x.lo ≤ x.hi ∧ x.hi ≤ 255 ∧ ∀ h, p = some h → h + 1 < x.lo := by
  unfold spBad
  cases p with
  | none => simp; omega
  | some h => simp; omega

theorem setOk_last {xs : List Sp} (h : setOk xs = true) {x : Sp} (hx : xs.getLast? = some x) : 0 ≤ x.lo ∧ x.lo ≤ x.hi ∧ x.hi ≤ 255 := by
  obtain ⟨ys, rfl⟩ := List.getLast?_eq_some_iff.1 hx
  rw [setOk_snoc] at h
  simp only [Bool.and_eq_true, Bool.not_eq_true'] at h
  have := (spBad_false _ _).1 h.2
  omega

theorem upto_spans (f : Nat → Bool) : ∀ n, n ≤ 256 → Upto f n (spansTo f n) := by
  intro n
  induction n with
  | zero => intro _; exact ⟨fun b => by simp [spansTo, setHas], fun h => absurd h (by omega), rfl⟩
  | succ n ih =>
    intro hn
    have h := ih (by omega)
    by_cases hf : f n = true
    · by_cases hp : 0 < n ∧ f (n - 1) = true
      · obtain ⟨xs, x, hxs, hx⟩ := h.last hp.1 hp.2
        have e : spansTo f (n + 1) = xs ++ [⟨x.lo, n⟩] := by
          simp only [spansTo, hf, if_true, hp, and_self]
          rw [hxs, spExt_snoc]
        have hok := h.ok
        rw [hxs, setOk_snoc] at hok
        simp only [Bool.and_eq_true, Bool.not_eq_true'] at hok
        have hb := (spBad_false _ _).1 hok.2
        rw [e]
        refine ⟨fun b => ?_, fun _ _ => ⟨xs, ⟨x.lo, n⟩, rfl, by simp⟩, ?_⟩
        · have hb0 := h.has b
          rw [hxs, setHas_append] at hb0
          rw [setHas_append]
          simp only [setHas_cons, setHas_nil, Bool.or_false, Bool.or_eq_true, spIn_iff] at hb0 ⊢
          constructor
          · rintro (h1 | h1)
            · obtain ⟨k, hk, hfk, rfl⟩ := hb0.1 (.inl h1)
              exact ⟨k, by omega, hfk, rfl⟩
            · by_cases hbn : b = n
              · exact ⟨n, by omega, hf, hbn⟩
              · obtain ⟨k, hk, hfk, rfl⟩ := hb0.1 (.inr (by omega))
                exact ⟨k, by omega, hfk, rfl⟩
          · rintro ⟨k, hk, hfk, rfl⟩
            by_cases hkn : k = n
            · right; subst hkn; simp; omega
            · rcases hb0.2 ⟨k, by omega, hfk, rfl⟩ with h1 | h1
              · exact .inl h1
              · right; simp; omega
        · rw [setOk_snoc, hok.1]
          simp only [Bool.true_and, Bool.not_eq_true']
          rw [spBad_false]
          refine ⟨hb.1, ?_, ?_, hb.2.2.2⟩
          · show x.lo ≤ (n : Int); omega
          · show (n : Int) ≤ 255; omega
      · have e : spansTo f (n + 1) = spansTo f n ++ [⟨n, n⟩] := by
          simp only [spansTo, hf, if_true, hp, if_false]
        rw [e]
        refine ⟨fun b => ?_, fun _ _ => ⟨_, ⟨n, n⟩, rfl, by simp⟩, ?_⟩
        · have hb0 := h.has b
          rw [setHas_append]
          simp only [setHas_cons, setHas_nil, Bool.or_false, Bool.or_eq_true, spIn_iff]
          constructor
          · rintro (h1 | h1)
            · obtain ⟨k, hk, hfk, rfl⟩ := hb0.1 h1
              exact ⟨k, by omega, hfk, rfl⟩
            · exact ⟨n, by omega, hf, by omega⟩
          · rintro ⟨k, hk, hfk, rfl⟩
            by_cases hkn : k = n
            · right; subst hkn; simp
            · exact .inl (hb0.2 ⟨k, by omega, hfk, rfl⟩)
        · rw [setOk_snoc, h.ok]
          simp only [Bool.true_and, Bool.not_eq_true']
          rw [spBad_false]
          refine ⟨by show (0 : Int) ≤ n; omega, by show (n : Int) ≤ n; omega, by show (n : Int) ≤ 255; omega, ?_⟩
          intro hh hhe
          cases hl : (spansTo f n).getLast? with
          | none => rw [hl] at hhe; cases hhe
          | some x =>
            rw [hl] at hhe
            simp only [Option.map_some, Option.some.injEq] at hhe
            subst hhe
            show x.hi + 1 < (n : Int)
            obtain ⟨ys, hys⟩ := List.getLast?_eq_some_iff.1 hl
            have hb := setOk_last h.ok hl
            have hin : setHas (spansTo f n) x.hi = true := by
              rw [hys, setHas_append]
              simp [setHas_cons, spIn]
              right; omega
            obtain ⟨k, hk, hfk, hke⟩ := (h.has _).1 hin
            have hkn : k ≠ n - 1 := by
              rintro rfl
              exact hp ⟨by omega, hfk⟩
            omega
    · have e : spansTo f (n + 1) = spansTo f n := by simp only [spansTo, hf]; simp
      rw [e]
      refine ⟨fun b => ?_, fun _ h2 => absurd h2 (by simpa using hf), h.ok⟩
      rw [h.has b]
      constructor
      · rintro ⟨k, hk, hfk, rfl⟩; exact ⟨k, by omega, hfk, rfl⟩
      · rintro ⟨k, hk, hfk, rfl⟩
        by_cases hkn : k = n
        · subst hkn; exact absurd hfk hf
        · exact ⟨k, by omega, hfk, rfl⟩

theorem setOk_spans (f : Nat → Bool) : setOk (spansOf f) = true := (upto_spans f 256 (by omega)).ok
theorem setHas_spans (f : Nat → Bool) (b : Int) : setHas (spansOf f) b = true ↔ ∃ k : Nat, k < 256 ∧ f k = true ∧ b = k := (upto_spans f 256 (by omega)).has b
theorem setHas_spans_nat (f : Nat → Bool) (k : Nat) (hk : k < 256) : setHas (spansOf f) k = f k := by
  rw [Bool.eq_iff_iff, setHas_spans]
  constructor
  · rintro ⟨j, _, hf, he⟩
    have : j = k := by omega
    rw [← this]; exact hf
  · intro h; exact ⟨k, hk, h, rfl⟩
theorem setHas_spans_out (f : Nat → Bool) (b : Int) (hb : b < 0 ∨ 255 < b) : setHas (spansOf f) b = false := by
  rw [Bool.eq_false_iff]
  intro h
  obtain ⟨k, hk, _, rfl⟩ := (setHas_spans f b).1 h
  omega

theorem spansTo_congr {f g : Nat → Bool} : ∀ n, (∀ k, k < n → f k = g k) → spansTo f n = spansTo g n := by
  intro n
  induction n with
  | zero => intro _; rfl
  | succ n ih =>
    intro h
    have e := ih (fun k hk => h k (by omega))
    have e0 := h n (by omega)
    simp only [spansTo, e0, e]
    by_cases hn : 0 < n
    · rw [h (n - 1) (by omega)]
    · simp [hn]
theorem spansOf_congr {f g : Nat → Bool} (h : ∀ k, k < 256 → f k = g k) : spansOf f = spansOf g := spansTo_congr 256 h

theorem spansTo_length (f : Nat → Bool) : ∀ n, (spansTo f n).length ≤ n := by
  intro n
  induction n with
  | zero => simp [spansTo]
  | succ n ih =>
    simp only [spansTo]
    split
    · split
      · rw [spExt, List.length_modify]; omega
      · rw [List.length_append, List.length_singleton]; omega
    · omega
theorem spansTo_no {f : Nat → Bool} {n : Nat} (h : f n = false) : spansTo f (n + 1) = spansTo f n := by simp [spansTo, h]
theorem spansTo_new {f : Nat → Bool} {n : Nat} (h : f n = true) (h' : n = 0 ∨ f (n - 1) = false) : spansTo f (n + 1) = spansTo f n ++ [⟨n, n⟩] := by
  have : ¬ (0 < n ∧ f (n - 1) = true) := by
    rintro ⟨h1, h2⟩
    rcases h' with h' | h'
    · omega
    · rw [h'] at h2; cases h2
  simp only [spansTo, h, if_true, this, if_false]
theorem spansTo_ext {f : Nat → Bool} {n : Nat} (h : f n = true) (h1 : 0 < n) (h2 : f (n - 1) = true) (hn : n ≤ 256) :
    ∃ x, (spansTo f n)[(spansTo f n).length - 1]? = some x ∧ 0 < (spansTo f n).length ∧ x.hi = (n : Int) - 1 ∧ spansTo f (n + 1) = (spansTo f n).set ((spansTo f n).length - 1) ⟨x.lo, n⟩ := by
  obtain ⟨xs, x, e, hx⟩ := (upto_spans f n hn).last h1 h2
  refine ⟨x, by rw [e]; simp, by rw [e]; simp, hx, ?_⟩
  simp only [spansTo, h, if_true, h1, h2, and_self]
  rw [e, spExt_snoc]
  simp
/-! ### each set is written in one way -/
theorem okGo_lo {p : Option Int} {xs : List Sp} (h : setOkGo p xs = true) : ∀ b, setHas xs b = true → 0 ≤ b ∧ b ≤ 255 ∧ ∀ q, p = some q → q + 1 < b := by
  induction xs generalizing p with
  | nil => intro b hb; simp [setHas] at hb
  | cons x xs ih =>
    intro b hb
    simp only [setOkGo, Bool.and_eq_true, Bool.not_eq_true'] at h
    have h1 := (spBad_false _ _).1 h.1
    rw [setHas_cons, Bool.or_eq_true, spIn_iff] at hb
    rcases hb with hb | hb
    · refine ⟨by omega, by omega, fun q hq => ?_⟩
      have := h1.2.2.2 q hq
      omega
    · have h2 := ih h.2 b hb
      have h3 := h2.2.2 x.hi rfl
      refine ⟨h2.1, h2.2.1, fun q hq => ?_⟩
      have := h1.2.2.2 q hq
      omega
theorem setOk_range {xs : List Sp} (h : setOk xs = true) {b : Int} (hb : setHas xs b = true) : 0 ≤ b ∧ b ≤ 255 :=
  let r := okGo_lo (p := none) h b hb
  ⟨r.1, r.2.1⟩

theorem okGo_ext {xs ys : List Sp} : ∀ {p q : Option Int}, setOkGo p xs = true → setOkGo q ys = true → (∀ b, setHas xs b = setHas ys b) → xs = ys := by
  induction xs generalizing ys with
  | nil =>
    intro p q _ hy h
    cases ys with
    | nil => rfl
    | cons y ys =>
      simp only [setOkGo, Bool.and_eq_true, Bool.not_eq_true'] at hy
      have h1 := (spBad_false _ _).1 hy.1
      have := h y.lo
      rw [setHas_cons, setHas_nil] at this
      have h2 : spIn y y.lo = true := (spIn_iff _ _).2 ⟨by omega, by omega⟩
      rw [h2] at this
      cases this
  | cons x xs ih =>
    intro p q hx hy h
    cases ys with
    | nil =>
      simp only [setOkGo, Bool.and_eq_true, Bool.not_eq_true'] at hx
      have h1 := (spBad_false _ _).1 hx.1
      have := h x.lo
      rw [setHas_cons, setHas_nil] at this
      have h2 : spIn x x.lo = true := (spIn_iff _ _).2 ⟨by omega, by omega⟩
      rw [h2] at this
      cases this
    | cons y ys =>
      simp only [setOkGo, Bool.and_eq_true, Bool.not_eq_true'] at hx hy
      have bx := (spBad_false _ _).1 hx.1
      have bY := (spBad_false _ _).1 hy.1
      have lx := okGo_lo hx.2
      have ly := okGo_lo hy.2
      have inx : ∀ b, setHas (x :: xs) b = true ↔ (x.lo ≤ b ∧ b ≤ x.hi) ∨ setHas xs b = true := fun b => by rw [setHas_cons, Bool.or_eq_true, spIn_iff]
      have iny : ∀ b, setHas (y :: ys) b = true ↔ (y.lo ≤ b ∧ b ≤ y.hi) ∨ setHas ys b = true := fun b => by rw [setHas_cons, Bool.or_eq_true, spIn_iff]
      have hh : ∀ b, ((x.lo ≤ b ∧ b ≤ x.hi) ∨ setHas xs b = true) ↔ ((y.lo ≤ b ∧ b ≤ y.hi) ∨ setHas ys b = true) := fun b => by rw [← inx, ← iny, h b]
      have hxs : ∀ b, setHas xs b = true → x.hi + 1 < b := fun b hb => (lx b hb).2.2 _ rfl
      have hys : ∀ b, setHas ys b = true → y.hi + 1 < b := fun b hb => (ly b hb).2.2 _ rfl
      have e1 : x.lo = y.lo := by
        have h1 := (hh x.lo).1 (.inl ⟨by omega, by omega⟩)
        have h2 := (hh y.lo).2 (.inl ⟨by omega, by omega⟩)
        have h3 : y.lo ≤ x.lo := by
          rcases h1 with h1 | h1
          · omega
          · have := hys _ h1; omega
        have h4 : x.lo ≤ y.lo := by
          rcases h2 with h2 | h2
          · omega
          · have := hxs _ h2; omega
        omega
      have e2 : x.hi = y.hi := by
        have h1 := (hh x.hi).1 (.inl ⟨by omega, by omega⟩)
        have h2 := (hh y.hi).2 (.inl ⟨by omega, by omega⟩)
        have h5 : ¬ (x.hi < y.hi) := by
          intro hlt
          rcases (hh (x.hi + 1)).2 (.inl ⟨by omega, by omega⟩) with h6 | h6
          · omega
          · have := hxs _ h6; omega
        have h7 : ¬ (y.hi < x.hi) := by
          intro hlt
          rcases (hh (y.hi + 1)).1 (.inl ⟨by omega, by omega⟩) with h6 | h6
          · omega
          · have := hys _ h6; omega
        omega
      have e : x = y := by
        cases x; cases y; simp at e1 e2; rw [e1, e2]
      subst e
      congr 1
      refine ih hx.2 hy.2 (fun b => ?_)
      rw [Bool.eq_iff_iff]
      have := hh b
      constructor
      · intro hb
        rcases this.1 (.inr hb) with h8 | h8
        · have := hxs _ hb; omega
        · exact h8
      · intro hb
        rcases this.2 (.inr hb) with h8 | h8
        · have := hys _ hb; omega
        · exact h8
theorem setOk_ext {xs ys : List Sp} (hx : setOk xs = true) (hy : setOk ys = true) (h : ∀ b, setHas xs b = setHas ys b) : xs = ys := okGo_ext hx hy h
theorem setOk_ext_nat {xs ys : List Sp} (hx : setOk xs = true) (hy : setOk ys = true) (h : ∀ k : Nat, k < 256 → setHas xs k = setHas ys k) : xs = ys := by
  refine setOk_ext hx hy (fun b => ?_)
  by_cases hb : 0 ≤ b ∧ b ≤ 255
  · obtain ⟨k, rfl⟩ : ∃ k : Nat, b = k := ⟨b.toNat, by omega⟩
    exact h k (by omega)
  · have h1 : setHas xs b = false := Bool.eq_false_iff.2 fun hc => hb (setOk_range hx hc)
    have h2 : setHas ys b = false := Bool.eq_false_iff.2 fun hc => hb (setOk_range hy hc)
    rw [h1, h2]
theorem spans_self {s : List Sp} (h : setOk s = true) : spansOf (fun i => setHas s i) = s :=
  setOk_ext_nat (setOk_spans _) h fun k hk => setHas_spans_nat _ k hk

/-! ### what the laws write over a set -/
def markSps : Int → List Sp → List Sp
  | _, [] => []
  | k, _ :: xs => ⟨k, k + 1⟩ :: markSps (k + 2) xs
theorem markSps_length (xs : List Sp) : ∀ k, (markSps k xs).length = xs.length := by
  induction xs with
  | nil => intro k; rfl
  | cons x xs ih => intro k; simp [markSps, ih]
theorem markSps_get (xs : List Sp) : ∀ k j, j < xs.length → (markSps k xs)[j]? = some ⟨k + 2 * j, k + 2 * j + 1⟩ := by
  induction xs with
  | nil => intro k j h; simp at h
  | cons x xs ih =>
    intro k j h
    cases j with
    | zero => simp [markSps]
    | succ j =>
      rw [markSps, List.getElem?_cons_succ, ih _ _ (by simpa using h)]
      simp only [Option.some.injEq, Sp.mk.injEq]
      omega
theorem markSps_set (xs : List Sp) (k : Int) (j : Nat) (h : j < xs.length) :
    ((markSps k xs).take j ++ xs.drop j).set j ⟨k + 2 * j, k + 2 * j + 1⟩ = (markSps k xs).take (j + 1) ++ xs.drop (j + 1) := by
  have hl : ((markSps k xs).take j).length = j := by rw [List.length_take, markSps_length]; omega
  rw [List.set_append, if_neg (by omega), hl, Nat.sub_self, List.drop_eq_getElem_cons h, List.set_cons_zero, List.take_add_one, markSps_get _ _ _ h]
  simp

end Go.Proofs.YtlchipjckgaclaaDoor

/- What is read in memory: rows of cells, spans, trees; how it stays where new memory is made. -/
namespace Go.Proofs.YtlchipjckgaclaaDoor
set_option linter.unusedSimpArgs false
set_option linter.unusedVariables false
set_option maxRecDepth 100000
open Go.RowKit

abbrev maxN : Nat := 9223372036854775807

theorem ret_bool {a b : Bool} (h : a = b) : Ending.returned (.bool a) = Ending.returned (.bool b) := by rw [h]
theorem ret_int {k : IntKind} {a b : Int} (h : a = b) : Ending.returned (.int k a) = Ending.returned (.int k b) := by rw [h]
def Drawn (w w' : World) : Prop := ∃ n, w' = w.drewN n
theorem Drawn.refl (w : World) : Drawn w w := ⟨0, rfl⟩
theorem Drawn.below {w w' : World} (h : Drawn w w') : Below w.heap.size w w' := by
  obtain ⟨n, rfl⟩ := h
  exact ⟨rfl, rfl, rfl, Nat.le_refl _, fun _ _ => rfl⟩

theorem drewN_drewN (w : World) (m n : Nat) : ∃ k, (w.drewN m).drewN n = w.drewN k := ⟨m + n, by simp only [World.drewN]; congr 1; omega⟩
theorem Drawn.step {w w' : World} (h : Drawn w w') (n : Nat) : Drawn w (w'.drewN n) := by
  obtain ⟨m, rfl⟩ := h
  exact drewN_drewN w m n
theorem Drawn.trans {w w1 w2 : World} (h : Drawn w w1) (k : Drawn w1 w2) : Drawn w w2 := by
  obtain ⟨m, rfl⟩ := h
  obtain ⟨n, rfl⟩ := k
  exact drewN_drewN w m n
theorem drewN_drew (w : World) (m : Nat) : ∃ k, (w.drewN m).drew = w.drewN k := ⟨m + 1, rfl⟩
/-- the cells cs lie at a -/
def CellsAt (w : World) (a : Addr) (cs : List Value) : Prop := ∀ j u, cs[j]? = some u → w.cell? (a.add j) = some u
theorem CellsAt.below {w w' : World} {a : Addr} {cs : List Value} (h : CellsAt w a cs) (hb : Below w.heap.size w w') : CellsAt w' a cs :=
  fun j u hj => (hb.cell (World.block_lt_of_cell? w _ (h j u hj))).trans (h j u hj)
theorem add_block (a : Addr) (j : Nat) : (a.add j).block = a.block := by unfold Addr.add; split <;> rfl
theorem CellsAt.keep {w w' : World} {a : Addr} {cs : List Value} (h : CellsAt w a cs) (hk : a.block < w.heap.size → w'.heap[a.block]? = w.heap[a.block]?) : CellsAt w' a cs := by
  intro j u hj
  have h0 := h j u hj
  have hlt := World.block_lt_of_cell? w _ h0
  rw [add_block] at hlt
  rw [← h0]
  exact World.cell?_of_block (w := w) (by rw [add_block]; exact hk hlt)
theorem add_field (ad : Addr) (m j : Nat) (hj : 0 < j) : ad.add (m + j) = ⟨(ad.add m).block, (ad.add m).off + j, none⟩ := by
  unfold Addr.add
  by_cases hm : m = 0 <;> simp [hm] <;> omega

/-- a row of cells that is read: where it has cells, it has an address, in a block from lo on -/
def Row (w : World) (lo : Nat) (A : Option Addr) (cs : List Value) : Prop := cs = [] ∨ ∃ a, A = some a ∧ lo ≤ a.block ∧ CellsAt w a cs
theorem Row.below {w w' : World} {lo : Nat} {A : Option Addr} {cs : List Value} (h : Row w lo A cs) (hb : Below w.heap.size w w') : Row w' lo A cs :=
  h.imp id fun ⟨a, e, hl, hc⟩ => ⟨a, e, hl, hc.below hb⟩
theorem Row.keep {w w' : World} {lo : Nat} {A : Option Addr} {cs : List Value} (h : Row w lo A cs) (hk : ∀ k, lo ≤ k → k < w.heap.size → w'.heap[k]? = w.heap[k]?) : Row w' lo A cs :=
  h.imp id fun ⟨a, e, hl, hc⟩ => ⟨a, e, hl, hc.keep (hk _ hl)⟩
theorem Row.lower {w : World} {lo lo' : Nat} {A : Option Addr} {cs : List Value} (h : Row w lo A cs) (hl : lo' ≤ lo) : Row w lo' A cs :=
  h.imp id fun ⟨a, e, h1, hc⟩ => ⟨a, e, Nat.le_trans hl h1, hc⟩

/-! ### spans -/
def spc (x : Sp) : List Value := [.int .i64 x.lo, .int .i64 x.hi]
def spcs (xs : List Sp) : List Value := xs.flatMap spc
theorem spcs_length (xs : List Sp) : (spcs xs).length = xs.length * 2 := by
  induction xs with
  | nil => rfl
  | cons x xs ih => simp only [spcs, List.flatMap_cons, List.length_append, List.length_cons] at ih ⊢; rw [ih]; simp [spc]; omega
theorem spcs_get (xs : List Sp) : ∀ k, k < xs.length → (spcs xs)[k * 2]? = some (.int .i64 (xs.getD k default).lo) ∧ (spcs xs)[k * 2 + 1]? = some (.int .i64 (xs.getD k default).hi) := by
  induction xs with
  | nil => intro k hk; simp at hk
  | cons x xs ih =>
    intro k hk
    cases k with
    | zero => simp [spcs, spc]
    | succ k =>
      have h := ih k (by simpa using hk)
      have e : spcs (x :: xs) = .int .i64 x.lo :: .int .i64 x.hi :: spcs xs := rfl
      rw [e, show (k + 1) * 2 = k * 2 + 1 + 1 by omega]
      simp only [List.getElem?_cons_succ, List.getD_cons_succ]
      exact h
structure Sps (w : World) (lo : Nat) (A : Option Addr) (c : Nat) (xs : List Sp) : Prop where
  row : Row w lo A (spcs xs)
  cap : xs.length ≤ c
  len : xs.length ≤ maxN
theorem Sps.below {w w' : World} {lo : Nat} {A : Option Addr} {c : Nat} {xs : List Sp} (h : Sps w lo A c xs) (hb : Below w.heap.size w w') : Sps w' lo A c xs := ⟨h.row.below hb, h.cap, h.len⟩
theorem Sps.at_ {w : World} {lo : Nat} {A : Option Addr} {c : Nat} {xs : List Sp} (h : Sps w lo A c xs) (k : Nat) (hk : k < xs.length) :
    ∃ a x, A = some a ∧ Hid (xs[k]? = some x) ∧ Hid (xs.drop k = x :: xs.drop (k + 1)) ∧ w.cell? (a.add (k * 2)) = some (.int .i64 x.lo) ∧ w.cell? ⟨(a.add (k * 2)).block, (a.add (k * 2)).off + 1, none⟩ = some (.int .i64 x.hi) := by
  rcases h.row with h0 | ⟨a, e, _, hc⟩
  · have := congrArg List.length h0
    rw [spcs_length, List.length_nil] at this
    omega
  · have hg := spcs_get xs k hk
    have e1 : xs.getD k default = xs[k] := by simp [List.getD_eq_getElem?_getD, List.getElem?_eq_getElem hk]
    rw [e1] at hg
    exact ⟨a, xs[k], e, List.getElem?_eq_getElem hk, List.drop_eq_getElem_cons hk, hc _ _ hg.1, by rw [← add_field _ _ 1 (by omega)]; exact hc _ _ hg.2⟩
theorem below_alloc {w W : World} (h : Below w.heap.size w W) (o : Obj) : Below w.heap.size w (W.alloc o) := h.alloc h.size o
theorem cell_alloc {w : World} {a : Addr} {v : Value} (h : w.cell? a = some v) (o : Obj) : (w.alloc o).cell? a = some v :=
  ((below_alloc (Below.refl _ w) o).cell (World.block_lt_of_cell? w _ h)).trans h
theorem below_set {w W : World} (h : Below w.heap.size w W) {p : Addr} (hp : w.heap.size ≤ p.block) (u : Value) : Below w.heap.size w (W.setCell p u) := h.setCell hp u
theorem below_drew {w W : World} (h : Below w.heap.size w W) : Below w.heap.size w W.drew := ⟨h.os, h.tape, h.output, h.size, h.block⟩
theorem below_drewN {w W : World} (h : Below w.heap.size w W) (n : Nat) : Below w.heap.size w (W.drewN n) := ⟨h.os, h.tape, h.output, h.size, h.block⟩
theorem below_then {w w1 w2 : World} (h : Below w.heap.size w w1) (k : Below w1.heap.size w1 w2) : Below w.heap.size w w2 := h.trans (k.mono h.size)

end Go.Proofs.YtlchipjckgaclaaDoor

/- in, SetHas. -/
namespace Go.Proofs.YtlchipjckgaclaaDoor
set_option linter.unusedSimpArgs false
set_option linter.unusedVariables false
set_option maxRecDepth 100000
open Go.RowKit

theorem in_c (n lo hi : Int) (w : World) :
    Calls Tryd.prog 71 #[.int .i64 n, .int .i64 lo, .int .i64 hi] w fun e w' => e = .returned (.bool (decide (lo ≤ n) && decide (n ≤ hi))) ∧ w = w' := by
  go_enter Tryd.func71, Tryd.ntmps71
  go_wp2
  all_goals go_ret
  · exact ⟨ret_bool (by rw [decide_eq_true (by assumption : lo ≤ n)]; rfl), rfl⟩
  · exact ⟨ret_bool (by rw [decide_eq_false (by omega : ¬ lo ≤ n)]; rfl), rfl⟩

theorem spIn_true {x : Sp} {b : Int} (h : x.lo ≤ b ∧ b ≤ x.hi) : spIn x b = true := (spIn_iff x b).2 h
theorem spIn_false {x : Sp} {b : Int} (h : b < x.lo ∨ x.hi < b) : spIn x b = false := by
  rw [Bool.eq_false_iff]
  intro hc
  have := (spIn_iff x b).1 hc
  omega

theorem iSetHas_c (A : Option Addr) (c : Nat) (xs : List Sp) (b : Int) (w : World) {lo : Nat} (h : Sps w lo A c xs) :
    Calls Tryd.prog 36 #[.slice A xs.length c, .int .i64 b] w fun e w' => e = .returned (.bool (setHas xs b)) ∧ Below w.heap.size w w' := by
  have hlen := h.len
  unfold maxN at hlen
  go_enter Tryd.func36, Tryd.ntmps36
  go_wp2
  go_loopg [9] (xs.length) (fun n i wr => ∃ k : Nat, k + n = xs.length ∧ i = .int .i64 k ∧ Hid (setHas (xs.drop k) b = setHas xs b) ∧ Below w.heap.size w wr)
  case atStart => exact ⟨0, by omega, rfl, by rw [List.drop_zero]; rfl, Below.refl _ _⟩
  case round =>
    obtain ⟨k, hk, rfl, HS, hb⟩ := hrel
    by_cases hlt : k < xs.length
    · obtain ⟨a, x, rfl, _, HD, h0, h1⟩ := (h.below hb).at_ k hlt
      go_wp2_with (go_at_call 71; refine (in_c _ _ _ _).mono ?_; rintro e w' ⟨rfl, rfl⟩)
      · go_ret
        exact ⟨ret_bool (by rw [← HS.out, HD.out, setHas_cons, spIn_true (by assumption)]; rfl), below_alloc hb _⟩
      · go_roundg (gk - 1)
        case rel => exact ⟨k + 1, by omega, by go_num, by rw [← HS.out, HD.out, setHas_cons, spIn_false (by assumption)]; rfl, below_alloc hb _⟩
        case measure => omega
    · go_wp2
      go_ret
      exact ⟨ret_bool (by rw [← HS.out, List.drop_of_length_le (by omega)]; rfl), hb⟩

end Go.Proofs.YtlchipjckgaclaaDoor

/- Numbers and sets as texts: plain; l15Dec of the reference. -/
namespace Go.Proofs.YtlchipjckgaclaaDoor
set_option linter.unusedSimpArgs false
set_option linter.unusedVariables false
set_option maxRecDepth 100000
open Go.RowKit

def str (l : List UInt8) : ByteArray := ⟨l.toArray⟩
theorem str_append (a b : List UInt8) : str a ++ str b = str (a ++ b) := by
  apply ByteArray.ext
  simp [str]
theorem str_size (a : List UInt8) : (str a).size = a.length := by simp [str, ByteArray.size]
def in64 (n : Int) : Prop := -9223372036854775808 ≤ n ∧ n ≤ 9223372036854775807
/-- the digits of u, ahead of what there is -/
theorem dec_step {u : Nat} (h : 9 < u) (l : List UInt8) : Lib.decDigits (u / 10) ++ (UInt8.ofNat (48 + u % 10) :: l) = Lib.decDigits u ++ l := by
  rw [show Lib.decDigits u = Lib.decDigits (u / 10) ++ [UInt8.ofNat (48 + u % 10)] by rw [Lib.decDigits, dif_neg (by omega)]]
  simp
theorem dec_last {u : Nat} (h : ¬ 9 < u) (l : List UInt8) : UInt8.ofNat (48 + u) :: l = Lib.decDigits u ++ l := by
  rw [Lib.decDigits, dif_pos (by omega)]
  rfl
theorem dec_len {u : Nat} (h : u ≤ 9223372036854775808) : (Lib.decDigits u).length ≤ 21 := by
  rw [Lib.decDigits_length]
  have := Lib.nDigits_le20 u (by omega)
  omega

/-- one byte as a text -/
theorem conv1 (w : World) (d : UInt8) (z : Int) (hz : z = (d.toNat : Int)) : (convert 40 9 (.slice (some ⟨w.heap.size, 0, none⟩) 1 1)).run Tryd.prog (w.alloc (.cells #[.int .u8 z] 5)) = .ok (.string (str [d])) (w.alloc (.cells #[.int .u8 z] 5)) := by
  refine run_convert_bytes_back _ _ _ 5 ⟨w.heap.size, 0, none⟩ 1 [d] Tryd.underlying40 Tryd.underlying5 Tryd.underlying9 fun j hj => ?_
  have h0 : j = 0 := by simpa using hj
  subst h0
  subst hz
  have e0 : (⟨w.heap.size, 0, none⟩ : Addr).add 0 = ⟨w.heap.size, 0, none⟩ := by simp [Addr.add]
  rw [e0, cell_of_row (w.alloc (.cells #[.int .u8 (d.toNat : Int)] 5)) w.heap.size 0 #[.int .u8 (d.toNat : Int)] 5 (0, 0) (heap_alloc_new w _)]
  rfl
theorem digit (n : Nat) (hn : n < 10) : ∃ d : UInt8, d = UInt8.ofNat (48 + n) ∧ (48 : Int) + n = (d.toNat : Int) := ⟨_, rfl, by simp; omega⟩

set_option maxRecDepth 100000 in
set_option maxHeartbeats 1000000 in
theorem sDecPos_c (u : Nat) (w : World) (h : u ≤ 9223372036854775807) :
    Calls Tryd.prog 41 #[.int .i64 (u : Int)] w fun e w' => e = .returned (.string (str (Lib.decDigits u))) ∧ Below w.heap.size w w' := by
  have hl := dec_len (u := u) (by omega)
  go_enter Tryd.func41, Tryd.ntmps41
  have g1 : ¬ ((u : Int) < -9223372036854775807) := by omega
  have g2 : ¬ ((u : Int) < 0) := by omega
  go_wp2_with fail
  clear g1 g2
  go_loopg [0, 3] u (fun n v0 v3 wr => v0 = .int .i64 (n : Int) ∧ n ≤ u ∧ ∃ l : List UInt8, v3 = .string (str l) ∧ Hid (Lib.decDigits n ++ l = Lib.decDigits u) ∧ Hid (Below w.heap.size w wr))
  case atStart => exact ⟨rfl, Nat.le_refl _, [], rfl, by show _ = _; rw [List.append_nil], Below.refl _ _⟩
  case round =>
    obtain ⟨rfl, hgu, l, rfl, HL, HB⟩ := hrel
    by_cases hlt : 9 < gk
    · have g1 : (9 : Int) < (gk : Int) := by omega
      obtain ⟨d, hd, hz⟩ := digit (gk % 10) (by omega)
      have HD := Lib.hid hd
      have hcv := Lib.hid (conv1 wr d (48 + (gk : Int) % 10) (by omega))
      have hll : l.length ≤ 21 := by have := congrArg List.length HL.out; rw [List.length_append] at this; omega
      have hs1 := str_size l
      have hs2 : (str [d]).size = 1 := str_size _
      have hw : wrap64 ((gk : Int) / 10) = ((gk / 10 : Nat) : Int) := by rw [Go.IntWalk.wrap64_in _ (by omega)]; rfl
      clear hd hz
      go_wp2_with fail
      rw [hcv.out]
      clear hcv
      go_wp2_with fail
      go_roundg (gk / 10)
      case measure => omega
      case rel =>
        refine ⟨?_, by omega, d :: l, ?_, ?_, below_alloc HB.out _⟩
        · go_num
        · rw [str_append]; rfl
        · show _ = _; rw [HD.out, dec_step hlt, HL.out]
    · obtain ⟨d, hd, hz⟩ := digit gk (by omega)
      have HD := Lib.hid hd
      have hcv := Lib.hid (conv1 wr d (48 + (gk : Int)) (by omega))
      have hll : l.length ≤ 21 := by have := congrArg List.length HL.out; rw [List.length_append] at this; omega
      have hs1 := str_size l
      have hs2 : (str [d]).size = 1 := str_size _
      clear hd hz
      go_wp2_with fail
      rw [hcv.out]
      clear hcv
      go_wp2_with fail
      go_ret
      refine ⟨?_, below_alloc HB.out _⟩
      rw [← HL.out, ← dec_last hlt, ← HD.out]
      exact congrArg (fun x => Ending.returned (Value.string x)) (str_append [d] l)

set_option maxRecDepth 100000 in
set_option maxHeartbeats 1000000 in
theorem sDec_c (n : Int) (w : World) (h : in64 n) :
    Calls Tryd.prog 41 #[.int .i64 n] w fun e w' => e = .returned (.string (str (Lib.itoa n))) ∧ Below w.heap.size w w' := by
  by_cases h0 : 0 ≤ n
  · obtain ⟨u, rfl⟩ : ∃ u : Nat, n = u := ⟨n.toNat, by omega⟩
    rw [Lib.itoa_nonneg]
    exact sDecPos_c u w (by have := h.2; omega)
  · obtain ⟨u, rfl⟩ : ∃ u : Nat, n = -(u : Int) := ⟨n.natAbs, by omega⟩
    have hu : 1 ≤ u := by omega
    have hu2 : u ≤ 9223372036854775808 := by have := h.1; omega
    have E := Lib.hid (Lib.itoa_neg u hu)
    by_cases h1 : u = 9223372036854775808
    · subst h1
      go_enter Tryd.func41, Tryd.ntmps41
      go_wp2_with fail
      go_ret
      refine ⟨?_, Below.refl _ _⟩
      have e : Lib.itoa (-9223372036854775808) = [45, 57, 50, 50, 51, 51, 55, 50, 48, 51, 54, 56, 53, 52, 55, 55, 53, 56, 48, 56] := by decide +kernel
      rw [e]
      rfl
    · have g1 : ¬ (-(u : Int) < -9223372036854775807) := by omega
      have g2 : -(u : Int) < 0 := by omega
      have hn : IntKind.i64.wrap (- -(u : Int)) = (u : Int) := by rw [Int.neg_neg]; exact IntWalk.i64_in _ (by omega)
      have hl := dec_len (u := u) hu2
      go_enter Tryd.func41, Tryd.ntmps41
      go_wp2_with fail
      refine (sDecPos_c u w (by omega)).mono ?_
      rintro e w1 ⟨rfl, b1⟩
      have hs1 := str_size (Lib.decDigits u)
      clear g1 g2 hn
      go_wp2_with fail
      go_ret
      refine ⟨?_, b1⟩
      rw [E.out]
      exact congrArg (fun x => Ending.returned (Value.string x)) (str_append [45] _)

end Go.Proofs.YtlchipjckgaclaaDoor

/- Rows that a call made: of spans. -/
namespace Go.Proofs.YtlchipjckgaclaaDoor
set_option linter.unusedSimpArgs false
set_option linter.unusedVariables false
set_option maxRecDepth 100000
open Go.RowKit

theorem own_below {w w1 : World} {base n size : Nat} {e : TypeId} {v : Value} {cs : List Value} (h : w.ownsRow base e size v n cs) (hb : Below w.heap.size w w1) : w1.ownsRow base e size v n cs := by
  obtain ⟨h1, h2⟩ := h
  refine ⟨h1, ?_⟩
  rcases h2 with h2 | ⟨g, cap, cur, rfl, hg, hh, r⟩
  · exact .inl h2
  · exact .inr ⟨g, cap, cur, rfl, hg, (hb.block g (Array.getElem?_eq_some_iff.1 hh).1).trans hh, r⟩
/-- another block is written -/
theorem own_move {w w1 : World} {base n size : Nat} {e : TypeId} {v : Value} {cs : List Value} (h : w.ownsRow base e size v n cs) (hm : ∀ k, v.ownBlock = some k → w1.heap[k]? = w.heap[k]?) : w1.ownsRow base e size v n cs := by
  obtain ⟨h1, h2⟩ := h
  refine ⟨h1, ?_⟩
  rcases h2 with h2 | ⟨g, cap, cur, rfl, hg, hh, r⟩
  · exact .inl h2
  · exact .inr ⟨g, cap, cur, rfl, hg, (hm g (by simp [Value.ownBlock])).trans hh, r⟩
theorem own_lower {w : World} {base base' n size : Nat} {e : TypeId} {v : Value} {cs : List Value} (h : w.ownsRow base e size v n cs) (hb : base' ≤ base) : w.ownsRow base' e size v n cs := by
  obtain ⟨h1, h2⟩ := h
  refine ⟨h1, h2.imp id ?_⟩
  rintro ⟨g, cap, cur, rfl, hg, r⟩
  exact ⟨g, cap, cur, rfl, Nat.le_trans hb hg, r⟩
/-- what is owned is read -/
theorem own_row {w : World} {base n size : Nat} {e : TypeId} {v : Value} {cs : List Value} (h : w.ownsRow base e size v n cs) : ∃ A c, v = .slice A n c ∧ n ≤ c ∧ Row w base A cs := by
  rcases h.2 with ⟨rfl, rfl⟩ | ⟨g, cap, cur, rfl, hg, hh, hnc, hcm, hcs, ht⟩
  · exact ⟨none, 0, rfl, Nat.le_refl _, .inl (by have := h.1; simpa using this)⟩
  · refine ⟨_, cap, rfl, hnc, .inr ⟨_, rfl, hg, fun j u hj => ?_⟩⟩
    have e0 : (⟨g, 0, none⟩ : Addr).add j = ⟨g, j, none⟩ := by unfold Addr.add; split <;> simp_all
    rw [e0, cell_of_row w g j cur e (0, 0) hh]
    rw [← ht] at hj
    have h2 : j < n * size := by
      rcases Nat.lt_or_ge j (n * size) with h3 | h3
      · exact h3
      · rw [List.getElem?_eq_none (by rw [List.length_take]; omega)] at hj; cases hj
    rw [List.getElem?_take, if_pos h2] at hj
    simpa using hj
/-- it is nil, or lies at the head of its block -/
theorem own_form {w : World} {base n size : Nat} {e : TypeId} {v : Value} {cs : List Value} (h : w.ownsRow base e size v n cs) (hn : 0 < n) : ∃ g cap, v = .slice (some ⟨g, 0, none⟩) n cap ∧ base ≤ g ∧ n ≤ cap := by
  rcases h.2 with ⟨_, rfl⟩ | ⟨g, cap, cur, rfl, hg, _, hnc, _⟩
  · omega
  · exact ⟨g, cap, rfl, hg, hnc⟩

abbrev TSp : Nat := 60
theorem infoSp : (Tryd.prog.info? TSp).map (fun i => (i.zero, i.size, i.bytes)) = some (some (.agg #[.int .i64 0, .int .i64 0]), 2, 16) := by kernel_rfl

structure OwnSp (w : World) (base : Nat) (v : Value) (xs : List Sp) : Prop where
  own : w.ownsRow base TSp 2 v xs.length (spcs xs)
  len : xs.length ≤ maxN
theorem OwnSp.sps {w : World} {base : Nat} {v : Value} {xs : List Sp} (h : OwnSp w base v xs) : ∃ A c, v = .slice A xs.length c ∧ Sps w base A c xs := by
  obtain ⟨A, c, e, hc, hr⟩ := own_row h.own
  exact ⟨A, c, e, hr, hc, h.len⟩
theorem OwnSp.below {w w1 : World} {base : Nat} {v : Value} {xs : List Sp} (h : OwnSp w base v xs) (hb : Below w.heap.size w w1) : OwnSp w1 base v xs := ⟨own_below h.own hb, h.len⟩
theorem OwnSp.lower {w : World} {base base' : Nat} {v : Value} {xs : List Sp} (h : OwnSp w base v xs) (hb : base' ≤ base) : OwnSp w base' v xs := ⟨own_lower h.own hb, h.len⟩
theorem OwnSp.nil (w : World) (base : Nat) : OwnSp w base (.slice none 0 0) [] := ⟨World.ownsRow_nil _ _ _ _, by simp⟩

theorem spcs_append (xs ys : List Sp) : spcs (xs ++ ys) = spcs xs ++ spcs ys := by simp [spcs]
theorem spcs_set (xs : List Sp) : ∀ k a b, ((spcs xs).set (k * 2) (.int .i64 a)).set (k * 2 + 1) (.int .i64 b) = spcs (xs.set k ⟨a, b⟩) := by
  induction xs with
  | nil => intro k a b; simp [spcs]
  | cons x xs ih =>
    intro k a b
    have e : spcs (x :: xs) = .int .i64 x.lo :: .int .i64 x.hi :: spcs xs := rfl
    cases k with
    | zero => simp [e, spcs, spc]
    | succ k =>
      rw [e, show (k + 1) * 2 = k * 2 + 1 + 1 by omega, List.set_cons_succ, List.set_cons_succ, List.set_cons_succ, List.set_cons_succ, ih]
      rfl
theorem spcs_zeros (n : Nat) : (madeCells (Value.agg #[.int .i64 0, .int .i64 0]).cells (n * 2)).toList = spcs (List.replicate n ⟨0, 0⟩) := by
  have e : (Value.agg #[.int .i64 0, .int .i64 0]).cells = #[.int .i64 0, .int .i64 0] := rfl
  rw [e]
  apply List.ext_getElem?
  intro j
  have hz : ∀ i : Nat, (#[Value.int .i64 0, Value.int .i64 0] : Array Value)[i % 2]! = .int .i64 0 := by
    intro i
    rcases Nat.mod_two_eq_zero_or_one i with h | h <;> simp [h]
  have e2 : spcs (List.replicate n ⟨0, 0⟩) = List.replicate (n * 2) (.int .i64 0) := by
    induction n with
    | zero => rfl
    | succ n ih =>
      rw [List.replicate_succ, show (n + 1) * 2 = n * 2 + 1 + 1 by omega, List.replicate_succ, List.replicate_succ, ← ih]
      rfl
  rw [e2]
  by_cases hj : j < n * 2
  · simp [madeCells, hj, hz]
  · simp [madeCells, hj]

/-- an element is stored -/
theorem OwnSp.set2 {w : World} {base g n cap : Nat} {xs : List Sp} (h : OwnSp w base (.slice (some ⟨g, 0, none⟩) n cap) xs) (k : Nat) (a b : Int) :
    OwnSp ((w.setCell ⟨g, k * 2, none⟩ (.int .i64 a)).setCell ⟨g, k * 2 + 1, none⟩ (.int .i64 b)) base (.slice (some ⟨g, 0, none⟩) n cap) (xs.set k ⟨a, b⟩) := by
  obtain ⟨h1, h2⟩ := h
  have hn : n = xs.length := by
    rcases h1.2 with ⟨h0, _⟩ | ⟨g', cap', cur, h0, _⟩
    · simp at h0
    · simp at h0; exact h0.2.1
  subst hn
  have s1 := (h1.stored (k * 2) (.int .i64 a)).1
  have s2 := (s1.stored (k * 2 + 1) (.int .i64 b)).1
  rw [spcs_set] at s2
  exact ⟨by rw [List.length_set]; exact s2, by rw [List.length_set]; exact h2⟩
theorem OwnSp.cells {w : World} {base g n cap : Nat} {xs : List Sp} (h : OwnSp w base (.slice (some ⟨g, 0, none⟩) n cap) xs) (k : Nat) (hk : k < xs.length) :
    ∃ x, Hid (xs[k]? = some x) ∧ w.cell? ⟨g, k * 2, none⟩ = some (.int .i64 x.lo) ∧ w.cell? ⟨g, k * 2 + 1, none⟩ = some (.int .i64 x.hi) ∧ w.frozen? ⟨g, k * 2, none⟩ = false ∧ w.frozen? ⟨g, k * 2 + 1, none⟩ = false := by
  obtain ⟨h1, h2⟩ := h
  have hn : n = xs.length := by
    rcases h1.2 with ⟨h0, _⟩ | ⟨g', cap', cur, h0, _⟩
    · simp at h0
    · simp at h0; exact h0.2.1
  subst hn
  have hg := spcs_get xs k hk
  have e1 : xs.getD k default = xs[k] := by simp [List.getD_eq_getElem?_getD, List.getElem?_eq_getElem hk]
  rw [e1] at hg
  exact ⟨xs[k], List.getElem?_eq_getElem hk, (h1.cellAt _ (by omega)).trans hg.1, (h1.cellAt _ (by omega)).trans hg.2, h1.frozenAt _, h1.frozenAt _⟩

theorem take_rep_set {α : Type} (xs : List α) (z x : α) (k : Nat) (hk : k < xs.length) (hx : xs[k]? = some x) :
    (xs.take k ++ List.replicate (xs.length - k) z).set k x = xs.take (k + 1) ++ List.replicate (xs.length - (k + 1)) z := by
  have e : xs.length - k = (xs.length - (k + 1)) + 1 := by omega
  have h1 : (xs.take k).length = k := by rw [List.length_take]; omega
  rw [e, List.replicate_succ, List.set_append, if_neg (by omega), h1, Nat.sub_self, List.set_cons_zero, List.take_add_one, hx]
  simp
theorem take_rep_length {α : Type} (xs : List α) (z : α) (k : Nat) (hk : k ≤ xs.length) : (xs.take k ++ List.replicate (xs.length - k) z).length = xs.length := by
  rw [List.length_append, List.length_take, List.length_replicate]; omega
theorem new_cells (w : World) (cs : List Value) (t : TypeId) : ∀ j u, cs[j]? = some u → (w.alloc (.cells cs.toArray t)).cell? ((⟨w.heap.size, 0, none⟩ : Addr).add j) = some u := by
  intro j u hj
  have e0 : (⟨w.heap.size, 0, none⟩ : Addr).add j = ⟨w.heap.size, j, none⟩ := by unfold Addr.add; split <;> simp_all
  rw [e0, cell_of_row (w.alloc (.cells cs.toArray t)) w.heap.size j cs.toArray t (0, 0) (heap_alloc_new w _)]
  simpa using hj
theorem own_base {w : World} {base n size : Nat} {e : TypeId} {v : Value} {cs : List Value} (h : w.ownsRow base e size v n cs) : ∀ k, v.ownBlock = some k → base ≤ k ∧ k < w.heap.size := h.lt
theorem OwnSp.snoc {w : World} {base : Nat} {v : Value} {xs : List Sp} {a b : Int} (h : w.ownsRow base TSp 2 v (xs.length + 1) (spcs xs ++ [.int .i64 a, .int .i64 b])) : OwnSp w base v (xs ++ [⟨a, b⟩]) := by
  have e : spcs (xs ++ [⟨a, b⟩]) = spcs xs ++ [.int .i64 a, .int .i64 b] := by rw [spcs_append]; rfl
  have hl : (xs ++ [(⟨a, b⟩ : Sp)]).length = xs.length + 1 := by simp
  refine ⟨by rw [hl, e]; exact h, ?_⟩
  rw [hl]
  rcases h.2 with ⟨_, h0⟩ | ⟨g, cap, cur, _, _, _, hnc, hcm, _⟩
  · omega
  · unfold maxLen at hcm; unfold maxN; omega
theorem two_one (a b : Int) : ∀ u ∈ [Value.int .i64 a, .int .i64 b], u.oneCell' = true := by
  intro u hu
  simp at hu
  rcases hu with rfl | rfl <;> rfl
theorem spcs_one (xs : List Sp) : ∀ u ∈ spcs xs, u.oneCell' = true := by
  intro u hu
  obtain ⟨x, _, hx⟩ := List.mem_flatMap.1 hu
  exact two_one x.lo x.hi u hx
theorem spcs_set_hi (xs : List Sp) (k : Nat) (x : Sp) (b : Int) (hx : xs[k]? = some x) : (spcs xs).set (k * 2 + 1) (.int .i64 b) = spcs (xs.set k ⟨x.lo, b⟩) := by
  have hk := (List.getElem?_eq_some_iff.1 hx).1
  have hg := (spcs_get xs k hk).1
  have e1 : xs.getD k default = x := by simp [List.getD_eq_getElem?_getD, hx]
  rw [e1] at hg
  rw [← spcs_set xs k x.lo b]
  congr 1
  apply List.ext_getElem?
  intro j
  rw [List.getElem?_set]
  split
  · rename_i e; subst e
    rw [hg]
    rw [if_pos (List.getElem?_eq_some_iff.1 hg).1]
  · rfl
theorem OwnSp.setHi {w : World} {base g n cap : Nat} {xs : List Sp} (h : OwnSp w base (.slice (some ⟨g, 0, none⟩) n cap) xs) (k : Nat) (x : Sp) (hx : xs[k]? = some x) (b : Int) :
    OwnSp (w.setCell ⟨g, k * 2 + 1, none⟩ (.int .i64 b)) base (.slice (some ⟨g, 0, none⟩) n cap) (xs.set k ⟨x.lo, b⟩) := by
  obtain ⟨h1, h2⟩ := h
  have hn : n = xs.length := by
    rcases h1.2 with ⟨h0, _⟩ | ⟨g', cap', cur, h0, _⟩
    · simp at h0
    · simp at h0; exact h0.2.1
  subst hn
  have s1 := (h1.stored (k * 2 + 1) (.int .i64 b)).1
  rw [spcs_set_hi xs k x b hx] at s1
  exact ⟨by rw [List.length_set]; exact s1, by rw [List.length_set]; exact h2⟩

end Go.Proofs.YtlchipjckgaclaaDoor

/- Blocks in memory: laid, stored and read whole. -/
namespace Go.Proofs.YtlchipjckgaclaaDoor
set_option linter.unusedSimpArgs false
set_option linter.unusedVariables false
set_option maxRecDepth 100000
open Go.RowKit

/-- block g holds the cells cs, none of them frozen -/
structure Blk (w : World) (g : Nat) (cs : Array Value) (t : TypeId) : Prop where
  eq : w.heap[g]? = some (.cells cs t (0, 0))
theorem Blk.lt {w : World} {g : Nat} {cs : Array Value} {t : TypeId} (h : Blk w g cs t) : g < w.heap.size := (Array.getElem?_eq_some_iff.1 h.eq).1
theorem Blk.below {w w1 : World} {g : Nat} {cs : Array Value} {t : TypeId} (h : Blk w g cs t) (hb : Below w.heap.size w w1) : Blk w1 g cs t := ⟨(hb.block g h.lt).trans h.eq⟩
theorem Blk.set {w : World} {g : Nat} {cs : Array Value} {t : TypeId} (h : Blk w g cs t) (i : Nat) (u : Value) : Blk (w.setCell ⟨g, i, none⟩ u) g (cs.setIfInBounds i u) t := ⟨heap_setCell_same w g i cs t u h.eq⟩
theorem Blk.far {w : World} {g : Nat} {cs : Array Value} {t : TypeId} (h : Blk w g cs t) {p : Addr} (hp : g ≠ p.block) (u : Value) : Blk (w.setCell p u) g cs t := ⟨(Below.heap_setCell w p u g hp).trans h.eq⟩
theorem Blk.cell {w : World} {g : Nat} {cs : Array Value} {t : TypeId} (h : Blk w g cs t) (i : Nat) : w.cell? ⟨g, i, none⟩ = cs[i]? := cell_of_row w g i cs t (0, 0) h.eq
theorem Blk.free {w : World} {g : Nat} {cs : Array Value} {t : TypeId} (h : Blk w g cs t) (i : Nat) : w.frozen? ⟨g, i, none⟩ = false := by simp [World.frozen?, h.eq]
theorem Blk.grown {w w1 : World} {g : Nat} {cs : Array Value} {t : TypeId} (h : Blk w g cs t) {row : Option Nat} (hg : w.grownBy w1 row) (hr : ∀ k, row = some k → k ≠ g) : Blk w1 g cs t := ⟨(hg.block g h.lt (fun e => hr g e.symm rfl)).trans h.eq⟩
theorem Blk.alloc {w : World} {g : Nat} {cs : Array Value} {t : TypeId} (h : Blk w g cs t) (o : Obj) : Blk (w.alloc o) g cs t := h.below (below_alloc (Below.refl _ _) o)
theorem blk_new (w : World) (cs : Array Value) (t : TypeId) : Blk (w.alloc (.cells cs t)) w.heap.size cs t := ⟨heap_alloc_new w _⟩

theorem own_blk {w : World} {base g n cap size : Nat} {e : TypeId} {cs : List Value} (h : w.ownsRow base e size (.slice (some ⟨g, 0, none⟩) n cap) n cs) : ∃ cur : Array Value, Blk w g cur e ∧ cur.size = cap * size ∧ n ≤ cap ∧ base ≤ g ∧ cap ≤ maxLen ∧ cur.toList.take (n * size) = cs := by
  rcases h.2 with ⟨h0, _⟩ | ⟨g', cap', cur, h0, hg, hh, hnc, hcm, hcs, ht⟩
  · simp at h0
  · simp only [Value.slice.injEq, Option.some.injEq, Addr.mk.injEq, and_true, true_and] at h0
    obtain ⟨rfl, rfl⟩ := h0
    exact ⟨cur, ⟨hh⟩, hcs, hnc, hg, hcm, ht⟩
theorem own_of_blk {w : World} {base g n size : Nat} {e : TypeId} {cs : List Value} (h : Blk w g cs.toArray e) (hl : cs.length = n * size) (hb : base ≤ g) (hn : n ≤ maxLen) : w.ownsRow base e size (.slice (some ⟨g, 0, none⟩) n n) n cs :=
  ⟨hl, .inr ⟨g, n, cs.toArray, rfl, hb, h.eq, Nat.le_refl _, hn, by simpa using hl, by rw [← hl]; simp⟩⟩

section
variable {P : Program} {ops : Array Oper} {rest : List Oper} {o : Oper} {a : Act} {w : World} {Q : Exit → Act → World → Prop}

/-- a new variable of a type with many cells -/
theorem ev_alloc (hgd : o.guard = none) (t : TypeId) (ho : o.op = .alloc t) (cs : Array Value) (hz : (P.info? t).map (·.zero) = some (some (.agg cs)))
    (h : ∀ g w1, g = w.heap.size → Blk w1 g cs t → Below w.heap.size w w1 → wpList P ops Q rest (a.put o.dst (.pointer (some ⟨g, 0, none⟩))) w1) : wpList P ops Q (o :: rest) a w := by
  refine wpList_plain hgd fun K hK => ?_
  obtain ⟨i, hi, hzz⟩ := Option.map_eq_some_iff.1 hz
  have hrun : (execOp a.eval o).run P w = .ok (.value (.pointer (some ⟨w.heap.size, 0, none⟩))) (w.alloc (.cells cs t (0, 0))) := by
    unfold execOp
    simp only [ho]
    simp [Instr.alloc, zeroValue, typeInfo, hi, hzz, newVar, newRow, Value.cells]
  unfold Oper.wp
  rw [hrun]
  exact hK _ _ (h _ _ rfl (blk_new w cs t) (below_alloc (Below.refl _ _) _))

/-- a value of many cells is boxed -/
theorem ev_box (hgd : o.guard = none) (t : TypeId) (x : Operand) (ho : o.op = .box t x) (cs : Array Value) (hx : a.eval x = .agg cs)
    (h : ∀ g w1, g = w.heap.size → Blk w1 g cs t → Below w.heap.size w w1 → wpList P ops Q rest (a.put o.dst (.pointer (some ⟨g, 0, none⟩))) w1) : wpList P ops Q (o :: rest) a w := by
  refine wpList_plain hgd fun K hK => ?_
  have hrun : (execOp a.eval o).run P w = .ok (.value (.pointer (some ⟨w.heap.size, 0, none⟩))) (w.alloc (.cells cs t (0, 0))) := by
    unfold execOp
    simp only [ho, hx]
    simp [Instr.box, newVar, newRow, Value.cells]
  unfold Oper.wp
  rw [hrun]
  exact hK _ _ (h _ _ rfl (blk_new w cs t) (below_alloc (Below.refl _ _) _))

/-- a variable of many cells is read whole -/
theorem ev_load (hgd : o.guard = none) (t : TypeId) (x : Operand) (ho : o.op = .load t x) (g : Nat) (hx : a.eval x = .pointer (some ⟨g, 0, none⟩)) (cs : List Value) (e : TypeId) (hb : Blk w g cs.toArray e)
    (d : TypeDesc) (hu : P.underlying t = some d) (hd : (match d with | .struct _ | .array _ _ => true | _ => false) = true) (hs : (P.info? t).map (·.size) = some cs.length)
    (h : wpList P ops Q rest (a.put o.dst (.agg cs.toArray)) w) : wpList P ops Q (o :: rest) a w :=
  wpList_load_row hgd t x ho g hx e cs.toArray (0, 0) d hb.eq hu hd (by rw [hs]; simp) h

/-- a whole row is copied over another one -/
theorem ev_copy (hgd : o.guard = none) (d s : Operand) (dT sT : TypeId) (ho : o.op = .call { callee := .builtin .copy, args := #[d, s], argTypes := #[dT, sT] }) (elem : TypeId) (hu : P.underlying dT = some (.slice elem)) (size : Nat) (hsz : (P.info? elem).map (·.size) = some size)
    (g n cap sCap : Nat) (ad : Addr) (hd : a.eval d = .slice (some ⟨g, 0, none⟩) n cap) (hs : a.eval s = .slice (some ad) n sCap) (cur : Array Value) (t : TypeId) (hb : Blk w g cur t) (cs : List Value) (hn : cs.length = n * size)
    (hsrc : CellsAt w ad cs) (hfit : cs.length ≤ cur.size) (h1 : ∀ u ∈ cs, u.oneCell' = true)
    (h : ∀ w1, Blk w1 g (cs ++ cur.toList.drop cs.length).toArray t → w.grownBy w1 (some g) → wpList P ops Q rest (a.put o.dst (.int .i64 n)) w1) : wpList P ops Q (o :: rest) a w := by
  refine wpList_plain hgd fun K hK => ?_
  obtain ⟨i, hi, hz⟩ := Option.map_eq_some_iff.1 hsz
  have hl := run_loadCells_list (P := P) w ad cs hsrc
  have hst := run_storeCells_at P g 0 t cs 0 cur w hb.eq (by simpa using hfit) h1
  have hrun : (Builtin.copy_ #[dT, sT] o.type #[.slice (some ⟨g, 0, none⟩) n cap, .slice (some ad) n sCap]).run P w = .ok (goInt n) (w.setRow g (cs ++ cur.toList.drop cs.length).toArray) := by
    simp [Builtin.copy_, run_underlying hu, Builtin.lenOf, Builtin.firstCells, sizeOf, typeInfo, hi, hz, ← hn, hl, hst]
  unfold Oper.wp
  simp [execOp, ho, resolve, invoke, builtin, hd, hs, hrun, Result.andThen]
  exact hK _ _ (h _ ⟨setRow_heap w g cur _ t _ hb.eq⟩ ⟨rfl, rfl, rfl, by simp, fun k _ hk => setRow_other w g k _ (fun e => hk (by rw [e]))⟩)

/-- a value of many cells is stored into a part of a block -/
theorem ev_store (hgd : o.guard = none) (hd : o.dst = none) (t : TypeId) (x v : Operand) (ho : o.op = .store t x v) (g off : Nat) (hx : a.eval x = .pointer (some ⟨g, off, none⟩)) (vs : List Value) (hv : a.eval v = .agg vs.toArray)
    (cur : Array Value) (e : TypeId) (hb : Blk w g cur e) (hs : (P.info? t).map (·.size) = some vs.length) (hfit : off + vs.length ≤ cur.size) (h1 : ∀ u ∈ vs, u.oneCell' = true)
    (h : ∀ w1, Blk w1 g (cur.toList.take off ++ vs ++ cur.toList.drop (off + vs.length)).toArray e → w.grownBy w1 (some g) → wpList P ops Q rest a w1) : wpList P ops Q (o :: rest) a w := by
  refine wpList_plain hgd fun K hK => ?_
  obtain ⟨i, hi, hsz⟩ := Option.map_eq_some_iff.1 hs
  have hst := run_storeCells_at P g off e vs 0 cur w hb.eq (by simpa using hfit) h1
  have hrun : (execOp a.eval o).run P w = .ok .skip (w.setRow g (cur.toList.take off ++ vs ++ cur.toList.drop (off + vs.length)).toArray) := by
    unfold execOp
    simp only [ho, hx, hv]
    simp only [Instr.storeAt, Instr.sureAddr, storeVar, sizeOf, typeInfo, Value.cells]
    simp [hi, hsz, hst]
  unfold Oper.wp
  rw [hrun]
  show K (a.put o.dst undef) _
  rw [hd]
  exact hK _ _ (h _ ⟨setRow_heap w g cur _ e _ hb.eq⟩ ⟨rfl, rfl, rfl, by simp, fun k _ hk => setRow_other w g k _ (fun e => hk (by rw [e]))⟩)
end

/-- the store into one slot's variable of another slot's value, the load into a slot: told at a glance, ahead of the longer laws -/
theorem at_st {P : Program} {ops : Array Oper} {Q : Exit → Act → World → Prop} {rest : List Oper} {a : Act} {w : World} (s v : Nat) {t ty : TypeId} {ps : String} {af} (h : wpList P ops Q ((⟨none, .store t (.tmp s) (.tmp v), ty, ps, af, none⟩ : Oper) :: rest) a w) : wpList P ops Q ((⟨none, .store t (.tmp s) (.tmp v), ty, ps, af, none⟩ : Oper) :: rest) a w := h
theorem at_ld {P : Program} {ops : Array Oper} {Q : Exit → Act → World → Prop} {rest : List Oper} {a : Act} {w : World} (d : Nat) {t ty : TypeId} {x : Operand} {ps : String} {af} (h : wpList P ops Q ((⟨some d, .load t x, ty, ps, af, none⟩ : Oper) :: rest) a w) : wpList P ops Q ((⟨some d, .load t x, ty, ps, af, none⟩ : Oper) :: rest) a w := h

end Go.Proofs.YtlchipjckgaclaaDoor

/- A region that draws its order, reads, and calls what makes memory but answers alike in every world above: walked once. -/
namespace Go.Proofs.YtlchipjckgaclaaDoor
set_option linter.unusedSimpArgs false
set_option linter.unusedVariables false
set_option maxRecDepth 100000
open Go.RowKit

/-- the worlds that keep what is below -/
structure BW (w : World) : Type where
  w1 : World
  up : Below w.heap.size w w1
instance (w : World) : Nonempty (BW w) := ⟨⟨w, Below.refl _ _⟩⟩
theorem wp_region_bw {P : Program} {id : Nat} {Q : Exit → Act → World → Prop} {a : Act} {w : World} {l : List Oper} (hm : P.follows .mixedOrders = true) (hB : Region.lexB .any l.toArray = true)
    (h : wpQuiet P l.toArray (fun w' => ∃ x : BW w, w' = x.w1) (fun a' => ∀ w', (∃ x : BW w, w' = x.w1) → Q .normal a' w') l a) : (Code.region id l.toArray true).wp P Q a w :=
  wp_region_quiet (C := fun w' => ∃ x : BW w, w' = x.w1) hm hB ⟨⟨w.drew, below_drew (Below.refl _ _)⟩, rfl⟩ (by simpa using h)
theorem Calls.bw {P : Program} {f : FuncId} {args : Array Value} {W : World} {x : BW W} {v v' : Value} (hv : v = v') (h : Calls P f args x.w1 fun e w' => e = .returned v ∧ Below x.w1.heap.size x.w1 w') :
    Calls P f args x.w1 fun e w'' => e = .returned v' ∧ ∃ y : BW W, w'' = y.w1 :=
  h.mono fun _ w' ⟨he, hb⟩ => ⟨by rw [he, hv], ⟨w', below_then x.up hb⟩, rfl⟩
theorem Calls.bw_d {P : Program} {f : FuncId} {args : Array Value} {W : World} {x : BW W} {v v' : Value} (hv : v = v') (h : Calls P f args x.w1 fun e w' => e = .returned v ∧ Drawn x.w1 w') :
    Calls P f args x.w1 fun e w'' => e = .returned v' ∧ ∃ y : BW W, w'' = y.w1 :=
  h.mono fun _ w' ⟨he, hb⟩ => ⟨by rw [he, hv], ⟨w', below_then x.up hb.below⟩, rfl⟩
theorem Calls.bw_e {P : Program} {f : FuncId} {args : Array Value} {W : World} {x : BW W} {v v' : Value} (hv : v = v') (h : Calls P f args x.w1 fun e w' => e = .returned v ∧ x.w1 = w') :
    Calls P f args x.w1 fun e w'' => e = .returned v' ∧ ∃ y : BW W, w'' = y.w1 :=
  h.mono fun _ w' ⟨he, hb⟩ => ⟨by rw [he, hv], x, hb.symm⟩
theorem BW.cell {w : World} (x : BW w) {a : Addr} {u : Value} (h : w.cell? a = some u) : x.w1.cell? a = some u := (x.up.cell (World.block_lt_of_cell? w _ h)).trans h
theorem bv {a b : Bool} (h : a = b) : Value.bool a = Value.bool b := congrArg _ h
theorem iv {a b : Int} (h : a = b) : Value.int .i64 a = Value.int .i64 b := congrArg _ h

end Go.Proofs.YtlchipjckgaclaaDoor
