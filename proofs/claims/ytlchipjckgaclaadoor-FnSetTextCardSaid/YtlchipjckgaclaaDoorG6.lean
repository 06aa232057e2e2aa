/- Texts joined for the claims: So Shelf4 W3 OwnT Ap Tz. -/
import Derived.Test.YtlchipjckgaclaaDoorG5
import Derived.Lib.SplitLaws
import Derived.Lib.IndexLaws
import Derived.Lib.IndexBytes
import Derived.Shelf.Strings.OnBuilder
import Derived.Shelf.LaysM
import Derived.Shelf.Strconv.Itoa3
import Derived.Test.YtlchipjckgaclaaDoorProg
import Derived.Test.YtlchipjckgaclaaDoorG2
import Derived.Test.YtlchipjckgaclaaDoorG1
import Derived.Maps.AppendAt
import Derived.Deep.AppendLies
import Derived.Deep.RegionLaw
/- What is read back: words between separators, spans, sets: plain law. -/
namespace Go.Proofs.YtlchipjckgaclaaDoor
set_option linter.unusedSimpArgs false
set_option linter.unusedVariables false
set_option maxRecDepth 100000

/-! ### words between separators -/
def consHead (b : UInt8) : List (List UInt8) → List (List UInt8)
  | [] => [[b]]
  | x :: xs => (b :: x) :: xs
def cutAt (c : UInt8) : List UInt8 → List (List UInt8)
  | [] => [[]]
  | b :: l => if b = c then [] :: cutAt c l else consHead b (cutAt c l)
theorem cutAt_no {c : UInt8} : ∀ {l : List UInt8}, c ∉ l → cutAt c l = [l]
  | [], _ => rfl
  | b :: l, h => by
    rw [cutAt, if_neg (fun e => h (by simp [e])), cutAt_no (fun e => h (by simp [e]))]
    rfl
theorem cutAt_app {c : UInt8} : ∀ {l : List UInt8} (r : List UInt8), c ∉ l → cutAt c (l ++ c :: r) = l :: cutAt c r
  | [], r, _ => by rw [List.nil_append, cutAt, if_pos rfl]
  | b :: l, r, h => by
    rw [List.cons_append, cutAt, if_neg (fun e => h (by simp [e])), cutAt_app r (fun e => h (by simp [e]))]
    rfl
theorem cutAt_pos (c : UInt8) (l : List UInt8) : cutAt c l ≠ [] := by
  cases l with
  | nil => simp [cutAt]
  | cons b l =>
    rw [cutAt]
    split
    · simp
    · cases cutAt c l <;> simp [consHead]
theorem cutAt_len (c : UInt8) : ∀ l : List UInt8, (cutAt c l).length ≤ l.length + 1
  | [] => by simp [cutAt]
  | b :: l => by
    have ih := cutAt_len c l
    rw [cutAt]
    split
    · simp; omega
    · cases h : cutAt c l with
      | nil => simp [consHead]
      | cons x xs => rw [h] at ih; simp [consHead] at ih ⊢; omega
theorem cutAt_mem (c : UInt8) : ∀ (l : List UInt8), ∀ w ∈ cutAt c l, w.length ≤ l.length
  | [], w, h => by rw [cutAt, List.mem_singleton] at h; rw [h]; simp
  | b :: l, w, h => by
    have ih := cutAt_mem c l
    rw [cutAt] at h
    split at h
    · rcases List.mem_cons.1 h with rfl | h
      · simp
      · have := ih w h; simp; omega
    · cases hc : cutAt c l with
      | nil => exact absurd hc (cutAt_pos c l)
      | cons x xs =>
        rw [hc] at h ih
        rcases List.mem_cons.1 h with rfl | h
        · have := ih x (by simp); simp; omega
        · have := ih w (by simp [h]); simp; omega
theorem cut_tail {c : UInt8} : ∀ (w : List UInt8) (ws : List (List UInt8)), (∀ x ∈ w :: ws, c ∉ x) → cutAt c (w ++ Lib.joinTail [c] ws) = w :: ws
  | w, [], h => by
    have e : Lib.joinTail [c] [] = [] := rfl
    rw [e, List.append_nil, cutAt_no (h w (by simp))]
  | w, v :: ws, h => by
    have e : Lib.joinTail [c] (v :: ws) = c :: (v ++ Lib.joinTail [c] ws) := by simp [Lib.joinTail]
    rw [e, cutAt_app _ (h w (by simp)), cut_tail v ws (fun x hx => h x (List.mem_cons_of_mem _ hx))]
theorem cut_join {c : UInt8} {ws : List (List UInt8)} (hn : ws ≠ []) (h : ∀ x ∈ ws, c ∉ x) : cutAt c (Lib.join ws [c]) = ws := by
  cases ws with
  | nil => exact absurd rfl hn
  | cons w ws => rw [Lib.join_cons]; exact cut_tail w ws h
theorem split_cut (c : UInt8) : ∀ s : List UInt8, Lib.splitK [c] 0 (Lib.count s [c]) s = cutAt c s
  | [] => by rw [Lib.count_miss (by simp [Lib.index])]; rfl
  | b :: l => by
    have ih := split_cut c l
    by_cases h : b = c
    · subst h
      have hix : Lib.index (b :: l) [b] = ((0 : Nat) : Int) := by rw [Lib.index]; simp [List.isPrefixOf]
      rw [Lib.count_cons_eq, Nat.add_comm, Lib.splitK, hix, if_neg (by decide), cutAt, if_pos rfl]
      simp [ih]
    · have hp : ([c] : List UInt8).isPrefixOf (b :: l) = false := by simp [List.isPrefixOf, Ne.symm h]
      have hix : Lib.index (b :: l) [c] = if Lib.index l [c] == -1 then -1 else Lib.index l [c] + 1 := by rw [Lib.index, hp]; simp
      rw [Lib.count_cons_ne b c l h, cutAt, if_neg h, ← ih]
      by_cases hm : Lib.index l [c] = -1
      · rw [Lib.count_miss hm]
        rfl
      · have hge := Lib.index_ge l [c]
        obtain ⟨j, hj⟩ : ∃ j : Nat, Lib.index l [c] = j := ⟨(Lib.index l [c]).toNat, by omega⟩
        have hix' : Lib.index (b :: l) [c] = ((j + 1 : Nat) : Int) := by rw [hix, if_neg (fun e => hm (beq_iff_eq.1 e)), hj]; omega
        rw [Lib.count_hit (by simp) hj, Nat.add_comm, Lib.splitK, Lib.splitK, hix', hj, if_neg (by simp; omega), if_neg (by simp)]
        simp [consHead]

/-! ### a span -/
theorem at_none {c : UInt8} : ∀ {l : List UInt8}, c ∉ l → Lib.indexByte l c = -1
  | [], _ => rfl
  | b :: l, h => by
    rw [Lib.indexByte, if_neg (by simp; exact fun e => h (by simp [e])), at_none (fun e => h (by simp [e]))]
    rfl
theorem at_app {c : UInt8} : ∀ {l : List UInt8} (r : List UInt8), c ∉ l → Lib.indexByte (l ++ c :: r) c = l.length
  | [], r, _ => by rw [List.nil_append, Lib.indexByte, if_pos (by simp)]; rfl
  | b :: l, r, h => by
    rw [List.cons_append, Lib.indexByte, if_neg (by simp; exact fun e => h (by simp [e])), at_app r (fun e => h (by simp [e])), if_neg (by simp)]
    simp
def rdOf (f : List UInt8 → Option Int) (w : List UInt8) : Option Sp :=
  if Lib.indexByte w 45 < 0 then (f w).map fun n => ⟨n, n⟩
  else match f (w.take (Lib.indexByte w 45).toNat), f (w.drop ((Lib.indexByte w 45).toNat + 1)) with
    | some a, some b => some ⟨a, b⟩
    | _, _ => none
theorem rd_none {f : List UInt8 → Option Int} {w : List UInt8} (h : Lib.indexByte w 45 < 0) : rdOf f w = (f w).map fun n => ⟨n, n⟩ := if_pos h
theorem rd_some {f : List UInt8 → Option Int} {w : List UInt8} (h : ¬ Lib.indexByte w 45 < 0) : rdOf f w = match f (w.take (Lib.indexByte w 45).toNat), f (w.drop ((Lib.indexByte w 45).toNat + 1)) with
    | some a, some b => some ⟨a, b⟩
    | _, _ => none := if_neg h
def natI (l : List UInt8) : Option Int := (natural l).map Int.ofNat
abbrev rdI := rdOf natI
abbrev rdS := rdOf numOf
theorem rd_span {f : List UInt8 → Option Int} (hf : ∀ u : Nat, u < 1000 → f (Lib.decDigits u) = some (u : Int)) {x : Sp} (h : okSp x) (h1 : x.lo ≤ 255) (h2 : x.hi ≤ 255) : rdOf f (spanTxt x) = some x := by
  have n45 : ∀ u, (45 : UInt8) ∉ Lib.decDigits u := fun u => not_dig (dec_dig u) (by decide)
  unfold okSp at h
  obtain ⟨lo, hi⟩ := x
  simp only at h h1 h2
  unfold spanTxt
  rw [itoa_nat h.1, itoa_nat h.2]
  by_cases he : hi = lo
  · subst he
    rw [if_pos rfl, List.append_nil, rd_none (by rw [at_none (n45 _)]; decide), hf _ (by omega)]
    simp
    omega
  · rw [if_neg he, rd_some (by rw [at_app _ (n45 _)]; omega), at_app _ (n45 _)]
    rw [show (((Lib.decDigits lo.toNat).length : Int)).toNat = (Lib.decDigits lo.toNat).length by omega, List.take_left, List.drop_length_add_append, List.drop_succ_cons, List.drop_zero, hf _ (by omega), hf _ (by omega)]
    simp
    omega

/-! ### a set -/
def rdAll (f : List UInt8 → Option Sp) (ws : List (List UInt8)) : Option (List Sp) := if ws.all fun w => (f w).isSome then some (ws.filterMap f) else none
theorem rdAll_none {f : List UInt8 → Option Sp} {ws : List (List UInt8)} {w : List UInt8} (hw : w ∈ ws) (h : f w = none) : rdAll f ws = none := if_neg fun ha => by
  have := List.all_eq_true.1 ha w hw
  rw [h] at this
  cases this
theorem rdAll_some {f : List UInt8 → Option Sp} {ws : List (List UInt8)} (h : ∀ w ∈ ws, (f w).isSome = true) : rdAll f ws = some (ws.filterMap f) := if_pos (List.all_eq_true.2 h)
theorem rdAll_map {f : List UInt8 → Option Sp} {xs : List Sp} (h : ∀ x ∈ xs, f (spanTxt x) = some x) : rdAll f (xs.map spanTxt) = some xs := by
  rw [rdAll_some]
  · congr 1
    induction xs with
    | nil => rfl
    | cons x xs ih => rw [List.map_cons, List.filterMap_cons, h x (by simp)]; simp only; rw [ih (fun z hz => h z (by simp [hz]))]
  · intro w hw
    obtain ⟨x, hx, rfl⟩ := List.mem_map.1 hw
    rw [h x hx]
    rfl
theorem rdAll_len {f : List UInt8 → Option Sp} {ws : List (List UInt8)} {xs : List Sp} (h : rdAll f ws = some xs) : xs.length = ws.length := by
  unfold rdAll at h
  split at h
  · rename_i ha
    injection h with h
    subst h
    rw [List.all_eq_true] at ha
    induction ws with
    | nil => rfl
    | cons w ws ih =>
      have := ha w (by simp)
      cases hf : f w with
      | none => rw [hf] at this; cases this
      | some x => rw [List.filterMap_cons, hf]; simp only; rw [List.length_cons, List.length_cons, ih (fun z hz => ha z (by simp [hz]))]
  · cases h
def readOf (f : List UInt8 → Option Sp) (t : List UInt8) : Option (List Sp) :=
  if t = [110, 111] then some []
  else if 1200 < t.length then none
  else match rdAll f (cutAt 44 t) with
    | none => none
    | some xs => if setOk xs && decide (setTxt xs = t) then some xs else none
theorem read_no (f : List UInt8 → Option Sp) : readOf f [110, 111] = some [] := if_pos rfl
theorem read_long {f : List UInt8 → Option Sp} {t : List UInt8} (h : t ≠ [110, 111]) (hl : 1200 < t.length) : readOf f t = none := by unfold readOf; rw [if_neg h, if_pos hl]
theorem read_bad {f : List UInt8 → Option Sp} {t : List UInt8} (h : t ≠ [110, 111]) (hr : rdAll f (cutAt 44 t) = none) : readOf f t = none := by
  unfold readOf
  rw [if_neg h, hr]
  split <;> rfl
theorem read_end {f : List UInt8 → Option Sp} {t : List UInt8} {xs : List Sp} (h : t ≠ [110, 111]) (hl : ¬ 1200 < t.length) (hr : rdAll f (cutAt 44 t) = some xs) : readOf f t = if setOk xs && decide (setTxt xs = t) then some xs else none := by
  unfold readOf
  rw [if_neg h, if_neg hl, hr]
theorem read_sound {f : List UInt8 → Option Sp} {t : List UInt8} {xs : List Sp} (h : readOf f t = some xs) : setOk xs = true ∧ setTxt xs = t := by
  unfold readOf at h
  split at h
  · rename_i h1; injection h with h; subst h; exact ⟨rfl, h1.symm⟩
  · split at h
    · cases h
    · split at h
      · cases h
      · split at h
        · rename_i h1
          injection h with h
          subst h
          rw [Bool.and_eq_true, decide_eq_true_eq] at h1
          exact h1
        · cases h
theorem okGo_len : ∀ (xs : List Sp) (h : Int), setOkGo (some h) xs = true → xs ≠ [] → h + 2 * xs.length ≤ 255
  | [], _, _, hn => absurd rfl hn
  | x :: xs, h, hs, _ => by
    simp only [setOkGo, Bool.and_eq_true, Bool.not_eq_true'] at hs
    have h1 := (spBad_false _ _).1 hs.1
    have h2 := h1.2.2.2 h rfl
    by_cases hx : xs = []
    · subst hx; simp; omega
    · have := okGo_len xs x.hi hs.2 hx
      rw [List.length_cons]
      omega
theorem ok_len128 {xs : List Sp} (h : setOk xs = true) : xs.length ≤ 128 := by
  cases xs with
  | nil => simp
  | cons x xs =>
    have hs : setOkGo none (x :: xs) = true := h
    simp only [setOkGo, Bool.and_eq_true, Bool.not_eq_true'] at hs
    have h1 := (spBad_false _ _).1 hs.1
    by_cases hx : xs = []
    · subst hx; simp
    · have := okGo_len xs x.hi hs.2 hx
      rw [List.length_cons]
      omega
theorem span_short {x : Sp} (h : okSp x) (h1 : x.lo ≤ 255) (h2 : x.hi ≤ 255) : (spanTxt x).length ≤ 7 := by
  unfold okSp at h
  unfold spanTxt
  rw [itoa_nat h.1, itoa_nat h.2]
  have a1 := dec_short (u := x.lo.toNat) (by omega)
  have a2 := dec_short (u := x.hi.toNat) (by omega)
  split
  · simp; omega
  · simp; omega
theorem acc_short : ∀ (xs : List Sp), (∀ x ∈ xs, (spanTxt x).length ≤ 7) → (accTxt xs).length ≤ 8 * xs.length := by
  intro xs h
  have tl : ∀ ys : List Sp, (∀ x ∈ ys, (spanTxt x).length ≤ 7) → (Lib.joinTail [44] (ys.map spanTxt)).length ≤ 8 * ys.length := by
    intro ys
    induction ys with
    | nil => intro _; simp [Lib.joinTail]
    | cons y ys ih =>
      intro hy
      have e : Lib.joinTail [44] ((y :: ys).map spanTxt) = 44 :: (spanTxt y ++ Lib.joinTail [44] (ys.map spanTxt)) := by simp [Lib.joinTail]
      have h1 := ih fun z hz => hy z (by simp [hz])
      have h2 := hy y (by simp)
      rw [e, List.length_cons, List.length_append, List.length_cons]
      omega
  cases xs with
  | nil => simp [accTxt, Lib.join_nil]
  | cons x xs =>
    unfold accTxt
    rw [List.map_cons, Lib.join_cons, List.length_append, List.length_cons]
    have h1 := tl xs fun z hz => h z (by simp [hz])
    have h2 := h x (by simp)
    omega
theorem ok_span {xs : List Sp} (h : setOk xs = true) : ∀ x ∈ xs, okSp x ∧ x.lo ≤ 255 ∧ x.hi ≤ 255 := fun x hx => by
  have := ok_go (show setOkGo none xs = true from h) x hx
  unfold okSp
  omega
theorem txt_short {xs : List Sp} (h : setOk xs = true) : (setTxt xs).length ≤ 1200 := by
  have h1 := ok_len128 h
  have h2 := acc_short xs fun x hx => span_short (ok_span h x hx).1 (ok_span h x hx).2.1 (ok_span h x hx).2.2
  unfold setTxt
  split
  · simp
  · omega
theorem cut_txt {xs : List Sp} (h : setOk xs = true) (hn : xs ≠ []) : cutAt 44 (accTxt xs) = xs.map spanTxt := by
  unfold accTxt
  refine cut_join (by simpa using hn) fun w hw hb => ?_
  obtain ⟨x, hx, rfl⟩ := List.mem_map.1 hw
  rcases span_chars (ok_sp h x hx) _ hb with h1 | h1 <;> revert h1 <;> decide
/-- what is written is read back -/
theorem read_txt {f : List UInt8 → Option Int} (hf : ∀ u : Nat, u < 1000 → f (Lib.decDigits u) = some (u : Int)) {xs : List Sp} (h : setOk xs = true) : readOf (rdOf f) (setTxt xs) = some xs := by
  by_cases hn : xs = []
  · subst hn; exact read_no _
  · have e : setTxt xs = accTxt xs := by unfold setTxt; rw [if_neg (by simpa using hn)]
    have no : setTxt xs ≠ [110, 111] := fun e1 => hn (set_eq h (by rfl) (e1.trans (by rfl : _ = setTxt [])))
    have hr : rdAll (rdOf f) (cutAt 44 (setTxt xs)) = some xs := by
      rw [e, cut_txt h hn]
      exact rdAll_map fun x hx => rd_span hf (ok_span h x hx).1 (ok_span h x hx).2.1 (ok_span h x hx).2.2
    rw [read_end no (by have := txt_short h; omega) hr, if_pos (by simp [h])]
theorem natI_dec {u : Nat} (h : u < 1000) : natI (Lib.decDigits u) = some (u : Int) := by rw [natI, natural_dec h]; rfl
abbrev readSet := readOf rdI
/-- both readers read the same -/
theorem read_same (t : List UInt8) : readOf rdS t = readSet t := by
  cases h : readOf rdS t with
  | some xs =>
    obtain ⟨h1, h2⟩ := read_sound h
    rw [← h2]
    exact (read_txt (fun u hu => natI_dec hu) h1).symm
  | none =>
    cases h' : readSet t with
    | none => rfl
    | some xs =>
      obtain ⟨h1, h2⟩ := read_sound h'
      have := read_txt (fun u hu => num_dec hu) h1
      rw [h2, h] at this
      cases this
theorem readSet_txt {xs : List Sp} (h : setOk xs = true) : readSet (setTxt xs) = some xs := read_txt (fun u hu => natI_dec hu) h
theorem rdI_in {w : List UInt8} {x : Sp} (h : rdI w = some x) : in64 x.lo ∧ in64 x.hi := by
  have nat_in : ∀ {l : List UInt8} {n : Int}, natI l = some n → in64 n := fun {l n} hn => by
    unfold natI at hn
    obtain ⟨m, hm, rfl⟩ := Option.map_eq_some_iff.1 hn
    have := natural_lt hm
    show in64 (m : Int)
    unfold in64
    omega
  unfold rdI rdOf at h
  split at h
  · obtain ⟨n, hn, rfl⟩ := Option.map_eq_some_iff.1 h
    exact ⟨nat_in hn, nat_in hn⟩
  · split at h
    · rename_i h1 h2
      injection h with h
      subst h
      exact ⟨nat_in h1, nat_in h2⟩
    · cases h
theorem rdS_in {w : List UInt8} {x : Sp} (h : rdS w = some x) : in64 x.lo ∧ in64 x.hi := by
  unfold rdS rdOf at h
  split at h
  · obtain ⟨n, hn, rfl⟩ := Option.map_eq_some_iff.1 h
    exact ⟨num_in hn, num_in hn⟩
  · split at h
    · rename_i h1 h2
      injection h with h
      subst h
      exact ⟨num_in h1, num_in h2⟩
    · cases h
theorem readSet_len {t : List UInt8} {xs : List Sp} (h : readSet t = some xs) : xs.length ≤ 128 := ok_len128 (read_sound h).1

end Go.Proofs.YtlchipjckgaclaaDoor

/-
  DERIVED: THE SHELF's CONTRACTS AT THIS DUMP, IN PLAIN WORDS (tools/lay-plain.mjs out of 'TrydShelf.lean', which tools/lay-shelf.mjs wrote): THE SAME DECLARATIONS UNDER THE SAME NAMES: 'import', 'namespace', 'open', 'def', 'theorem' AND NOTHING ELSE: no command of the shelf's: FOR A HAND-IN. Each laying: the table of numbers ('.._ren') and one theorem, a field a fact of the dump's own or the kernel's comparison; each contract: ONE APPLICATION.
-/
namespace Go.Proofs
open Go.Shelf
def Tryd.lays156_ren : Go.Shelf.Ren := ⟨fun | 156 => 44 | 165 => 78 | 166 => 79 | 169 => 80 | 240 => 94 | 241 => 95 | 276 => 108 | 277 => 109 | n => n, fun | 31 => 63 | 9 => 9 | 3 => 3 | 4 => 4 | 0 => 0 | 20 => 20 | 72 => 94 | 76 => 98 | 70 => 92 | 37 => 40 | 75 => 97 | 127 => 110 | 164 => 123 | 5 => 5 | 80 => 100 | n => n, fun | n => n⟩
theorem Tryd.lays156 : Go.Proofs.Lays.n156 Tryd.prog Tryd.lays156_ren := {
  mixed := by kernel_rfl
  f156 := Tryd.func44.trans (congrArg some (by kernel_rfl))
  f165 := Tryd.func78.trans (congrArg some (by kernel_rfl))
  f166 := Tryd.func79.trans (congrArg some (by kernel_rfl))
  f169 := Tryd.func80.trans (congrArg some (by kernel_rfl))
  f240 := Tryd.func94.trans (congrArg some (by kernel_rfl))
  f241 := Tryd.func95.trans (congrArg some (by kernel_rfl))
  f276 := Tryd.func108.trans (congrArg some (by kernel_rfl))
  f277 := Tryd.func109.trans (congrArg some (by kernel_rfl))
  t0 := Tryd.underlying0
  a0 := Tryd.isAgg0
  z0 := Tryd.sizeOf0
  v0 := Tryd.zeroValue0
  t3 := Tryd.underlying3
  a3 := Tryd.isAgg3
  z3 := Tryd.sizeOf3
  v3 := Tryd.zeroValue3
  t4 := Tryd.underlying4
  a4 := Tryd.isAgg4
  z4 := Tryd.sizeOf4
  v4 := Tryd.zeroValue4
  t9 := Tryd.underlying9
  a9 := Tryd.isAgg9
  z9 := Tryd.sizeOf9
  v9 := Tryd.zeroValue9
  t20 := Tryd.underlying20
  a20 := Tryd.isAgg20
  z20 := Tryd.sizeOf20
  v20 := Tryd.zeroValue20
  t31 := Tryd.underlying63
  a31 := Tryd.isAgg63
  z31 := Tryd.sizeOf63
  v31 := Tryd.zeroValue63
  t37 := Tryd.underlying40
  a37 := Tryd.isAgg40
  z37 := Tryd.sizeOf40
  v37 := Tryd.zeroValue40
  t70 := Tryd.underlying92
  a70 := Tryd.isAgg92
  z70 := Tryd.sizeOf92
  v70 := Tryd.zeroValue92
  t72 := Tryd.underlying94
  a72 := Tryd.isAgg94
  z72 := Tryd.sizeOf94
  v72 := Tryd.zeroValue94
  t75 := Tryd.underlying97
  a75 := Tryd.isAgg97
  z75 := Tryd.sizeOf97
  v75 := Tryd.zeroValue97
  t76 := Tryd.underlying98
  a76 := Tryd.isAgg98
  z76 := Tryd.sizeOf98
  v76 := Tryd.zeroValue98
  t127 := Tryd.underlying110
  a127 := Tryd.isAgg110
  z127 := Tryd.sizeOf110
  v127 := Tryd.zeroValue110
  t164 := Tryd.underlying123
  a164 := Tryd.isAgg123
  z164 := Tryd.sizeOf123
  v164 := Tryd.zeroValue123 }
theorem Tryd.Builder_Extra_156 : Builder.Extra Tryd.prog Tryd.lays156_ren := {
  sizeBuilder := by kernel_rfl
  liesBuilder := by kernel_rfl
  t5 := Tryd.underlying5
  a5 := Tryd.isAgg5
  z5 := Tryd.sizeOf5
  v5 := Tryd.zeroValue5
  infoByte := by kernel_rfl
  cellsByte := by kernel_rfl
  sizeByte := by kernel_rfl
  neB5 := by decide }
open Go.RowKit in
/-- No element: the empty string; the world is as it was. (Whatever the slice's address and capacity: a nil slice too.) (LAID: no walk: one application.) -/
theorem Tryd.strings_Join_none (a : Option Addr) (c : Nat) (sep : ByteArray) (w : World) :
    Calls Tryd.prog 44 #[.slice a 0 c, .string sep] w fun e w' => e = .returned (.string ⟨#[]⟩) ∧ w' = w := Any.strings_Join_none Tryd.lays156 Tryd.Builder_Extra_156 a c sep w
open Go.RowKit in
/-- strings.Join: "Join concatenates the elements of its first argument to create a single string. The separator string sep is placed between elements in the resulting string.": HOWEVER MANY ELEMENTS. Below the heap's end the world is as it was. (LAID: no walk: one application.) -/
theorem Tryd.strings_Join (bk o c : Nat) (xs : List ByteArray) (sep : ByteArray) (w : World) (hcells : ∀ (j : Nat) x, xs[j]? = some x → w.cell? ⟨bk, o + j, none⟩ = some (.string x)) (hbk : bk < w.heap.size) (hN : xs.length ≤ 140737488355328) (hcap : xs.length ≤ c) (hlen : (Lib.join (xs.map (·.data.toList)) sep.data.toList).length ≤ 140737488355328) :
    Calls Tryd.prog 44 #[.slice (some ⟨bk, o, none⟩) xs.length c, .string sep] w fun e w' => e = .returned (.string ⟨(Lib.join (xs.map (·.data.toList)) sep.data.toList).toArray⟩) ∧ Below w.heap.size w w' := Any.strings_Join Tryd.lays156 Tryd.Builder_Extra_156 bk o c xs sep w hcells hbk hN hcap hlen
def Tryd.laysM171_ren : Go.Shelf.Ren := ⟨fun | 171 => 43 | 243 => 77 | 246 => 93 | 283 => 104 | 284 => 105 | 285 => 106 | 286 => 107 | 129 => 119 | 317 => 118 | 318 => 120 | 319 => 121 | 320 => 122 | 337 => 126 | 338 => 127 | n => n, fun | 3 => 3 | 9 => 9 | 2 => 2 | 4 => 4 | 171 => 117 | 0 => 0 | 53 => 118 | 37 => 40 | 5 => 5 | 173 => 121 | 212 => 132 | 51 => 133 | 20 => 20 | 213 => 134 | 46 => 130 | 232 => 144 | 233 => 145 | n => n, fun | 17 => 1 | 18 => 4 | 19 => 5 | n => n⟩
theorem Tryd.laysM171 : Go.Proofs.LaysM.n171 Tryd.prog Tryd.laysM171_ren := {
  mixed := by kernel_rfl
  f129 := Tryd.func119.trans (congrArg some (by kernel_rfl))
  f171 := Tryd.func43.trans (congrArg some (by kernel_rfl))
  f243 := Tryd.func77.trans (congrArg some (by kernel_rfl))
  f246 := Tryd.func93.trans (congrArg some (by kernel_rfl))
  f283 := Tryd.func104.trans (congrArg some (by kernel_rfl))
  f284 := Tryd.func105.trans (congrArg some (by kernel_rfl))
  f285 := Tryd.func106.trans (congrArg some (by kernel_rfl))
  f286 := Tryd.func107.trans (congrArg some (by kernel_rfl))
  f317 := Tryd.func118.trans (congrArg some (by kernel_rfl))
  f318 := Tryd.func120.trans (congrArg some (by kernel_rfl))
  f319 := Tryd.func121.trans (congrArg some (by kernel_rfl))
  f320 := Tryd.func122.trans (congrArg some (by kernel_rfl))
  f337 := Tryd.func126.trans (congrArg some (by kernel_rfl))
  f338 := Tryd.func127.trans (congrArg some (by kernel_rfl))
  t0 := Tryd.underlying0
  a0 := Tryd.isAgg0
  z0 := Tryd.sizeOf0
  v0 := Tryd.zeroValue0
  t2 := Tryd.underlying2
  a2 := Tryd.isAgg2
  z2 := Tryd.sizeOf2
  v2 := Tryd.zeroValue2
  t3 := Tryd.underlying3
  a3 := Tryd.isAgg3
  z3 := Tryd.sizeOf3
  v3 := Tryd.zeroValue3
  t4 := Tryd.underlying4
  a4 := Tryd.isAgg4
  z4 := Tryd.sizeOf4
  v4 := Tryd.zeroValue4
  t5 := Tryd.underlying5
  a5 := Tryd.isAgg5
  z5 := Tryd.sizeOf5
  v5 := Tryd.zeroValue5
  t9 := Tryd.underlying9
  a9 := Tryd.isAgg9
  z9 := Tryd.sizeOf9
  v9 := Tryd.zeroValue9
  t20 := Tryd.underlying20
  a20 := Tryd.isAgg20
  z20 := Tryd.sizeOf20
  v20 := Tryd.zeroValue20
  t37 := Tryd.underlying40
  a37 := Tryd.isAgg40
  z37 := Tryd.sizeOf40
  v37 := Tryd.zeroValue40
  t46 := Tryd.underlying130
  a46 := Tryd.isAgg130
  z46 := Tryd.sizeOf130
  v46 := Tryd.zeroValue130
  t51 := Tryd.underlying133
  a51 := Tryd.isAgg133
  z51 := Tryd.sizeOf133
  v51 := Tryd.zeroValue133
  t53 := Tryd.underlying118
  a53 := Tryd.isAgg118
  z53 := Tryd.sizeOf118
  v53 := Tryd.zeroValue118
  t171 := Tryd.underlying117
  a171 := Tryd.isAgg117
  z171 := Tryd.sizeOf117
  v171 := Tryd.zeroValue117
  t173 := Tryd.underlying121
  a173 := Tryd.isAgg121
  z173 := Tryd.sizeOf121
  v173 := Tryd.zeroValue121
  t212 := Tryd.underlying132
  a212 := Tryd.isAgg132
  z212 := Tryd.sizeOf132
  v212 := Tryd.zeroValue132
  t213 := Tryd.underlying134
  a213 := Tryd.isAgg134
  z213 := Tryd.sizeOf134
  t232 := Tryd.underlying144
  a232 := Tryd.isAgg144
  z232 := Tryd.sizeOf144
  v232 := Tryd.zeroValue144
  t233 := Tryd.underlying145
  a233 := Tryd.isAgg145
  z233 := Tryd.sizeOf145
  v233 := Tryd.zeroValue145
  g17 := by kernel_rfl
  g18 := by kernel_rfl
  g19 := by kernel_rfl
  i0 := by kernel_rfl
  i2 := by kernel_rfl
  i3 := by kernel_rfl
  i4 := by kernel_rfl
  i5 := by kernel_rfl
  i9 := by kernel_rfl
  i20 := by kernel_rfl
  i37 := by kernel_rfl
  i46 := by kernel_rfl
  i51 := by kernel_rfl
  i53 := by kernel_rfl
  i171 := by kernel_rfl
  i173 := by kernel_rfl
  i212 := by kernel_rfl
  i232 := by kernel_rfl
  i233 := by kernel_rfl
  m17 := by kernel_rfl
  m18 := by kernel_rfl
  m19 := by kernel_rfl }
open Go.RowKit Go.Sort Go.Lib in
/-- strconv.Itoa: "Itoa is equivalent to FormatInt(int64(i), 10).": i's DECIMAL NUMERAL ('Lib.itoa': a '-' where i is negative, then the digits), FOR EVERY int. The world behind the call: the world before it, new blocks behind the heap (the library's 'var a [24]byte'), draws. (LAID: no walk: one application.) -/
theorem Tryd.strconv_Itoa (n : Int) (h0 : -9223372036854775808 ≤ n) (h1 : n ≤ 9223372036854775807) (w : World) (htab : Lib.TabIs Tryd.prog w "internal/strconv.uint64pow10" .u64 Lib.pow10Tab) :
    Calls Tryd.prog 43 #[.int .i64 n] w fun e w' => e = .returned (.string ⟨(Lib.itoa n).toArray⟩) ∧ ∃ k os, w' = grow (w.drewN k) os := Any.strconv_Itoa Tryd.laysM171 n h0 h1 w htab
end Go.Proofs

/- toSpanS, markSpanS, heldSpanS. -/
namespace Go.Proofs.YtlchipjckgaclaaDoor
set_option linter.unusedSimpArgs false
set_option linter.unusedVariables false
set_option maxRecDepth 100000
open Go.RowKit

set_option maxHeartbeats 1000000 in
theorem toSpanS_c (A : Option Addr) (c : Nat) (xs : List Sp) (w : World) {lo : Nat} (h : Sps w lo A c xs) (hx : xs.length ≤ 1048576) :
    Calls Tryd.prog 11 #[.slice A xs.length c] w fun e w' => ∃ v, e = .returned v ∧ OwnSp w' w.heap.size v xs ∧ Below w.heap.size w w' := by
  obtain ⟨i0, hi, hz0, hz1, hz2⟩ := info_parts infoSp
  go_enter Tryd.func11, Tryd.ntmps11
  go_wp2_with (at_make; refine wpList_make_full _ rfl (.tmp 6) (.tmp 6) 25 rfl w.heap.size TSp i0 (.agg #[.int .i64 0, .int .i64 0]) 2 Tryd.underlying25 hi hz0 hz1 .i64 .i64 _ _ xs.length rfl rfl rfl rfl (by rw [hz2]; omega) (by unfold maxLen; omega) (Nat.le_refl _) ?_; intro w1 hown hgrow)
  have HO : Hid (OwnSp w1 w.heap.size (.slice (some ⟨w.heap.size, 0, none⟩) xs.length xs.length) (xs.take 0 ++ List.replicate (xs.length - 0) ⟨0, 0⟩)) := by
    refine ⟨?_, by rw [take_rep_length _ _ _ (Nat.zero_le _)]; unfold maxN; omega⟩
    rw [take_rep_length _ _ _ (Nat.zero_le _), List.take_zero, List.nil_append, Nat.sub_zero, ← spcs_zeros]
    exact hown
  have HB : Hid (Below w.heap.size w w1) := (Below.refl _ w).grown hgrow (Nat.le_refl _) (fun k hk => by cases hk)
  clear hown hgrow hi hz0 hz1 hz2
  go_loopg [4] (xs.length) (fun n i wr => ∃ k : Nat, k + n = xs.length ∧ i = .int .i64 k ∧ Hid (OwnSp wr w.heap.size (.slice (some ⟨w.heap.size, 0, none⟩) xs.length xs.length) (xs.take k ++ List.replicate (xs.length - k) ⟨0, 0⟩)) ∧ Hid (Below w.heap.size w wr))
  case atStart => exact ⟨0, by omega, rfl, HO, HB⟩
  case round =>
    clear HO HB
    obtain ⟨k, hk, rfl, HO, HB⟩ := hrel
    by_cases hlt : k < xs.length
    · obtain ⟨a, x, rfl, HX, HD, h0, h1⟩ := (h.below HB.out).at_ k hlt
      go_wp2_with (go_at_call 42; refine (toSpan_c x _).mono ?_; rintro e w2 ⟨rfl, hb⟩; have HO2 : Hid _ := HO.out.below hb; have HB2 : Hid _ := below_then HB.out hb; obtain ⟨y, _, c0, c1, f0, f1⟩ := HO2.out.cells k (by rw [take_rep_length _ _ _ (by omega)]; exact hlt); clear HO HB hb)
      go_roundg (gk - 1)
      case rel =>
        refine ⟨k + 1, by omega, by go_num, ?_, below_set (below_set HB2.out (Nat.le_refl _) _) (Nat.le_refl _) _⟩
        have hs := HO2.out.set2 k x.lo x.hi
        rw [take_rep_set xs _ _ k hlt HX.out] at hs
        exact hs
      case measure => omega
    · go_wp2
      go_ret
      refine ⟨_, rfl, ?_, HB.out⟩
      have := HO.out
      rw [show k = xs.length by omega, List.take_length, Nat.sub_self, List.replicate_zero, List.append_nil] at this
      exact this

theorem OwnSp.slice {w : World} {base : Nat} {v : Value} {xs : List Sp} (h : OwnSp w base v xs) : ∃ A c, v = .slice A xs.length c := by
  obtain ⟨A, c, e, _⟩ := h.sps
  exact ⟨A, c, e⟩
theorem OwnSp.head {w : World} {base c : Nat} {A : Option Addr} {xs : List Sp} (h : OwnSp w base (.slice A xs.length c) xs) (hn : 0 < xs.length) : ∃ g, A = some ⟨g, 0, none⟩ ∧ base ≤ g := by
  obtain ⟨g, cap, e, hg, _⟩ := own_form h.own hn
  injection e with e1 e2 e3
  exact ⟨g, e1, hg⟩

/-- what is written: the row's own block alone -/
theorem grown_refl (w : World) (row : Option Nat) : w.grownBy w row := ⟨rfl, rfl, rfl, Nat.le_refl _, fun _ _ _ => rfl⟩
theorem grown_set {w w1 : World} {g : Nat} (h : w.grownBy w1 (some g)) (o : Nat) (u : Value) : w.grownBy (w1.setCell ⟨g, o, none⟩ u) (some g) :=
  ⟨h.os, h.tape, h.output, by rw [World.size_setCell]; exact h.size, fun k hk hne => (Below.heap_setCell w1 ⟨g, o, none⟩ u k (fun e => hne (by rw [e]))).trans (h.block k hk hne)⟩

set_option maxHeartbeats 1000000 in
theorem markSpanS_c (A : Option Addr) (c : Nat) (xs : List Sp) (q : Int) (w : World) {base : Nat} (h : OwnSp w base (.slice A xs.length c) xs) (h0 : 0 ≤ q) (h1 : q ≤ 1073741824) (hx : xs.length ≤ 1073741824) :
    Calls Tryd.prog 28 #[.slice A xs.length c, .int .i64 q] w fun e w' => e = .returned (.int .i64 (q + 2 * (xs.length : Int))) ∧ OwnSp w' base (.slice A xs.length c) (markSps q xs) ∧ w.grownBy w' (Value.slice A xs.length c).ownBlock := by
  go_enter Tryd.func28, Tryd.ntmps28
  go_wp2
  go_loopg [1, 5] (xs.length) (fun n q' i wr => ∃ k : Nat, k + n = xs.length ∧ i = .int .i64 k ∧ q' = .int .i64 (q + 2 * (k : Int)) ∧ Hid (OwnSp wr base (.slice A xs.length c) ((markSps q xs).take k ++ xs.drop k)) ∧ Hid (w.grownBy wr (Value.slice A xs.length c).ownBlock))
  case atStart => exact ⟨0, by omega, rfl, by simp, by simpa [Hid] using h, grown_refl _ _⟩
  case round =>
    obtain ⟨k, hk, rfl, rfl, HO, HG⟩ := hrel
    by_cases hlt : k < xs.length
    · obtain ⟨g, rfl, hg⟩ := h.head (by omega)
      have hl : ((markSps q xs).take k ++ xs.drop k).length = xs.length := by rw [List.length_append, List.length_take, List.length_drop, markSps_length]; omega
      obtain ⟨y, _, c0, c1, f0, f1⟩ := HO.out.cells k (by omega)
      have HL : Hid (_ = _) := hl
      have HH := Lib.hid h
      clear hl h
      go_wp2
      go_roundg (gk - 1)
      case rel =>
        refine ⟨k + 1, by omega, by go_num, by go_num, ?_, grown_set (grown_set HG.out _ _) _ _⟩
        have hs := HO.out.set2 k (q + 2 * (k : Int)) (q + 2 * (k : Int) + 1)
        rw [markSps_set xs q k hlt] at hs
        exact hs
      case measure => omega
    · go_wp2
      go_ret
      have hk' : k = xs.length := by omega
      refine ⟨ret_int (by omega), ?_, HG.out⟩
      have := HO.out
      rw [hk', List.drop_length, List.append_nil, List.take_of_length_le (by rw [markSps_length]; exact Nat.le_refl _)] at this
      exact this

set_option maxHeartbeats 1000000 in
theorem heldSpanS_c (A : Option Addr) (c : Nat) (xs ys : List Sp) (q : Int) (w : World) {lo : Nat} (hm : xs = markSps q ys) (h : Sps w lo A c xs) (h0 : 0 ≤ q) (h1 : q ≤ 1073741824) (hx : xs.length ≤ 1073741824) :
    Calls Tryd.prog 29 #[.slice A xs.length c, .int .i64 q] w fun e w' => e = .returned (.int .i64 (q + 2 * (xs.length : Int))) ∧ Drawn w w' := by
  have HM : Hid (xs = markSps q ys) := hm
  clear hm
  go_enter Tryd.func29, Tryd.ntmps29
  go_wp2
  go_loopg [1, 5] (xs.length) (fun n q' i wr => ∃ k : Nat, k + n = xs.length ∧ i = .int .i64 k ∧ q' = .int .i64 (q + 2 * (k : Int)) ∧ Drawn w wr)
  case atStart => exact ⟨0, by omega, rfl, by simp, Drawn.refl _⟩
  case round =>
    obtain ⟨k, hk, rfl, rfl, m, rfl⟩ := hrel
    by_cases hlt : k < xs.length
    · obtain ⟨a, x, rfl, HX, HD, c0, c1⟩ := h.at_ k hlt
      obtain rfl : x = ⟨q + 2 * (k : Int), q + 2 * (k : Int) + 1⟩ := by
        have e1 := HX.out
        have e2 := HM.out
        have e3 : k < ys.length := by rw [e2, markSps_length] at hlt; exact hlt
        rw [e2, markSps_get _ _ _ e3] at e1
        exact (Option.some.inj e1).symm
      go_wp2
      go_roundg (gk - 1)
      case rel => exact ⟨k + 1, by omega, by go_num, by go_num, _, rfl⟩
      case measure => omega
    · go_wp2
      go_ret
      exact ⟨ret_int (by omega), _, rfl⟩

end Go.Proofs.YtlchipjckgaclaaDoor

/- Trees that a call made: each row in a block of its own. -/
namespace Go.Proofs.YtlchipjckgaclaaDoor
set_option linter.unusedSimpArgs false
set_option linter.unusedVariables false
set_option maxRecDepth 100000
open Go.RowKit

abbrev TRx : Nat := 36
abbrev nilS : Value := .slice none 0 0
/-- the block of a row -/
def vblk (v : Value) : List Nat := match v.ownBlock with
  | some g => [g]
  | none => []
theorem mem_vblk {v : Value} {g : Nat} : g ∈ vblk v ↔ v.ownBlock = some g := by
  unfold vblk
  split <;> simp_all
  exact eq_comm
theorem vblk_nil : vblk nilS = [] := rfl
theorem vblk_some (g n c : Nat) : vblk (.slice (some ⟨g, 0, none⟩) n c) = [g] := rfl

structure KInfo where
  fp : List Nat
  v1 : Value
  v2 : Value
def kcell (r : Rex) (x : KInfo) : List Value := [.int .i64 r.kind, x.v1, x.v2]
def kcells : List Rex → List KInfo → List Value
  | r :: rs, x :: xs => kcell r x ++ kcells rs xs
  | _, _ => []
def fps (L : List KInfo) : List Nat := L.flatMap (·.fp)
theorem fps_append (L M : List KInfo) : fps (L ++ M) = fps L ++ fps M := by simp [fps]
theorem fps_cons (x : KInfo) (L : List KInfo) : fps (x :: L) = x.fp ++ fps L := by simp [fps]
theorem kcells_length : ∀ (rs : List Rex) (L : List KInfo), rs.length = L.length → (kcells rs L).length = rs.length * 3
  | [], [], _ => rfl
  | r :: rs, x :: L, h => by
    simp only [kcells, kcell, List.length_append, List.length_cons, List.length_nil]
    rw [kcells_length rs L (by simpa using h)]
    omega
theorem kcells_append : ∀ (rs : List Rex) (L : List KInfo) (r : Rex) (x : KInfo), rs.length = L.length → kcells (rs ++ [r]) (L ++ [x]) = kcells rs L ++ [.int .i64 r.kind, x.v1, x.v2]
  | [], [], r, x, _ => by simp [kcells, kcell]
  | r' :: rs, x' :: L, r, x, h => by
    have := kcells_append rs L r x (by simpa using h)
    simp only [List.cons_append, kcells, this, List.append_assoc]
theorem kcells_get : ∀ (rs : List Rex) (L : List KInfo) (i : Nat) (r : Rex) (x : KInfo), rs[i]? = some r → L[i]? = some x → rs.length = L.length →
    (kcells rs L)[i * 3]? = some (.int .i64 r.kind) ∧ (kcells rs L)[i * 3 + 1]? = some x.v1 ∧ (kcells rs L)[i * 3 + 2]? = some x.v2
  | [], _, i, r, x, h, _, _ => by simp at h
  | r' :: rs, [], i, r, x, _, h, _ => by simp at h
  | r' :: rs, x' :: L, 0, r, x, h1, h2, hl => by
    simp at h1 h2
    subst h1 h2
    simp [kcells, kcell]
  | r' :: rs, x' :: L, i + 1, r, x, h1, h2, hl => by
    have := kcells_get rs L i r x (by simpa using h1) (by simpa using h2) (by simpa using hl)
    rw [show (i + 1) * 3 = i * 3 + 3 by omega]
    simpa [kcells, kcell] using this

inductive OwnT (w : World) : List Nat → Rex → Value → Value → Prop
  | mk (k : Int) (s : List Sp) (ks : List Rex) (v1 v2 : Value) (L : List KInfo) (hL : ks.length = L.length) (hs : OwnSp w 0 v1 s) (hk : w.ownsRow 0 TRx 3 v2 ks.length (kcells ks L)) (hn : ks.length ≤ maxN)
      (hr : ∀ (i : Nat) (r : Rex) (x : KInfo), ks[i]? = some r → L[i]? = some x → OwnT w x.fp r x.v1 x.v2) (nd : (vblk v1 ++ (vblk v2 ++ fps L)).Nodup) : OwnT w (vblk v1 ++ (vblk v2 ++ fps L)) (.mk k s ks) v1 v2

/-- a row of trees that a call made -/
structure OwnK (w : World) (fp : List Nat) (ks : List Rex) (v2 : Value) (L : List KInfo) : Prop where
  hL : ks.length = L.length
  hk : w.ownsRow 0 TRx 3 v2 ks.length (kcells ks L)
  hn : ks.length ≤ maxN
  hr : ∀ (i : Nat) (r : Rex) (x : KInfo), ks[i]? = some r → L[i]? = some x → OwnT w x.fp r x.v1 x.v2
  fe : fp = vblk v2 ++ fps L
  nd : fp.Nodup
theorem OwnT.parts {w : World} {fp : List Nat} {r : Rex} {v1 v2 : Value} (h : OwnT w fp r v1 v2) :
    ∃ L fk, fp = vblk v1 ++ fk ∧ fp.Nodup ∧ OwnSp w 0 v1 r.set ∧ OwnK w fk r.kids v2 L := by
  cases h with
  | mk k s ks _ _ L hL hs hk hn hr nd => exact ⟨L, _, rfl, nd, hs, hL, hk, hn, hr, rfl, (List.nodup_append.1 nd).2.1⟩
theorem OwnT.of {w : World} {fk : List Nat} {k : Int} {s : List Sp} {ks : List Rex} {v1 v2 : Value} {L : List KInfo} (hs : OwnSp w 0 v1 s) (hk : OwnK w fk ks v2 L) (nd : (vblk v1 ++ fk).Nodup) : OwnT w (vblk v1 ++ fk) (.mk k s ks) v1 v2 := by
  obtain ⟨hL, hk, hn, hr, fe, _⟩ := hk
  subst fe
  exact .mk k s ks v1 v2 L hL hs hk hn hr nd

theorem OwnSp.lt {w : World} {base : Nat} {v : Value} {xs : List Sp} (h : OwnSp w base v xs) : ∀ b, b ∈ vblk v → base ≤ b ∧ b < w.heap.size := fun b hb => h.own.lt b (mem_vblk.1 hb)
theorem mem_fps {L : List KInfo} {b : Nat} : b ∈ fps L ↔ ∃ (i : Nat) (x : KInfo), L[i]? = some x ∧ b ∈ x.fp := by
  unfold fps
  rw [List.mem_flatMap]
  constructor
  · rintro ⟨x, hx, hb⟩
    obtain ⟨i, hi⟩ := List.getElem?_of_mem hx
    exact ⟨i, x, hi, hb⟩
  · rintro ⟨i, x, hi, hb⟩
    exact ⟨x, List.mem_of_getElem? hi, hb⟩
theorem OwnT.lt {w : World} {fp : List Nat} {r : Rex} {v1 v2 : Value} (h : OwnT w fp r v1 v2) : ∀ b, b ∈ fp → b < w.heap.size := by
  induction h with
  | mk k s ks v1 v2 L hL hs hk hn hr nd ih =>
    intro b hb
    rcases List.mem_append.1 hb with hb | hb
    · exact (hs.lt b hb).2
    · rcases List.mem_append.1 hb with hb | hb
      · exact (hk.lt b (mem_vblk.1 hb)).2
      · obtain ⟨i, x, hx, hb⟩ := mem_fps.1 hb
        have hi := (List.getElem?_eq_some_iff.1 hx).1
        exact ih i (ks[i]'(by omega)) x (List.getElem?_eq_getElem _) hx b hb
theorem OwnK.lt {w : World} {fp : List Nat} {ks : List Rex} {v2 : Value} {L : List KInfo} (h : OwnK w fp ks v2 L) : ∀ b, b ∈ fp → b < w.heap.size := by
  intro b hb
  rw [h.fe] at hb
  rcases List.mem_append.1 hb with hb | hb
  · exact (h.hk.lt b (mem_vblk.1 hb)).2
  · obtain ⟨i, x, hx, hb⟩ := mem_fps.1 hb
    have hi := (List.getElem?_eq_some_iff.1 hx).1
    have hL := h.hL
    exact (h.hr i (ks[i]'(by omega)) x (List.getElem?_eq_getElem _) hx).lt b hb
/-- it stays where its blocks stay -/
theorem OwnSp.stay {w w1 : World} {base : Nat} {v : Value} {xs : List Sp} (h : OwnSp w base v xs) (hm : ∀ b, b ∈ vblk v → w1.heap[b]? = w.heap[b]?) : OwnSp w1 base v xs := ⟨own_move h.own fun k hk => hm k (mem_vblk.2 hk), h.len⟩
theorem OwnT.stay {w w' : World} {fp : List Nat} {r : Rex} {v1 v2 : Value} (h : OwnT w fp r v1 v2) (hm : ∀ b, b ∈ fp → w'.heap[b]? = w.heap[b]?) : OwnT w' fp r v1 v2 := by
  induction h with
  | mk k s ks v1 v2 L hL hs hk hn hr nd ih =>
    refine .mk k s ks v1 v2 L hL (hs.stay fun b hb => hm b (by simp [hb])) (own_move hk fun g hg => hm g (by simp [mem_vblk.2 hg])) hn (fun i r x hi hx => ih i r x hi hx fun b hb => hm b ?_) nd
    have := mem_fps.2 ⟨i, x, hx, hb⟩
    simp [this]
theorem OwnK.stay {w w' : World} {fp : List Nat} {ks : List Rex} {v2 : Value} {L : List KInfo} (h : OwnK w fp ks v2 L) (hm : ∀ b, b ∈ fp → w'.heap[b]? = w.heap[b]?) : OwnK w' fp ks v2 L := by
  obtain ⟨hL, hk, hn, hr, fe, nd⟩ := h
  refine ⟨hL, own_move hk fun g hg => hm g (by simp [fe, mem_vblk.2 hg]), hn, fun i r x hi hx => (hr i r x hi hx).stay fun b hb => hm b ?_, fe, nd⟩
  have := mem_fps.2 ⟨i, x, hx, hb⟩
  simp [fe, this]
theorem OwnT.under {w w' : World} {fp : List Nat} {r : Rex} {v1 v2 : Value} (h : OwnT w fp r v1 v2) (hb : Below w.heap.size w w') : OwnT w' fp r v1 v2 := h.stay fun b hf => hb.block b (h.lt b hf)
theorem OwnK.under {w w' : World} {fp : List Nat} {ks : List Rex} {v2 : Value} {L : List KInfo} (h : OwnK w fp ks v2 L) (hb : Below w.heap.size w w') : OwnK w' fp ks v2 L := h.stay fun b hf => hb.block b (h.lt b hf)

/-- what is owned is read -/
theorem OwnT.rexv {w : World} {fp : List Nat} {r : Rex} {v1 v2 : Value} (h : OwnT w fp r v1 v2) : ∀ lo, (∀ b, b ∈ fp → lo ≤ b) → RexV w lo r (.int .i64 r.kind) v1 v2 := by
  induction h with
  | mk k s ks v1 v2 L hL hs hk hn hr nd ih =>
    intro lo hlo
    have hs' : OwnSp w lo v1 s := by
      refine ⟨?_, hs.len⟩
      obtain ⟨h1, h2⟩ := hs.own
      refine ⟨h1, h2.imp id ?_⟩
      rintro ⟨g, cap, cur, rfl, hg, r⟩
      exact ⟨g, cap, cur, rfl, hlo g (by simp [vblk_some]), r⟩
    obtain ⟨A, c, rfl, sp⟩ := hs'.sps
    have hk' : w.ownsRow lo TRx 3 v2 ks.length (kcells ks L) := by
      obtain ⟨h1, h2⟩ := hk
      refine ⟨h1, h2.imp id ?_⟩
      rintro ⟨g, cap, cur, rfl, hg, r⟩
      exact ⟨g, cap, cur, rfl, hlo g (by simp [vblk_some]), r⟩
    obtain ⟨K, ck, rfl, hck, hrow⟩ := own_row hk'
    refine .mk k s ks A K c ck (fun i => .int .i64 (ks.getD i default).kind) (fun i => (L.getD i ⟨[], undef, undef⟩).v1) (fun i => (L.getD i ⟨[], undef, undef⟩).v2) sp hck hn (fun i hi => ?_) (fun i r hi => ?_)
    · have e1 : ks[i]? = some (ks.getD i default) := by simp [List.getD_eq_getElem?_getD, hi]
      have e2 : L[i]? = some (L.getD i ⟨[], undef, undef⟩) := by simp [List.getD_eq_getElem?_getD, show i < L.length by omega]
      obtain ⟨g0, g1, g2⟩ := kcells_get ks L i _ _ e1 e2 hL
      rcases hrow with h0 | ⟨a, rfl, ha, hc⟩
      · rw [h0] at g0; simp at g0
      · exact ⟨a, rfl, ha, hc _ _ g0, by rw [← add_field _ _ 1 (by omega)]; exact hc _ _ g1, by rw [← add_field _ _ 2 (by omega)]; exact hc _ _ g2⟩
    · have hi' := (List.getElem?_eq_some_iff.1 hi).1
      have e1 : ks.getD i default = r := by simp [List.getD_eq_getElem?_getD, hi]
      have e2 : L[i]? = some (L.getD i ⟨[], undef, undef⟩) := by simp [List.getD_eq_getElem?_getD, show i < L.length by omega]
      show RexV w lo r (.int .i64 (ks.getD i default).kind) _ _
      rw [e1]
      exact ih i r _ hi e2 lo fun b hb => hlo b (by have := mem_fps.2 ⟨i, _, e2, hb⟩; simp [this])
theorem OwnT.rex0 {w : World} {fp : List Nat} {r : Rex} {v1 v2 : Value} (h : OwnT w fp r v1 v2) : RexV w 0 r (.int .i64 r.kind) v1 v2 := h.rexv 0 fun _ _ => Nat.zero_le _
theorem OwnK.empty {w : World} : OwnK w [] [] nilS [] := ⟨rfl, World.ownsRow_nil _ _ _ _, by simp, fun i r x h => by simp at h, rfl, List.nodup_nil⟩

/-- all blocks but some are as they were -/
structure Touch (fp : List Nat) (w w' : World) : Prop where
  os : w'.os = w.os
  tape : w'.tape = w.tape
  output : w'.output = w.output
  size : w.heap.size ≤ w'.heap.size
  block : ∀ k, k < w.heap.size → k ∉ fp → w'.heap[k]? = w.heap[k]?
theorem Touch.refl (fp : List Nat) (w : World) : Touch fp w w := ⟨rfl, rfl, rfl, Nat.le_refl _, fun _ _ _ => rfl⟩
theorem Touch.trans {fp : List Nat} {w w' w'' : World} (h : Touch fp w w') (k : Touch fp w' w'') : Touch fp w w'' :=
  ⟨k.os.trans h.os, k.tape.trans h.tape, k.output.trans h.output, Nat.le_trans h.size k.size, fun i hi hf => (k.block i (Nat.lt_of_lt_of_le hi h.size) hf).trans (h.block i hi hf)⟩
theorem Touch.wide {fp fp' : List Nat} {w w' : World} (h : Touch fp w w') (hs : ∀ b, b ∈ fp → b ∈ fp') : Touch fp' w w' := ⟨h.os, h.tape, h.output, h.size, fun k hk hf => h.block k hk fun h2 => hf (hs k h2)⟩
theorem Touch.of_below {fp : List Nat} {w w' : World} (h : Below w.heap.size w w') : Touch fp w w' := ⟨h.os, h.tape, h.output, h.size, fun k hk _ => h.block k hk⟩
theorem Touch.of_grown {v : Value} {w w' : World} (h : w.grownBy w' v.ownBlock) : Touch (vblk v) w w' := ⟨h.os, h.tape, h.output, h.size, fun k hk hf => h.block k hk fun e => hf (mem_vblk.2 e.symm)⟩
theorem Touch.set {fp : List Nat} {w w' : World} (h : Touch fp w w') {p : Addr} (hp : p.block ∈ fp) (u : Value) : Touch fp w (w'.setCell p u) :=
  ⟨h.os, h.tape, h.output, by rw [World.size_setCell]; exact h.size, fun k hk hf => (Below.heap_setCell w' p u k (fun e => hf (e ▸ hp))).trans (h.block k hk hf)⟩
theorem Touch.below {fp : List Nat} {w w' : World} (h : Touch fp w w') {n : Nat} (hf : ∀ b, b ∈ fp → n ≤ b) (hn : n ≤ w.heap.size) : Below n w w' := ⟨h.os, h.tape, h.output, h.size, fun k hk => h.block k (by omega) fun h2 => by have := hf k h2; omega⟩
theorem Touch.rex {fp : List Nat} {w w' w0 : World} {lo : Nat} {r : Rex} {v0 v1 v2 : Value} (h : Touch fp w w') (hv : RexV w lo r v0 v1 v2) (hf : ∀ b, b ∈ fp → b < lo) : RexV w' lo r v0 v1 v2 :=
  hv.keep fun k hl hk => h.block k hk fun h2 => by have := hf k h2; omega

end Go.Proofs.YtlchipjckgaclaaDoor

/- append, of a row that may be nil; laws for regions that draw their order. -/
namespace Go.Proofs.YtlchipjckgaclaaDoor
set_option linter.unusedSimpArgs false
set_option linter.unusedVariables false
set_option maxRecDepth 100000
open Go.RowKit

section
variable {P : Program} {w : World}
theorem run_append_row (base : Nat) (t ty e : TypeId) (i : TypeInfo) (z : Value) (size bytes : Nat) (ht : P.underlying t = some (.slice e)) (hi : P.info? e = some i) (hz : i.zero = some z)
    (hsize : i.size = size) (hby : i.bytes = bytes) (hzs : z.cells.size = size) (hsz : 0 < size)
    (v : Value) (n : Nat) (xs : List Value) (hown : w.ownsRow base e size v n xs)
    (A : Option Addr) (m c : Nat) (news : List Value) {lo : Nat} (hrow : Row w lo A news) (hl : news.length = m * size) (h1 : ∀ u ∈ news, u.oneCell' = true)
    (h63 : n + m ≤ maxLen) (hbytes : (n + m) * bytes ≤ 140737488355328) (hbase : base ≤ w.heap.size) :
    ∃ A' c' w', (Builtin.append_ #[t, t] ty #[v, .slice A m c]).run P w = .ok (.slice A' (n + m) c') w' ∧ w'.ownsRow base e size (.slice A' (n + m) c') (n + m) (xs ++ news) ∧ w.grownBy w' v.ownBlock ∧
      ∀ b, b ∈ vblk (.slice A' (n + m) c') → b ∈ vblk v ∨ b = w.heap.size := by
  cases A with
  | some ad =>
    have hcells : ∀ j u, news[j]? = some u → w.cell? (ad.add j) = some u := by
      rcases hrow with rfl | ⟨a, e', _, hc⟩
      · intro j u h; simp at h
      · injection e' with e'; subst e'; exact hc
    obtain ⟨v', w', hr, ho, hg, _, hb⟩ := run_append_own_at (P := P) w base t ty e i z size bytes ht hi hz hsize hby hzs hsz v n xs hown ad m c news hl hcells h1 h63 hbytes hbase
    obtain ⟨A', c', rfl, _⟩ := own_row ho
    refine ⟨A', c', w', hr, ho, hg, fun b h => ?_⟩
    rw [mem_vblk] at h
    rcases hb with hb | hb
    · exact .inl (mem_vblk.2 (hb ▸ h))
    · right; rw [hb] at h; injection h with h; exact h.symm
  | none =>
    have hn : news = [] := by
      rcases hrow with h | ⟨a, e', _⟩
      · exact h
      · cases e'
    subst hn
    have hm : m = 0 := by
      rcases Nat.eq_zero_or_pos m with h | h
      · exact h
      · exfalso
        have := Nat.mul_le_mul h (Nat.le_refl size)
        simp at hl
        omega
    subst hm
    obtain ⟨A', c', rfl, _⟩ := own_row hown
    refine ⟨A', c', w, ?_, by simpa using hown, ⟨rfl, rfl, rfl, Nat.le_refl _, fun _ _ _ => rfl⟩, fun b h => .inl h⟩
    rcases hown.2 with ⟨e1, rfl⟩ | ⟨g, cap, cur, e1, _, _, hnc, _⟩
    · injection e1 with e1 e2 e3
      subst e1 e3
      simp [Builtin.append_, run_underlying ht, sizeOf, typeInfo, hi, Builtin.lenOf, Builtin.firstCells]
    · injection e1 with e1 e2 e3
      subst e1 e3
      simp [Builtin.append_, run_underlying ht, sizeOf, typeInfo, hi, Builtin.lenOf, Builtin.firstCells, hnc, storeCells]

theorem wp_append_row {o : Oper} {a : Act} {K : Act → World → Prop} {Q : Exit → Act → World → Prop} (s x : Operand) (t : TypeId)
    (ho : o.op = .call { callee := .builtin .append, args := #[s, x], argTypes := #[t, t] })
    (base : Nat) (e : TypeId) (i : TypeInfo) (z : Value) (size bytes : Nat) (ht : P.underlying t = some (.slice e)) (hi : P.info? e = some i) (hz : i.zero = some z)
    (hsize : i.size = size) (hby : i.bytes = bytes) (hzs : z.cells.size = size) (hsz : 0 < size)
    (v : Value) (n : Nat) (xs : List Value) (hs : a.eval s = v) (hown : w.ownsRow base e size v n xs)
    (A : Option Addr) (m c : Nat) (news : List Value) (hx : a.eval x = .slice A m c) {lo : Nat} (hrow : Row w lo A news) (hl : news.length = m * size) (h1 : ∀ u ∈ news, u.oneCell' = true)
    (h63 : n + m ≤ maxLen) (hbytes : (n + m) * bytes ≤ 140737488355328) (hbase : base ≤ w.heap.size) (H : Nat) (hH : w.heap.size = H) (N : Nat) (hN : n + m = N)
    (h : ∀ A' c' w', w'.ownsRow base e size (.slice A' N c') N (xs ++ news) → w.grownBy w' v.ownBlock → (∀ b, b ∈ vblk (.slice A' N c') → b ∈ vblk v ∨ b = H) → K (a.put o.dst (.slice A' N c')) w') : o.wp P a w K Q := by
  obtain ⟨A', c', w', hr, h2, h3, h4⟩ := run_append_row (P := P) (w := w) base t o.type e i z size bytes ht hi hz hsize hby hzs hsz v n xs hown A m c news hrow hl h1 h63 hbytes hbase
  unfold Oper.wp execOp
  simp only [ho, resolve, invoke, builtin, Sem.run_bind, Sem.run_pure, Result.andThen_ok, List.map_toArray, List.map_cons, List.map_nil, hs, hx, hr]
  subst hN
  exact h A' c' w' h2 h3 (hH ▸ h4)
theorem wpList_append_row {ops : Array Oper} {rest : List Oper} {o : Oper} {a : Act} {Q : Exit → Act → World → Prop} (hgd : o.guard = none) (s x : Operand) (t : TypeId)
    (ho : o.op = .call { callee := .builtin .append, args := #[s, x], argTypes := #[t, t] })
    (base : Nat) (e : TypeId) (i : TypeInfo) (z : Value) (size bytes : Nat) (ht : P.underlying t = some (.slice e)) (hi : P.info? e = some i) (hz : i.zero = some z)
    (hsize : i.size = size) (hby : i.bytes = bytes) (hzs : z.cells.size = size) (hsz : 0 < size)
    (v : Value) (n : Nat) (xs : List Value) (hs : a.eval s = v) (hown : w.ownsRow base e size v n xs)
    (A : Option Addr) (m c : Nat) (news : List Value) (hx : a.eval x = .slice A m c) {lo : Nat} (hrow : Row w lo A news) (hl : news.length = m * size) (h1 : ∀ u ∈ news, u.oneCell' = true)
    (h63 : n + m ≤ maxLen) (hbytes : (n + m) * bytes ≤ 140737488355328) (hbase : base ≤ w.heap.size) (H : Nat) (hH : w.heap.size = H) (N : Nat) (hN : n + m = N)
    (h : ∀ A' c' w', w'.ownsRow base e size (.slice A' N c') N (xs ++ news) → w.grownBy w' v.ownBlock → (∀ b, b ∈ vblk (.slice A' N c') → b ∈ vblk v ∨ b = H) → wpList P ops Q rest (a.put o.dst (.slice A' N c')) w') : wpList P ops Q (o :: rest) a w :=
  wpList_plain hgd fun _ hK => wp_append_row s x t ho base e i z size bytes ht hi hz hsize hby hzs hsz v n xs hs hown A m c news hx hrow hl h1 h63 hbytes hbase H hH N hN fun A' c' w' h2 h3 h4 => hK _ _ (h A' c' w' h2 h3 h4)
theorem step_append_row {ops : Array Oper} {o : Oper} {a : Act} {K : Act → World → Prop} {Q : Exit → Act → World → Prop} {E : Prop} (hgd : o.guard = none) (s x : Operand) (t : TypeId)
    (ho : o.op = .call { callee := .builtin .append, args := #[s, x], argTypes := #[t, t] })
    (base : Nat) (e : TypeId) (i : TypeInfo) (z : Value) (size bytes : Nat) (ht : P.underlying t = some (.slice e)) (hi : P.info? e = some i) (hz : i.zero = some z)
    (hsize : i.size = size) (hby : i.bytes = bytes) (hzs : z.cells.size = size) (hsz : 0 < size)
    (v : Value) (n : Nat) (xs : List Value) (hs : a.eval s = v) (hown : w.ownsRow base e size v n xs)
    (A : Option Addr) (m c : Nat) (news : List Value) (hx : a.eval x = .slice A m c) {lo : Nat} (hrow : Row w lo A news) (hl : news.length = m * size) (h1 : ∀ u ∈ news, u.oneCell' = true)
    (h63 : n + m ≤ maxLen) (hbytes : (n + m) * bytes ≤ 140737488355328) (hbase : base ≤ w.heap.size) (H : Nat) (hH : w.heap.size = H) (N : Nat) (hN : n + m = N)
    (h : ∀ A' c' w', w'.ownsRow base e size (.slice A' N c') N (xs ++ news) → w.grownBy w' v.ownBlock → (∀ b, b ∈ vblk (.slice A' N c') → b ∈ vblk v ∨ b = H) → K (a.put o.dst (.slice A' N c')) w') :
    if Region.wanted o (yielded ops a.tmps) = true then Oper.wp P o a w K Q else E := by
  have hw : Region.wanted o (yielded ops a.tmps) = true := by simp [Region.wanted, hgd]
  rw [if_pos hw]
  exact wp_append_row s x t ho base e i z size bytes ht hi hz hsize hby hzs hsz v n xs hs hown A m c news hx hrow hl h1 h63 hbytes hbase H hH N hN h
/-- A call of a Go function, as one step of a region that draws. -/
theorem step_call {ops : Array Oper} {o : Oper} {a : Act} {K : Act → World → Prop} {Q : Exit → Act → World → Prop} {E : Prop} (hgd : o.guard = none) (f : FuncId) (xs : Array Operand) (ts : Array TypeId)
    (ho : o.op = .call { callee := .value (.func f), args := xs, argTypes := ts }) (fn : Func) (hf : P.funcs[f]? = some fn) (hname : (fn.name == "runtime.NumGoroutine") = false) (hb : fn.body.isNone = false)
    (vals : Array Value) (hv : xs.toList.map a.eval = vals.toList) {R : Value → World → Prop} (hc : Calls P f vals w fun e w' => ∃ v, e = .returned v ∧ R v w')
    (h : ∀ v w', R v w' → K (a.put o.dst v) w') : if Region.wanted o (yielded ops a.tmps) = true then Oper.wp P o a w K Q else E := by
  have hw : Region.wanted o (yielded ops a.tmps) = true := by simp [Region.wanted, hgd]
  rw [if_pos hw]
  have h1 : ¬ fn.name = "runtime.NumGoroutine" := by simpa using hname
  have h2 : ¬ fn.body = none := by cases hx : fn.body <;> simp_all
  have hrun : (execOp a.eval o).run P w = .ok (.enter f vals) w := by
    have hv' : xs.map a.eval = vals := Array.toList_inj.1 (by rw [Array.toList_map]; exact hv)
    rw [← hv']
    unfold execOp
    simp [ho, resolve, Deferred.ofValue, invoke, callFunc, hf, h1, h2, Act.eval]
  unfold Oper.wp
  rw [hrun, Oper.upon_enter]
  refine hc.mono ?_
  rintro e w' ⟨v, rfl, hr⟩
  exact h v w' hr
end

end Go.Proofs.YtlchipjckgaclaaDoor

/- SetText of the program: strconv.Itoa and strings.Join by the shelf's contracts. -/
namespace Go.Proofs.YtlchipjckgaclaaDoor
set_option linter.unusedSimpArgs false
set_option linter.unusedVariables false
set_option maxRecDepth 100000
open Go.RowKit

abbrev TStr : Nat := 9
theorem infoStr : (Tryd.prog.info? TStr).map (fun i => (i.zero, i.size, i.bytes)) = some (some (.string ⟨#[]⟩), 1, 16) := by kernel_rfl
abbrev Pow10 (w : World) : Prop := Lib.TabIs Tryd.prog w "internal/strconv.uint64pow10" .u64 Lib.pow10Tab
theorem Pow10.below {w w' : World} (h : Pow10 w) (hb : Below w.heap.size w w') : Pow10 w' := by
  unfold Pow10 Lib.TabIs at h ⊢
  unfold World.var? at h ⊢
  cases hg : Tryd.prog.globalNamed "internal/strconv.uint64pow10" with
  | none => rw [hg] at h; cases h
  | some g =>
    rw [hg] at h
    simp only [Option.bind_some] at h ⊢
    have hlt : g < w.heap.size := by
      rcases Nat.lt_or_ge g w.heap.size with h1 | h1
      · exact h1
      · rw [Array.getElem?_eq_none h1] at h; cases h
    rw [hb.block g hlt]
    exact h
theorem iItoa_c (n : Int) (w : World) (h : in64 n) (ht : Pow10 w) :
    Calls Tryd.prog 43 #[.int .i64 n] w fun e w' => e = .returned (.string (str (Lib.itoa n))) ∧ Below w.heap.size w w' :=
  (Tryd.strconv_Itoa n h.1 h.2 w ht).mono fun e w' ⟨h1, k, os, h2⟩ => ⟨h1, by rw [h2]; exact below_grow w k os⟩
def txts (xs : List Sp) : List Value := xs.map fun x => .string (str (spanTxt x))
theorem txts_snoc {xs : List Sp} {k : Nat} {x : Sp} (h : xs[k]? = some x) : txts (xs.take (k + 1)) = txts (xs.take k) ++ [.string (str (spanTxt x))] := by rw [take_snoc h]; simp [txts]
theorem iJoin_c (xs : List Sp) (g c : Nat) (w : World) {base : Nat} (h : w.ownsRow base TStr 1 (.slice (some ⟨g, 0, none⟩) xs.length c) xs.length (txts xs)) (h64 : sp64 xs) (hn : xs.length ≤ 1048576) (hc : xs.length ≤ c) :
    Calls Tryd.prog 44 #[.slice (some ⟨g, 0, none⟩) xs.length c, .string ⟨#[44]⟩] w fun e w' => e = .returned (.string (str (accTxt xs))) ∧ Below w.heap.size w w' := by
  have hl : (xs.map fun x => str (spanTxt x)).length = xs.length := List.length_map _
  have e : ((xs.map fun x => str (spanTxt x)).map (·.data.toList)) = xs.map spanTxt := by
    rw [List.map_map]
    exact List.map_congr_left fun x _ => rfl
  have hlen : (accTxt xs).length ≤ 44 * xs.length := by
    have := acc_len xs h64 xs.length (Nat.le_refl _)
    rw [List.take_length] at this
    exact this
  have hj := Tryd.strings_Join g 0 c (xs.map fun x => str (spanTxt x)) ⟨#[44]⟩ w (fun j x hj => by
    rw [Nat.zero_add, h.cellAt j (by have := (List.getElem?_eq_some_iff.1 hj).1; rw [hl] at this; omega)]
    rw [List.getElem?_map, Option.map_eq_some_iff] at hj
    obtain ⟨y, hy, rfl⟩ := hj
    unfold txts
    rw [List.getElem?_map, hy]
    rfl) (own_base h g rfl).2 (by rw [hl]; omega) (by rw [hl]; exact hc) (by rw [e]; show (accTxt xs).length ≤ _; omega)
  rw [hl, e] at hj
  exact hj

end Go.Proofs.YtlchipjckgaclaaDoor
