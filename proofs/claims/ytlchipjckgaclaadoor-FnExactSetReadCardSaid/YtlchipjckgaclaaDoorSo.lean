/- What is read back: words between separators, spans, sets: plain law. -/
import Derived.Test.YtlchipjckgaclaaDoorSk
import Derived.Lib.SplitLaws
import Derived.Lib.IndexLaws
import Derived.Lib.IndexBytes
namespace Go.Proofs.YtlchipjckgaclaaDoor
set_option linter.unusedSimpArgs false
set_option linter.unusedVariables false
set_option maxRecDepth 100000

/-! ### words between separators -/
def consHead (b : UInt8) : List (List UInt8) → List (List UInt8)
  | [] => [[b]]
  | x :: xs => (b :: x) :: xs
def cutAt (c : UInt8) : List UInt8 → List (List UInt8)
  | [] => [[]]
  | b :: l => if b = c then [] :: cutAt c l else consHead b (cutAt c l)
theorem cutAt_no {c : UInt8} : ∀ {l : List UInt8}, c ∉ l → cutAt c l = [l]
  | [], _ => rfl
  | b :: l, h => by
    rw [cutAt, if_neg (fun e => h (by simp [e])), cutAt_no (fun e => h (by simp [e]))]
    rfl
theorem cutAt_app {c : UInt8} : ∀ {l : List UInt8} (r : List UInt8), c ∉ l → cutAt c (l ++ c :: r) = l :: cutAt c r
  | [], r, _ => by rw [List.nil_append, cutAt, if_pos rfl]
  | b :: l, r, h => by
    rw [List.cons_append, cutAt, if_neg (fun e => h (by simp [e])), cutAt_app r (fun e => h (by simp [e]))]
    rfl
theorem cutAt_pos (c : UInt8) (l : List UInt8) : cutAt c l ≠ [] := by
  cases l with
  | nil => simp [cutAt]
  | cons b l =>
    rw [cutAt]
    split
    · simp
    · cases cutAt c l <;> simp [consHead]
theorem cutAt_len (c : UInt8) : ∀ l : List UInt8, (cutAt c l).length ≤ l.length + 1
  | [] => by simp [cutAt]
  | b :: l => by
    have ih := cutAt_len c l
    rw [cutAt]
    split
    · simp; omega
    · cases h : cutAt c l with
      | nil => simp [consHead]
      | cons x xs => rw [h] at ih; simp [consHead] at ih ⊢; omega
theorem cutAt_mem (c : UInt8) : ∀ (l : List UInt8), ∀ w ∈ cutAt c l, w.length ≤ l.length
  | [], w, h => by rw [cutAt, List.mem_singleton] at h; rw [h]; simp
  | b :: l, w, h => by
    have ih := cutAt_mem c l
    rw [cutAt] at h
    split at h
    · rcases List.mem_cons.1 h with rfl | h
      · simp
      · have := ih w h; simp; omega
    · cases hc : cutAt c l with
      | nil => exact absurd hc (cutAt_pos c l)
      | cons x xs =>
        rw [hc] at h ih
        rcases List.mem_cons.1 h with rfl | h
        · have := ih x (by simp); simp; omega
        · have := ih w (by simp [h]); simp; omega
theorem cut_tail {c : UInt8} : ∀ (w : List UInt8) (ws : List (List UInt8)), (∀ x ∈ w :: ws, c ∉ x) → cutAt c (w ++ Lib.joinTail [c] ws) = w :: ws
  | w, [], h => by
    have e : Lib.joinTail [c] [] = [] := rfl
    rw [e, List.append_nil, cutAt_no (h w (by simp))]
  | w, v :: ws, h => by
    have e : Lib.joinTail [c] (v :: ws) = c :: (v ++ Lib.joinTail [c] ws) := by simp [Lib.joinTail]
    rw [e, cutAt_app _ (h w (by simp)), cut_tail v ws (fun x hx => h x (List.mem_cons_of_mem _ hx))]
theorem cut_join {c : UInt8} {ws : List (List UInt8)} (hn : ws ≠ []) (h : ∀ x ∈ ws, c ∉ x) : cutAt c (Lib.join ws [c]) = ws := by
  cases ws with
  | nil => exact absurd rfl hn
  | cons w ws => rw [Lib.join_cons]; exact cut_tail w ws h
theorem split_cut (c : UInt8) : ∀ s : List UInt8, Lib.splitK [c] 0 (Lib.count s [c]) s = cutAt c s
  | [] => by rw [Lib.count_miss (by simp [Lib.index])]; rfl
  | b :: l => by
    have ih := split_cut c l
    by_cases h : b = c
    · subst h
      have hix : Lib.index (b :: l) [b] = ((0 : Nat) : Int) := by rw [Lib.index]; simp [List.isPrefixOf]
      rw [Lib.count_cons_eq, Nat.add_comm, Lib.splitK, hix, if_neg (by decide), cutAt, if_pos rfl]
      simp [ih]
    · have hp : ([c] : List UInt8).isPrefixOf (b :: l) = false := by simp [List.isPrefixOf, Ne.symm h]
      have hix : Lib.index (b :: l) [c] = if Lib.index l [c] == -1 then -1 else Lib.index l [c] + 1 := by rw [Lib.index, hp]; simp
      rw [Lib.count_cons_ne b c l h, cutAt, if_neg h, ← ih]
      by_cases hm : Lib.index l [c] = -1
      · rw [Lib.count_miss hm]
        rfl
      · have hge := Lib.index_ge l [c]
        obtain ⟨j, hj⟩ : ∃ j : Nat, Lib.index l [c] = j := ⟨(Lib.index l [c]).toNat, by omega⟩
        have hix' : Lib.index (b :: l) [c] = ((j + 1 : Nat) : Int) := by rw [hix, if_neg (fun e => hm (beq_iff_eq.1 e)), hj]; omega
        rw [Lib.count_hit (by simp) hj, Nat.add_comm, Lib.splitK, Lib.splitK, hix', hj, if_neg (by simp; omega), if_neg (by simp)]
        simp [consHead]

/-! ### a span -/
theorem at_none {c : UInt8} : ∀ {l : List UInt8}, c ∉ l → Lib.indexByte l c = -1
  | [], _ => rfl
  | b :: l, h => by
    rw [Lib.indexByte, if_neg (by simp; exact fun e => h (by simp [e])), at_none (fun e => h (by simp [e]))]
    rfl
theorem at_app {c : UInt8} : ∀ {l : List UInt8} (r : List UInt8), c ∉ l → Lib.indexByte (l ++ c :: r) c = l.length
  | [], r, _ => by rw [List.nil_append, Lib.indexByte, if_pos (by simp)]; rfl
  | b :: l, r, h => by
    rw [List.cons_append, Lib.indexByte, if_neg (by simp; exact fun e => h (by simp [e])), at_app r (fun e => h (by simp [e])), if_neg (by simp)]
    simp
def rdOf (f : List UInt8 → Option Int) (w : List UInt8) : Option Sp :=
  if Lib.indexByte w 45 < 0 then (f w).map fun n => ⟨n, n⟩
  else match f (w.take (Lib.indexByte w 45).toNat), f (w.drop ((Lib.indexByte w 45).toNat + 1)) with
    | some a, some b => some ⟨a, b⟩
    | _, _ => none
theorem rd_none {f : List UInt8 → Option Int} {w : List UInt8} (h : Lib.indexByte w 45 < 0) : rdOf f w = (f w).map fun n => ⟨n, n⟩ := if_pos h
theorem rd_some {f : List UInt8 → Option Int} {w : List UInt8} (h : ¬ Lib.indexByte w 45 < 0) : rdOf f w = match f (w.take (Lib.indexByte w 45).toNat), f (w.drop ((Lib.indexByte w 45).toNat + 1)) with
    | some a, some b => some ⟨a, b⟩
    | _, _ => none := if_neg h
def natI (l : List UInt8) : Option Int := (natural l).map Int.ofNat
abbrev rdI := rdOf natI
abbrev rdS := rdOf numOf
theorem rd_span {f : List UInt8 → Option Int} (hf : ∀ u : Nat, u < 1000 → f (Lib.decDigits u) = some (u : Int)) {x : Sp} (h : okSp x) (h1 : x.lo ≤ 255) (h2 : x.hi ≤ 255) : rdOf f (spanTxt x) = some x := by
  have n45 : ∀ u, (45 : UInt8) ∉ Lib.decDigits u := fun u => not_dig (dec_dig u) (by decide)
  unfold okSp at h
  obtain ⟨lo, hi⟩ := x
  simp only at h h1 h2
  unfold spanTxt
  rw [itoa_nat h.1, itoa_nat h.2]
  by_cases he : hi = lo
  · subst he
    rw [if_pos rfl, List.append_nil, rd_none (by rw [at_none (n45 _)]; decide), hf _ (by omega)]
    simp
    omega
  · rw [if_neg he, rd_some (by rw [at_app _ (n45 _)]; omega), at_app _ (n45 _)]
    rw [show (((Lib.decDigits lo.toNat).length : Int)).toNat = (Lib.decDigits lo.toNat).length by omega, List.take_left, List.drop_length_add_append, List.drop_succ_cons, List.drop_zero, hf _ (by omega), hf _ (by omega)]
    simp
    omega

/-! ### a set -/
def rdAll (f : List UInt8 → Option Sp) (ws : List (List UInt8)) : Option (List Sp) := if ws.all fun w => (f w).isSome then some (ws.filterMap f) else none
theorem rdAll_none {f : List UInt8 → Option Sp} {ws : List (List UInt8)} {w : List UInt8} (hw : w ∈ ws) (h : f w = none) : rdAll f ws = none := if_neg fun ha => by
  have := List.all_eq_true.1 ha w hw
  rw [h] at this
  cases this
theorem rdAll_some {f : List UInt8 → Option Sp} {ws : List (List UInt8)} (h : ∀ w ∈ ws, (f w).isSome = true) : rdAll f ws = some (ws.filterMap f) := if_pos (List.all_eq_true.2 h)
theorem rdAll_map {f : List UInt8 → Option Sp} {xs : List Sp} (h : ∀ x ∈ xs, f (spanTxt x) = some x) : rdAll f (xs.map spanTxt) = some xs := by
  rw [rdAll_some]
  · congr 1
    induction xs with
    | nil => rfl
    | cons x xs ih => rw [List.map_cons, List.filterMap_cons, h x (by simp)]; simp only; rw [ih (fun z hz => h z (by simp [hz]))]
  · intro w hw
    obtain ⟨x, hx, rfl⟩ := List.mem_map.1 hw
    rw [h x hx]
    rfl
theorem rdAll_len {f : List UInt8 → Option Sp} {ws : List (List UInt8)} {xs : List Sp} (h : rdAll f ws = some xs) : xs.length = ws.length := by
  unfold rdAll at h
  split at h
  · rename_i ha
    injection h with h
    subst h
    rw [List.all_eq_true] at ha
    induction ws with
    | nil => rfl
    | cons w ws ih =>
      have := ha w (by simp)
      cases hf : f w with
      | none => rw [hf] at this; cases this
      | some x => rw [List.filterMap_cons, hf]; simp only; rw [List.length_cons, List.length_cons, ih (fun z hz => ha z (by simp [hz]))]
  · cases h
def readOf (f : List UInt8 → Option Sp) (t : List UInt8) : Option (List Sp) :=
  if t = [110, 111] then some []
  else if 1200 < t.length then none
  else match rdAll f (cutAt 44 t) with
    | none => none
    | some xs => if setOk xs && decide (setTxt xs = t) then some xs else none
theorem read_no (f : List UInt8 → Option Sp) : readOf f [110, 111] = some [] := if_pos rfl
theorem read_long {f : List UInt8 → Option Sp} {t : List UInt8} (h : t ≠ [110, 111]) (hl : 1200 < t.length) : readOf f t = none := by unfold readOf; rw [if_neg h, if_pos hl]
theorem read_bad {f : List UInt8 → Option Sp} {t : List UInt8} (h : t ≠ [110, 111]) (hr : rdAll f (cutAt 44 t) = none) : readOf f t = none := by
  unfold readOf
  rw [if_neg h, hr]
  split <;> rfl
theorem read_end {f : List UInt8 → Option Sp} {t : List UInt8} {xs : List Sp} (h : t ≠ [110, 111]) (hl : ¬ 1200 < t.length) (hr : rdAll f (cutAt 44 t) = some xs) : readOf f t = if setOk xs && decide (setTxt xs = t) then some xs else none := by
  unfold readOf
  rw [if_neg h, if_neg hl, hr]
theorem read_sound {f : List UInt8 → Option Sp} {t : List UInt8} {xs : List Sp} (h : readOf f t = some xs) : setOk xs = true ∧ setTxt xs = t := by
  unfold readOf at h
  split at h
  · rename_i h1; injection h with h; subst h; exact ⟨rfl, h1.symm⟩
  · split at h
    · cases h
    · split at h
      · cases h
      · split at h
        · rename_i h1
          injection h with h
          subst h
          rw [Bool.and_eq_true, decide_eq_true_eq] at h1
          exact h1
        · cases h
theorem okGo_len : ∀ (xs : List Sp) (h : Int), setOkGo (some h) xs = true → xs ≠ [] → h + 2 * xs.length ≤ 255
  | [], _, _, hn => absurd rfl hn
  | x :: xs, h, hs, _ => by
    simp only [setOkGo, Bool.and_eq_true, Bool.not_eq_true'] at hs
    have h1 := (spBad_false _ _).1 hs.1
    have h2 := h1.2.2.2 h rfl
    by_cases hx : xs = []
    · subst hx; simp; omega
    · have := okGo_len xs x.hi hs.2 hx
      rw [List.length_cons]
      omega
theorem ok_len128 {xs : List Sp} (h : setOk xs = true) : xs.length ≤ 128 := by
  cases xs with
  | nil => simp
  | cons x xs =>
    have hs : setOkGo none (x :: xs) = true := h
    simp only [setOkGo, Bool.and_eq_true, Bool.not_eq_true'] at hs
    have h1 := (spBad_false _ _).1 hs.1
    by_cases hx : xs = []
    · subst hx; simp
    · have := okGo_len xs x.hi hs.2 hx
      rw [List.length_cons]
      omega
theorem span_short {x : Sp} (h : okSp x) (h1 : x.lo ≤ 255) (h2 : x.hi ≤ 255) : (spanTxt x).length ≤ 7 := by
  unfold okSp at h
  unfold spanTxt
  rw [itoa_nat h.1, itoa_nat h.2]
  have a1 := dec_short (u := x.lo.toNat) (by omega)
  have a2 := dec_short (u := x.hi.toNat) (by omega)
  split
  · simp; omega
  · simp; omega
theorem acc_short : ∀ (xs : List Sp), (∀ x ∈ xs, (spanTxt x).length ≤ 7) → (accTxt xs).length ≤ 8 * xs.length := by
  intro xs h
  have tl : ∀ ys : List Sp, (∀ x ∈ ys, (spanTxt x).length ≤ 7) → (Lib.joinTail [44] (ys.map spanTxt)).length ≤ 8 * ys.length := by
    intro ys
    induction ys with
    | nil => intro _; simp [Lib.joinTail]
    | cons y ys ih =>
      intro hy
      have e : Lib.joinTail [44] ((y :: ys).map spanTxt) = 44 :: (spanTxt y ++ Lib.joinTail [44] (ys.map spanTxt)) := by simp [Lib.joinTail]
      have h1 := ih fun z hz => hy z (by simp [hz])
      have h2 := hy y (by simp)
      rw [e, List.length_cons, List.length_append, List.length_cons]
      omega
  cases xs with
  | nil => simp [accTxt, Lib.join_nil]
  | cons x xs =>
    unfold accTxt
    rw [List.map_cons, Lib.join_cons, List.length_append, List.length_cons]
    have h1 := tl xs fun z hz => h z (by simp [hz])
    have h2 := h x (by simp)
    omega
theorem ok_span {xs : List Sp} (h : setOk xs = true) : ∀ x ∈ xs, okSp x ∧ x.lo ≤ 255 ∧ x.hi ≤ 255 := fun x hx => by
  have := ok_go (show setOkGo none xs = true from h) x hx
  unfold okSp
  omega
theorem txt_short {xs : List Sp} (h : setOk xs = true) : (setTxt xs).length ≤ 1200 := by
  have h1 := ok_len128 h
  have h2 := acc_short xs fun x hx => span_short (ok_span h x hx).1 (ok_span h x hx).2.1 (ok_span h x hx).2.2
  unfold setTxt
  split
  · simp
  · omega
theorem cut_txt {xs : List Sp} (h : setOk xs = true) (hn : xs ≠ []) : cutAt 44 (accTxt xs) = xs.map spanTxt := by
  unfold accTxt
  refine cut_join (by simpa using hn) fun w hw hb => ?_
  obtain ⟨x, hx, rfl⟩ := List.mem_map.1 hw
  rcases span_chars (ok_sp h x hx) _ hb with h1 | h1 <;> revert h1 <;> decide
/-- what is written is read back -/
theorem read_txt {f : List UInt8 → Option Int} (hf : ∀ u : Nat, u < 1000 → f (Lib.decDigits u) = some (u : Int)) {xs : List Sp} (h : setOk xs = true) : readOf (rdOf f) (setTxt xs) = some xs := by
  by_cases hn : xs = []
  · subst hn; exact read_no _
  · have e : setTxt xs = accTxt xs := by unfold setTxt; rw [if_neg (by simpa using hn)]
    have no : setTxt xs ≠ [110, 111] := fun e1 => hn (set_eq h (by rfl) (e1.trans (by rfl : _ = setTxt [])))
    have hr : rdAll (rdOf f) (cutAt 44 (setTxt xs)) = some xs := by
      rw [e, cut_txt h hn]
      exact rdAll_map fun x hx => rd_span hf (ok_span h x hx).1 (ok_span h x hx).2.1 (ok_span h x hx).2.2
    rw [read_end no (by have := txt_short h; omega) hr, if_pos (by simp [h])]
theorem natI_dec {u : Nat} (h : u < 1000) : natI (Lib.decDigits u) = some (u : Int) := by rw [natI, natural_dec h]; rfl
abbrev readSet := readOf rdI
/-- both readers read the same -/
theorem read_same (t : List UInt8) : readOf rdS t = readSet t := by
  cases h : readOf rdS t with
  | some xs =>
    obtain ⟨h1, h2⟩ := read_sound h
    rw [← h2]
    exact (read_txt (fun u hu => natI_dec hu) h1).symm
  | none =>
    cases h' : readSet t with
    | none => rfl
    | some xs =>
      obtain ⟨h1, h2⟩ := read_sound h'
      have := read_txt (fun u hu => num_dec hu) h1
      rw [h2, h] at this
      cases this
theorem readSet_txt {xs : List Sp} (h : setOk xs = true) : readSet (setTxt xs) = some xs := read_txt (fun u hu => natI_dec hu) h
theorem rdI_in {w : List UInt8} {x : Sp} (h : rdI w = some x) : in64 x.lo ∧ in64 x.hi := by
  have nat_in : ∀ {l : List UInt8} {n : Int}, natI l = some n → in64 n := fun {l n} hn => by
    unfold natI at hn
    obtain ⟨m, hm, rfl⟩ := Option.map_eq_some_iff.1 hn
    have := natural_lt hm
    show in64 (m : Int)
    unfold in64
    omega
  unfold rdI rdOf at h
  split at h
  · obtain ⟨n, hn, rfl⟩ := Option.map_eq_some_iff.1 h
    exact ⟨nat_in hn, nat_in hn⟩
  · split at h
    · rename_i h1 h2
      injection h with h
      subst h
      exact ⟨nat_in h1, nat_in h2⟩
    · cases h
theorem rdS_in {w : List UInt8} {x : Sp} (h : rdS w = some x) : in64 x.lo ∧ in64 x.hi := by
  unfold rdS rdOf at h
  split at h
  · obtain ⟨n, hn, rfl⟩ := Option.map_eq_some_iff.1 h
    exact ⟨num_in hn, num_in hn⟩
  · split at h
    · rename_i h1 h2
      injection h with h
      subst h
      exact ⟨num_in h1, num_in h2⟩
    · cases h
theorem readSet_len {t : List UInt8} {xs : List Sp} (h : readSet t = some xs) : xs.length ≤ 128 := ok_len128 (read_sound h).1

end Go.Proofs.YtlchipjckgaclaaDoor
