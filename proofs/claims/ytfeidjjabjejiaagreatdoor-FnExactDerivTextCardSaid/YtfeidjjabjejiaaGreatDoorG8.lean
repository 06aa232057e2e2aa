/- Texts joined for the claims: So Na Nb Y1 Ap. -/
import Derived.Test.YtfeidjjabjejiaaGreatDoorG7
import Derived.Lib.SplitLaws
import Derived.Lib.IndexLaws
import Derived.Lib.IndexBytes
import Derived.Test.YtfeidjjabjejiaaGreatDoorG6
import Derived.Test.YtfeidjjabjejiaaGreatDoorG5
import Derived.Deep.RegionHeld3
import Derived.Test.YtfeidjjabjejiaaGreatDoorG2
import Derived.Maps.AppendAt
import Derived.Deep.AppendLies
import Derived.Deep.RegionLaw
/- What is read back: words between separators, spans, sets: plain law. -/
namespace Go.Proofs.YtfeidjjabjejiaaGreatDoor
set_option linter.unusedSimpArgs false
set_option linter.unusedVariables false
set_option maxRecDepth 100000

/-! ### words between separators -/
def consHead (b : UInt8) : List (List UInt8) → List (List UInt8)
  | [] => [[b]]
  | x :: xs => (b :: x) :: xs
def cutAt (c : UInt8) : List UInt8 → List (List UInt8)
  | [] => [[]]
  | b :: l => if b = c then [] :: cutAt c l else consHead b (cutAt c l)
theorem cutAt_no {c : UInt8} : ∀ {l : List UInt8}, c ∉ l → cutAt c l = [l]
  | [], _ => rfl
  | b :: l, h => by
    rw [cutAt, if_neg (fun e => h (by simp [e])), cutAt_no (fun e => h (by simp [e]))]
    rfl
theorem cutAt_app {c : UInt8} : ∀ {l : List UInt8} (r : List UInt8), c ∉ l → cutAt c (l ++ c :: r) = l :: cutAt c r
  | [], r, _ => by rw [List.nil_append, cutAt, if_pos rfl]
  | b :: l, r, h => by
    rw [List.cons_append, cutAt, if_neg (fun e => h (by simp [e])), cutAt_app r (fun e => h (by simp [e]))]
    rfl
theorem cutAt_pos (c : UInt8) (l : List UInt8) : cutAt c l ≠ [] := by
  cases l with
  | nil => simp [cutAt]
  | cons b l =>
    rw [cutAt]
    split
    · simp
    · cases cutAt c l <;> simp [consHead]
theorem cutAt_len (c : UInt8) : ∀ l : List UInt8, (cutAt c l).length ≤ l.length + 1
  | [] => by simp [cutAt]
  | b :: l => by
    have ih := cutAt_len c l
    rw [cutAt]
    split
    · simp; omega
    · cases h : cutAt c l with
      | nil => simp [consHead]
      | cons x xs => rw [h] at ih; simp [consHead] at ih ⊢; omega
theorem cutAt_mem (c : UInt8) : ∀ (l : List UInt8), ∀ w ∈ cutAt c l, w.length ≤ l.length
  | [], w, h => by rw [cutAt, List.mem_singleton] at h; rw [h]; simp
  | b :: l, w, h => by
    have ih := cutAt_mem c l
    rw [cutAt] at h
    split at h
    · rcases List.mem_cons.1 h with rfl | h
      · simp
      · have := ih w h; simp; omega
    · cases hc : cutAt c l with
      | nil => exact absurd hc (cutAt_pos c l)
      | cons x xs =>
        rw [hc] at h ih
        rcases List.mem_cons.1 h with rfl | h
        · have := ih x (by simp); simp; omega
        · have := ih w (by simp [h]); simp; omega
theorem cut_tail {c : UInt8} : ∀ (w : List UInt8) (ws : List (List UInt8)), (∀ x ∈ w :: ws, c ∉ x) → cutAt c (w ++ Lib.joinTail [c] ws) = w :: ws
  | w, [], h => by
    have e : Lib.joinTail [c] [] = [] := rfl
    rw [e, List.append_nil, cutAt_no (h w (by simp))]
  | w, v :: ws, h => by
    have e : Lib.joinTail [c] (v :: ws) = c :: (v ++ Lib.joinTail [c] ws) := by simp [Lib.joinTail]
    rw [e, cutAt_app _ (h w (by simp)), cut_tail v ws (fun x hx => h x (List.mem_cons_of_mem _ hx))]
theorem cut_join {c : UInt8} {ws : List (List UInt8)} (hn : ws ≠ []) (h : ∀ x ∈ ws, c ∉ x) : cutAt c (Lib.join ws [c]) = ws := by
  cases ws with
  | nil => exact absurd rfl hn
  | cons w ws => rw [Lib.join_cons]; exact cut_tail w ws h
theorem split_cut (c : UInt8) : ∀ s : List UInt8, Lib.splitK [c] 0 (Lib.count s [c]) s = cutAt c s
  | [] => by rw [Lib.count_miss (by simp [Lib.index])]; rfl
  | b :: l => by
    have ih := split_cut c l
    by_cases h : b = c
    · subst h
      have hix : Lib.index (b :: l) [b] = ((0 : Nat) : Int) := by rw [Lib.index]; simp [List.isPrefixOf]
      rw [Lib.count_cons_eq, Nat.add_comm, Lib.splitK, hix, if_neg (by decide), cutAt, if_pos rfl]
      simp [ih]
    · have hp : ([c] : List UInt8).isPrefixOf (b :: l) = false := by simp [List.isPrefixOf, Ne.symm h]
      have hix : Lib.index (b :: l) [c] = if Lib.index l [c] == -1 then -1 else Lib.index l [c] + 1 := by rw [Lib.index, hp]; simp
      rw [Lib.count_cons_ne b c l h, cutAt, if_neg h, ← ih]
      by_cases hm : Lib.index l [c] = -1
      · rw [Lib.count_miss hm]
        rfl
      · have hge := Lib.index_ge l [c]
        obtain ⟨j, hj⟩ : ∃ j : Nat, Lib.index l [c] = j := ⟨(Lib.index l [c]).toNat, by omega⟩
        have hix' : Lib.index (b :: l) [c] = ((j + 1 : Nat) : Int) := by rw [hix, if_neg (fun e => hm (beq_iff_eq.1 e)), hj]; omega
        rw [Lib.count_hit (by simp) hj, Nat.add_comm, Lib.splitK, Lib.splitK, hix', hj, if_neg (by simp; omega), if_neg (by simp)]
        simp [consHead]

/-! ### a span -/
theorem at_none {c : UInt8} : ∀ {l : List UInt8}, c ∉ l → Lib.indexByte l c = -1
  | [], _ => rfl
  | b :: l, h => by
    rw [Lib.indexByte, if_neg (by simp; exact fun e => h (by simp [e])), at_none (fun e => h (by simp [e]))]
    rfl
theorem at_app {c : UInt8} : ∀ {l : List UInt8} (r : List UInt8), c ∉ l → Lib.indexByte (l ++ c :: r) c = l.length
  | [], r, _ => by rw [List.nil_append, Lib.indexByte, if_pos (by simp)]; rfl
  | b :: l, r, h => by
    rw [List.cons_append, Lib.indexByte, if_neg (by simp; exact fun e => h (by simp [e])), at_app r (fun e => h (by simp [e])), if_neg (by simp)]
    simp
def rdOf (f : List UInt8 → Option Int) (w : List UInt8) : Option Sp :=
  if Lib.indexByte w 45 < 0 then (f w).map fun n => ⟨n, n⟩
  else match f (w.take (Lib.indexByte w 45).toNat), f (w.drop ((Lib.indexByte w 45).toNat + 1)) with
    | some a, some b => some ⟨a, b⟩
    | _, _ => none
theorem rd_none {f : List UInt8 → Option Int} {w : List UInt8} (h : Lib.indexByte w 45 < 0) : rdOf f w = (f w).map fun n => ⟨n, n⟩ := if_pos h
theorem rd_some {f : List UInt8 → Option Int} {w : List UInt8} (h : ¬ Lib.indexByte w 45 < 0) : rdOf f w = match f (w.take (Lib.indexByte w 45).toNat), f (w.drop ((Lib.indexByte w 45).toNat + 1)) with
    | some a, some b => some ⟨a, b⟩
    | _, _ => none := if_neg h
def natI (l : List UInt8) : Option Int := (natural l).map Int.ofNat
abbrev rdI := rdOf natI
abbrev rdS := rdOf numOf
theorem rd_span {f : List UInt8 → Option Int} (hf : ∀ u : Nat, u < 1000 → f (Lib.decDigits u) = some (u : Int)) {x : Sp} (h : okSp x) (h1 : x.lo ≤ 255) (h2 : x.hi ≤ 255) : rdOf f (spanTxt x) = some x := by
  have n45 : ∀ u, (45 : UInt8) ∉ Lib.decDigits u := fun u => not_dig (dec_dig u) (by decide)
  unfold okSp at h
  obtain ⟨lo, hi⟩ := x
  simp only at h h1 h2
  unfold spanTxt
  rw [itoa_nat h.1, itoa_nat h.2]
  by_cases he : hi = lo
  · subst he
    rw [if_pos rfl, List.append_nil, rd_none (by rw [at_none (n45 _)]; decide), hf _ (by omega)]
    simp
    omega
  · rw [if_neg he, rd_some (by rw [at_app _ (n45 _)]; omega), at_app _ (n45 _)]
    rw [show (((Lib.decDigits lo.toNat).length : Int)).toNat = (Lib.decDigits lo.toNat).length by omega, List.take_left, List.drop_length_add_append, List.drop_succ_cons, List.drop_zero, hf _ (by omega), hf _ (by omega)]
    simp
    omega

/-! ### a set -/
def rdAll (f : List UInt8 → Option Sp) (ws : List (List UInt8)) : Option (List Sp) := if ws.all fun w => (f w).isSome then some (ws.filterMap f) else none
theorem rdAll_none {f : List UInt8 → Option Sp} {ws : List (List UInt8)} {w : List UInt8} (hw : w ∈ ws) (h : f w = none) : rdAll f ws = none := if_neg fun ha => by
  have := List.all_eq_true.1 ha w hw
  rw [h] at this
  cases this
theorem rdAll_some {f : List UInt8 → Option Sp} {ws : List (List UInt8)} (h : ∀ w ∈ ws, (f w).isSome = true) : rdAll f ws = some (ws.filterMap f) := if_pos (List.all_eq_true.2 h)
theorem rdAll_map {f : List UInt8 → Option Sp} {xs : List Sp} (h : ∀ x ∈ xs, f (spanTxt x) = some x) : rdAll f (xs.map spanTxt) = some xs := by
  rw [rdAll_some]
  · congr 1
    induction xs with
    | nil => rfl
    | cons x xs ih => rw [List.map_cons, List.filterMap_cons, h x (by simp)]; simp only; rw [ih (fun z hz => h z (by simp [hz]))]
  · intro w hw
    obtain ⟨x, hx, rfl⟩ := List.mem_map.1 hw
    rw [h x hx]
    rfl
theorem rdAll_len {f : List UInt8 → Option Sp} {ws : List (List UInt8)} {xs : List Sp} (h : rdAll f ws = some xs) : xs.length = ws.length := by
  unfold rdAll at h
  split at h
  · rename_i ha
    injection h with h
    subst h
    rw [List.all_eq_true] at ha
    induction ws with
    | nil => rfl
    | cons w ws ih =>
      have := ha w (by simp)
      cases hf : f w with
      | none => rw [hf] at this; cases this
      | some x => rw [List.filterMap_cons, hf]; simp only; rw [List.length_cons, List.length_cons, ih (fun z hz => ha z (by simp [hz]))]
  · cases h
def readOf (f : List UInt8 → Option Sp) (t : List UInt8) : Option (List Sp) :=
  if t = [110, 111] then some []
  else if 1200 < t.length then none
  else match rdAll f (cutAt 44 t) with
    | none => none
    | some xs => if setOk xs && decide (setTxt xs = t) then some xs else none
theorem read_no (f : List UInt8 → Option Sp) : readOf f [110, 111] = some [] := if_pos rfl
theorem read_long {f : List UInt8 → Option Sp} {t : List UInt8} (h : t ≠ [110, 111]) (hl : 1200 < t.length) : readOf f t = none := by unfold readOf; rw [if_neg h, if_pos hl]
theorem read_bad {f : List UInt8 → Option Sp} {t : List UInt8} (h : t ≠ [110, 111]) (hr : rdAll f (cutAt 44 t) = none) : readOf f t = none := by
  unfold readOf
  rw [if_neg h, hr]
  split <;> rfl
theorem read_end {f : List UInt8 → Option Sp} {t : List UInt8} {xs : List Sp} (h : t ≠ [110, 111]) (hl : ¬ 1200 < t.length) (hr : rdAll f (cutAt 44 t) = some xs) : readOf f t = if setOk xs && decide (setTxt xs = t) then some xs else none := by
  unfold readOf
  rw [if_neg h, if_neg hl, hr]
theorem read_sound {f : List UInt8 → Option Sp} {t : List UInt8} {xs : List Sp} (h : readOf f t = some xs) : setOk xs = true ∧ setTxt xs = t := by
  unfold readOf at h
  split at h
  · rename_i h1; injection h with h; subst h; exact ⟨rfl, h1.symm⟩
  · split at h
    · cases h
    · split at h
      · cases h
      · split at h
        · rename_i h1
          injection h with h
          subst h
          rw [Bool.and_eq_true, decide_eq_true_eq] at h1
          exact h1
        · cases h
theorem okGo_len : ∀ (xs : List Sp) (h : Int), setOkGo (some h) xs = true → xs ≠ [] → h + 2 * xs.length ≤ 255
  | [], _, _, hn => absurd rfl hn
  | x :: xs, h, hs, _ => by
    simp only [setOkGo, Bool.and_eq_true, Bool.not_eq_true'] at hs
    have h1 := (spBad_false _ _).1 hs.1
    have h2 := h1.2.2.2 h rfl
    by_cases hx : xs = []
    · subst hx; simp; omega
    · have := okGo_len xs x.hi hs.2 hx
      rw [List.length_cons]
      omega
theorem ok_len128 {xs : List Sp} (h : setOk xs = true) : xs.length ≤ 128 := by
  cases xs with
  | nil => simp
  | cons x xs =>
    have hs : setOkGo none (x :: xs) = true := h
    simp only [setOkGo, Bool.and_eq_true, Bool.not_eq_true'] at hs
    have h1 := (spBad_false _ _).1 hs.1
    by_cases hx : xs = []
    · subst hx; simp
    · have := okGo_len xs x.hi hs.2 hx
      rw [List.length_cons]
      omega
theorem span_short {x : Sp} (h : okSp x) (h1 : x.lo ≤ 255) (h2 : x.hi ≤ 255) : (spanTxt x).length ≤ 7 := by
  unfold okSp at h
  unfold spanTxt
  rw [itoa_nat h.1, itoa_nat h.2]
  have a1 := dec_short (u := x.lo.toNat) (by omega)
  have a2 := dec_short (u := x.hi.toNat) (by omega)
  split
  · simp; omega
  · simp; omega
theorem acc_short : ∀ (xs : List Sp), (∀ x ∈ xs, (spanTxt x).length ≤ 7) → (accTxt xs).length ≤ 8 * xs.length := by
  intro xs h
  have tl : ∀ ys : List Sp, (∀ x ∈ ys, (spanTxt x).length ≤ 7) → (Lib.joinTail [44] (ys.map spanTxt)).length ≤ 8 * ys.length := by
    intro ys
    induction ys with
    | nil => intro _; simp [Lib.joinTail]
    | cons y ys ih =>
      intro hy
      have e : Lib.joinTail [44] ((y :: ys).map spanTxt) = 44 :: (spanTxt y ++ Lib.joinTail [44] (ys.map spanTxt)) := by simp [Lib.joinTail]
      have h1 := ih fun z hz => hy z (by simp [hz])
      have h2 := hy y (by simp)
      rw [e, List.length_cons, List.length_append, List.length_cons]
      omega
  cases xs with
  | nil => simp [accTxt, Lib.join_nil]
  | cons x xs =>
    unfold accTxt
    rw [List.map_cons, Lib.join_cons, List.length_append, List.length_cons]
    have h1 := tl xs fun z hz => h z (by simp [hz])
    have h2 := h x (by simp)
    omega
theorem ok_span {xs : List Sp} (h : setOk xs = true) : ∀ x ∈ xs, okSp x ∧ x.lo ≤ 255 ∧ x.hi ≤ 255 := fun x hx => by
  have := ok_go (show setOkGo none xs = true from h) x hx
  unfold okSp
  omega
theorem txt_short {xs : List Sp} (h : setOk xs = true) : (setTxt xs).length ≤ 1200 := by
  have h1 := ok_len128 h
  have h2 := acc_short xs fun x hx => span_short (ok_span h x hx).1 (ok_span h x hx).2.1 (ok_span h x hx).2.2
  unfold setTxt
  split
  · simp
  · omega
theorem cut_txt {xs : List Sp} (h : setOk xs = true) (hn : xs ≠ []) : cutAt 44 (accTxt xs) = xs.map spanTxt := by
  unfold accTxt
  refine cut_join (by simpa using hn) fun w hw hb => ?_
  obtain ⟨x, hx, rfl⟩ := List.mem_map.1 hw
  rcases span_chars (ok_sp h x hx) _ hb with h1 | h1 <;> revert h1 <;> decide
/-- what is written is read back -/
theorem read_txt {f : List UInt8 → Option Int} (hf : ∀ u : Nat, u < 1000 → f (Lib.decDigits u) = some (u : Int)) {xs : List Sp} (h : setOk xs = true) : readOf (rdOf f) (setTxt xs) = some xs := by
  by_cases hn : xs = []
  · subst hn; exact read_no _
  · have e : setTxt xs = accTxt xs := by unfold setTxt; rw [if_neg (by simpa using hn)]
    have no : setTxt xs ≠ [110, 111] := fun e1 => hn (set_eq h (by rfl) (e1.trans (by rfl : _ = setTxt [])))
    have hr : rdAll (rdOf f) (cutAt 44 (setTxt xs)) = some xs := by
      rw [e, cut_txt h hn]
      exact rdAll_map fun x hx => rd_span hf (ok_span h x hx).1 (ok_span h x hx).2.1 (ok_span h x hx).2.2
    rw [read_end no (by have := txt_short h; omega) hr, if_pos (by simp [h])]
theorem natI_dec {u : Nat} (h : u < 1000) : natI (Lib.decDigits u) = some (u : Int) := by rw [natI, natural_dec h]; rfl
abbrev readSet := readOf rdI
/-- both readers read the same -/
theorem read_same (t : List UInt8) : readOf rdS t = readSet t := by
  cases h : readOf rdS t with
  | some xs =>
    obtain ⟨h1, h2⟩ := read_sound h
    rw [← h2]
    exact (read_txt (fun u hu => natI_dec hu) h1).symm
  | none =>
    cases h' : readSet t with
    | none => rfl
    | some xs =>
      obtain ⟨h1, h2⟩ := read_sound h'
      have := read_txt (fun u hu => num_dec hu) h1
      rw [h2, h] at this
      cases this
theorem readSet_txt {xs : List Sp} (h : setOk xs = true) : readSet (setTxt xs) = some xs := read_txt (fun u hu => natI_dec hu) h
theorem rdI_in {w : List UInt8} {x : Sp} (h : rdI w = some x) : in64 x.lo ∧ in64 x.hi := by
  have nat_in : ∀ {l : List UInt8} {n : Int}, natI l = some n → in64 n := fun {l n} hn => by
    unfold natI at hn
    obtain ⟨m, hm, rfl⟩ := Option.map_eq_some_iff.1 hn
    have := natural_lt hm
    show in64 (m : Int)
    unfold in64
    omega
  unfold rdI rdOf at h
  split at h
  · obtain ⟨n, hn, rfl⟩ := Option.map_eq_some_iff.1 h
    exact ⟨nat_in hn, nat_in hn⟩
  · split at h
    · rename_i h1 h2
      injection h with h
      subst h
      exact ⟨nat_in h1, nat_in h2⟩
    · cases h
theorem rdS_in {w : List UInt8} {x : Sp} (h : rdS w = some x) : in64 x.lo ∧ in64 x.hi := by
  unfold rdS rdOf at h
  split at h
  · obtain ⟨n, hn, rfl⟩ := Option.map_eq_some_iff.1 h
    exact ⟨num_in hn, num_in hn⟩
  · split at h
    · rename_i h1 h2
      injection h with h
      subst h
      exact ⟨num_in h1, num_in h2⟩
    · cases h
theorem readSet_len {t : List UInt8} {xs : List Sp} (h : readSet t = some xs) : xs.length ≤ 128 := ok_len128 (read_sound h).1

end Go.Proofs.YtfeidjjabjejiaaGreatDoor

/- Simpler patterns: what the smart constructors give. Plain. -/
namespace Go.Proofs.YtfeidjjabjejiaaGreatDoor
set_option linter.unusedSimpArgs false
set_option linter.unusedVariables false
set_option maxRecDepth 100000

def kid1 (r : Rex) : Rex := r.kids.getD 1 default
def noT : Rex := .mk 1 [] []
def two (k : Int) (a b : Rex) : Rex := .mk k [] [a, b]
def isAll (r : Rex) : Bool := decide (r.kind = 7) && isNo (kid0 r)

/-! ### one behind the other -/
mutual
def nCat : Rex → Rex → Rex
  | .mk k s ks, b =>
    if isNo (.mk k s ks) || isNo b then noT
    else if k = 2 then b
    else if b.kind = 2 then .mk k s ks
    else if k = 3 then nCatAt ks 0 (nCatAt ks 1 b)
    else two 3 (.mk k s ks) b
def nCatAt : List Rex → Nat → Rex → Rex
  | [], _, b => b
  | r :: _, 0, b => nCat r b
  | _ :: rs, n + 1, b => nCatAt rs n b
end
theorem nCat_no {a b : Rex} (h : isNo a = true ∨ isNo b = true) : nCat a b = noT := by
  obtain ⟨k, s, ks⟩ := a
  rw [nCat, if_pos (by rcases h with h | h <;> simp [h])]
theorem nCat_e1 {a b : Rex} (ha : isNo a = false) (hb : isNo b = false) (h : a.kind = 2) : nCat a b = b := by
  obtain ⟨k, s, ks⟩ := a
  have h' : k = 2 := h
  rw [nCat, if_neg (by simp [ha, hb]), if_pos h']
theorem nCat_e2 {a b : Rex} (ha : isNo a = false) (hb : isNo b = false) (h : a.kind ≠ 2) (h2 : b.kind = 2) : nCat a b = a := by
  obtain ⟨k, s, ks⟩ := a
  have h' : ¬ k = 2 := h
  rw [nCat, if_neg (by simp [ha, hb]), if_neg h', if_pos h2]
theorem nCat_cat {x y b : Rex} {s : List Sp} (hb : isNo b = false) (h2 : b.kind ≠ 2) : nCat (.mk 3 s [x, y]) b = nCat x (nCat y b) := by
  rw [nCat, if_neg (by rw [hb]; simp [isNo, Rex.kind]), if_neg (by decide), if_neg h2, if_pos rfl, nCatAt, nCatAt, nCatAt]
theorem nCat_two {a b : Rex} (ha : isNo a = false) (hb : isNo b = false) (h : a.kind ≠ 2) (h2 : b.kind ≠ 2) (h3 : a.kind ≠ 3) : nCat a b = two 3 a b := by
  obtain ⟨k, s, ks⟩ := a
  have h' : ¬ k = 2 := h
  have h3' : ¬ k = 3 := h3
  rw [nCat, if_neg (by simp [ha, hb]), if_neg h', if_neg h2, if_neg h3']

/-! ### all that a chain joins -/
mutual
def lst (k : Int) : Rex → List Rex
  | .mk j s ks => if j = k then lstAt k ks 0 ++ lstAt k ks 1 else [.mk j s ks]
def lstAt (k : Int) : List Rex → Nat → List Rex
  | [], _ => []
  | r :: _, 0 => lst k r
  | _ :: rs, n + 1 => lstAt k rs n
end
theorem lst_no {k : Int} {r : Rex} (h : r.kind ≠ k) : lst k r = [r] := by
  obtain ⟨j, s, ks⟩ := r
  have h' : ¬ j = k := h
  rw [lst, if_neg h']
theorem lst_two {k : Int} {x y : Rex} {s : List Sp} : lst k (.mk k s [x, y]) = lst k x ++ lst k y := by
  rw [lst, if_pos rfl, lstAt, lstAt, lstAt]

/-! ### lists in the order of their texts -/
def put : List Rex → Rex → List Rex
  | [], r => [r]
  | x :: l, r => if rexTxt x < rexTxt r then x :: put l r else if rexTxt x = rexTxt r then x :: l else r :: x :: l
def sortU (l : List Rex) : List Rex := l.foldl put []

/-! ### all that two join, in order -/
def isSet (r : Rex) : Bool := decide (r.kind = 1)
def joinS (k : Int) (acc : Option (List Sp)) (r : Rex) : Option (List Sp) := match acc with
  | none => some r.set
  | some s => some (if k = 4 then setJoin s r.set else setMeet s r.set)
def bagSet (k : Int) (l : List Rex) : Option (List Sp) := (l.filter isSet).foldl (joinS k) none
def bagOthers (l : List Rex) : List Rex := l.filter fun r => !isSet r
/-- the set that is kept -/
def bagLast (k : Int) (o : Option (List Sp)) (n : Nat) : List Rex := match o with
  | none => []
  | some s => if s ≠ [] ∨ k = 6 ∨ n = 0 then [.mk 1 s []] else []
def bagItems (k : Int) (l : List Rex) : List Rex := bagOthers l ++ bagLast k (bagSet k l) (bagOthers l).length
def bag (k : Int) (a b : Rex) : List Rex := sortU (bagItems k (lst k a ++ lst k b))
def chain (k : Int) : List Rex → Rex
  | [] => noT
  | [x] => x
  | x :: y :: l => two k x (chain k (y :: l))
def nOr (a b : Rex) : Rex := match (bag 4 a b).find? isAll with
  | some x => x
  | none => chain 4 (bag 4 a b)
def nAnd (a b : Rex) : Rex :=
  if (bag 6 a b).any isNo then noT
  else if (bag 6 a b).filter (fun r => !isAll r) = [] then (bag 6 a b).headD default
  else chain 6 ((bag 6 a b).filter fun r => !isAll r)

/-! ### made simpler; what is left behind a byte -/
mutual
def nrm : Rex → Rex
  | .mk k s ks =>
    if k = 3 then nCat (nrmAt ks 0) (nrmAt ks 1)
    else if k = 4 then nOr (nrmAt ks 0) (nrmAt ks 1)
    else if k = 6 then nAnd (nrmAt ks 0) (nrmAt ks 1)
    else if k = 5 then nStar (nrmAt ks 0)
    else if k = 7 then nNot (nrmAt ks 0)
    else .mk k s ks
def nrmAt : List Rex → Nat → Rex
  | [], _ => default
  | r :: _, 0 => nrm r
  | _ :: rs, n + 1 => nrmAt rs n
end
mutual
def dv (b : Int) : Rex → Rex
  | .mk k s ks =>
    if k = 1 then (if setHas s b = true then .mk 2 [] [] else noT)
    else if k = 3 then
      (if nullAt ks 0 = true then nOr (nCat (dvAt b ks 0) (ks.getD 1 default)) (dvAt b ks 1) else nCat (dvAt b ks 0) (ks.getD 1 default))
    else if k = 4 then nOr (dvAt b ks 0) (dvAt b ks 1)
    else if k = 6 then nAnd (dvAt b ks 0) (dvAt b ks 1)
    else if k = 5 then nCat (dvAt b ks 0) (.mk k s ks)
    else if k = 7 then nNot (dvAt b ks 0)
    else noT
def dvAt (b : Int) : List Rex → Nat → Rex
  | [], _ => default
  | r :: _, 0 => dv b r
  | _ :: rs, n + 1 => dvAt b rs n
end

/-! ### shapes -/
theorem nodeOk_n {k : Int} {ks : List Rex} (h : kidsOf k = (ks.length : Nat)) : nodeOk (.mk k [] ks) = true := by
  show (decide (kidsOf k = (ks.length : Nat)) && (decide (k = 1) || true) && true) = true
  rw [decide_eq_true h]
  simp
theorem formed_two {d : Nat} {k : Int} {a b : Rex} (hk : k = 3 ∨ k = 4 ∨ k = 6) (ha : formed d a = true) (hb : formed d b = true) : formed (d + 1) (two k a b) = true := by
  rw [two, formed, Bool.and_eq_true]
  exact ⟨nodeOk_n (kids2 hk), by simp [Rex.kids, ha, hb]⟩
theorem formed_kids2 {d : Nat} {r : Rex} (hf : formed d r = true) (hk : r.kind = 3 ∨ r.kind = 4 ∨ r.kind = 6) : ∃ a b, r = .mk r.kind [] [a, b] ∧ formed (d - 1) a = true ∧ formed (d - 1) b = true := by
  obtain ⟨k, s, ks⟩ := r
  have hk' : k = 3 ∨ k = 4 ∨ k = 6 := hk
  rcases formed_shape hf with ⟨e, _⟩ | ⟨e, _⟩ | ⟨_, a, b, e, ha, hb⟩
  · omega
  · omega
  · obtain ⟨_, hs, _⟩ := formed_node hf
    have hs' : s = [] := hs.resolve_left (by omega)
    subst e hs'
    exact ⟨a, b, rfl, ha, hb⟩
theorem formed_kids1 {d : Nat} {r : Rex} (hf : formed d r = true) (hk : r.kind = 5 ∨ r.kind = 7) : ∃ a, r = .mk r.kind [] [a] ∧ formed (d - 1) a = true := by
  obtain ⟨k, s, ks⟩ := r
  have hk' : k = 5 ∨ k = 7 := hk
  rcases formed_shape hf with ⟨e, _⟩ | ⟨_, a, e, ha⟩ | ⟨e, _⟩
  · omega
  · obtain ⟨_, hs, _⟩ := formed_node hf
    have hs' : s = [] := hs.resolve_left (by omega)
    subst e hs'
    exact ⟨a, rfl, ha⟩
  · omega
theorem formed_leaf {d : Nat} {r : Rex} (hf : formed d r = true) (hk : r.kind = 1 ∨ r.kind = 2) : r.kids = [] ∧ setOk r.set = true := by
  obtain ⟨k, s, ks⟩ := r
  have hk' : k = 1 ∨ k = 2 := hk
  obtain ⟨_, _, hs, _⟩ := formed_node hf
  rcases formed_shape hf with ⟨_, e⟩ | ⟨e, _⟩ | ⟨e, _⟩
  · exact ⟨e, hs⟩
  · omega
  · omega
theorem kind_cases {d : Nat} {r : Rex} (hf : formed d r = true) : r.kind = 1 ∨ r.kind = 2 ∨ r.kind = 3 ∨ r.kind = 4 ∨ r.kind = 5 ∨ r.kind = 6 ∨ r.kind = 7 := by
  obtain ⟨k, s, ks⟩ := r
  exact kind_of hf

end Go.Proofs.YtfeidjjabjejiaaGreatDoor

/- Simpler patterns: shapes and sizes are kept. Plain. -/
namespace Go.Proofs.YtfeidjjabjejiaaGreatDoor
set_option linter.unusedSimpArgs false
set_option linter.unusedVariables false
set_option maxRecDepth 100000

/-- right, of whatever depth -/
def wf (r : Rex) : Prop := ∃ d, formed d r = true
theorem wf_of {d : Nat} {r : Rex} (h : formed d r = true) : wf r := ⟨d, h⟩
theorem wf_two {k : Int} {a b : Rex} (hk : k = 3 ∨ k = 4 ∨ k = 6) (ha : wf a) (hb : wf b) : wf (two k a b) := by
  obtain ⟨d, ha⟩ := ha
  obtain ⟨e, hb⟩ := hb
  exact ⟨max d e + 1, formed_two hk (formed_le (Nat.le_max_left _ _) ha) (formed_le (Nat.le_max_right _ _) hb)⟩
theorem wf_one {k : Int} {a : Rex} (hk : k = 5 ∨ k = 7) (ha : wf a) : wf (.mk k [] [a]) := by
  obtain ⟨d, ha⟩ := ha
  refine ⟨d + 1, ?_⟩
  rw [formed, Bool.and_eq_true]
  exact ⟨nodeOk_n (kids1 hk), by simp [Rex.kids, ha]⟩
theorem wf_set {s : List Sp} (h : setOk s = true) : wf (.mk 1 s []) := by
  refine ⟨1, ?_⟩
  rw [formed, Bool.and_eq_true]
  refine ⟨?_, by simp [Rex.kids]⟩
  show (true && true && setOk s) = true
  rw [h]
  rfl
theorem wf_no : wf noT := wf_set rfl
theorem wf_empty : wf (.mk 2 [] []) := ⟨1, rfl⟩
theorem wf_kids2 {r : Rex} (h : wf r) (hk : r.kind = 3 ∨ r.kind = 4 ∨ r.kind = 6) : ∃ a b, r = .mk r.kind [] [a, b] ∧ wf a ∧ wf b := by
  obtain ⟨d, h⟩ := h
  obtain ⟨a, b, e, ha, hb⟩ := formed_kids2 h hk
  exact ⟨a, b, e, ⟨_, ha⟩, ⟨_, hb⟩⟩
theorem wf_kids1 {r : Rex} (h : wf r) (hk : r.kind = 5 ∨ r.kind = 7) : ∃ a, r = .mk r.kind [] [a] ∧ wf a := by
  obtain ⟨d, h⟩ := h
  obtain ⟨a, e, ha⟩ := formed_kids1 h hk
  exact ⟨a, e, ⟨_, ha⟩⟩
theorem wf_leaf {r : Rex} (h : wf r) (hk : r.kind = 1 ∨ r.kind = 2) : r.kids = [] ∧ setOk r.set = true := by
  obtain ⟨d, h⟩ := h
  exact formed_leaf h hk
theorem wf_kind {r : Rex} (h : wf r) : r.kind = 1 ∨ r.kind = 2 ∨ r.kind = 3 ∨ r.kind = 4 ∨ r.kind = 5 ∨ r.kind = 6 ∨ r.kind = 7 := by
  obtain ⟨d, h⟩ := h
  exact kind_cases h
/-- by its shape -/
theorem wf_ind {p : Rex → Prop} (hset : ∀ s, setOk s = true → p (.mk 1 s [])) (hemp : p (.mk 2 [] [])) (h2 : ∀ k a b, (k = 3 ∨ k = 4 ∨ k = 6) → wf a → wf b → p a → p b → p (two k a b)) (h1 : ∀ k a, (k = 5 ∨ k = 7) → wf a → p a → p (.mk k [] [a])) (r : Rex) : wf r → p r := by
  refine Rex.ind (p := fun r => wf r → p r) (fun k s ks ih => ?_) r
  intro h
  rcases wf_kind h with e | e | e | e | e | e | e
  · obtain ⟨hk, hs⟩ := wf_leaf h (.inl e)
    obtain rfl : k = 1 := e
    obtain rfl : ks = [] := hk
    exact hset s hs
  · obtain ⟨hk, hs⟩ := wf_leaf h (.inr e)
    obtain rfl : k = 2 := e
    obtain rfl : ks = [] := hk
    obtain ⟨d, hd⟩ := h
    obtain ⟨_, hs2, _⟩ := formed_node hd
    obtain rfl : s = [] := hs2.resolve_left (by decide)
    exact hemp
  all_goals first
    | (obtain ⟨a, b, er, ha, hb⟩ := wf_kids2 h (by omega)
       have ek : k = (Rex.mk k s ks).kind := rfl
       have es := congrArg Rex.set er
       have eks := congrArg Rex.kids er
       have es' : s = [] := es
       have eks' : ks = [a, b] := eks
       subst es' eks'
       exact h2 k a b (by have : k = _ := e; omega) ha hb (ih a (by simp) ha) (ih b (by simp) hb))
    | (obtain ⟨a, er, ha⟩ := wf_kids1 h (by omega)
       have es := congrArg Rex.set er
       have eks := congrArg Rex.kids er
       have es' : s = [] := es
       have eks' : ks = [a] := eks
       subst es' eks'
       exact h1 k a (by have : k = _ := e; omega) ha (ih a (by simp) ha))

/-! ### sums of weights -/
def wsum (f : Rex → Nat) (l : List Rex) : Nat := (l.map f).sum
theorem wsum_nil (f : Rex → Nat) : wsum f [] = 0 := rfl
theorem wsum_cons (f : Rex → Nat) (x : Rex) (l : List Rex) : wsum f (x :: l) = f x + wsum f l := by simp [wsum]
theorem wsum_app (f : Rex → Nat) (l m : List Rex) : wsum f (l ++ m) = wsum f l + wsum f m := by simp [wsum]
theorem wsum_filter (f : Rex → Nat) (q : Rex → Bool) (l : List Rex) : wsum f (l.filter q) + wsum f (l.filter fun x => !q x) = wsum f l := by
  induction l with
  | nil => rfl
  | cons x l ih =>
    cases hq : q x <;> simp [List.filter_cons, hq, wsum_cons] <;> omega
theorem wsum_filter_le (f : Rex → Nat) (q : Rex → Bool) (l : List Rex) : wsum f (l.filter q) ≤ wsum f l := by have := wsum_filter f q l; omega
theorem wsum_mem {f : Rex → Nat} {l : List Rex} {x : Rex} (h : x ∈ l) : f x ≤ wsum f l := by
  induction l with
  | nil => cases h
  | cons y l ih =>
    rw [wsum_cons]
    rcases List.mem_cons.1 h with rfl | h
    · omega
    · have := ih h; omega
theorem wsum_len {f : Rex → Nat} {c : Nat} (h : ∀ x, c ≤ f x) (l : List Rex) : c * l.length ≤ wsum f l := by
  induction l with
  | nil => simp [wsum]
  | cons x l ih => rw [wsum_cons, List.length_cons, Nat.mul_succ]; have := h x; omega
/-- weights of which a node of two adds c -/
structure Wt (f : Rex → Nat) (c : Nat) : Prop where
  two : ∀ k a b, f (two k a b) = f a + f b
theorem wt_many : Wt (fun r => r.many + 1) 1 := ⟨fun k a b => by simp [Go.Proofs.YtfeidjjabjejiaaGreatDoor.two, Rex.many, manyL]; omega⟩
theorem wt_size : Wt (fun r => r.size + 2) 2 := ⟨fun k a b => by simp [Go.Proofs.YtfeidjjabjejiaaGreatDoor.two, Rex.size, sizeL]; omega⟩
theorem lst_sum {f : Rex → Nat} {c : Nat} (hf : Wt f c) {k : Int} (r : Rex) : wf r → (k = 3 ∨ k = 4 ∨ k = 6) → wsum f (lst k r) = f r := fun h hk => by
  refine wf_ind (p := fun r => wsum f (lst k r) = f r) (fun s _ => ?_) ?_ (fun j a b hj _ _ ia ib => ?_) (fun j a hj _ _ => ?_) r h
  · rw [lst_no (by show (1 : Int) ≠ k; omega)]; simp [wsum]
  · rw [lst_no (by show (2 : Int) ≠ k; omega)]; simp [wsum]
  · by_cases e : j = k
    · subst e; rw [hf.two, two, lst_two, wsum_app, ia, ib]
    · rw [lst_no (by show j ≠ k; exact e)]; simp [wsum]
  · rw [lst_no (by show j ≠ k; omega)]; simp [wsum]
theorem lst_mem {k : Int} (r : Rex) : wf r → (k = 3 ∨ k = 4 ∨ k = 6) → lst k r ≠ [] ∧ ∀ x ∈ lst k r, wf x ∧ x.kind ≠ k ∧ x.size ≤ r.size := fun h hk => by
  have one : ∀ x : Rex, wf x → x.kind ≠ k → lst k x ≠ [] ∧ ∀ y ∈ lst k x, wf y ∧ y.kind ≠ k ∧ y.size ≤ x.size := fun x hx hn => by
    rw [lst_no hn]
    exact ⟨by simp, fun y hy => by rw [List.mem_singleton.1 hy]; exact ⟨hx, hn, Nat.le_refl _⟩⟩
  refine wf_ind (p := fun r => lst k r ≠ [] ∧ ∀ x ∈ lst k r, wf x ∧ x.kind ≠ k ∧ x.size ≤ r.size) (fun s hs => one _ (wf_set hs) (by show (1 : Int) ≠ k; omega)) (one _ wf_empty (by show (2 : Int) ≠ k; omega)) (fun j a b hj wa wb ia ib => ?_) (fun j a hj wa _ => one _ (wf_one hj wa) (by show j ≠ k; omega)) r h
  by_cases e : j = k
  · subst e
    rw [two, lst_two]
    refine ⟨by simp [ia.1], fun x hx => ?_⟩
    have hs : (Rex.mk j [] [a, b]).size = a.size + b.size + 2 := by simp [Rex.size, sizeL]; omega
    rcases List.mem_append.1 hx with hx | hx
    · have := ia.2 x hx; exact ⟨this.1, this.2.1, by omega⟩
    · have := ib.2 x hx; exact ⟨this.1, this.2.1, by omega⟩
  · exact one _ (wf_two hj wa wb) (by show j ≠ k; exact e)
theorem put_sum (f : Rex → Nat) (l : List Rex) (r : Rex) : wsum f (put l r) ≤ wsum f l + f r := by
  induction l with
  | nil => simp [put, wsum]
  | cons x l ih =>
    rw [put]
    split
    · rw [wsum_cons, wsum_cons]; omega
    · split
      · omega
      · rw [wsum_cons]; omega
theorem put_mem {l : List Rex} {r x : Rex} (h : x ∈ put l r) : x ∈ l ∨ x = r := by
  induction l with
  | nil => rw [put, List.mem_singleton] at h; exact .inr h
  | cons y l ih =>
    rw [put] at h
    split at h
    · rcases List.mem_cons.1 h with rfl | h
      · exact .inl (by simp)
      · rcases ih h with h | h
        · exact .inl (by simp [h])
        · exact .inr h
    · split at h
      · exact .inl h
      · rcases List.mem_cons.1 h with rfl | h
        · exact .inr rfl
        · exact .inl h
theorem put_ne (l : List Rex) (r : Rex) : put l r ≠ [] := by
  cases l with
  | nil => simp [put]
  | cons x l =>
    rw [put]
    split
    · simp
    · split <;> simp
theorem sort_app (l m : List Rex) (acc : List Rex) : (l ++ m).foldl put acc = m.foldl put (l.foldl put acc) := List.foldl_append
theorem fold_sum (f : Rex → Nat) : ∀ (l acc : List Rex), wsum f (l.foldl put acc) ≤ wsum f acc + wsum f l
  | [], acc => by simp [wsum]
  | x :: l, acc => by
    have h1 := fold_sum f l (put acc x)
    have h2 := put_sum f acc x
    rw [List.foldl_cons, wsum_cons]
    omega
theorem sort_sum (f : Rex → Nat) (l : List Rex) : wsum f (sortU l) ≤ wsum f l := by have := fold_sum f l []; rw [wsum_nil] at this; unfold sortU; omega
theorem fold_mem : ∀ {l acc : List Rex} {x : Rex}, x ∈ l.foldl put acc → x ∈ acc ∨ x ∈ l
  | [], acc, x, h => .inl h
  | y :: l, acc, x, h => by
    rw [List.foldl_cons] at h
    rcases fold_mem h with h | h
    · rcases put_mem h with h | h
      · exact .inl h
      · exact .inr (by simp [h])
    · exact .inr (by simp [h])
theorem sort_mem {l : List Rex} {x : Rex} (h : x ∈ sortU l) : x ∈ l := by
  rcases fold_mem h with h | h
  · cases h
  · exact h
theorem fold_ne : ∀ (l acc : List Rex), acc ≠ [] ∨ l ≠ [] → l.foldl put acc ≠ []
  | [], acc, h => by rcases h with h | h; exact h; exact absurd rfl h
  | x :: l, acc, _ => fold_ne l (put acc x) (.inl (put_ne acc x))
theorem sort_ne {l : List Rex} (h : l ≠ []) : sortU l ≠ [] := fold_ne l [] (.inr h)
theorem chain_sum {f : Rex → Nat} {c : Nat} (hf : Wt f c) (k : Int) : ∀ l : List Rex, l ≠ [] → f (chain k l) = wsum f l
  | [], h => absurd rfl h
  | [x], _ => by simp [chain, wsum]
  | x :: y :: l, _ => by rw [chain, hf.two, chain_sum hf k (y :: l) (by simp), wsum_cons f x]
theorem chain_wf {k : Int} (hk : k = 3 ∨ k = 4 ∨ k = 6) : ∀ l : List Rex, (∀ x ∈ l, wf x) → wf (chain k l)
  | [], _ => wf_no
  | [x], h => h x (by simp)
  | x :: y :: l, h => wf_two hk (h x (by simp)) (chain_wf hk (y :: l) fun z hz => h z (by simp at hz ⊢; exact .inr hz))

/-! ### the bag -/
theorem ok_join (a b : List Sp) : setOk (setJoin a b) = true := by unfold setJoin; split; exact setOk_spans _; rfl
theorem ok_meet (a b : List Sp) : setOk (setMeet a b) = true := by unfold setMeet; split; exact setOk_spans _; rfl
theorem joinS_ok (k : Int) : ∀ (l : List Rex) (acc : Option (List Sp)), (∀ s, acc = some s → setOk s = true) → (∀ x ∈ l, setOk x.set = true) → ∀ s, l.foldl (joinS k) acc = some s → setOk s = true
  | [], acc, h, _ => h
  | x :: l, acc, h, hl => by
    rw [List.foldl_cons]
    refine joinS_ok k l _ (fun s hs => ?_) (fun y hy => hl y (by simp [hy]))
    unfold joinS at hs
    split at hs
    · rw [← Option.some.inj hs]; exact hl x (by simp)
    · rw [← Option.some.inj hs]; split; exact ok_join _ _; exact ok_meet _ _
theorem joinS_some (k : Int) : ∀ (l : List Rex) (s : List Sp), ∃ t, l.foldl (joinS k) (some s) = some t
  | [], s => ⟨s, rfl⟩
  | x :: l, s => joinS_some k l _
theorem bagSet_none {k : Int} {l : List Rex} (h : bagSet k l = none) : l.filter isSet = [] := by
  unfold bagSet at h
  cases hf : l.filter isSet with
  | nil => rfl
  | cons x m =>
    rw [hf, List.foldl_cons] at h
    obtain ⟨t, ht⟩ := joinS_some k m x.set
    rw [show joinS k none x = some x.set from rfl, ht] at h
    cases h
theorem bagSet_ok {k : Int} {l : List Rex} (h : ∀ x ∈ l, wf x) : ∀ s, bagSet k l = some s → setOk s = true :=
  joinS_ok k _ none (fun s hs => by cases hs) fun x hx => by
    obtain ⟨h1, h2⟩ := List.mem_filter.1 hx
    exact (wf_leaf (h x h1) (.inl (by simpa [isSet] using h2))).2
theorem bagItems_wf {k : Int} {l : List Rex} (h : ∀ x ∈ l, wf x) : ∀ x ∈ bagItems k l, wf x := by
  intro x hx
  unfold bagItems at hx
  rcases List.mem_append.1 hx with hx | hx
  · exact h x (List.mem_filter.1 hx).1
  · unfold bagLast at hx
    split at hx
    · cases hx
    · rename_i s hs
      split at hx
      · rw [List.mem_singleton.1 hx]; exact wf_set (bagSet_ok h s hs)
      · cases hx
theorem bagItems_ne {k : Int} {l : List Rex} (h : l ≠ []) : bagItems k l ≠ [] := by
  intro e
  unfold bagItems at e
  obtain ⟨e1, e2⟩ := List.append_eq_nil_iff.1 e
  unfold bagLast at e2
  split at e2
  · rename_i hs
    have h1 := bagSet_none hs
    have h2 : l.filter (fun r => !isSet r) = [] := e1
    cases l with
    | nil => exact h rfl
    | cons x l =>
      cases hx : isSet x
      · rw [List.filter_cons, if_pos (by simp [hx])] at h2; cases h2
      · rw [List.filter_cons, if_pos hx] at h1; cases h1
  · rw [if_pos (.inr (.inr (by rw [e1]; rfl)))] at e2
    cases e2
theorem bagItems_sum {f : Rex → Nat} {m c : Nat} (hm : ∀ s, setOk s = true → f (.mk 1 s []) ≤ m + c) (hc : ∀ x, m ≤ f x) {k : Int} {l : List Rex} (h : ∀ x ∈ l, wf x) : wsum f (bagItems k l) ≤ wsum f l + c := by
  have h1 := wsum_filter f isSet l
  unfold bagItems
  rw [wsum_app]
  have h2 : wsum f (bagLast k (bagSet k l) (bagOthers l).length) ≤ wsum f (l.filter isSet) + c := by
    unfold bagLast
    split
    · rw [wsum_nil]; omega
    · rename_i s hs
      split
      · have h3 := hm s (bagSet_ok h s hs)
        rw [wsum_cons, wsum_nil]
        cases hf : l.filter isSet with
        | nil => exfalso; unfold bagSet at hs; rw [hf] at hs; cases hs
        | cons x t => rw [wsum_cons]; have := hc x; omega
      · rw [wsum_nil]; omega
  have h4 : wsum f (bagOthers l) = wsum f (l.filter fun x => !isSet x) := rfl
  omega
theorem bag_mem {k : Int} {a b : Rex} (hk : k = 4 ∨ k = 6) (ha : wf a) (hb : wf b) : bag k a b ≠ [] ∧ ∀ x ∈ bag k a b, wf x := by
  have la := lst_mem (k := k) a ha (by omega)
  have lb := lst_mem (k := k) b hb (by omega)
  refine ⟨sort_ne (bagItems_ne (by simp [la.1])), fun x hx => bagItems_wf (fun y hy => ?_) x (sort_mem hx)⟩
  rcases List.mem_append.1 hy with hy | hy
  · exact (la.2 y hy).1
  · exact (lb.2 y hy).1
theorem bag_many {k : Int} {a b : Rex} (hk : k = 4 ∨ k = 6) (ha : wf a) (hb : wf b) : wsum (fun r => r.many + 1) (bag k a b) ≤ a.many + b.many + 2 := by
  have la := lst_mem (k := k) a ha (by omega)
  have lb := lst_mem (k := k) b hb (by omega)
  have h1 := sort_sum (fun r => r.many + 1) (bagItems k (lst k a ++ lst k b))
  have h2 := bagItems_sum (f := fun r => r.many + 1) (m := 2) (c := 0) (k := k) (l := lst k a ++ lst k b) (fun s _ => by simp [Rex.many, manyL]) (fun x => by obtain ⟨j, s, ks⟩ := x; rw [Rex.many]; omega) (fun y hy => by
    rcases List.mem_append.1 hy with hy | hy
    · exact (la.2 y hy).1
    · exact (lb.2 y hy).1)
  rw [wsum_app, lst_sum wt_many a ha (by omega), lst_sum wt_many b hb (by omega)] at h2
  unfold bag
  omega
theorem bag_size {k : Int} {a b : Rex} (hk : k = 4 ∨ k = 6) (ha : wf a) (hb : wf b) : wsum (fun r => r.size + 2) (bag k a b) ≤ a.size + b.size + 132 := by
  have la := lst_mem (k := k) a ha (by omega)
  have lb := lst_mem (k := k) b hb (by omega)
  have h1 := sort_sum (fun r => r.size + 2) (bagItems k (lst k a ++ lst k b))
  have h2 := bagItems_sum (f := fun r => r.size + 2) (m := 2) (c := 128) (k := k) (l := lst k a ++ lst k b) (fun s hs => by have := ok_len128 hs; simp [Rex.size, sizeL]; omega) (fun x => by omega) (fun y hy => by
    rcases List.mem_append.1 hy with hy | hy
    · exact (la.2 y hy).1
    · exact (lb.2 y hy).1)
  rw [wsum_app, lst_sum wt_size a ha (by omega), lst_sum wt_size b hb (by omega)] at h2
  unfold bag
  omega

/-! ### each constructor -/
/-- right, no more than so many parts, no greater than so -/
structure Fit2 (r : Rex) (m z : Nat) : Prop where
  wf : wf r
  many : r.many ≤ m
  size : r.size ≤ z
theorem nOr_fit {a b : Rex} (ha : wf a) (hb : wf b) : Fit2 (nOr a b) (a.many + b.many + 1) (a.size + b.size + 130) := by
  obtain ⟨h1, h2⟩ := bag_mem (k := 4) (.inl rfl) ha hb
  have h3 := bag_many (k := 4) (.inl rfl) ha hb
  have h4 := bag_size (k := 4) (.inl rfl) ha hb
  unfold nOr
  cases hf : (bag 4 a b).find? isAll with
  | some x =>
    have hx := List.mem_of_find?_eq_some hf
    have m1 := wsum_mem (f := fun r => r.many + 1) hx
    have m2 := wsum_mem (f := fun r => r.size + 2) hx
    exact ⟨h2 x hx, by show x.many ≤ _; have m1' : x.many + 1 ≤ _ := m1; omega, by show x.size ≤ _; have m2' : x.size + 2 ≤ _ := m2; omega⟩
  | none =>
    have m1 := chain_sum wt_many 4 _ h1
    have m2 := chain_sum wt_size 4 _ h1
    have m1' : (chain 4 (bag 4 a b)).many + 1 = _ := m1
    have m2' : (chain 4 (bag 4 a b)).size + 2 = _ := m2
    exact ⟨chain_wf (by omega) _ h2, by show (chain 4 _).many ≤ _; omega, by show (chain 4 _).size ≤ _; omega⟩
theorem nAnd_fit {a b : Rex} (ha : wf a) (hb : wf b) : Fit2 (nAnd a b) (a.many + b.many + 1) (a.size + b.size + 130) := by
  obtain ⟨h1, h2⟩ := bag_mem (k := 6) (.inr rfl) ha hb
  have h3 := bag_many (k := 6) (.inr rfl) ha hb
  have h4 := bag_size (k := 6) (.inr rfl) ha hb
  unfold nAnd
  split
  · exact ⟨wf_no, by have h9 : noT.many = 1 := rfl; omega, by have h9 : noT.size = 0 := rfl; omega⟩
  · split
    · cases hb2 : bag 6 a b with
      | nil => exact absurd hb2 h1
      | cons x l =>
        have hx : x ∈ bag 6 a b := by rw [hb2]; simp
        have m1 := wsum_mem (f := fun r => r.many + 1) hx
        have m2 := wsum_mem (f := fun r => r.size + 2) hx
        exact ⟨h2 x hx, by show x.many ≤ _; have m1' : x.many + 1 ≤ _ := m1; omega, by show x.size ≤ _; have m2' : x.size + 2 ≤ _ := m2; omega⟩
    · rename_i hn
      have m1 := chain_sum wt_many 6 _ hn
      have m2 := chain_sum wt_size 6 _ hn
      have n1 := wsum_filter_le (fun r => r.many + 1) (fun r => !isAll r) (bag 6 a b)
      have n2 := wsum_filter_le (fun r => r.size + 2) (fun r => !isAll r) (bag 6 a b)
      have m1' : (chain 6 ((bag 6 a b).filter fun r => !isAll r)).many + 1 = _ := m1
      have m2' : (chain 6 ((bag 6 a b).filter fun r => !isAll r)).size + 2 = _ := m2
      exact ⟨chain_wf (by omega) _ fun x hx => h2 x (List.mem_filter.1 hx).1, by show (chain 6 _).many ≤ _; omega, by show (chain 6 _).size ≤ _; omega⟩
theorem many_pos (r : Rex) : 1 ≤ r.many := by obtain ⟨k, s, ks⟩ := r; rw [Rex.many]; omega
theorem two_many (k : Int) (a b : Rex) : (two k a b).many = a.many + b.many + 1 := by simp [two, Rex.many, manyL]; omega
theorem two_size (k : Int) (a b : Rex) : (two k a b).size = a.size + b.size + 2 := by simp [two, Rex.size, sizeL]; omega
theorem nCat_fit (a : Rex) : wf a → ∀ b, wf b → Fit2 (nCat a b) (a.many + b.many + 1) (a.size + b.size + 2) := fun h => by
  have base : ∀ a : Rex, wf a → a.kind ≠ 3 → ∀ b, wf b → Fit2 (nCat a b) (a.many + b.many + 1) (a.size + b.size + 2) := fun a ha h3 b hb => by
    by_cases hn : isNo a = true ∨ isNo b = true
    · rw [nCat_no hn]; exact ⟨wf_no, by have h9 : noT.many = 1 := rfl; omega, by have h9 : noT.size = 0 := rfl; omega⟩
    · have na : isNo a = false := by cases h : isNo a; rfl; exact absurd (.inl h) hn
      have nb : isNo b = false := by cases h : isNo b; rfl; exact absurd (.inr h) hn
      by_cases h2 : a.kind = 2
      · rw [nCat_e1 na nb h2]; exact ⟨hb, by omega, by omega⟩
      · by_cases h4 : b.kind = 2
        · rw [nCat_e2 na nb h2 h4]; exact ⟨ha, by omega, by omega⟩
        · rw [nCat_two na nb h2 h4 h3]; exact ⟨wf_two (.inl rfl) ha hb, by rw [two_many]; omega, by rw [two_size]; omega⟩
  refine wf_ind (p := fun a => ∀ b, wf b → Fit2 (nCat a b) (a.many + b.many + 1) (a.size + b.size + 2)) (fun s hs => base _ (wf_set hs) (by show (1 : Int) ≠ 3; decide)) (base _ wf_empty (by show (2 : Int) ≠ 3; decide)) (fun k x y hk wx wy ix iy => ?_) (fun k x hk wx _ => base _ (wf_one hk wx) (by show k ≠ 3; omega)) a h
  by_cases e : k = 3
  · subst e
    intro b hb
    have e1 := two_many 3 x y
    have e2 := two_size 3 x y
    by_cases hn : isNo b = true
    · rw [nCat_no (.inr hn)]; exact ⟨wf_no, by have h9 : noT.many = 1 := rfl; omega, by have h9 : noT.size = 0 := rfl; omega⟩
    · have nb : isNo b = false := by simpa using hn
      by_cases h4 : b.kind = 2
      · rw [nCat_e2 (by simp [isNo, two, Rex.kind]) nb (by show (3 : Int) ≠ 2; decide) h4]; exact ⟨wf_two (.inl rfl) wx wy, by omega, by omega⟩
      · rw [two, nCat_cat nb h4]
        have f1 := iy b hb
        have f2 := ix (nCat y b) f1.wf
        have g1 := f1.many
        have g2 := f1.size
        have g3 := f2.many
        have g4 := f2.size
        rw [two] at e1 e2
        exact ⟨f2.wf, by omega, by omega⟩
  · exact base _ (wf_two hk wx wy) (by show k ≠ 3; exact e)
theorem nStar_fit {a : Rex} (ha : wf a) : Fit2 (nStar a) (a.many + 1) (a.size + 1) := by
  unfold nStar
  split
  · exact ⟨ha, by omega, by omega⟩
  · split
    · exact ⟨wf_empty, by simp [Rex.many, manyL], by simp [Rex.size, sizeL]⟩
    · exact ⟨wf_one (.inl rfl) ha, by simp [Rex.many, manyL]; omega, by simp [Rex.size, sizeL]; omega⟩
theorem nNot_fit {a : Rex} (ha : wf a) : Fit2 (nNot a) (a.many + 1) (a.size + 1) := by
  unfold nNot
  split
  · rename_i hk
    obtain ⟨x, e, hx⟩ := wf_kids1 ha (.inr hk)
    have e0 : kid0 a = x := by rw [e]; rfl
    have e1 : a.many = x.many + 1 := by rw [e]; simp [Rex.many, manyL]; omega
    have e2 : a.size = x.size + 1 := by rw [e]; simp [Rex.size, sizeL]; omega
    rw [e0]
    exact ⟨hx, by omega, by omega⟩
  · exact ⟨wf_one (.inr rfl) ha, by simp [Rex.many, manyL]; omega, by simp [Rex.size, sizeL]; omega⟩

end Go.Proofs.YtfeidjjabjejiaaGreatDoor

/- Simpler patterns: nothing, two, isAll, one behind the other, of the program and of the reference. -/
namespace Go.Proofs.YtfeidjjabjejiaaGreatDoor
set_option linter.unusedSimpArgs false
set_option linter.unusedVariables false
set_option maxRecDepth 100000
open Go.RowKit

set_option maxHeartbeats 1000000 in
theorem iNothing_c (w : World) :
    Calls Tryz.prog 110 #[] w fun e w' => e = .returned (.agg #[.int .i64 1, nilS, nilS]) ∧ Below w.heap.size w w' := by
  go_enter Tryz.func110, Tryz.ntmps110
  go_wp2_with fail
  refine bodyPost_ret (results_cell_row Tryz.results110 _ _ w.heap.size TRx _ (0, 0) _ rfl (blk_new w #[.int .i64 1, nilS, nilS] TRx).eq Tryz.underlying26 rfl (by rw [sizeRx]; rfl)) rfl ?_
  exact ⟨rfl, below_alloc (Below.refl _ _) _⟩

set_option maxHeartbeats 1000000 in
theorem iTwo_c (k : Int) (a b : Rex) (u1 u2 v1 v2 : Value) (w : World) (p : Nat → Prop) (ha : RexP w p a (.int .i64 a.kind) u1 u2) (hb : RexP w p b (.int .i64 b.kind) v1 v2) (hp : ∀ b, p b → b < w.heap.size) :
    Calls Tryz.prog 121 #[.int .i64 k, .agg #[.int .i64 a.kind, u1, u2], .agg #[.int .i64 b.kind, v1, v2]] w (RexPost p (two k a b) w) := by
  obtain ⟨A, c, K, ck, _, rfl, rfl, _, _⟩ := ha.parts
  obtain ⟨B, d, K', dk, _, rfl, rfl, _, _⟩ := hb.parts
  obtain ⟨wa, hwa⟩ : ∃ x, x = ((w.alloc (.cells #[.int .i64 a.kind, .slice A a.set.length c, .slice K a.kids.length ck] TRx)).alloc (.cells #[.int .i64 b.kind, .slice B b.set.length d, .slice K' b.kids.length dk] TRx)).alloc (.cells #[.int .i64 0, nilS, nilS] TRx) := ⟨_, rfl⟩
  have hbw : Below w.heap.size w wa := by rw [hwa]; exact below_alloc (below_alloc (below_alloc (Below.refl _ _) _) _) _
  have hz1 : wa.heap.size = w.heap.size + 3 := by rw [hwa]; simp
  have MA : Hid (Blk wa w.heap.size #[.int .i64 a.kind, .slice A a.set.length c, .slice K a.kids.length ck] TRx) := by rw [hwa]; exact ((blk_new w _ _).alloc _).alloc _
  have MB : Hid (Blk wa (w.heap.size + 1) #[.int .i64 b.kind, .slice B b.set.length d, .slice K' b.kids.length dk] TRx) := by
    rw [hwa]
    have := (blk_new (w.alloc (.cells #[.int .i64 a.kind, .slice A a.set.length c, .slice K a.kids.length ck] TRx)) #[.int .i64 b.kind, .slice B b.set.length d, .slice K' b.kids.length dk] TRx).alloc (.cells #[.int .i64 0, nilS, nilS] TRx)
    rw [show (w.alloc (.cells #[.int .i64 a.kind, .slice A a.set.length c, .slice K a.kids.length ck] TRx)).heap.size = w.heap.size + 1 by simp] at this
    exact this
  have MR : Hid (Blk wa (w.heap.size + 2) #[.int .i64 0, nilS, nilS] TRx) := by
    rw [hwa]
    have := blk_new ((w.alloc (.cells #[.int .i64 a.kind, .slice A a.set.length c, .slice K a.kids.length ck] TRx)).alloc (.cells #[.int .i64 b.kind, .slice B b.set.length d, .slice K' b.kids.length dk] TRx)) #[.int .i64 0, nilS, nilS] TRx
    rw [show ((w.alloc (.cells #[.int .i64 a.kind, .slice A a.set.length c, .slice K a.kids.length ck] TRx)).alloc (.cells #[.int .i64 b.kind, .slice B b.set.length d, .slice K' b.kids.length dk] TRx)).heap.size = w.heap.size + 2 by simp] at this
    exact this
  have HZ := Lib.hid hz1
  replace hwa := hwa.symm
  have HA := Lib.hid (ha.under hbw)
  have HB := Lib.hid (hb.under hbw)
  have BW := Lib.hid hbw
  have HP := Lib.hid hp
  clear hbw hz1 ha hb hp
  have n0 : wa.cell? ⟨w.heap.size, 0, none⟩ = some (.int .i64 a.kind) := by rw [MA.out.cell]; rfl
  have n1 : wa.cell? ⟨w.heap.size, 1, none⟩ = some (.slice A a.set.length c) := by rw [MA.out.cell]; rfl
  have n2 : wa.cell? ⟨w.heap.size, 2, none⟩ = some (.slice K a.kids.length ck) := by rw [MA.out.cell]; rfl
  have m0 : wa.cell? ⟨w.heap.size + 1, 0, none⟩ = some (.int .i64 b.kind) := by rw [MB.out.cell]; rfl
  have m1 : wa.cell? ⟨w.heap.size + 1, 1, none⟩ = some (.slice B b.set.length d) := by rw [MB.out.cell]; rfl
  have m2 : wa.cell? ⟨w.heap.size + 1, 2, none⟩ = some (.slice K' b.kids.length dk) := by rw [MB.out.cell]; rfl
  obtain ⟨wb, hwb⟩ : ∃ x, x = wa.alloc (.cells #[.int .i64 a.kind, .slice A a.set.length c, .slice K a.kids.length ck, .int .i64 b.kind, .slice B b.set.length d, .slice K' b.kids.length dk] TRx) := ⟨_, rfl⟩
  have hbb : Below wa.heap.size wa wb := by rw [hwb]; exact below_alloc (Below.refl _ _) _
  have MX : Hid (Blk wb wa.heap.size #[.int .i64 a.kind, .slice A a.set.length c, .slice K a.kids.length ck, .int .i64 b.kind, .slice B b.set.length d, .slice K' b.kids.length dk] TRx) := by rw [hwb]; exact blk_new _ _ _
  have MRb := Lib.hid (MR.out.below hbb)
  have HAb := Lib.hid (HA.out.under hbb)
  have HBb := Lib.hid (HB.out.under hbb)
  have BWb := Lib.hid (below_then BW.out hbb)
  replace hwb := hwb.symm
  clear hbb
  go_enter Tryz.func121, Tryz.ntmps121
  go_wp2_with ((with_reducible refine at_st 6 11 ?_); refine ev_store (o := ⟨none, .store _ (.tmp 6) _, _, _, _, _⟩) rfl rfl TRx (.tmp 6) (.tmp 11) rfl (w.heap.size + 2) 0 rfl [.int .i64 k, nilS, .slice (some ⟨wa.heap.size, 0, none⟩) 2 2] rfl _ TRx MRb.out (sizeRx' _ _ _) (by show 0 + 3 ≤ 3; omega) (three_one _ _ _ _ _ _ _) ?_; intro w5 hX5 hg5; have HX5 : Hid (Blk w5 (w.heap.size + 2) ([.int .i64 k, nilS, .slice (some ⟨wa.heap.size, 0, none⟩) 2 2]).toArray TRx) := hX5; have HG5 := Lib.hid hg5; clear hX5 hg5)
  refine bodyPost_ret (results_cell_row rfl _ _ (w.heap.size + 2) TRx _ (0, 0) _ rfl HX5.out.eq Tryz.underlying26 rfl (by rw [sizeRx]; rfl)) rfl ?_
  have hz := HZ.out
  refine rex_fin (t := two k a b) rfl rfl HP.out ?_ BWb.out HG5.out (by omega)
  refine RexP.of (k := k) (s := []) (ks := [a, b]) ⟨⟨.inl rfl, Nat.le_refl _, by simp⟩, fun a e => by cases e⟩ (KidsP.mk2 MX.out ⟨by omega, .inr (by omega)⟩ (HAb.out.mono fun b hb => ⟨fun e => by have := HP.out b hb; omega, .inl hb⟩) (HBb.out.mono fun b hb => ⟨fun e => by have := HP.out b hb; omega, .inl hb⟩))

end Go.Proofs.YtfeidjjabjejiaaGreatDoor

/- append, of a row that may be nil; laws for regions that draw their order. -/
namespace Go.Proofs.YtfeidjjabjejiaaGreatDoor
set_option linter.unusedSimpArgs false
set_option linter.unusedVariables false
set_option maxRecDepth 100000
open Go.RowKit

section
variable {P : Program} {w : World}
theorem run_append_row (base : Nat) (t ty e : TypeId) (i : TypeInfo) (z : Value) (size bytes : Nat) (ht : P.underlying t = some (.slice e)) (hi : P.info? e = some i) (hz : i.zero = some z)
    (hsize : i.size = size) (hby : i.bytes = bytes) (hzs : z.cells.size = size) (hsz : 0 < size)
    (v : Value) (n : Nat) (xs : List Value) (hown : w.ownsRow base e size v n xs)
    (A : Option Addr) (m c : Nat) (news : List Value) {lo : Nat} (hrow : Row w lo A news) (hl : news.length = m * size) (h1 : ∀ u ∈ news, u.oneCell' = true)
    (h63 : n + m ≤ maxLen) (hbytes : (n + m) * bytes ≤ 140737488355328) (hbase : base ≤ w.heap.size) :
    ∃ A' c' w', (Builtin.append_ #[t, t] ty #[v, .slice A m c]).run P w = .ok (.slice A' (n + m) c') w' ∧ w'.ownsRow base e size (.slice A' (n + m) c') (n + m) (xs ++ news) ∧ w.grownBy w' v.ownBlock ∧
      ∀ b, b ∈ vblk (.slice A' (n + m) c') → b ∈ vblk v ∨ b = w.heap.size := by
  cases A with
  | some ad =>
    have hcells : ∀ j u, news[j]? = some u → w.cell? (ad.add j) = some u := by
      rcases hrow with rfl | ⟨a, e', _, hc⟩
      · intro j u h; simp at h
      · injection e' with e'; subst e'; exact hc
    obtain ⟨v', w', hr, ho, hg, _, hb⟩ := run_append_own_at (P := P) w base t ty e i z size bytes ht hi hz hsize hby hzs hsz v n xs hown ad m c news hl hcells h1 h63 hbytes hbase
    obtain ⟨A', c', rfl, _⟩ := own_row ho
    refine ⟨A', c', w', hr, ho, hg, fun b h => ?_⟩
    rw [mem_vblk] at h
    rcases hb with hb | hb
    · exact .inl (mem_vblk.2 (hb ▸ h))
    · right; rw [hb] at h; injection h with h; exact h.symm
  | none =>
    have hn : news = [] := by
      rcases hrow with h | ⟨a, e', _⟩
      · exact h
      · cases e'
    subst hn
    have hm : m = 0 := by
      rcases Nat.eq_zero_or_pos m with h | h
      · exact h
      · exfalso
        have := Nat.mul_le_mul h (Nat.le_refl size)
        simp at hl
        omega
    subst hm
    obtain ⟨A', c', rfl, _⟩ := own_row hown
    refine ⟨A', c', w, ?_, by simpa using hown, ⟨rfl, rfl, rfl, Nat.le_refl _, fun _ _ _ => rfl⟩, fun b h => .inl h⟩
    rcases hown.2 with ⟨e1, rfl⟩ | ⟨g, cap, cur, e1, _, _, hnc, _⟩
    · injection e1 with e1 e2 e3
      subst e1 e3
      simp [Builtin.append_, run_underlying ht, sizeOf, typeInfo, hi, Builtin.lenOf, Builtin.firstCells]
    · injection e1 with e1 e2 e3
      subst e1 e3
      simp [Builtin.append_, run_underlying ht, sizeOf, typeInfo, hi, Builtin.lenOf, Builtin.firstCells, hnc, storeCells]

theorem wp_append_row {o : Oper} {a : Act} {K : Act → World → Prop} {Q : Exit → Act → World → Prop} (s x : Operand) (t : TypeId)
    (ho : o.op = .call { callee := .builtin .append, args := #[s, x], argTypes := #[t, t] })
    (base : Nat) (e : TypeId) (i : TypeInfo) (z : Value) (size bytes : Nat) (ht : P.underlying t = some (.slice e)) (hi : P.info? e = some i) (hz : i.zero = some z)
    (hsize : i.size = size) (hby : i.bytes = bytes) (hzs : z.cells.size = size) (hsz : 0 < size)
    (v : Value) (n : Nat) (xs : List Value) (hs : a.eval s = v) (hown : w.ownsRow base e size v n xs)
    (A : Option Addr) (m c : Nat) (news : List Value) (hx : a.eval x = .slice A m c) {lo : Nat} (hrow : Row w lo A news) (hl : news.length = m * size) (h1 : ∀ u ∈ news, u.oneCell' = true)
    (h63 : n + m ≤ maxLen) (hbytes : (n + m) * bytes ≤ 140737488355328) (hbase : base ≤ w.heap.size) (H : Nat) (hH : w.heap.size = H) (N : Nat) (hN : n + m = N)
    (h : ∀ A' c' w', w'.ownsRow base e size (.slice A' N c') N (xs ++ news) → w.grownBy w' v.ownBlock → (∀ b, b ∈ vblk (.slice A' N c') → b ∈ vblk v ∨ b = H) → K (a.put o.dst (.slice A' N c')) w') : o.wp P a w K Q := by
  obtain ⟨A', c', w', hr, h2, h3, h4⟩ := run_append_row (P := P) (w := w) base t o.type e i z size bytes ht hi hz hsize hby hzs hsz v n xs hown A m c news hrow hl h1 h63 hbytes hbase
  unfold Oper.wp execOp
  simp only [ho, resolve, invoke, builtin, Sem.run_bind, Sem.run_pure, Result.andThen_ok, List.map_toArray, List.map_cons, List.map_nil, hs, hx, hr]
  subst hN
  exact h A' c' w' h2 h3 (hH ▸ h4)
theorem wpList_append_row {ops : Array Oper} {rest : List Oper} {o : Oper} {a : Act} {Q : Exit → Act → World → Prop} (hgd : o.guard = none) (s x : Operand) (t : TypeId)
    (ho : o.op = .call { callee := .builtin .append, args := #[s, x], argTypes := #[t, t] })
    (base : Nat) (e : TypeId) (i : TypeInfo) (z : Value) (size bytes : Nat) (ht : P.underlying t = some (.slice e)) (hi : P.info? e = some i) (hz : i.zero = some z)
    (hsize : i.size = size) (hby : i.bytes = bytes) (hzs : z.cells.size = size) (hsz : 0 < size)
    (v : Value) (n : Nat) (xs : List Value) (hs : a.eval s = v) (hown : w.ownsRow base e size v n xs)
    (A : Option Addr) (m c : Nat) (news : List Value) (hx : a.eval x = .slice A m c) {lo : Nat} (hrow : Row w lo A news) (hl : news.length = m * size) (h1 : ∀ u ∈ news, u.oneCell' = true)
    (h63 : n + m ≤ maxLen) (hbytes : (n + m) * bytes ≤ 140737488355328) (hbase : base ≤ w.heap.size) (H : Nat) (hH : w.heap.size = H) (N : Nat) (hN : n + m = N)
    (h : ∀ A' c' w', w'.ownsRow base e size (.slice A' N c') N (xs ++ news) → w.grownBy w' v.ownBlock → (∀ b, b ∈ vblk (.slice A' N c') → b ∈ vblk v ∨ b = H) → wpList P ops Q rest (a.put o.dst (.slice A' N c')) w') : wpList P ops Q (o :: rest) a w :=
  wpList_plain hgd fun _ hK => wp_append_row s x t ho base e i z size bytes ht hi hz hsize hby hzs hsz v n xs hs hown A m c news hx hrow hl h1 h63 hbytes hbase H hH N hN fun A' c' w' h2 h3 h4 => hK _ _ (h A' c' w' h2 h3 h4)
theorem step_append_row {ops : Array Oper} {o : Oper} {a : Act} {K : Act → World → Prop} {Q : Exit → Act → World → Prop} {E : Prop} (hgd : o.guard = none) (s x : Operand) (t : TypeId)
    (ho : o.op = .call { callee := .builtin .append, args := #[s, x], argTypes := #[t, t] })
    (base : Nat) (e : TypeId) (i : TypeInfo) (z : Value) (size bytes : Nat) (ht : P.underlying t = some (.slice e)) (hi : P.info? e = some i) (hz : i.zero = some z)
    (hsize : i.size = size) (hby : i.bytes = bytes) (hzs : z.cells.size = size) (hsz : 0 < size)
    (v : Value) (n : Nat) (xs : List Value) (hs : a.eval s = v) (hown : w.ownsRow base e size v n xs)
    (A : Option Addr) (m c : Nat) (news : List Value) (hx : a.eval x = .slice A m c) {lo : Nat} (hrow : Row w lo A news) (hl : news.length = m * size) (h1 : ∀ u ∈ news, u.oneCell' = true)
    (h63 : n + m ≤ maxLen) (hbytes : (n + m) * bytes ≤ 140737488355328) (hbase : base ≤ w.heap.size) (H : Nat) (hH : w.heap.size = H) (N : Nat) (hN : n + m = N)
    (h : ∀ A' c' w', w'.ownsRow base e size (.slice A' N c') N (xs ++ news) → w.grownBy w' v.ownBlock → (∀ b, b ∈ vblk (.slice A' N c') → b ∈ vblk v ∨ b = H) → K (a.put o.dst (.slice A' N c')) w') :
    if Region.wanted o (yielded ops a.tmps) = true then Oper.wp P o a w K Q else E := by
  have hw : Region.wanted o (yielded ops a.tmps) = true := by simp [Region.wanted, hgd]
  rw [if_pos hw]
  exact wp_append_row s x t ho base e i z size bytes ht hi hz hsize hby hzs hsz v n xs hs hown A m c news hx hrow hl h1 h63 hbytes hbase H hH N hN h
/-- A call of a Go function, as one step of a region that draws. -/
theorem step_call {ops : Array Oper} {o : Oper} {a : Act} {K : Act → World → Prop} {Q : Exit → Act → World → Prop} {E : Prop} (hgd : o.guard = none) (f : FuncId) (xs : Array Operand) (ts : Array TypeId)
    (ho : o.op = .call { callee := .value (.func f), args := xs, argTypes := ts }) (fn : Func) (hf : P.funcs[f]? = some fn) (hname : (fn.name == "runtime.NumGoroutine") = false) (hb : fn.body.isNone = false)
    (vals : Array Value) (hv : xs.toList.map a.eval = vals.toList) {R : Value → World → Prop} (hc : Calls P f vals w fun e w' => ∃ v, e = .returned v ∧ R v w')
    (h : ∀ v w', R v w' → K (a.put o.dst v) w') : if Region.wanted o (yielded ops a.tmps) = true then Oper.wp P o a w K Q else E := by
  have hw : Region.wanted o (yielded ops a.tmps) = true := by simp [Region.wanted, hgd]
  rw [if_pos hw]
  have h1 : ¬ fn.name = "runtime.NumGoroutine" := by simpa using hname
  have h2 : ¬ fn.body = none := by cases hx : fn.body <;> simp_all
  have hrun : (execOp a.eval o).run P w = .ok (.enter f vals) w := by
    have hv' : xs.map a.eval = vals := Array.toList_inj.1 (by rw [Array.toList_map]; exact hv)
    rw [← hv']
    unfold execOp
    simp [ho, resolve, Deferred.ofValue, invoke, callFunc, hf, h1, h2, Act.eval]
  unfold Oper.wp
  rw [hrun, Oper.upon_enter]
  refine hc.mono ?_
  rintro e w' ⟨v, rfl, hr⟩
  exact h v w' hr
end

end Go.Proofs.YtfeidjjabjejiaaGreatDoor
