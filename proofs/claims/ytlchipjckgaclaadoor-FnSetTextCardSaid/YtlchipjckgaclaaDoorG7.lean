/- Texts joined for the claims: Tw Tu Rr T2 Cp Cs. -/
import Derived.Test.YtlchipjckgaclaaDoorG6
import Derived.Test.YtlchipjckgaclaaDoorG4
import Derived.Test.YtlchipjckgaclaaDoorG3
import Derived.Test.YtlchipjckgaclaaDoorG5
import Derived.Test.YtlchipjckgaclaaDoorG2
import Derived.Test.YtlchipjckgaclaaDoorG1
/- SetText of the program, walked. -/
namespace Go.Proofs.YtlchipjckgaclaaDoor
set_option linter.unusedSimpArgs false
set_option linter.unusedVariables false
set_option maxRecDepth 100000
open Go.RowKit

theorem str_dash (l : List UInt8) : (⟨#[45]⟩ : ByteArray) ++ str l = str (45 :: l) := str_append [45] l
set_option maxHeartbeats 2000000 in
theorem iSetText_c (A : Option Addr) (c : Nat) (xs : List Sp) (w : World) {lo : Nat} (h : Sps w lo A c xs) (h64 : sp64 xs) (hn : xs.length ≤ 1048576) (ht : Pow10 w) :
    Calls Tryd.prog 12 #[.slice A xs.length c] w fun e w' => e = .returned (.string (str (setTxt xs))) ∧ Below w.heap.size w w' := by
  have H := Lib.hid h
  have H64 := Lib.hid h64
  have HT := Lib.hid ht
  have HO0 : Hid (w.ownsRow w.heap.size TStr 1 (.slice none 0 0) 0 (txts (xs.take 0))) := World.ownsRow_nil _ _ _ _
  obtain ⟨iS, hiS, hzS0, hzS1, hzS2⟩ := info_parts infoStr
  clear h h64 ht
  go_enter Tryd.func12, Tryd.ntmps12
  by_cases hx0 : xs.length = 0
  · have d0 : ((xs.length : Int) == 0) = true := by simp [hx0]
    have E : Hid (setTxt xs = [110, 111]) := by show _ = _; rw [setTxt, if_pos hx0]
    clear hx0
    go_wp2_with fail
    go_ret
    exact ⟨by rw [E.out]; rfl, Below.refl _ _⟩
  have d0 : ((xs.length : Int) == 0) = false := by simp [hx0]
  have HX0 := Lib.hid hx0
  clear hx0
  go_wp2_with fail
  clear d0
  go_loopg [3, 12] xs.length (fun n v3 v12 wr => ∃ k : Nat, k + n = xs.length ∧ v12 = .int .i64 k ∧ ∃ (A2 : Option Addr) (c2 : Nat), v3 = .slice A2 k c2 ∧ Hid (wr.ownsRow w.heap.size TStr 1 (.slice A2 k c2) k (txts (xs.take k))) ∧ Hid (Below w.heap.size w wr))
  case atStart => exact ⟨0, by omega, rfl, none, 0, rfl, HO0, Below.refl _ _⟩
  case round =>
    clear HO0
    obtain ⟨k, hk, rfl, A2, c2, rfl, HO, HB⟩ := hrel
    by_cases hlt : k < xs.length
    · obtain ⟨a, x, rfl, HX, HD, h0, h1⟩ := (H.out.below HB.out).at_ k hlt
      have i0 : (0 : Int) ≤ (k : Int) := by omega
      have i1 : (k : Int) < (xs.length : Int) := by omega
      have hx := H64.out x (List.mem_of_getElem? HX.out)
      have hi0 := Lib.itoa_length_le x.lo hx.1.1 hx.1.2
      have hi1 := Lib.itoa_length_le x.hi hx.2.1 hx.2.2
      have hz0 := str_size (Lib.itoa x.lo)
      have hz1 := str_size (Lib.itoa x.hi)
      have HTS := Lib.hid (txts_snoc HX.out)
      go_wp2_with fail
      obtain ⟨wv, hwv⟩ : ∃ v, v = wr.alloc (.cells #[.int .i64 x.lo, .int .i64 x.hi] 60) := ⟨_, rfl⟩
      have bv' : Below wr.heap.size wr wv := by rw [hwv]; exact below_alloc (Below.refl _ _) _
      have M : Blk wv wr.heap.size #[.int .i64 x.lo, .int .i64 x.hi] 60 := by rw [hwv]; exact blk_new wr _ _
      rw [← hwv]
      clear hwv h0 h1
      refine (iItoa_c x.lo wv hx.1 (HT.out.below (below_then HB.out bv'))).mono ?_
      rintro e w1 ⟨rfl, b1⟩
      have M1 := Lib.hid (M.below b1)
      have B1 := Lib.hid (below_then bv' b1)
      have n0 : w1.cell? ⟨wr.heap.size, 0, none⟩ = some (.int .i64 x.lo) := by rw [M1.out.cell]; rfl
      have n1 : w1.cell? ⟨wr.heap.size, 1, none⟩ = some (.int .i64 x.hi) := by rw [M1.out.cell]; rfl
      clear bv' M b1
      by_cases hne : x.hi = x.lo
      · have HE : Hid (str (Lib.itoa x.lo) = str (spanTxt x)) := by show _ = _; unfold spanTxt; rw [if_pos hne, List.append_nil]
        have d1 : (x.hi != x.lo) = false := by simp [hne]
        have d2 : decide (¬ x.hi = x.lo) = false := by simp [hne]
        obtain ⟨w3, hw3⟩ : ∃ v, v = w1 := ⟨_, rfl⟩
        have B3 : Hid (Below w.heap.size w w3) := by rw [hw3]; exact below_then HB.out B1.out
        have B4 : Hid (Below wr.heap.size wr w3) := by rw [hw3]; exact B1.out
        rw [← hw3] at n0 n1 ⊢
        clear hw3 hne
        go_upto_region 10 with fail
        rw [HE.out]
        obtain ⟨tx, htx⟩ : ∃ t, t = str (spanTxt x) := ⟨_, rfl⟩
        rw [← htx]
        have HTX := Lib.hid htx
        clear htx
        have hn1 : k + 1 ≤ maxLen := by unfold maxLen; omega
        have hn2 : (k + 1) * 16 ≤ 140737488355328 := by omega
        have hn3 := B3.out.size
        have OW := Lib.hid (own_below HO.out (B4.out))
        go_wp2_with (at_builtin; refine wpList_append_row (by rfl) (.tmp 30) (.tmp 32) 63 (by rfl) w.heap.size TStr iS (.string ⟨#[]⟩) 1 16 Tryd.underlying63 hiS hzS0 hzS1 hzS2 rfl (by decide) (.slice A2 k c2) k (txts (xs.take k)) (by rfl) (own_below OW.out (below_alloc (Below.refl _ _) _)) (some ⟨w3.heap.size, 0, none⟩) 1 1 [.string tx] (by rfl) (.inr ⟨⟨w3.heap.size, 0, none⟩, rfl, Nat.zero_le _, new_cells w3 [.string tx] TStr⟩) rfl (fun u hu => by rw [List.mem_singleton.1 hu]; rfl) hn1 hn2 (by simp; omega) _ rfl (k + 1) rfl ?_; intro A5 c5 wE hown hgrow hat; have HE := Lib.hid hown; have BE := Lib.hid ((below_alloc B3.out _).grown hgrow (by simp; omega) (fun q hq => (own_base OW.out q hq).1)); clear hown hgrow hat)
        go_roundg (gk - 1)
        case measure => omega
        case rel =>
          refine ⟨k + 1, by omega, by go_num, A5, c5, rfl, ?_, BE⟩
          show World.ownsRow _ _ _ _ _ _ _
          rw [HTS.out, ← HTX.out]
          exact HE.out
      · have HE : Hid (str (Lib.itoa x.lo) ++ ((⟨#[45]⟩ : ByteArray) ++ str (Lib.itoa x.hi)) = str (spanTxt x)) := by show _ = _; unfold spanTxt; rw [if_neg hne, str_dash, str_append]
        have d1 : (x.hi != x.lo) = true := by simp [hne]
        have d2 : decide (¬ x.hi = x.lo) = true := by simp [hne]
        clear hne
        go_wp2_with fail
        refine (iItoa_c x.hi w1 hx.2 (HT.out.below (below_then HB.out B1.out))).mono ?_
        rintro e w3 ⟨rfl, b3⟩
        have B3 := Lib.hid (below_then HB.out (below_then B1.out b3))
        have B4 := Lib.hid (below_then B1.out b3)
        clear n0 n1 b3
        go_upto_region 10 with fail
        rw [HE.out]
        obtain ⟨tx, htx⟩ : ∃ t, t = str (spanTxt x) := ⟨_, rfl⟩
        rw [← htx]
        have HTX := Lib.hid htx
        clear htx
        have hn1 : k + 1 ≤ maxLen := by unfold maxLen; omega
        have hn2 : (k + 1) * 16 ≤ 140737488355328 := by omega
        have hn3 := B3.out.size
        have OW := Lib.hid (own_below HO.out (B4.out))
        go_wp2_with (at_builtin; refine wpList_append_row (by rfl) (.tmp 30) (.tmp 32) 63 (by rfl) w.heap.size TStr iS (.string ⟨#[]⟩) 1 16 Tryd.underlying63 hiS hzS0 hzS1 hzS2 rfl (by decide) (.slice A2 k c2) k (txts (xs.take k)) (by rfl) (own_below OW.out (below_alloc (Below.refl _ _) _)) (some ⟨w3.heap.size, 0, none⟩) 1 1 [.string tx] (by rfl) (.inr ⟨⟨w3.heap.size, 0, none⟩, rfl, Nat.zero_le _, new_cells w3 [.string tx] TStr⟩) rfl (fun u hu => by rw [List.mem_singleton.1 hu]; rfl) hn1 hn2 (by simp; omega) _ rfl (k + 1) rfl ?_; intro A5 c5 wE hown hgrow hat; have HE := Lib.hid hown; have BE := Lib.hid ((below_alloc B3.out _).grown hgrow (by simp; omega) (fun q hq => (own_base OW.out q hq).1)); clear hown hgrow hat)
        go_roundg (gk - 1)
        case measure => omega
        case rel =>
          refine ⟨k + 1, by omega, by go_num, A5, c5, rfl, ?_, BE⟩
          show World.ownsRow _ _ _ _ _ _ _
          rw [HTS.out, ← HTX.out]
          exact HE.out
    · have hkl : k = xs.length := by omega
      subst hkl
      rw [List.take_length] at HO
      obtain ⟨g, cc, e3, hg3, hc3⟩ := own_form HO.out (by have := HX0.out; omega)
      injection e3 with e31 e32 e33
      subst e31 e33
      have E : Hid (setTxt xs = accTxt xs) := by show _ = _; rw [setTxt, if_neg HX0.out]
      go_wp2_with fail
      refine (iJoin_c xs g c2 wr HO.out H64.out hn hc3).mono ?_
      rintro e w2 ⟨rfl, b2⟩
      go_wp2_with fail
      go_ret
      exact ⟨by rw [E.out]; rfl, below_then HB.out b2⟩

end Go.Proofs.YtlchipjckgaclaaDoor

/- Patterns as texts: rexWord, writeRex, textOf, RexText of the program. -/
namespace Go.Proofs.YtlchipjckgaclaaDoor
set_option linter.unusedSimpArgs false
set_option linter.unusedVariables false
set_option maxRecDepth 100000
open Go.RowKit

mutual
theorem words_many : ∀ r : Rex, (wordsOf r).length ≤ 2 * r.many
  | .mk k s ks => by
    have := wordsL_many ks
    rw [wordsOf, Rex.many, List.length_cons, List.length_append]
    split <;> simp <;> omega
theorem wordsL_many : ∀ ks : List Rex, (wordsL ks).length ≤ 2 * manyL ks
  | [] => by simp [wordsL, manyL]
  | r :: ks => by
    have h1 := words_many r
    have h2 := wordsL_many ks
    rw [wordsL, manyL, List.length_append]
    omega
end
def wcells (ws : List (List UInt8)) : List Value := ws.map fun l => Value.string (str l)
theorem wcells_snoc (ws : List (List UInt8)) (l : List UInt8) : wcells (ws ++ [l]) = wcells ws ++ [.string (str l)] := by simp [wcells]

set_option maxHeartbeats 1000000 in
theorem iRexWord_c (k : Int) (w : World) (h : k = 1 ∨ k = 2 ∨ k = 3 ∨ k = 4 ∨ k = 5 ∨ k = 6 ∨ k = 7) :
    Calls Tryd.prog 91 #[.int .i64 k] w fun e w' => e = .returned (.string (str (kw k))) ∧ Below w.heap.size w w' := by
  rcases h with rfl | rfl | rfl | rfl | rfl | rfl | rfl
  all_goals
    go_enter Tryd.func91, Tryd.ntmps91
    go_wp2_with fail
    go_ret
    exact ⟨rfl, below_alloc (Below.refl _ _) _⟩

end Go.Proofs.YtlchipjckgaclaaDoor

/- A pattern read back from its words: plain law. -/
namespace Go.Proofs.YtlchipjckgaclaaDoor
set_option linter.unusedSimpArgs false
set_option linter.unusedVariables false
set_option maxRecDepth 100000

/-- the kind whose word it is, 0 if none -/
def kindW (w : List UInt8) : Int :=
  if w = kw 1 then 1 else if w = kw 2 then 2 else if w = kw 3 then 3 else if w = kw 4 then 4 else if w = kw 5 then 5 else if w = kw 6 then 6 else if w = kw 7 then 7 else 0
theorem kindW_cases (w : List UInt8) : (kindW w = 0 ∧ ∀ k, kind7 k → w ≠ kw k) ∨ (kind7 (kindW w) ∧ w = kw (kindW w)) := by
  unfold kindW
  split
  · rename_i h; exact .inr ⟨.inl rfl, h⟩
  rename_i h1
  split
  · rename_i h; exact .inr ⟨.inr (.inl rfl), h⟩
  rename_i h2
  split
  · rename_i h; exact .inr ⟨.inr (.inr (.inl rfl)), h⟩
  rename_i h3
  split
  · rename_i h; exact .inr ⟨.inr (.inr (.inr (.inl rfl))), h⟩
  rename_i h4
  split
  · rename_i h; exact .inr ⟨.inr (.inr (.inr (.inr (.inl rfl)))), h⟩
  rename_i h5
  split
  · rename_i h; exact .inr ⟨.inr (.inr (.inr (.inr (.inr (.inl rfl))))), h⟩
  rename_i h6
  split
  · rename_i h; exact .inr ⟨.inr (.inr (.inr (.inr (.inr (.inr rfl))))), h⟩
  rename_i h7
  refine .inl ⟨rfl, fun k hk => ?_⟩
  rcases hk with rfl | rfl | rfl | rfl | rfl | rfl | rfl <;> assumption
theorem kindW_kw {k : Int} (h : kind7 k) : kindW (kw k) = k := by
  rcases kindW_cases (kw k) with ⟨_, h2⟩ | ⟨h1, h2⟩
  · exact absurd rfl (h2 k h)
  · exact (kw_inj h h1 h2).symm

abbrev RdF := List (List UInt8) → Option (Rex × List (List UInt8))
/-- so many more are read -/
def kidsLoop (f : RdF) : Nat → List (List UInt8) → List Rex → Option (List Rex × List (List UInt8))
  | 0, ws, ks => some (ks, ws)
  | n + 1, ws, ks => match f ws with
    | none => none
    | some (k, r) => kidsLoop f n r (ks ++ [k])
theorem loop_none {f : RdF} {n : Nat} {ws : List (List UInt8)} {ks : List Rex} (h : f ws = none) : kidsLoop f (n + 1) ws ks = none := by rw [kidsLoop, h]
theorem loop_some {f : RdF} {n : Nat} {ws r : List (List UInt8)} {ks : List Rex} {k : Rex} (h : f ws = some (k, r)) : kidsLoop f (n + 1) ws ks = kidsLoop f n r (ks ++ [k]) := by rw [kidsLoop, h]
/-- one is read -/
def readW : Nat → RdF
  | 0, _ => none
  | _ + 1, [] => none
  | d + 1, w :: ws =>
    if kindW w = 0 then none
    else if kindW w = 1 then
      match ws with
      | [] => none
      | x :: ws' => match readSet x with
        | none => none
        | some s => some (.mk 1 s [], ws')
    else match kidsLoop (readW d) (kidsOf (kindW w)).toNat ws [] with
      | none => none
      | some (ks, r) => some (.mk (kindW w) [] ks, r)
theorem readW_nil (d : Nat) : readW d [] = none := by cases d <;> rfl
theorem readW_zero (ws : List (List UInt8)) : readW 0 ws = none := by cases ws <;> rfl
theorem readW_eq (d : Nat) (w : List UInt8) (ws : List (List UInt8)) : readW (d + 1) (w :: ws) =
    if kindW w = 0 then none
    else if kindW w = 1 then
      match ws with
      | [] => none
      | x :: ws' => match readSet x with
        | none => none
        | some s => some (.mk 1 s [], ws')
    else match kidsLoop (readW d) (kidsOf (kindW w)).toNat ws [] with
      | none => none
      | some (ks, r) => some (.mk (kindW w) [] ks, r) := rfl
theorem readW_bad {d : Nat} {w : List UInt8} {ws : List (List UInt8)} (h : kindW w = 0) : readW (d + 1) (w :: ws) = none := by rw [readW_eq, if_pos h]
theorem readW_set0 {d : Nat} {w : List UInt8} (h : kindW w = 1) : readW (d + 1) [w] = none := by rw [readW_eq, if_neg (by omega), if_pos h]
theorem readW_setN {d : Nat} {w x : List UInt8} {ws : List (List UInt8)} (h : kindW w = 1) (hs : readSet x = none) : readW (d + 1) (w :: x :: ws) = none := by rw [readW_eq, if_neg (by omega), if_pos h]; simp [hs]
theorem readW_setS {d : Nat} {w x : List UInt8} {ws : List (List UInt8)} {s : List Sp} (h : kindW w = 1) (hs : readSet x = some s) : readW (d + 1) (w :: x :: ws) = some (.mk 1 s [], ws) := by rw [readW_eq, if_neg (by omega), if_pos h]; simp [hs]
theorem readW_kids {d : Nat} {w : List UInt8} {ws : List (List UInt8)} (h0 : kindW w ≠ 0) (h1 : kindW w ≠ 1) : readW (d + 1) (w :: ws) = (kidsLoop (readW d) (kidsOf (kindW w)).toNat ws []).map fun x => (.mk (kindW w) [] x.1, x.2) := by
  rw [readW_eq, if_neg h0, if_neg h1]
  cases kidsLoop (readW d) (kidsOf (kindW w)).toNat ws [] with
  | none => rfl
  | some x => rfl

def SoundF (d : Nat) (f : RdF) : Prop := ∀ ws r rest, f ws = some (r, rest) → ws = wordsOf r ++ rest ∧ formed d r = true
theorem wordsL_snoc (ks : List Rex) (k : Rex) : wordsL (ks ++ [k]) = wordsL ks ++ wordsOf k := by
  induction ks with
  | nil => simp [wordsL]
  | cons x xs ih => rw [List.cons_append, wordsL, wordsL, ih, List.append_assoc]
theorem loop_sound {d : Nat} {f : RdF} (hf : SoundF d f) : ∀ (n : Nat) (ws : List (List UInt8)) (ks ks' : List Rex) (rest : List (List UInt8)), kidsLoop f n ws ks = some (ks', rest) → (∀ r ∈ ks, formed d r = true) →
    wordsL ks ++ ws = wordsL ks' ++ rest ∧ (∀ r ∈ ks', formed d r = true) ∧ ks'.length = ks.length + n
  | 0, ws, ks, ks', rest, h, hk => by
    rw [kidsLoop] at h
    obtain ⟨rfl, rfl⟩ := Prod.mk.inj (Option.some.inj h)
    exact ⟨rfl, hk, rfl⟩
  | n + 1, ws, ks, ks', rest, h, hk => by
    cases hw : f ws with
    | none => rw [loop_none hw] at h; cases h
    | some x =>
      obtain ⟨k, r⟩ := x
      rw [loop_some hw] at h
      obtain ⟨e1, e2⟩ := hf _ _ _ hw
      obtain ⟨h1, h2, h3⟩ := loop_sound hf n r (ks ++ [k]) ks' rest h (fun r' hr => by
        rcases List.mem_append.1 hr with hr | hr
        · exact hk r' hr
        · rw [List.mem_singleton.1 hr]; exact e2)
      rw [wordsL_snoc, List.append_assoc, ← e1] at h1
      exact ⟨h1, h2, by rw [h3]; simp; omega⟩
theorem kids_nn {k : Int} (h : kind7 k) : ((kidsOf k).toNat : Int) = kidsOf k := by
  rcases h with rfl | rfl | rfl | rfl | rfl | rfl | rfl <;> decide
theorem readW_sound : ∀ d : Nat, SoundF d (readW d)
  | 0 => fun ws r rest h => by rw [readW_zero] at h; cases h
  | d + 1 => fun ws r rest h => by
    cases ws with
    | nil => rw [readW_nil] at h; cases h
    | cons w ws =>
      rcases kindW_cases w with ⟨hk, _⟩ | ⟨hk, hw⟩
      · rw [readW_bad hk] at h; cases h
      · by_cases h1 : kindW w = 1
        · cases ws with
          | nil => rw [readW_set0 h1] at h; cases h
          | cons x ws =>
            cases hs : readSet x with
            | none => rw [readW_setN h1 hs] at h; cases h
            | some s =>
              rw [readW_setS h1 hs] at h
              obtain ⟨rfl, rfl⟩ := Prod.mk.inj (Option.some.inj h)
              obtain ⟨q1, q2⟩ := read_sound hs
              rw [h1] at hw
              refine ⟨?_, ?_⟩
              · rw [wordsOf, if_pos rfl, hw, q2]; simp [wordsL]
              · rw [formed]; simp [nodeOk, Rex.kind, Rex.set, Rex.kids, q1, kidsOf]
        · have h0 : kindW w ≠ 0 := by rcases hk with h | h | h | h | h | h | h <;> omega
          rw [readW_kids h0 h1] at h
          cases hl : kidsLoop (readW d) (kidsOf (kindW w)).toNat ws [] with
          | none => rw [hl] at h; cases h
          | some x =>
            obtain ⟨ks, rr⟩ := x
            rw [hl] at h
            obtain ⟨rfl, rfl⟩ := Prod.mk.inj (Option.some.inj h)
            obtain ⟨q1, q2, q3⟩ := loop_sound (readW_sound d) _ _ _ _ _ hl (fun r hr => by cases hr)
            have kn := kids_nn hk
            refine ⟨?_, ?_⟩
            · rw [wordsOf, if_neg h1, ← hw]
              simp only [wordsL, List.nil_append, List.cons_append] at q1 ⊢
              rw [q1]
            · rw [formed, Bool.and_eq_true, List.all_eq_true]
              refine ⟨?_, q2⟩
              simp only [List.length_nil, Nat.zero_add] at q3
              simp only [nodeOk, Rex.kind, Rex.set, Rex.kids, Bool.and_eq_true, List.isEmpty_nil, Bool.or_true, and_true]
              exact ⟨decide_eq_true (by omega), rfl⟩
theorem loop_all {f : RdF} : ∀ (ks acc : List Rex) (rest : List (List UInt8)), (∀ r ∈ ks, ∀ rest, f (wordsOf r ++ rest) = some (r, rest)) → kidsLoop f ks.length (wordsL ks ++ rest) acc = some (acc ++ ks, rest)
  | [], acc, rest, _ => by simp [kidsLoop, wordsL]
  | k :: ks, acc, rest, h => by
    rw [List.length_cons, wordsL, List.append_assoc, loop_some (h k (by simp) _), loop_all ks _ rest (fun r hr => h r (by simp [hr]))]
    simp
theorem readW_back (r : Rex) : ∀ (d : Nat) (rest : List (List UInt8)), formed d r = true → readW d (wordsOf r ++ rest) = some (r, rest) := by
  refine Rex.ind (p := fun r => ∀ (d : Nat) (rest : List (List UInt8)), formed d r = true → readW d (wordsOf r ++ rest) = some (r, rest)) (fun k s ks ih => ?_) r
  intro d rest hd
  cases d with
  | zero => simp [formed] at hd
  | succ d =>
    obtain ⟨hk, hs, hok, _, hfk⟩ := formed_node hd
    have k7 := kind_of hd
    have kW := kindW_kw k7
    rw [Nat.add_sub_cancel] at hfk
    by_cases h1 : k = 1
    · subst h1
      have hks : ks = [] := List.length_eq_zero_iff.1 (by have : kidsOf 1 = 0 := rfl; omega)
      subst hks
      have e : wordsOf (.mk 1 s []) ++ rest = kw 1 :: setTxt s :: rest := by rw [wordsOf, if_pos rfl]; simp [wordsL]
      rw [e, readW_setS kW (readSet_txt hok)]
    · have e : wordsOf (.mk k s ks) ++ rest = kw k :: (wordsL ks ++ rest) := by rw [wordsOf, if_neg h1]; simp
      have hs' : s = [] := hs.resolve_left h1
      have kn := kids_nn k7
      have hl : (kidsOf k).toNat = ks.length := by omega
      rw [e, readW_kids (by rw [kW]; rcases k7 with h | h | h | h | h | h | h <;> omega) (by rw [kW]; exact h1), kW, hl, loop_all ks [] rest (fun r hr rest => ih r hr d rest (hfk r hr)), hs']
      rfl

theorem join_cons2 (c : UInt8) (x y : List UInt8) (ws : List (List UInt8)) : Lib.join (x :: y :: ws) [c] = x ++ c :: Lib.join (y :: ws) [c] := by
  rw [Lib.join_cons, Lib.join_cons]
  simp [Lib.joinTail]
theorem join_cut (c : UInt8) : ∀ l : List UInt8, Lib.join (cutAt c l) [c] = l
  | [] => by rw [cutAt, Lib.join_cons]; rfl
  | b :: l => by
    have ih := join_cut c l
    rw [cutAt]
    cases h : cutAt c l with
    | nil => exact absurd h (cutAt_pos c l)
    | cons x xs =>
      rw [h] at ih
      split
      · rename_i e
        rw [join_cons2, ih, e]
        rfl
      · rw [consHead]
        cases xs with
        | nil =>
          rw [Lib.join_cons] at ih ⊢
          rw [List.cons_append, ih]
        | cons y ys =>
          rw [join_cons2] at ih ⊢
          rw [List.cons_append, ih]
/-- what RexRead tells -/
def readRex (t : List UInt8) : Option Rex :=
  if 4000 < t.length then none
  else match readW 8 (cutAt 32 t) with
    | none => none
    | some (r, rest) => if rest = [] ∧ rexOk r = true then some r else none
theorem readRex_long {t : List UInt8} (h : 4000 < t.length) : readRex t = none := if_pos h
theorem readRex_none {t : List UInt8} (h : ¬ 4000 < t.length) (hr : readW 8 (cutAt 32 t) = none) : readRex t = none := by unfold readRex; rw [if_neg h, hr]
theorem readRex_some {t : List UInt8} (h : ¬ 4000 < t.length) {r : Rex} {rest : List (List UInt8)} (hr : readW 8 (cutAt 32 t) = some (r, rest)) : readRex t = if rest = [] ∧ rexOk r = true then some r else none := by unfold readRex; rw [if_neg h, hr]
theorem readW_txt {t : List UInt8} {r : Rex} (hr : readW 8 (cutAt 32 t) = some (r, [])) : rexTxt r = t := by
  obtain ⟨h1, _⟩ := readW_sound 8 _ _ _ hr
  rw [List.append_nil] at h1
  unfold rexTxt
  rw [← h1]
  exact join_cut 32 t
theorem readRex_sound {t : List UInt8} {r : Rex} (h : readRex t = some r) : rexOk r = true ∧ rexTxt r = t := by
  by_cases hl : 4000 < t.length
  · rw [readRex_long hl] at h; cases h
  · cases hr : readW 8 (cutAt 32 t) with
    | none => rw [readRex_none hl hr] at h; cases h
    | some x =>
      obtain ⟨r', rest⟩ := x
      rw [readRex_some hl hr] at h
      split at h
      · rename_i h2
        obtain rfl := Option.some.inj h
        obtain ⟨rfl, h3⟩ := h2
        exact ⟨h3, readW_txt hr⟩
      · cases h
theorem readRex_txt {r : Rex} (h : rexOk r = true) (hl : (rexTxt r).length ≤ 4000) : readRex (rexTxt r) = some r := by
  have hf : formed 8 r = true := by rw [rexOk, Bool.and_eq_true] at h; exact h.1
  have hne : wordsOf r ≠ [] := by obtain ⟨k, s, ks⟩ := r; rw [wordsOf]; simp
  have hc : cutAt 32 (rexTxt r) = wordsOf r := cut_join hne (words_no32 r 8 hf)
  have hb := readW_back r 8 [] hf
  rw [List.append_nil] at hb
  rw [readRex_some (by omega) (by rw [hc]; exact hb), if_pos ⟨rfl, h⟩]
theorem words_size (r : Rex) : ∀ d, formed d r = true → r.size + 1 ≤ 130 * (wordsOf r).length := by
  refine Rex.ind (p := fun r => ∀ d, formed d r = true → r.size + 1 ≤ 130 * (wordsOf r).length) (fun k s ks ih => ?_) r
  intro d hd
  obtain ⟨hk, hs, hok, _, hfk⟩ := formed_node hd
  have hL : ∀ l : List Rex, (∀ r ∈ l, r ∈ ks) → l.length + sizeL l ≤ 130 * (wordsL l).length := by
    intro l
    induction l with
    | nil => intro _; simp [sizeL, wordsL]
    | cons x l ihl =>
      intro hl
      have h1 := ih x (hl x (by simp)) (d - 1) (hfk x (hl x (by simp)))
      have h2 := ihl (fun r hr => hl r (by simp [hr]))
      rw [sizeL, wordsL, List.length_append, List.length_cons]
      omega
  have h1 := hL ks (fun r hr => hr)
  have h2 := ok_len128 hok
  rw [Rex.size, wordsOf, List.length_cons, List.length_append]
  omega

end Go.Proofs.YtlchipjckgaclaaDoor

/- Copies of the laws' trees: toRex, toRexS. -/
namespace Go.Proofs.YtlchipjckgaclaaDoor
set_option linter.unusedSimpArgs false
set_option linter.unusedVariables false
set_option maxRecDepth 100000
open Go.RowKit

theorem infoRx : (Tryd.prog.info? TRx).map (fun i => (i.zero, i.size, i.bytes)) = some (some (.agg #[.int .i64 0, nilS, nilS]), 3, 56) := by kernel_rfl
theorem add0 (g j : Nat) : (⟨g, 0, none⟩ : Addr).add j = ⟨g, j, none⟩ := by unfold Addr.add; split <;> simp_all
theorem size_kid {ks : List Rex} {r : Rex} (h : r ∈ ks) : r.size ≤ sizeL ks := by
  induction ks with
  | nil => cases h
  | cons x xs ih =>
    rw [sizeL]
    rcases List.mem_cons.1 h with rfl | h
    · omega
    · have := ih h; omega

theorem sizeRx : (Tryd.prog.info? TRx).map (·.size) = some 3 := by kernel_rfl
theorem sizeRx' (a b c : Value) : (Tryd.prog.info? TRx).map (·.size) = some [a, b, c].length := sizeRx
theorem RexV.one {w : World} {lo : Nat} {r : Rex} {v0 v1 v2 : Value} (h : RexV w lo r v0 v1 v2) : ∀ u ∈ [v0, v1, v2], u.oneCell' = true := by
  obtain ⟨A, c, K, ck, rfl, rfl, rfl, _⟩ := h.parts
  intro u hu
  simp at hu
  rcases hu with rfl | rfl | rfl <;> rfl
theorem splice3 (l : List Value) (a b c : Value) (k : Nat) (h : k * 3 + 2 < l.length) :
    (l.take (k * 3) ++ [a, b, c] ++ l.drop (k * 3 + 3))[k * 3]? = some a ∧ (l.take (k * 3) ++ [a, b, c] ++ l.drop (k * 3 + 3))[k * 3 + 1]? = some b ∧ (l.take (k * 3) ++ [a, b, c] ++ l.drop (k * 3 + 3))[k * 3 + 2]? = some c ∧
      (∀ i, i < k * 3 → (l.take (k * 3) ++ [a, b, c] ++ l.drop (k * 3 + 3))[i]? = l[i]?) ∧ (l.take (k * 3) ++ [a, b, c] ++ l.drop (k * 3 + 3)).length = l.length := by
  have e : (l.take (k * 3)).length = k * 3 := by rw [List.length_take]; omega
  refine ⟨?_, ?_, ?_, fun i hi => ?_, ?_⟩
  · rw [List.append_assoc, List.getElem?_append_right (by omega), e]; simp
  · rw [List.append_assoc, List.getElem?_append_right (by omega), e, show k * 3 + 1 - k * 3 = 1 by omega]; simp
  · rw [List.append_assoc, List.getElem?_append_right (by omega), e, show k * 3 + 2 - k * 3 = 2 by omega]; simp
  · rw [List.append_assoc, List.getElem?_append_left (by omega), List.getElem?_take, if_pos hi]
  · simp only [List.length_append, e, List.length_drop, List.length_cons, List.length_nil]; omega

/-- a row that is being filled with trees -/
structure KPart (w : World) (g lo cap : Nat) (cur : Array Value) (ks : List Rex) (k : Nat) (L : List KInfo) : Prop where
  blk : Blk w g cur TRx
  size : cur.size = cap * 3
  capn : ks.length ≤ cap
  capm : cap ≤ maxLen
  len : L.length = k
  le : k ≤ ks.length
  cells : cur.toList.take (k * 3) = kcells (ks.take k) L
  hr : ∀ (i : Nat) (r : Rex) (x : KInfo), ks[i]? = some r → L[i]? = some x → OwnT w x.fp r x.v1 x.v2
  nd : (g :: fps L).Nodup
  lo : ∀ b, b ∈ g :: fps L → lo ≤ b
theorem KPart.lt {w : World} {g lo cap : Nat} {cur : Array Value} {ks : List Rex} {k : Nat} {L : List KInfo} (h : KPart w g lo cap cur ks k L) : ∀ b, b ∈ g :: fps L → b < w.heap.size := by
  intro b hb
  rcases List.mem_cons.1 hb with rfl | hb
  · exact h.blk.lt
  · obtain ⟨i, x, hx, hb⟩ := mem_fps.1 hb
    have hi := (List.getElem?_eq_some_iff.1 hx).1
    have hl := h.len
    have hle := h.le
    exact (h.hr i (ks[i]'(by omega)) x (List.getElem?_eq_getElem _) hx).lt b hb
theorem splice_take (l : List Value) (a b c : Value) (k : Nat) (h : k * 3 + 2 < l.length) : (l.take (k * 3) ++ [a, b, c] ++ l.drop (k * 3 + 3)).take ((k + 1) * 3) = l.take (k * 3) ++ [a, b, c] := by
  have e : (l.take (k * 3) ++ [a, b, c]).length = (k + 1) * 3 := by simp only [List.length_append, List.length_take, List.length_cons, List.length_nil]; omega
  rw [List.take_append_of_le_length (by omega), List.take_of_length_le (by omega)]
theorem KPart.snoc {w w2 w5 : World} {g lo cap : Nat} {cur : Array Value} {ks : List Rex} {k : Nat} {L : List KInfo} (h : KPart w g lo cap cur ks k L) {r : Rex} (hk : ks[k]? = some r) (b2 : Below w.heap.size w w2) {fp : List Nat} {u1 u2 : Value}
    (ho : OwnT w2 fp r u1 u2) (hf : ∀ b, b ∈ fp → w.heap.size ≤ b) (nd : fp.Nodup) (hX : Blk w5 g (cur.toList.take (k * 3) ++ [.int .i64 r.kind, u1, u2] ++ cur.toList.drop (k * 3 + 3)).toArray TRx) (hg : w2.grownBy w5 (some g)) (hlo : lo ≤ w.heap.size) :
    KPart w5 g lo cap (cur.toList.take (k * 3) ++ [.int .i64 r.kind, u1, u2] ++ cur.toList.drop (k * 3 + 3)).toArray ks (k + 1) (L ++ [⟨fp, u1, u2⟩]) := by
  have hklt := (List.getElem?_eq_some_iff.1 hk).1
  have hsz := h.size
  have hcapn := h.capn
  have hlen := h.len
  have k0 : k * 3 + 2 < cur.toList.length := by rw [Array.length_toList]; omega
  obtain ⟨_, _, _, _, s4⟩ := splice3 cur.toList (.int .i64 r.kind) u1 u2 k k0
  have hglt : g < w.heap.size := h.blk.lt
  have stay : ∀ b, b < w2.heap.size → b ≠ g → w5.heap[b]? = w2.heap[b]? := fun b hb hne => hg.block b hb fun e => by injection e with e; exact hne e
  refine ⟨hX, by rw [List.size_toArray, s4, Array.length_toList]; exact hsz, h.capn, h.capm, by simp [hlen], hklt, ?_, ?_, ?_, ?_⟩
  · show List.take ((k + 1) * 3) _ = _
    rw [splice_take _ _ _ _ _ k0, h.cells, List.take_add_one, hk]
    exact (kcells_append _ _ _ ⟨fp, u1, u2⟩ (by simp [hlen]; omega)).symm
  · intro i r' x hi hx
    by_cases e : i < L.length
    · rw [List.getElem?_append_left e] at hx
      have hT := h.hr i r' x hi hx
      refine (hT.under b2).stay fun b hb => stay b (Nat.lt_of_lt_of_le (hT.lt b hb) b2.size) fun e => ?_
      have := List.nodup_cons.1 h.nd
      exact this.1 (e ▸ mem_fps.2 ⟨i, x, hx, hb⟩)
    · have e2 : i = L.length := by
        have := (List.getElem?_eq_some_iff.1 hx).1
        simp at this
        omega
      subst e2
      rw [hlen, hk] at hi
      obtain rfl := Option.some.inj hi
      simp at hx
      subst hx
      exact ho.stay fun b hb => stay b (ho.lt b hb) fun e => by have := hf b hb; omega
  · have hn : (fps (L ++ [⟨fp, u1, u2⟩])) = fps L ++ fp := by rw [fps_append]; simp [fps]
    rw [hn, ← List.cons_append]
    refine List.nodup_append.2 ⟨h.nd, nd, fun a ha b hb e => ?_⟩
    have h1 := h.lt a ha
    have h2 := hf b hb
    omega
  · have hn : (fps (L ++ [⟨fp, u1, u2⟩])) = fps L ++ fp := by rw [fps_append]; simp [fps]
    rw [hn, ← List.cons_append]
    intro b hb
    rcases List.mem_append.1 hb with hb | hb
    · exact h.lo b hb
    · exact Nat.le_trans hlo (hf b hb)
theorem KPart.done {w : World} {g lo cap : Nat} {cur : Array Value} {ks : List Rex} {k : Nat} {L : List KInfo} (h : KPart w g lo cap cur ks k L) (hk : k = ks.length) :
    OwnK w (g :: fps L) ks (.slice (some ⟨g, 0, none⟩) ks.length cap) L := by
  subst hk
  obtain ⟨hb, hs, hn, hm, hl, _, hc, hr, nd, _⟩ := h
  rw [List.take_length] at hc
  exact ⟨hl.symm, ⟨kcells_length _ _ hl.symm, .inr ⟨g, cap, cur, rfl, Nat.zero_le _, hb.eq, hn, hm, hs, hc⟩⟩, by unfold maxLen at hm; unfold maxN; omega, hr, rfl, nd⟩
theorem KPart.first {w : World} {g lo cap : Nat} {cur : Array Value} {ks : List Rex} (hb : Blk w g cur TRx) (hs : cur.size = cap * 3) (hn : ks.length ≤ cap) (hm : cap ≤ maxLen) (hl : lo ≤ g) : KPart w g lo cap cur ks 0 [] :=
  ⟨hb, hs, hn, hm, rfl, Nat.zero_le _, by simp [kcells], fun i r x _ h => by simp at h, by simp [fps], fun b hb => by simp [fps] at hb; omega⟩

def ToOk (r : Rex) : Prop := ∀ (v1 v2 : Value) (w : World) (lo : Nat), RexV w lo r (.int .i64 r.kind) v1 v2 → r.size ≤ 1048576 →
  Calls Tryd.prog 16 #[.agg #[.int .i64 r.kind, v1, v2]] w fun e w' => ∃ u1 u2 fp, e = .returned (.agg #[.int .i64 r.kind, u1, u2]) ∧ OwnT w' fp r u1 u2 ∧ fp.Nodup ∧ (∀ b, b ∈ fp → w.heap.size ≤ b) ∧ Below w.heap.size w w'

set_option maxHeartbeats 2000000 in
theorem toRexS_of (ks : List Rex) (ih : ∀ r, r ∈ ks → ToOk r) (K : Option Addr) (ck : Nat) (w : World) (lo : Nat) (h : Kids w lo K ck ks) (hsz : ks.length + sizeL ks ≤ 1048576) :
    Calls Tryd.prog 48 #[.slice K ks.length ck] w fun e w' => ∃ K' ck' L fk, e = .returned (.slice K' ks.length ck') ∧ OwnK w' fk ks (.slice K' ks.length ck') L ∧ (∀ b, b ∈ fk → w.heap.size ≤ b) ∧ Below w.heap.size w w' := by
  obtain ⟨i0, hi, hz0, hz1, hz2⟩ := info_parts infoRx
  have hlen : ks.length ≤ 1048576 := by omega
  go_enter Tryd.func48, Tryd.ntmps48
  go_wp2_with (at_make; refine wpList_make_full _ rfl (.tmp 6) (.tmp 6) 34 rfl w.heap.size TRx i0 (.agg #[.int .i64 0, nilS, nilS]) 3 Tryd.underlying34 hi hz0 hz1 .i64 .i64 _ _ ks.length rfl rfl rfl rfl (by rw [hz2]; omega) (by unfold maxLen; omega) (Nat.le_refl _) ?_; intro w1 hown hgrow)
  obtain ⟨cur, hB, hcs, _⟩ := own_blk hown
  have HX := Lib.hid (KPart.first (lo := w.heap.size) (ks := ks) hB hcs (Nat.le_refl _) (by unfold maxLen; omega) (Nat.le_refl _))
  have HB := Lib.hid ((Below.refl _ w).grown hgrow (Nat.le_refl _) (fun k hk => by cases hk))
  clear hown hgrow hi hz0 hz1 hz2 hB hcs
  go_loopg [4] (ks.length) (fun n i wr => ∃ k : Nat, k + n = ks.length ∧ i = .int .i64 k ∧ ∃ (cur : Array Value) (L : List KInfo), Hid (KPart wr w.heap.size w.heap.size ks.length cur ks k L) ∧ Hid (Below w.heap.size w wr))
  case atStart => exact ⟨0, by omega, rfl, cur, [], HX, HB⟩
  case round =>
    clear HX HB
    obtain ⟨k, hk, rfl, cur, L, HX, HB⟩ := hrel
    by_cases hlt : k < ks.length
    · obtain ⟨a, r, v1, v2, rfl, HK, HD, HT, c0, c1, c2⟩ := (h.below HB.out).at_ k hlt
      have hmem := List.mem_of_getElem? HK.out
      have hrs := size_kid hmem
      go_wp2_with fail
      refine (ih r hmem v1 v2 _ _ HT.out (by omega)).mono ?_
      rintro e w2 ⟨u1, u2, fp, rfl, hv, hnd, hf, b2⟩
      clear c0 c1 c2
      have HV := Lib.hid hv
      have HN := Lib.hid hnd
      have HF := Lib.hid hf
      have B2 := Lib.hid b2
      have HX2 := Lib.hid (HX.out.blk.below b2)
      have hcs := HX.out.size
      have H1 := Lib.hid hv.rex0.one
      have hcs2 : k * 3 + 3 ≤ cur.size := by omega
      clear hv hnd hf b2 hcs
      go_wp2_with ((with_reducible refine at_st 21 20 ?_); refine ev_store (o := ⟨none, .store _ (.tmp 21) _, _, _, _, _⟩) rfl rfl TRx (.tmp 21) (.tmp 20) rfl w.heap.size (k * 3) rfl [.int .i64 r.kind, u1, u2] rfl cur TRx HX2.out (sizeRx' _ _ _) (by show k * 3 + 3 ≤ _; omega) H1.out ?_; intro w5 hX5 hg5; have HX5 : Hid (Blk w5 w.heap.size (cur.toList.take (k * 3) ++ [.int .i64 r.kind, u1, u2] ++ cur.toList.drop (k * 3 + 3)).toArray TRx) := hX5; have HG5 := Lib.hid hg5; clear hX5 hg5)
      clear hcs2
      go_roundg (gk - 1)
      case rel =>
        have hs1 := HB.out.size
        exact ⟨k + 1, by omega, by go_num, _, _, HX.out.snoc HK.out B2.out HV.out HF.out HN.out HX5.out HG5.out hs1, (below_then HB.out B2.out).grown HG5.out (Nat.le_trans hs1 B2.out.size) (fun q hq => by injection hq with hq; omega)⟩
      case measure => omega
    · go_wp2
      go_ret
      have hk' : k = ks.length := by omega
      exact ⟨_, _, L, _, rfl, HX.out.done hk', fun b hb => HX.out.lo b hb, HB.out⟩

set_option maxHeartbeats 2000000 in
theorem toRex_c (r : Rex) : ToOk r := by
  refine Rex.ind (p := ToOk) (fun k s ks ih => ?_) r
  intro v1 v2 w lo h hsz
  obtain ⟨A, c, K, ck, _, rfl, rfl, hs, hk⟩ := h.parts
  dsimp only [Rex.kind, Rex.set, Rex.kids] at hs hk ⊢
  rw [Rex.size] at hsz
  clear h
  have hs1 : s.length ≤ 1048576 := by omega
  have hs2 : ks.length + sizeL ks ≤ 1048576 := by omega
  obtain ⟨wa, hwa⟩ : ∃ x, x = (((w.alloc (.cells #[.int .i64 k, .slice A s.length c, .slice K ks.length ck] 31)).alloc (.cells #[.int .i64 0, nilS, nilS] TRx)).alloc (.cells #[.int .i64 k, nilS, nilS] TRx)) := ⟨_, rfl⟩
  have hb : Below w.heap.size w wa := by rw [hwa]; exact below_alloc (below_alloc (below_alloc (Below.refl _ _) _) _) _
  have m0 : Blk wa w.heap.size #[.int .i64 k, .slice A s.length c, .slice K ks.length ck] 31 := by
    rw [hwa]
    exact ((blk_new w _ _).alloc _).alloc _
  have m1 : Blk wa (w.heap.size + 1) #[.int .i64 0, nilS, nilS] TRx := by
    rw [hwa]
    have := (blk_new (w.alloc (.cells #[.int .i64 k, .slice A s.length c, .slice K ks.length ck] 31)) #[.int .i64 0, nilS, nilS] TRx).alloc (.cells #[.int .i64 k, nilS, nilS] TRx)
    simpa using this
  have m2 : Blk wa (w.heap.size + 1 + 1) #[.int .i64 k, nilS, nilS] TRx := by
    rw [hwa]
    have := blk_new ((w.alloc (.cells #[.int .i64 k, .slice A s.length c, .slice K ks.length ck] 31)).alloc (.cells #[.int .i64 0, nilS, nilS] TRx)) #[.int .i64 k, nilS, nilS] TRx
    simpa using this
  have hz := m2.lt
  have HB := Lib.hid hb
  have M0 := Lib.hid m0
  have M1 := Lib.hid m1
  have M2 := Lib.hid m2
  have HS := Lib.hid (hs.below hb)
  have HK := Lib.hid hk
  clear hb m0 m1 m2 hs hk
  go_enter Tryd.func16, Tryd.ntmps16
  go_wp2_with fail
  rw [← hwa]
  refine (toSpanS_c _ _ _ _ HS.out hs1).mono ?_
  rintro e w3 ⟨v3, rfl, o3, b3⟩
  obtain ⟨A3, c3, rfl, _⟩ := o3.sps
  have M03 := Lib.hid (M0.out.below b3)
  have M13 := Lib.hid (M1.out.below b3)
  have N2 := M2.out.below b3
  have n0 : w3.cell? ⟨w.heap.size, 2, none⟩ = some (.slice K ks.length ck) := by rw [M03.out.cell]; rfl
  have p1 : w3.cell? ⟨w.heap.size + 1 + 1, 1, none⟩ = some nilS := by rw [N2.cell]; rfl
  have q1 := N2.free 1
  have HS3 := Lib.hid o3
  have HB3 := Lib.hid (below_then HB.out b3)
  have M23 := Lib.hid N2
  have hz3 := b3.size
  clear b3 o3 N2 hwa M0 M1 M2 HS HB
  go_wp2_with fail
  have HB4 := Lib.hid (below_set HB3.out (show w.heap.size ≤ w.heap.size + 1 + 1 by omega) (p := ⟨w.heap.size + 1 + 1, 1, none⟩) (.slice A3 s.length c3))
  refine (toRexS_of ks ih _ _ _ _ (HK.out.below HB4.out) hs2).mono ?_
  rintro e w4 ⟨K4, ck4, L4, fk4, rfl, k4, f4, b4⟩
  have hw3 : wa.heap.size ≤ w3.heap.size := hz3
  have M14 := Lib.hid ((M13.out.far (by show w.heap.size + 1 ≠ w.heap.size + 1 + 1; omega) _).below b4)
  have N2 := (M23.out.set 1 (.slice A3 s.length c3)).below b4
  simp only [List.setIfInBounds_toArray, List.set_cons_succ, List.set_cons_zero] at N2
  have p2 : w4.cell? ⟨w.heap.size + 1 + 1, 2, none⟩ = some nilS := by rw [N2.cell]; rfl
  have q2 := N2.free 2
  have HS4 : Hid (OwnSp w4 wa.heap.size (.slice A3 s.length c3) s) := (HS3.out.stay fun q hq => Below.heap_setCell _ _ _ _ (by show q ≠ w.heap.size + 1 + 1; have := (HS3.out.lt q hq).1; omega)).below b4
  have HK4 := Lib.hid k4
  have HF4 : Hid (∀ b, b ∈ fk4 → w3.heap.size ≤ b) := fun b hb => by simpa using f4 b hb
  have HS3l : Hid (∀ b, b ∈ vblk (.slice A3 s.length c3) → wa.heap.size ≤ b ∧ b < w3.heap.size) := HS3.out.lt
  have HB5 := Lib.hid (below_then HB4.out b4)
  have M24 := Lib.hid N2
  clear n0 p1 q1 N2 b4 k4 f4
  have M25 := Lib.hid (show Blk (w4.setCell ⟨w.heap.size + 1 + 1, 2, none⟩ (.slice K4 ks.length ck4)) (w.heap.size + 1 + 1) [.int .i64 k, .slice A3 s.length c3, .slice K4 ks.length ck4].toArray TRx by simpa using M24.out.set 2 (.slice K4 ks.length ck4))
  have M15 := Lib.hid (M14.out.far (p := ⟨w.heap.size + 1 + 1, 2, none⟩) (by show w.heap.size + 1 ≠ w.heap.size + 1 + 1; omega) (.slice K4 ks.length ck4))
  have HB6 := Lib.hid (below_set HB5.out (show w.heap.size ≤ w.heap.size + 1 + 1 by omega) (p := ⟨w.heap.size + 1 + 1, 2, none⟩) (.slice K4 ks.length ck4))
  have hkeep : ∀ q, wa.heap.size ≤ q → (w4.setCell ⟨w.heap.size + 1 + 1, 2, none⟩ (.slice K4 ks.length ck4)).heap[q]? = w4.heap[q]? := fun q hq => Below.heap_setCell _ _ _ _ (by show q ≠ w.heap.size + 1 + 1; omega)
  have HND : Hid ((vblk (.slice A3 s.length c3) ++ fk4).Nodup) := by
    refine List.nodup_append.2 ⟨?_, HK4.out.nd, fun a ha b hb e => ?_⟩
    · unfold vblk; split <;> simp
    · have h1 := (HS3l.out a ha).2
      have h2 := HF4.out b hb
      omega
  have HV := Lib.hid (OwnT.of (k := k) ((HS4.out.stay fun q hq => hkeep q (HS4.out.lt q hq).1).lower (Nat.zero_le _)) (HK4.out.stay fun q hq => hkeep q (Nat.le_trans hw3 (HF4.out q hq))) HND.out)
  have H1 := Lib.hid HV.out.rex0.one
  have HFF : Hid (∀ b, b ∈ vblk (.slice A3 s.length c3) ++ fk4 → wa.heap.size ≤ b) := fun b hb => by
    rcases List.mem_append.1 hb with hb | hb
    · exact (HS3l.out b hb).1
    · exact Nat.le_trans hw3 (HF4.out b hb)
  clear hkeep
  go_wp2_with (first
    | ((with_reducible refine at_ld 15 ?_); refine ev_load (o := ⟨some 15, _, _, _, _, _⟩) rfl TRx _ rfl (w.heap.size + 1 + 1) rfl [.int .i64 k, .slice A3 s.length c3, .slice K4 ks.length ck4] TRx M25.out _ Tryd.underlying36 rfl (sizeRx' _ _ _) ?_)
    | ((with_reducible refine at_st 2 15 ?_); refine ev_store (o := ⟨none, .store _ (.tmp 2) _, _, _, _, _⟩) rfl rfl TRx (.tmp 2) (.tmp 15) rfl (w.heap.size + 1) 0 rfl [.int .i64 k, .slice A3 s.length c3, .slice K4 ks.length ck4] rfl _ TRx M15.out (sizeRx' _ _ _) (by show 0 + 3 ≤ 3; omega) H1.out ?_; intro w5 hX5 hg5; have HX5 : Hid (Blk w5 (w.heap.size + 1) #[.int .i64 k, .slice A3 s.length c3, .slice K4 ks.length ck4] TRx) := hX5; have HG5 := Lib.hid hg5; clear hX5 hg5))
  refine bodyPost_ret (results_cell_row rfl _ _ (w.heap.size + 1) TRx _ (0, 0) _ rfl HX5.out.eq Tryd.underlying36 rfl (by rw [sizeRx]; rfl)) rfl ⟨_, _, _, rfl, HV.out.stay fun q hq => HG5.out.block q (HV.out.lt q hq) fun e => ?_, HND.out, fun b hb => by have := HFF.out b hb; omega, HB6.out.grown HG5.out HB6.out.size (fun q hq => by injection hq with hq; omega)⟩
  injection e with e
  have := HFF.out q hq
  omega

theorem toRex_v (r : Rex) (v1 v2 : Value) (w : World) (lo : Nat) (h : RexV w lo r (.int .i64 r.kind) v1 v2) (hx : r.size ≤ 1048576) :
    Calls Tryd.prog 16 #[.agg #[.int .i64 r.kind, v1, v2]] w fun e w' => ∃ u1 u2, e = .returned (.agg #[.int .i64 r.kind, u1, u2]) ∧ RexV w' w.heap.size r (.int .i64 r.kind) u1 u2 ∧ Below w.heap.size w w' :=
  (toRex_c r v1 v2 w lo h hx).mono fun e w' ⟨u1, u2, fp, he, ho, _, hf, hb⟩ => ⟨u1, u2, he, ho.rexv _ hf, hb⟩

end Go.Proofs.YtlchipjckgaclaaDoor

/- copied, at trees and at lists of spans: the same cells in new memory. -/
namespace Go.Proofs.YtlchipjckgaclaaDoor
set_option linter.unusedSimpArgs false
set_option linter.unusedVariables false
set_option maxRecDepth 100000
open Go.RowKit

abbrev TSS : Nat := 25
theorem infoSS : (Tryd.prog.info? TSS).map (fun i => (i.zero, i.size, i.bytes)) = some (some nilS, 1, 24) := by kernel_rfl
theorem sizeSS : (Tryd.prog.info? TSS).map (·.size) = some 1 := by kernel_rfl

set_option maxHeartbeats 1000000 in
theorem copiedRex_c (A : Option Addr) (c n : Nat) (cs : List Value) (w : World) {lo : Nat} (h : Row w lo A cs) (hn : cs.length = n * 3) (h1 : ∀ u ∈ cs, u.oneCell' = true) (hx : n ≤ 1073741824) :
    Calls Tryd.prog 92 #[.slice A n c] w fun e w' => ∃ v, e = .returned v ∧ w'.ownsRow w.heap.size TRx 3 v n cs ∧ Below w.heap.size w w' := by
  by_cases h0 : n = 0
  · subst h0
    go_enter Tryd.func92, Tryd.ntmps92
    go_wp2
    go_ret
    have : cs = [] := by simpa using hn
    subst this
    exact ⟨_, rfl, World.ownsRow_nil _ _ _ _, Below.refl _ _⟩
  · obtain ⟨i0, hi, hz0, hz1, hz2⟩ := info_parts infoRx
    have b0 : ((n : Int) == 0) = false := by simp [h0]
    have h0' : 0 < n := by omega
    clear h0
    rcases h with rfl | ⟨ad, rfl, _, hc⟩
    · simp at hn; omega
    have HN : Hid (cs.length = n * 3) := hn
    clear hn
    go_enter Tryd.func92, Tryd.ntmps92
    go_wp2_with (first
      | (at_make; refine wpList_make_full _ rfl (.tmp 8) (.tmp 8) 34 rfl w.heap.size TRx i0 (.agg #[.int .i64 0, nilS, nilS]) 3 Tryd.underlying34 hi hz0 hz1 .i64 .i64 _ _ n rfl rfl rfl rfl (by rw [hz2]; omega) (by unfold maxLen; omega) (Nat.le_refl _) ?_; intro w1 hown hgrow; obtain ⟨cur, hB, hsz, _⟩ := own_blk hown; have hb1 := (Below.refl _ w).grown hgrow (Nat.le_refl _) (fun k hk => by cases hk); have hc1 := hc.below hb1; clear hown hgrow; have HS : Hid (cur.size = n * 3) := hsz; clear hsz)
      | (with_reducible refine ev_copy (o := ⟨some 12, _, _, _, _, _⟩) rfl (.tmp 10) (.tmp 11) _ _ rfl TRx Tryd.underlying34 3 sizeRx w.heap.size n n _ ad rfl rfl cur TRx hB cs HN.out hc1 (by rw [HN.out, HS.out]; exact Nat.le_refl _) h1 ?_; intro w2 hB2 hg2))
    go_ret
    have e : cur.toList.drop cs.length = [] := List.drop_of_length_le (by rw [Array.length_toList, HN.out, HS.out]; exact Nat.le_refl _)
    rw [e, List.append_nil] at hB2
    exact ⟨_, rfl, own_of_blk hB2 HN.out (Nat.le_refl _) (by unfold maxLen; omega), hb1.grown hg2 hb1.size (fun k hk => by injection hk with hk; omega)⟩
end Go.Proofs.YtlchipjckgaclaaDoor

/- copied, at spans: the same cells in new memory. -/
namespace Go.Proofs.YtlchipjckgaclaaDoor
set_option linter.unusedSimpArgs false
set_option linter.unusedVariables false
set_option maxRecDepth 100000
open Go.RowKit

theorem sizeSp : (Tryd.prog.info? TSp).map (·.size) = some 2 := by kernel_rfl
/-- a row copied: the same cells in new memory -/
theorem copiedSpan_c (A : Option Addr) (c n : Nat) (cs : List Value) (w : World) {lo : Nat} (h : Row w lo A cs) (hn : cs.length = n * 2) (h1 : ∀ u ∈ cs, u.oneCell' = true) (hx : n * 16 ≤ 140737488355328) :
    Calls Tryd.prog 66 #[.slice A n c] w fun e w' => ∃ v, e = .returned v ∧ w'.ownsRow w.heap.size TSp 2 v n cs ∧ Below w.heap.size w w' := by
  by_cases h0 : n = 0
  · subst h0
    go_enter Tryd.func66, Tryd.ntmps66
    go_wp2
    go_ret
    have : cs = [] := by simpa using hn
    subst this
    exact ⟨_, rfl, World.ownsRow_nil _ _ _ _, Below.refl _ _⟩
  · obtain ⟨i0, hi, hz0, hz1, hz2⟩ := info_parts infoSp
    have b0 : ((n : Int) == 0) = false := by simp [h0]
    have h0' : 0 < n := by omega
    clear h0
    rcases h with rfl | ⟨ad, rfl, _, hc⟩
    · simp at hn; omega
    have HN : Hid (cs.length = n * 2) := hn
    clear hn
    go_enter Tryd.func66, Tryd.ntmps66
    go_wp2_with (first
      | (at_make; refine wpList_make_full _ rfl (.tmp 8) (.tmp 8) 25 rfl w.heap.size TSp i0 (.agg #[.int .i64 0, .int .i64 0]) 2 Tryd.underlying25 hi hz0 hz1 .i64 .i64 _ _ n rfl rfl rfl rfl (by rw [hz2]; omega) (by unfold maxLen; omega) (Nat.le_refl _) ?_; intro w1 hown hgrow; obtain ⟨cur, hB, hsz, _⟩ := own_blk hown; have hb1 := (Below.refl _ w).grown hgrow (Nat.le_refl _) (fun k hk => by cases hk); have hc1 := hc.below hb1; clear hown hgrow; have HS : Hid (cur.size = n * 2) := hsz; clear hsz)
      | (with_reducible refine ev_copy (o := ⟨some 12, _, _, _, _, _⟩) rfl (.tmp 10) (.tmp 11) _ _ rfl TSp Tryd.underlying25 2 sizeSp w.heap.size n n _ ad rfl rfl cur TSp hB cs HN.out hc1 (by rw [HN.out, HS.out]; exact Nat.le_refl _) h1 ?_; intro w2 hB2 hg2))
    go_ret
    have e : cur.toList.drop cs.length = [] := List.drop_of_length_le (by rw [Array.length_toList, HN.out, HS.out]; exact Nat.le_refl _)
    rw [e, List.append_nil] at hB2
    exact ⟨_, rfl, own_of_blk hB2 HN.out (Nat.le_refl _) (by unfold maxLen; omega), hb1.grown hg2 hb1.size (fun k hk => by injection hk with hk; omega)⟩

end Go.Proofs.YtlchipjckgaclaaDoor
