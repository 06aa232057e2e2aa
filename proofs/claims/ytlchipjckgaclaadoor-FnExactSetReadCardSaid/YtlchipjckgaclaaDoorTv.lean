/- Patterns as texts: plain. -/
import Derived.Test.YtlchipjckgaclaaDoorTy
import Derived.Test.YtlchipjckgaclaaDoorT10
namespace Go.Proofs.YtlchipjckgaclaaDoor
set_option linter.unusedSimpArgs false
set_option linter.unusedVariables false
set_option maxRecDepth 100000

/-- the word of a kind -/
def kw (k : Int) : List UInt8 :=
  if k = 1 then [115, 101, 116] else if k = 2 then [101, 109, 112, 116, 121] else if k = 3 then [99, 97, 116] else if k = 4 then [111, 114] else if k = 5 then [115, 116, 97, 114] else if k = 6 then [97, 110, 100] else if k = 7 then [110, 111, 116] else []
mutual
def wordsOf : Rex → List (List UInt8)
  | .mk k s ks => kw k :: ((if k = 1 then [setTxt s] else []) ++ wordsL ks)
def wordsL : List Rex → List (List UInt8)
  | [] => []
  | r :: rs => wordsOf r ++ wordsL rs
end
def rexTxt (r : Rex) : List UInt8 := Lib.join (wordsOf r) [32]
theorem wordsL_take {ks : List Rex} {j : Nat} {r : Rex} (h : ks[j]? = some r) : wordsL (ks.take (j + 1)) = wordsL (ks.take j) ++ wordsOf r := by
  induction ks generalizing j with
  | nil => simp at h
  | cons x xs ih =>
    cases j with
    | zero =>
      obtain rfl := Option.some.inj h
      simp [wordsL]
    | succ j => rw [List.take_succ_cons, List.take_succ_cons, wordsL, wordsL, ih (by simpa using h), List.append_assoc]
theorem tail_join (w : List UInt8) (ws : List (List UInt8)) : Lib.joinTail [32] (w :: ws) = 32 :: Lib.join (w :: ws) [32] := by
  rw [Lib.join_cons]
  simp [Lib.joinTail]
theorem tail_app (a b : List (List UInt8)) : Lib.joinTail [32] (a ++ b) = Lib.joinTail [32] a ++ Lib.joinTail [32] b := by simp [Lib.joinTail]
theorem tail_words (r : Rex) : Lib.joinTail [32] (wordsOf r) = 32 :: rexTxt r := by
  obtain ⟨k, s, ks⟩ := r
  unfold rexTxt
  rw [wordsOf]
  exact tail_join _ _
/-- the kids' texts -/
def kidTxts : List Rex → List UInt8
  | [] => []
  | r :: rs => 32 :: (rexTxt r ++ kidTxts rs)
theorem tail_wordsL : ∀ ks : List Rex, Lib.joinTail [32] (wordsL ks) = kidTxts ks
  | [] => rfl
  | r :: rs => by rw [wordsL, tail_app, tail_words, tail_wordsL rs, kidTxts]; simp
theorem kidTxts_take {ks : List Rex} {j : Nat} {r : Rex} (h : ks[j]? = some r) : kidTxts (ks.take (j + 1)) = kidTxts (ks.take j) ++ (32 :: rexTxt r) := by
  rw [← tail_wordsL, ← tail_wordsL, wordsL_take h, tail_app, tail_words]
theorem rexTxt_set (s : List Sp) : rexTxt (.mk 1 s []) = (kw 1 ++ [32]) ++ setTxt s := by
  unfold rexTxt
  rw [wordsOf, if_pos rfl, wordsL, List.append_nil, Lib.join_cons]
  simp [Lib.joinTail]
theorem rexTxt_kids {k : Int} (h : k ≠ 1) (s : List Sp) (ks : List Rex) : rexTxt (.mk k s ks) = kw k ++ kidTxts ks := by
  unfold rexTxt
  rw [wordsOf, if_neg h, List.nil_append, Lib.join_cons, tail_wordsL]
theorem kw_len (k : Int) : (kw k).length ≤ 5 := by
  unfold kw
  repeat' split
  all_goals decide
/-- the sets of a right tree -/
theorem ok_go {p : Option Int} : ∀ {xs : List Sp}, setOkGo p xs = true → ∀ x ∈ xs, 0 ≤ x.lo ∧ x.lo ≤ x.hi ∧ x.hi ≤ 255
  | [], _, x, h => by simp at h
  | y :: ys, h, x, hx => by
    rw [setOkGo, Bool.and_eq_true] at h
    rcases List.mem_cons.1 hx with rfl | hx
    · have h1 := h.1
      simp [spBad] at h1
      omega
    · exact ok_go h.2 x hx
theorem ok_64 {xs : List Sp} (h : setOk xs = true) : sp64 xs := fun x hx => by
  have := ok_go (show setOkGo none xs = true from h) x hx
  unfold in64
  omega

end Go.Proofs.YtlchipjckgaclaaDoor
