/- Marks and holds of results in memory. -/
import Derived.Test.YtlchipjckgaclaaDoorW3
namespace Go.Proofs.YtlchipjckgaclaaDoor
set_option linter.unusedSimpArgs false
set_option linter.unusedVariables false
set_option maxRecDepth 100000
open Go.RowKit

theorem OwnSp.row {w : World} {base c : Nat} {A : Option Addr} {xs ys : List Sp} (h : OwnSp w base (.slice A xs.length c) ys) : Sps w base A c ys := by
  obtain ⟨A', c', e, s⟩ := h.sps
  injection e with e1 e2 e3
  subst e1 e3
  exact s
theorem OwnSp.moved {w w1 : World} {base : Nat} {v : Value} {xs : List Sp} (h : OwnSp w base v xs) (hm : ∀ k, v.ownBlock = some k → w1.heap[k]? = w.heap[k]?) : OwnSp w1 base v xs := ⟨own_move h.own hm, h.len⟩
theorem held2_c (A : Option Addr) (c : Nat) (xs : List Sp) (q : Int) (w : World) {base : Nat} (h : OwnSp w base (.slice A xs.length c) (markSps q xs)) (h0 : 0 ≤ q) (h1 : q ≤ 1073741824) (hx : xs.length ≤ 1073741824) :
    Calls Tryd.prog 29 #[.slice A xs.length c, .int .i64 q] w fun e w' => e = .returned (.int .i64 (q + 2 * (xs.length : Int))) ∧ Drawn w w' := by
  have := heldSpanS_c A c (markSps q xs) xs q w rfl h.row h0 h1 (by rw [markSps_length]; exact hx)
  rw [markSps_length] at this
  exact this
theorem spansOf_len (f : Nat → Bool) : (spansOf f).length ≤ 256 := spansTo_length f 256
theorem setJoin_len (xs ys : List Sp) : (setJoin xs ys).length ≤ 256 := by
  unfold setJoin; split
  · exact spansOf_len _
  · simp
theorem setMeet_len (xs ys : List Sp) : (setMeet xs ys).length ≤ 256 := by
  unfold setMeet; split
  · exact spansOf_len _
  · simp
theorem setNot_len (xs : List Sp) : (setNot xs).length ≤ 256 := by
  unfold setNot; split
  · exact spansOf_len _
  · simp

end Go.Proofs.YtlchipjckgaclaaDoor
