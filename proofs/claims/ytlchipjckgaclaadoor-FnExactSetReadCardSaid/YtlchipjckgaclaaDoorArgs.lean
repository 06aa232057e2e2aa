/- The laws' arguments, out of the form's reading: a list of spans. -/
import Derived.Test.YtlchipjckgaclaaDoorOwn
import Derived.ProofKit
import Derived.OpenShut
import Derived.ShutString
import Derived.ChangeOld
import Derived.SizedLaws
import Derived.Deep.SlicePairs
namespace Go.Proofs.YtlchipjckgaclaaDoor
set_option linter.unusedSimpArgs false
set_option linter.unusedVariables false
set_option maxRecDepth 100000
open Go.RowKit Go.ChangeShapes Go.WideShapes

theorem own_knob : ownKnob Tryd.prog.godebug = none := by kernel_rfl
theorem laid_out : laidOutB Tryd.prog = true := by kernel_rfl

theorem cellsAt_spans {w : World} {a : Addr} {xs : List Sp} (h : ∀ i, i < xs.length → w.cell? (a.add (i * 2)) = some (.int .i64 (xs.getD i default).lo) ∧ w.cell? (a.add (i * 2 + 1)) = some (.int .i64 (xs.getD i default).hi)) : CellsAt w a (spcs xs) := by
  intro j u hj
  have hlt : j < xs.length * 2 := by
    rw [← spcs_length]
    exact (List.getElem?_eq_some_iff.1 hj).1
  have hg := spcs_get xs (j / 2) (by omega)
  have hc := h (j / 2) (by omega)
  rcases Nat.mod_two_eq_zero_or_one j with e | e
  · have ej : j / 2 * 2 = j := by omega
    rw [ej] at hg hc
    rw [hg.1] at hj
    rw [hc.1, hj]
  · have ej : j / 2 * 2 + 1 = j := by omega
    rw [ej] at hg hc
    rw [hg.2] at hj
    rw [hc.2, hj]

/-- a slice of the laws' spans, read -/
theorem open_spans {H : Type} {enc : TypeId × Value → H} {w : World} {spare : Nat → Bool} {held : Bool} {fuel : Nat} {cs : List Value} {x : DataW H × List MemPlace}
    (h : DataW.trod enc Tryd.prog w 0 spare held fuel 22 cs = some x) : ∃ A c xs, cs = [.slice A (List.length xs) c] ∧ Sps w 0 A c xs := by
  rcases Go.Deep.open_slice_pairs Tryd.underlying22 Tryd.underlying62 (by kernel_rfl) rfl rfl (by kernel_rfl) (by kernel_rfl) h with ⟨rfl, _⟩ | ⟨a, len, cap, m, n, V0, V1, D0, D1, P0, P1, rfl, _, hl, hm, hmm, _, hx⟩
  · exact ⟨none, 0, [], rfl, .inl rfl, Nat.le_refl _, by simp⟩
  · have hlm : len ≤ m := by rw [hmm]; split <;> omega
    have g : ∀ i, i < len → ∃ p : Sp, w.cell? (a.add (i * 2)) = some (.int .i64 p.lo) ∧ w.cell? (a.add (i * 2 + 1)) = some (.int .i64 p.hi) := by
      intro i hi
      obtain ⟨h0, h1, t0, t1⟩ := hx i (by omega)
      obtain ⟨n0, e0, _⟩ := DataW.trod_int Tryd.underlying3 t0
      obtain ⟨n1, e1, _⟩ := DataW.trod_int Tryd.underlying3 t1
      rw [List.cons.injEq] at e0 e1
      exact ⟨⟨n0, n1⟩, by rw [h0, e0.1], by rw [h1, e1.1]⟩
    obtain ⟨f, hf⟩ := Go.Deep.choose_lt (α := Sp) g
    refine ⟨some a, cap, (List.range len).map f, by rw [List.length_map, List.length_range], ?_, by rw [List.length_map, List.length_range]; exact hl, by rw [List.length_map, List.length_range]; unfold maxLen at hm; unfold maxN; omega⟩
    rcases Nat.eq_zero_or_pos len with h0 | hpos
    · subst h0
      exact .inl rfl
    · refine .inr ⟨a, rfl, Nat.zero_le _, cellsAt_spans fun i hi => ?_⟩
      have hi' : i < len := by simpa using hi
      have e : ((List.range len).map f).getD i default = f i := by simp [List.getD_eq_getElem?_getD, hi']
      rw [e]
      exact hf i hi'

end Go.Proofs.YtlchipjckgaclaaDoor
