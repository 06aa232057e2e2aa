/- The row and the tied card of FnExactSetText. -/
import Derived.Test.YtlchipjckgaclaaDoorRows
import Derived.Test.YtlchipjckgaclaaDoorCards
import Derived.Test.YtlchipjckgaclaaDoorTie
import Derived.Test.YtlchipjckgaclaaDoorArgs
import Derived.Test.YtlchipjckgaclaaDoorLawSetText
import Derived.ProofKit
import Derived.LaidMore
import Derived.OpenShut
import Derived.Stop.Joined
import Derived.Lib.LaidTab
import Derived.SevenTiedAt
namespace Go.Proofs.YtlchipjckgaclaaDoor.rowSetText
set_option linter.unusedSimpArgs false
set_option linter.unusedVariables false
set_option maxRecDepth 100000
open Go.RowKit Go.ChangeShapes Go.WideShapes Go.ChangeAt

/-- a slice of the laws' spans, read: with the bounds of its numbers -/
theorem open_spans64 {H : Type} {enc : TypeId × Value → H} {w : World} {spare : Nat → Bool} {held : Bool} {fuel : Nat} {cs : List Value} {x : DataW H × List MemPlace}
    (h : DataW.trod enc Tryd.prog w 0 spare held fuel 22 cs = some x) : ∃ A c xs, cs = [.slice A (List.length xs) c] ∧ Sps w 0 A c xs ∧ sp64 xs := by
  rcases Go.Deep.open_slice_pairs Tryd.underlying22 Tryd.underlying62 (by kernel_rfl) rfl rfl (by kernel_rfl) (by kernel_rfl) h with ⟨rfl, _⟩ | ⟨a, len, cap, m, n, V0, V1, D0, D1, P0, P1, rfl, _, hl, hm, hmm, _, hx⟩
  · exact ⟨none, 0, [], rfl, ⟨.inl rfl, Nat.le_refl _, by simp⟩, fun x hx => by simp at hx⟩
  · have hlm : len ≤ m := by rw [hmm]; split <;> omega
    have wf64 : ∀ n : Int, (Lit.int .i64 n).wf = true → in64 n := fun n hn => by
      simp only [Lit.wf, Bool.and_eq_true, decide_eq_true_eq] at hn
      have m1 : IntKind.i64.min = -9223372036854775808 := by decide +kernel
      have m2 : IntKind.i64.max = 9223372036854775807 := by decide +kernel
      exact ⟨by rw [← m1]; exact hn.1, by rw [← m2]; exact hn.2⟩
    have g : ∀ i, i < len → ∃ p : Sp, (w.cell? (a.add (i * 2)) = some (.int .i64 p.lo) ∧ w.cell? (a.add (i * 2 + 1)) = some (.int .i64 p.hi)) ∧ in64 p.lo ∧ in64 p.hi := by
      intro i hi
      obtain ⟨h0, h1, t0, t1⟩ := hx i (by omega)
      obtain ⟨n0, e0, _, f0⟩ := DataW.trod_int Tryd.underlying3 t0
      obtain ⟨n1, e1, _, f1⟩ := DataW.trod_int Tryd.underlying3 t1
      rw [List.cons.injEq] at e0 e1
      exact ⟨⟨n0, n1⟩, ⟨by rw [h0, e0.1], by rw [h1, e1.1]⟩, wf64 _ f0, wf64 _ f1⟩
    obtain ⟨f, hf⟩ := Go.Deep.choose_lt (α := Sp) g
    refine ⟨some a, cap, (List.range len).map f, by rw [List.length_map, List.length_range], ⟨?_, by rw [List.length_map, List.length_range]; exact hl, by rw [List.length_map, List.length_range]; unfold maxLen at hm; unfold maxN; omega⟩, fun x hx => ?_⟩
    · rcases Nat.eq_zero_or_pos len with h0 | hpos
      · subst h0
        exact .inl rfl
      · refine .inr ⟨a, rfl, Nat.zero_le _, cellsAt_spans fun i hi => ?_⟩
        have hi' : i < len := by simpa using hi
        have e : ((List.range len).map f).getD i default = f i := by simp [List.getD_eq_getElem?_getD, hi']
        rw [e]
        exact (hf i hi').1
    · obtain ⟨i, hi, rfl⟩ := List.mem_map.1 hx
      exact (hf i (List.mem_range.1 hi)).2
/-- the listed variables without the first -/
theorem laid_tail {P : Program} {x : String × DataW Unit} {rest : List (String × DataW Unit)} {w : World} (h : laidMet P (x :: rest) w) : laidMet P rest w := by
  obtain ⟨ps, ⟨g', t', cs, fuel, p, q, hg', ht', hvar, hd, hr, hps⟩, hnd, hall⟩ := h
  subst hps
  exact ⟨q, hr, (List.nodup_append.1 hnd).2.1, fun b off hm => hall b off (List.mem_append_right _ hm)⟩
theorem pow_of_laid {W : World} (h : laidMetH Tryd.prog Rows.fnExactSetTextRow.laid W) : Pow10 W := by
  rw [MakeChecks.laidMetH_plain _ _ _ (by kernel_rfl)] at h
  have h3 := laid_tail (laid_tail h)
  exact Lib.tabIs_of_head (k := .u64) (zs := Lib.pow10Tab) (g := 1) (t := 132) (e := 118) (n := 20) (by kernel_rfl) (by kernel_rfl) Tryd.underlying132 Tryd.underlying118 (by kernel_rfl) (by kernel_rfl) h3
theorem door_met (os : Os) (args : Array Value) : laidMetH Tryd.prog Rows.fnExactSetTextRow.laid ((World.doorLaid Tryd.prog 400 os).forCall (fun _ _ => 0) ⟨#[], args, []⟩).memory :=
  laidMetH_of_parts3 (fuel := 8) (laidMet_of_run' 8 (by kernel_rfl) (by kernel_rfl)) (by kernel_rfl) (by kernel_rfl)

set_option maxRecDepth 100000 in
theorem lifted (os : Os) (started : os.Started) (H : Type) (enc : TypeId × Value → H) :
    ReturnsInHanded {} Tryd.checked os 3 .any (fun w args => (Rows.fnExactSetTextSpec.pre enc Tryd.prog Tryd.f3 [] false w args ∧ laidMetH Tryd.prog Rows.fnExactSetTextRow.laid w) ∧ sizedMet enc Tryd.prog Tryd.f3 (OpenSpec.ofChange Rows.fnExactSetTextSpec) false w args)
      (Rows.fnExactSetTextSpec.post enc Tryd.prog Tryd.f3 false true false false) := by
  refine returnsInHanded_of_change_and (C := Tryd.checked) (X := fun w _ => laidMetH Tryd.prog Rows.fnExactSetTextRow.laid w) (fun _ _ _ hh h => h.of_heap hh) own_knob started (by kernel_rfl) Tryd.func3
    (ChangeSpec.witness_shaped (enc := enc) (C := Tryd.checked) (os := os) (X := fun w _ => laidMetH Tryd.prog Rows.fnExactSetTextRow.laid w) false (World.doorLaid Tryd.prog 400 os) #[.slice none 0 0] 8 rfl (World.shaped_of_RefB (by kernel_rfl) (by kernel_rfl)) (by kernel_rfl) (by kernel_rfl) (by kernel_rfl) (door_met os _)) ?_
  intro W base args ds gs before hval0 hW _ _ hL _
  have hval : ∀ (j : Nat) t v, Tryd.f3.params[j]? = some t → args[j]? = some v → Value.okWide Tryd.prog W .any base t v := hval0
  have hW' := hW
  obtain ⟨p, q, hA0, hV, rfl, hfz, hnd⟩ := hW
  have hA : DataW.TrodAll enc Tryd.prog W 0 (fun _ => true) true Tryd.f3.params.toList args.toList ds p := hA0
  rw [Tryd.params3] at hA hval
  obtain ⟨v0, vs0, d0, ds0, p0, q0, hargs, rfl, rfl, h0, r0⟩ := trodAll_cons hA
  obtain ⟨rfl, rfl, rfl⟩ := trodAll_nil r0
  obtain rfl : args = #[v0] := by cases args; simp_all
  obtain ⟨rfl, rfl⟩ := trodVars_none hV
  obtain ⟨a0, n0, c0, rfl⟩ := okWide_slice Tryd.underlying22 (hval 0 22 v0 rfl rfl)
  have k0 := h0
  have lt0 : ∀ x ∈ p0, x.block < W.heap.size := by obtain ⟨m, hm⟩ := k0; exact DataW.trod_lt m _ _ _ hm
  obtain ⟨fuel0, hf0⟩ := h0
  obtain ⟨A0, c0', xs0, e0, s0, s64⟩ := open_spans64 hf0
  simp [Value.cells] at e0
  obtain ⟨rfl, rfl, rfl⟩ := e0
  clear hA0 hval0
  refine (exSetText_c a0 c0 xs0 W s0 s64 (pow_of_laid hL)).mono fun e W' ⟨he, bel⟩ => ?_
  subst he
  exact ⟨_, rfl, _, _, _, [], _, [], hW', trodAll_mk1 (shut_bool Tryd.underlying4 _), (trodAll_cons_mk (Below.trod laid_out (by kernel_rfl) (of_decide_eq_true (by kernel_rfl)) k0 bel lt0) trodAll_mk0), rfl, bel.frame _, fun h => by cases h⟩
theorem over : Rows.fnExactSetTextRow.holds Tryd.pinned (OpenSpec.ofChange Rows.fnExactSetTextSpec) :=
  OpenClaim.holds_of_wide 3 Tryd.f3 rfl rfl rfl rfl rfl rfl rfl ⟨rfl, rfl, rfl, rfl, rfl⟩ rfl rfl rfl rfl rfl (by kernel_rfl) Tryd.func3 (by kernel_rfl)
    (of_decide_eq_true (by kernel_rfl)) (by unfold Func.isWrapper; first | (rw [if_pos (by decide +kernel)]; kernel_rfl) | (rw [if_neg (by decide +kernel)]; exact ⟨rfl, rfl⟩))
    (fun os started H enc _ => lifted os started H enc)

/-- THE TIED CARD. -/
theorem card : Rows.FnExactSetTextCardSaid :=
  Claim7.holds_tied_plain_at .later [] [.data, .data, .data] true Rows.fnExactSetTextCard.stood.harness false
    over (fun _ h => by cases h) (by kernel_rfl) (fun _ h => by cases h) fnExactSetText_row_tie rfl ⟨rfl, rfl⟩ (by kernel_rfl) rfl
    (fun f fn hf hfn => by
      obtain rfl : f = 3 := Option.some.inj ((show Tryd.prog.funcNamed "loop.example/carding/laws.FnExactSetText" = some 3 by kernel_rfl).symm.trans hf) |>.symm
      obtain rfl : fn = Tryd.f3 := (Option.some.inj (Tryd.func3.symm.trans hfn)).symm
      exact ⟨by kernel_rfl, fun j t ht => by
        rw [Tryd.params3] at ht
        have hm : t ∈ [22] := by simpa using Array.mem_of_getElem? ht
        have hall : ([22].all fun u => !Tryd.prog.wantsStandIn u) = true := by kernel_rfl
        exact (show Tryd.prog.wantsStandIn t = false by simpa using List.all_eq_true.1 hall t hm)⟩)
    (by kernel_rfl)
end Go.Proofs.YtlchipjckgaclaaDoor.rowSetText
namespace Go.Proofs.YtlchipjckgaclaaDoor
theorem fnExactSetText_holds : Rows.FnExactSetTextCardSaid := rowSetText.card
end Go.Proofs.YtlchipjckgaclaaDoor
