/- The laws' arguments: a tree. -/
import Derived.Test.YtlchipjckgaclaaDoorTree
import Derived.Test.YtlchipjckgaclaaDoorArgs
namespace Go.Proofs.YtlchipjckgaclaaDoor
set_option linter.unusedSimpArgs false
set_option linter.unusedVariables false
set_option maxRecDepth 100000
open Go.RowKit Go.ChangeShapes Go.WideShapes

theorem cells_int : Tryd.prog.cellsOf 3 = 1 := by kernel_rfl
theorem cells_spans : Tryd.prog.cellsOf 22 = 1 := by kernel_rfl
theorem cells_rexs : Tryd.prog.cellsOf 29 = 1 := by kernel_rfl
theorem cells_rex : Tryd.prog.cellsOf 31 = 3 := by kernel_rfl

theorem add_pos (a : Addr) (n : Nat) (u : Value) (w : World) (h : w.cell? (a.add n) = some u) (hn : 0 < n) : a.add n = ⟨a.block, a.off + n, none⟩ := by
  have := World.cell?_spot h
  unfold Addr.add at this ⊢
  split
  · omega
  · simp_all

set_option maxHeartbeats 1000000 in
theorem open_rex {H : Type} {enc : TypeId × Value → H} {w : World} {spare : Nat → Bool} {held : Bool} : ∀ (fuel : Nat) (cs : List Value) (x : DataW H × List MemPlace),
    DataW.trod enc Tryd.prog w 0 spare held fuel 31 cs = some x → ∃ r v0 v1 v2, cs = [v0, v1, v2] ∧ RexV w 0 r v0 v1 v2 := by
  intro fuel
  induction fuel using Nat.strongRecOn with
  | _ fuel ih =>
    intro cs x h
    obtain ⟨xs, n, rfl, _, hcs, hxl, hf⟩ := DataW.trod_struct Tryd.underlying31 h
    rw [cells_rex] at hcs
    match xs, hxl, cs, hcs with
    | [y0, y1, y2], _, [v0, v1, v2], _ =>
      have g0 := hf 0 _ rfl
      have g1 := hf 1 _ rfl
      have g2 := hf 2 _ rfl
      simp [cells_int, cells_spans, cells_rexs] at g0 g1 g2
      obtain ⟨k, e0, _⟩ := DataW.trod_int Tryd.underlying3 g0
      rw [List.cons.injEq] at e0
      obtain ⟨A, c, s, e1, hs⟩ := open_spans g1
      rw [List.cons.injEq] at e1
      obtain ⟨rfl, _⟩ := e0
      obtain ⟨rfl, _⟩ := e1
      rcases DataW.trod_slice Tryd.underlying29 g2 with ⟨e2, _⟩ | ⟨a, len, cap, elems, rest, m, rfl, e2, _, _, hl, hm, hlen, hel, _, _⟩
      · rw [List.cons.injEq] at e2
        obtain ⟨rfl, _⟩ := e2
        exact ⟨.mk k s [], _, _, _, rfl, .mk k s [] A none c 0 (fun _ => undef) (fun _ => undef) (fun _ => undef) hs (Nat.le_refl _) (Nat.zero_le _) (fun i hi => by simp at hi) (fun i r hi => by simp at hi)⟩
      · rw [List.cons.injEq] at e2
        obtain ⟨rfl, _⟩ := e2
        have each : ∀ i, i < len → ∃ q : Rex × Value × Value × Value, KCell w 0 (some a) i q.2.1 q.2.2.1 q.2.2.2 ∧ RexV w 0 q.1 q.2.1 q.2.2.1 q.2.2.2 := by
          intro i hi
          have h1 := hel i hi
          rw [List.getElem?_eq_getElem (by omega)] at h1
          obtain ⟨cs', h2, h3⟩ := Option.bind_eq_some_iff.1 h1
          obtain ⟨r, u0, u1, u2, rfl, hv⟩ := ih m (by omega) cs' _ h3
          rw [cells_rex] at h2
          obtain ⟨_, _, hcell⟩ := World.cells?_some h2
          have c0 : w.cell? ((a.add (i * 3)).add 0) = some u0 := by simpa using hcell 0 (by omega)
          have c1 : w.cell? ((a.add (i * 3)).add 1) = some u1 := by simpa using hcell 1 (by omega)
          have c2 : w.cell? ((a.add (i * 3)).add 2) = some u2 := by simpa using hcell 2 (by omega)
          rw [show (a.add (i * 3)).add 0 = a.add (i * 3) by simp [Addr.add]] at c0
          rw [add_pos _ _ _ _ c1 (by omega)] at c1
          rw [add_pos _ _ _ _ c2 (by omega)] at c2
          exact ⟨(r, u0, u1, u2), ⟨a, rfl, Nat.zero_le _, c0, c1, c2⟩, hv⟩
        obtain ⟨q, hq⟩ := Go.Deep.choose_lt each
        refine ⟨.mk k s ((List.range len).map fun i => (q i).1), _, _, _, rfl, ?_⟩
        have hlen' : ((List.range len).map fun i => (q i).1).length = len := by simp
        have hv := RexV.of (w := w) (lo := 0) (k := k) (A := A) (c := c) (K := some a) (ck := cap) hs (ks := (List.range len).map fun i => (q i).1) ⟨⟨fun i => (q i).2.1, fun i => (q i).2.2.1, fun i => (q i).2.2.2, fun i hi => (hq i (by omega)).1, fun i r hi => by
          rw [List.getElem?_map, Option.map_eq_some_iff] at hi
          obtain ⟨j, hj, rfl⟩ := hi
          obtain ⟨hj1, hj2⟩ := List.getElem?_eq_some_iff.1 hj
          simp at hj1 hj2
          subst hj2
          exact (hq i hj1).2⟩, by omega, by unfold maxLen at hm; unfold maxN; omega⟩
        rw [hlen'] at hv
        exact hv

end Go.Proofs.YtlchipjckgaclaaDoor
