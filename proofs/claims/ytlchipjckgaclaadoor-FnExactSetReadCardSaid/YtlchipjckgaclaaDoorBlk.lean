/- Blocks in memory: laid, stored and read whole. -/
import Derived.Test.YtlchipjckgaclaaDoorOwn
namespace Go.Proofs.YtlchipjckgaclaaDoor
set_option linter.unusedSimpArgs false
set_option linter.unusedVariables false
set_option maxRecDepth 100000
open Go.RowKit

/-- block g holds the cells cs, none of them frozen -/
structure Blk (w : World) (g : Nat) (cs : Array Value) (t : TypeId) : Prop where
  eq : w.heap[g]? = some (.cells cs t (0, 0))
theorem Blk.lt {w : World} {g : Nat} {cs : Array Value} {t : TypeId} (h : Blk w g cs t) : g < w.heap.size := (Array.getElem?_eq_some_iff.1 h.eq).1
theorem Blk.below {w w1 : World} {g : Nat} {cs : Array Value} {t : TypeId} (h : Blk w g cs t) (hb : Below w.heap.size w w1) : Blk w1 g cs t := ⟨(hb.block g h.lt).trans h.eq⟩
theorem Blk.set {w : World} {g : Nat} {cs : Array Value} {t : TypeId} (h : Blk w g cs t) (i : Nat) (u : Value) : Blk (w.setCell ⟨g, i, none⟩ u) g (cs.setIfInBounds i u) t := ⟨heap_setCell_same w g i cs t u h.eq⟩
theorem Blk.far {w : World} {g : Nat} {cs : Array Value} {t : TypeId} (h : Blk w g cs t) {p : Addr} (hp : g ≠ p.block) (u : Value) : Blk (w.setCell p u) g cs t := ⟨(Below.heap_setCell w p u g hp).trans h.eq⟩
theorem Blk.cell {w : World} {g : Nat} {cs : Array Value} {t : TypeId} (h : Blk w g cs t) (i : Nat) : w.cell? ⟨g, i, none⟩ = cs[i]? := cell_of_row w g i cs t (0, 0) h.eq
theorem Blk.free {w : World} {g : Nat} {cs : Array Value} {t : TypeId} (h : Blk w g cs t) (i : Nat) : w.frozen? ⟨g, i, none⟩ = false := by simp [World.frozen?, h.eq]
theorem Blk.grown {w w1 : World} {g : Nat} {cs : Array Value} {t : TypeId} (h : Blk w g cs t) {row : Option Nat} (hg : w.grownBy w1 row) (hr : ∀ k, row = some k → k ≠ g) : Blk w1 g cs t := ⟨(hg.block g h.lt (fun e => hr g e.symm rfl)).trans h.eq⟩
theorem Blk.alloc {w : World} {g : Nat} {cs : Array Value} {t : TypeId} (h : Blk w g cs t) (o : Obj) : Blk (w.alloc o) g cs t := h.below (below_alloc (Below.refl _ _) o)
theorem blk_new (w : World) (cs : Array Value) (t : TypeId) : Blk (w.alloc (.cells cs t)) w.heap.size cs t := ⟨heap_alloc_new w _⟩

theorem own_blk {w : World} {base g n cap size : Nat} {e : TypeId} {cs : List Value} (h : w.ownsRow base e size (.slice (some ⟨g, 0, none⟩) n cap) n cs) : ∃ cur : Array Value, Blk w g cur e ∧ cur.size = cap * size ∧ n ≤ cap ∧ base ≤ g ∧ cap ≤ maxLen ∧ cur.toList.take (n * size) = cs := by
  rcases h.2 with ⟨h0, _⟩ | ⟨g', cap', cur, h0, hg, hh, hnc, hcm, hcs, ht⟩
  · simp at h0
  · simp only [Value.slice.injEq, Option.some.injEq, Addr.mk.injEq, and_true, true_and] at h0
    obtain ⟨rfl, rfl⟩ := h0
    exact ⟨cur, ⟨hh⟩, hcs, hnc, hg, hcm, ht⟩
theorem own_of_blk {w : World} {base g n size : Nat} {e : TypeId} {cs : List Value} (h : Blk w g cs.toArray e) (hl : cs.length = n * size) (hb : base ≤ g) (hn : n ≤ maxLen) : w.ownsRow base e size (.slice (some ⟨g, 0, none⟩) n n) n cs :=
  ⟨hl, .inr ⟨g, n, cs.toArray, rfl, hb, h.eq, Nat.le_refl _, hn, by simpa using hl, by rw [← hl]; simp⟩⟩

section
variable {P : Program} {ops : Array Oper} {rest : List Oper} {o : Oper} {a : Act} {w : World} {Q : Exit → Act → World → Prop}

/-- a new variable of a type with many cells -/
theorem ev_alloc (hgd : o.guard = none) (t : TypeId) (ho : o.op = .alloc t) (cs : Array Value) (hz : (P.info? t).map (·.zero) = some (some (.agg cs)))
    (h : ∀ g w1, g = w.heap.size → Blk w1 g cs t → Below w.heap.size w w1 → wpList P ops Q rest (a.put o.dst (.pointer (some ⟨g, 0, none⟩))) w1) : wpList P ops Q (o :: rest) a w := by
  refine wpList_plain hgd fun K hK => ?_
  obtain ⟨i, hi, hzz⟩ := Option.map_eq_some_iff.1 hz
  have hrun : (execOp a.eval o).run P w = .ok (.value (.pointer (some ⟨w.heap.size, 0, none⟩))) (w.alloc (.cells cs t (0, 0))) := by
    unfold execOp
    simp only [ho]
    simp [Instr.alloc, zeroValue, typeInfo, hi, hzz, newVar, newRow, Value.cells]
  unfold Oper.wp
  rw [hrun]
  exact hK _ _ (h _ _ rfl (blk_new w cs t) (below_alloc (Below.refl _ _) _))

/-- a value of many cells is boxed -/
theorem ev_box (hgd : o.guard = none) (t : TypeId) (x : Operand) (ho : o.op = .box t x) (cs : Array Value) (hx : a.eval x = .agg cs)
    (h : ∀ g w1, g = w.heap.size → Blk w1 g cs t → Below w.heap.size w w1 → wpList P ops Q rest (a.put o.dst (.pointer (some ⟨g, 0, none⟩))) w1) : wpList P ops Q (o :: rest) a w := by
  refine wpList_plain hgd fun K hK => ?_
  have hrun : (execOp a.eval o).run P w = .ok (.value (.pointer (some ⟨w.heap.size, 0, none⟩))) (w.alloc (.cells cs t (0, 0))) := by
    unfold execOp
    simp only [ho, hx]
    simp [Instr.box, newVar, newRow, Value.cells]
  unfold Oper.wp
  rw [hrun]
  exact hK _ _ (h _ _ rfl (blk_new w cs t) (below_alloc (Below.refl _ _) _))

/-- a variable of many cells is read whole -/
theorem ev_load (hgd : o.guard = none) (t : TypeId) (x : Operand) (ho : o.op = .load t x) (g : Nat) (hx : a.eval x = .pointer (some ⟨g, 0, none⟩)) (cs : List Value) (e : TypeId) (hb : Blk w g cs.toArray e)
    (d : TypeDesc) (hu : P.underlying t = some d) (hd : (match d with | .struct _ | .array _ _ => true | _ => false) = true) (hs : (P.info? t).map (·.size) = some cs.length)
    (h : wpList P ops Q rest (a.put o.dst (.agg cs.toArray)) w) : wpList P ops Q (o :: rest) a w :=
  wpList_load_row hgd t x ho g hx e cs.toArray (0, 0) d hb.eq hu hd (by rw [hs]; simp) h

/-- a whole row is copied over another one -/
theorem ev_copy (hgd : o.guard = none) (d s : Operand) (dT sT : TypeId) (ho : o.op = .call { callee := .builtin .copy, args := #[d, s], argTypes := #[dT, sT] }) (elem : TypeId) (hu : P.underlying dT = some (.slice elem)) (size : Nat) (hsz : (P.info? elem).map (·.size) = some size)
    (g n cap sCap : Nat) (ad : Addr) (hd : a.eval d = .slice (some ⟨g, 0, none⟩) n cap) (hs : a.eval s = .slice (some ad) n sCap) (cur : Array Value) (t : TypeId) (hb : Blk w g cur t) (cs : List Value) (hn : cs.length = n * size)
    (hsrc : CellsAt w ad cs) (hfit : cs.length ≤ cur.size) (h1 : ∀ u ∈ cs, u.oneCell' = true)
    (h : ∀ w1, Blk w1 g (cs ++ cur.toList.drop cs.length).toArray t → w.grownBy w1 (some g) → wpList P ops Q rest (a.put o.dst (.int .i64 n)) w1) : wpList P ops Q (o :: rest) a w := by
  refine wpList_plain hgd fun K hK => ?_
  obtain ⟨i, hi, hz⟩ := Option.map_eq_some_iff.1 hsz
  have hl := run_loadCells_list (P := P) w ad cs hsrc
  have hst := run_storeCells_at P g 0 t cs 0 cur w hb.eq (by simpa using hfit) h1
  have hrun : (Builtin.copy_ #[dT, sT] o.type #[.slice (some ⟨g, 0, none⟩) n cap, .slice (some ad) n sCap]).run P w = .ok (goInt n) (w.setRow g (cs ++ cur.toList.drop cs.length).toArray) := by
    simp [Builtin.copy_, run_underlying hu, Builtin.lenOf, Builtin.firstCells, sizeOf, typeInfo, hi, hz, ← hn, hl, hst]
  unfold Oper.wp
  simp [execOp, ho, resolve, invoke, builtin, hd, hs, hrun, Result.andThen]
  exact hK _ _ (h _ ⟨setRow_heap w g cur _ t _ hb.eq⟩ ⟨rfl, rfl, rfl, by simp, fun k _ hk => setRow_other w g k _ (fun e => hk (by rw [e]))⟩)

/-- a value of many cells is stored into a part of a block -/
theorem ev_store (hgd : o.guard = none) (hd : o.dst = none) (t : TypeId) (x v : Operand) (ho : o.op = .store t x v) (g off : Nat) (hx : a.eval x = .pointer (some ⟨g, off, none⟩)) (vs : List Value) (hv : a.eval v = .agg vs.toArray)
    (cur : Array Value) (e : TypeId) (hb : Blk w g cur e) (hs : (P.info? t).map (·.size) = some vs.length) (hfit : off + vs.length ≤ cur.size) (h1 : ∀ u ∈ vs, u.oneCell' = true)
    (h : ∀ w1, Blk w1 g (cur.toList.take off ++ vs ++ cur.toList.drop (off + vs.length)).toArray e → w.grownBy w1 (some g) → wpList P ops Q rest a w1) : wpList P ops Q (o :: rest) a w := by
  refine wpList_plain hgd fun K hK => ?_
  obtain ⟨i, hi, hsz⟩ := Option.map_eq_some_iff.1 hs
  have hst := run_storeCells_at P g off e vs 0 cur w hb.eq (by simpa using hfit) h1
  have hrun : (execOp a.eval o).run P w = .ok .skip (w.setRow g (cur.toList.take off ++ vs ++ cur.toList.drop (off + vs.length)).toArray) := by
    unfold execOp
    simp only [ho, hx, hv]
    simp only [Instr.storeAt, Instr.sureAddr, storeVar, sizeOf, typeInfo, Value.cells]
    simp [hi, hsz, hst]
  unfold Oper.wp
  rw [hrun]
  show K (a.put o.dst undef) _
  rw [hd]
  exact hK _ _ (h _ ⟨setRow_heap w g cur _ e _ hb.eq⟩ ⟨rfl, rfl, rfl, by simp, fun k _ hk => setRow_other w g k _ (fun e => hk (by rw [e]))⟩)
end

end Go.Proofs.YtlchipjckgaclaaDoor
