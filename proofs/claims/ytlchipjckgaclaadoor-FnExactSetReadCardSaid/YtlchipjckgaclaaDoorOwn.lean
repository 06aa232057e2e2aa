/- Rows that a call made: of spans. -/
import Derived.Test.YtlchipjckgaclaaDoorLib
namespace Go.Proofs.YtlchipjckgaclaaDoor
set_option linter.unusedSimpArgs false
set_option linter.unusedVariables false
set_option maxRecDepth 100000
open Go.RowKit

theorem own_below {w w1 : World} {base n size : Nat} {e : TypeId} {v : Value} {cs : List Value} (h : w.ownsRow base e size v n cs) (hb : Below w.heap.size w w1) : w1.ownsRow base e size v n cs := by
  obtain ⟨h1, h2⟩ := h
  refine ⟨h1, ?_⟩
  rcases h2 with h2 | ⟨g, cap, cur, rfl, hg, hh, r⟩
  · exact .inl h2
  · exact .inr ⟨g, cap, cur, rfl, hg, (hb.block g (Array.getElem?_eq_some_iff.1 hh).1).trans hh, r⟩
/-- another block is written -/
theorem own_move {w w1 : World} {base n size : Nat} {e : TypeId} {v : Value} {cs : List Value} (h : w.ownsRow base e size v n cs) (hm : ∀ k, v.ownBlock = some k → w1.heap[k]? = w.heap[k]?) : w1.ownsRow base e size v n cs := by
  obtain ⟨h1, h2⟩ := h
  refine ⟨h1, ?_⟩
  rcases h2 with h2 | ⟨g, cap, cur, rfl, hg, hh, r⟩
  · exact .inl h2
  · exact .inr ⟨g, cap, cur, rfl, hg, (hm g (by simp [Value.ownBlock])).trans hh, r⟩
theorem own_lower {w : World} {base base' n size : Nat} {e : TypeId} {v : Value} {cs : List Value} (h : w.ownsRow base e size v n cs) (hb : base' ≤ base) : w.ownsRow base' e size v n cs := by
  obtain ⟨h1, h2⟩ := h
  refine ⟨h1, h2.imp id ?_⟩
  rintro ⟨g, cap, cur, rfl, hg, r⟩
  exact ⟨g, cap, cur, rfl, Nat.le_trans hb hg, r⟩
/-- what is owned is read -/
theorem own_row {w : World} {base n size : Nat} {e : TypeId} {v : Value} {cs : List Value} (h : w.ownsRow base e size v n cs) : ∃ A c, v = .slice A n c ∧ n ≤ c ∧ Row w base A cs := by
  rcases h.2 with ⟨rfl, rfl⟩ | ⟨g, cap, cur, rfl, hg, hh, hnc, hcm, hcs, ht⟩
  · exact ⟨none, 0, rfl, Nat.le_refl _, .inl (by have := h.1; simpa using this)⟩
  · refine ⟨_, cap, rfl, hnc, .inr ⟨_, rfl, hg, fun j u hj => ?_⟩⟩
    have e0 : (⟨g, 0, none⟩ : Addr).add j = ⟨g, j, none⟩ := by unfold Addr.add; split <;> simp_all
    rw [e0, cell_of_row w g j cur e (0, 0) hh]
    rw [← ht] at hj
    have h2 : j < n * size := by
      rcases Nat.lt_or_ge j (n * size) with h3 | h3
      · exact h3
      · rw [List.getElem?_eq_none (by rw [List.length_take]; omega)] at hj; cases hj
    rw [List.getElem?_take, if_pos h2] at hj
    simpa using hj
/-- it is nil, or lies at the head of its block -/
theorem own_form {w : World} {base n size : Nat} {e : TypeId} {v : Value} {cs : List Value} (h : w.ownsRow base e size v n cs) (hn : 0 < n) : ∃ g cap, v = .slice (some ⟨g, 0, none⟩) n cap ∧ base ≤ g ∧ n ≤ cap := by
  rcases h.2 with ⟨_, rfl⟩ | ⟨g, cap, cur, rfl, hg, _, hnc, _⟩
  · omega
  · exact ⟨g, cap, rfl, hg, hnc⟩

abbrev TSp : Nat := 60
theorem infoSp : (Tryd.prog.info? TSp).map (fun i => (i.zero, i.size, i.bytes)) = some (some (.agg #[.int .i64 0, .int .i64 0]), 2, 16) := by kernel_rfl

structure OwnSp (w : World) (base : Nat) (v : Value) (xs : List Sp) : Prop where
  own : w.ownsRow base TSp 2 v xs.length (spcs xs)
  len : xs.length ≤ maxN
theorem OwnSp.sps {w : World} {base : Nat} {v : Value} {xs : List Sp} (h : OwnSp w base v xs) : ∃ A c, v = .slice A xs.length c ∧ Sps w base A c xs := by
  obtain ⟨A, c, e, hc, hr⟩ := own_row h.own
  exact ⟨A, c, e, hr, hc, h.len⟩
theorem OwnSp.below {w w1 : World} {base : Nat} {v : Value} {xs : List Sp} (h : OwnSp w base v xs) (hb : Below w.heap.size w w1) : OwnSp w1 base v xs := ⟨own_below h.own hb, h.len⟩
theorem OwnSp.lower {w : World} {base base' : Nat} {v : Value} {xs : List Sp} (h : OwnSp w base v xs) (hb : base' ≤ base) : OwnSp w base' v xs := ⟨own_lower h.own hb, h.len⟩
theorem OwnSp.nil (w : World) (base : Nat) : OwnSp w base (.slice none 0 0) [] := ⟨World.ownsRow_nil _ _ _ _, by simp⟩

theorem spcs_append (xs ys : List Sp) : spcs (xs ++ ys) = spcs xs ++ spcs ys := by simp [spcs]
theorem spcs_set (xs : List Sp) : ∀ k a b, ((spcs xs).set (k * 2) (.int .i64 a)).set (k * 2 + 1) (.int .i64 b) = spcs (xs.set k ⟨a, b⟩) := by
  induction xs with
  | nil => intro k a b; simp [spcs]
  | cons x xs ih =>
    intro k a b
    have e : spcs (x :: xs) = .int .i64 x.lo :: .int .i64 x.hi :: spcs xs := rfl
    cases k with
    | zero => simp [e, spcs, spc]
    | succ k =>
      rw [e, show (k + 1) * 2 = k * 2 + 1 + 1 by omega, List.set_cons_succ, List.set_cons_succ, List.set_cons_succ, List.set_cons_succ, ih]
      rfl
theorem spcs_zeros (n : Nat) : (madeCells (Value.agg #[.int .i64 0, .int .i64 0]).cells (n * 2)).toList = spcs (List.replicate n ⟨0, 0⟩) := by
  have e : (Value.agg #[.int .i64 0, .int .i64 0]).cells = #[.int .i64 0, .int .i64 0] := rfl
  rw [e]
  apply List.ext_getElem?
  intro j
  have hz : ∀ i : Nat, (#[Value.int .i64 0, Value.int .i64 0] : Array Value)[i % 2]! = .int .i64 0 := by
    intro i
    rcases Nat.mod_two_eq_zero_or_one i with h | h <;> simp [h]
  have e2 : spcs (List.replicate n ⟨0, 0⟩) = List.replicate (n * 2) (.int .i64 0) := by
    induction n with
    | zero => rfl
    | succ n ih =>
      rw [List.replicate_succ, show (n + 1) * 2 = n * 2 + 1 + 1 by omega, List.replicate_succ, List.replicate_succ, ← ih]
      rfl
  rw [e2]
  by_cases hj : j < n * 2
  · simp [madeCells, hj, hz]
  · simp [madeCells, hj]

/-- an element is stored -/
theorem OwnSp.set2 {w : World} {base g n cap : Nat} {xs : List Sp} (h : OwnSp w base (.slice (some ⟨g, 0, none⟩) n cap) xs) (k : Nat) (a b : Int) :
    OwnSp ((w.setCell ⟨g, k * 2, none⟩ (.int .i64 a)).setCell ⟨g, k * 2 + 1, none⟩ (.int .i64 b)) base (.slice (some ⟨g, 0, none⟩) n cap) (xs.set k ⟨a, b⟩) := by
  obtain ⟨h1, h2⟩ := h
  have hn : n = xs.length := by
    rcases h1.2 with ⟨h0, _⟩ | ⟨g', cap', cur, h0, _⟩
    · simp at h0
    · simp at h0; exact h0.2.1
  subst hn
  have s1 := (h1.stored (k * 2) (.int .i64 a)).1
  have s2 := (s1.stored (k * 2 + 1) (.int .i64 b)).1
  rw [spcs_set] at s2
  exact ⟨by rw [List.length_set]; exact s2, by rw [List.length_set]; exact h2⟩
theorem OwnSp.cells {w : World} {base g n cap : Nat} {xs : List Sp} (h : OwnSp w base (.slice (some ⟨g, 0, none⟩) n cap) xs) (k : Nat) (hk : k < xs.length) :
    ∃ x, Hid (xs[k]? = some x) ∧ w.cell? ⟨g, k * 2, none⟩ = some (.int .i64 x.lo) ∧ w.cell? ⟨g, k * 2 + 1, none⟩ = some (.int .i64 x.hi) ∧ w.frozen? ⟨g, k * 2, none⟩ = false ∧ w.frozen? ⟨g, k * 2 + 1, none⟩ = false := by
  obtain ⟨h1, h2⟩ := h
  have hn : n = xs.length := by
    rcases h1.2 with ⟨h0, _⟩ | ⟨g', cap', cur, h0, _⟩
    · simp at h0
    · simp at h0; exact h0.2.1
  subst hn
  have hg := spcs_get xs k hk
  have e1 : xs.getD k default = xs[k] := by simp [List.getD_eq_getElem?_getD, List.getElem?_eq_getElem hk]
  rw [e1] at hg
  exact ⟨xs[k], List.getElem?_eq_getElem hk, (h1.cellAt _ (by omega)).trans hg.1, (h1.cellAt _ (by omega)).trans hg.2, h1.frozenAt _, h1.frozenAt _⟩

theorem take_rep_set {α : Type} (xs : List α) (z x : α) (k : Nat) (hk : k < xs.length) (hx : xs[k]? = some x) :
    (xs.take k ++ List.replicate (xs.length - k) z).set k x = xs.take (k + 1) ++ List.replicate (xs.length - (k + 1)) z := by
  have e : xs.length - k = (xs.length - (k + 1)) + 1 := by omega
  have h1 : (xs.take k).length = k := by rw [List.length_take]; omega
  rw [e, List.replicate_succ, List.set_append, if_neg (by omega), h1, Nat.sub_self, List.set_cons_zero, List.take_add_one, hx]
  simp
theorem take_rep_length {α : Type} (xs : List α) (z : α) (k : Nat) (hk : k ≤ xs.length) : (xs.take k ++ List.replicate (xs.length - k) z).length = xs.length := by
  rw [List.length_append, List.length_take, List.length_replicate]; omega
theorem new_cells (w : World) (cs : List Value) (t : TypeId) : ∀ j u, cs[j]? = some u → (w.alloc (.cells cs.toArray t)).cell? ((⟨w.heap.size, 0, none⟩ : Addr).add j) = some u := by
  intro j u hj
  have e0 : (⟨w.heap.size, 0, none⟩ : Addr).add j = ⟨w.heap.size, j, none⟩ := by unfold Addr.add; split <;> simp_all
  rw [e0, cell_of_row (w.alloc (.cells cs.toArray t)) w.heap.size j cs.toArray t (0, 0) (heap_alloc_new w _)]
  simpa using hj
theorem own_base {w : World} {base n size : Nat} {e : TypeId} {v : Value} {cs : List Value} (h : w.ownsRow base e size v n cs) : ∀ k, v.ownBlock = some k → base ≤ k ∧ k < w.heap.size := h.lt
theorem OwnSp.snoc {w : World} {base : Nat} {v : Value} {xs : List Sp} {a b : Int} (h : w.ownsRow base TSp 2 v (xs.length + 1) (spcs xs ++ [.int .i64 a, .int .i64 b])) : OwnSp w base v (xs ++ [⟨a, b⟩]) := by
  have e : spcs (xs ++ [⟨a, b⟩]) = spcs xs ++ [.int .i64 a, .int .i64 b] := by rw [spcs_append]; rfl
  have hl : (xs ++ [(⟨a, b⟩ : Sp)]).length = xs.length + 1 := by simp
  refine ⟨by rw [hl, e]; exact h, ?_⟩
  rw [hl]
  rcases h.2 with ⟨_, h0⟩ | ⟨g, cap, cur, _, _, _, hnc, hcm, _⟩
  · omega
  · unfold maxLen at hcm; unfold maxN; omega
theorem two_one (a b : Int) : ∀ u ∈ [Value.int .i64 a, .int .i64 b], u.oneCell' = true := by
  intro u hu
  simp at hu
  rcases hu with rfl | rfl <;> rfl
theorem spcs_one (xs : List Sp) : ∀ u ∈ spcs xs, u.oneCell' = true := by
  intro u hu
  obtain ⟨x, _, hx⟩ := List.mem_flatMap.1 hu
  exact two_one x.lo x.hi u hx
theorem spcs_set_hi (xs : List Sp) (k : Nat) (x : Sp) (b : Int) (hx : xs[k]? = some x) : (spcs xs).set (k * 2 + 1) (.int .i64 b) = spcs (xs.set k ⟨x.lo, b⟩) := by
  have hk := (List.getElem?_eq_some_iff.1 hx).1
  have hg := (spcs_get xs k hk).1
  have e1 : xs.getD k default = x := by simp [List.getD_eq_getElem?_getD, hx]
  rw [e1] at hg
  rw [← spcs_set xs k x.lo b]
  congr 1
  apply List.ext_getElem?
  intro j
  rw [List.getElem?_set]
  split
  · rename_i e; subst e
    rw [hg]
    rw [if_pos (List.getElem?_eq_some_iff.1 hg).1]
  · rfl
theorem OwnSp.setHi {w : World} {base g n cap : Nat} {xs : List Sp} (h : OwnSp w base (.slice (some ⟨g, 0, none⟩) n cap) xs) (k : Nat) (x : Sp) (hx : xs[k]? = some x) (b : Int) :
    OwnSp (w.setCell ⟨g, k * 2 + 1, none⟩ (.int .i64 b)) base (.slice (some ⟨g, 0, none⟩) n cap) (xs.set k ⟨x.lo, b⟩) := by
  obtain ⟨h1, h2⟩ := h
  have hn : n = xs.length := by
    rcases h1.2 with ⟨h0, _⟩ | ⟨g', cap', cur, h0, _⟩
    · simp at h0
    · simp at h0; exact h0.2.1
  subst hn
  have s1 := (h1.stored (k * 2 + 1) (.int .i64 b)).1
  rw [spcs_set_hi xs k x b hx] at s1
  exact ⟨by rw [List.length_set]; exact s1, by rw [List.length_set]; exact h2⟩

end Go.Proofs.YtlchipjckgaclaaDoor
