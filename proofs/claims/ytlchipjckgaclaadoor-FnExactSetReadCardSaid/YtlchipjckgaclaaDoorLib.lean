/- What is read in memory: rows of cells, spans, trees; how it stays where new memory is made. -/
import Derived.Test.YtlchipjckgaclaaDoorProg
import Derived.Below
import Derived.Deep.Draws
import Derived.Deep.AppendLies
import Derived.OwnWalk
import Derived.Laws.MakeOwn
import Derived.Laws.OwnMore
import Derived.Deep.OwnRows
import Derived.Tactics
import Derived.Laws.Slices
import Derived.WalkKit
import Derived.KernelRfl
import Derived.RowKit3
import Derived.Deep.LoopGhost
import Derived.Deep.QuietTactic
import Derived.BigQuiet
import Derived.WideLaws
import Derived.Deep.DeepCutAuto
import Derived.Deep.CutBlock
import Derived.Deep.RegionHeld3
import Derived.Laws.Rows
import Derived.Lib.Hide
import Derived.StillTailTactics
import Derived.Test.YtlchipjckgaclaaDoorSets
namespace Go.Proofs.YtlchipjckgaclaaDoor
set_option linter.unusedSimpArgs false
set_option linter.unusedVariables false
set_option maxRecDepth 100000
open Go.RowKit

abbrev maxN : Nat := 9223372036854775807

theorem ret_bool {a b : Bool} (h : a = b) : Ending.returned (.bool a) = Ending.returned (.bool b) := by rw [h]
theorem ret_int {k : IntKind} {a b : Int} (h : a = b) : Ending.returned (.int k a) = Ending.returned (.int k b) := by rw [h]
def Drawn (w w' : World) : Prop := ∃ n, w' = w.drewN n
theorem Drawn.refl (w : World) : Drawn w w := ⟨0, rfl⟩
theorem Drawn.below {w w' : World} (h : Drawn w w') : Below w.heap.size w w' := by
  obtain ⟨n, rfl⟩ := h
  exact ⟨rfl, rfl, rfl, Nat.le_refl _, fun _ _ => rfl⟩

theorem drewN_drewN (w : World) (m n : Nat) : ∃ k, (w.drewN m).drewN n = w.drewN k := ⟨m + n, by simp only [World.drewN]; congr 1; omega⟩
theorem Drawn.step {w w' : World} (h : Drawn w w') (n : Nat) : Drawn w (w'.drewN n) := by
  obtain ⟨m, rfl⟩ := h
  exact drewN_drewN w m n
theorem Drawn.trans {w w1 w2 : World} (h : Drawn w w1) (k : Drawn w1 w2) : Drawn w w2 := by
  obtain ⟨m, rfl⟩ := h
  obtain ⟨n, rfl⟩ := k
  exact drewN_drewN w m n
theorem drewN_drew (w : World) (m : Nat) : ∃ k, (w.drewN m).drew = w.drewN k := ⟨m + 1, rfl⟩
/-- the cells cs lie at a -/
def CellsAt (w : World) (a : Addr) (cs : List Value) : Prop := ∀ j u, cs[j]? = some u → w.cell? (a.add j) = some u
theorem CellsAt.below {w w' : World} {a : Addr} {cs : List Value} (h : CellsAt w a cs) (hb : Below w.heap.size w w') : CellsAt w' a cs :=
  fun j u hj => (hb.cell (World.block_lt_of_cell? w _ (h j u hj))).trans (h j u hj)
theorem add_block (a : Addr) (j : Nat) : (a.add j).block = a.block := by unfold Addr.add; split <;> rfl
theorem CellsAt.keep {w w' : World} {a : Addr} {cs : List Value} (h : CellsAt w a cs) (hk : a.block < w.heap.size → w'.heap[a.block]? = w.heap[a.block]?) : CellsAt w' a cs := by
  intro j u hj
  have h0 := h j u hj
  have hlt := World.block_lt_of_cell? w _ h0
  rw [add_block] at hlt
  rw [← h0]
  exact World.cell?_of_block (w := w) (by rw [add_block]; exact hk hlt)
theorem add_field (ad : Addr) (m j : Nat) (hj : 0 < j) : ad.add (m + j) = ⟨(ad.add m).block, (ad.add m).off + j, none⟩ := by
  unfold Addr.add
  by_cases hm : m = 0 <;> simp [hm] <;> omega

/-- a row of cells that is read: where it has cells, it has an address, in a block from lo on -/
def Row (w : World) (lo : Nat) (A : Option Addr) (cs : List Value) : Prop := cs = [] ∨ ∃ a, A = some a ∧ lo ≤ a.block ∧ CellsAt w a cs
theorem Row.below {w w' : World} {lo : Nat} {A : Option Addr} {cs : List Value} (h : Row w lo A cs) (hb : Below w.heap.size w w') : Row w' lo A cs :=
  h.imp id fun ⟨a, e, hl, hc⟩ => ⟨a, e, hl, hc.below hb⟩
theorem Row.keep {w w' : World} {lo : Nat} {A : Option Addr} {cs : List Value} (h : Row w lo A cs) (hk : ∀ k, lo ≤ k → k < w.heap.size → w'.heap[k]? = w.heap[k]?) : Row w' lo A cs :=
  h.imp id fun ⟨a, e, hl, hc⟩ => ⟨a, e, hl, hc.keep (hk _ hl)⟩
theorem Row.lower {w : World} {lo lo' : Nat} {A : Option Addr} {cs : List Value} (h : Row w lo A cs) (hl : lo' ≤ lo) : Row w lo' A cs :=
  h.imp id fun ⟨a, e, h1, hc⟩ => ⟨a, e, Nat.le_trans hl h1, hc⟩

/-! ### spans -/
def spc (x : Sp) : List Value := [.int .i64 x.lo, .int .i64 x.hi]
def spcs (xs : List Sp) : List Value := xs.flatMap spc
theorem spcs_length (xs : List Sp) : (spcs xs).length = xs.length * 2 := by
  induction xs with
  | nil => rfl
  | cons x xs ih => simp only [spcs, List.flatMap_cons, List.length_append, List.length_cons] at ih ⊢; rw [ih]; simp [spc]; omega
theorem spcs_get (xs : List Sp) : ∀ k, k < xs.length → (spcs xs)[k * 2]? = some (.int .i64 (xs.getD k default).lo) ∧ (spcs xs)[k * 2 + 1]? = some (.int .i64 (xs.getD k default).hi) := by
  induction xs with
  | nil => intro k hk; simp at hk
  | cons x xs ih =>
    intro k hk
    cases k with
    | zero => simp [spcs, spc]
    | succ k =>
      have h := ih k (by simpa using hk)
      have e : spcs (x :: xs) = .int .i64 x.lo :: .int .i64 x.hi :: spcs xs := rfl
      rw [e, show (k + 1) * 2 = k * 2 + 1 + 1 by omega]
      simp only [List.getElem?_cons_succ, List.getD_cons_succ]
      exact h
structure Sps (w : World) (lo : Nat) (A : Option Addr) (c : Nat) (xs : List Sp) : Prop where
  row : Row w lo A (spcs xs)
  cap : xs.length ≤ c
  len : xs.length ≤ maxN
theorem Sps.below {w w' : World} {lo : Nat} {A : Option Addr} {c : Nat} {xs : List Sp} (h : Sps w lo A c xs) (hb : Below w.heap.size w w') : Sps w' lo A c xs := ⟨h.row.below hb, h.cap, h.len⟩
theorem Sps.at_ {w : World} {lo : Nat} {A : Option Addr} {c : Nat} {xs : List Sp} (h : Sps w lo A c xs) (k : Nat) (hk : k < xs.length) :
    ∃ a x, A = some a ∧ Hid (xs[k]? = some x) ∧ Hid (xs.drop k = x :: xs.drop (k + 1)) ∧ w.cell? (a.add (k * 2)) = some (.int .i64 x.lo) ∧ w.cell? ⟨(a.add (k * 2)).block, (a.add (k * 2)).off + 1, none⟩ = some (.int .i64 x.hi) := by
  rcases h.row with h0 | ⟨a, e, _, hc⟩
  · have := congrArg List.length h0
    rw [spcs_length, List.length_nil] at this
    omega
  · have hg := spcs_get xs k hk
    have e1 : xs.getD k default = xs[k] := by simp [List.getD_eq_getElem?_getD, List.getElem?_eq_getElem hk]
    rw [e1] at hg
    exact ⟨a, xs[k], e, List.getElem?_eq_getElem hk, List.drop_eq_getElem_cons hk, hc _ _ hg.1, by rw [← add_field _ _ 1 (by omega)]; exact hc _ _ hg.2⟩
theorem below_alloc {w W : World} (h : Below w.heap.size w W) (o : Obj) : Below w.heap.size w (W.alloc o) := h.alloc h.size o
theorem cell_alloc {w : World} {a : Addr} {v : Value} (h : w.cell? a = some v) (o : Obj) : (w.alloc o).cell? a = some v :=
  ((below_alloc (Below.refl _ w) o).cell (World.block_lt_of_cell? w _ h)).trans h
theorem below_set {w W : World} (h : Below w.heap.size w W) {p : Addr} (hp : w.heap.size ≤ p.block) (u : Value) : Below w.heap.size w (W.setCell p u) := h.setCell hp u
theorem below_drew {w W : World} (h : Below w.heap.size w W) : Below w.heap.size w W.drew := ⟨h.os, h.tape, h.output, h.size, h.block⟩
theorem below_drewN {w W : World} (h : Below w.heap.size w W) (n : Nat) : Below w.heap.size w (W.drewN n) := ⟨h.os, h.tape, h.output, h.size, h.block⟩
theorem below_then {w w1 w2 : World} (h : Below w.heap.size w w1) (k : Below w1.heap.size w1 w2) : Below w.heap.size w w2 := h.trans (k.mono h.size)

end Go.Proofs.YtlchipjckgaclaaDoor
