/- Trees in memory. -/
import Derived.Test.YtlchipjckgaclaaDoorRex
import Derived.Test.YtlchipjckgaclaaDoorLib
namespace Go.Proofs.YtlchipjckgaclaaDoor
set_option linter.unusedSimpArgs false
set_option linter.unusedVariables false
set_option maxRecDepth 100000
open Go.RowKit

/-- the three cells of an element -/
structure KCell (w : World) (lo : Nat) (K : Option Addr) (i : Nat) (u0 u1 u2 : Value) : Prop where
  ex : ∃ a, K = some a ∧ lo ≤ a.block ∧ w.cell? (a.add (i * 3)) = some u0 ∧ w.cell? ⟨(a.add (i * 3)).block, (a.add (i * 3)).off + 1, none⟩ = some u1 ∧ w.cell? ⟨(a.add (i * 3)).block, (a.add (i * 3)).off + 2, none⟩ = some u2
theorem add_block' (a : Addr) (n : Nat) : (a.add n).block = a.block := by unfold Addr.add; split <;> rfl
theorem KCell.keep {w w' : World} {lo : Nat} {K : Option Addr} {i : Nat} {u0 u1 u2 : Value} (h : KCell w lo K i u0 u1 u2) (hk : ∀ k, lo ≤ k → k < w.heap.size → w'.heap[k]? = w.heap[k]?) : KCell w' lo K i u0 u1 u2 := by
  obtain ⟨a, e, hl, h0, h1, h2⟩ := h.ex
  have hb := World.block_lt_of_cell? w _ h0
  rw [add_block'] at hb
  have hh := hk a.block hl hb
  refine ⟨a, e, hl, ?_, ?_, ?_⟩
  · rw [World.cell?_of_block (w := w) (by rw [add_block']; exact hh)]; exact h0
  · rw [World.cell?_of_block (w := w) (by show w'.heap[(a.add (i * 3)).block]? = _; rw [add_block']; exact hh)]; exact h1
  · rw [World.cell?_of_block (w := w) (by show w'.heap[(a.add (i * 3)).block]? = _; rw [add_block']; exact hh)]; exact h2
theorem KCell.lower {w : World} {lo lo' : Nat} {K : Option Addr} {i : Nat} {u0 u1 u2 : Value} (h : KCell w lo K i u0 u1 u2) (hl : lo' ≤ lo) : KCell w lo' K i u0 u1 u2 := by
  obtain ⟨a, e, h1, r⟩ := h.ex
  exact ⟨a, e, Nat.le_trans hl h1, r⟩

theorem Sps.keep {w w' : World} {lo : Nat} {A : Option Addr} {c : Nat} {xs : List Sp} (h : Sps w lo A c xs) (hk : ∀ k, lo ≤ k → k < w.heap.size → w'.heap[k]? = w.heap[k]?) : Sps w' lo A c xs := ⟨h.row.keep hk, h.cap, h.len⟩
theorem Sps.lower {w : World} {lo lo' : Nat} {A : Option Addr} {c : Nat} {xs : List Sp} (h : Sps w lo A c xs) (hl : lo' ≤ lo) : Sps w lo' A c xs := ⟨h.row.lower hl, h.cap, h.len⟩

inductive RexV (w : World) (lo : Nat) : Rex → Value → Value → Value → Prop
  | mk (k : Int) (s : List Sp) (ks : List Rex) (A K : Option Addr) (c ck : Nat) (V0 V1 V2 : Nat → Value) (hs : Sps w lo A c s) (hn : ks.length ≤ ck) (hl : ks.length ≤ maxN)
      (hc : ∀ i, i < ks.length → KCell w lo K i (V0 i) (V1 i) (V2 i)) (hr : ∀ i r, ks[i]? = some r → RexV w lo r (V0 i) (V1 i) (V2 i)) : RexV w lo (.mk k s ks) (.int .i64 k) (.slice A s.length c) (.slice K ks.length ck)

theorem RexV.keep {w w' : World} {lo : Nat} {r : Rex} {v0 v1 v2 : Value} (h : RexV w lo r v0 v1 v2) (hk : ∀ k, lo ≤ k → k < w.heap.size → w'.heap[k]? = w.heap[k]?) : RexV w' lo r v0 v1 v2 := by
  induction h with
  | mk k s ks A K c ck V0 V1 V2 hs hn hl hc hr ih => exact .mk k s ks A K c ck V0 V1 V2 (hs.keep hk) hn hl (fun i hi => (hc i hi).keep hk) ih
theorem RexV.under {w w' : World} {lo : Nat} {r : Rex} {v0 v1 v2 : Value} (h : RexV w lo r v0 v1 v2) (hb : Below w.heap.size w w') : RexV w' lo r v0 v1 v2 := h.keep fun k _ hk => hb.block k hk
theorem RexV.lower {w : World} {lo lo' : Nat} {r : Rex} {v0 v1 v2 : Value} (h : RexV w lo r v0 v1 v2) (hl : lo' ≤ lo) : RexV w lo' r v0 v1 v2 := by
  induction h with
  | mk k s ks A K c ck V0 V1 V2 hs hn hl' hc hr ih => exact .mk k s ks A K c ck V0 V1 V2 (hs.lower hl) hn hl' (fun i hi => (hc i hi).lower hl) ih

/-- a row of trees -/
structure Kids (w : World) (lo : Nat) (K : Option Addr) (ck : Nat) (ks : List Rex) : Prop where
  ex : ∃ V0 V1 V2 : Nat → Value, (∀ i, i < ks.length → KCell w lo K i (V0 i) (V1 i) (V2 i)) ∧ ∀ i r, ks[i]? = some r → RexV w lo r (V0 i) (V1 i) (V2 i)
  cap : ks.length ≤ ck
  len : ks.length ≤ maxN
theorem Kids.keep {w w' : World} {lo : Nat} {K : Option Addr} {ck : Nat} {ks : List Rex} (h : Kids w lo K ck ks) (hk : ∀ k, lo ≤ k → k < w.heap.size → w'.heap[k]? = w.heap[k]?) : Kids w' lo K ck ks := by
  obtain ⟨⟨V0, V1, V2, hc, hr⟩, h1, h2⟩ := h
  exact ⟨⟨V0, V1, V2, fun i hi => (hc i hi).keep hk, fun i r e => (hr i r e).keep hk⟩, h1, h2⟩
theorem Kids.below {w w' : World} {lo : Nat} {K : Option Addr} {ck : Nat} {ks : List Rex} (h : Kids w lo K ck ks) (hb : Below w.heap.size w w') : Kids w' lo K ck ks := h.keep fun k _ hk => hb.block k hk
theorem Kids.lower {w : World} {lo lo' : Nat} {K : Option Addr} {ck : Nat} {ks : List Rex} (h : Kids w lo K ck ks) (hl : lo' ≤ lo) : Kids w lo' K ck ks := by
  obtain ⟨⟨V0, V1, V2, hc, hr⟩, h1, h2⟩ := h
  exact ⟨⟨V0, V1, V2, fun i hi => (hc i hi).lower hl, fun i r e => (hr i r e).lower hl⟩, h1, h2⟩
/-- a tree's parts -/
theorem RexV.parts {w : World} {lo : Nat} {r : Rex} {v0 v1 v2 : Value} (h : RexV w lo r v0 v1 v2) :
    ∃ A c K ck, v0 = .int .i64 r.kind ∧ v1 = .slice A r.set.length c ∧ v2 = .slice K r.kids.length ck ∧ Sps w lo A c r.set ∧ Kids w lo K ck r.kids := by
  cases h with
  | mk k s ks A K c ck V0 V1 V2 hs hn hl hc hr => exact ⟨A, c, K, ck, rfl, rfl, rfl, hs, ⟨⟨V0, V1, V2, hc, hr⟩, hn, hl⟩⟩
theorem RexV.of {w : World} {lo : Nat} {k : Int} {s : List Sp} {ks : List Rex} {A K : Option Addr} {c ck : Nat} (hs : Sps w lo A c s) (hk : Kids w lo K ck ks) : RexV w lo (.mk k s ks) (.int .i64 k) (.slice A s.length c) (.slice K ks.length ck) := by
  obtain ⟨⟨V0, V1, V2, hc, hr⟩, h1, h2⟩ := hk
  exact .mk k s ks A K c ck V0 V1 V2 hs h1 h2 hc hr
/-- an element of a row of trees -/
theorem Kids.at_ {w : World} {lo : Nat} {K : Option Addr} {ck : Nat} {ks : List Rex} (h : Kids w lo K ck ks) (i : Nat) (hi : i < ks.length) :
    ∃ a r v1 v2, K = some a ∧ Hid (ks[i]? = some r) ∧ Hid (ks.drop i = r :: ks.drop (i + 1)) ∧ Hid (RexV w lo r (.int .i64 r.kind) v1 v2) ∧
      w.cell? (a.add (i * 3)) = some (.int .i64 r.kind) ∧ w.cell? ⟨(a.add (i * 3)).block, (a.add (i * 3)).off + 1, none⟩ = some v1 ∧ w.cell? ⟨(a.add (i * 3)).block, (a.add (i * 3)).off + 2, none⟩ = some v2 := by
  obtain ⟨⟨V0, V1, V2, hc, hr⟩, h1, h2⟩ := h
  obtain ⟨a, e, _, c0, c1, c2⟩ := (hc i hi).ex
  have hg : ks[i]? = some ks[i] := by simp [hi]
  have hv := hr i _ hg
  have e0 : V0 i = .int .i64 ks[i].kind := by
    obtain ⟨_, _, _, _, e, _⟩ := hv.parts
    exact e
  rw [e0] at hv c0
  exact ⟨a, ks[i], V1 i, V2 i, e, hg, List.drop_eq_getElem_cons hi, hv, c0, c1, c2⟩

end Go.Proofs.YtlchipjckgaclaaDoor
