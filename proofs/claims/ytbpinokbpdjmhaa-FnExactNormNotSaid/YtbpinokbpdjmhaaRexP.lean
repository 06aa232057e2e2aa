/- Trees in memory, whose blocks are known to be among some. -/
import Derived.Test.YtbpinokbpdjmhaaOwnT
namespace Go.Proofs.Ytbpinokbpdjmhaa
set_option linter.unusedSimpArgs false
set_option linter.unusedVariables false
open Go.RowKit

inductive RexP (w : World) (p : Nat → Prop) : Rex → Value → Value → Value → Prop
  | mk (k : Int) (s : List Sp) (ks : List Rex) (A K : Option Addr) (c ck : Nat) (V0 V1 V2 : Nat → Value) (hs : Sps w 0 A c s) (ps : ∀ a, A = some a → s ≠ [] → p a.block) (hn : ks.length ≤ ck) (hl : ks.length ≤ maxN)
      (hc : ∀ i, i < ks.length → KCell w 0 K i (V0 i) (V1 i) (V2 i)) (pk : ∀ a, K = some a → ks ≠ [] → p a.block) (hr : ∀ i r, ks[i]? = some r → RexP w p r (V0 i) (V1 i) (V2 i)) : RexP w p (.mk k s ks) (.int .i64 k) (.slice A s.length c) (.slice K ks.length ck)

structure SpsP (w : World) (p : Nat → Prop) (A : Option Addr) (c : Nat) (s : List Sp) : Prop where
  sps : Sps w 0 A c s
  ok : ∀ a, A = some a → s ≠ [] → p a.block
structure KidsP (w : World) (p : Nat → Prop) (K : Option Addr) (ck : Nat) (ks : List Rex) : Prop where
  ex : ∃ V0 V1 V2 : Nat → Value, (∀ i, i < ks.length → KCell w 0 K i (V0 i) (V1 i) (V2 i)) ∧ ∀ i r, ks[i]? = some r → RexP w p r (V0 i) (V1 i) (V2 i)
  cap : ks.length ≤ ck
  len : ks.length ≤ maxN
  ok : ∀ a, K = some a → ks ≠ [] → p a.block
theorem RexP.parts {w : World} {p : Nat → Prop} {r : Rex} {v0 v1 v2 : Value} (h : RexP w p r v0 v1 v2) :
    ∃ A c K ck, v0 = .int .i64 r.kind ∧ v1 = .slice A r.set.length c ∧ v2 = .slice K r.kids.length ck ∧ SpsP w p A c r.set ∧ KidsP w p K ck r.kids := by
  cases h with
  | mk k s ks A K c ck V0 V1 V2 hs ps hn hl hc pk hr => exact ⟨A, c, K, ck, rfl, rfl, rfl, ⟨hs, ps⟩, ⟨V0, V1, V2, hc, hr⟩, hn, hl, pk⟩
theorem RexP.of {w : World} {p : Nat → Prop} {k : Int} {s : List Sp} {ks : List Rex} {A K : Option Addr} {c ck : Nat} (hs : SpsP w p A c s) (hk : KidsP w p K ck ks) : RexP w p (.mk k s ks) (.int .i64 k) (.slice A s.length c) (.slice K ks.length ck) := by
  obtain ⟨⟨V0, V1, V2, hc, hr⟩, h1, h2, h3⟩ := hk
  exact .mk k s ks A K c ck V0 V1 V2 hs.sps hs.ok h1 h2 hc h3 hr
theorem RexP.rexv {w : World} {p : Nat → Prop} {r : Rex} {v0 v1 v2 : Value} (h : RexP w p r v0 v1 v2) : RexV w 0 r v0 v1 v2 := by
  induction h with
  | mk k s ks A K c ck V0 V1 V2 hs ps hn hl hc pk hr ih => exact .mk k s ks A K c ck V0 V1 V2 hs hn hl hc ih
theorem KidsP.kids {w : World} {p : Nat → Prop} {K : Option Addr} {ck : Nat} {ks : List Rex} (h : KidsP w p K ck ks) : Kids w 0 K ck ks := by
  obtain ⟨⟨V0, V1, V2, hc, hr⟩, h1, h2, h3⟩ := h
  exact ⟨⟨V0, V1, V2, hc, fun i r e => (hr i r e).rexv⟩, h1, h2⟩
theorem Sps.blk {w : World} {lo : Nat} {A : Option Addr} {c : Nat} {s : List Sp} (h : Sps w lo A c s) : ∀ a, A = some a → s ≠ [] → a.block < w.heap.size := by
  intro a ha hs
  have hl : 0 < s.length := List.length_pos_iff.2 hs
  obtain ⟨a', x, e, _, _, c0, _⟩ := h.at_ 0 hl
  rw [ha] at e
  injection e with e
  subst e
  have := World.block_lt_of_cell? w _ c0
  rwa [add_block'] at this
theorem Kids.blk {w : World} {lo : Nat} {K : Option Addr} {ck : Nat} {ks : List Rex} (h : Kids w lo K ck ks) : ∀ a, K = some a → ks ≠ [] → a.block < w.heap.size := by
  intro a ha hs
  have hl : 0 < ks.length := List.length_pos_iff.2 hs
  obtain ⟨a', x, _, _, e, _, _, _, c0, _⟩ := h.at_ 0 hl
  rw [ha] at e
  injection e with e
  subst e
  have := World.block_lt_of_cell? w _ c0
  rwa [add_block'] at this
theorem RexV.rexp {w : World} {lo : Nat} {r : Rex} {v0 v1 v2 : Value} (h : RexV w lo r v0 v1 v2) : RexP w (fun b => b < w.heap.size) r v0 v1 v2 := by
  induction h with
  | mk k s ks A K c ck V0 V1 V2 hs hn hl hc hr ih =>
    have hk : Kids w lo K ck ks := ⟨⟨V0, V1, V2, hc, hr⟩, hn, hl⟩
    exact .mk k s ks A K c ck V0 V1 V2 (hs.lower (Nat.zero_le _)) hs.blk hn hl (fun i hi => (hc i hi).lower (Nat.zero_le _)) hk.blk ih
theorem Sps.keepAt {w w' : World} {A : Option Addr} {c : Nat} {s : List Sp} (h : Sps w 0 A c s) (hk : ∀ a, A = some a → s ≠ [] → w'.heap[a.block]? = w.heap[a.block]?) : Sps w' 0 A c s := by
  refine ⟨?_, h.cap, h.len⟩
  rcases h.row with h0 | ⟨a, e, hl, hc⟩
  · exact .inl h0
  · by_cases hs : s = []
    · left; rw [hs]; rfl
    · exact .inr ⟨a, e, hl, hc.keep fun _ => hk a e hs⟩
theorem KCell.keepAt {w w' : World} {K : Option Addr} {i : Nat} {u0 u1 u2 : Value} (h : KCell w 0 K i u0 u1 u2) (hk : ∀ a, K = some a → w'.heap[a.block]? = w.heap[a.block]?) : KCell w' 0 K i u0 u1 u2 := by
  obtain ⟨a, e, hl, h0, h1, h2⟩ := h.ex
  have hh := hk a e
  refine ⟨a, e, hl, ?_, ?_, ?_⟩
  · rw [World.cell?_of_block (w := w) (by rw [add_block']; exact hh)]; exact h0
  · rw [World.cell?_of_block (w := w) (by show w'.heap[(a.add (i * 3)).block]? = _; rw [add_block']; exact hh)]; exact h1
  · rw [World.cell?_of_block (w := w) (by show w'.heap[(a.add (i * 3)).block]? = _; rw [add_block']; exact hh)]; exact h2
theorem RexP.keep {w w' : World} {p : Nat → Prop} {r : Rex} {v0 v1 v2 : Value} (h : RexP w p r v0 v1 v2) (hk : ∀ b, p b → b < w.heap.size → w'.heap[b]? = w.heap[b]?) : RexP w' p r v0 v1 v2 := by
  induction h with
  | mk k s ks A K c ck V0 V1 V2 hs ps hn hl hc pk hr ih =>
    have hkk : Kids w 0 K ck ks := ⟨⟨V0, V1, V2, hc, fun i r e => (hr i r e).rexv⟩, hn, hl⟩
    refine .mk k s ks A K c ck V0 V1 V2 (hs.keepAt fun a e h => hk _ (ps a e h) (hs.blk a e h)) ps hn hl (fun i hi => (hc i hi).keepAt fun a e => ?_) pk ih
    have hne : ks ≠ [] := by rintro rfl; simp at hi
    exact hk _ (pk a e hne) (hkk.blk a e hne)
theorem RexP.mono {w : World} {p p' : Nat → Prop} {r : Rex} {v0 v1 v2 : Value} (h : RexP w p r v0 v1 v2) (hp : ∀ b, p b → p' b) : RexP w p' r v0 v1 v2 := by
  induction h with
  | mk k s ks A K c ck V0 V1 V2 hs ps hn hl hc pk hr ih => exact .mk k s ks A K c ck V0 V1 V2 hs (fun a e h => hp _ (ps a e h)) hn hl hc (fun a e h => hp _ (pk a e h)) ih
theorem RexP.under {w w' : World} {p : Nat → Prop} {r : Rex} {v0 v1 v2 : Value} (h : RexP w p r v0 v1 v2) (hb : Below w.heap.size w w') : RexP w' p r v0 v1 v2 := h.keep fun b _ hlt => hb.block b hlt
theorem RexP.lt {w : World} {p : Nat → Prop} {r : Rex} {v0 v1 v2 : Value} (h : RexP w p r v0 v1 v2) : RexP w (fun b => p b ∧ b < w.heap.size) r v0 v1 v2 := by
  induction h with
  | mk k s ks A K c ck V0 V1 V2 hs ps hn hl hc pk hr ih =>
    have hkk : Kids w 0 K ck ks := ⟨⟨V0, V1, V2, hc, fun i r e => (hr i r e).rexv⟩, hn, hl⟩
    exact .mk k s ks A K c ck V0 V1 V2 hs (fun a e h => ⟨ps a e h, hs.blk a e h⟩) hn hl hc (fun a e h => ⟨pk a e h, hkk.blk a e h⟩) ih
theorem RexV.rexp_lo {w : World} {lo : Nat} {r : Rex} {v0 v1 v2 : Value} (h : RexV w lo r v0 v1 v2) : RexP w (fun b => lo ≤ b) r v0 v1 v2 := by
  induction h with
  | mk k s ks A K c ck V0 V1 V2 hs hn hl hc hr ih =>
    refine .mk k s ks A K c ck V0 V1 V2 (hs.lower (Nat.zero_le _)) (fun a e hne => ?_) hn hl (fun i hi => (hc i hi).lower (Nat.zero_le _)) (fun a e hne => ?_) ih
    · rcases hs.row with h0 | ⟨a', e', hl', _⟩
      · have := congrArg List.length h0
        rw [spcs_length, List.length_nil] at this
        exact absurd (List.length_eq_zero_iff.1 (by omega)) hne
      · rw [e] at e'; injection e' with e'; subst e'; exact hl'
    · obtain ⟨a', e', hl', _⟩ := (hc 0 (List.length_pos_iff.2 hne)).ex
      rw [e] at e'; injection e' with e'; subst e'; exact hl'
theorem OwnT.rexp {w : World} {fp : List Nat} {r : Rex} {v1 v2 : Value} (h : OwnT w fp r v1 v2) {lo : Nat} (hf : ∀ b, b ∈ fp → lo ≤ b) : RexP w (fun b => lo ≤ b) r (.int .i64 r.kind) v1 v2 := (h.rexv lo hf).rexp_lo
theorem KidsP.at_ {w : World} {p : Nat → Prop} {K : Option Addr} {ck : Nat} {ks : List Rex} (h : KidsP w p K ck ks) (i : Nat) (hi : i < ks.length) :
    ∃ a r v1 v2, K = some a ∧ Hid (ks[i]? = some r) ∧ Hid (ks.drop i = r :: ks.drop (i + 1)) ∧ Hid (RexP w p r (.int .i64 r.kind) v1 v2) ∧
      w.cell? (a.add (i * 3)) = some (.int .i64 r.kind) ∧ w.cell? ⟨(a.add (i * 3)).block, (a.add (i * 3)).off + 1, none⟩ = some v1 ∧ w.cell? ⟨(a.add (i * 3)).block, (a.add (i * 3)).off + 2, none⟩ = some v2 := by
  obtain ⟨⟨V0, V1, V2, hc, hr⟩, h1, h2, h3⟩ := h
  obtain ⟨a, e, _, c0, c1, c2⟩ := (hc i hi).ex
  have hg : ks[i]? = some ks[i] := by simp [hi]
  have hv := hr i _ hg
  have e0 : V0 i = .int .i64 ks[i].kind := by
    obtain ⟨_, _, _, _, e, _⟩ := hv.parts
    exact e
  rw [e0] at hv c0
  exact ⟨a, ks[i], V1 i, V2 i, e, hg, List.drop_eq_getElem_cons hi, hv, c0, c1, c2⟩
theorem KidsP.one {w : World} {p : Nat → Prop} {K : Option Addr} {ck : Nat} {x : Rex} (h : KidsP w p K ck [x]) :
    ∃ a A c K' ck', K = some a ∧ RexP w p x (.int .i64 x.kind) (.slice A x.set.length c) (.slice K' x.kids.length ck') ∧ w.cell? a = some (.int .i64 x.kind) ∧ w.cell? ⟨a.block, a.off + 1, none⟩ = some (.slice A x.set.length c) ∧ w.cell? ⟨a.block, a.off + 2, none⟩ = some (.slice K' x.kids.length ck') := by
  obtain ⟨a, r, v1, v2, e, HX, _, HV, c0, c1, c2⟩ := h.at_ 0 (by simp)
  obtain rfl : x = r := by simpa using HX.out
  rw [show a.add (0 * 3) = a by simp [Addr.add]] at c0 c1 c2
  obtain ⟨A, c, K', ck', _, rfl, rfl, _⟩ := HV.out.parts
  exact ⟨a, A, c, K', ck', e, HV.out, c0, c1, c2⟩
theorem KidsP.two {w : World} {p : Nat → Prop} {K : Option Addr} {ck : Nat} {x y : Rex} (h : KidsP w p K ck [x, y]) :
    ∃ a A c K' ck' B d L' dk', K = some a ∧ RexP w p x (.int .i64 x.kind) (.slice A x.set.length c) (.slice K' x.kids.length ck') ∧ w.cell? a = some (.int .i64 x.kind) ∧ w.cell? ⟨a.block, a.off + 1, none⟩ = some (.slice A x.set.length c) ∧ w.cell? ⟨a.block, a.off + 2, none⟩ = some (.slice K' x.kids.length ck') ∧
      RexP w p y (.int .i64 y.kind) (.slice B y.set.length d) (.slice L' y.kids.length dk') ∧ w.cell? ⟨a.block, a.off + 3, none⟩ = some (.int .i64 y.kind) ∧ w.cell? ⟨a.block, a.off + 3 + 1, none⟩ = some (.slice B y.set.length d) ∧ w.cell? ⟨a.block, a.off + 3 + 2, none⟩ = some (.slice L' y.kids.length dk') := by
  obtain ⟨a, r, v1, v2, e, HX, _, HV, c0, c1, c2⟩ := h.at_ 0 (by simp)
  obtain ⟨a', r', u1, u2, e', HX', _, HV', c0', c1', c2'⟩ := h.at_ 1 (by simp)
  obtain rfl : x = r := by simpa using HX.out
  obtain rfl : y = r' := by simpa using HX'.out
  obtain rfl : a = a' := by rw [e] at e'; exact Option.some.inj e'
  rw [show a.add (0 * 3) = a by simp [Addr.add]] at c0 c1 c2
  rw [show a.add (1 * 3) = ⟨a.block, a.off + 3, none⟩ by simp [Addr.add]] at c0' c1' c2'
  obtain ⟨A, c, K', ck', _, rfl, rfl, _⟩ := HV.out.parts
  obtain ⟨B, d, L', dk', _, rfl, rfl, _⟩ := HV'.out.parts
  exact ⟨a, A, c, K', ck', B, d, L', dk', e, HV.out, c0, c1, c2, HV'.out, c0', c1', c2'⟩
theorem RexP.leaf {w : World} {p : Nat → Prop} (k : Int) : RexP w p (.mk k [] []) (.int .i64 k) nilS nilS :=
  RexP.of (A := none) (K := none) (c := 0) (ck := 0) ⟨⟨.inl rfl, Nat.le_refl _, by simp⟩, fun a e => by cases e⟩ ⟨⟨fun _ => undef, fun _ => undef, fun _ => undef, fun i h => by simp at h, fun i r h => by simp at h⟩, Nat.le_refl _, by simp, fun a e => by cases e⟩
/-- a row of one, of two, just made -/
theorem KidsP.mk1 {w : World} {p : Nat → Prop} {g : Nat} {x : Rex} {u1 u2 : Value} (hb : Blk w g #[.int .i64 x.kind, u1, u2] TRx) (hp : p g) (h : RexP w p x (.int .i64 x.kind) u1 u2) : KidsP w p (some ⟨g, 0, none⟩) 1 [x] := by
  refine ⟨⟨fun _ => .int .i64 x.kind, fun _ => u1, fun _ => u2, fun i hi => ?_, fun i r hi => ?_⟩, Nat.le_refl _, by simp [maxN], fun a e _ => by injection e with e; subst e; exact hp⟩
  · obtain rfl : i = 0 := by simpa using hi
    exact ⟨⟨g, 0, none⟩, rfl, Nat.zero_le _, (hb.cell 0).trans rfl, (hb.cell 1).trans rfl, (hb.cell 2).trans rfl⟩
  · obtain rfl : i = 0 := by have := (List.getElem?_eq_some_iff.1 hi).1; simpa using this
    simp at hi
    subst hi
    exact h
theorem KidsP.mk2 {w : World} {p : Nat → Prop} {g : Nat} {x y : Rex} {u1 u2 v1 v2 : Value} (hb : Blk w g #[.int .i64 x.kind, u1, u2, .int .i64 y.kind, v1, v2] TRx) (hp : p g) (h : RexP w p x (.int .i64 x.kind) u1 u2) (h' : RexP w p y (.int .i64 y.kind) v1 v2) : KidsP w p (some ⟨g, 0, none⟩) 2 [x, y] := by
  refine ⟨⟨fun i => .int .i64 (if i = 0 then x.kind else y.kind), fun i => if i = 0 then u1 else v1, fun i => if i = 0 then u2 else v2, fun i hi => ?_, fun i r hi => ?_⟩, Nat.le_refl _, by simp [maxN], fun a e _ => by injection e with e; subst e; exact hp⟩
  · match i, (show i < 2 from hi) with
    | 0, _ => exact ⟨⟨g, 0, none⟩, rfl, Nat.zero_le _, (hb.cell 0).trans rfl, (hb.cell 1).trans rfl, (hb.cell 2).trans rfl⟩
    | 1, _ => exact ⟨⟨g, 0, none⟩, rfl, Nat.zero_le _, (hb.cell 3).trans rfl, (hb.cell 4).trans rfl, (hb.cell 5).trans rfl⟩
  · match i, (show i < 2 from (List.getElem?_eq_some_iff.1 hi).1) with
    | 0, _ => simp at hi; subst hi; exact h
    | 1, _ => simp at hi; subst hi; exact h'

/-- what a function that gives a tree leaves -/
def RexPost (p : Nat → Prop) (t : Rex) (w : World) (e : Ending) (w' : World) : Prop :=
  ∃ A c K ck, e = .returned (.agg #[.int .i64 t.kind, .slice A t.set.length c, .slice K t.kids.length ck]) ∧ RexP w' (fun b => p b ∨ w.heap.size ≤ b) t (.int .i64 t.kind) (.slice A t.set.length c) (.slice K t.kids.length ck) ∧ Below w.heap.size w w'
theorem rex_fin {p : Nat → Prop} {t : Rex} {w wr w5 : World} {R : Nat} {A K : Option Addr} {n m c ck : Nat} (hn : n = t.set.length) (hm : m = t.kids.length) (hp : ∀ b, p b → b < w.heap.size) (hv : RexP wr (fun b => b ≠ R ∧ (p b ∨ w.heap.size ≤ b)) t (.int .i64 t.kind) (.slice A n c) (.slice K m ck)) (hb : Below w.heap.size w wr) (hg : wr.grownBy w5 (some R)) (hR : w.heap.size ≤ R) :
    RexPost p t w (.returned (.agg #[.int .i64 t.kind, .slice A n c, .slice K m ck])) w5 := by
  subst hn hm
  refine ⟨A, c, K, ck, rfl, ?_, hb.grown hg hb.size fun q hq => by injection hq with hq; omega⟩
  exact (hv.keep fun b ⟨hne, _⟩ hlt => hg.block b hlt fun e => by injection e with e; exact hne e).mono fun b h => h.2

end Go.Proofs.Ytbpinokbpdjmhaa
